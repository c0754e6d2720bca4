/- WireSumBurst: the walk. -/
import Derived.Test.YtlenfhliflchgaaDoorLawAffine
import Derived.Lib.ConvBytes
namespace Go.Proofs.YtlenfhliflchgaaDoor
open Go.RowKit

/-- A row of bytes that a conversion made: the first of its cells are l; what lies beyond them is marked. -/
def BRow (W : World) (g : Nat) (l : List UInt8) : Prop := ∃ cs : Array Value, W.heap[g]? = some (.cells cs 5 (cs.size, cs.size + 1)) ∧ l.length ≤ cs.size ∧ ∀ j (h : j < l.length), cs[j]? = some (byteV l[j])
theorem BRow.cell {W : World} {g : Nat} {l : List UInt8} (h : BRow W g l) (j : Nat) (hj : j < l.length) : W.cell? ⟨g, j, none⟩ = some (byteV l[j]) := by
  obtain ⟨cs, hh, _, hc⟩ := h
  rw [cell_of_row W g j cs _ _ hh, hc j hj]
theorem BRow.frozen {W : World} {g : Nat} {l : List UInt8} (h : BRow W g l) (j : Nat) (hj : j < l.length) : W.frozen? ⟨g, j, none⟩ = false := by
  obtain ⟨cs, hh, hl, _⟩ := h
  simp [World.frozen?, hh]; omega
theorem BRow.set_ {W : World} {g : Nat} {l : List UInt8} (h : BRow W g l) (i : Nat) (x : UInt8) : BRow (W.setCell ⟨g, i, none⟩ (byteV x)) g (l.set i x) := by
  obtain ⟨cs, hh, hl, hc⟩ := h
  refine ⟨cs.setIfInBounds i (byteV x), ?_, by simpa using hl, fun j hj => ?_⟩
  · have : (W.setCell ⟨g, i, none⟩ (byteV x)).heap[g]? = some (.cells (cs.setIfInBounds i (byteV x)) 5 (cs.size, cs.size + 1)) := by
      simp [World.setCell, Array.getElem?_modify, hh]
    rw [this]; simp
  · have hj' : j < l.length := by simpa using hj
    have hjc : j < cs.size := by omega
    rw [Array.getElem?_setIfInBounds, List.getElem_set]
    by_cases e : i = j
    · subst e; simp [hjc]
    · rw [if_neg e, if_neg e]; exact hc j hj'
theorem BRow.drew {W : World} {g : Nat} {l : List UInt8} (h : BRow W g l) : BRow W.drew g l := h
theorem BRow.drewN {W : World} {g : Nat} {l : List UInt8} (h : BRow W g l) (k : Nat) : BRow (W.drewN k) g l := h
theorem bytesWorld_row (w : World) (s : ByteArray) : BRow (Lib.bytesWorld w 5 s) w.heap.size s.data.toList := by
  refine ⟨_, Lib.bytesWorld_at_new w _ s, ?_, fun j hj => ?_⟩
  · simp [Lib.bytesCells]
  · have hj' : j < s.size := hj
    simp [Lib.bytesCells, Array.getElem?_append, hj', byteV]
theorem bytesWorld_below (w : World) (e : TypeId) (s : ByteArray) : Below w.heap.size w (Lib.bytesWorld w e s) := by
  refine ⟨rfl, rfl, rfl, ?_, fun i hi => Lib.bytesWorld_at_old w e s i hi⟩
  rw [Lib.bytesWorld_size]; omega

theorem mod_step (B i : Nat) (h : B / 2 ^ i % 2 = 1) : B % 2 ^ (i + 1) = B % 2 ^ i ^^^ 2 ^ i := by
  have e : B % 2 ^ (i + 1) = B % 2 ^ i + 2 ^ i * (B / 2 ^ i % 2) := by rw [Nat.pow_succ, Nat.mod_mul]
  have hl : B % 2 ^ i < 2 ^ i := Nat.mod_lt _ (Nat.two_pow_pos i)
  rw [e, h, Nat.mul_one]
  have h1 := Nat.two_pow_add_eq_or_of_lt hl 1
  rw [Nat.mul_one] at h1
  have h2 : 2 ^ i ||| B % 2 ^ i = B % 2 ^ i ^^^ 2 ^ i := by
    apply Nat.eq_of_testBit_eq
    intro j
    rw [Nat.testBit_or, Nat.testBit_xor, Nat.testBit_two_pow]
    by_cases hj : i = j
    · subst hj
      rw [Nat.testBit_lt_two_pow hl]; simp
    · simp [hj]
  omega
theorem mod_stay (B i : Nat) (h : ¬ B / 2 ^ i % 2 = 1) : B % 2 ^ (i + 1) = B % 2 ^ i := by
  rw [Nat.pow_succ, Nat.mod_mul, show B / 2 ^ i % 2 = 0 by omega]; omega

attribute [local go_sem] min2_i min_two_i
set_option maxRecDepth 100000 in
set_option maxHeartbeats 3200000 in
theorem burst_walk (s : ByteArray) (at_ bits_ : Int) (w : World) (hn : NibCells w) 
    (_hs : s.size ≤ 140737488351232) (ha1 : -9223372036854775808 ≤ at_) (ha2 : at_ ≤ 9223372036854775807) (hb1' : 0 ≤ bits_) (hb2' : bits_ ≤ 4294967295) :
    Calls Tryd.prog 8 #[.string s, .int .i64 at_, .int .u32 bits_] w fun e w' => e = .returned (.bool true) ∧ Below w.heap.size w w' := by
  have Hn := Lib.hid hn
  clear hn
  obtain ⟨P, hP, hP1, hP2, hP3⟩ := cut_len s 300 (by decide)
  clear hP3
  obtain ⟨B, rfl⟩ := Int.eq_ofNat_of_zero_le hb1'
  have hcv0 := fun W : World => Lib.run_convert_string_bytes (P := Tryd.prog) W 9 38 5 (s.extract 0 P) Tryd.underlying9 Tryd.underlying38 Tryd.underlying5
  have hsz : (s.extract 0 P).size = P := by simp; omega
  go_enter Tryd.func8, Tryd.ntmps8
  go_wp2_with fail
  refine (sane01_any _ Hn.out).mono ?_
  rintro e w1 ⟨rfl, hb1⟩
  have hcv := hcv0 w1
  have hrow := bytesWorld_row w1 (s.extract 0 P)
  have hbw := bytesWorld_below w1 5 (s.extract 0 P)
  obtain ⟨w2, hw2⟩ : ∃ w2, Lib.bytesWorld w1 5 (s.extract 0 P) = w2 := ⟨_, rfl⟩
  obtain ⟨cap, hcap⟩ : ∃ cap, grownCap w1 (s.extract 0 P).size 0 5 = cap := ⟨_, rfl⟩
  rw [hw2] at hcv hrow hbw
  rw [hcap, hsz] at hcv
  have hB2 : Below w.heap.size w w2 := Below_then hb1 hbw
  have hg : w.heap.size ≤ w1.heap.size := hb1.size
  clear hcv0 hw2 hcap hbw hb1
  by_cases hP0 : P = 0
  · have d1 : ((P : Int) == 0) = true := beq_iff_eq.2 (by omega)
    clear hP0
    go_wp2_with fail
    go_ret
    exact ⟨rfl, hB2⟩
  have d1 : ((P : Int) == 0) = false := beq_eq_false_iff_ne.2 (by omega)
  by_cases hB0 : B = 0
  · have d2 : ((B : Int) == 0) = true := beq_iff_eq.2 (by omega)
    clear hB0
    go_wp2_with fail
    go_ret
    exact ⟨rfl, hB2⟩
  have d2 : ((B : Int) == 0) = false := beq_eq_false_iff_ne.2 (by omega)
  go_wp2_with fail
  refine (pick01_any _ _ _ (by omega) (by omega) (by omega) (by omega)).mono ?_
  rintro e w' ⟨rfl, rfl⟩
  have hF := pickI_range at_ (8 * (P : Int)) (by omega)
  obtain ⟨F, hFF⟩ := Int.eq_ofNat_of_zero_le hF.1
  rw [hFF] at hF ⊢
  clear hFF hcv hP
  have HS := Lib.hid hsz
  clear hsz
  go_wp2_with fail
  go_loopw [10, 11, 12] (fun v10 v11 _ wr => ∃ (i : Nat) (l : List UInt8) (ch : Bool), i ≤ 32 ∧ v11 = .int .i64 i ∧ v10 = .bool ch ∧ Hid (l.length = P ∧ ch = decide (B % 2 ^ i ≠ 0) ∧ crcL l 4294967295 = crcL (s.extract 0 P).data.toList 4294967295 ^^^ bitsN (8 * P - F) (B % 2 ^ i) ∧ (i = 0 ∨ F + i ≤ 8 * P)) ∧ BRow wr w1.heap.size l ∧ Below w.heap.size w wr) (fun _ v11 _ _ => 32 - (intOf v11).toNat)
  case atStart =>
    refine ⟨0, (s.extract 0 P).data.toList, false, by omega, rfl, rfl, Lib.hid ⟨HS.out, by simp [Nat.mod_one], ?_, .inl rfl⟩, hrow, hB2⟩
    rw [Nat.pow_zero, Nat.mod_one, bitsN_zero, Nat.xor_zero]
  case round =>
    obtain ⟨i, l, ch, hi, rfl, rfl, hx, hr, hB⟩ := hrel
    obtain ⟨K, hK⟩ : ∃ K : Nat, (F : Int) + (i : Int) = (K : Int) := ⟨F + i, by omega⟩
    by_cases hc : i < 32 ∧ K < 8 * P
    · have hl := hx.out.1
      have hq : K / 8 < l.length := by omega
      have e1 : decide ((i : Int) < 32) = true := by simp; omega
      have e2 : decide ((K : Int) < 8 * (P : Int)) = true := by simp; omega
      obtain ⟨Q, hQ⟩ : ∃ Q : Nat, B / 2 ^ i = Q := ⟨_, rfl⟩
      have e3 : (B : Int) / 2 ^ i = (Q : Int) := by rw [← hQ]; simp
      by_cases hbit : Q % 2 = 1
      · have e4 : (((Q : Int) % 2) == 1) = true := beq_iff_eq.2 (by omega)
        have hcell := hr.cell (K / 8) hq
        have hfr := hr.frozen (K / 8) hq
        have HQ := Lib.hid hQ
        have j0 : (0 : Int) ≤ (K : Int) / 8 := by omega
        have j1 : (K : Int) / 8 < P := by omega
        obtain ⟨x, hxx⟩ : ∃ x : UInt8, l[K / 8] = x := ⟨_, rfl⟩
        have hxlt := x.toNat_lt
        rw [hxx] at hcell
        have HX := Lib.hid hxx
        have hbit2 := Lib.hid hbit
        clear hbit hQ hxx
        have hcell2 : wr.cell? ⟨w1.heap.size, K / 8, none⟩ = some (.int .u8 x.toNat) := hcell
        clear hcell
        obtain ⟨y, hy⟩ : ∃ y : UInt8, x ^^^ UInt8.ofNat (2 ^ (K % 8)) = y := ⟨_, rfl⟩
        have hp2 : 2 ^ (K % 8) < 256 := Nat.lt_of_lt_of_le (Nat.pow_lt_pow_right (by decide) (show K % 8 < 8 by omega)) (by decide)
        have e5 : bits BinOp.xor IntKind.u8 (x.toNat : Int) (2 ^ (K % 8) % 256) = (y.toNat : Int) := by
          rw [show (2 ^ (K % 8) % 256 : Int) = ((2 ^ (K % 8) : Nat) : Int) by rw [Int.natCast_pow]; exact Int.emod_eq_of_lt (Int.pow_nonneg (by decide)) (by exact_mod_cast hp2), u8_xor_nat _ _ (by omega) hp2, ← hy, u8_xor_toNat, ofNat_toNat _ hp2]
        have HY := Lib.hid hy
        clear hy
        go_wp2_with fail
        go_region
        go_wp2_with fail
        go_roundw
        case rel =>
          have hsum := burst_step (s.extract 0 P).data.toList l (8 * P) (B % 2 ^ i) i F 4294967295 (by rw [hl, ba_size]; exact HS.out.symm) (by rw [ba_size, HS.out]) (by omega) hx.out.2.2.1
          have hd : l.getD ((F + i) / 8) 0 = x := by
            rw [show (F + i) / 8 = K / 8 by omega, List.getD_eq_getElem?_getD, List.getElem?_eq_getElem hq, HX.out]; rfl
          rw [hd, show (F + i) / 8 = K / 8 by omega, show (F + i) % 8 = K % 8 by omega, HY.out, ← mod_step B i (by rw [HQ.out]; exact hbit2.out)] at hsum
          refine ⟨i + 1, l.set (K / 8) y, true, by omega, by go_num, rfl, Lib.hid ⟨by simp [hl], ?_, hsum, .inr (by omega)⟩, (hr.set_ (K / 8) y).drew, (hB.setCell (p := ⟨w1.heap.size, K / 8, none⟩) hg _).drew⟩
          rw [mod_step B i (by rw [HQ.out]; exact hbit2.out)]
          have hne : B % 2 ^ i ^^^ 2 ^ i ≠ 0 := fun e => by
            have := congrArg (Nat.testBit · i) e
            simp [Nat.testBit_xor, Nat.testBit_lt_two_pow (Nat.mod_lt B (Nat.two_pow_pos i))] at this
          simp [hne]
        case measure => simp [intOf]; omega
      · have e4 : (((Q : Int) % 2) == 1) = false := beq_eq_false_iff_ne.2 (by omega)
        have hbit2 := Lib.hid hbit
        have HQ := Lib.hid hQ
        clear hbit hQ
        go_wp2_with fail
        go_roundw
        case rel =>
          refine ⟨i + 1, l, ch, by omega, by go_num, rfl, Lib.hid ⟨hl, ?_, ?_, .inr (by omega)⟩, hr, hB⟩
          · rw [mod_stay B i (by rw [HQ.out]; exact hbit2.out)]; exact hx.out.2.1
          · rw [mod_stay B i (by rw [HQ.out]; exact hbit2.out)]; exact hx.out.2.2.1
        case measure => simp [intOf]; omega
    · have hend : (s.extract 0 P).size = P := HS.out
      have hl := hx.out.1
      obtain ⟨M, hM⟩ : ∃ M, B % 2 ^ i = M := ⟨_, rfl⟩
      have hMlt : M < 4294967296 := by rw [← hM]; exact Nat.lt_of_le_of_lt (Nat.mod_le _ _) (by omega)
      have hd := hx.out.2.2.1
      have hch := hx.out.2.1
      rw [hM] at hd hch
      have hiff := sumL_differs _ _ _ M hMlt hd
      obtain ⟨L, hL⟩ : ∃ L : ByteArray, ⟨l.toArray⟩ = L := ⟨_, rfl⟩
      have hLs : L.size ≤ 300 := by rw [← hL, ba_mk_size]; omega
      have hcv : ∀ k : Nat, (convert 38 9 (.slice (some ⟨w1.heap.size, 0, none⟩) P cap)).run Tryd.prog (wr.drewN k) = .ok (.string L) (wr.drewN k) := fun k => by
        rw [← hL]
        have h := run_convert_bytes_back (P := Tryd.prog) (wr.drewN k) 38 9 5 ⟨w1.heap.size, 0, none⟩ cap l Tryd.underlying38 Tryd.underlying5 Tryd.underlying9 (fun j hj => by
          have ha : (⟨w1.heap.size, 0, none⟩ : Addr).add j = ⟨w1.heap.size, j, none⟩ := by unfold Addr.add; split <;> simp_all
          rw [ha, (hr.drewN k).cell j hj]
          rfl)
        rwa [hl] at h
      have hne : (ch == (sumB L != sumB (s.extract 0 P))) = true := by
        rw [hch, ← hL]
        unfold sumB
        rw [ba_mk, beq_iff_eq]
        by_cases hM0 : M = 0
        · rw [hiff.2 hM0]; simp [hM0]
        · have : sumL l ≠ sumL (s.extract 0 P).data.toList := fun e => hM0 (hiff.1 e)
          have h2 : ((sumL l : Nat) : Int) ≠ ((sumL (s.extract 0 P).data.toList : Nat) : Int) := by omega
          rw [bne_iff_ne.2 h2]
          simp [hM0]
      have Hn2 : Hid (∀ k, NibCells (wr.drewN k)) := Lib.hid (fun k => (Hn.out.below hB).drewN k)
      have hend2 : (s.extract 0 P).size ≤ 300 := by omega
      clear hend hx hM hd hch hiff hL hl
      have j1 : (0 : Int) ≤ P := by omega
      have j2 : (P : Int) ≤ s.size := by omega
      by_cases hc1 : i < 32
      · have e1 : decide ((i : Int) < 32) = true := by simp; omega
        have e2 : decide ((K : Int) < 8 * (P : Int)) = false := by simp; omega
        go_wp2_with fail
        go_quiet ((go_at_call 21; exact quiet_left (sum_any _ _ (by omega) (Hn2.out _))))
        go_wp2_with fail
        go_ret
        exact ⟨rfl, below_drewN' hB _⟩
      · have e1 : decide ((i : Int) < 32) = false := by simp; omega
        go_wp2_with fail
        go_quiet ((go_at_call 21; exact quiet_left (sum_any _ _ (by omega) (Hn2.out _))))
        go_wp2_with fail
        go_ret
        exact ⟨rfl, below_drewN' hB _⟩
end Go.Proofs.YtlenfhliflchgaaDoor
