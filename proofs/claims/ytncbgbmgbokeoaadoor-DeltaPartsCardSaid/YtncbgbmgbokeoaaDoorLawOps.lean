/- DeltaOperations: the walk. -/
import Derived.Test.YtncbgbmgbokeoaaDoorLawDelta
namespace Go.Proofs.YtncbgbmgbokeoaaDoor
open Go.RowKit

/-- What a slice of steps holds. -/
def StepsIn (W : World) (A : Option Addr) (l : Nat) (zs : List Op3) : Prop :=
  zs.length = l ∧ l ≤ maxLen ∧ (0 < l → ∃ b off, A = some ⟨b, off, none⟩ ∧ b < W.heap.size ∧ ∀ i, i < l → ∃ z, zs[i]? = some z ∧ W.cell? ⟨b, off + i * 3, none⟩ = some (.int .i64 z.n) ∧ W.cell? ⟨b, off + i * 3 + 1, none⟩ = some (.int .i64 z.off) ∧ W.cell? ⟨b, off + i * 3 + 2, none⟩ = some (.string z.s)) ∧
    ∀ z ∈ zs, (-9223372036854775808 ≤ z.n ∧ z.n ≤ 9223372036854775807) ∧ (-9223372036854775808 ≤ z.off ∧ z.off ≤ 9223372036854775807)
/-- What has been written behind i steps: the operations, what they add, and whether all can be taken. -/
def OpsSt (o : ByteArray) (wrong : Bool) (i : Nat) (wb ob : ByteArray) (k : Bool) : Prop :=
  ∃ l : List Op3, ob.data.toList = encAll l ∧ (∀ x ∈ l, CanEnc x) ∧ (k = true ↔ wrong = false ∧ ∀ x ∈ l, goodOp o x) ∧ ((∀ x ∈ l, goodOp o x) → wb.data.toList = addAll o l) ∧ wb.size ≤ 500 * i ∧ ob.size ≤ 500 * i
theorem OpsSt.good {o wb ob : ByteArray} {wrong k : Bool} {i : Nat} {x : Op3} (h : OpsSt o wrong i wb ob k) (hc : CanEnc x) (hg : goodOp o x) (h1 : (addOf o x).size ≤ 500) (h2 : (encOp x).size ≤ 500) : OpsSt o wrong (i + 1) (wb ++ addOf o x) (ob ++ encOp x) k := by
  obtain ⟨l, a, b, c, d, e, f⟩ := h
  have hall : (∀ y ∈ l ++ [x], goodOp o y) ↔ ∀ y ∈ l, goodOp o y := ⟨fun h y hy => h y (List.mem_append_left _ hy), fun h y hy => by
    rcases List.mem_append.1 hy with hy | hy
    · exact h y hy
    · rw [List.mem_singleton] at hy; rw [hy]; exact hg⟩
  refine ⟨l ++ [x], ?_, fun y hy => ?_, by rw [hall]; exact c, fun h => ?_, by rw [ba_append_size]; omega, by rw [ba_append_size]; omega⟩
  · rw [ba_append, encAll_append, a]; simp [encAll]
  · rcases List.mem_append.1 hy with hy | hy
    · exact b y hy
    · rw [List.mem_singleton] at hy; rw [hy]; exact hc
  · rw [ba_append, addAll_append, d (hall.1 h)]; simp [addAll]
theorem OpsSt.ill {o wb wb' ob : ByteArray} {wrong k : Bool} {i : Nat} {x : Op3} (h : OpsSt o wrong i wb ob k) (hc : CanEnc x) (hg : ¬ goodOp o x) (h1 : wb'.size ≤ wb.size) (h2 : (encOp x).size ≤ 500) : OpsSt o wrong (i + 1) wb' (ob ++ encOp x) false := by
  obtain ⟨l, a, b, c, d, e, f⟩ := h
  have hno : ¬ ∀ y ∈ l ++ [x], goodOp o y := fun h => hg (h x (by simp))
  refine ⟨l ++ [x], ?_, fun y hy => ?_, ⟨fun h => (by cases h), fun h => absurd h.2 hno⟩, fun h => absurd h hno, by omega, by rw [ba_append_size]; omega⟩
  · rw [ba_append, encAll_append, a]; simp [encAll]
  · rcases List.mem_append.1 hy with hy | hy
    · exact b y hy
    · rw [List.mem_singleton] at hy; rw [hy]; exact hc
/-- What Apply makes of it. -/
theorem OpsSt.applied {o wb ob : ByteArray} {wrong k : Bool} {i : Nat} (h : OpsSt o wrong i wb ob k) (ho : o.size ≤ 8192) (sn : Int) (hsn : sn = if wrong then sumB wb + 1 else sumB wb) :
    applyF o (numS (sumB o) ++ numS sn ++ ob) = if k = true ∧ wb.size ≤ 8192 then (wb, 0) else (.empty, 190) := by
  obtain ⟨l, a, b, c, d, e, f⟩ := h
  have hr := sumB_range wb
  have m2 : -maxInt ≤ sn ∧ sn ≤ maxInt := by unfold maxInt; split at hsn <;> omega
  rw [applyF_ops o (sumB o) sn l (sum_maxInt o) m2 ho b _ (by rw [ba_append, ba_append, a, numS_list, numS_list, List.append_assoc]), if_neg (by simp)]
  by_cases hall : ∀ x ∈ l, goodOp o x
  · have hw := d hall
    have hwb : (⟨(addAll o l).toArray⟩ : ByteArray) = wb := by rw [← hw]
    rw [hwb, ← hw, ba_size]
    by_cases hwr : wrong = true
    · have hk : ¬ k = true := fun hk => by have := (c.1 hk).1; rw [hwr] at this; cases this
      rw [if_pos hwr] at hsn
      rw [if_neg (by omega), if_neg (fun h => hk h.1)]
    · have hk : k = true := c.2 ⟨by simpa using hwr, hall⟩
      rw [if_neg hwr] at hsn
      by_cases h8 : wb.size ≤ 8192
      · rw [if_pos ⟨hall, h8, hsn.symm⟩, if_pos ⟨hk, h8⟩]
      · rw [if_neg (fun h => h8 h.2.1), if_neg (fun h => h8 h.2)]
  · rw [if_neg (fun h => hall h.1), if_neg (fun h => hall (c.1 h.1).2)]

set_option linter.unusedVariables false
set_option linter.unusedSimpArgs false
set_option maxRecDepth 100000 in
set_option maxHeartbeats 12800000 in
theorem ops_walk (old : ByteArray) (A : Option Addr) (l c : Nat) (zs : List Op3) (wrong : Bool) (a0 a1 : Addr) (W : World) (hn : NibCells W) (he : ErrCells a0 a1 W) (h1 : old.size ≤ 140737488351232) (hz : StepsIn W A l zs) :
    Calls Tryd.prog 4 #[.string old, .slice A l c, .bool wrong] W fun e W' => e = .returned (.bool true) ∧ Below W.heap.size W W' := by
  obtain ⟨hzl, hlm, hcell, hzs⟩ := hz
  have hlm' : l ≤ 9223372036854775807 := by unfold maxLen at hlm; omega
  obtain ⟨o, ho⟩ : ∃ o, cutF old 500 = o := ⟨_, rfl⟩
  have hos : o.size ≤ 500 := by rw [← ho, cutF_size]; omega
  have c1 := fun W => cut19_any old 500 W (by omega)
  rw [ho] at c1
  have C1 := Lib.hid c1
  have C0 := Lib.hid (sane19_any a0 a1 W hn he)
  have hN := Lib.hid hn
  have hE := Lib.hid he
  clear hn he c1 ho
  go_enter Tryd.func4, Tryd.ntmps4
  go_wp2_with fail
  refine (C0.out).mono ?_
  rintro e w1 ⟨rfl, hB1⟩
  go_wp2_with fail
  refine (C1.out _).mono ?_
  rintro e _ ⟨rfl, rfl⟩
  go_wp2_with fail
  go_loopw [8, 9, 10, 11] (fun v8 v9 v10 v11 wr => ∃ (i : Nat) (wb ob : ByteArray) (k : Bool), v11 = .int .i64 i ∧ v10 = .bool k ∧ v9 = .string ob ∧ v8 = .string wb ∧ i ≤ l ∧ i ≤ 40 ∧ Hid (OpsSt o wrong i wb ob k) ∧ Below W.heap.size W wr) (fun _ _ _ v11 _ => l - (intOf v11).toNat)
  case atStart => exact ⟨0, .empty, .empty, !wrong, rfl, rfl, rfl, rfl, by omega, by omega, Lib.hid ⟨[], rfl, by simp, by simp, fun _ => rfl, by simp, by simp⟩, hB1⟩
  case round =>
    obtain ⟨i, wb, ob, k, rfl, rfl, rfl, rfl, hil, hi40, HS, hB⟩ := hrel
    have hwb : wb.size ≤ 20000 := by obtain ⟨_, _, _, _, _, h5, _⟩ := HS.out; omega
    have hob : ob.size ≤ 20000 := by obtain ⟨_, _, _, _, _, _, h6⟩ := HS.out; omega
    by_cases hgo : i < l ∧ i < 40
    · have t0 : decide ((i : Int) < l) = true := by simp; omega
      have t1 : decide ((i : Int) < 40) = true := by simp; omega
      obtain ⟨b, off, rfl, hbl, hc⟩ := hcell (by omega)
      obtain ⟨⟨zn, zo, s0⟩, hzi, hc1, hc2, hc3⟩ := hc i hgo.1
      have hzr := hzs _ (List.mem_of_getElem? hzi)
      dsimp only at hc1 hc2 hc3 hzr
      have ci1 : wr.cell? ⟨b, off + i * 3, none⟩ = some (.int .i64 zn) := by rw [hB.cell (p := ⟨b, off + i * 3, none⟩) hbl, hc1]
      have ci2 : wr.cell? ⟨b, off + i * 3 + 1, none⟩ = some (.int .i64 zo) := by rw [hB.cell (p := ⟨b, off + i * 3 + 1, none⟩) hbl, hc2]
      have ci3 : wr.cell? ⟨b, off + i * 3 + 2, none⟩ = some (.string s0) := by rw [hB.cell (p := ⟨b, off + i * 3 + 2, none⟩) hbl, hc3]
      have k1 : (0 : Int) ≤ i := by omega
      have k2 : (i : Int) < l := by omega
      clear hc1 hc2 hc3 hzi
      have hcase : (decide (0 < zn) = true ∧ decide (zn < 100000) = true ∧ decide (-100000 < zo) = true ∧ decide (zo < 100000) = true) ∨ decide (0 < zn) = false ∨ (decide (0 < zn) = true ∧ decide (zn < 100000) = false) ∨ (decide (0 < zn) = true ∧ decide (zn < 100000) = true ∧ decide (-100000 < zo) = false) ∨ (decide (0 < zn) = true ∧ decide (zn < 100000) = true ∧ decide (-100000 < zo) = true ∧ decide (zo < 100000) = false) := by
        simp only [decide_eq_true_eq, decide_eq_false_iff_not]; omega
      rcases hcase with ⟨t2, t3, t4, t5⟩ | t2 | ⟨t2, t3⟩ | ⟨t2, t3, t4⟩ | ⟨t2, t3, t4, t5⟩
      · have b2 : 0 < zn := by simpa using t2
        have b3 : zn < 100000 := by simpa using t3
        have b4 : -100000 < zo := by simpa using t4
        have b5 : zo < 100000 := by simpa using t5
        go_wp2_with fail
        obtain ⟨wA, hA⟩ : ∃ wA, wr.alloc (.cells #[.int .i64 zn, .int .i64 zo, .string s0] 28) = wA := ⟨_, rfl⟩
        obtain ⟨tb, htb⟩ : ∃ tb, wr.heap.size = tb := ⟨_, rfl⟩
        have hBA : Below W.heap.size W wA := by rw [← hA]; exact hB.alloc hB.size _
        have hbA : wA.heap[tb]? = some (.cells #[.int .i64 zn, .int .i64 zo, .string s0] 28 (0, 0)) := by rw [← hA, ← htb]; exact World.alloc_heap_new wr _
        have hlA : tb < wA.heap.size := by rw [← hA, ← htb]; simp
        have q1 : wA.cell? ⟨tb, 0, none⟩ = some (.int .i64 zn) := Lib.cell_of_heap hbA 0
        have q2 : wA.cell? ⟨tb, 1, none⟩ = some (.int .i64 zo) := Lib.cell_of_heap hbA 1
        have q3 : wA.cell? ⟨tb, 2, none⟩ = some (.string s0) := Lib.cell_of_heap hbA 2
        rw [hA, htb]
        clear hA
        have cn := fun W => putInt_numS zn W (by unfold maxInt; omega) (by unfold maxInt; omega)
        have co := fun W => putInt_numS zo W (by unfold maxInt; omega) (by unfold maxInt; omega)
        obtain ⟨X, hX⟩ : ∃ X, numS zn = X := ⟨_, rfl⟩
        obtain ⟨Y, hY⟩ : ∃ Y, numS zo = Y := ⟨_, rfl⟩
        have hXs : X.size ≤ 10 := by rw [← hX]; exact numS_size zn
        have hYs : Y.size ≤ 10 := by rw [← hY]; exact numS_size zo
        have hce : CanEnc ⟨zn, zo, .empty⟩ := ⟨by unfold maxInt; simp only; omega, by unfold maxInt; simp only; omega, by simp⟩
        have hen : encOp ⟨zn, zo, .empty⟩ = X ++ Y := by unfold encOp; rw [if_pos b2, hX, hY]
        have hadd : addOf o ⟨zn, zo, .empty⟩ = o.extract zo.toNat (zo + zn).toNat := by unfold addOf; rw [if_pos b2]
        simp only [hX] at cn
        simp only [hY] at co
        have CN := Lib.hid cn
        have CO := Lib.hid co
        have HEN := Lib.hid hen
        have HAD := Lib.hid hadd
        clear cn co hX hY hen hadd
        refine (CN.out _).mono ?_
        rintro e w2 ⟨rfl, hb2⟩
        have hB2 := hBA.trans (hb2.mono hBA.size)
        have r1 : w2.cell? ⟨tb, 0, none⟩ = some (.int .i64 zn) := (hb2.cell (p := ⟨tb, 0, none⟩) hlA).trans q1
        have r2 : w2.cell? ⟨tb, 1, none⟩ = some (.int .i64 zo) := (hb2.cell (p := ⟨tb, 1, none⟩) hlA).trans q2
        go_wp2_with fail
        refine (CO.out _).mono ?_
        rintro e w3 ⟨rfl, hb3⟩
        have hB3 := hB2.trans (hb3.mono hB2.size)
        have hlA2 : tb < w2.heap.size := Nat.lt_of_lt_of_le hlA hb2.size
        have s1 : w3.cell? ⟨tb, 0, none⟩ = some (.int .i64 zn) := (hb3.cell (p := ⟨tb, 0, none⟩) hlA2).trans r1
        have s2 : w3.cell? ⟨tb, 1, none⟩ = some (.int .i64 zo) := (hb3.cell (p := ⟨tb, 1, none⟩) hlA2).trans r2
        by_cases hneg : zo < 0
        · have u1 : decide (zo < 0) = true := by simpa using hneg
          go_wp2_with fail
          go_roundw
          case rel =>
            refine ⟨i + 1, wb, ob ++ X ++ Y, false, by go_num, rfl, rfl, rfl, by omega, by omega, ?_, hB3⟩
            have := HS.out.ill (wb' := wb) hce (by unfold goodOp; simp only; omega) (Nat.le_refl _) (by rw [HEN.out, ba_append_size]; omega)
            rw [HEN.out, ← ByteArray.append_assoc] at this
            exact Lib.hid this
          case measure => simp [intOf]; omega
        · have u1 : decide (zo < 0) = false := by simpa using hneg
          by_cases hbig : (o.size : Int) < zo + zn
          · have u2 : decide ((o.size : Int) < zo + zn) = true := by simpa using hbig
            go_wp2_with fail
            go_roundw
            case rel =>
              refine ⟨i + 1, wb, ob ++ X ++ Y, false, by go_num, rfl, rfl, rfl, by omega, by omega, ?_, hB3⟩
              have := HS.out.ill (wb' := wb) hce (by unfold goodOp; simp only; omega) (Nat.le_refl _) (by rw [HEN.out, ba_append_size]; omega)
              rw [HEN.out, ← ByteArray.append_assoc] at this
              exact Lib.hid this
            case measure => simp [intOf]; omega
          · have u2 : decide ((o.size : Int) < zo + zn) = false := by simpa using hbig
            obtain ⟨y, hy⟩ : ∃ y, o.extract zo.toNat (zo + zn).toNat = y := ⟨_, rfl⟩
            have hys : y.size ≤ 500 := by rw [← hy]; simp; omega
            have v1 : 0 ≤ zo := by omega
            have v2 : zo ≤ zo + zn := by omega
            have v3 : zo + zn ≤ o.size := by omega
            go_wp2_with fail
            go_roundw
            case rel =>
              refine ⟨i + 1, wb ++ y, ob ++ X ++ Y, k, by go_num, rfl, rfl, rfl, by omega, by omega, ?_, hB3⟩
              have := HS.out.good hce (.inl ⟨b2, by simp only; omega, by simp only; omega⟩) (by rw [HAD.out, hy]; omega) (by rw [HEN.out, ba_append_size]; omega)
              rw [HEN.out, ← ByteArray.append_assoc, HAD.out, hy] at this
              exact Lib.hid this
            case measure => simp [intOf]; omega
      all_goals
        go_wp2_with fail
        obtain ⟨wA, hA⟩ : ∃ wA, wr.alloc (.cells #[.int .i64 zn, .int .i64 zo, .string s0] 28) = wA := ⟨_, rfl⟩
        obtain ⟨tb, htb⟩ : ∃ tb, wr.heap.size = tb := ⟨_, rfl⟩
        have hBA : Below W.heap.size W wA := by rw [← hA]; exact hB.alloc hB.size _
        have hbA : wA.heap[tb]? = some (.cells #[.int .i64 zn, .int .i64 zo, .string s0] 28 (0, 0)) := by rw [← hA, ← htb]; exact World.alloc_heap_new wr _
        have hlA : tb < wA.heap.size := by rw [← hA, ← htb]; simp
        have q1 : wA.cell? ⟨tb, 0, none⟩ = some (.int .i64 zn) := Lib.cell_of_heap hbA 0
        have q2 : wA.cell? ⟨tb, 1, none⟩ = some (.int .i64 zo) := Lib.cell_of_heap hbA 1
        have q3 : wA.cell? ⟨tb, 2, none⟩ = some (.string s0) := Lib.cell_of_heap hbA 2
        rw [hA, htb]
        clear hA
        obtain ⟨s, hs⟩ : ∃ s, cutF s0 400 = s := ⟨_, rfl⟩
        have hss : s.size ≤ 400 := by rw [← hs, cutF_size]; omega
        have cc := fun W => cut19_any s0 400 W (by omega)
        rw [hs] at cc
        have c0 := fun W => putInt_numS 0 W (by unfold maxInt; omega) (by unfold maxInt; omega)
        have c1 := fun W => putStr_numS s W (by omega)
        obtain ⟨X, hX⟩ : ∃ X, numS 0 = X := ⟨_, rfl⟩
        obtain ⟨Y, hY⟩ : ∃ Y, numS s.size ++ s = Y := ⟨_, rfl⟩
        have hXs : X.size ≤ 10 := by rw [← hX]; exact numS_size 0
        have hYs : Y.size ≤ 410 := by rw [← hY, ba_append_size]; have := numS_size s.size; omega
        have hce : CanEnc ⟨0, 0, s⟩ := ⟨by unfold maxInt; simp, by unfold maxInt; simp, by simp only; omega⟩
        have hen : encOp ⟨0, 0, s⟩ = X ++ Y := by unfold encOp; rw [if_neg (by simp), hX, hY]
        have hadd : addOf o ⟨0, 0, s⟩ = s := by unfold addOf; rw [if_neg (by simp)]
        rw [hX] at c0
        rw [hY] at c1
        have CC := Lib.hid cc
        have K0 := Lib.hid c0
        have K1 := Lib.hid c1
        have HEN := Lib.hid hen
        have HAD := Lib.hid hadd
        clear cc c0 c1 hX hY hen hadd hs
        by_cases hs0 : s.size = 0
        · obtain rfl : s = .empty := ba_ext (size_zero hs0)
          have el := empty_list
          have hst : OpsSt o wrong (i + 1) wb (ob ++ X ++ Y) false := by
            have := HS.out.ill (wb' := wb) hce (by unfold goodOp; simp) (Nat.le_refl _) (by rw [HEN.out, ba_append_size]; omega)
            rw [HEN.out, ← ByteArray.append_assoc] at this
            exact this
          have HST := Lib.hid hst
          clear hst
          cases k
          · refine (CC.out _).mono ?_
            rintro e _ ⟨rfl, rfl⟩
            go_wp2_with fail
            refine (K0.out _).mono ?_
            rintro e w2 ⟨rfl, hb2⟩
            have hB2 := hBA.trans (hb2.mono hBA.size)
            go_wp2_with fail
            refine (K1.out _).mono ?_
            rintro e w3 ⟨rfl, hb3⟩
            have hB3 := hB2.trans (hb3.mono hB2.size)
            go_wp2_with fail
            go_roundw
            case rel => exact ⟨i + 1, wb, ob ++ X ++ Y, false, by go_num, rfl, rfl, by simp, by omega, by omega, HST, hB3⟩
            case measure => simp [intOf]; omega
          · refine (CC.out _).mono ?_
            rintro e _ ⟨rfl, rfl⟩
            go_wp2_with fail
            refine (K0.out _).mono ?_
            rintro e w2 ⟨rfl, hb2⟩
            have hB2 := hBA.trans (hb2.mono hBA.size)
            go_wp2_with fail
            refine (K1.out _).mono ?_
            rintro e w3 ⟨rfl, hb3⟩
            have hB3 := hB2.trans (hb3.mono hB2.size)
            go_wp2_with fail
            go_roundw
            case rel => exact ⟨i + 1, wb, ob ++ X ++ Y, false, by go_num, rfl, rfl, by simp, by omega, by omega, HST, hB3⟩
            case measure => simp [intOf]; omega
        · have edl : s.toList ≠ [] := by
            rw [ByteArray.toList_eq]
            intro h
            have := congrArg List.length h
            rw [ba_size, List.length_nil] at this
            omega
          have eb : s.toList.isEmpty = false := by simpa using edl
          have hst : OpsSt o wrong (i + 1) (wb ++ s) (ob ++ X ++ Y) k := by
            have := HS.out.good hce (.inr ⟨by simp, hs0⟩) (by rw [HAD.out]; omega) (by rw [HEN.out, ba_append_size]; omega)
            rw [HEN.out, ← ByteArray.append_assoc, HAD.out] at this
            exact this
          have HST := Lib.hid hst
          clear hst
          cases k
          · refine (CC.out _).mono ?_
            rintro e _ ⟨rfl, rfl⟩
            go_wp2_with fail
            refine (K0.out _).mono ?_
            rintro e w2 ⟨rfl, hb2⟩
            have hB2 := hBA.trans (hb2.mono hBA.size)
            go_wp2_with fail
            refine (K1.out _).mono ?_
            rintro e w3 ⟨rfl, hb3⟩
            have hB3 := hB2.trans (hb3.mono hB2.size)
            go_wp2_with fail
            go_roundw
            case rel => exact ⟨i + 1, wb ++ s, ob ++ X ++ Y, false, by go_num, rfl, rfl, rfl, by omega, by omega, HST, hB3⟩
            case measure => simp [intOf]; omega
          · refine (CC.out _).mono ?_
            rintro e _ ⟨rfl, rfl⟩
            go_wp2_with fail
            refine (K0.out _).mono ?_
            rintro e w2 ⟨rfl, hb2⟩
            have hB2 := hBA.trans (hb2.mono hBA.size)
            go_wp2_with fail
            refine (K1.out _).mono ?_
            rintro e w3 ⟨rfl, hb3⟩
            have hB3 := hB2.trans (hb3.mono hB2.size)
            go_wp2_with fail
            go_roundw
            case rel => exact ⟨i + 1, wb ++ s, ob ++ X ++ Y, true, by go_num, rfl, rfl, rfl, by omega, by omega, HST, hB3⟩
            case measure => simp [intOf]; omega
    · obtain ⟨so, hso⟩ : ∃ so, sumB o = so := ⟨_, rfl⟩
      obtain ⟨sw, hsw⟩ : ∃ sw, sumB wb = sw := ⟨_, rfl⟩
      have m1 := sumB_range o
      have m2 := sumB_range wb
      rw [hso] at m1
      rw [hsw] at m2
      obtain ⟨sn, hsn⟩ : ∃ sn, (if wrong then sw + 1 else sw) = sn := ⟨_, rfl⟩
      have hsn2 : 0 ≤ sn ∧ sn ≤ 4294967296 := by rw [← hsn]; split <;> omega
      obtain ⟨X, hX⟩ : ∃ X, numS so = X := ⟨_, rfl⟩
      obtain ⟨Y, hY⟩ : ∃ Y, numS sn = Y := ⟨_, rfl⟩
      have hXs : X.size ≤ 10 := by rw [← hX]; exact numS_size so
      have hYs : Y.size ≤ 10 := by rw [← hY]; exact numS_size sn
      have hap := HS.out.applied (by omega) sn (by rw [hsw, hsn])
      rw [hso, hX, hY] at hap
      have cX := fun W => putInt_numS so W (by unfold maxInt; omega) (by unfold maxInt; omega)
      have cY := fun W => putInt_numS sn W (by unfold maxInt; omega) (by unfold maxInt; omega)
      rw [hX] at cX
      rw [hY] at cY
      have CX := Lib.hid cX
      have CY := Lib.hid cY
      have S1 := Lib.hid (fun W h => sum_is hsw (by omega) W h)
      have S2 := Lib.hid (fun W h => sum_is hso (by omega) W h)
      have HSN := Lib.hid hsn
      have hcond : (i < l ∧ ¬ i < 40 ∧ decide ((i : Int) < l) = true ∧ decide ((i : Int) < 40) = false) ∨ (¬ i < l ∧ decide ((i : Int) < l) = false) := by
        simp only [decide_eq_true_eq, decide_eq_false_iff_not]; omega
      clear cX cY hX hY hso hsw hgo
      have eself : (wb.toList == wb.toList) = true := by simp
      have el := empty_list
      by_cases hk : k = true ∧ wb.size ≤ 8192
      · rw [if_pos hk] at hap
        obtain ⟨rfl, hw8⟩ := hk
        have g1 : decide ((wb.size : Int) ≤ 8192) = true := by simp; omega
        have CA := Lib.hid (fun W h k => apply_is (a0 := a0) (a1 := a1) hap W h k (by rw [ba_append_size, ba_append_size]; omega))
        clear hap
        rcases hcond with ⟨n0, n1, t0, t1⟩ | ⟨n0, t0⟩ <;> cases wrong
        all_goals
          have hs3 := HSN.out
          simp only [if_true, if_false, Bool.false_eq_true] at hs3
          subst hs3
          go_wp2_with fail
          refine (S1.out _ (hN.out.below hB)).mono ?_
          rintro e _ ⟨rfl, rfl⟩
          go_wp2_with fail
          refine (S2.out _ (hN.out.below hB)).mono ?_
          rintro e _ ⟨rfl, rfl⟩
          go_wp2_with fail
          refine (CX.out _).mono ?_
          rintro e w2 ⟨rfl, hb2⟩
          have hB2 := hB.trans (hb2.mono hB.size)
          go_wp2_with fail
          refine (CY.out _).mono ?_
          rintro e w3 ⟨rfl, hb3⟩
          have hB3 := hB2.trans (hb3.mono hB2.size)
          go_wp2_with fail
          refine (CA.out _ (hN.out.below hB3) (hE.out.below hB3)).mono ?_
          rintro e w4 ⟨rfl, hb4⟩
          have hB4 := Below_then hB3 hb4
          go_wp2_with fail
          go_ret
          exact ⟨rfl, hB4⟩
      · rw [if_neg hk] at hap
        have CA := Lib.hid (fun W h k => apply_is (a0 := a0) (a1 := a1) hap W h k (by rw [ba_append_size, ba_append_size]; omega))
        clear hap
        have hkc : k = false ∨ (k = true ∧ decide ((wb.size : Int) ≤ 8192) = false) := by
          cases k
          · exact .inl rfl
          · refine .inr ⟨rfl, ?_⟩
            simp only [decide_eq_false_iff_not]
            intro h
            exact hk ⟨rfl, by omega⟩
        rcases hcond with ⟨n0, n1, t0, t1⟩ | ⟨n0, t0⟩ <;> rcases hkc with rfl | ⟨rfl, g1⟩ <;> cases wrong
        all_goals
          have hs3 := HSN.out
          simp only [if_true, if_false, Bool.false_eq_true] at hs3
          subst hs3
          go_wp2_with fail
          refine (S1.out _ (hN.out.below hB)).mono ?_
          rintro e _ ⟨rfl, rfl⟩
          go_wp2_with fail
          refine (S2.out _ (hN.out.below hB)).mono ?_
          rintro e _ ⟨rfl, rfl⟩
          go_wp2_with fail
          refine (CX.out _).mono ?_
          rintro e w2 ⟨rfl, hb2⟩
          have hB2 := hB.trans (hb2.mono hB.size)
          go_wp2_with fail
          refine (CY.out _).mono ?_
          rintro e w3 ⟨rfl, hb3⟩
          have hB3 := hB2.trans (hb3.mono hB2.size)
          go_wp2_with fail
          refine (CA.out _ (hN.out.below hB3) (hE.out.below hB3)).mono ?_
          rintro e w4 ⟨rfl, hb4⟩
          have hB4 := Below_then hB3 hb4
          go_wp2_with fail
          go_ret
          exact ⟨rfl, hB4⟩
end Go.Proofs.YtncbgbmgbokeoaaDoor
