/- delta.ops's iterator: what it yields. -/
import Derived.Test.YtncbgbmgbokeoaaDoorFlush
namespace Go.Proofs.YtncbgbmgbokeoaaDoor
open Go.RowKit Go.Shelf

theorem wideFn (f : FuncId) : Fence.wide.fn f = True := rfl
theorem wideDepth : Fence.wide.depth = none := rfl
attribute [local go_sem] Oper.semAt_some
attribute [local go_sem] wideFn wideDepth

/-- The iterator's own cells: from, p, yield. -/
structure OwnCells (fb pb yb l : Nat) (a p : Nat) (W : World) : Prop where
  cf : W.heap[fb]? = some (.cells #[.int .i64 a] 3 (0, 0))
  cp : W.heap[pb]? = some (.cells #[.int .i64 p] 3 (0, 0))
  cy : W.heap[yb]? = some (.cells #[.func (.yield l) #[] #[]] 82 (0, 0))

/-- Between two rounds of the iterator's loop. -/
structure OpsInv (J : List UInt8 → World → Prop) (old next v : ByteArray) (Wp : World) (B0 fb l : Nat) (j p a : Nat) (o : ByteArray) (W : World) : Prop where
  J : J o.data.toList W
  own : OwnCells fb (fb + 1) B0 l a p W
  map : ∀ i, B0 + 1 ≤ i → i < fb → ¬ BytesAt Wp i → W.heap[i]? = Wp.heap[i]?
  ap : a ≤ p
  pn : p ≤ next.size
  os : o.size ≤ 8300 * (2 * p + 1)
  jp : next.size ≤ j + p
  val : diffGo old next j p (next.extract a p) o = v
  size : fb + 2 ≤ W.heap.size
/-- But for block b the two worlds are one (draws aside). -/
structure OneBut (b : Nat) (A B : World) : Prop where
  os : B.os = A.os
  tape : B.tape = A.tape
  output : B.output = A.output
  size : B.heap.size = A.heap.size
  same : ∀ j, j ≠ b → B.heap[j]? = A.heap[j]?

theorem set3_same {W : World} {tb : Nat} {a b c x y z : Value} {T : TypeId} (h : W.heap[tb]? = some (.cells #[a, b, c] T (0, 0))) : (((W.setCell ⟨tb, 0, none⟩ x).setCell ⟨tb, 1, none⟩ y).setCell ⟨tb, 2, none⟩ z).heap[tb]? = some (.cells #[x, y, z] T (0, 0)) := by
  simp [World.setCell, Array.getElem?_modify, h]
theorem set1_same {W : World} {tb : Nat} {a x : Value} {T : TypeId} (h : W.heap[tb]? = some (.cells #[a] T (0, 0))) : (W.setCell ⟨tb, 0, none⟩ x).heap[tb]? = some (.cells #[x] T (0, 0)) := by
  simp [World.setCell, Array.getElem?_modify, h]
theorem OneBut.it {tb B0 : Nat} {A B : World} (h : OneBut tb A B) {cs : Array Value} {fz : Nat × Nat} (hc : A.heap[tb]? = some (.cells cs 56 fz)) (hB : B0 ≤ tb) : ItKeep B0 A B :=
  ⟨h.os, h.tape, h.output, by rw [h.size]; exact Nat.le_refl _, fun j _ hj => h.same j (fun e => by
      subst e
      rcases hj with hj | ⟨cs', fz', hb⟩
      · omega
      · rw [hc] at hb
        simp only [Option.some.injEq, Obj.cells.injEq] at hb
        exact absurd hb.2.1 (by decide)), fun j o ho hn => (h.same j (fun e => by
      subst e
      rw [hc] at ho
      cases ho
      cases hn)).trans ho⟩

set_option linter.unusedSimpArgs false in
set_option maxRecDepth 100000 in
set_option maxHeartbeats 6400000 in
theorem opsIter_in (n l B0 ob nb : Nat) (old next v : ByteArray) (J : List UInt8 → World → Prop) (hR : Rounds Fence.wide l B0 ob nb old next J) (hos : old.size ≤ 8192) (hns : next.size ≤ 8192)
    (W1 : World) (hB0 : W1.heap.size = B0) (o0 : ByteArray) (hJ1 : J o0.data.toList W1) (ho0 : o0.size ≤ 8300) (hv : diffGo old next next.size 0 .empty o0 = v) (hob : ob < B0) (hnb : nb < B0) :
    CallsIn Fence.wide n Tryd.prog 36 #[.func (.yield l) #[] #[], .pointer (some ⟨ob, 0, none⟩), .pointer (some ⟨nb, 0, none⟩)] W1 fun e W' => (∃ u, e = .returned u) ∧ J v.data.toList W' := by
  obtain ⟨Wy, hA⟩ : ∃ Wy, W1.alloc (.cells #[.func (.yield l) #[] #[]] 82) = Wy := ⟨_, rfl⟩
  have hJy : J o0.data.toList Wy := hR.kept _ _ _ hJ1 (by rw [← hA]; exact ItKeep.below ((Below.refl _ _).alloc (Nat.le_refl _) _))
  have hsy : Wy.heap.size = B0 + 1 := by rw [← hA, ← hB0]; simp
  have cyy : Wy.heap[B0]? = some (.cells #[.func (.yield l) #[] #[]] 82 (0, 0)) := by rw [← hA, ← hB0]; exact World.alloc_heap_new W1 _
  have coy : Wy.cell? ⟨ob, 0, none⟩ = some (.string old) := Lib.cell_of_heap (hR.obox _ _ hJy) 0
  have cpl := places_any old Wy hos
  rw [hsy] at cpl
  have CP := Lib.hid cpl
  clear cpl
  refine callsIn_of_wp Tryd.func36 rfl trivial ?_ rfl
  simp only [Tryd.ntmps36, List.size_toArray, List.length_cons, List.length_nil, Nat.reduceAdd, Nat.reduceSub, Array.replicate_succ, Array.replicate_zero, List.push_toArray, List.append_toArray, List.nil_append, List.cons_append]
  gi_wp2_with fail
  refine (callsIn_wide.2 CP.out).mono ?_
  rintro e Wp ⟨rfl, ⟨D, hD, hIs⟩, hBp, hsp⟩
  clear coy CP
  have HD := Lib.hid hD
  have HIS := Lib.hid hIs
  clear hD hIs
  gi_wp2_with fail
  obtain ⟨fb, hfb⟩ : ∃ fb, Wp.heap.size = fb := ⟨_, rfl⟩
  obtain ⟨Wf, hF⟩ : ∃ Wf, (Wp.alloc (.cells #[.int .i64 0] 3)).alloc (.cells #[.int .i64 0] 3) = Wf := ⟨_, rfl⟩
  have hinv0 : OpsInv J old next v Wp B0 fb l next.size 0 0 o0 Wf := by
    have hpf : Below Wp.heap.size Wp Wf := by rw [← hF]; exact ((Below.refl _ _).alloc (Nat.le_refl _) _).alloc (by simp) _
    have hyp : ItKeep B0 Wy Wp := ItKeep.below (by rw [hsy]; exact hBp)
    refine ⟨hR.kept _ _ _ hJy (hyp.trans (ItKeep.below hpf)), ⟨?_, ?_, ?_⟩, fun i _ h2 _ => hpf.block i (by omega), by omega, by omega, by omega, by omega, ?_, ?_⟩
    · rw [← hF, ← hfb]
      have h1 := Go.MapKept.heap_alloc Wp (.cells #[.int .i64 0] 3)
      have h2 := Go.MapKept.heap_alloc (Wp.alloc (.cells #[.int .i64 0] 3)) (.cells #[.int .i64 0] 3)
      exact (h2.2 Wp.heap.size (by simp)).trans h1.1
    · rw [← hF, ← hfb]
      have h2 := World.alloc_heap_new (Wp.alloc (.cells #[.int .i64 0] 3)) (.cells #[.int .i64 0] 3)
      rwa [World.size_alloc] at h2
    · exact (hpf.block B0 (by omega)).trans ((hBp.block B0 (by omega)).trans cyy)
    · rw [ba_ex_nil _ _ _ (.inl (Nat.le_refl _))]; exact hv
    · rw [← hF, ← hfb]; simp
  rw [hF, hfb]
  clear cyy hJy hJ1 hv hF
  gi_loopw [8] (fun _ wr => ∃ (j p a : Nat) (o : ByteArray), OpsInv J old next v Wp B0 fb l j p a o wr) (fun _ wr => next.size - (intOf ((wr.cell? ⟨fb + 1, 0, none⟩).getD undef)).toNat)
  case atStart => exact ⟨next.size, 0, 0, o0, hinv0⟩
  case round =>
    obtain ⟨j, p, a, o, inv⟩ := hrel
    have hpn := inv.pn
    have hap := inv.ap
    have hosz := inv.os
    have b1 : wr.cell? ⟨fb, 0, none⟩ = some (.int .i64 a) := Lib.cell_of_heap inv.own.cf 0
    have b2 : wr.cell? ⟨fb + 1, 0, none⟩ = some (.int .i64 p) := Lib.cell_of_heap inv.own.cp 0
    have b4 : wr.cell? ⟨nb, 0, none⟩ = some (.string next) := Lib.cell_of_heap (hR.nbox _ _ inv.J) 0
    by_cases h8 : p + 8 ≤ next.size
    · have t0 : decide ((p : Int) + 8 ≤ next.size) = true := by simp; omega
      obtain ⟨wb, hAb⟩ : ∃ wb, wr.alloc (.cells #[.int .i64 0, .int .i64 0, .string ⟨#[]⟩] 56) = wb := ⟨_, rfl⟩
      have hbb : Below wr.heap.size wr wb := by rw [← hAb]; exact (Below.refl _ _).alloc (Nat.le_refl _) _
      obtain ⟨tb, htb⟩ : ∃ tb, wr.heap.size = tb := ⟨_, rfl⟩
      have htbF : fb + 2 ≤ tb := by rw [← htb]; exact inv.size
      have cbb : wb.heap[tb]? = some (.cells #[.int .i64 0, .int .i64 0, .string ⟨#[]⟩] 56 (0, 0)) := by rw [← hAb, ← htb]; exact World.alloc_heap_new wr _
      have hszb : wb.heap.size = tb + 1 := by rw [← hAb, ← htb]; simp
      have d2 : wb.cell? ⟨fb + 1, 0, none⟩ = some (.int .i64 p) := (hbb.cell (p := ⟨fb + 1, 0, none⟩) (by simp only; omega)).trans b2
      have d4 : wb.cell? ⟨nb, 0, none⟩ = some (.string next) := (hbb.cell (p := ⟨nb, 0, none⟩) (by simp only; omega)).trans b4
      obtain ⟨key, hkey'⟩ : ∃ key, next.extract p (p + 8) = key := ⟨_, rfl⟩
      have hks : key.size = 8 := by rw [← hkey']; simp; omega
      have j1 : (0 : Int) ≤ p := by omega
      have j2 : (p : Int) ≤ (p : Int) + 8 := by omega
      have j3 : (p : Int) + 8 ≤ next.size := by omega
      have ew : IntKind.i64.wrap ((p : Int) + 8) = (p : Int) + 8 := by unfold IntKind.wrap; simp [IntKind.bits, IntKind.signed]; omega
      have e1 : next.extract (p : Int).toNat ((p : Int) + 8).toNat = key := by rw [← hkey']; congr 1
      have e2 : next.extract p ((p : Int) + 8).toNat = key := by rw [← hkey']; congr 1
      have HKEY := Lib.hid hkey'
      clear hkey'
      have hkey : keyOf Tryd.prog 9 (.string key) = some (.string key.data.toList) := WideMaps.keyOf_string_mk Tryd.underlying9 (by unfold maxLen; omega)
      have hDb : wb.ownsGroups Tryd.prog 9 (B0 + 1 + 1) 3 .i64 (B0 + 1) (old.size - 7) D := ownsGroups_stay (by decide) HD.out (fun i h1 h2 h3 => (hbb.block i (by omega)).trans (inv.map i h2 (by omega) h3))
      obtain ⟨vv, zs, hrun, hat, hoi, hzl, -⟩ := hDb.at keyLaw Tryd.underlying83 (zeroInts wb) (by unfold maxLen; omega) hkey
      have hzs : zs = (offsAt old (old.size - 7) key).map Int.ofNat := by
        have := HIS.out.2 key
        rw [hat, rowInts_datum hoi] at this
        exact this
      obtain ⟨N, hN⟩ : ∃ N, (offsAt old (old.size - 7) key).length = N := ⟨_, rfl⟩
      have hzN : zs.length = N := by rw [hzs, List.length_map, hN]
      have hNle : N ≤ 8192 := by omega
      obtain ⟨ao, cap, hvv⟩ : ∃ ao cap, vv = .slice ao N cap := by
        rcases hoi.1.2 with ⟨h3, h0⟩ | ⟨g, cap, cur, h3, _⟩
        · exact ⟨none, 0, by rw [h3]; congr 1; omega⟩
        · exact ⟨_, cap, by rw [h3, hzN]⟩
      subst hvv
      have HOI := Lib.hid hoi
      have HZS := Lib.hid hzs
      have HHN := Lib.hid hN
      have HAb := Lib.hid hAb
      have HTB := Lib.hid htb
      rw [← hAb] at hrun
      have q2 := d2
      have q4 := d4
      rw [← hAb] at q2 q4
      clear hat hoi hzl hzs hN hDb hkey hAb htb
      gi_wp2_with fail
      rw [HAb.out, HTB.out]
      clear hrun q2 q4
      have hobx : wb.heap[ob]? = some (.cells #[.string old] 9 (0, 0)) := (hbb.block ob (by have := HTB.out; omega)).trans (hR.obox _ _ inv.J)
      have hnbx : wb.heap[nb]? = some (.cells #[.string next] 9 (0, 0)) := (hbb.block nb (by have := HTB.out; omega)).trans (hR.nbox _ _ inv.J)
      have hpbx : wb.heap[fb + 1]? = some (.cells #[.int .i64 p] 3 (0, 0)) := (hbb.block (fb + 1) (by have := HTB.out; omega)).trans inv.own.cp
      have hfbx : wb.heap[fb]? = some (.cells #[.int .i64 a] 3 (0, 0)) := (hbb.block fb (by have := HTB.out; omega)).trans inv.own.cf
      have hybx : wb.heap[B0]? = some (.cells #[.func (.yield l) #[] #[]] 82 (0, 0)) := (hbb.block B0 (by have := HTB.out; omega)).trans inv.own.cy
      clear d2 d4
      obtain ⟨wo, rfl⟩ : ∃ wo : World, wo = wr := ⟨_, rfl⟩
      gi_loopw [29] (fun v29 wz => ∃ (i : Nat) (b : Nat × Nat), v29 = .int .i64 i ∧ i ≤ N ∧ wz.heap[tb]? = some (.cells #[.int .i64 b.1, .int .i64 b.2, .string ⟨#[]⟩] 56 (0, 0)) ∧ OneBut tb wb wz ∧ Hid (((offsAt old (old.size - 7) key).take i).foldl (bestStep old next p) (0, 0) = b)) (fun v29 _ => N - (intOf v29).toNat)
      case atStart => exact ⟨0, (0, 0), rfl, by omega, cbb, ⟨rfl, rfl, rfl, rfl, fun _ _ => rfl⟩, Lib.hid rfl⟩
      case round =>
        obtain ⟨i, ⟨b, ba⟩, rfl, hi, cz, hz, Hb⟩ := hrel
        dsimp only at cz
        have y1 : wr.cell? ⟨ob, 0, none⟩ = some (.string old) := Lib.cell_of_heap ((hz.same ob (by omega)).trans hobx) 0
        have y2 : wr.cell? ⟨nb, 0, none⟩ = some (.string next) := Lib.cell_of_heap ((hz.same nb (by omega)).trans hnbx) 0
        have y3 : wr.cell? ⟨fb + 1, 0, none⟩ = some (.int .i64 p) := Lib.cell_of_heap ((hz.same (fb + 1) (by omega)).trans hpbx) 0
        have x0 : wr.cell? ⟨tb, 0, none⟩ = some (.int .i64 b) := Lib.cell_of_heap cz 0
        have x1 : wr.cell? ⟨tb, 1, none⟩ = some (.int .i64 ba) := Lib.cell_of_heap cz 1
        have x2 : wr.cell? ⟨tb, 2, none⟩ = some (.string ⟨#[]⟩) := Lib.cell_of_heap cz 2
        have z0 : wr.frozen? ⟨tb, 0, none⟩ = false := Lib.frozen_of_heap cz 0
        have z1 : wr.frozen? ⟨tb, 1, none⟩ = false := Lib.frozen_of_heap cz 1
        have z2 : wr.frozen? ⟨tb, 2, none⟩ = false := Lib.frozen_of_heap cz 2
        by_cases hlt : i < N
        · have t1 : decide ((i : Int) < N) = true := by simp; omega
          obtain ⟨off, hoff⟩ : ∃ off, (offsAt old (old.size - 7) key)[i]? = some off := ⟨_, List.getElem?_eq_getElem (by have := HHN.out; omega)⟩
          have hoff8 := offs_mem hoff
          obtain ⟨g, rfl⟩ : ∃ g, ao = some ⟨g, 0, none⟩ := by
            rcases HOI.out.1.2 with ⟨h3, h0⟩ | ⟨g, cap', cur, h3, _⟩
            · omega
            · simp only [Value.slice.injEq] at h3
              exact ⟨g, h3.1⟩
          have hrow := HOI.out.1
          rw [hzN] at hrow
          have ce0 := hrow.cellAt i (by omega)
          have hgb : wr.heap[g]? = wb.heap[g]? := hz.same g (by
            intro e
            subst e
            rcases hrow.2 with ⟨h3, h0⟩ | ⟨g', cap', cur, h3, _, hh, _⟩
            · cases h3
            · simp only [Value.slice.injEq, Option.some.injEq, Addr.mk.injEq] at h3
              obtain ⟨⟨rfl, _⟩, _⟩ := h3
              rw [cbb] at hh
              simp only [Option.some.injEq, Obj.cells.injEq] at hh
              exact absurd hh.2.1 (by decide))
          have ce : wr.cell? ⟨g, i, none⟩ = some (.int .i64 off) := by
            have : wr.cell? ⟨g, i, none⟩ = wb.cell? ⟨g, i, none⟩ := by unfold World.cell?; rw [hgb]
            rw [this, ce0, HZS.out]
            simp [hoff]
          clear ce0 hrow hgb
          obtain ⟨x, hx⟩ : ∃ x, old.extract off old.size = x := ⟨_, rfl⟩
          obtain ⟨y, hy⟩ : ∃ y, next.extract p next.size = y := ⟨_, rfl⟩
          obtain ⟨c, hc⟩ : ∃ c, lcpB old next off p = c := ⟨_, rfl⟩
          have cc := fun W => callsIn_wide (n := n - 1) |>.2 (common_any x y W (by rw [← hx]; simp; omega) (by rw [← hy]; simp; omega))
          have hcc : lcpB x y 0 0 = c := by rw [← hx, ← hy, lcpB_ex, hc]
          simp only [hcc] at cc
          have CC := Lib.hid cc
          have k1 : (0 : Int) ≤ off := by omega
          have k2 : (off : Int) ≤ old.size := by omega
          have k3 : (0 : Int) ≤ p := by omega
          have k4 : (p : Int) ≤ next.size := by omega
          have k5 : (0 : Int) ≤ i := by omega
          have k6 : (i : Int) < N := by omega
          have hstep : ((offsAt old (old.size - 7) key).take (i + 1)).foldl (bestStep old next p) (0, 0) = if b < c then (c, off) else (b, ba) := by
            rw [List.take_add_one, hoff, List.foldl_append, Hb.out]
            simp only [Option.toList, List.foldl_cons, List.foldl_nil, bestStep, hc]
          have HST := Lib.hid hstep
          clear cc hcc hstep hc hoff
          by_cases hbc : b < c
          · have t2 : decide ((b : Int) < c) = true := by simp; omega
            gi_wp2_with fail
            gi_big_quiet_th ((gi_at_call 39; exact CallsIn.quiet_of (CC.out _)))
            gi_wp2_with fail
            refine ⟨⟨i + 1, (c, off), by go_num, by omega, set3_same (W := wr.drewN nq) cz, ⟨hz.os, hz.tape, hz.output, by simp [World.setCell]; exact hz.size, fun k hk => ?_⟩, Lib.hid (by rw [HST.out, if_pos hbc])⟩, by simp [intOf]; omega⟩
            exact (Below.heap_setCell _ _ _ _ hk).trans ((Below.heap_setCell _ _ _ _ hk).trans ((Below.heap_setCell _ _ _ _ hk).trans (hz.same k hk)))
          · have t2 : decide ((b : Int) < c) = false := by simp; omega
            gi_wp2_with fail
            gi_big_quiet_th ((gi_at_call 39; exact CallsIn.quiet_of (CC.out _)))
            gi_wp2_with fail
            go_roundw
            case rel => exact ⟨i + 1, (b, ba), by go_num, by omega, cz, ⟨hz.os, hz.tape, hz.output, hz.size, hz.same⟩, Lib.hid (by rw [HST.out, if_neg hbc])⟩
            case measure => simp [intOf]; omega
        · obtain rfl : i = N := by omega
          have t1 : decide ((i : Int) < i) = false := by simp
          have hb : bestF old next p = (b, ba) := by
            unfold bestF
            rw [HKEY.out, ← Hb.out, ← HHN.out, List.take_length]
          have hJr : J o.data.toList wr := hR.kept _ _ _ inv.J ((ItKeep.below hbb).trans (hz.it cbb (by omega)))
          have g1 : wr.heap[fb]? = some (.cells #[.int .i64 a] 3 (0, 0)) := (hz.same fb (by omega)).trans hfbx
          have g2 : wr.heap[fb + 1]? = some (.cells #[.int .i64 p] 3 (0, 0)) := (hz.same (fb + 1) (by omega)).trans hpbx
          have g3 : wr.heap[B0]? = some (.cells #[.func (.yield l) #[] #[]] 82 (0, 0)) := (hz.same B0 (by omega)).trans hybx
          have gz1 : wr.frozen? ⟨fb, 0, none⟩ = false := Lib.frozen_of_heap g1 0
          have gz2 : wr.frozen? ⟨fb + 1, 0, none⟩ = false := Lib.frozen_of_heap g2 0
          have gm : ∀ k, B0 + 1 ≤ k → k < fb → ¬ BytesAt Wp k → wr.heap[k]? = Wp.heap[k]? := fun k h1 h2 h3 => (hz.same k (by omega)).trans ((hbb.block k (by have := HTB.out; omega)).trans (inv.map k h1 h2 h3))
          have gsz : fb + 2 ≤ wr.heap.size := by rw [hz.size]; omega
          have hbf := bestF_is old next p h8
          rw [hb] at hbf
          obtain ⟨⟨ln, la⟩, hl⟩ : ∃ q, longestF old next p = q := ⟨_, rfl⟩
          have hlle := longestF_le old next p
          rw [hl] at hbf hlle
          dsimp only at hbf hlle
          have HL := Lib.hid hl
          have HBF := Lib.hid hbf
          clear hl hbf hb
          by_cases hb0 : b = 0
          · subst hb0
            have hln : ¬ 8 ≤ ln := by
              intro h
              have := HBF.out
              rw [if_pos h] at this
              simp only [Prod.mk.injEq] at this
              omega
            gi_wp2_with fail
            obtain ⟨j', hj', hs'⟩ := diffGo_fresh (f := next.extract a p) (o := o) (show p < next.size by omega) inv.jp HL.out hln
            refine ⟨⟨j', p + 1, a, o, ⟨hR.kept _ _ _ hJr (ItKeep.set wr g2 (by decide) (by omega)), ⟨(Below.heap_setCell _ _ _ _ (by simp)).trans g1, by have := set1_same (x := .int .i64 ((p : Int) + 1)) g2; simpa using this, (Below.heap_setCell _ _ _ _ (by simp; omega)).trans g3⟩, fun k h1 h2 h3 => (Below.heap_setCell _ _ _ _ (by simp; omega)).trans (gm k h1 h2 h3), by omega, by omega, by omega, by have := inv.jp; omega, ?_, by simp [World.setCell]; exact gsz⟩⟩, ?_⟩
            · have hv := inv.val
              rw [hs', ba_ex_join _ _ _ _ hap (by omega)] at hv
              exact hv
            · rw [Lib.cell_of_heap (set1_same (x := .int .i64 ((p : Int) + 1)) g2) 0, b2]
              simp [intOf]
              omega
          · have hbt : ((b : Int) == 0) = false := by simp; omega
            have hln : 8 ≤ ln := by
              rcases Nat.lt_or_ge ln 8 with h | h
              · have := HBF.out
                rw [if_neg (by omega)] at this
                simp only [Prod.mk.injEq] at this
                omega
              · exact h
            have hbl : b = ln ∧ ba = la := by
              have := HBF.out
              rw [if_pos hln] at this
              simpa using this
            obtain ⟨rfl, rfl⟩ := hbl
            have cfl := flush_in Fence.wide rfl (n - 1) trivial rfl l B0 ob nb fb (fb + 1) B0 old next J hR hns (by omega) (by omega) (Nat.le_refl _) o.data.toList a p _ hJr hap hpn (by rw [ba_size]; omega) g1 g2 g3
            have CFL := Lib.hid cfl
            clear cfl
            gi_wp2_with fail
            refine (CFL.out).mono ?_
            rintro e W5 ⟨rfl, hJ5, hK5⟩
            have hins := insF_size (next.extract a p)
            have hexs : (next.extract a p).size ≤ next.size := by simp; omega
            have cz5 := hK5.cells cz (by decide) (by omega)
            have h51 := hK5.cells g1 (by decide) (by omega)
            have h52 := hK5.cells g2 (by decide) (by omega)
            have h53 := hK5.cells g3 (by decide) (Nat.le_refl _)
            have v0 : W5.cell? ⟨tb, 0, none⟩ = some (.int .i64 b) := Lib.cell_of_heap cz5 0
            have v1 : W5.cell? ⟨tb, 1, none⟩ = some (.int .i64 ba) := Lib.cell_of_heap cz5 1
            have v2 : W5.cell? ⟨tb, 2, none⟩ = some (.string ⟨#[]⟩) := Lib.cell_of_heap cz5 2
            have v3 : W5.cell? ⟨B0, 0, none⟩ = some (.func (.yield l) #[] #[]) := Lib.cell_of_heap h53 0
            obtain ⟨fn, tmps, assign, body, hy, hRd⟩ := hR.round (n - 1) _ ⟨b, ba, ⟨#[]⟩⟩ W5 hJ5 ⟨⟨by simp only; omega, by simp only; omega, (Nat.zero_le 8192)⟩, by rw [List.length_append, ba_size, ba_size]; omega⟩
            dsimp only [opV] at hy
            have HJ5 := Lib.hid hJ5
            clear hJ5
            gi_wp2_with fail
            refine hRd.mono ?_
            rintro e W6 ⟨rfl, hJ6, hK6⟩
            have cz6 := hK6.cells cz5 (by decide) (by omega)
            have h61 := hK6.cells h51 (by decide) (by omega)
            have h62 := hK6.cells h52 (by decide) (by omega)
            have h63 := hK6.cells h53 (by decide) (Nat.le_refl _)
            have r0 : W6.cell? ⟨tb, 0, none⟩ = some (.int .i64 b) := Lib.cell_of_heap cz6 0
            have r1 : W6.cell? ⟨fb, 0, none⟩ = some (.int .i64 a) := Lib.cell_of_heap h61 0
            have r2 : W6.cell? ⟨fb + 1, 0, none⟩ = some (.int .i64 p) := Lib.cell_of_heap h62 0
            have rz1 : W6.frozen? ⟨fb, 0, none⟩ = false := Lib.frozen_of_heap h61 0
            have rz2 : W6.frozen? ⟨fb + 1, 0, none⟩ = false := Lib.frozen_of_heap h62 0
            gi_wp2_with fail
            obtain ⟨j', hj', hs'⟩ := diffGo_copy (f := next.extract a p) (o := o) (show p < next.size by omega) inv.jp HL.out hln
            have ex : (p : Int) + (b : Int) = ((p + b : Nat) : Int) := by simp
            rw [ex]
            have s7 := set1_same (x := .int .i64 ((p + b : Nat) : Int)) h62
            have t7 : (W6.setCell ⟨fb + 1, 0, none⟩ (.int .i64 ((p + b : Nat) : Int))).heap[fb]? = some (.cells #[.int .i64 a] 3 (0, 0)) := (Below.heap_setCell _ _ _ _ (by simp)).trans h61
            have u7 : (W6.setCell ⟨fb + 1, 0, none⟩ (.int .i64 ((p + b : Nat) : Int))).heap[B0]? = some (.cells #[.func (.yield l) #[] #[]] 82 (0, 0)) := (Below.heap_setCell _ _ _ _ (by simp; omega)).trans h63
            have hJ7 := hR.kept _ _ _ (hR.kept _ _ _ hJ6 (ItKeep.set (v := .int .i64 ((p + b : Nat) : Int)) W6 h62 (by decide) (by omega))) (ItKeep.set (v := .int .i64 ((p + b : Nat) : Int)) _ t7 (by decide) (by omega))
            have eo : o.data.toList ++ (insF (next.extract a p)).data.toList ++ (encOp ⟨b, ba, ⟨#[]⟩⟩).data.toList = (o ++ insF (next.extract a p) ++ numS b ++ numS ba).data.toList := by
              unfold encOp
              rw [if_pos (by simp only; omega)]
              simp [ByteArray.data_append]
            rw [eo] at hJ7
            have z7 := set1_same (x := .int .i64 ((p + b : Nat) : Int)) t7
            refine ⟨⟨j', p + b, p + b, _, ⟨hJ7, ⟨z7, (Below.heap_setCell _ _ _ _ (by simp)).trans s7, (Below.heap_setCell _ _ _ _ (by simp; omega)).trans u7⟩, fun k h1 h2 h3 => ?_, Nat.le_refl _, by omega, ?_, by have := inv.jp; omega, ?_, ?_⟩⟩, ?_⟩
            · refine (Below.heap_setCell _ _ _ _ (by simp; omega)).trans ((Below.heap_setCell _ _ _ _ (by simp; omega)).trans ?_)
              have e0 := gm k h1 h2 h3
              have hkl : k < wr.heap.size := by omega
              have hn0 : ¬ BytesAt wr k := fun ⟨cs, fz, hc⟩ => h3 ⟨cs, fz, e0 ▸ hc⟩
              exact ((hK5.trans hK6).2 k (by omega) hkl hn0).trans e0
            · have q1 := numS_size b
              have q2 := numS_size ba
              simp only [ba_append_size]
              omega
            · rw [ba_ex_nil _ _ _ (.inl (Nat.le_refl _)), ← hs']
              exact inv.val
            · simp only [World.setCell, Array.size_modify]
              exact Nat.le_trans gsz (hK5.trans hK6).1
            · rw [Lib.cell_of_heap ((Below.heap_setCell _ _ _ _ (by simp)).trans s7) 0, b2]
              simp [intOf]
              omega
    · have t0 : decide ((p : Int) + 8 ≤ next.size) = false := by simp; omega
      have f1 := inv.own.cp
      have hfz : wr.frozen? ⟨fb + 1, 0, none⟩ = false := Lib.frozen_of_heap f1 0
      have hJ2 : J o.data.toList (wr.setCell ⟨fb + 1, 0, none⟩ (.int .i64 next.size)) := hR.kept _ _ _ inv.J (ItKeep.set wr f1 (by decide) (by omega))
      have c2 : (wr.setCell ⟨fb + 1, 0, none⟩ (.int .i64 next.size)).heap[fb + 1]? = some (.cells #[.int .i64 next.size] 3 (0, 0)) := by simp [World.setCell, Array.getElem?_modify, f1]
      have c1 : (wr.setCell ⟨fb + 1, 0, none⟩ (.int .i64 next.size)).heap[fb]? = some (.cells #[.int .i64 a] 3 (0, 0)) := (Below.heap_setCell _ _ _ _ (by simp)).trans inv.own.cf
      have c3 : (wr.setCell ⟨fb + 1, 0, none⟩ (.int .i64 next.size)).heap[B0]? = some (.cells #[.func (.yield l) #[] #[]] 82 (0, 0)) := (Below.heap_setCell _ _ _ _ (by simp; omega)).trans inv.own.cy
      have cfl := flush_in Fence.wide rfl (n - 1) trivial rfl l B0 ob nb fb (fb + 1) B0 old next J hR hns (by omega) (by omega) (Nat.le_refl _) o.data.toList a next.size _ hJ2 (by omega) (Nat.le_refl _) (by rw [ba_size]; omega) c1 c2 c3
      have CFL := Lib.hid cfl
      clear cfl c1 c2 c3 hJ2
      gi_wp2_with fail
      refine (CFL.out).mono ?_
      rintro e W9 ⟨rfl, hJ9, -⟩
      gi_wp2_with fail
      refine bodyPost_end (results_none rfl _ _ _) rfl ⟨⟨_, rfl⟩, ?_⟩
      have hval := inv.val
      rw [diffGo_tail old next j p _ _ (by omega) inv.jp, ba_ex_join _ _ _ _ hap hpn] at hval
      rw [← hval, ByteArray.data_append, Array.toList_append]
      exact hJ9
end Go.Proofs.YtncbgbmgbokeoaaDoor
