/- delta.Diff computes diffF. -/
import Derived.Test.YtncbgbmgbokeoaaDoorOpsIter
set_option linter.unusedVariables false
namespace Go.Proofs.YtncbgbmgbokeoaaDoor
open Go.RowKit Go.Shelf

attribute [local go_sem] Oper.semAt_some
attribute [local go_sem] wideFn wideDepth

set_option maxHeartbeats 400000 in
theorem ops_any (old next : ByteArray) (w : World) : Calls Tryd.prog 21 #[.string old, .string next] w fun e w' => e = .returned (.func (.func 36) #[] #[.pointer (some ⟨w.heap.size, 0, none⟩), .pointer (some ⟨w.heap.size + 1, 0, none⟩)]) ∧ w' = (w.alloc (.cells #[.string old] 9)).alloc (.cells #[.string next] 9) := by
  go_enter Tryd.func21, Tryd.ntmps21
  go_wp2
  go_ret
  exact ⟨rfl, rfl⟩

/-- What holds of Diff's own memory between two rounds. -/
structure DiffSt (old next : ByteArray) (w : World) (b ob k : Nat) (s : List UInt8) (W : World) : Prop where
  built : BuiltF 50 b b s W
  below : Below b w W
  size : k ≤ W.heap.size
  ge : ob + 2 ≤ k
  obox : W.heap[ob]? = some (.cells #[.string old] 9 (0, 0))
  nbox : W.heap[ob + 1]? = some (.cells #[.string next] 9 (0, 0))
theorem DiffSt.stays {old next : ByteArray} {w : World} {b ob k : Nat} {s : List UInt8} {W W' : World} (h : DiffSt old next w b ob k s W) (hob : b < ob)
    (hos : W'.os = W.os) (htp : W'.tape = W.tape) (hou : W'.output = W.output) (hsz : W.heap.size ≤ W'.heap.size) (hs : ∀ j, j < W.heap.size → j < ob + 2 ∨ BytesAt W j → W'.heap[j]? = W.heap[j]?) : DiffSt old next w b ob k s W' :=
  ⟨h.built.stays (fun j hj hb => hs j hj (hb.imp (fun e => by omega) id)),
   ⟨hos.trans h.below.os, htp.trans h.below.tape, hou.trans h.below.output, Nat.le_trans h.below.size hsz, fun j hj => (hs j (by have := h.size; have := h.ge; omega) (.inl (by omega))).trans (h.below.block j hj)⟩,
   Nat.le_trans h.size hsz, h.ge, (hs ob (by have := h.size; have := h.ge; omega) (.inl (by omega))).trans h.obox, (hs (ob + 1) (by have := h.size; have := h.ge; omega) (.inl (by omega))).trans h.nbox⟩

set_option linter.unusedSimpArgs false in
set_option maxRecDepth 100000 in
set_option maxHeartbeats 6400000 in
theorem diff_in (old next : ByteArray) (w : World) (hn : NibCells w) (hos : old.size ≤ 8192) (hns : next.size ≤ 8192) :
    CallsIn Fence.wide 9 Tryd.prog 12 #[.string old, .string next] w fun e w' => e = .returned (.string (diffF old next)) ∧ Below w.heap.size w w' := by
  obtain ⟨so, hso⟩ : ∃ so, sumB old = so := ⟨_, rfl⟩
  obtain ⟨sn, hsn⟩ : ∃ sn, sumB next = sn := ⟨_, rfl⟩
  have m1 := sum_maxInt old
  have m2 := sum_maxInt next
  rw [hso] at m1
  rw [hsn] at m2
  obtain ⟨v, hv⟩ : ∃ v, diffF old next = v := ⟨_, rfl⟩
  have hv' := hv
  unfold diffF at hv'
  rw [if_neg (by omega), hso, hsn] at hv'
  rw [hv]
  have c1 := Lib.hid (fun W h => sum_is hso (by omega) W h)
  have c2 := Lib.hid (fun W h => sum_is hsn (by omega) W h)
  have c0 := Lib.hid (fun W => isTextD_any old W)
  have c0' := Lib.hid (fun W => isTextD_any next W)
  have e0 : decide (old.size ≤ 8192) = true := by simpa using hos
  have e0' : decide (next.size ≤ 8192) = true := by simpa using hns
  have HV := Lib.hid hv'
  clear hso hsn hv hv'
  refine callsIn_of_wp_marks Tryd.func12 rfl trivial ?_ rfl
  simp only [Tryd.ntmps12, List.size_toArray, List.length_cons, List.length_nil, Nat.reduceAdd, Nat.reduceSub, Array.replicate_succ, Array.replicate_zero, List.push_toArray, List.append_toArray, List.nil_append, List.cons_append]
  gi_wp2_with fail
  refine (callsIn_wide.2 (c0.out _)).mono ?_
  rintro e w' ⟨rfl, rfl⟩
  gi_wp2_with fail
  refine (callsIn_wide.2 (c0'.out _)).mono ?_
  rintro e w' ⟨rfl, rfl⟩
  gi_wp2_with fail
  obtain ⟨wA, hA⟩ : ∃ wA, w.alloc (.cells #[.pointer none, .slice none 0 0] 50) = wA := ⟨_, rfl⟩
  obtain ⟨b, hb⟩ : ∃ b, w.heap.size = b := ⟨_, rfl⟩
  have hBA : Below w.heap.size w wA := by rw [← hA]; exact (Below.refl _ _).alloc (Nat.le_refl _) _
  have hwA : BuiltF 50 b b [] wA := by rw [← hA, ← hb]; exact BuiltF.new _ w _ (Nat.le_refl _)
  have hsA : wA.heap.size = b + 1 := by rw [← hA, ← hb]; simp
  rw [hA, hb]
  rw [hb] at hBA
  clear hA
  refine (callsIn_wide.2 (c1.out wA (hn.below (by rw [hb]; exact hBA)))).mono ?_
  rintro e _ ⟨rfl, rfl⟩
  gi_wp2_with fail
  refine (callsIn_wide.2 (writerInt_any b b [] so wA hwA m1.1 m1.2 (by simp) (by omega))).mono ?_
  rintro e w1 ⟨rfl, hw1, hb1, hn1⟩
  have hB1 := hBA.trans hb1
  gi_wp2_with fail
  refine (callsIn_wide.2 (c2.out w1 (hn.below (by rw [hb]; exact hB1)))).mono ?_
  rintro e _ ⟨rfl, rfl⟩
  gi_wp2_with fail
  have q1 := numS_size so
  have q2 := numS_size sn
  refine (callsIn_wide.2 (writerInt_any b b _ sn w1 hw1 m2.1 m2.2 (by rw [List.nil_append, ba_size]; omega) (by have := hb1.size; omega))).mono ?_
  rintro e w2 ⟨rfl, hw2, hb2, hn2⟩
  have hB2 := hB1.trans hb2
  gi_wp2_with fail
  refine (callsIn_wide.2 (ops_any old next w2)).mono ?_
  rintro e w3 ⟨rfl, rfl⟩
  have hs2 : b + 1 ≤ w2.heap.size := by have := hb1.size; have := hb2.size; omega
  obtain ⟨ob, hob⟩ : ∃ ob, w2.heap.size = ob := ⟨_, rfl⟩
  obtain ⟨w4, h4⟩ : ∃ w4, (w2.alloc (.cells #[.string old] 9)).alloc (.cells #[.string next] 9) = w4 := ⟨_, rfl⟩
  have hst : DiffSt old next w b ob (ob + 2) (numS so ++ numS sn).data.toList w4 := by
    have hB4 : Below w2.heap.size w2 w4 := by rw [← h4]; exact ((Below.refl _ _).alloc (Nat.le_refl _) _).alloc (by simp) _
    have x1 := Go.MapKept.heap_alloc w2 (.cells #[.string old] 9)
    have x2 := Go.MapKept.heap_alloc (w2.alloc (.cells #[.string old] 9)) (.cells #[.string next] 9)
    have x3 := World.alloc_heap_new (w2.alloc (.cells #[.string old] 9)) (.cells #[.string next] 9)
    rw [World.size_alloc] at x3
    refine ⟨?_, hB2.trans (hB4.mono (by omega)), by rw [← h4, ← hob]; simp, Nat.le_refl _, by rw [← h4, ← hob]; exact (x2.2 _ (by simp)).trans x1.1, by rw [← h4, ← hob]; exact x3⟩
    have := hw2.stays (w' := w4) (fun j hj _ => hB4.block j hj)
    rw [ByteArray.data_append, Array.toList_append]
    simpa using this
  have hs4 : w4.heap.size = ob + 2 := by rw [← h4, ← hob]; simp
  rw [h4, hob]
  clear h4 hw2 hw1 hwA hn1 hn2
  gi_wp2_with fail
  refine wpIn_rangeFunc_kept (α := Op3) (β := List UInt8) rfl (by decide) (gf := 36) (lb := #[.pointer (some ⟨ob, 0, none⟩), .pointer (some ⟨ob + 1, 0, none⟩)]) rfl trivial (enters_of Tryd.func36 (by kernel_rfl) rfl)
    (fun x => #[opV x]) (fun _ => rfl) (fun s x => s ++ (encOp x).data.toList) (fun s x => OpOk x ∧ s.length ≤ 8300 * (3 * next.size + 3)) (fun s => s = v.data.toList) (DiffSt old next w b ob (ob + 4)) (RKeep (w4.heap.size + 2)) ?kp
    (fun x => .cells #[.int .i64 x.n, .int .i64 x.off, .string x.s] 56) ?al ?put (numS so ++ numS sn).data.toList ?h0
    (fun x h => { tmps := #[.string old, .string next, undef, undef, .string ⟨#[]⟩, .pointer (some ⟨b, 0, none⟩), .pointer (some ⟨h, 0, none⟩), .string old, .bool true, .bool false, .bool false, .string next, .bool true, .bool false, .bool false, .string old, .int .i64 so, .tuple #[], .string next, .int .i64 sn, .tuple #[], .string old, .string next, .func (.func 36) #[] #[.pointer (some ⟨ob, 0, none⟩), .pointer (some ⟨ob + 1, 0, none⟩)], opV x, undef, undef, undef, undef], defers := [] }) ?assign ?body ?iter ?done
  case kp =>
    intro W W3 l o o' o₂ h1 h2 h3 hk
    have hsz : ((W.alloc o₂).putObj l o).heap.size = W.heap.size + 1 := by simp [World.putObj]
    refine ⟨by have := hk.1; rw [hsz] at this; simp [World.putObj]; omega, fun j hj hlt hn => ?_⟩
    have e1 : ((W.alloc o₂).putObj l o).heap[j]? = W.heap[j]? := (World.putObj_heap_other (by omega)).trans (Below.heap_alloc W _ _ hlt)
    refine (World.putObj_heap_other (by omega)).trans ((hk.2 j hj (by omega) (fun ⟨cs, fz, hc⟩ => hn ⟨cs, fz, e1 ▸ hc⟩)).trans e1)
  case al =>
    intro s W o h
    exact h.stays (by omega) rfl rfl rfl (by simp) (fun j hj _ => Below.heap_alloc W _ _ hj)
  case put =>
    intro s W l o o' h h1 h2 h3
    refine h.stays (by omega) rfl rfl rfl (by simp [World.putObj]) (fun j hj hb' => World.putObj_heap_other (fun e => ?_))
    subst e
    rcases hb' with hb' | ⟨cs, fz, hc⟩
    · omega
    · rw [h2] at hc
      cases hc
      cases h3
  case h0 =>
    intro o o'
    have s1 : DiffSt old next w b ob (ob + 2) (numS so ++ numS sn).data.toList (w4.alloc o) := hst.stays (by omega) rfl rfl rfl (by simp) (fun j hj _ => Below.heap_alloc w4 _ _ hj)
    have s2 : DiffSt old next w b ob (ob + 2) (numS so ++ numS sn).data.toList ((w4.alloc o).alloc o') := s1.stays (by omega) rfl rfl rfl (by simp) (fun j hj _ => Below.heap_alloc (w4.alloc o) _ _ hj)
    exact ⟨s2.built, s2.below, by simp; omega, by omega, s2.obox, s2.nbox⟩
  case assign =>
    intro l x W K hK
    obtain ⟨xn, xo, xs⟩ := x
    unfold opV at hK ⊢
    gi_wp2
    exact hK
  case body =>
    intro l s x W h hI hok hh hlt hc
    obtain ⟨xn, xo, xs⟩ := x
    have co := Lib.hid (fun W hw hBw hbw => writerOp_any b b s ⟨xn, xo, xs⟩ W hw hok.1 (by omega) hBw hbw)
    have f0 : W.cell? ⟨h, 0, none⟩ = some (.int .i64 xn) := Lib.cell_of_heap hc 0
    have f1 : W.cell? ⟨h, 1, none⟩ = some (.int .i64 xo) := Lib.cell_of_heap hc 1
    have f2 : W.cell? ⟨h, 2, none⟩ = some (.string xs) := Lib.cell_of_heap hc 2
    have hWb : b < W.heap.size := by have := hI.size; omega
    unfold opV at co ⊢
    dsimp only at co ⊢
    gi_wp2_with fail
    refine (CallsIn.inRound l (callsIn_wide.2 (co.out W hI.built (by omega) hWb))).mono ?_
    rintro e W9 ⟨rfl, h9, hb9, hn9⟩
    gi_wp2_with fail
    refine ⟨⟨hn9.1, fun k o h1 h2 h3 => (hn9.2 k (Array.getElem?_eq_some_iff.1 h2).1 (by omega) (fun ⟨cs, fz, hc'⟩ => by rw [h2] at hc'; cases hc'; cases h3)).trans h2⟩, ⟨hn9.1, fun j h1 h2 h3 => hn9.2 j h2 (by omega) h3⟩, h9, hI.below.trans hb9, Nat.le_trans hI.size hn9.1, hI.ge, hn9.cells hI.obox (by decide) (by omega), hn9.cells hI.nbox (by decide) (by omega)⟩
  case iter =>
    intro l W1 Mid hl hsz hM hG hY hm0
    have hR : Rounds Fence.wide l (w4.heap.size + 2) ob (ob + 1) old next Mid := by
      refine ⟨fun s A B h hk => ?_, fun s W h => by have := (hM s W h).size; omega, fun s W h => (hM s W h).obox, fun s W h => (hM s W h).nbox, fun m s x W h hok => YieldAt.depthless rfl (hY s x W h hok)⟩
      refine hG s s A B h ((hM s A h).stays (by omega) hk.os hk.tape hk.output hk.size (fun j hj hb' => hk.same j hj (hb'.imp (fun h => by omega) id))) ⟨hk.size, fun k o _ h2 h3 => hk.others k o h2 h3⟩
    refine (opsIter_in 8 l (w4.heap.size + 2) ob (ob + 1) old next v Mid hR hos hns W1 hsz (numS so ++ numS sn) hm0 (by rw [ba_append_size]; omega) HV.out (by omega) (by omega)).mono ?_
    rintro e W' ⟨h1, h2⟩
    exact ⟨h1, _, rfl, h2⟩
  case done =>
    rintro D s W hD rfl hI hK
    have cs := Lib.hid (builderString_nb (T := 50) b b v.data.toList W hI.built (by have := hI.size; omega))
    gi_wp2_with fail
    refine (callsIn_wide.2 cs.out).mono ?_
    rintro e W9 ⟨rfl, -, hb9, hn9⟩
    have hK9 : W9.heap[D]? = some (.deferred (some [])) := (hn9.2 D (Array.getElem?_eq_some_iff.1 hK).1 (by omega) (fun ⟨cs, fz, hc⟩ => by rw [hK] at hc; cases hc)).trans hK
    gi_wp2_with fail
    refine ⟨by simp, .inl ⟨_, _, rfl, run_takeDeferred hK9, ?_⟩⟩
    refine ⟨_, results_tmp rfl _ _ _, ?_, ?_⟩
    · rfl
    · have hB9 := hI.below.trans hb9
      rw [← hb] at hB9
      exact hB9.trans (belowK_b (w := w) (Nat.le_refl _) W9 D _ _ (by omega) hK9 rfl rfl)

set_option linter.unusedSimpArgs false in
set_option maxHeartbeats 1600000 in
theorem diff_any (old next : ByteArray) (w : World) (hn : NibCells w) (hos : old.size ≤ 4611686018427387904) (hns : next.size ≤ 4611686018427387904) :
    Calls Tryd.prog 12 #[.string old, .string next] w fun e w' => e = .returned (.string (diffF old next)) ∧ Below w.heap.size w w' := by
  by_cases h1 : old.size ≤ 8192
  · by_cases h2 : next.size ≤ 8192
    · exact callsIn_wide.1 (diff_in old next w hn h1 h2)
    · have e0 : decide (old.size ≤ 8192) = true := by simpa using h1
      have e1 : decide (next.size ≤ 8192) = false := by simpa using h2
      have c0 := Lib.hid (fun W => isTextD_any old W)
      have c1 := Lib.hid (fun W => isTextD_any next W)
      have hv : diffF old next = .empty := by unfold diffF; rw [if_pos (.inr (by omega))]
      rw [hv]
      clear hv
      go_enter Tryd.func12, Tryd.ntmps12
      go_wp2_with fail
      refine (c0.out _).mono ?_
      rintro e _ ⟨rfl, rfl⟩
      go_wp2_with fail
      refine (c1.out _).mono ?_
      rintro e _ ⟨rfl, rfl⟩
      go_wp2_with fail
      go_ret
      exact ⟨rfl, Below.refl _ _⟩
  · have e0 : decide (old.size ≤ 8192) = false := by simpa using h1
    have c0 := Lib.hid (fun W => isTextD_any old W)
    have hv : diffF old next = .empty := by unfold diffF; rw [if_pos (.inl (by omega))]
    rw [hv]
    clear hv
    go_enter Tryd.func12, Tryd.ntmps12
    go_wp2_with fail
    refine (c0.out _).mono ?_
    rintro e _ ⟨rfl, rfl⟩
    go_wp2_with fail
    go_ret
    exact ⟨rfl, Below.refl _ _⟩
end Go.Proofs.YtncbgbmgbokeoaaDoor
