/- partner.Receive: where it gives no answer. -/
import Derived.Test.YtkpgadjhcnkadaaDoorPartner
import Derived.Lib.QuietBelow
import Derived.BigQuiet
import Derived.Deep.DrawnRows
set_option linter.unusedSimpArgs false
set_option linter.unusedVariables false
namespace Go.Proofs.YtkpgadjhcnkadaaDoor
open Go.RowKit Go.Sort

/-- What the frame's two boxes and the partner hold. -/
structure Boxes (c2 c3 p : Nat) (id : Int) (m : Msg) (W : World) : Prop where
  f1 : W.cell? ⟨c2, 0, none⟩ = some (.pointer (some ⟨p, 0, none⟩))
  f2 : W.cell? ⟨p, 0, none⟩ = some (.int .i64 id)
  f3 : W.cell? ⟨c3, 0, none⟩ = some (.int .i64 m.kind)
  f4 : W.cell? ⟨c3, 1, none⟩ = some (.int .i64 m.partner)
  f5 : W.cell? ⟨c3, 2, none⟩ = some (.int .i64 m.seq)
  f6 : W.cell? ⟨c3, 3, none⟩ = some (.int .i64 m.story)
  f7 : W.cell? ⟨c3, 4, none⟩ = some (.int .i64 m.base)
  f8 : W.cell? ⟨c3, 5, none⟩ = some (.int .i64 m.version)
  f9 : W.cell? ⟨c3, 6, none⟩ = some (.string m.data)
theorem Boxes.below {c2 c3 p B : Nat} {id : Int} {m : Msg} {W W' : World} (h : Boxes c2 c3 p id m W) (hb : Below B W W') (h2 : c2 < B) (h3 : c3 < B) (hp : p < B) : Boxes c2 c3 p id m W' :=
  ⟨(hb.cell (p := ⟨c2, 0, none⟩) h2).trans h.f1, (hb.cell (p := ⟨p, 0, none⟩) hp).trans h.f2, (hb.cell (p := ⟨c3, 0, none⟩) h3).trans h.f3, (hb.cell (p := ⟨c3, 1, none⟩) h3).trans h.f4, (hb.cell (p := ⟨c3, 2, none⟩) h3).trans h.f5, (hb.cell (p := ⟨c3, 3, none⟩) h3).trans h.f6, (hb.cell (p := ⟨c3, 4, none⟩) h3).trans h.f7, (hb.cell (p := ⟨c3, 5, none⟩) h3).trans h.f8, (hb.cell (p := ⟨c3, 6, none⟩) h3).trans h.f9⟩
theorem Boxes.made {p b : Nat} {id : Int} {l : List (Int × Held)} {w : World} (hp : IsP p b id l w) (m : Msg) :
    Boxes w.heap.size (w.heap.size + 1) p id m ((w.alloc (.cells #[.pointer (some ⟨p, 0, none⟩)] 25)).alloc (.cells #[.int .i64 m.kind, .int .i64 m.partner, .int .i64 m.seq, .int .i64 m.story, .int .i64 m.base, .int .i64 m.version, .string m.data] 33)) := by
  have h1 := Go.MapKept.heap_alloc w (.cells #[.pointer (some ⟨p, 0, none⟩)] 25)
  have h2 := Go.MapKept.heap_alloc (w.alloc (.cells #[.pointer (some ⟨p, 0, none⟩)] 25)) (.cells #[.int .i64 m.kind, .int .i64 m.partner, .int .i64 m.seq, .int .i64 m.story, .int .i64 m.base, .int .i64 m.version, .string m.data] 33)
  have h3 := World.alloc_heap_new (w.alloc (.cells #[.pointer (some ⟨p, 0, none⟩)] 25)) (.cells #[.int .i64 m.kind, .int .i64 m.partner, .int .i64 m.seq, .int .i64 m.story, .int .i64 m.base, .int .i64 m.version, .string m.data] 33)
  rw [World.size_alloc] at h3
  have h4 := (h2.2 w.heap.size (by simp)).trans h1.1
  have hb : Below w.heap.size w ((w.alloc (.cells #[.pointer (some ⟨p, 0, none⟩)] 25)).alloc (.cells #[.int .i64 m.kind, .int .i64 m.partner, .int .i64 m.seq, .int .i64 m.story, .int .i64 m.base, .int .i64 m.version, .string m.data] 33)) := ((Below.refl _ _).alloc (Nat.le_refl _) _).alloc (by simp) _
  exact ⟨Lib.cell_of_heap h4 0, (hb.cell (p := ⟨p, 0, none⟩) hp.lt).trans hp.c0, Lib.cell_of_heap h3 0, Lib.cell_of_heap h3 1, Lib.cell_of_heap h3 2, Lib.cell_of_heap h3 3, Lib.cell_of_heap h3 4, Lib.cell_of_heap h3 5, Lib.cell_of_heap h3 6⟩

set_option maxRecDepth 100000 in
set_option maxHeartbeats 6400000 in
theorem receive_bad {p b : Nat} {id : Int} {l : List (Int × Held)} {w : World} (hp : IsP p b id l w) (m : Msg) (hd : m.data.size ≤ 4611686018427387904) (h : validM m = false) :
    Calls Tryd.prog 18 #[.pointer (some ⟨p, 0, none⟩), msgV m] w fun e w' => e = .returned (.slice none 0 0) ∧ Below w.heap.size w w' := by
  have cv := fun W => valid_any m W hd
  rw [h] at cv
  have hbx := Boxes.made hp m
  obtain ⟨w2, hw2⟩ : ∃ w2, (w.alloc (.cells #[.pointer (some ⟨p, 0, none⟩)] 25)).alloc (.cells #[.int .i64 m.kind, .int .i64 m.partner, .int .i64 m.seq, .int .i64 m.story, .int .i64 m.base, .int .i64 m.version, .string m.data] 33) = w2 := ⟨_, rfl⟩
  have hB2 : Below w.heap.size w w2 := by rw [← hw2]; exact ((Below.refl _ _).alloc (Nat.le_refl _) _).alloc (by simp) _
  rw [hw2] at hbx
  have HW := Lib.hid hw2
  have k1 := cell_regrown hbx.f1
  have k2 := cell_regrown hbx.f2
  have k3 := cell_regrown hbx.f3
  have k4 := cell_regrown hbx.f4
  have k5 := cell_regrown hbx.f5
  have k6 := cell_regrown hbx.f6
  have k7 := cell_regrown hbx.f7
  have k8 := cell_regrown hbx.f8
  have k9 := cell_regrown hbx.f9
  have cV : ∀ d os, Calls Tryd.prog 31 #[msgV m] (grow (redrawn w2 d) os) fun e w'' => e = .returned (.bool false) ∧ ∃ q : Regrown, w'' = grow (redrawn w2 q.d) q.os := fun d os => Calls.regrown_of (cv _)
  unfold msgV at cV ⊢
  have CV := Lib.hid cV
  clear cv hbx hp hw2 cV
  go_enter Tryd.func18, Tryd.ntmps18
  go_wp2_with fail
  rw [HW.out]
  refine wp_region_quiet_below (by kernel_rfl) (by kernel_rfl) ?_
  repeat (go_big_quiet_step (exact CV.out _ _))
  refine wpQuiet_nil ?_
  intro _ hw'
  obtain ⟨⟨dq, osq⟩, hw''⟩ := hw'
  subst hw''
  go_wp2_with fail
  go_ret
  exact ⟨rfl, hB2.trans ((below_regrown w2 dq osq).mono hB2.size)⟩
set_option maxRecDepth 100000 in
set_option maxHeartbeats 6400000 in
theorem receive_other {p b : Nat} {id : Int} {l : List (Int × Held)} {w : World} (hp : IsP p b id l w) (m : Msg) (hd : m.data.size ≤ 4611686018427387904) (h : validM m = true) (hpa : m.partner ≠ id) :
    Calls Tryd.prog 18 #[.pointer (some ⟨p, 0, none⟩), msgV m] w fun e w' => e = .returned (.slice none 0 0) ∧ Below w.heap.size w w' := by
  have cv := fun W => valid_any m W hd
  rw [h] at cv
  have q1 : (m.partner != id) = true := by simpa using hpa
  have hbx := Boxes.made hp m
  obtain ⟨w2, hw2⟩ : ∃ w2, (w.alloc (.cells #[.pointer (some ⟨p, 0, none⟩)] 25)).alloc (.cells #[.int .i64 m.kind, .int .i64 m.partner, .int .i64 m.seq, .int .i64 m.story, .int .i64 m.base, .int .i64 m.version, .string m.data] 33) = w2 := ⟨_, rfl⟩
  have hB2 : Below w.heap.size w w2 := by rw [← hw2]; exact ((Below.refl _ _).alloc (Nat.le_refl _) _).alloc (by simp) _
  rw [hw2] at hbx
  have HW := Lib.hid hw2
  have k1 := cell_regrown hbx.f1
  have k2 := cell_regrown hbx.f2
  have k3 := cell_regrown hbx.f3
  have k4 := cell_regrown hbx.f4
  have k5 := cell_regrown hbx.f5
  have k6 := cell_regrown hbx.f6
  have k7 := cell_regrown hbx.f7
  have k8 := cell_regrown hbx.f8
  have k9 := cell_regrown hbx.f9
  have cV : ∀ d os, Calls Tryd.prog 31 #[msgV m] (grow (redrawn w2 d) os) fun e w'' => e = .returned (.bool true) ∧ ∃ q : Regrown, w'' = grow (redrawn w2 q.d) q.os := fun d os => Calls.regrown_of (cv _)
  unfold msgV at cV ⊢
  have CV := Lib.hid cV
  clear cv hbx hp hw2 cV
  go_enter Tryd.func18, Tryd.ntmps18
  go_wp2_with fail
  rw [HW.out]
  refine wp_region_quiet_below (by kernel_rfl) (by kernel_rfl) ?_
  repeat (go_big_quiet_step (exact CV.out _ _))
  refine wpQuiet_nil ?_
  intro _ hw'
  obtain ⟨⟨dq, osq⟩, hw''⟩ := hw'
  subst hw''
  go_wp2_with fail
  go_ret
  exact ⟨rfl, hB2.trans ((below_regrown w2 dq osq).mono hB2.size)⟩
set_option maxRecDepth 100000 in
set_option maxHeartbeats 6400000 in
theorem receive_kind {p b : Nat} {id : Int} {l : List (Int × Held)} {w : World} (hp : IsP p b id l w) (m : Msg) (hd : m.data.size ≤ 4611686018427387904) (h : validM m = true) (hpa : m.partner = id) (hk : m.kind ≠ 1 ∧ m.kind ≠ 2) :
    Calls Tryd.prog 18 #[.pointer (some ⟨p, 0, none⟩), msgV m] w fun e w' => e = .returned (.slice none 0 0) ∧ Below w.heap.size w w' := by
  have cv := fun W => valid_any m W hd
  rw [h] at cv
  have q1 : (m.partner != id) = false := by simpa using hpa
  have q2 : (m.kind != 1) = true := by simpa using hk.1
  have q3 : (m.kind != 2) = true := by simpa using hk.2
  clear hpa hk
  have hbx := Boxes.made hp m
  obtain ⟨w2, hw2⟩ : ∃ w2, (w.alloc (.cells #[.pointer (some ⟨p, 0, none⟩)] 25)).alloc (.cells #[.int .i64 m.kind, .int .i64 m.partner, .int .i64 m.seq, .int .i64 m.story, .int .i64 m.base, .int .i64 m.version, .string m.data] 33) = w2 := ⟨_, rfl⟩
  have hB2 : Below w.heap.size w w2 := by rw [← hw2]; exact ((Below.refl _ _).alloc (Nat.le_refl _) _).alloc (by simp) _
  rw [hw2] at hbx
  have HW := Lib.hid hw2
  have k1 := cell_regrown hbx.f1
  have k2 := cell_regrown hbx.f2
  have k3 := cell_regrown hbx.f3
  have k4 := cell_regrown hbx.f4
  have k5 := cell_regrown hbx.f5
  have k6 := cell_regrown hbx.f6
  have k7 := cell_regrown hbx.f7
  have k8 := cell_regrown hbx.f8
  have k9 := cell_regrown hbx.f9
  have cV : ∀ d os, Calls Tryd.prog 31 #[msgV m] (grow (redrawn w2 d) os) fun e w'' => e = .returned (.bool true) ∧ ∃ q : Regrown, w'' = grow (redrawn w2 q.d) q.os := fun d os => Calls.regrown_of (cv _)
  unfold msgV at cV ⊢
  have CV := Lib.hid cV
  clear cv hbx hp hw2 cV
  go_enter Tryd.func18, Tryd.ntmps18
  go_wp2_with fail
  rw [HW.out]
  refine wp_region_quiet_below (by kernel_rfl) (by kernel_rfl) ?_
  repeat (go_big_quiet_step (exact CV.out _ _))
  refine wpQuiet_nil ?_
  intro _ hw'
  obtain ⟨⟨dq, osq⟩, hw''⟩ := hw'
  subst hw''
  go_wp2_with fail
  go_ret
  exact ⟨rfl, hB2.trans ((below_regrown w2 dq osq).mono hB2.size)⟩
end Go.Proofs.YtkpgadjhcnkadaaDoor
