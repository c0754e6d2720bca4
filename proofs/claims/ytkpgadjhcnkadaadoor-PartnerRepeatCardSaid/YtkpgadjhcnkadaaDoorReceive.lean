/- partner.Receive: the ways that answer and change nothing, by the sequence number alone. (COMMON: written by gen_receive.py) -/
import Derived.Test.YtkpgadjhcnkadaaDoorRecvOut
import Derived.Test.YtkpgadjhcnkadaaDoorRecvFns
import Derived.OrdersHeld
import Derived.Deep.RegionHeld3
set_option linter.unusedSimpArgs false
set_option linter.unusedVariables false
namespace Go.Proofs.YtkpgadjhcnkadaaDoor
open Go.RowKit Go.Sort
attribute [local go_sem ↓] Go.wp_at_zero Go.wp_at_succ

theorem grow_kept {w2 : World} {d : Nat} {os : Array Obj} : Below w2.heap.size w2 (grow (redrawn w2 d) os) := below_regrown w2 d os


set_option maxRecDepth 100000 in
set_option maxHeartbeats 6400000 in
theorem receive_late1 {p b : Nat} {id : Int} {l : List (Int × Held)} {w : World} (hn : NibCells w) (hp : IsP p b id l w) (m : Msg) (hd : m.data.size ≤ 4611686018427387904) (h : validM m = true) (hpa : m.partner = id) (hk : m.kind = 1) (ht : (mapAt l m.story).text.size ≤ 4611686018427387904) (hs : m.seq < (mapAt l m.story).seq) :
    Calls Tryd.prog 18 #[.pointer (some ⟨p, 0, none⟩), msgV m] w fun e w' => ∃ v, e = .returned v ∧ IsAns w.heap.size w' v (some (rejM id (mapAt l m.story).seq m.story (sumB (mapAt l m.story).text))) ∧ Below w.heap.size w w' := by
  obtain ⟨hh, hhh⟩ : ∃ hh, mapAt l m.story = hh := ⟨_, rfl⟩
  rw [hhh] at ht hs
  try rw [hhh]
  have HSQ := Lib.hid hs
  clear hs
  have HHH := Lib.hid hhh
  clear hhh
  have cv := fun W => valid_any m W hd
  rw [h] at cv
  have q1 : (m.partner != id) = false := by simpa using hpa
  have q2 : (m.kind != 1) = false := by simpa using hk
  have q4 : (m.kind == 2) = false := by simp [hk]
  clear hpa hk
  have hbx := Boxes.made hp m
  obtain ⟨w2, hw2⟩ : ∃ w2, (w.alloc (.cells #[.pointer (some ⟨p, 0, none⟩)] 25)).alloc (.cells #[.int .i64 m.kind, .int .i64 m.partner, .int .i64 m.seq, .int .i64 m.story, .int .i64 m.base, .int .i64 m.version, .string m.data] 33) = w2 := ⟨_, rfl⟩
  have hB2 : Below w.heap.size w w2 := by rw [← hw2]; exact ((Below.refl _ _).alloc (Nat.le_refl _) _).alloc (by simp) _
  have hs2 : w2.heap.size = w.heap.size + 2 := by rw [← hw2]; simp
  rw [hw2] at hbx
  have HW := Lib.hid hw2
  have k1 := cell_regrown hbx.f1
  have k2 := cell_regrown hbx.f2
  have k3 := cell_regrown hbx.f3
  have k4 := cell_regrown hbx.f4
  have k5 := cell_regrown hbx.f5
  have k6 := cell_regrown hbx.f6
  have k7 := cell_regrown hbx.f7
  have k8 := cell_regrown hbx.f8
  have k9 := cell_regrown hbx.f9
  have cV : ∀ d os, Calls Tryd.prog 31 #[msgV m] (grow (redrawn w2 d) os) fun e w'' => e = .returned (.bool true) ∧ ∃ q : Regrown, w'' = grow (redrawn w2 q.d) q.os := fun d os => Calls.regrown_of (cv _)
  unfold msgV at cV ⊢
  have CV := Lib.hid cV
  have HBX := Lib.hid hbx
  have HP := Lib.hid hp
  have HN := Lib.hid hn
  clear cv hbx hp hw2 cV hn
  go_enter Tryd.func18, Tryd.ntmps18
  go_wp2_with fail
  rw [HW.out]
  refine wp_region_quiet_below (by kernel_rfl) (by kernel_rfl) ?_
  repeat (go_big_quiet_step (exact CV.out _ _))
  refine wpQuiet_nil ?_
  intro W3 hw'
  have hb3 : Below w2.heap.size w2 W3 := by
    obtain ⟨q, hq⟩ := hw'
    rw [hq]
    exact below_regrown w2 q.d q.os
  clear hw' k1 k2 k3 k4 k5 k6 k7 k8 k9
  have hplt := HP.out.lt
  have hblt := HP.out.held.lt
  have hB3 : Below w.heap.size w W3 := hB2.trans (hb3.mono hB2.size)
  have bx := HBX.out.below hb3 (by omega) (by omega) (by omega)
  have hp3 := HP.out.below hB3 hplt hblt
  have hn3 : NibCells W3 := HN.out.below hB3
  go_wp2_with fail
  have hsz3 : w.heap.size + 2 ≤ W3.heap.size := by have := hb3.size; omega
  have hSof : ∀ W', Below W3.heap.size W3 W' → (W'.cell? ⟨w.heap.size, 0, none⟩ = some (.pointer (some ⟨p, 0, none⟩)) ∧ W'.cell? ⟨p, 1, none⟩ = some (.map (some b)) ∧ W'.cell? ⟨w.heap.size + 1, 3, none⟩ = some (.int .i64 m.story) ∧ (Instr.lookup 68 (.map (some b)) (.int .i64 m.story) false).run Tryd.prog W' = .ok (.agg #[.int .i64 hh.seq, .string hh.text, .bool hh.has]) W') := by
    intro W' hW
    have bx' := bx.below hW (by omega) (by omega) (by omega)
    have hp' := hp3.below hW (by omega) (by omega)
    have hl := run_lookup_held hp'.held m.story
    rw [HHH.out] at hl
    exact ⟨bx'.f1, hp'.c1, bx'.f6, hl⟩
  have HS := Lib.hid hSof
  clear hSof
  refine wp_region_held_drew (S := fun W' : World => W'.cell? ⟨w.heap.size, 0, none⟩ = some (.pointer (some ⟨p, 0, none⟩)) ∧ W'.cell? ⟨p, 1, none⟩ = some (.map (some b)) ∧ W'.cell? ⟨w.heap.size + 1, 3, none⟩ = some (.int .i64 m.story) ∧ (Instr.lookup 68 (.map (some b)) (.int .i64 m.story) false).run Tryd.prog W' = .ok (.agg #[.int .i64 hh.seq, .string hh.text, .bool hh.has]) W') (by kernel_rfl) (HS.out _ (Below.drew (Below.refl _ _))) (fun hHeld => ?_)
  refine wpAnyH_take (i := 0) (v := ?v1) rfl (by kernel_rfl) (by kernel_rfl) (by kernel_rfl) (fun _ _ _ h => h) (Or.inl ⟨by rfl, ?hy1⟩) (by assumption) ?rest1
  case hy1 => intro w hSw; (try dsimp only at hSw); go_simp; try with_reducible rfl
  case rest1 =>
  try simp only [Act.put, List.getElem_toArray, List.getElem_cons_succ, List.getElem_cons_zero, List.setIfInBounds_toArray, List.set_cons_zero, List.set_cons_succ]
  refine wpAnyH_take (i := 1) (v := ?v2) rfl (by kernel_rfl) (by kernel_rfl) (by kernel_rfl) (fun _ _ _ h => h) (Or.inl ⟨by rfl, ?hy2⟩) (by assumption) ?rest2
  case hy2 => intro w hSw; (try dsimp only at hSw); go_simp; try with_reducible rfl
  case rest2 =>
  try simp only [Act.put, List.getElem_toArray, List.getElem_cons_succ, List.getElem_cons_zero, List.setIfInBounds_toArray, List.set_cons_zero, List.set_cons_succ]
  refine wpAnyH_take (i := 2) (v := ?v3) rfl (by kernel_rfl) (by kernel_rfl) (by kernel_rfl) (fun _ _ _ h => h) (Or.inl ⟨by rfl, ?hy3⟩) (by assumption) ?rest3
  case hy3 => intro w hSw; (try dsimp only at hSw); go_simp; try with_reducible rfl
  case rest3 =>
  try simp only [Act.put, List.getElem_toArray, List.getElem_cons_succ, List.getElem_cons_zero, List.setIfInBounds_toArray, List.set_cons_zero, List.set_cons_succ]
  refine wpAnyH_take (i := 3) (v := ?v4) rfl (by kernel_rfl) (by kernel_rfl) (by kernel_rfl) (fun _ _ _ h => h) (Or.inl ⟨by rfl, ?hy4⟩) (by assumption) ?rest4
  case hy4 => intro w hSw; (try dsimp only at hSw); go_simp; try with_reducible rfl
  case rest4 =>
  try simp only [Act.put, List.getElem_toArray, List.getElem_cons_succ, List.getElem_cons_zero, List.setIfInBounds_toArray, List.set_cons_zero, List.set_cons_succ]
  refine wpAnyH_take (i := 4) (v := ?v5) rfl (by kernel_rfl) (by kernel_rfl) (by kernel_rfl) (fun _ _ _ h => h) (Or.inl ⟨by rfl, ?hy5⟩) (by assumption) ?rest5
  case hy5 => intro w hSw; (try dsimp only at hSw); go_simp; try with_reducible rfl
  case rest5 =>
  try simp only [Act.put, List.getElem_toArray, List.getElem_cons_succ, List.getElem_cons_zero, List.setIfInBounds_toArray, List.set_cons_zero, List.set_cons_succ]
  refine wpAnyH_take (i := 5) (v := ?v6) rfl (by kernel_rfl) (by kernel_rfl) (by kernel_rfl) (fun _ _ _ h => h) (Or.inl ⟨by rfl, ?hy6⟩) (by assumption) ?rest6
  case hy6 => intro w hSw; (try dsimp only at hSw); go_simp; try with_reducible rfl
  case rest6 =>
  try simp only [Act.put, List.getElem_toArray, List.getElem_cons_succ, List.getElem_cons_zero, List.setIfInBounds_toArray, List.set_cons_zero, List.set_cons_succ]
  refine wpAnyH_take (i := 6) (v := ?v7) rfl (by kernel_rfl) (by kernel_rfl) (by kernel_rfl) (fun _ _ _ h => h) (Or.inl ⟨by rfl, ?hy7⟩) (by assumption) ?rest7
  case hy7 => intro w hSw; (try dsimp only at hSw); go_simp; try with_reducible rfl
  case rest7 =>
  try simp only [Act.put, List.getElem_toArray, List.getElem_cons_succ, List.getElem_cons_zero, List.setIfInBounds_toArray, List.set_cons_zero, List.set_cons_succ]
  refine wpAnyH_ready (rs := [7]) (by kernel_rfl) (by simp) ?_
  refine AllReadyH.cons rfl (fun K hK => ?_) AllReadyH.nil
  go_simp
  refine hK.out _ _ (HS.out _ ((Below.drew (Below.refl _ _)).alloc (Nat.le_refl _) _)) (fun hS => ?_)
  clear hK K
  try simp only [Act.put, List.getElem_toArray, List.getElem_cons_succ, List.getElem_cons_zero, List.setIfInBounds_toArray, List.set_cons_zero, List.set_cons_succ]
  refine wpAnyH_ready (rs := [8]) (by kernel_rfl) (by simp) ?_
  refine AllReadyH.cons rfl (fun K hK => ?_) AllReadyH.nil
  go_simp
  refine hK.out _ _ (HS.out _ (Below.drew ((Below.refl _ _).alloc (Nat.le_refl _) _))) (fun hS => ?_)
  clear hK K
  try simp only [Act.put, List.getElem_toArray, List.getElem_cons_succ, List.getElem_cons_zero, List.setIfInBounds_toArray, List.set_cons_zero, List.set_cons_succ]
  refine wpAnyH_done (by kernel_rfl) ?_ _
  clear hHeld hS
  obtain ⟨c5, hc5⟩ : ∃ c5, W3.heap.size = c5 := ⟨_, rfl⟩
  obtain ⟨W5, hW5⟩ : ∃ W5, (W3.alloc (.cells #[.int .i64 hh.seq, .string hh.text, .bool hh.has] 73)).drew = W5 := ⟨_, rfl⟩
  have hb5 : Below W3.heap.size W3 W5 := by rw [← hW5]; exact Below.drew ((Below.refl _ _).alloc (Nat.le_refl _) _)
  have c5b : W5.heap[c5]? = some (.cells #[.int .i64 hh.seq, .string hh.text, .bool hh.has] 73 (0, 0)) := by rw [← hW5, ← hc5]; exact World.alloc_heap_new W3 _
  have hB5 : Below w.heap.size w W5 := hB3.trans (hb5.mono hB3.size)
  have bx5 := bx.below hb5 (by omega) (by omega) (by omega)
  have hp5 := hp3.below hb5 (by omega) (by omega)
  have hn5 : NibCells W5 := hn3.below hb5
  rw [hW5, hc5]
  clear hW5 HS
  have g1 := bx5.f1
  have g5 := bx5.f5
  have h51 : W5.cell? ⟨c5, 0, none⟩ = some (.int .i64 hh.seq) := Lib.cell_of_heap c5b 0
  have h52 : W5.cell? ⟨c5, 1, none⟩ = some (.string hh.text) := Lib.cell_of_heap c5b 1
  have t0 : decide (m.seq < hh.seq) = true := by simpa using HSQ.out
  have CR := Lib.hid (reject_any hh.seq id m.story hh.text p w.heap.size (w.heap.size + 1) c5 W5 hn5 ht bx5.f1 bx5.f2 bx5.f6 h52)
  go_wp2_with fail
  refine (CR.out).mono ?_
  rintro e W6 ⟨v, rfl, hans, hb6⟩
  go_wp2_with fail
  go_ret
  refine ⟨v, rfl, ?_, hB5.trans (hb6.mono hB5.size)⟩
  obtain ⟨g, hg, hv, hgc⟩ := hans
  exact ⟨g, Nat.le_trans hB5.size hg, hv, hgc⟩

set_option maxRecDepth 100000 in
set_option maxHeartbeats 6400000 in
theorem receive_same1 {p b : Nat} {id : Int} {l : List (Int × Held)} {w : World} (hn : NibCells w) (hp : IsP p b id l w) (m : Msg) (hd : m.data.size ≤ 4611686018427387904) (h : validM m = true) (hpa : m.partner = id) (hk : m.kind = 1) (ht : (mapAt l m.story).text.size ≤ 4611686018427387904) (hs : m.seq = (mapAt l m.story).seq) :
    Calls Tryd.prog 18 #[.pointer (some ⟨p, 0, none⟩), msgV m] w fun e w' => ∃ v, e = .returned v ∧ IsAns w.heap.size w' v (some (ackM id m.seq m.story (sumB (mapAt l m.story).text))) ∧ Below w.heap.size w w' := by
  obtain ⟨hh, hhh⟩ : ∃ hh, mapAt l m.story = hh := ⟨_, rfl⟩
  rw [hhh] at ht hs
  try rw [hhh]
  have HSQ := Lib.hid hs
  clear hs
  have HHH := Lib.hid hhh
  clear hhh
  have cv := fun W => valid_any m W hd
  rw [h] at cv
  have q1 : (m.partner != id) = false := by simpa using hpa
  have q2 : (m.kind != 1) = false := by simpa using hk
  have q4 : (m.kind == 2) = false := by simp [hk]
  clear hpa hk
  have hbx := Boxes.made hp m
  obtain ⟨w2, hw2⟩ : ∃ w2, (w.alloc (.cells #[.pointer (some ⟨p, 0, none⟩)] 25)).alloc (.cells #[.int .i64 m.kind, .int .i64 m.partner, .int .i64 m.seq, .int .i64 m.story, .int .i64 m.base, .int .i64 m.version, .string m.data] 33) = w2 := ⟨_, rfl⟩
  have hB2 : Below w.heap.size w w2 := by rw [← hw2]; exact ((Below.refl _ _).alloc (Nat.le_refl _) _).alloc (by simp) _
  have hs2 : w2.heap.size = w.heap.size + 2 := by rw [← hw2]; simp
  rw [hw2] at hbx
  have HW := Lib.hid hw2
  have k1 := cell_regrown hbx.f1
  have k2 := cell_regrown hbx.f2
  have k3 := cell_regrown hbx.f3
  have k4 := cell_regrown hbx.f4
  have k5 := cell_regrown hbx.f5
  have k6 := cell_regrown hbx.f6
  have k7 := cell_regrown hbx.f7
  have k8 := cell_regrown hbx.f8
  have k9 := cell_regrown hbx.f9
  have cV : ∀ d os, Calls Tryd.prog 31 #[msgV m] (grow (redrawn w2 d) os) fun e w'' => e = .returned (.bool true) ∧ ∃ q : Regrown, w'' = grow (redrawn w2 q.d) q.os := fun d os => Calls.regrown_of (cv _)
  unfold msgV at cV ⊢
  have CV := Lib.hid cV
  have HBX := Lib.hid hbx
  have HP := Lib.hid hp
  have HN := Lib.hid hn
  clear cv hbx hp hw2 cV hn
  go_enter Tryd.func18, Tryd.ntmps18
  go_wp2_with fail
  rw [HW.out]
  refine wp_region_quiet_below (by kernel_rfl) (by kernel_rfl) ?_
  repeat (go_big_quiet_step (exact CV.out _ _))
  refine wpQuiet_nil ?_
  intro W3 hw'
  have hb3 : Below w2.heap.size w2 W3 := by
    obtain ⟨q, hq⟩ := hw'
    rw [hq]
    exact below_regrown w2 q.d q.os
  clear hw' k1 k2 k3 k4 k5 k6 k7 k8 k9
  have hplt := HP.out.lt
  have hblt := HP.out.held.lt
  have hB3 : Below w.heap.size w W3 := hB2.trans (hb3.mono hB2.size)
  have bx := HBX.out.below hb3 (by omega) (by omega) (by omega)
  have hp3 := HP.out.below hB3 hplt hblt
  have hn3 : NibCells W3 := HN.out.below hB3
  go_wp2_with fail
  have hsz3 : w.heap.size + 2 ≤ W3.heap.size := by have := hb3.size; omega
  have hSof : ∀ W', Below W3.heap.size W3 W' → (W'.cell? ⟨w.heap.size, 0, none⟩ = some (.pointer (some ⟨p, 0, none⟩)) ∧ W'.cell? ⟨p, 1, none⟩ = some (.map (some b)) ∧ W'.cell? ⟨w.heap.size + 1, 3, none⟩ = some (.int .i64 m.story) ∧ (Instr.lookup 68 (.map (some b)) (.int .i64 m.story) false).run Tryd.prog W' = .ok (.agg #[.int .i64 hh.seq, .string hh.text, .bool hh.has]) W') := by
    intro W' hW
    have bx' := bx.below hW (by omega) (by omega) (by omega)
    have hp' := hp3.below hW (by omega) (by omega)
    have hl := run_lookup_held hp'.held m.story
    rw [HHH.out] at hl
    exact ⟨bx'.f1, hp'.c1, bx'.f6, hl⟩
  have HS := Lib.hid hSof
  clear hSof
  refine wp_region_held_drew (S := fun W' : World => W'.cell? ⟨w.heap.size, 0, none⟩ = some (.pointer (some ⟨p, 0, none⟩)) ∧ W'.cell? ⟨p, 1, none⟩ = some (.map (some b)) ∧ W'.cell? ⟨w.heap.size + 1, 3, none⟩ = some (.int .i64 m.story) ∧ (Instr.lookup 68 (.map (some b)) (.int .i64 m.story) false).run Tryd.prog W' = .ok (.agg #[.int .i64 hh.seq, .string hh.text, .bool hh.has]) W') (by kernel_rfl) (HS.out _ (Below.drew (Below.refl _ _))) (fun hHeld => ?_)
  refine wpAnyH_take (i := 0) (v := ?v8) rfl (by kernel_rfl) (by kernel_rfl) (by kernel_rfl) (fun _ _ _ h => h) (Or.inl ⟨by rfl, ?hy8⟩) (by assumption) ?rest8
  case hy8 => intro w hSw; (try dsimp only at hSw); go_simp; try with_reducible rfl
  case rest8 =>
  try simp only [Act.put, List.getElem_toArray, List.getElem_cons_succ, List.getElem_cons_zero, List.setIfInBounds_toArray, List.set_cons_zero, List.set_cons_succ]
  refine wpAnyH_take (i := 1) (v := ?v9) rfl (by kernel_rfl) (by kernel_rfl) (by kernel_rfl) (fun _ _ _ h => h) (Or.inl ⟨by rfl, ?hy9⟩) (by assumption) ?rest9
  case hy9 => intro w hSw; (try dsimp only at hSw); go_simp; try with_reducible rfl
  case rest9 =>
  try simp only [Act.put, List.getElem_toArray, List.getElem_cons_succ, List.getElem_cons_zero, List.setIfInBounds_toArray, List.set_cons_zero, List.set_cons_succ]
  refine wpAnyH_take (i := 2) (v := ?v10) rfl (by kernel_rfl) (by kernel_rfl) (by kernel_rfl) (fun _ _ _ h => h) (Or.inl ⟨by rfl, ?hy10⟩) (by assumption) ?rest10
  case hy10 => intro w hSw; (try dsimp only at hSw); go_simp; try with_reducible rfl
  case rest10 =>
  try simp only [Act.put, List.getElem_toArray, List.getElem_cons_succ, List.getElem_cons_zero, List.setIfInBounds_toArray, List.set_cons_zero, List.set_cons_succ]
  refine wpAnyH_take (i := 3) (v := ?v11) rfl (by kernel_rfl) (by kernel_rfl) (by kernel_rfl) (fun _ _ _ h => h) (Or.inl ⟨by rfl, ?hy11⟩) (by assumption) ?rest11
  case hy11 => intro w hSw; (try dsimp only at hSw); go_simp; try with_reducible rfl
  case rest11 =>
  try simp only [Act.put, List.getElem_toArray, List.getElem_cons_succ, List.getElem_cons_zero, List.setIfInBounds_toArray, List.set_cons_zero, List.set_cons_succ]
  refine wpAnyH_take (i := 4) (v := ?v12) rfl (by kernel_rfl) (by kernel_rfl) (by kernel_rfl) (fun _ _ _ h => h) (Or.inl ⟨by rfl, ?hy12⟩) (by assumption) ?rest12
  case hy12 => intro w hSw; (try dsimp only at hSw); go_simp; try with_reducible rfl
  case rest12 =>
  try simp only [Act.put, List.getElem_toArray, List.getElem_cons_succ, List.getElem_cons_zero, List.setIfInBounds_toArray, List.set_cons_zero, List.set_cons_succ]
  refine wpAnyH_take (i := 5) (v := ?v13) rfl (by kernel_rfl) (by kernel_rfl) (by kernel_rfl) (fun _ _ _ h => h) (Or.inl ⟨by rfl, ?hy13⟩) (by assumption) ?rest13
  case hy13 => intro w hSw; (try dsimp only at hSw); go_simp; try with_reducible rfl
  case rest13 =>
  try simp only [Act.put, List.getElem_toArray, List.getElem_cons_succ, List.getElem_cons_zero, List.setIfInBounds_toArray, List.set_cons_zero, List.set_cons_succ]
  refine wpAnyH_take (i := 6) (v := ?v14) rfl (by kernel_rfl) (by kernel_rfl) (by kernel_rfl) (fun _ _ _ h => h) (Or.inl ⟨by rfl, ?hy14⟩) (by assumption) ?rest14
  case hy14 => intro w hSw; (try dsimp only at hSw); go_simp; try with_reducible rfl
  case rest14 =>
  try simp only [Act.put, List.getElem_toArray, List.getElem_cons_succ, List.getElem_cons_zero, List.setIfInBounds_toArray, List.set_cons_zero, List.set_cons_succ]
  refine wpAnyH_ready (rs := [7]) (by kernel_rfl) (by simp) ?_
  refine AllReadyH.cons rfl (fun K hK => ?_) AllReadyH.nil
  go_simp
  refine hK.out _ _ (HS.out _ ((Below.drew (Below.refl _ _)).alloc (Nat.le_refl _) _)) (fun hS => ?_)
  clear hK K
  try simp only [Act.put, List.getElem_toArray, List.getElem_cons_succ, List.getElem_cons_zero, List.setIfInBounds_toArray, List.set_cons_zero, List.set_cons_succ]
  refine wpAnyH_ready (rs := [8]) (by kernel_rfl) (by simp) ?_
  refine AllReadyH.cons rfl (fun K hK => ?_) AllReadyH.nil
  go_simp
  refine hK.out _ _ (HS.out _ (Below.drew ((Below.refl _ _).alloc (Nat.le_refl _) _))) (fun hS => ?_)
  clear hK K
  try simp only [Act.put, List.getElem_toArray, List.getElem_cons_succ, List.getElem_cons_zero, List.setIfInBounds_toArray, List.set_cons_zero, List.set_cons_succ]
  refine wpAnyH_done (by kernel_rfl) ?_ _
  clear hHeld hS
  obtain ⟨c5, hc5⟩ : ∃ c5, W3.heap.size = c5 := ⟨_, rfl⟩
  obtain ⟨W5, hW5⟩ : ∃ W5, (W3.alloc (.cells #[.int .i64 hh.seq, .string hh.text, .bool hh.has] 73)).drew = W5 := ⟨_, rfl⟩
  have hb5 : Below W3.heap.size W3 W5 := by rw [← hW5]; exact Below.drew ((Below.refl _ _).alloc (Nat.le_refl _) _)
  have c5b : W5.heap[c5]? = some (.cells #[.int .i64 hh.seq, .string hh.text, .bool hh.has] 73 (0, 0)) := by rw [← hW5, ← hc5]; exact World.alloc_heap_new W3 _
  have hB5 : Below w.heap.size w W5 := hB3.trans (hb5.mono hB3.size)
  have bx5 := bx.below hb5 (by omega) (by omega) (by omega)
  have hp5 := hp3.below hb5 (by omega) (by omega)
  have hn5 : NibCells W5 := hn3.below hb5
  rw [hW5, hc5]
  clear hW5 HS
  have g1 := bx5.f1
  have g5 := bx5.f5
  have h51 : W5.cell? ⟨c5, 0, none⟩ = some (.int .i64 hh.seq) := Lib.cell_of_heap c5b 0
  have h52 : W5.cell? ⟨c5, 1, none⟩ = some (.string hh.text) := Lib.cell_of_heap c5b 1
  have t0 : decide (m.seq < hh.seq) = false := by have := HSQ.out; simp; omega
  have t1 : (m.seq == hh.seq) = true := by simpa using HSQ.out
  obtain ⟨sx, hsx⟩ : ∃ x, sumB hh.text = x := ⟨_, rfl⟩
  have CS := Lib.hid (sum_is hsx (by omega) W5 hn5)
  have CR := Lib.hid (ack_any sx id m.seq m.story p w.heap.size (w.heap.size + 1) W5 bx5.f1 bx5.f2 bx5.f5 bx5.f6)
  have HSX := Lib.hid hsx
  clear hsx
  go_wp2_with fail
  refine (CS.out).mono ?_
  rintro e _ ⟨rfl, rfl⟩
  go_wp2_with fail
  refine (CR.out).mono ?_
  rintro e W6 ⟨v, rfl, hans, hb6⟩
  go_wp2_with fail
  go_ret
  rw [HSX.out]
  refine ⟨v, rfl, ?_, hB5.trans (hb6.mono hB5.size)⟩
  obtain ⟨g, hg, hv, hgc⟩ := hans
  exact ⟨g, Nat.le_trans hB5.size hg, hv, hgc⟩

set_option maxRecDepth 100000 in
set_option maxHeartbeats 6400000 in
theorem receive_late2 {p b : Nat} {id : Int} {l : List (Int × Held)} {w : World} (hn : NibCells w) (hp : IsP p b id l w) (m : Msg) (hd : m.data.size ≤ 4611686018427387904) (h : validM m = true) (hpa : m.partner = id) (hk : m.kind = 2) (ht : (mapAt l m.story).text.size ≤ 4611686018427387904) (hs : m.seq < (mapAt l m.story).seq) :
    Calls Tryd.prog 18 #[.pointer (some ⟨p, 0, none⟩), msgV m] w fun e w' => ∃ v, e = .returned v ∧ IsAns w.heap.size w' v (some (rejM id (mapAt l m.story).seq m.story (sumB (mapAt l m.story).text))) ∧ Below w.heap.size w w' := by
  obtain ⟨hh, hhh⟩ : ∃ hh, mapAt l m.story = hh := ⟨_, rfl⟩
  rw [hhh] at ht hs
  try rw [hhh]
  have HSQ := Lib.hid hs
  clear hs
  have HHH := Lib.hid hhh
  clear hhh
  have cv := fun W => valid_any m W hd
  rw [h] at cv
  have q1 : (m.partner != id) = false := by simpa using hpa
  have q2 : (m.kind != 1) = true := by simp [hk]
  have q3 : (m.kind != 2) = false := by simpa using hk
  have q4 : (m.kind == 2) = true := by simpa using hk
  clear hpa hk
  have hbx := Boxes.made hp m
  obtain ⟨w2, hw2⟩ : ∃ w2, (w.alloc (.cells #[.pointer (some ⟨p, 0, none⟩)] 25)).alloc (.cells #[.int .i64 m.kind, .int .i64 m.partner, .int .i64 m.seq, .int .i64 m.story, .int .i64 m.base, .int .i64 m.version, .string m.data] 33) = w2 := ⟨_, rfl⟩
  have hB2 : Below w.heap.size w w2 := by rw [← hw2]; exact ((Below.refl _ _).alloc (Nat.le_refl _) _).alloc (by simp) _
  have hs2 : w2.heap.size = w.heap.size + 2 := by rw [← hw2]; simp
  rw [hw2] at hbx
  have HW := Lib.hid hw2
  have k1 := cell_regrown hbx.f1
  have k2 := cell_regrown hbx.f2
  have k3 := cell_regrown hbx.f3
  have k4 := cell_regrown hbx.f4
  have k5 := cell_regrown hbx.f5
  have k6 := cell_regrown hbx.f6
  have k7 := cell_regrown hbx.f7
  have k8 := cell_regrown hbx.f8
  have k9 := cell_regrown hbx.f9
  have cV : ∀ d os, Calls Tryd.prog 31 #[msgV m] (grow (redrawn w2 d) os) fun e w'' => e = .returned (.bool true) ∧ ∃ q : Regrown, w'' = grow (redrawn w2 q.d) q.os := fun d os => Calls.regrown_of (cv _)
  unfold msgV at cV ⊢
  have CV := Lib.hid cV
  have HBX := Lib.hid hbx
  have HP := Lib.hid hp
  have HN := Lib.hid hn
  clear cv hbx hp hw2 cV hn
  go_enter Tryd.func18, Tryd.ntmps18
  go_wp2_with fail
  rw [HW.out]
  refine wp_region_quiet_below (by kernel_rfl) (by kernel_rfl) ?_
  repeat (go_big_quiet_step (exact CV.out _ _))
  refine wpQuiet_nil ?_
  intro W3 hw'
  have hb3 : Below w2.heap.size w2 W3 := by
    obtain ⟨q, hq⟩ := hw'
    rw [hq]
    exact below_regrown w2 q.d q.os
  clear hw' k1 k2 k3 k4 k5 k6 k7 k8 k9
  have hplt := HP.out.lt
  have hblt := HP.out.held.lt
  have hB3 : Below w.heap.size w W3 := hB2.trans (hb3.mono hB2.size)
  have bx := HBX.out.below hb3 (by omega) (by omega) (by omega)
  have hp3 := HP.out.below hB3 hplt hblt
  have hn3 : NibCells W3 := HN.out.below hB3
  go_wp2_with fail
  have hsz3 : w.heap.size + 2 ≤ W3.heap.size := by have := hb3.size; omega
  have hSof : ∀ W', Below W3.heap.size W3 W' → (W'.cell? ⟨w.heap.size, 0, none⟩ = some (.pointer (some ⟨p, 0, none⟩)) ∧ W'.cell? ⟨p, 1, none⟩ = some (.map (some b)) ∧ W'.cell? ⟨w.heap.size + 1, 3, none⟩ = some (.int .i64 m.story) ∧ (Instr.lookup 68 (.map (some b)) (.int .i64 m.story) false).run Tryd.prog W' = .ok (.agg #[.int .i64 hh.seq, .string hh.text, .bool hh.has]) W') := by
    intro W' hW
    have bx' := bx.below hW (by omega) (by omega) (by omega)
    have hp' := hp3.below hW (by omega) (by omega)
    have hl := run_lookup_held hp'.held m.story
    rw [HHH.out] at hl
    exact ⟨bx'.f1, hp'.c1, bx'.f6, hl⟩
  have HS := Lib.hid hSof
  clear hSof
  refine wp_region_held_drew (S := fun W' : World => W'.cell? ⟨w.heap.size, 0, none⟩ = some (.pointer (some ⟨p, 0, none⟩)) ∧ W'.cell? ⟨p, 1, none⟩ = some (.map (some b)) ∧ W'.cell? ⟨w.heap.size + 1, 3, none⟩ = some (.int .i64 m.story) ∧ (Instr.lookup 68 (.map (some b)) (.int .i64 m.story) false).run Tryd.prog W' = .ok (.agg #[.int .i64 hh.seq, .string hh.text, .bool hh.has]) W') (by kernel_rfl) (HS.out _ (Below.drew (Below.refl _ _))) (fun hHeld => ?_)
  refine wpAnyH_take (i := 0) (v := ?v15) rfl (by kernel_rfl) (by kernel_rfl) (by kernel_rfl) (fun _ _ _ h => h) (Or.inl ⟨by rfl, ?hy15⟩) (by assumption) ?rest15
  case hy15 => intro w hSw; (try dsimp only at hSw); go_simp; try with_reducible rfl
  case rest15 =>
  try simp only [Act.put, List.getElem_toArray, List.getElem_cons_succ, List.getElem_cons_zero, List.setIfInBounds_toArray, List.set_cons_zero, List.set_cons_succ]
  refine wpAnyH_take (i := 1) (v := ?v16) rfl (by kernel_rfl) (by kernel_rfl) (by kernel_rfl) (fun _ _ _ h => h) (Or.inl ⟨by rfl, ?hy16⟩) (by assumption) ?rest16
  case hy16 => intro w hSw; (try dsimp only at hSw); go_simp; try with_reducible rfl
  case rest16 =>
  try simp only [Act.put, List.getElem_toArray, List.getElem_cons_succ, List.getElem_cons_zero, List.setIfInBounds_toArray, List.set_cons_zero, List.set_cons_succ]
  refine wpAnyH_take (i := 2) (v := ?v17) rfl (by kernel_rfl) (by kernel_rfl) (by kernel_rfl) (fun _ _ _ h => h) (Or.inl ⟨by rfl, ?hy17⟩) (by assumption) ?rest17
  case hy17 => intro w hSw; (try dsimp only at hSw); go_simp; try with_reducible rfl
  case rest17 =>
  try simp only [Act.put, List.getElem_toArray, List.getElem_cons_succ, List.getElem_cons_zero, List.setIfInBounds_toArray, List.set_cons_zero, List.set_cons_succ]
  refine wpAnyH_take (i := 3) (v := ?v18) rfl (by kernel_rfl) (by kernel_rfl) (by kernel_rfl) (fun _ _ _ h => h) (Or.inl ⟨by rfl, ?hy18⟩) (by assumption) ?rest18
  case hy18 => intro w hSw; (try dsimp only at hSw); go_simp; try with_reducible rfl
  case rest18 =>
  try simp only [Act.put, List.getElem_toArray, List.getElem_cons_succ, List.getElem_cons_zero, List.setIfInBounds_toArray, List.set_cons_zero, List.set_cons_succ]
  refine wpAnyH_take (i := 4) (v := ?v19) rfl (by kernel_rfl) (by kernel_rfl) (by kernel_rfl) (fun _ _ _ h => h) (Or.inl ⟨by rfl, ?hy19⟩) (by assumption) ?rest19
  case hy19 => intro w hSw; (try dsimp only at hSw); go_simp; try with_reducible rfl
  case rest19 =>
  try simp only [Act.put, List.getElem_toArray, List.getElem_cons_succ, List.getElem_cons_zero, List.setIfInBounds_toArray, List.set_cons_zero, List.set_cons_succ]
  refine wpAnyH_take (i := 5) (v := ?v20) rfl (by kernel_rfl) (by kernel_rfl) (by kernel_rfl) (fun _ _ _ h => h) (Or.inl ⟨by rfl, ?hy20⟩) (by assumption) ?rest20
  case hy20 => intro w hSw; (try dsimp only at hSw); go_simp; try with_reducible rfl
  case rest20 =>
  try simp only [Act.put, List.getElem_toArray, List.getElem_cons_succ, List.getElem_cons_zero, List.setIfInBounds_toArray, List.set_cons_zero, List.set_cons_succ]
  refine wpAnyH_take (i := 6) (v := ?v21) rfl (by kernel_rfl) (by kernel_rfl) (by kernel_rfl) (fun _ _ _ h => h) (Or.inl ⟨by rfl, ?hy21⟩) (by assumption) ?rest21
  case hy21 => intro w hSw; (try dsimp only at hSw); go_simp; try with_reducible rfl
  case rest21 =>
  try simp only [Act.put, List.getElem_toArray, List.getElem_cons_succ, List.getElem_cons_zero, List.setIfInBounds_toArray, List.set_cons_zero, List.set_cons_succ]
  refine wpAnyH_ready (rs := [7]) (by kernel_rfl) (by simp) ?_
  refine AllReadyH.cons rfl (fun K hK => ?_) AllReadyH.nil
  go_simp
  refine hK.out _ _ (HS.out _ ((Below.drew (Below.refl _ _)).alloc (Nat.le_refl _) _)) (fun hS => ?_)
  clear hK K
  try simp only [Act.put, List.getElem_toArray, List.getElem_cons_succ, List.getElem_cons_zero, List.setIfInBounds_toArray, List.set_cons_zero, List.set_cons_succ]
  refine wpAnyH_ready (rs := [8]) (by kernel_rfl) (by simp) ?_
  refine AllReadyH.cons rfl (fun K hK => ?_) AllReadyH.nil
  go_simp
  refine hK.out _ _ (HS.out _ (Below.drew ((Below.refl _ _).alloc (Nat.le_refl _) _))) (fun hS => ?_)
  clear hK K
  try simp only [Act.put, List.getElem_toArray, List.getElem_cons_succ, List.getElem_cons_zero, List.setIfInBounds_toArray, List.set_cons_zero, List.set_cons_succ]
  refine wpAnyH_done (by kernel_rfl) ?_ _
  clear hHeld hS
  obtain ⟨c5, hc5⟩ : ∃ c5, W3.heap.size = c5 := ⟨_, rfl⟩
  obtain ⟨W5, hW5⟩ : ∃ W5, (W3.alloc (.cells #[.int .i64 hh.seq, .string hh.text, .bool hh.has] 73)).drew = W5 := ⟨_, rfl⟩
  have hb5 : Below W3.heap.size W3 W5 := by rw [← hW5]; exact Below.drew ((Below.refl _ _).alloc (Nat.le_refl _) _)
  have c5b : W5.heap[c5]? = some (.cells #[.int .i64 hh.seq, .string hh.text, .bool hh.has] 73 (0, 0)) := by rw [← hW5, ← hc5]; exact World.alloc_heap_new W3 _
  have hB5 : Below w.heap.size w W5 := hB3.trans (hb5.mono hB3.size)
  have bx5 := bx.below hb5 (by omega) (by omega) (by omega)
  have hp5 := hp3.below hb5 (by omega) (by omega)
  have hn5 : NibCells W5 := hn3.below hb5
  rw [hW5, hc5]
  clear hW5 HS
  have g1 := bx5.f1
  have g5 := bx5.f5
  have h51 : W5.cell? ⟨c5, 0, none⟩ = some (.int .i64 hh.seq) := Lib.cell_of_heap c5b 0
  have h52 : W5.cell? ⟨c5, 1, none⟩ = some (.string hh.text) := Lib.cell_of_heap c5b 1
  have t0 : decide (m.seq < hh.seq) = true := by simpa using HSQ.out
  have CR := Lib.hid (reject_any hh.seq id m.story hh.text p w.heap.size (w.heap.size + 1) c5 W5 hn5 ht bx5.f1 bx5.f2 bx5.f6 h52)
  go_wp2_with fail
  refine (CR.out).mono ?_
  rintro e W6 ⟨v, rfl, hans, hb6⟩
  go_wp2_with fail
  go_ret
  refine ⟨v, rfl, ?_, hB5.trans (hb6.mono hB5.size)⟩
  obtain ⟨g, hg, hv, hgc⟩ := hans
  exact ⟨g, Nat.le_trans hB5.size hg, hv, hgc⟩

set_option maxRecDepth 100000 in
set_option maxHeartbeats 6400000 in
theorem receive_same2 {p b : Nat} {id : Int} {l : List (Int × Held)} {w : World} (hn : NibCells w) (hp : IsP p b id l w) (m : Msg) (hd : m.data.size ≤ 4611686018427387904) (h : validM m = true) (hpa : m.partner = id) (hk : m.kind = 2) (ht : (mapAt l m.story).text.size ≤ 4611686018427387904) (hs : m.seq = (mapAt l m.story).seq) :
    Calls Tryd.prog 18 #[.pointer (some ⟨p, 0, none⟩), msgV m] w fun e w' => ∃ v, e = .returned v ∧ IsAns w.heap.size w' v (some (ackM id m.seq m.story (sumB (mapAt l m.story).text))) ∧ Below w.heap.size w w' := by
  obtain ⟨hh, hhh⟩ : ∃ hh, mapAt l m.story = hh := ⟨_, rfl⟩
  rw [hhh] at ht hs
  try rw [hhh]
  have HSQ := Lib.hid hs
  clear hs
  have HHH := Lib.hid hhh
  clear hhh
  have cv := fun W => valid_any m W hd
  rw [h] at cv
  have q1 : (m.partner != id) = false := by simpa using hpa
  have q2 : (m.kind != 1) = true := by simp [hk]
  have q3 : (m.kind != 2) = false := by simpa using hk
  have q4 : (m.kind == 2) = true := by simpa using hk
  clear hpa hk
  have hbx := Boxes.made hp m
  obtain ⟨w2, hw2⟩ : ∃ w2, (w.alloc (.cells #[.pointer (some ⟨p, 0, none⟩)] 25)).alloc (.cells #[.int .i64 m.kind, .int .i64 m.partner, .int .i64 m.seq, .int .i64 m.story, .int .i64 m.base, .int .i64 m.version, .string m.data] 33) = w2 := ⟨_, rfl⟩
  have hB2 : Below w.heap.size w w2 := by rw [← hw2]; exact ((Below.refl _ _).alloc (Nat.le_refl _) _).alloc (by simp) _
  have hs2 : w2.heap.size = w.heap.size + 2 := by rw [← hw2]; simp
  rw [hw2] at hbx
  have HW := Lib.hid hw2
  have k1 := cell_regrown hbx.f1
  have k2 := cell_regrown hbx.f2
  have k3 := cell_regrown hbx.f3
  have k4 := cell_regrown hbx.f4
  have k5 := cell_regrown hbx.f5
  have k6 := cell_regrown hbx.f6
  have k7 := cell_regrown hbx.f7
  have k8 := cell_regrown hbx.f8
  have k9 := cell_regrown hbx.f9
  have cV : ∀ d os, Calls Tryd.prog 31 #[msgV m] (grow (redrawn w2 d) os) fun e w'' => e = .returned (.bool true) ∧ ∃ q : Regrown, w'' = grow (redrawn w2 q.d) q.os := fun d os => Calls.regrown_of (cv _)
  unfold msgV at cV ⊢
  have CV := Lib.hid cV
  have HBX := Lib.hid hbx
  have HP := Lib.hid hp
  have HN := Lib.hid hn
  clear cv hbx hp hw2 cV hn
  go_enter Tryd.func18, Tryd.ntmps18
  go_wp2_with fail
  rw [HW.out]
  refine wp_region_quiet_below (by kernel_rfl) (by kernel_rfl) ?_
  repeat (go_big_quiet_step (exact CV.out _ _))
  refine wpQuiet_nil ?_
  intro W3 hw'
  have hb3 : Below w2.heap.size w2 W3 := by
    obtain ⟨q, hq⟩ := hw'
    rw [hq]
    exact below_regrown w2 q.d q.os
  clear hw' k1 k2 k3 k4 k5 k6 k7 k8 k9
  have hplt := HP.out.lt
  have hblt := HP.out.held.lt
  have hB3 : Below w.heap.size w W3 := hB2.trans (hb3.mono hB2.size)
  have bx := HBX.out.below hb3 (by omega) (by omega) (by omega)
  have hp3 := HP.out.below hB3 hplt hblt
  have hn3 : NibCells W3 := HN.out.below hB3
  go_wp2_with fail
  have hsz3 : w.heap.size + 2 ≤ W3.heap.size := by have := hb3.size; omega
  have hSof : ∀ W', Below W3.heap.size W3 W' → (W'.cell? ⟨w.heap.size, 0, none⟩ = some (.pointer (some ⟨p, 0, none⟩)) ∧ W'.cell? ⟨p, 1, none⟩ = some (.map (some b)) ∧ W'.cell? ⟨w.heap.size + 1, 3, none⟩ = some (.int .i64 m.story) ∧ (Instr.lookup 68 (.map (some b)) (.int .i64 m.story) false).run Tryd.prog W' = .ok (.agg #[.int .i64 hh.seq, .string hh.text, .bool hh.has]) W') := by
    intro W' hW
    have bx' := bx.below hW (by omega) (by omega) (by omega)
    have hp' := hp3.below hW (by omega) (by omega)
    have hl := run_lookup_held hp'.held m.story
    rw [HHH.out] at hl
    exact ⟨bx'.f1, hp'.c1, bx'.f6, hl⟩
  have HS := Lib.hid hSof
  clear hSof
  refine wp_region_held_drew (S := fun W' : World => W'.cell? ⟨w.heap.size, 0, none⟩ = some (.pointer (some ⟨p, 0, none⟩)) ∧ W'.cell? ⟨p, 1, none⟩ = some (.map (some b)) ∧ W'.cell? ⟨w.heap.size + 1, 3, none⟩ = some (.int .i64 m.story) ∧ (Instr.lookup 68 (.map (some b)) (.int .i64 m.story) false).run Tryd.prog W' = .ok (.agg #[.int .i64 hh.seq, .string hh.text, .bool hh.has]) W') (by kernel_rfl) (HS.out _ (Below.drew (Below.refl _ _))) (fun hHeld => ?_)
  refine wpAnyH_take (i := 0) (v := ?v22) rfl (by kernel_rfl) (by kernel_rfl) (by kernel_rfl) (fun _ _ _ h => h) (Or.inl ⟨by rfl, ?hy22⟩) (by assumption) ?rest22
  case hy22 => intro w hSw; (try dsimp only at hSw); go_simp; try with_reducible rfl
  case rest22 =>
  try simp only [Act.put, List.getElem_toArray, List.getElem_cons_succ, List.getElem_cons_zero, List.setIfInBounds_toArray, List.set_cons_zero, List.set_cons_succ]
  refine wpAnyH_take (i := 1) (v := ?v23) rfl (by kernel_rfl) (by kernel_rfl) (by kernel_rfl) (fun _ _ _ h => h) (Or.inl ⟨by rfl, ?hy23⟩) (by assumption) ?rest23
  case hy23 => intro w hSw; (try dsimp only at hSw); go_simp; try with_reducible rfl
  case rest23 =>
  try simp only [Act.put, List.getElem_toArray, List.getElem_cons_succ, List.getElem_cons_zero, List.setIfInBounds_toArray, List.set_cons_zero, List.set_cons_succ]
  refine wpAnyH_take (i := 2) (v := ?v24) rfl (by kernel_rfl) (by kernel_rfl) (by kernel_rfl) (fun _ _ _ h => h) (Or.inl ⟨by rfl, ?hy24⟩) (by assumption) ?rest24
  case hy24 => intro w hSw; (try dsimp only at hSw); go_simp; try with_reducible rfl
  case rest24 =>
  try simp only [Act.put, List.getElem_toArray, List.getElem_cons_succ, List.getElem_cons_zero, List.setIfInBounds_toArray, List.set_cons_zero, List.set_cons_succ]
  refine wpAnyH_take (i := 3) (v := ?v25) rfl (by kernel_rfl) (by kernel_rfl) (by kernel_rfl) (fun _ _ _ h => h) (Or.inl ⟨by rfl, ?hy25⟩) (by assumption) ?rest25
  case hy25 => intro w hSw; (try dsimp only at hSw); go_simp; try with_reducible rfl
  case rest25 =>
  try simp only [Act.put, List.getElem_toArray, List.getElem_cons_succ, List.getElem_cons_zero, List.setIfInBounds_toArray, List.set_cons_zero, List.set_cons_succ]
  refine wpAnyH_take (i := 4) (v := ?v26) rfl (by kernel_rfl) (by kernel_rfl) (by kernel_rfl) (fun _ _ _ h => h) (Or.inl ⟨by rfl, ?hy26⟩) (by assumption) ?rest26
  case hy26 => intro w hSw; (try dsimp only at hSw); go_simp; try with_reducible rfl
  case rest26 =>
  try simp only [Act.put, List.getElem_toArray, List.getElem_cons_succ, List.getElem_cons_zero, List.setIfInBounds_toArray, List.set_cons_zero, List.set_cons_succ]
  refine wpAnyH_take (i := 5) (v := ?v27) rfl (by kernel_rfl) (by kernel_rfl) (by kernel_rfl) (fun _ _ _ h => h) (Or.inl ⟨by rfl, ?hy27⟩) (by assumption) ?rest27
  case hy27 => intro w hSw; (try dsimp only at hSw); go_simp; try with_reducible rfl
  case rest27 =>
  try simp only [Act.put, List.getElem_toArray, List.getElem_cons_succ, List.getElem_cons_zero, List.setIfInBounds_toArray, List.set_cons_zero, List.set_cons_succ]
  refine wpAnyH_take (i := 6) (v := ?v28) rfl (by kernel_rfl) (by kernel_rfl) (by kernel_rfl) (fun _ _ _ h => h) (Or.inl ⟨by rfl, ?hy28⟩) (by assumption) ?rest28
  case hy28 => intro w hSw; (try dsimp only at hSw); go_simp; try with_reducible rfl
  case rest28 =>
  try simp only [Act.put, List.getElem_toArray, List.getElem_cons_succ, List.getElem_cons_zero, List.setIfInBounds_toArray, List.set_cons_zero, List.set_cons_succ]
  refine wpAnyH_ready (rs := [7]) (by kernel_rfl) (by simp) ?_
  refine AllReadyH.cons rfl (fun K hK => ?_) AllReadyH.nil
  go_simp
  refine hK.out _ _ (HS.out _ ((Below.drew (Below.refl _ _)).alloc (Nat.le_refl _) _)) (fun hS => ?_)
  clear hK K
  try simp only [Act.put, List.getElem_toArray, List.getElem_cons_succ, List.getElem_cons_zero, List.setIfInBounds_toArray, List.set_cons_zero, List.set_cons_succ]
  refine wpAnyH_ready (rs := [8]) (by kernel_rfl) (by simp) ?_
  refine AllReadyH.cons rfl (fun K hK => ?_) AllReadyH.nil
  go_simp
  refine hK.out _ _ (HS.out _ (Below.drew ((Below.refl _ _).alloc (Nat.le_refl _) _))) (fun hS => ?_)
  clear hK K
  try simp only [Act.put, List.getElem_toArray, List.getElem_cons_succ, List.getElem_cons_zero, List.setIfInBounds_toArray, List.set_cons_zero, List.set_cons_succ]
  refine wpAnyH_done (by kernel_rfl) ?_ _
  clear hHeld hS
  obtain ⟨c5, hc5⟩ : ∃ c5, W3.heap.size = c5 := ⟨_, rfl⟩
  obtain ⟨W5, hW5⟩ : ∃ W5, (W3.alloc (.cells #[.int .i64 hh.seq, .string hh.text, .bool hh.has] 73)).drew = W5 := ⟨_, rfl⟩
  have hb5 : Below W3.heap.size W3 W5 := by rw [← hW5]; exact Below.drew ((Below.refl _ _).alloc (Nat.le_refl _) _)
  have c5b : W5.heap[c5]? = some (.cells #[.int .i64 hh.seq, .string hh.text, .bool hh.has] 73 (0, 0)) := by rw [← hW5, ← hc5]; exact World.alloc_heap_new W3 _
  have hB5 : Below w.heap.size w W5 := hB3.trans (hb5.mono hB3.size)
  have bx5 := bx.below hb5 (by omega) (by omega) (by omega)
  have hp5 := hp3.below hb5 (by omega) (by omega)
  have hn5 : NibCells W5 := hn3.below hb5
  rw [hW5, hc5]
  clear hW5 HS
  have g1 := bx5.f1
  have g5 := bx5.f5
  have h51 : W5.cell? ⟨c5, 0, none⟩ = some (.int .i64 hh.seq) := Lib.cell_of_heap c5b 0
  have h52 : W5.cell? ⟨c5, 1, none⟩ = some (.string hh.text) := Lib.cell_of_heap c5b 1
  have t0 : decide (m.seq < hh.seq) = false := by have := HSQ.out; simp; omega
  have t1 : (m.seq == hh.seq) = true := by simpa using HSQ.out
  obtain ⟨sx, hsx⟩ : ∃ x, sumB hh.text = x := ⟨_, rfl⟩
  have CS := Lib.hid (sum_is hsx (by omega) W5 hn5)
  have CR := Lib.hid (ack_any sx id m.seq m.story p w.heap.size (w.heap.size + 1) W5 bx5.f1 bx5.f2 bx5.f5 bx5.f6)
  have HSX := Lib.hid hsx
  clear hsx
  go_wp2_with fail
  refine (CS.out).mono ?_
  rintro e _ ⟨rfl, rfl⟩
  go_wp2_with fail
  refine (CR.out).mono ?_
  rintro e W6 ⟨v, rfl, hans, hb6⟩
  go_wp2_with fail
  go_ret
  rw [HSX.out]
  refine ⟨v, rfl, ?_, hB5.trans (hb6.mono hB5.size)⟩
  obtain ⟨g, hg, hv, hgc⟩ := hans
  exact ⟨g, Nat.le_trans hB5.size hg, hv, hgc⟩

end Go.Proofs.YtkpgadjhcnkadaaDoor
