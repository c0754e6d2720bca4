/- partner.Receive: kill notices and deliveries. (written by gen_receive.py) -/
import Derived.Test.YtkpgadjhcnkadaaDoorRecvOut
import Derived.Test.YtkpgadjhcnkadaaDoorReceive
import Derived.Test.YtkpgadjhcnkadaaDoorRecvFns
import Derived.OrdersHeld
import Derived.Deep.RegionHeld3
set_option linter.unusedSimpArgs false
set_option linter.unusedVariables false
namespace Go.Proofs.YtkpgadjhcnkadaaDoor
open Go.RowKit Go.Sort
attribute [local go_sem ↓] Go.wp_at_zero Go.wp_at_succ

set_option maxRecDepth 100000 in
set_option maxHeartbeats 6400000 in
theorem receive_kill {p b : Nat} {id : Int} {l : List (Int × Held)} {w : World} (hn : NibCells w) (hp : IsP p b id l w) (m : Msg) (hd : m.data.size ≤ 4611686018427387904) (h : validM m = true) (hpa : m.partner = id) (hk : m.kind = 2) (ht : (mapAt l m.story).text.size ≤ 4611686018427387904) (hs : (mapAt l m.story).seq < m.seq) :
    Calls Tryd.prog 18 #[.pointer (some ⟨p, 0, none⟩), msgV m] w fun e w' => ∃ v, e = .returned v ∧ IsAns w.heap.size w' v (some (ackM id m.seq m.story 0)) ∧ IsP p b id (mapPut l m.story ⟨m.seq, .empty, false⟩) w' ∧ w.grownBy w' (some b) := by
  obtain ⟨hh, hhh⟩ : ∃ hh, mapAt l m.story = hh := ⟨_, rfl⟩
  rw [hhh] at ht hs
  try rw [hhh]
  have HSQ := Lib.hid hs
  clear hs
  have HHH := Lib.hid hhh
  clear hhh
  have cv := fun W => valid_any m W hd
  rw [h] at cv
  have q1 : (m.partner != id) = false := by simpa using hpa
  have q2 : (m.kind != 1) = true := by simp [hk]
  have q3 : (m.kind != 2) = false := by simpa using hk
  have q4 : (m.kind == 2) = true := by simpa using hk
  clear hpa hk
  have hbx := Boxes.made hp m
  obtain ⟨w2, hw2⟩ : ∃ w2, (w.alloc (.cells #[.pointer (some ⟨p, 0, none⟩)] 25)).alloc (.cells #[.int .i64 m.kind, .int .i64 m.partner, .int .i64 m.seq, .int .i64 m.story, .int .i64 m.base, .int .i64 m.version, .string m.data] 33) = w2 := ⟨_, rfl⟩
  have hB2 : Below w.heap.size w w2 := by rw [← hw2]; exact ((Below.refl _ _).alloc (Nat.le_refl _) _).alloc (by simp) _
  have hs2 : w2.heap.size = w.heap.size + 2 := by rw [← hw2]; simp
  rw [hw2] at hbx
  have HW := Lib.hid hw2
  have k1 := cell_regrown hbx.f1
  have k2 := cell_regrown hbx.f2
  have k3 := cell_regrown hbx.f3
  have k4 := cell_regrown hbx.f4
  have k5 := cell_regrown hbx.f5
  have k6 := cell_regrown hbx.f6
  have k7 := cell_regrown hbx.f7
  have k8 := cell_regrown hbx.f8
  have k9 := cell_regrown hbx.f9
  have cV : ∀ d os, Calls Tryd.prog 31 #[msgV m] (grow (redrawn w2 d) os) fun e w'' => e = .returned (.bool true) ∧ ∃ q : Regrown, w'' = grow (redrawn w2 q.d) q.os := fun d os => Calls.regrown_of (cv _)
  unfold msgV at cV ⊢
  have CV := Lib.hid cV
  have HBX := Lib.hid hbx
  have HP := Lib.hid hp
  have HN := Lib.hid hn
  clear cv hbx hp hw2 cV hn
  go_enter Tryd.func18, Tryd.ntmps18
  go_wp2_with fail
  rw [HW.out]
  refine wp_region_quiet_below (by kernel_rfl) (by kernel_rfl) ?_
  repeat (go_big_quiet_step (exact CV.out _ _))
  refine wpQuiet_nil ?_
  intro W3 hw'
  have hb3 : Below w2.heap.size w2 W3 := by
    obtain ⟨q, hq⟩ := hw'
    rw [hq]
    exact below_regrown w2 q.d q.os
  clear hw' k1 k2 k3 k4 k5 k6 k7 k8 k9
  have hplt := HP.out.lt
  have hblt := HP.out.held.lt
  have hB3 : Below w.heap.size w W3 := hB2.trans (hb3.mono hB2.size)
  have bx := HBX.out.below hb3 (by omega) (by omega) (by omega)
  have hp3 := HP.out.below hB3 hplt hblt
  have hn3 : NibCells W3 := HN.out.below hB3
  go_wp2_with fail
  have hsz3 : w.heap.size + 2 ≤ W3.heap.size := by have := hb3.size; omega
  have hSof : ∀ W', Below W3.heap.size W3 W' → (W'.cell? ⟨w.heap.size, 0, none⟩ = some (.pointer (some ⟨p, 0, none⟩)) ∧ W'.cell? ⟨p, 1, none⟩ = some (.map (some b)) ∧ W'.cell? ⟨w.heap.size + 1, 3, none⟩ = some (.int .i64 m.story) ∧ (Instr.lookup 68 (.map (some b)) (.int .i64 m.story) false).run Tryd.prog W' = .ok (.agg #[.int .i64 hh.seq, .string hh.text, .bool hh.has]) W') := by
    intro W' hW
    have bx' := bx.below hW (by omega) (by omega) (by omega)
    have hp' := hp3.below hW (by omega) (by omega)
    have hl := run_lookup_held hp'.held m.story
    rw [HHH.out] at hl
    exact ⟨bx'.f1, hp'.c1, bx'.f6, hl⟩
  have HS := Lib.hid hSof
  clear hSof
  refine wp_region_held_drew (S := fun W' : World => W'.cell? ⟨w.heap.size, 0, none⟩ = some (.pointer (some ⟨p, 0, none⟩)) ∧ W'.cell? ⟨p, 1, none⟩ = some (.map (some b)) ∧ W'.cell? ⟨w.heap.size + 1, 3, none⟩ = some (.int .i64 m.story) ∧ (Instr.lookup 68 (.map (some b)) (.int .i64 m.story) false).run Tryd.prog W' = .ok (.agg #[.int .i64 hh.seq, .string hh.text, .bool hh.has]) W') (by kernel_rfl) (HS.out _ (Below.drew (Below.refl _ _))) (fun hHeld => ?_)
  refine wpAnyH_take (i := 0) (v := ?v1) rfl (by kernel_rfl) (by kernel_rfl) (by kernel_rfl) (fun _ _ _ h => h) (Or.inl ⟨by rfl, ?hy1⟩) (by assumption) ?rest1
  case hy1 => intro w hSw; (try dsimp only at hSw); go_simp; try with_reducible rfl
  case rest1 =>
  try simp only [Act.put, List.getElem_toArray, List.getElem_cons_succ, List.getElem_cons_zero, List.setIfInBounds_toArray, List.set_cons_zero, List.set_cons_succ]
  refine wpAnyH_take (i := 1) (v := ?v2) rfl (by kernel_rfl) (by kernel_rfl) (by kernel_rfl) (fun _ _ _ h => h) (Or.inl ⟨by rfl, ?hy2⟩) (by assumption) ?rest2
  case hy2 => intro w hSw; (try dsimp only at hSw); go_simp; try with_reducible rfl
  case rest2 =>
  try simp only [Act.put, List.getElem_toArray, List.getElem_cons_succ, List.getElem_cons_zero, List.setIfInBounds_toArray, List.set_cons_zero, List.set_cons_succ]
  refine wpAnyH_take (i := 2) (v := ?v3) rfl (by kernel_rfl) (by kernel_rfl) (by kernel_rfl) (fun _ _ _ h => h) (Or.inl ⟨by rfl, ?hy3⟩) (by assumption) ?rest3
  case hy3 => intro w hSw; (try dsimp only at hSw); go_simp; try with_reducible rfl
  case rest3 =>
  try simp only [Act.put, List.getElem_toArray, List.getElem_cons_succ, List.getElem_cons_zero, List.setIfInBounds_toArray, List.set_cons_zero, List.set_cons_succ]
  refine wpAnyH_take (i := 3) (v := ?v4) rfl (by kernel_rfl) (by kernel_rfl) (by kernel_rfl) (fun _ _ _ h => h) (Or.inl ⟨by rfl, ?hy4⟩) (by assumption) ?rest4
  case hy4 => intro w hSw; (try dsimp only at hSw); go_simp; try with_reducible rfl
  case rest4 =>
  try simp only [Act.put, List.getElem_toArray, List.getElem_cons_succ, List.getElem_cons_zero, List.setIfInBounds_toArray, List.set_cons_zero, List.set_cons_succ]
  refine wpAnyH_take (i := 4) (v := ?v5) rfl (by kernel_rfl) (by kernel_rfl) (by kernel_rfl) (fun _ _ _ h => h) (Or.inl ⟨by rfl, ?hy5⟩) (by assumption) ?rest5
  case hy5 => intro w hSw; (try dsimp only at hSw); go_simp; try with_reducible rfl
  case rest5 =>
  try simp only [Act.put, List.getElem_toArray, List.getElem_cons_succ, List.getElem_cons_zero, List.setIfInBounds_toArray, List.set_cons_zero, List.set_cons_succ]
  refine wpAnyH_take (i := 5) (v := ?v6) rfl (by kernel_rfl) (by kernel_rfl) (by kernel_rfl) (fun _ _ _ h => h) (Or.inl ⟨by rfl, ?hy6⟩) (by assumption) ?rest6
  case hy6 => intro w hSw; (try dsimp only at hSw); go_simp; try with_reducible rfl
  case rest6 =>
  try simp only [Act.put, List.getElem_toArray, List.getElem_cons_succ, List.getElem_cons_zero, List.setIfInBounds_toArray, List.set_cons_zero, List.set_cons_succ]
  refine wpAnyH_take (i := 6) (v := ?v7) rfl (by kernel_rfl) (by kernel_rfl) (by kernel_rfl) (fun _ _ _ h => h) (Or.inl ⟨by rfl, ?hy7⟩) (by assumption) ?rest7
  case hy7 => intro w hSw; (try dsimp only at hSw); go_simp; try with_reducible rfl
  case rest7 =>
  try simp only [Act.put, List.getElem_toArray, List.getElem_cons_succ, List.getElem_cons_zero, List.setIfInBounds_toArray, List.set_cons_zero, List.set_cons_succ]
  refine wpAnyH_ready (rs := [7]) (by kernel_rfl) (by simp) ?_
  refine AllReadyH.cons rfl (fun K hK => ?_) AllReadyH.nil
  go_simp
  refine hK.out _ _ (HS.out _ ((Below.drew (Below.refl _ _)).alloc (Nat.le_refl _) _)) (fun hS => ?_)
  clear hK K
  try simp only [Act.put, List.getElem_toArray, List.getElem_cons_succ, List.getElem_cons_zero, List.setIfInBounds_toArray, List.set_cons_zero, List.set_cons_succ]
  refine wpAnyH_ready (rs := [8]) (by kernel_rfl) (by simp) ?_
  refine AllReadyH.cons rfl (fun K hK => ?_) AllReadyH.nil
  go_simp
  refine hK.out _ _ (HS.out _ (Below.drew ((Below.refl _ _).alloc (Nat.le_refl _) _))) (fun hS => ?_)
  clear hK K
  try simp only [Act.put, List.getElem_toArray, List.getElem_cons_succ, List.getElem_cons_zero, List.setIfInBounds_toArray, List.set_cons_zero, List.set_cons_succ]
  refine wpAnyH_done (by kernel_rfl) ?_ _
  clear hHeld hS
  obtain ⟨c5, hc5⟩ : ∃ c5, W3.heap.size = c5 := ⟨_, rfl⟩
  obtain ⟨W5, hW5⟩ : ∃ W5, (W3.alloc (.cells #[.int .i64 hh.seq, .string hh.text, .bool hh.has] 73)).drew = W5 := ⟨_, rfl⟩
  have hb5 : Below W3.heap.size W3 W5 := by rw [← hW5]; exact Below.drew ((Below.refl _ _).alloc (Nat.le_refl _) _)
  have c5b : W5.heap[c5]? = some (.cells #[.int .i64 hh.seq, .string hh.text, .bool hh.has] 73 (0, 0)) := by rw [← hW5, ← hc5]; exact World.alloc_heap_new W3 _
  have hB5 : Below w.heap.size w W5 := hB3.trans (hb5.mono hB3.size)
  have bx5 := bx.below hb5 (by omega) (by omega) (by omega)
  have hp5 := hp3.below hb5 (by omega) (by omega)
  have hn5 : NibCells W5 := hn3.below hb5
  rw [hW5, hc5]
  clear hW5 HS
  have g1 := bx5.f1
  have g5 := bx5.f5
  have h51 : W5.cell? ⟨c5, 0, none⟩ = some (.int .i64 hh.seq) := Lib.cell_of_heap c5b 0
  have h52 : W5.cell? ⟨c5, 1, none⟩ = some (.string hh.text) := Lib.cell_of_heap c5b 1
  have t0 : decide (m.seq < hh.seq) = false := by have := HSQ.out; simp; omega
  have t1 : (m.seq == hh.seq) = false := by have := HSQ.out; simp; omega
  have hpb : p ≠ b := by
    intro e
    obtain ⟨es, cl, hq, _⟩ := HP.out.held
    have := HP.out.heap
    rw [e, hq] at this
    cases this
  have hpX := hp5
  have bxX := bx5
  have hBX := hB5
  have hszX0 : w.heap.size + 2 ≤ W5.heap.size := by have := hb5.size; omega
  have k3 := bx5.f3
  go_wp2_with fail
  obtain ⟨W6, hrun, hheld6, hgr6⟩ := run_update_held (w := W5.drew) (show IsHeld W5.drew b l from hpX.held) m.story ⟨m.seq, .empty, false⟩
  have hrun' : (Instr.mapUpdate 68 (.map (some b)) (.int .i64 m.story) (.agg #[.int .i64 m.seq, .string ⟨#[]⟩, .bool false])).run Tryd.prog W5.drew = .ok () W6 := hrun
  clear hrun
  have hszX : w.heap.size + 2 ≤ W5.heap.size := hszX0
  have far : ∀ (k : Nat) (o : Nat), k < W5.heap.size → k ≠ b → W6.cell? ⟨k, o, none⟩ = W5.cell? ⟨k, o, none⟩ := fun k o h1 h2 => by
    have hbk := hgr6.block k h1 (by simpa using h2)
    unfold World.cell?
    rw [hbk]
    rfl
  have e1 : W6.cell? ⟨w.heap.size, 0, none⟩ = some (.pointer (some ⟨p, 0, none⟩)) := (far _ _ (by omega) (by omega)).trans bxX.f1
  have e2 : W6.cell? ⟨p, 1, none⟩ = some (.map (some b)) := (far _ _ (by omega) hpb).trans hpX.c1
  have e3 : W6.cell? ⟨w.heap.size + 1, 3, none⟩ = some (.int .i64 m.story) := (far _ _ (by omega) (by omega)).trans bxX.f6
  have e4 : W6.cell? ⟨w.heap.size + 1, 2, none⟩ = some (.int .i64 m.seq) := (far _ _ (by omega) (by omega)).trans bxX.f5
  have e5 : W6.cell? ⟨p, 0, none⟩ = some (.int .i64 id) := (far _ _ (by omega) hpb).trans bxX.f2
  have e6 : W6.cell? ⟨w.heap.size + 1, 5, none⟩ = some (.int .i64 m.version) := (far _ _ (by omega) (by omega)).trans bxX.f8
  have hp6 : IsP p b id (mapPut l m.story ⟨m.seq, .empty, false⟩) W6 := ⟨(hgr6.block p (show p < W5.drew.heap.size by simp; omega) (by simpa using hpb)).trans hpX.heap, hheld6⟩
  have hg6 : w.grownBy W6 (some b) := World.grownBy.trans (show w.grownBy W5.drew (some b) from ⟨hBX.os, hBX.tape, hBX.output, hBX.size, fun j hj _ => hBX.block j hj⟩) hgr6
  clear hheld6 hgr6
  refine wp_region_held_drew (S := fun W' : World => W'.cell? ⟨w.heap.size, 0, none⟩ = some (.pointer (some ⟨p, 0, none⟩)) ∧ W'.cell? ⟨p, 1, none⟩ = some (.map (some b)) ∧ W'.cell? ⟨w.heap.size + 1, 3, none⟩ = some (.int .i64 m.story) ∧ W'.cell? ⟨w.heap.size + 1, 2, none⟩ = some (.int .i64 m.seq)) (by kernel_rfl) ⟨bxX.f1, hpX.c1, bxX.f6, bxX.f5⟩ (fun hHeld => ?_)
  refine wpAnyH_take (i := 0) (v := ?v8) rfl (by kernel_rfl) (by kernel_rfl) (by kernel_rfl) (fun _ _ _ h => h) (Or.inl ⟨by rfl, ?hy8⟩) (by assumption) ?rest8
  case hy8 => intro w hSw; (try dsimp only at hSw); go_simp; try with_reducible rfl
  case rest8 =>
  try simp only [Act.put, List.getElem_toArray, List.getElem_cons_succ, List.getElem_cons_zero, List.setIfInBounds_toArray, List.set_cons_zero, List.set_cons_succ]
  refine wpAnyH_take (i := 1) (v := ?v9) rfl (by kernel_rfl) (by kernel_rfl) (by kernel_rfl) (fun _ _ _ h => h) (Or.inl ⟨by rfl, ?hy9⟩) (by assumption) ?rest9
  case hy9 => intro w hSw; (try dsimp only at hSw); go_simp; try with_reducible rfl
  case rest9 =>
  try simp only [Act.put, List.getElem_toArray, List.getElem_cons_succ, List.getElem_cons_zero, List.setIfInBounds_toArray, List.set_cons_zero, List.set_cons_succ]
  refine wpAnyH_take (i := 2) (v := ?v10) rfl (by kernel_rfl) (by kernel_rfl) (by kernel_rfl) (fun _ _ _ h => h) (Or.inl ⟨by rfl, ?hy10⟩) (by assumption) ?rest10
  case hy10 => intro w hSw; (try dsimp only at hSw); go_simp; try with_reducible rfl
  case rest10 =>
  try simp only [Act.put, List.getElem_toArray, List.getElem_cons_succ, List.getElem_cons_zero, List.setIfInBounds_toArray, List.set_cons_zero, List.set_cons_succ]
  refine wpAnyH_take (i := 3) (v := ?v11) rfl (by kernel_rfl) (by kernel_rfl) (by kernel_rfl) (fun _ _ _ h => h) (Or.inl ⟨by rfl, ?hy11⟩) (by assumption) ?rest11
  case hy11 => intro w hSw; (try dsimp only at hSw); go_simp; try with_reducible rfl
  case rest11 =>
  try simp only [Act.put, List.getElem_toArray, List.getElem_cons_succ, List.getElem_cons_zero, List.setIfInBounds_toArray, List.set_cons_zero, List.set_cons_succ]
  refine wpAnyH_take (i := 4) (v := ?v12) rfl (by kernel_rfl) (by kernel_rfl) (by kernel_rfl) (fun _ _ _ h => h) (Or.inl ⟨by rfl, ?hy12⟩) (by assumption) ?rest12
  case hy12 => intro w hSw; (try dsimp only at hSw); go_simp; try with_reducible rfl
  case rest12 =>
  try simp only [Act.put, List.getElem_toArray, List.getElem_cons_succ, List.getElem_cons_zero, List.setIfInBounds_toArray, List.set_cons_zero, List.set_cons_succ]
  refine wpAnyH_take (i := 5) (v := ?v13) rfl (by kernel_rfl) (by kernel_rfl) (by kernel_rfl) (fun _ _ _ h => h) (Or.inl ⟨by rfl, ?hy13⟩) (by assumption) ?rest13
  case hy13 => intro w hSw; (try dsimp only at hSw); go_simp; try with_reducible rfl
  case rest13 =>
  try simp only [Act.put, List.getElem_toArray, List.getElem_cons_succ, List.getElem_cons_zero, List.setIfInBounds_toArray, List.set_cons_zero, List.set_cons_succ]
  refine wpAnyH_take (i := 6) (v := ?v14) rfl (by kernel_rfl) (by kernel_rfl) (by kernel_rfl) (fun _ _ _ h => h) (Or.inl ⟨by rfl, ?hy14⟩) (by assumption) ?rest14
  case hy14 => intro w hSw; (try dsimp only at hSw); go_simp; try with_reducible rfl
  case rest14 =>
  try simp only [Act.put, List.getElem_toArray, List.getElem_cons_succ, List.getElem_cons_zero, List.setIfInBounds_toArray, List.set_cons_zero, List.set_cons_succ]
  refine wpAnyH_take (i := 7) (v := ?v15) rfl (by kernel_rfl) (by kernel_rfl) (by kernel_rfl) (fun _ _ _ h => h) (Or.inl ⟨by rfl, ?hy15⟩) (by assumption) ?rest15
  case hy15 => intro w hSw; (try dsimp only at hSw); go_simp; try with_reducible rfl
  case rest15 =>
  try simp only [Act.put, List.getElem_toArray, List.getElem_cons_succ, List.getElem_cons_zero, List.setIfInBounds_toArray, List.set_cons_zero, List.set_cons_succ]
  refine wpAnyH_take (i := 8) (v := ?v16) rfl (by kernel_rfl) (by kernel_rfl) (by kernel_rfl) (fun _ _ _ h => h) (Or.inl ⟨by rfl, ?hy16⟩) (by assumption) ?rest16
  case hy16 => intro w hSw; (try dsimp only at hSw); go_simp; try with_reducible rfl
  case rest16 =>
  try simp only [Act.put, List.getElem_toArray, List.getElem_cons_succ, List.getElem_cons_zero, List.setIfInBounds_toArray, List.set_cons_zero, List.set_cons_succ]
  refine wpAnyH_ready (rs := [9]) (by kernel_rfl) (by simp) ?_
  refine AllReadyH.cons rfl (fun K hK => ?_) AllReadyH.nil
  go_simp
  refine hK.out _ _ (⟨e1, e2, e3, e4⟩) (fun hS => ?_)
  clear hK K
  try simp only [Act.put, List.getElem_toArray, List.getElem_cons_succ, List.getElem_cons_zero, List.setIfInBounds_toArray, List.set_cons_zero, List.set_cons_succ]
  refine wpAnyH_done (by kernel_rfl) ?_ _
  clear hHeld hS hrun'
  have CR := Lib.hid (ack_any 0 id m.seq m.story p w.heap.size (w.heap.size + 1) W6 e1 e5 e4 e3)
  go_wp2_with fail
  refine (CR.out).mono ?_
  rintro e W7 ⟨v, rfl, hans, hb7⟩
  go_wp2_with fail
  go_ret
  have hlt6 : p < W6.heap.size := hp6.lt
  have hbt6 : b < W6.heap.size := hp6.held.lt
  refine ⟨v, rfl, ?_, hp6.below hb7 hlt6 hbt6, hg6.trans ⟨hb7.os, hb7.tape, hb7.output, hb7.size, fun j hj _ => hb7.block j hj⟩⟩
  obtain ⟨g, hg, hv, hgc⟩ := hans
  exact ⟨g, Nat.le_trans hg6.size hg, hv, hgc⟩

set_option maxRecDepth 100000 in
set_option maxHeartbeats 6400000 in
theorem receive_notok {p b : Nat} {id : Int} {l : List (Int × Held)} {w : World} (hn : NibCells w) (hp : IsP p b id l w) (m : Msg) (hd : m.data.size ≤ 4611686018427387904) (h : validM m = true) (hpa : m.partner = id) (hk : m.kind = 1) (ht : (mapAt l m.story).text.size ≤ 4611686018427387904) (a0 a1 : Addr) (he : ErrCells a0 a1 w) (hs : (mapAt l m.story).seq < m.seq) (hdk : (delivF (mapAt l m.story) m).2 = false) :
    Calls Tryd.prog 18 #[.pointer (some ⟨p, 0, none⟩), msgV m] w fun e w' => ∃ v, e = .returned v ∧ IsAns w.heap.size w' v (some (rejM id m.seq m.story (sumB (mapAt l m.story).text))) ∧ Below w.heap.size w w' := by
  obtain ⟨hh, hhh⟩ : ∃ hh, mapAt l m.story = hh := ⟨_, rfl⟩
  rw [hhh] at ht hs
  try rw [hhh]
  have HSQ := Lib.hid hs
  clear hs
  have HHH := Lib.hid hhh
  clear hhh
  have cv := fun W => valid_any m W hd
  rw [h] at cv
  have q1 : (m.partner != id) = false := by simpa using hpa
  have q2 : (m.kind != 1) = false := by simpa using hk
  have q4 : (m.kind == 2) = false := by simp [hk]
  clear hpa hk
  have hbx := Boxes.made hp m
  obtain ⟨w2, hw2⟩ : ∃ w2, (w.alloc (.cells #[.pointer (some ⟨p, 0, none⟩)] 25)).alloc (.cells #[.int .i64 m.kind, .int .i64 m.partner, .int .i64 m.seq, .int .i64 m.story, .int .i64 m.base, .int .i64 m.version, .string m.data] 33) = w2 := ⟨_, rfl⟩
  have hB2 : Below w.heap.size w w2 := by rw [← hw2]; exact ((Below.refl _ _).alloc (Nat.le_refl _) _).alloc (by simp) _
  have hs2 : w2.heap.size = w.heap.size + 2 := by rw [← hw2]; simp
  rw [hw2] at hbx
  have HW := Lib.hid hw2
  have k1 := cell_regrown hbx.f1
  have k2 := cell_regrown hbx.f2
  have k3 := cell_regrown hbx.f3
  have k4 := cell_regrown hbx.f4
  have k5 := cell_regrown hbx.f5
  have k6 := cell_regrown hbx.f6
  have k7 := cell_regrown hbx.f7
  have k8 := cell_regrown hbx.f8
  have k9 := cell_regrown hbx.f9
  have cV : ∀ d os, Calls Tryd.prog 31 #[msgV m] (grow (redrawn w2 d) os) fun e w'' => e = .returned (.bool true) ∧ ∃ q : Regrown, w'' = grow (redrawn w2 q.d) q.os := fun d os => Calls.regrown_of (cv _)
  unfold msgV at cV ⊢
  have CV := Lib.hid cV
  have HBX := Lib.hid hbx
  have HP := Lib.hid hp
  have HN := Lib.hid hn
  have HE := Lib.hid he
  have HDK := Lib.hid hdk
  clear cv hbx hp hw2 cV hn he hdk
  go_enter Tryd.func18, Tryd.ntmps18
  go_wp2_with fail
  rw [HW.out]
  refine wp_region_quiet_below (by kernel_rfl) (by kernel_rfl) ?_
  repeat (go_big_quiet_step (exact CV.out _ _))
  refine wpQuiet_nil ?_
  intro W3 hw'
  have hb3 : Below w2.heap.size w2 W3 := by
    obtain ⟨q, hq⟩ := hw'
    rw [hq]
    exact below_regrown w2 q.d q.os
  clear hw' k1 k2 k3 k4 k5 k6 k7 k8 k9
  have hplt := HP.out.lt
  have hblt := HP.out.held.lt
  have hB3 : Below w.heap.size w W3 := hB2.trans (hb3.mono hB2.size)
  have bx := HBX.out.below hb3 (by omega) (by omega) (by omega)
  have hp3 := HP.out.below hB3 hplt hblt
  have hn3 : NibCells W3 := HN.out.below hB3
  go_wp2_with fail
  have hsz3 : w.heap.size + 2 ≤ W3.heap.size := by have := hb3.size; omega
  have hSof : ∀ W', Below W3.heap.size W3 W' → (W'.cell? ⟨w.heap.size, 0, none⟩ = some (.pointer (some ⟨p, 0, none⟩)) ∧ W'.cell? ⟨p, 1, none⟩ = some (.map (some b)) ∧ W'.cell? ⟨w.heap.size + 1, 3, none⟩ = some (.int .i64 m.story) ∧ (Instr.lookup 68 (.map (some b)) (.int .i64 m.story) false).run Tryd.prog W' = .ok (.agg #[.int .i64 hh.seq, .string hh.text, .bool hh.has]) W') := by
    intro W' hW
    have bx' := bx.below hW (by omega) (by omega) (by omega)
    have hp' := hp3.below hW (by omega) (by omega)
    have hl := run_lookup_held hp'.held m.story
    rw [HHH.out] at hl
    exact ⟨bx'.f1, hp'.c1, bx'.f6, hl⟩
  have HS := Lib.hid hSof
  clear hSof
  refine wp_region_held_drew (S := fun W' : World => W'.cell? ⟨w.heap.size, 0, none⟩ = some (.pointer (some ⟨p, 0, none⟩)) ∧ W'.cell? ⟨p, 1, none⟩ = some (.map (some b)) ∧ W'.cell? ⟨w.heap.size + 1, 3, none⟩ = some (.int .i64 m.story) ∧ (Instr.lookup 68 (.map (some b)) (.int .i64 m.story) false).run Tryd.prog W' = .ok (.agg #[.int .i64 hh.seq, .string hh.text, .bool hh.has]) W') (by kernel_rfl) (HS.out _ (Below.drew (Below.refl _ _))) (fun hHeld => ?_)
  refine wpAnyH_take (i := 0) (v := ?v17) rfl (by kernel_rfl) (by kernel_rfl) (by kernel_rfl) (fun _ _ _ h => h) (Or.inl ⟨by rfl, ?hy17⟩) (by assumption) ?rest17
  case hy17 => intro w hSw; (try dsimp only at hSw); go_simp; try with_reducible rfl
  case rest17 =>
  try simp only [Act.put, List.getElem_toArray, List.getElem_cons_succ, List.getElem_cons_zero, List.setIfInBounds_toArray, List.set_cons_zero, List.set_cons_succ]
  refine wpAnyH_take (i := 1) (v := ?v18) rfl (by kernel_rfl) (by kernel_rfl) (by kernel_rfl) (fun _ _ _ h => h) (Or.inl ⟨by rfl, ?hy18⟩) (by assumption) ?rest18
  case hy18 => intro w hSw; (try dsimp only at hSw); go_simp; try with_reducible rfl
  case rest18 =>
  try simp only [Act.put, List.getElem_toArray, List.getElem_cons_succ, List.getElem_cons_zero, List.setIfInBounds_toArray, List.set_cons_zero, List.set_cons_succ]
  refine wpAnyH_take (i := 2) (v := ?v19) rfl (by kernel_rfl) (by kernel_rfl) (by kernel_rfl) (fun _ _ _ h => h) (Or.inl ⟨by rfl, ?hy19⟩) (by assumption) ?rest19
  case hy19 => intro w hSw; (try dsimp only at hSw); go_simp; try with_reducible rfl
  case rest19 =>
  try simp only [Act.put, List.getElem_toArray, List.getElem_cons_succ, List.getElem_cons_zero, List.setIfInBounds_toArray, List.set_cons_zero, List.set_cons_succ]
  refine wpAnyH_take (i := 3) (v := ?v20) rfl (by kernel_rfl) (by kernel_rfl) (by kernel_rfl) (fun _ _ _ h => h) (Or.inl ⟨by rfl, ?hy20⟩) (by assumption) ?rest20
  case hy20 => intro w hSw; (try dsimp only at hSw); go_simp; try with_reducible rfl
  case rest20 =>
  try simp only [Act.put, List.getElem_toArray, List.getElem_cons_succ, List.getElem_cons_zero, List.setIfInBounds_toArray, List.set_cons_zero, List.set_cons_succ]
  refine wpAnyH_take (i := 4) (v := ?v21) rfl (by kernel_rfl) (by kernel_rfl) (by kernel_rfl) (fun _ _ _ h => h) (Or.inl ⟨by rfl, ?hy21⟩) (by assumption) ?rest21
  case hy21 => intro w hSw; (try dsimp only at hSw); go_simp; try with_reducible rfl
  case rest21 =>
  try simp only [Act.put, List.getElem_toArray, List.getElem_cons_succ, List.getElem_cons_zero, List.setIfInBounds_toArray, List.set_cons_zero, List.set_cons_succ]
  refine wpAnyH_take (i := 5) (v := ?v22) rfl (by kernel_rfl) (by kernel_rfl) (by kernel_rfl) (fun _ _ _ h => h) (Or.inl ⟨by rfl, ?hy22⟩) (by assumption) ?rest22
  case hy22 => intro w hSw; (try dsimp only at hSw); go_simp; try with_reducible rfl
  case rest22 =>
  try simp only [Act.put, List.getElem_toArray, List.getElem_cons_succ, List.getElem_cons_zero, List.setIfInBounds_toArray, List.set_cons_zero, List.set_cons_succ]
  refine wpAnyH_take (i := 6) (v := ?v23) rfl (by kernel_rfl) (by kernel_rfl) (by kernel_rfl) (fun _ _ _ h => h) (Or.inl ⟨by rfl, ?hy23⟩) (by assumption) ?rest23
  case hy23 => intro w hSw; (try dsimp only at hSw); go_simp; try with_reducible rfl
  case rest23 =>
  try simp only [Act.put, List.getElem_toArray, List.getElem_cons_succ, List.getElem_cons_zero, List.setIfInBounds_toArray, List.set_cons_zero, List.set_cons_succ]
  refine wpAnyH_ready (rs := [7]) (by kernel_rfl) (by simp) ?_
  refine AllReadyH.cons rfl (fun K hK => ?_) AllReadyH.nil
  go_simp
  refine hK.out _ _ (HS.out _ ((Below.drew (Below.refl _ _)).alloc (Nat.le_refl _) _)) (fun hS => ?_)
  clear hK K
  try simp only [Act.put, List.getElem_toArray, List.getElem_cons_succ, List.getElem_cons_zero, List.setIfInBounds_toArray, List.set_cons_zero, List.set_cons_succ]
  refine wpAnyH_ready (rs := [8]) (by kernel_rfl) (by simp) ?_
  refine AllReadyH.cons rfl (fun K hK => ?_) AllReadyH.nil
  go_simp
  refine hK.out _ _ (HS.out _ (Below.drew ((Below.refl _ _).alloc (Nat.le_refl _) _))) (fun hS => ?_)
  clear hK K
  try simp only [Act.put, List.getElem_toArray, List.getElem_cons_succ, List.getElem_cons_zero, List.setIfInBounds_toArray, List.set_cons_zero, List.set_cons_succ]
  refine wpAnyH_done (by kernel_rfl) ?_ _
  clear hHeld hS
  obtain ⟨c5, hc5⟩ : ∃ c5, W3.heap.size = c5 := ⟨_, rfl⟩
  obtain ⟨W5, hW5⟩ : ∃ W5, (W3.alloc (.cells #[.int .i64 hh.seq, .string hh.text, .bool hh.has] 73)).drew = W5 := ⟨_, rfl⟩
  have hb5 : Below W3.heap.size W3 W5 := by rw [← hW5]; exact Below.drew ((Below.refl _ _).alloc (Nat.le_refl _) _)
  have c5b : W5.heap[c5]? = some (.cells #[.int .i64 hh.seq, .string hh.text, .bool hh.has] 73 (0, 0)) := by rw [← hW5, ← hc5]; exact World.alloc_heap_new W3 _
  have hB5 : Below w.heap.size w W5 := hB3.trans (hb5.mono hB3.size)
  have bx5 := bx.below hb5 (by omega) (by omega) (by omega)
  have hp5 := hp3.below hb5 (by omega) (by omega)
  have hn5 : NibCells W5 := hn3.below hb5
  rw [hW5, hc5]
  clear hW5 HS
  have g1 := bx5.f1
  have g5 := bx5.f5
  have h51 : W5.cell? ⟨c5, 0, none⟩ = some (.int .i64 hh.seq) := Lib.cell_of_heap c5b 0
  have h52 : W5.cell? ⟨c5, 1, none⟩ = some (.string hh.text) := Lib.cell_of_heap c5b 1
  have t0 : decide (m.seq < hh.seq) = false := by have := HSQ.out; simp; omega
  have t1 : (m.seq == hh.seq) = false := by have := HSQ.out; simp; omega
  have hpb : p ≠ b := by
    intro e
    obtain ⟨es, cl, hq, _⟩ := HP.out.held
    have := HP.out.heap
    rw [e, hq] at this
    cases this
  have k3 := bx5.f3
  have k4 := bx5.f4
  have k6 := bx5.f6
  have k7 := bx5.f7
  have k8 := bx5.f8
  have k9 := bx5.f9
  have h53 : W5.cell? ⟨c5, 2, none⟩ = some (.bool hh.has) := Lib.cell_of_heap c5b 2
  have he5 : ErrCells a0 a1 W5 := by
    have hq := HE.out
    exact hq.below hB5
  obtain ⟨⟨tx, ok⟩, hdl⟩ : ∃ q, delivF hh m = q := ⟨_, rfl⟩
  have cd := delivered_any hh m a0 a1 W5 hn5 he5 ht hd
  rw [hdl] at cd
  unfold heldV msgV at cd
  have CD := Lib.hid cd
  have HDL := Lib.hid hdl
  have hok : ok = false := by have := HDK.out; rw [HHH.out, hdl] at this; exact this
  clear cd hdl
  subst hok
  go_wp2_with fail
  refine (CD.out).mono ?_
  rintro e WX ⟨rfl, hbX⟩
  have hBX := hB5.trans (hbX.mono hB5.size)
  have hszX0 : w.heap.size + 2 ≤ WX.heap.size := by have := hb5.size; have := hbX.size; omega
  have hlt5 : c5 < W5.heap.size := by
    rcases Nat.lt_or_ge c5 W5.heap.size with h' | h'
    · exact h'
    · simp [Array.getElem?_eq_none h'] at c5b
  have hsz5 : w.heap.size + 2 ≤ W5.heap.size := by have := hb5.size; omega
  have bxX := bx5.below hbX (by omega) (by omega) (by omega)
  have hpX := hp5.below hbX (by omega) (by omega)
  have hnX : NibCells WX := hn5.below hbX
  have x52 : WX.cell? ⟨c5, 1, none⟩ = some (.string hh.text) := (hbX.cell (p := ⟨c5, 1, none⟩) hlt5).trans h52
  have x5 := bxX.f5
  have x8 := bxX.f8
  have CR := Lib.hid (reject_any m.seq id m.story hh.text p w.heap.size (w.heap.size + 1) c5 WX hnX ht bxX.f1 bxX.f2 bxX.f6 x52)
  go_wp2_with fail
  refine (CR.out).mono ?_
  rintro e W6 ⟨v, rfl, hans, hb6⟩
  go_wp2_with fail
  go_ret
  refine ⟨v, rfl, ?_, hBX.trans (hb6.mono hBX.size)⟩
  obtain ⟨g, hg, hv, hgc⟩ := hans
  exact ⟨g, Nat.le_trans hBX.size hg, hv, hgc⟩

set_option maxRecDepth 100000 in
set_option maxHeartbeats 6400000 in
theorem receive_ok {p b : Nat} {id : Int} {l : List (Int × Held)} {w : World} (hn : NibCells w) (hp : IsP p b id l w) (m : Msg) (hd : m.data.size ≤ 4611686018427387904) (h : validM m = true) (hpa : m.partner = id) (hk : m.kind = 1) (ht : (mapAt l m.story).text.size ≤ 4611686018427387904) (a0 a1 : Addr) (he : ErrCells a0 a1 w) (hs : (mapAt l m.story).seq < m.seq) (hdk : (delivF (mapAt l m.story) m).2 = true) :
    Calls Tryd.prog 18 #[.pointer (some ⟨p, 0, none⟩), msgV m] w fun e w' => ∃ v, e = .returned v ∧ IsAns w.heap.size w' v (some (ackM id m.seq m.story m.version)) ∧ IsP p b id (mapPut l m.story ⟨m.seq, (delivF (mapAt l m.story) m).1, true⟩) w' ∧ w.grownBy w' (some b) := by
  obtain ⟨hh, hhh⟩ : ∃ hh, mapAt l m.story = hh := ⟨_, rfl⟩
  rw [hhh] at ht hs
  try rw [hhh]
  have HSQ := Lib.hid hs
  clear hs
  have HHH := Lib.hid hhh
  clear hhh
  have cv := fun W => valid_any m W hd
  rw [h] at cv
  have q1 : (m.partner != id) = false := by simpa using hpa
  have q2 : (m.kind != 1) = false := by simpa using hk
  have q4 : (m.kind == 2) = false := by simp [hk]
  clear hpa hk
  have hbx := Boxes.made hp m
  obtain ⟨w2, hw2⟩ : ∃ w2, (w.alloc (.cells #[.pointer (some ⟨p, 0, none⟩)] 25)).alloc (.cells #[.int .i64 m.kind, .int .i64 m.partner, .int .i64 m.seq, .int .i64 m.story, .int .i64 m.base, .int .i64 m.version, .string m.data] 33) = w2 := ⟨_, rfl⟩
  have hB2 : Below w.heap.size w w2 := by rw [← hw2]; exact ((Below.refl _ _).alloc (Nat.le_refl _) _).alloc (by simp) _
  have hs2 : w2.heap.size = w.heap.size + 2 := by rw [← hw2]; simp
  rw [hw2] at hbx
  have HW := Lib.hid hw2
  have k1 := cell_regrown hbx.f1
  have k2 := cell_regrown hbx.f2
  have k3 := cell_regrown hbx.f3
  have k4 := cell_regrown hbx.f4
  have k5 := cell_regrown hbx.f5
  have k6 := cell_regrown hbx.f6
  have k7 := cell_regrown hbx.f7
  have k8 := cell_regrown hbx.f8
  have k9 := cell_regrown hbx.f9
  have cV : ∀ d os, Calls Tryd.prog 31 #[msgV m] (grow (redrawn w2 d) os) fun e w'' => e = .returned (.bool true) ∧ ∃ q : Regrown, w'' = grow (redrawn w2 q.d) q.os := fun d os => Calls.regrown_of (cv _)
  unfold msgV at cV ⊢
  have CV := Lib.hid cV
  have HBX := Lib.hid hbx
  have HP := Lib.hid hp
  have HN := Lib.hid hn
  have HE := Lib.hid he
  have HDK := Lib.hid hdk
  clear cv hbx hp hw2 cV hn he hdk
  go_enter Tryd.func18, Tryd.ntmps18
  go_wp2_with fail
  rw [HW.out]
  refine wp_region_quiet_below (by kernel_rfl) (by kernel_rfl) ?_
  repeat (go_big_quiet_step (exact CV.out _ _))
  refine wpQuiet_nil ?_
  intro W3 hw'
  have hb3 : Below w2.heap.size w2 W3 := by
    obtain ⟨q, hq⟩ := hw'
    rw [hq]
    exact below_regrown w2 q.d q.os
  clear hw' k1 k2 k3 k4 k5 k6 k7 k8 k9
  have hplt := HP.out.lt
  have hblt := HP.out.held.lt
  have hB3 : Below w.heap.size w W3 := hB2.trans (hb3.mono hB2.size)
  have bx := HBX.out.below hb3 (by omega) (by omega) (by omega)
  have hp3 := HP.out.below hB3 hplt hblt
  have hn3 : NibCells W3 := HN.out.below hB3
  go_wp2_with fail
  have hsz3 : w.heap.size + 2 ≤ W3.heap.size := by have := hb3.size; omega
  have hSof : ∀ W', Below W3.heap.size W3 W' → (W'.cell? ⟨w.heap.size, 0, none⟩ = some (.pointer (some ⟨p, 0, none⟩)) ∧ W'.cell? ⟨p, 1, none⟩ = some (.map (some b)) ∧ W'.cell? ⟨w.heap.size + 1, 3, none⟩ = some (.int .i64 m.story) ∧ (Instr.lookup 68 (.map (some b)) (.int .i64 m.story) false).run Tryd.prog W' = .ok (.agg #[.int .i64 hh.seq, .string hh.text, .bool hh.has]) W') := by
    intro W' hW
    have bx' := bx.below hW (by omega) (by omega) (by omega)
    have hp' := hp3.below hW (by omega) (by omega)
    have hl := run_lookup_held hp'.held m.story
    rw [HHH.out] at hl
    exact ⟨bx'.f1, hp'.c1, bx'.f6, hl⟩
  have HS := Lib.hid hSof
  clear hSof
  refine wp_region_held_drew (S := fun W' : World => W'.cell? ⟨w.heap.size, 0, none⟩ = some (.pointer (some ⟨p, 0, none⟩)) ∧ W'.cell? ⟨p, 1, none⟩ = some (.map (some b)) ∧ W'.cell? ⟨w.heap.size + 1, 3, none⟩ = some (.int .i64 m.story) ∧ (Instr.lookup 68 (.map (some b)) (.int .i64 m.story) false).run Tryd.prog W' = .ok (.agg #[.int .i64 hh.seq, .string hh.text, .bool hh.has]) W') (by kernel_rfl) (HS.out _ (Below.drew (Below.refl _ _))) (fun hHeld => ?_)
  refine wpAnyH_take (i := 0) (v := ?v24) rfl (by kernel_rfl) (by kernel_rfl) (by kernel_rfl) (fun _ _ _ h => h) (Or.inl ⟨by rfl, ?hy24⟩) (by assumption) ?rest24
  case hy24 => intro w hSw; (try dsimp only at hSw); go_simp; try with_reducible rfl
  case rest24 =>
  try simp only [Act.put, List.getElem_toArray, List.getElem_cons_succ, List.getElem_cons_zero, List.setIfInBounds_toArray, List.set_cons_zero, List.set_cons_succ]
  refine wpAnyH_take (i := 1) (v := ?v25) rfl (by kernel_rfl) (by kernel_rfl) (by kernel_rfl) (fun _ _ _ h => h) (Or.inl ⟨by rfl, ?hy25⟩) (by assumption) ?rest25
  case hy25 => intro w hSw; (try dsimp only at hSw); go_simp; try with_reducible rfl
  case rest25 =>
  try simp only [Act.put, List.getElem_toArray, List.getElem_cons_succ, List.getElem_cons_zero, List.setIfInBounds_toArray, List.set_cons_zero, List.set_cons_succ]
  refine wpAnyH_take (i := 2) (v := ?v26) rfl (by kernel_rfl) (by kernel_rfl) (by kernel_rfl) (fun _ _ _ h => h) (Or.inl ⟨by rfl, ?hy26⟩) (by assumption) ?rest26
  case hy26 => intro w hSw; (try dsimp only at hSw); go_simp; try with_reducible rfl
  case rest26 =>
  try simp only [Act.put, List.getElem_toArray, List.getElem_cons_succ, List.getElem_cons_zero, List.setIfInBounds_toArray, List.set_cons_zero, List.set_cons_succ]
  refine wpAnyH_take (i := 3) (v := ?v27) rfl (by kernel_rfl) (by kernel_rfl) (by kernel_rfl) (fun _ _ _ h => h) (Or.inl ⟨by rfl, ?hy27⟩) (by assumption) ?rest27
  case hy27 => intro w hSw; (try dsimp only at hSw); go_simp; try with_reducible rfl
  case rest27 =>
  try simp only [Act.put, List.getElem_toArray, List.getElem_cons_succ, List.getElem_cons_zero, List.setIfInBounds_toArray, List.set_cons_zero, List.set_cons_succ]
  refine wpAnyH_take (i := 4) (v := ?v28) rfl (by kernel_rfl) (by kernel_rfl) (by kernel_rfl) (fun _ _ _ h => h) (Or.inl ⟨by rfl, ?hy28⟩) (by assumption) ?rest28
  case hy28 => intro w hSw; (try dsimp only at hSw); go_simp; try with_reducible rfl
  case rest28 =>
  try simp only [Act.put, List.getElem_toArray, List.getElem_cons_succ, List.getElem_cons_zero, List.setIfInBounds_toArray, List.set_cons_zero, List.set_cons_succ]
  refine wpAnyH_take (i := 5) (v := ?v29) rfl (by kernel_rfl) (by kernel_rfl) (by kernel_rfl) (fun _ _ _ h => h) (Or.inl ⟨by rfl, ?hy29⟩) (by assumption) ?rest29
  case hy29 => intro w hSw; (try dsimp only at hSw); go_simp; try with_reducible rfl
  case rest29 =>
  try simp only [Act.put, List.getElem_toArray, List.getElem_cons_succ, List.getElem_cons_zero, List.setIfInBounds_toArray, List.set_cons_zero, List.set_cons_succ]
  refine wpAnyH_take (i := 6) (v := ?v30) rfl (by kernel_rfl) (by kernel_rfl) (by kernel_rfl) (fun _ _ _ h => h) (Or.inl ⟨by rfl, ?hy30⟩) (by assumption) ?rest30
  case hy30 => intro w hSw; (try dsimp only at hSw); go_simp; try with_reducible rfl
  case rest30 =>
  try simp only [Act.put, List.getElem_toArray, List.getElem_cons_succ, List.getElem_cons_zero, List.setIfInBounds_toArray, List.set_cons_zero, List.set_cons_succ]
  refine wpAnyH_ready (rs := [7]) (by kernel_rfl) (by simp) ?_
  refine AllReadyH.cons rfl (fun K hK => ?_) AllReadyH.nil
  go_simp
  refine hK.out _ _ (HS.out _ ((Below.drew (Below.refl _ _)).alloc (Nat.le_refl _) _)) (fun hS => ?_)
  clear hK K
  try simp only [Act.put, List.getElem_toArray, List.getElem_cons_succ, List.getElem_cons_zero, List.setIfInBounds_toArray, List.set_cons_zero, List.set_cons_succ]
  refine wpAnyH_ready (rs := [8]) (by kernel_rfl) (by simp) ?_
  refine AllReadyH.cons rfl (fun K hK => ?_) AllReadyH.nil
  go_simp
  refine hK.out _ _ (HS.out _ (Below.drew ((Below.refl _ _).alloc (Nat.le_refl _) _))) (fun hS => ?_)
  clear hK K
  try simp only [Act.put, List.getElem_toArray, List.getElem_cons_succ, List.getElem_cons_zero, List.setIfInBounds_toArray, List.set_cons_zero, List.set_cons_succ]
  refine wpAnyH_done (by kernel_rfl) ?_ _
  clear hHeld hS
  obtain ⟨c5, hc5⟩ : ∃ c5, W3.heap.size = c5 := ⟨_, rfl⟩
  obtain ⟨W5, hW5⟩ : ∃ W5, (W3.alloc (.cells #[.int .i64 hh.seq, .string hh.text, .bool hh.has] 73)).drew = W5 := ⟨_, rfl⟩
  have hb5 : Below W3.heap.size W3 W5 := by rw [← hW5]; exact Below.drew ((Below.refl _ _).alloc (Nat.le_refl _) _)
  have c5b : W5.heap[c5]? = some (.cells #[.int .i64 hh.seq, .string hh.text, .bool hh.has] 73 (0, 0)) := by rw [← hW5, ← hc5]; exact World.alloc_heap_new W3 _
  have hB5 : Below w.heap.size w W5 := hB3.trans (hb5.mono hB3.size)
  have bx5 := bx.below hb5 (by omega) (by omega) (by omega)
  have hp5 := hp3.below hb5 (by omega) (by omega)
  have hn5 : NibCells W5 := hn3.below hb5
  rw [hW5, hc5]
  clear hW5 HS
  have g1 := bx5.f1
  have g5 := bx5.f5
  have h51 : W5.cell? ⟨c5, 0, none⟩ = some (.int .i64 hh.seq) := Lib.cell_of_heap c5b 0
  have h52 : W5.cell? ⟨c5, 1, none⟩ = some (.string hh.text) := Lib.cell_of_heap c5b 1
  have t0 : decide (m.seq < hh.seq) = false := by have := HSQ.out; simp; omega
  have t1 : (m.seq == hh.seq) = false := by have := HSQ.out; simp; omega
  have hpb : p ≠ b := by
    intro e
    obtain ⟨es, cl, hq, _⟩ := HP.out.held
    have := HP.out.heap
    rw [e, hq] at this
    cases this
  have k3 := bx5.f3
  have k4 := bx5.f4
  have k6 := bx5.f6
  have k7 := bx5.f7
  have k8 := bx5.f8
  have k9 := bx5.f9
  have h53 : W5.cell? ⟨c5, 2, none⟩ = some (.bool hh.has) := Lib.cell_of_heap c5b 2
  have he5 : ErrCells a0 a1 W5 := by
    have hq := HE.out
    exact hq.below hB5
  obtain ⟨⟨tx, ok⟩, hdl⟩ : ∃ q, delivF hh m = q := ⟨_, rfl⟩
  have cd := delivered_any hh m a0 a1 W5 hn5 he5 ht hd
  rw [hdl] at cd
  unfold heldV msgV at cd
  have CD := Lib.hid cd
  have HDL := Lib.hid hdl
  have hok : ok = true := by have := HDK.out; rw [HHH.out, hdl] at this; exact this
  clear cd hdl
  subst hok
  go_wp2_with fail
  refine (CD.out).mono ?_
  rintro e WX ⟨rfl, hbX⟩
  have hBX := hB5.trans (hbX.mono hB5.size)
  have hszX0 : w.heap.size + 2 ≤ WX.heap.size := by have := hb5.size; have := hbX.size; omega
  have hlt5 : c5 < W5.heap.size := by
    rcases Nat.lt_or_ge c5 W5.heap.size with h' | h'
    · exact h'
    · simp [Array.getElem?_eq_none h'] at c5b
  have hsz5 : w.heap.size + 2 ≤ W5.heap.size := by have := hb5.size; omega
  have bxX := bx5.below hbX (by omega) (by omega) (by omega)
  have hpX := hp5.below hbX (by omega) (by omega)
  have hnX : NibCells WX := hn5.below hbX
  have x52 : WX.cell? ⟨c5, 1, none⟩ = some (.string hh.text) := (hbX.cell (p := ⟨c5, 1, none⟩) hlt5).trans h52
  have x5 := bxX.f5
  have x8 := bxX.f8
  go_wp2_with fail
  obtain ⟨W6, hrun, hheld6, hgr6⟩ := run_update_held (w := WX.drew) (show IsHeld WX.drew b l from hpX.held) m.story ⟨m.seq, tx, true⟩
  have hrun' : (Instr.mapUpdate 68 (.map (some b)) (.int .i64 m.story) (.agg #[.int .i64 m.seq, .string tx, .bool true])).run Tryd.prog WX.drew = .ok () W6 := hrun
  clear hrun
  have hszX : w.heap.size + 2 ≤ WX.heap.size := hszX0
  have far : ∀ (k : Nat) (o : Nat), k < WX.heap.size → k ≠ b → W6.cell? ⟨k, o, none⟩ = WX.cell? ⟨k, o, none⟩ := fun k o h1 h2 => by
    have hbk := hgr6.block k h1 (by simpa using h2)
    unfold World.cell?
    rw [hbk]
    rfl
  have e1 : W6.cell? ⟨w.heap.size, 0, none⟩ = some (.pointer (some ⟨p, 0, none⟩)) := (far _ _ (by omega) (by omega)).trans bxX.f1
  have e2 : W6.cell? ⟨p, 1, none⟩ = some (.map (some b)) := (far _ _ (by omega) hpb).trans hpX.c1
  have e3 : W6.cell? ⟨w.heap.size + 1, 3, none⟩ = some (.int .i64 m.story) := (far _ _ (by omega) (by omega)).trans bxX.f6
  have e4 : W6.cell? ⟨w.heap.size + 1, 2, none⟩ = some (.int .i64 m.seq) := (far _ _ (by omega) (by omega)).trans bxX.f5
  have e5 : W6.cell? ⟨p, 0, none⟩ = some (.int .i64 id) := (far _ _ (by omega) hpb).trans bxX.f2
  have e6 : W6.cell? ⟨w.heap.size + 1, 5, none⟩ = some (.int .i64 m.version) := (far _ _ (by omega) (by omega)).trans bxX.f8
  have hp6 : IsP p b id (mapPut l m.story ⟨m.seq, tx, true⟩) W6 := ⟨(hgr6.block p (show p < WX.drew.heap.size by simp; omega) (by simpa using hpb)).trans hpX.heap, hheld6⟩
  have hg6 : w.grownBy W6 (some b) := World.grownBy.trans (show w.grownBy WX.drew (some b) from ⟨hBX.os, hBX.tape, hBX.output, hBX.size, fun j hj _ => hBX.block j hj⟩) hgr6
  clear hheld6 hgr6
  refine wp_region_held_drew (S := fun W' : World => W'.cell? ⟨w.heap.size, 0, none⟩ = some (.pointer (some ⟨p, 0, none⟩)) ∧ W'.cell? ⟨p, 1, none⟩ = some (.map (some b)) ∧ W'.cell? ⟨w.heap.size + 1, 3, none⟩ = some (.int .i64 m.story) ∧ W'.cell? ⟨w.heap.size + 1, 2, none⟩ = some (.int .i64 m.seq)) (by kernel_rfl) ⟨bxX.f1, hpX.c1, bxX.f6, bxX.f5⟩ (fun hHeld => ?_)
  refine wpAnyH_take (i := 0) (v := ?v31) rfl (by kernel_rfl) (by kernel_rfl) (by kernel_rfl) (fun _ _ _ h => h) (Or.inl ⟨by rfl, ?hy31⟩) (by assumption) ?rest31
  case hy31 => intro w hSw; (try dsimp only at hSw); go_simp; try with_reducible rfl
  case rest31 =>
  try simp only [Act.put, List.getElem_toArray, List.getElem_cons_succ, List.getElem_cons_zero, List.setIfInBounds_toArray, List.set_cons_zero, List.set_cons_succ]
  refine wpAnyH_take (i := 1) (v := ?v32) rfl (by kernel_rfl) (by kernel_rfl) (by kernel_rfl) (fun _ _ _ h => h) (Or.inl ⟨by rfl, ?hy32⟩) (by assumption) ?rest32
  case hy32 => intro w hSw; (try dsimp only at hSw); go_simp; try with_reducible rfl
  case rest32 =>
  try simp only [Act.put, List.getElem_toArray, List.getElem_cons_succ, List.getElem_cons_zero, List.setIfInBounds_toArray, List.set_cons_zero, List.set_cons_succ]
  refine wpAnyH_take (i := 2) (v := ?v33) rfl (by kernel_rfl) (by kernel_rfl) (by kernel_rfl) (fun _ _ _ h => h) (Or.inl ⟨by rfl, ?hy33⟩) (by assumption) ?rest33
  case hy33 => intro w hSw; (try dsimp only at hSw); go_simp; try with_reducible rfl
  case rest33 =>
  try simp only [Act.put, List.getElem_toArray, List.getElem_cons_succ, List.getElem_cons_zero, List.setIfInBounds_toArray, List.set_cons_zero, List.set_cons_succ]
  refine wpAnyH_take (i := 3) (v := ?v34) rfl (by kernel_rfl) (by kernel_rfl) (by kernel_rfl) (fun _ _ _ h => h) (Or.inl ⟨by rfl, ?hy34⟩) (by assumption) ?rest34
  case hy34 => intro w hSw; (try dsimp only at hSw); go_simp; try with_reducible rfl
  case rest34 =>
  try simp only [Act.put, List.getElem_toArray, List.getElem_cons_succ, List.getElem_cons_zero, List.setIfInBounds_toArray, List.set_cons_zero, List.set_cons_succ]
  refine wpAnyH_take (i := 4) (v := ?v35) rfl (by kernel_rfl) (by kernel_rfl) (by kernel_rfl) (fun _ _ _ h => h) (Or.inl ⟨by rfl, ?hy35⟩) (by assumption) ?rest35
  case hy35 => intro w hSw; (try dsimp only at hSw); go_simp; try with_reducible rfl
  case rest35 =>
  try simp only [Act.put, List.getElem_toArray, List.getElem_cons_succ, List.getElem_cons_zero, List.setIfInBounds_toArray, List.set_cons_zero, List.set_cons_succ]
  refine wpAnyH_take (i := 5) (v := ?v36) rfl (by kernel_rfl) (by kernel_rfl) (by kernel_rfl) (fun _ _ _ h => h) (Or.inl ⟨by rfl, ?hy36⟩) (by assumption) ?rest36
  case hy36 => intro w hSw; (try dsimp only at hSw); go_simp; try with_reducible rfl
  case rest36 =>
  try simp only [Act.put, List.getElem_toArray, List.getElem_cons_succ, List.getElem_cons_zero, List.setIfInBounds_toArray, List.set_cons_zero, List.set_cons_succ]
  refine wpAnyH_take (i := 6) (v := ?v37) rfl (by kernel_rfl) (by kernel_rfl) (by kernel_rfl) (fun _ _ _ h => h) (Or.inl ⟨by rfl, ?hy37⟩) (by assumption) ?rest37
  case hy37 => intro w hSw; (try dsimp only at hSw); go_simp; try with_reducible rfl
  case rest37 =>
  try simp only [Act.put, List.getElem_toArray, List.getElem_cons_succ, List.getElem_cons_zero, List.setIfInBounds_toArray, List.set_cons_zero, List.set_cons_succ]
  refine wpAnyH_take (i := 7) (v := ?v38) rfl (by kernel_rfl) (by kernel_rfl) (by kernel_rfl) (fun _ _ _ h => h) (Or.inl ⟨by rfl, ?hy38⟩) (by assumption) ?rest38
  case hy38 => intro w hSw; (try dsimp only at hSw); go_simp; try with_reducible rfl
  case rest38 =>
  try simp only [Act.put, List.getElem_toArray, List.getElem_cons_succ, List.getElem_cons_zero, List.setIfInBounds_toArray, List.set_cons_zero, List.set_cons_succ]
  refine wpAnyH_take (i := 8) (v := ?v39) rfl (by kernel_rfl) (by kernel_rfl) (by kernel_rfl) (fun _ _ _ h => h) (Or.inl ⟨by rfl, ?hy39⟩) (by assumption) ?rest39
  case hy39 => intro w hSw; (try dsimp only at hSw); go_simp; try with_reducible rfl
  case rest39 =>
  try simp only [Act.put, List.getElem_toArray, List.getElem_cons_succ, List.getElem_cons_zero, List.setIfInBounds_toArray, List.set_cons_zero, List.set_cons_succ]
  refine wpAnyH_take (i := 9) (v := ?v40) rfl (by kernel_rfl) (by kernel_rfl) (by kernel_rfl) (fun _ _ _ h => h) (Or.inl ⟨by rfl, ?hy40⟩) (by assumption) ?rest40
  case hy40 => intro w hSw; (try dsimp only at hSw); go_simp; try with_reducible rfl
  case rest40 =>
  try simp only [Act.put, List.getElem_toArray, List.getElem_cons_succ, List.getElem_cons_zero, List.setIfInBounds_toArray, List.set_cons_zero, List.set_cons_succ]
  refine wpAnyH_ready (rs := [10]) (by kernel_rfl) (by simp) ?_
  refine AllReadyH.cons rfl (fun K hK => ?_) AllReadyH.nil
  go_simp
  refine hK.out _ _ (⟨e1, e2, e3, e4⟩) (fun hS => ?_)
  clear hK K
  try simp only [Act.put, List.getElem_toArray, List.getElem_cons_succ, List.getElem_cons_zero, List.setIfInBounds_toArray, List.set_cons_zero, List.set_cons_succ]
  refine wpAnyH_done (by kernel_rfl) ?_ _
  clear hHeld hS hrun'
  have CR := Lib.hid (ack_any m.version id m.seq m.story p w.heap.size (w.heap.size + 1) W6 e1 e5 e4 e3)
  go_wp2_with fail
  refine (CR.out).mono ?_
  rintro e W7 ⟨v, rfl, hans, hb7⟩
  go_wp2_with fail
  go_ret
  have hlt6 : p < W6.heap.size := hp6.lt
  have hbt6 : b < W6.heap.size := hp6.held.lt
  rw [HDL.out]
  refine ⟨v, rfl, ?_, hp6.below hb7 hlt6 hbt6, hg6.trans ⟨hb7.os, hb7.tape, hb7.output, hb7.size, fun j hj _ => hb7.block j hj⟩⟩
  obtain ⟨g, hg, hv, hgc⟩ := hans
  exact ⟨g, Nat.le_trans hg6.size hg, hv, hgc⟩

end Go.Proofs.YtkpgadjhcnkadaaDoor
