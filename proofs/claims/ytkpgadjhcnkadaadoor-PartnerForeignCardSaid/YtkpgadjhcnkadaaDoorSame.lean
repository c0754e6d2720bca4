/- copydeskref22.SameMessages at equal answers. -/
import Derived.Test.YtkpgadjhcnkadaaDoorRecvFns
import Derived.Deep.QuietTactic
import Derived.BigQuiet
set_option linter.unusedSimpArgs false
set_option linter.unusedVariables false
namespace Go.Proofs.YtkpgadjhcnkadaaDoor
open Go.RowKit

set_option maxRecDepth 100000 in
set_option maxHeartbeats 3200000 in
theorem sameNone_any (w : World) :
    Calls Tryd.prog 17 #[.slice none 0 0, .slice none 0 0] w fun e w' => e = .returned (.bool true) ∧ w = w' := by
  go_enter Tryd.func17, Tryd.ntmps17
  go_wp2_with fail
  refine wp_loop_rounds 1 ?_
  rw [rounds_succ]
  go_wp2_with fail
  go_ret
  exact ⟨rfl, rfl⟩
set_option maxRecDepth 100000 in
set_option maxHeartbeats 3200000 in
theorem sameOne_any (a : Msg) (g1 g2 c1 c2 : Nat) (w : World) (h1 : w.heap[g1]? = some (.cells (msgCells a) 33 (0, 0))) (h2 : w.heap[g2]? = some (.cells (msgCells a) 33 (0, 0))) :
    Calls Tryd.prog 17 #[.slice (some ⟨g1, 0, none⟩) 1 c1, .slice (some ⟨g2, 0, none⟩) 1 c2] w fun e w' => e = .returned (.bool true) ∧ ∃ n, w' = w.drewN n := by
  have a0 : w.cell? ⟨g1, 0, none⟩ = some (.int .i64 a.kind) := Lib.cell_of_heap h1 0
  have a1 : w.cell? ⟨g1, 1, none⟩ = some (.int .i64 a.partner) := Lib.cell_of_heap h1 1
  have a2 : w.cell? ⟨g1, 2, none⟩ = some (.int .i64 a.seq) := Lib.cell_of_heap h1 2
  have a3 : w.cell? ⟨g1, 3, none⟩ = some (.int .i64 a.story) := Lib.cell_of_heap h1 3
  have a4 : w.cell? ⟨g1, 4, none⟩ = some (.int .i64 a.base) := Lib.cell_of_heap h1 4
  have a5 : w.cell? ⟨g1, 5, none⟩ = some (.int .i64 a.version) := Lib.cell_of_heap h1 5
  have a6 : w.cell? ⟨g1, 6, none⟩ = some (.string a.data) := Lib.cell_of_heap h1 6
  have b0 : w.cell? ⟨g2, 0, none⟩ = some (.int .i64 a.kind) := Lib.cell_of_heap h2 0
  have b1 : w.cell? ⟨g2, 1, none⟩ = some (.int .i64 a.partner) := Lib.cell_of_heap h2 1
  have b2 : w.cell? ⟨g2, 2, none⟩ = some (.int .i64 a.seq) := Lib.cell_of_heap h2 2
  have b3 : w.cell? ⟨g2, 3, none⟩ = some (.int .i64 a.story) := Lib.cell_of_heap h2 3
  have b4 : w.cell? ⟨g2, 4, none⟩ = some (.int .i64 a.base) := Lib.cell_of_heap h2 4
  have b5 : w.cell? ⟨g2, 5, none⟩ = some (.int .i64 a.version) := Lib.cell_of_heap h2 5
  have b6 : w.cell? ⟨g2, 6, none⟩ = some (.string a.data) := Lib.cell_of_heap h2 6
  clear h1 h2
  go_enter Tryd.func17, Tryd.ntmps17
  go_wp2_with fail
  refine wp_loop_rounds 2 ?_
  rw [rounds_succ]
  go_wp2_with fail
  go_quiet (fail)
  go_wp2_with fail
  rw [rounds_succ]
  go_wp2_with fail
  go_ret
  exact ⟨rfl, _, rfl⟩
/-- Two lists of answers that hold the same are the same. -/
theorem same_any {B1 B2 : Nat} {v1 v2 : Value} {o : Option Msg} {w : World} (h1 : IsAns B1 w v1 o) (h2 : IsAns B2 w v2 o) :
    Calls Tryd.prog 17 #[v1, v2] w fun e w' => e = .returned (.bool true) ∧ Below w.heap.size w w' := by
  cases o with
  | none =>
    obtain rfl : v1 = .slice none 0 0 := h1
    obtain rfl : v2 = .slice none 0 0 := h2
    exact (sameNone_any w).mono fun e w' ⟨he, hw⟩ => ⟨he, hw ▸ Below.refl _ _⟩
  | some a =>
    obtain ⟨g1, _, rfl, hg1⟩ := h1
    obtain ⟨g2, _, rfl, hg2⟩ := h2
    exact (sameOne_any a g1 g2 1 1 w hg1 hg2).mono fun e w' ⟨he, n, hw⟩ => ⟨he, hw ▸ ⟨rfl, rfl, rfl, Nat.le_refl _, fun _ _ => rfl⟩⟩
end Go.Proofs.YtkpgadjhcnkadaaDoor
