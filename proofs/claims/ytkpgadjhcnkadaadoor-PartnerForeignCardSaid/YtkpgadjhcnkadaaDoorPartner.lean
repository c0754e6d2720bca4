/- package partner: New, Text. -/
import Derived.Test.YtkpgadjhcnkadaaDoorHeldMap
import Derived.Test.YtkpgadjhcnkadaaDoorMsg
import Derived.Deep.QuietTactic
import Derived.BigQuiet
set_option linter.unusedSimpArgs false
set_option linter.unusedVariables false
namespace Go.Proofs.YtkpgadjhcnkadaaDoor
open Go.RowKit

/-- A partner at block p, its map at block b, holding the pairs l. -/
structure IsP (p b : Nat) (id : Int) (l : List (Int × Held)) (w : World) : Prop where
  heap : w.heap[p]? = some (.cells #[.int .i64 id, .map (some b)] 70 (0, 0))
  held : IsHeld w b l
theorem IsP.lt {p b : Nat} {id : Int} {l : List (Int × Held)} {w : World} (h : IsP p b id l w) : p < w.heap.size := by
  rcases Nat.lt_or_ge p w.heap.size with h' | h'
  · exact h'
  · have := h.heap; simp [Array.getElem?_eq_none h'] at this
theorem IsP.below {p b B : Nat} {id : Int} {l : List (Int × Held)} {w w' : World} (h : IsP p b id l w) (hb : Below B w w') (hp : p < B) (hq : b < B) : IsP p b id l w' := ⟨(hb.block p hp).trans h.heap, h.held.below hb hq⟩
theorem IsP.c0 {p b : Nat} {id : Int} {l : List (Int × Held)} {w : World} (h : IsP p b id l w) : w.cell? ⟨p, 0, none⟩ = some (.int .i64 id) := by rw [Lib.cell_of_heap h.heap]; rfl
theorem IsP.c1 {p b : Nat} {id : Int} {l : List (Int × Held)} {w : World} (h : IsP p b id l w) : w.cell? ⟨p, 1, none⟩ = some (.map (some b)) := by rw [Lib.cell_of_heap h.heap]; rfl

set_option maxHeartbeats 800000 in
theorem new_out (id : Int) (w : World) (h : id < 1 ∨ 8 < id) : Calls Tryd.prog 14 #[.int .i64 id] w fun e w' => e = .returned (.tuple #[.pointer none, .int .i64 220]) ∧ w = w' := by
  by_cases h1 : id < 1
  · have d1 : decide (id < 1) = true := decide_eq_true h1
    go_enter Tryd.func14, Tryd.ntmps14
    go_wp2
    go_ret2
    exact ⟨rfl, rfl⟩
  · have d1 : decide (id < 1) = false := decide_eq_false h1
    have d2 : decide (8 < id) = true := by simp; omega
    go_enter Tryd.func14, Tryd.ntmps14
    go_wp2
    go_ret2
    exact ⟨rfl, rfl⟩
set_option maxHeartbeats 800000 in
theorem new_in (id : Int) (w : World) (h1 : 1 ≤ id) (h2 : id ≤ 8) : Calls Tryd.prog 14 #[.int .i64 id] w fun e w' => e = .returned (.tuple #[.pointer (some ⟨w.heap.size + 1, 0, none⟩), .int .i64 0]) ∧ IsP (w.heap.size + 1) w.heap.size id [] w' ∧ Below w.heap.size w w' ∧ w'.heap.size = w.heap.size + 2 := by
  have d1 : decide (id < 1) = false := by simp; omega
  have d2 : decide (8 < id) = false := by simp; omega
  have hmm := @run_makeMap Tryd.prog
  go_enter Tryd.func14, Tryd.ntmps14
  go_wp2
  go_ret2
  refine ⟨rfl, ⟨?_, ?_⟩, ((Below.refl _ _).alloc (Nat.le_refl _) _).alloc (by simp) _, by simp⟩
  · have h := Go.MapKept.heap_alloc (w.alloc (.map #[] 0)) (.cells #[.int .i64 id, .map (some w.heap.size)] 70)
    rw [World.size_alloc] at h
    exact h.1
  · exact (IsHeld.new w).below ((Below.refl (w.heap.size + 1) _).alloc (by simp) _) (by omega)

set_option maxHeartbeats 800000 in
theorem text_nil (k : Int) (w : World) : Calls Tryd.prog 23 #[.pointer none, .int .i64 k] w fun e w' => e = .returned (.tuple #[.string .empty, .bool false]) ∧ w = w' := by
  go_enter Tryd.func23, Tryd.ntmps23
  go_wp2
  go_ret2
  exact ⟨rfl, rfl⟩
set_option maxHeartbeats 1600000 in
theorem text_any {p b : Nat} {id : Int} {l : List (Int × Held)} {w : World} (hp : IsP p b id l w) (k : Int) :
    Calls Tryd.prog 23 #[.pointer (some ⟨p, 0, none⟩), .int .i64 k] w fun e w' => e = .returned (.tuple #[.string (mapAt l k).text, .bool (mapAt l k).has]) ∧ Below w.heap.size w w' := by
  have c1 := hp.c1
  have hl := run_lookup_held hp.held k
  obtain ⟨⟨s, t, h⟩, hx⟩ : ∃ x, mapAt l k = x := ⟨_, rfl⟩
  rw [hx] at hl
  unfold heldV at hl
  rw [hx]
  clear hx hp
  go_enter Tryd.func23, Tryd.ntmps23
  go_wp2_with fail
  go_quiet (fail)
  go_wp2_with fail
  go_ret2
  exact ⟨rfl, ⟨rfl, rfl, rfl, by simp, fun j hj => Below.heap_alloc _ _ _ hj⟩⟩
end Go.Proofs.YtkpgadjhcnkadaaDoor
