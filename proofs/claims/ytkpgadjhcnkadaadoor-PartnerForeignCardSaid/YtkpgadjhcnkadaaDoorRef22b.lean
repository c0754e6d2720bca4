/- copydeskref22: New, Text. -/
import Derived.Test.YtkpgadjhcnkadaaDoorRef22
import Derived.Deep.QuietTactic
import Derived.BigQuiet
set_option linter.unusedSimpArgs false
set_option linter.unusedVariables false
namespace Go.Proofs.YtkpgadjhcnkadaaDoor
open Go.RowKit

set_option maxHeartbeats 800000 in
theorem refNew_in (id : Int) (w : World) (h1 : 1 ≤ id) (h2 : id ≤ 8) : Calls Tryd.prog 15 #[.int .i64 id] w fun e w' => e = .returned (.tuple #[.pointer (some ⟨w.heap.size, 0, none⟩), .int .i64 0]) ∧ (∀ B, B ≤ w.heap.size → IsR B w.heap.size id [] w') ∧ Below w.heap.size w w' := by
  have d1 : decide (id < 1) = false := by simp; omega
  have d2 : decide ((8 : Int) < id) = false := by simp; omega
  go_enter Tryd.func15, Tryd.ntmps15
  go_wp2
  go_ret2
  exact ⟨rfl, fun B hB => ⟨hB, _, World.alloc_heap_new w _, World.ownsRow_nil _ _ _ _⟩, (Below.refl _ _).alloc (Nat.le_refl _) _⟩
set_option maxHeartbeats 800000 in
theorem refNew_out (id : Int) (w : World) (h : id < 1 ∨ 8 < id) : Calls Tryd.prog 15 #[.int .i64 id] w fun e w' => e = .returned (.tuple #[.pointer none, .int .i64 220]) ∧ w = w' := by
  by_cases h1 : id < 1
  · have d1 : decide (id < 1) = true := by simpa using h1
    go_enter Tryd.func15, Tryd.ntmps15
    go_wp2
    go_ret2
    exact ⟨rfl, rfl⟩
  · have d1 : decide (id < 1) = false := by simpa using h1
    have d2 : decide ((8 : Int) < id) = true := by simp; omega
    go_enter Tryd.func15, Tryd.ntmps15
    go_wp2
    go_ret2
    exact ⟨rfl, rfl⟩
set_option maxHeartbeats 800000 in
theorem refText_any {B r : Nat} {id : Int} {E : List Ent} {w : World} (hr : IsR B r id E w) (k : Int) (hlen : E.length ≤ 1000) :
    Calls Tryd.prog 30 #[.pointer (some ⟨r, 0, none⟩), .int .i64 k] w fun e w' => e = .returned (.tuple #[.string (entryF E k).text, .bool (entryF E k).has]) ∧ Below w.heap.size w w' := by
  obtain ⟨x, hx⟩ : ∃ x, entryF E k = x := ⟨_, rfl⟩
  have ce := refEntry_any hr k hlen
  rw [hx] at ce ⊢
  obtain ⟨a, b, c, d⟩ := x
  unfold entV at ce
  dsimp only at ce ⊢
  have CE := Lib.hid ce
  clear ce hx hr
  go_enter Tryd.func30, Tryd.ntmps30
  go_wp2_with fail
  refine (CE.out).mono ?_
  rintro e w1 ⟨rfl, hb1⟩
  go_wp2_with fail
  go_quiet (fail)
  go_wp2_with fail
  go_ret2
  exact ⟨rfl, (hb1.alloc hb1.size _).trans ⟨rfl, rfl, rfl, Nat.le_refl _, fun _ _ => rfl⟩⟩
end Go.Proofs.YtkpgadjhcnkadaaDoor
