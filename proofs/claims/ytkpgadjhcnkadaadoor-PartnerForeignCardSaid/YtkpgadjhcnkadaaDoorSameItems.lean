/- copydeskref22.SameItems at equal lists. -/
import Derived.Test.YtkpgadjhcnkadaaDoorItems
import Derived.Laws.OwnMore
import Derived.Deep.QuietTactic
import Derived.BigQuiet
set_option linter.unusedSimpArgs false
set_option linter.unusedVariables false
namespace Go.Proofs.YtkpgadjhcnkadaaDoor
open Go.RowKit

theorem items_at (L : List (Int × ByteArray)) (i : Nat) (x : Int × ByteArray) (h : L[i]? = some x) (j : Nat) (hj : j < 2) : (L.flatMap itemCells)[i * 2 + j]? = (itemCells x)[j]? := by
  induction L generalizing i with
  | nil => simp at h
  | cons y L ih =>
    cases i with
    | zero =>
      simp only [List.getElem?_cons_zero, Option.some.injEq] at h
      subst h
      rw [List.flatMap_cons, Nat.zero_mul, Nat.zero_add, List.getElem?_append_left (by simp [itemCells]; omega)]
    | succ i =>
      rw [List.flatMap_cons, List.getElem?_append_right (by simp [itemCells]; omega)]
      have e1 : (i + 1) * 2 + j - (itemCells y).length = i * 2 + j := by simp [itemCells]; omega
      rw [e1]
      exact ih i (by simpa using h)
theorem items_form {B : Nat} {w : World} {v : Value} {L : List (Int × ByteArray)} (h : IsItems B w v L) : ∃ ao cap, v = .slice ao L.length cap := by
  rcases h.2 with ⟨h3, h0⟩ | ⟨g, cap, cur, h3, _⟩
  · exact ⟨none, 0, by rw [h3]; congr 1; omega⟩
  · exact ⟨_, cap, h3⟩
set_option maxRecDepth 100000 in
set_option maxHeartbeats 3200000 in
theorem sameItems_any {B1 B2 : Nat} {v1 v2 : Value} {L : List (Int × ByteArray)} {w : World} (h1 : IsItems B1 w v1 L) (h2 : IsItems B2 w v2 L) (hlen : L.length ≤ 1000) :
    Calls Tryd.prog 20 #[v1, v2] w fun e w' => e = .returned (.bool true) ∧ Below w.heap.size w w' := by
  obtain ⟨o1, c1, rfl⟩ := items_form h1
  obtain ⟨o2, c2, rfl⟩ := items_form h2
  unfold IsItems at h1 h2
  obtain ⟨n, hn⟩ : ∃ n, L.length = n := ⟨_, rfl⟩
  rw [hn] at h1 h2 hlen ⊢
  have H1 := Lib.hid h1
  have H2 := Lib.hid h2
  have HN := Lib.hid hn
  have hSz : ∀ i, i < n → ∃ e, L[i]? = some e := fun i hi => ⟨_, List.getElem?_eq_getElem (by omega)⟩
  clear h1 h2 hn
  go_enter Tryd.func20, Tryd.ntmps20
  go_wp2_with fail
  go_loopw [5] (fun v5 wr => ∃ i m : Nat, v5 = .int .i64 i ∧ i ≤ n ∧ wr = w.drewN m) (fun v5 _ => n - (intOf v5).toNat)
  case atStart => exact ⟨0, 0, rfl, by omega, rfl⟩
  case round =>
    obtain ⟨i, m, rfl, hi, rfl⟩ := hrel
    by_cases hlt : i < n
    · have t0 : decide ((i : Int) < n) = true := by simp; omega
      obtain ⟨⟨xs, xt⟩, hx⟩ := hSz i hlt
      obtain ⟨g1, rfl⟩ : ∃ g, o1 = some ⟨g, 0, none⟩ := by
        rcases H1.out.2 with ⟨h3, h0⟩ | ⟨g, cap', cur, h3, _⟩
        · omega
        · simp only [Value.slice.injEq] at h3
          exact ⟨g, h3.1⟩
      obtain ⟨g2, rfl⟩ : ∃ g, o2 = some ⟨g, 0, none⟩ := by
        rcases H2.out.2 with ⟨h3, h0⟩ | ⟨g, cap', cur, h3, _⟩
        · omega
        · simp only [Value.slice.injEq] at h3
          exact ⟨g, h3.1⟩
      have a0 : w.cell? ⟨g1, i * 2, none⟩ = some (.int .i64 xs) := by
        have := H1.out.cellAt (i * 2 + 0) (by omega); rw [items_at L i _ hx 0 (by omega)] at this; exact this
      have a1 : w.cell? ⟨g1, i * 2 + 1, none⟩ = some (.string xt) := by
        have := H1.out.cellAt (i * 2 + 1) (by omega); rw [items_at L i _ hx 1 (by omega)] at this; exact this
      have b0 : w.cell? ⟨g2, i * 2, none⟩ = some (.int .i64 xs) := by
        have := H2.out.cellAt (i * 2 + 0) (by omega); rw [items_at L i _ hx 0 (by omega)] at this; exact this
      have b1 : w.cell? ⟨g2, i * 2 + 1, none⟩ = some (.string xt) := by
        have := H2.out.cellAt (i * 2 + 1) (by omega); rw [items_at L i _ hx 1 (by omega)] at this; exact this
      have k1 : (0 : Int) ≤ i := by omega
      have k2 : (i : Int) < n := by omega
      clear hx
      go_wp2_with fail
      go_quiet (fail)
      go_wp2_with fail
      go_roundw
      case rel => exact ⟨i + 1, _, by go_num, by omega, rfl⟩
      case measure => simp [intOf]; omega
    · obtain rfl : i = n := by omega
      have t0 : decide ((i : Int) < i) = false := by simp
      go_wp2_with fail
      go_ret
      exact ⟨rfl, ⟨rfl, rfl, rfl, Nat.le_refl _, fun _ _ => rfl⟩⟩
end Go.Proofs.YtkpgadjhcnkadaaDoor
