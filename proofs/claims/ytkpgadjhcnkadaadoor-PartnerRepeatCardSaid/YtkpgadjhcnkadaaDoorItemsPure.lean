/- The partner's items: the plain laws. -/
import Derived.Test.YtkpgadjhcnkadaaDoorPairKit
import Derived.Test.YtkpgadjhcnkadaaDoorItems
set_option linter.unusedSimpArgs false
set_option linter.unusedVariables false
namespace Go.Proofs.YtkpgadjhcnkadaaDoor
open Go.RowKit

/-- A story without a copy has no text. -/
def HasOk (L : List (Int × Held)) : Prop := ∀ k, (mapAt L k).has = false → (mapAt L k).text = .empty
theorem HasOk.recv {L : List (Int × Held)} (h : HasOk L) (id : Int) (m : Msg) : HasOk (recvF id L m).2 := by
  intro k
  unfold recvF
  repeat' split
  all_goals first
    | exact h k
    | (simp only [mapAt_put]; split <;> first | exact h k | (intro; rfl) | (intro h; cases h))
theorem madeF_has (id : Int) (xs : List Six) : HasOk (madeF id xs).1 := by
  have key : ∀ (xs : List Six) (s : List (Int × Held) × List Ent), HasOk s.1 → HasOk (xs.foldl (partF id) s).1 := by
    intro xs
    induction xs with
    | nil => intro s h; exact h
    | cons x xs ih => intro s h; exact ih _ (h.recv id _)
  exact key xs ([], []) (fun k _ => by simp [mapAt, noHeld])
theorem Rel.out {L : List (Int × Held)} {E : List Ent} (h : Rel L E) (k : Int) (hk : k < 1 ∨ 64 < k) : (mapAt L k).has = false := by
  rw [h.st k, entry_none (fun q hq e => by have := h.range q hq; omega)]
  rfl
/-- How many copies the stories below s have. -/
def atF (L : List (Int × Held)) (s : Nat) : Nat := (itemsTo L (s - 1)).length
theorem itemsTo_cut (L : List (Int × Held)) (n d : Nat) : ∃ T, itemsTo L (n + d) = itemsTo L n ++ T := by
  induction d with
  | zero => exact ⟨[], by simp⟩
  | succ d ih =>
    obtain ⟨T, hT⟩ := ih
    rw [← Nat.add_assoc, itemsTo_succ, hT]
    exact ⟨_, by rw [List.append_assoc]⟩
theorem atF_no {L : List (Int × Held)} {s : Nat} (h : (mapAt L s).has = false) : atF L (s + 1) = atF L s := by
  unfold atF
  cases s with
  | zero => rfl
  | succ n =>
    rw [Nat.add_sub_cancel, Nat.add_sub_cancel, itemsTo_succ, if_neg (by rw [show ((n : Int) + 1) = ((n + 1 : Nat) : Int) by omega, h]; simp)]
    simp
theorem atF_yes {L : List (Int × Held)} {s : Nat} (h0 : 1 ≤ s) (h1 : s ≤ 64) (h : (mapAt L s).has = true) : atF L (s + 1) = atF L s + 1 ∧ (itemsF L)[atF L s]? = some ((s : Int), (mapAt L s).text) := by
  obtain ⟨n, rfl⟩ : ∃ n, s = n + 1 := ⟨s - 1, by omega⟩
  have hs : itemsTo L (n + 1) = itemsTo L n ++ [(((n + 1 : Nat) : Int), (mapAt L ((n + 1 : Nat) : Int)).text)] := by
    rw [itemsTo_succ, show ((n : Int) + 1) = ((n + 1 : Nat) : Int) by omega, if_pos h]
  unfold atF
  rw [Nat.add_sub_cancel, Nat.add_sub_cancel]
  refine ⟨by rw [hs]; simp, ?_⟩
  obtain ⟨T, hT⟩ := itemsTo_cut L (n + 1) (64 - (n + 1))
  rw [show n + 1 + (64 - (n + 1)) = 64 by omega] at hT
  have : itemsF L = itemsTo L 64 := rfl
  rw [this, hT, hs, List.append_assoc, List.getElem?_append_right (Nat.le_refl _)]
  simp
theorem atF_end {L : List (Int × Held)} (h : (mapAt L 65).has = false) : atF L 66 = (itemsF L).length := by
  have := atF_no (L := L) (s := 65) h
  rw [this]
  rfl
theorem atF_le (L : List (Int × Held)) (s : Nat) : atF L s ≤ s := Nat.le_trans (itemsTo_len L (s - 1)) (Nat.sub_le _ _)
theorem itemsF_pos (L : List (Int × Held)) : ∀ x ∈ itemsF L, 1 ≤ x.1 ∧ x.1 ≤ 64 := by
  intro x hx
  unfold itemsF at hx
  rw [List.mem_filterMap] at hx
  obtain ⟨i, hi, he⟩ := hx
  rw [List.mem_range] at hi
  split at he
  · cases he
    simp only
    omega
  · cases he
theorem IsP.setT {p b : Nat} {id : Int} {L : List (Int × Held)} {W : World} (h : IsP p b id L W) {g : Nat} {cs : Array Value} (hg : W.heap[g]? = some (.cells cs 67 (0, 0))) (k : Nat) (u : Value) : IsP p b id L (W.setCell ⟨g, k, none⟩ u) := by
  obtain ⟨es, c, hb, hes⟩ := h.held
  refine ⟨?_, es, c, ?_, hes⟩
  · rw [Below.heap_setCell _ _ _ _ (fun e => by
      have hh := h.heap
      rw [show p = g from e, hg] at hh
      simp only [Option.some.injEq, Obj.cells.injEq] at hh
      exact absurd hh.2.1 (by decide))]
    exact h.heap
  · rw [Below.heap_setCell _ _ _ _ (fun e => by rw [show b = g from e, hg] at hb; cases hb)]
    exact hb
end Go.Proofs.YtkpgadjhcnkadaaDoor
