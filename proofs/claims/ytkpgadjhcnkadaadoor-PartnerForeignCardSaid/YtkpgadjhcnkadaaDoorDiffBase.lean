/- Plain: pieces of byte strings, common prefixes. -/
import Derived.Test.YtkpgadjhcnkadaaDoorRef19Diff
namespace Go.Proofs.YtkpgadjhcnkadaaDoor

theorem ba_of_list {a b : ByteArray} (h : a.data.toList = b.data.toList) : a = b := by
  cases a; cases b; simp at h; rw [h]
theorem ex_list (s : ByteArray) (i j : Nat) : (s.extract i j).data.toList = (s.data.toList.drop i).take (j - i) := by
  simp [ByteArray.data_extract, Array.toList_extract, List.extract]
theorem lcpL_take : ∀ (k : Nat) (a b : List UInt8), k ≤ a.length → k ≤ b.length → (a.take k = b.take k ↔ k ≤ lcpL a b)
  | 0, a, b, _, _ => by simp
  | k + 1, [], b, h, _ => by simp at h
  | k + 1, _ :: _, [], _, h => by simp at h
  | k + 1, x :: xs, y :: ys, h1, h2 => by
    have ih := lcpL_take k xs ys (by simpa using h1) (by simpa using h2)
    unfold lcpL
    by_cases e : x = y
    · subst e; simp [ih]
    · simp [e]
theorem ba_ex_join (s : ByteArray) (i j k : Nat) (h1 : i ≤ j) (h2 : j ≤ k) : s.extract i j ++ s.extract j k = s.extract i k := by
  apply ba_of_list
  rw [ByteArray.data_append, Array.toList_append, ex_list, ex_list, ex_list]
  have : k - i = (j - i) + (k - j) := by omega
  rw [this, List.take_add, List.drop_drop]
  congr 3
  omega
theorem ba_ex_nil (s : ByteArray) (i j : Nat) (h : j ≤ i ∨ s.size ≤ i) : s.extract i j = .empty := by
  apply ba_of_list
  rw [ex_list]
  rcases h with h | h
  · rw [show j - i = 0 by omega]; rfl
  · rw [List.drop_eq_nil_of_le (by rw [ba_size]; exact h)]; simp
theorem lcpB_ex (a b : ByteArray) (i j : Nat) : lcpB (a.extract i a.size) (b.extract j b.size) 0 0 = lcpB a b i j := by
  have e : ∀ (s : ByteArray) (k : Nat), (s.extract k s.size).data.toList = s.data.toList.drop k := by
    intro s k
    rw [ex_list, List.take_of_length_le]
    rw [List.length_drop, ba_size]; omega
  unfold lcpB
  rw [e, e]; simp
theorem longestF_off (old next : ByteArray) (p : Nat) (h : 0 < (longestF old next p).1) : (longestF old next p).1 = lcpB old next (longestF old next p).2 p := by
  unfold longestF at h ⊢
  have key : ∀ (l : List Nat) (b : Nat × Nat), (0 < b.1 → b.1 = lcpB old next b.2 p) → 0 < (l.foldl (bestStep old next p) b).1 → (l.foldl (bestStep old next p) b).1 = lcpB old next (l.foldl (bestStep old next p) b).2 p := by
    intro l
    induction l with
    | nil => intro b hb h; exact hb h
    | cons x l ih =>
      intro b hb h
      refine ih _ (fun h' => ?_) h
      unfold bestStep at h' ⊢
      split
      · rfl
      · rename_i hn; rw [if_neg hn] at h'; exact hb h'
  exact key _ _ (fun h => absurd h (by simp)) h
end Go.Proofs.YtkpgadjhcnkadaaDoor
