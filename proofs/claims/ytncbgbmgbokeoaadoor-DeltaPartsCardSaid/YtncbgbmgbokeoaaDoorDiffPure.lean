/- Plain: the longest of the offsets with eight bytes in common is the longest of all, where it has eight bytes; the end of a diff. -/
import Derived.Test.YtncbgbmgbokeoaaDoorPlaces
namespace Go.Proofs.YtncbgbmgbokeoaaDoor

theorem ex_list (s : ByteArray) (i j : Nat) : (s.extract i j).data.toList = (s.data.toList.drop i).take (j - i) := by
  simp [ByteArray.data_extract, Array.toList_extract, List.extract]
theorem lcpL_take : ∀ (k : Nat) (a b : List UInt8), k ≤ a.length → k ≤ b.length → (a.take k = b.take k ↔ k ≤ lcpL a b)
  | 0, a, b, _, _ => by simp
  | k + 1, [], b, h, _ => by simp at h
  | k + 1, _ :: _, [], _, h => by simp at h
  | k + 1, x :: xs, y :: ys, h1, h2 => by
    have ih := lcpL_take k xs ys (by simpa using h1) (by simpa using h2)
    unfold lcpL
    by_cases e : x = y
    · subst e; simp [ih]
    · simp [e]
theorem eight_iff (old next : ByteArray) (i p : Nat) (hi : i + 8 ≤ old.size) (hp : p + 8 ≤ next.size) : old.extract i (i + 8) = next.extract p (p + 8) ↔ 8 ≤ lcpB old next i p := by
  unfold lcpB
  rw [← lcpL_take 8 _ _ (by rw [List.length_drop, ba_size]; omega) (by rw [List.length_drop, ba_size]; omega)]
  constructor
  · intro h
    have := congrArg (fun s => s.data.toList) h
    simpa [ex_list] using this
  · intro h
    apply ba_of_list
    rw [ex_list, ex_list]
    simpa using h
theorem offs_filter (old next : ByteArray) (p : Nat) (hp : p + 8 ≤ next.size) : offsAt old (old.size - 7) (next.extract p (p + 8)) = (List.range old.size).filter fun i => decide (8 ≤ lcpB old next i p) := by
  have e : List.range old.size = List.range (old.size - 7) ++ (List.range (old.size - (old.size - 7))).map (old.size - 7 + ·) := by
    rw [← List.range_add]; congr 1; omega
  rw [e, List.filter_append]
  have h2 : ((List.range (old.size - (old.size - 7))).map (old.size - 7 + ·)).filter (fun i => decide (8 ≤ lcpB old next i p)) = [] := by
    rw [List.filter_eq_nil_iff]
    intro x hx
    obtain ⟨y, hy, rfl⟩ := List.mem_map.1 hx
    have := lcpB_le old next (old.size - 7 + y) p
    simp
    omega
  rw [h2, List.append_nil]
  unfold offsAt
  apply List.filter_congr
  intro x hx
  have := List.mem_range.1 hx
  have := eight_iff old next x p (by omega) hp
  simp [this]
def bestF (old next : ByteArray) (p : Nat) : Nat × Nat := (offsAt old (old.size - 7) (next.extract p (p + 8))).foldl (bestStep old next p) (0, 0)
theorem bestF_is (old next : ByteArray) (p : Nat) (hp : p + 8 ≤ next.size) : bestF old next p = if 8 ≤ (longestF old next p).1 then longestF old next p else (0, 0) := by
  unfold bestF
  rw [offs_filter old next p hp]
  have key : ∀ (l : List Nat) (b b' : Nat × Nat), ((b.1 < 8 ∧ b' = (0, 0)) ∨ (b = b' ∧ 8 ≤ b.1)) →
      (((l.foldl (bestStep old next p) b).1 < 8 ∧ (l.filter fun i => decide (8 ≤ lcpB old next i p)).foldl (bestStep old next p) b' = (0, 0)) ∨ (l.foldl (bestStep old next p) b = (l.filter fun i => decide (8 ≤ lcpB old next i p)).foldl (bestStep old next p) b' ∧ 8 ≤ (l.foldl (bestStep old next p) b).1)) := by
    intro l
    induction l with
    | nil => intro b b' h; exact h
    | cons x l ih =>
      intro b b' h
      by_cases hx : 8 ≤ lcpB old next x p
      · rw [List.filter_cons_of_pos (by simpa using hx), List.foldl_cons, List.foldl_cons]
        refine ih _ _ (.inr ?_)
        unfold bestStep
        rcases h with ⟨h1, rfl⟩ | ⟨rfl, h2⟩
        · rw [if_pos (by omega), if_pos (by omega)]; exact ⟨rfl, hx⟩
        · refine ⟨rfl, ?_⟩
          split
          · exact hx
          · exact h2
      · rw [List.filter_cons_of_neg (by simpa using hx), List.foldl_cons]
        refine ih _ _ ?_
        rcases h with ⟨h1, rfl⟩ | ⟨rfl, h2⟩
        · refine .inl ⟨?_, rfl⟩
          unfold bestStep
          split
          · simp only; omega
          · exact h1
        · refine .inr ⟨?_, ?_⟩ <;> (unfold bestStep; rw [if_neg (by omega)])
          exact h2
  have := key (List.range old.size) (0, 0) (0, 0) (.inl ⟨by omega, rfl⟩)
  change ((longestF old next p).1 < 8 ∧ _) ∨ (longestF old next p = _ ∧ 8 ≤ (longestF old next p).1) at this
  rcases this with ⟨h1, h2⟩ | ⟨h1, h2⟩
  · rw [if_neg (by omega), h2]
  · rw [if_pos h2, ← h1]
theorem ba_ex_join (s : ByteArray) (i j k : Nat) (h1 : i ≤ j) (h2 : j ≤ k) : s.extract i j ++ s.extract j k = s.extract i k := by
  apply ba_of_list
  rw [ByteArray.data_append, Array.toList_append, ex_list, ex_list, ex_list]
  have : k - i = (j - i) + (k - j) := by omega
  rw [this, List.take_add, List.drop_drop]
  congr 3
  omega
theorem ba_ex_nil (s : ByteArray) (i j : Nat) (h : j ≤ i ∨ s.size ≤ i) : s.extract i j = .empty := by
  apply ba_of_list
  rw [ex_list]
  rcases h with h | h
  · rw [show j - i = 0 by omega]; rfl
  · rw [List.drop_eq_nil_of_le (by rw [ba_size]; exact h)]; simp
theorem diffGo_tail (old next : ByteArray) : ∀ (j p : Nat) (f o : ByteArray), next.size < p + 8 → next.size ≤ j + p → diffGo old next j p f o = o ++ insF (f ++ next.extract p next.size)
  | 0, p, f, o, h1, h2 => by
    unfold diffGo
    rw [ba_ex_nil _ _ _ (.inl (by omega))]
    simp
  | j + 1, p, f, o, h1, h2 => by
    by_cases h : p < next.size
    · have hl := longestF_le old next p
      unfold diffGo
      rw [if_pos h, if_neg (by omega), diffGo_tail old next j (p + 1) _ _ (by omega) (by omega)]
      congr 2
      rw [ByteArray.append_assoc, ba_ex_join _ _ _ _ (by omega) (by omega)]
    · rw [diffGo_end (by omega), ba_ex_nil _ _ _ (.inl (by omega))]
      simp
theorem lcpB_ex (a b : ByteArray) (i j : Nat) : lcpB (a.extract i a.size) (b.extract j b.size) 0 0 = lcpB a b i j := by
  have e : ∀ (s : ByteArray) (k : Nat), (s.extract k s.size).data.toList = s.data.toList.drop k := by
    intro s k
    rw [ex_list, List.take_of_length_le]
    rw [List.length_drop, ba_size]; omega
  unfold lcpB
  rw [e, e]; simp
theorem offs_mem {old key : ByteArray} {i off : Nat} (h : (offsAt old (old.size - 7) key)[i]? = some off) : off + 8 ≤ old.size := by
  have := List.mem_of_getElem? h
  unfold offsAt at this
  have := List.mem_range.1 (List.mem_filter.1 this).1
  omega
theorem longestF_off (old next : ByteArray) (p : Nat) (h : 0 < (longestF old next p).1) : (longestF old next p).1 = lcpB old next (longestF old next p).2 p := by
  unfold longestF at h ⊢
  have key : ∀ (l : List Nat) (b : Nat × Nat), (0 < b.1 → b.1 = lcpB old next b.2 p) → 0 < (l.foldl (bestStep old next p) b).1 → (l.foldl (bestStep old next p) b).1 = lcpB old next (l.foldl (bestStep old next p) b).2 p := by
    intro l
    induction l with
    | nil => intro b hb h; exact hb h
    | cons x l ih =>
      intro b hb h
      refine ih _ (fun h' => ?_) h
      unfold bestStep at h' ⊢
      split
      · rfl
      · rename_i hn; rw [if_neg hn] at h'; exact hb h'
  exact key _ _ (fun h => absurd h (by simp)) h
end Go.Proofs.YtncbgbmgbokeoaaDoor
