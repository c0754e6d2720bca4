/- Plain laws of deltas: a diff as a list of operations; the round trip; another base; the size. -/
import Derived.Test.YtkpgadjhcnkadaaDoorDeltaPure
namespace Go.Proofs.YtkpgadjhcnkadaaDoor

theorem encAll_append (a b : List Op3) : encAll (a ++ b) = encAll a ++ encAll b := by
  induction a with
  | nil => rfl
  | cons x a ih => simp [encAll, ih]
theorem addAll_append (old : ByteArray) (a b : List Op3) : addAll old (a ++ b) = addAll old a ++ addAll old b := by
  induction a with
  | nil => rfl
  | cons x a ih => simp [addAll, ih]
def insL (f : ByteArray) : List Op3 := if f.size = 0 then [] else [⟨0, 0, f⟩]
theorem size_zero {f : ByteArray} (h : f.size = 0) : f.data.toList = [] := List.length_eq_zero_iff.1 (by rw [ba_size]; exact h)
theorem insL_enc (f : ByteArray) : encAll (insL f) = (insF f).data.toList := by
  unfold insL insF
  split
  · rfl
  · simp only [encAll, encOp]
    rw [if_neg (by simp)]
    simp
theorem insL_add (old f : ByteArray) : addAll old (insL f) = f.data.toList := by
  unfold insL
  split
  · rename_i h; rw [size_zero h]; rfl
  · simp only [addAll, addOf]
    rw [if_neg (by simp)]
    simp
theorem insL_good (old f : ByteArray) (hf : f.size ≤ 65536) : ∀ x ∈ insL f, goodOp old x ∧ CanEnc x := by
  intro x hx
  unfold insL at hx
  split at hx
  · cases hx
  · rename_i h
    rw [List.mem_singleton] at hx
    subst hx
    exact ⟨.inr ⟨by simp, h⟩, by unfold maxInt; simp, by unfold maxInt; simp, hf⟩
theorem copy_eq {old next : ByteArray} {p n a : Nat} (h : lcpB old next a p = n) : (old.data.toList.drop a).take n = (next.data.toList.drop p).take n := by
  have hle := lcpB_le old next a p
  exact (lcpL_take n _ _ (by rw [List.length_drop, ba_size]; omega) (by rw [List.length_drop, ba_size]; omega)).2 (by unfold lcpB at h; omega)
theorem diffGo_ops (old next : ByteArray) (ho : old.size ≤ 8192) (hn : next.size ≤ 8192) : ∀ (k p : Nat) (f o : ByteArray), p ≤ next.size → next.size ≤ k + p → f.size ≤ p →
    ∃ l : List Op3, (diffGo old next k p f o).data.toList = o.data.toList ++ encAll l ∧ addAll old l = f.data.toList ++ next.data.toList.drop p ∧ ∀ x ∈ l, goodOp old x ∧ CanEnc x := by
  intro k
  induction k with
  | zero =>
    intro p f o hp hk hf
    refine ⟨insL f, by unfold diffGo; rw [ba_append, insL_enc], ?_, insL_good old f (by omega)⟩
    rw [insL_add, List.drop_eq_nil_of_le (by rw [ba_size]; omega), List.append_nil]
  | succ k ih =>
    intro p f o hp hk hf
    by_cases hlt : p < next.size
    · obtain ⟨⟨n, a⟩, hl⟩ : ∃ q, longestF old next p = q := ⟨_, rfl⟩
      have hle := longestF_le old next p
      by_cases h8 : 8 ≤ n
      · have hof := longestF_off old next p (by rw [hl]; simp only; omega)
        rw [hl] at hof hle
        dsimp only at hof hle
        have hlc := lcpB_le old next a p
        obtain ⟨l, h1, h2, h3⟩ := ih (p + n) .empty (o ++ insF f ++ numS n ++ numS a) (by omega) (by omega) (by simp)
        refine ⟨insL f ++ (⟨n, a, .empty⟩ :: l), ?_, ?_, ?_⟩
        · unfold diffGo
          rw [if_pos hlt, hl, if_pos h8, h1, encAll_append, insL_enc]
          simp only [encAll, encOp]
          rw [if_pos (by omega)]
          simp only [ba_append, List.append_assoc]
        · rw [addAll_append, insL_add]
          simp only [addAll, addOf]
          rw [if_pos (by omega), h2]
          have e1 : ((a : Int) + (n : Int)).toNat = a + n := by omega
          rw [Int.toNat_natCast, e1, ex_list, show a + n - a = n by omega, copy_eq hof.symm]
          congr 1
          have e2 : (ByteArray.empty).data.toList = [] := rfl
          rw [e2, List.nil_append, ← List.drop_drop]
          exact List.take_append_drop _ _
        · intro x hx
          rcases List.mem_append.1 hx with hx | hx
          · exact insL_good old f (by omega) x hx
          · rcases List.mem_cons.1 hx with rfl | hx
            · refine ⟨.inl ⟨by simp only; omega, by simp only; omega, by simp only; omega⟩, ?_, ?_, ?_⟩
              · unfold maxInt; simp only; omega
              · unfold maxInt; simp only; omega
              · simp
            · exact h3 x hx
      · obtain ⟨l, h1, h2, h3⟩ := ih (p + 1) (f ++ next.extract p (p + 1)) o (by omega) (by omega) (by rw [ba_append_size]; simp; omega)
        refine ⟨l, ?_, ?_, h3⟩
        · unfold diffGo
          rw [if_pos hlt, hl, if_neg h8, h1]
        · rw [h2, ba_append, ex_list, List.append_assoc, show p + 1 - p = 1 by omega, ← List.drop_drop, List.take_append_drop]
    · obtain ⟨l, h1, h2, h3⟩ : ∃ l : List Op3, (o ++ insF f).data.toList = o.data.toList ++ encAll l ∧ addAll old l = f.data.toList ++ next.data.toList.drop p ∧ ∀ x ∈ l, goodOp old x ∧ CanEnc x :=
        ⟨insL f, by rw [ba_append, insL_enc], by rw [insL_add, List.drop_eq_nil_of_le (by rw [ba_size]; omega), List.append_nil], insL_good old f (by omega)⟩
      exact ⟨l, by rw [diffGo_end (by omega)]; exact h1, h2, h3⟩
theorem diffF_ops (old next : ByteArray) (ho : old.size ≤ 8192) (hn : next.size ≤ 8192) :
    ∃ l : List Op3, (diffF old next).data.toList = encInt (sumB old) ++ (encInt (sumB next) ++ encAll l) ∧ addAll old l = next.data.toList ∧ ∀ x ∈ l, goodOp old x ∧ CanEnc x := by
  obtain ⟨l, h1, h2, h3⟩ := diffGo_ops old next ho hn next.size 0 .empty (numS (sumB old) ++ numS (sumB next)) (by omega) (by omega) (by simp)
  refine ⟨l, ?_, by simpa using h2, h3⟩
  unfold diffF
  rw [if_neg (by omega), h1, ba_append, numS_list, numS_list, List.append_assoc]
theorem mk_list (s : ByteArray) : (⟨s.data.toList.toArray⟩ : ByteArray) = s := by cases s; simp
theorem roundTrip (old next : ByteArray) (ho : old.size ≤ 8192) (hn : next.size ≤ 8192) : applyF old (diffF old next) = (next, 0) := by
  obtain ⟨l, h1, h2, h3⟩ := diffF_ops old next ho hn
  rw [applyF_ops old _ _ l (sum_maxInt old) (sum_maxInt next) ho (fun x hx => (h3 x hx).2) _ h1, if_neg (by simp), if_pos, h2, mk_list]
  refine ⟨fun x hx => (h3 x hx).1, ?_, ?_⟩
  · rw [h2, ba_size]; exact hn
  · rw [h2, mk_list]
theorem otherBase (old other next : ByteArray) (ho : old.size ≤ 8192) (hn : next.size ≤ 8192) (hx : other.size ≤ 8192) :
    (sumB other ≠ sumB old → applyF other (diffF old next) = (.empty, 190)) ∧ ((applyF other (diffF old next)).2 = 0 → sumB (applyF other (diffF old next)).1 = sumB next) := by
  obtain ⟨l, h1, h2, h3⟩ := diffF_ops old next ho hn
  have e := applyF_ops other _ _ l (sum_maxInt old) (sum_maxInt next) hx (fun x hx => (h3 x hx).2) _ h1
  refine ⟨fun h => by rw [e, if_pos (Ne.symm h)], fun h => ?_⟩
  rw [e] at h ⊢
  by_cases hs : sumB old ≠ sumB other
  · rw [if_pos hs] at h; cases h
  · rw [if_neg hs] at h ⊢
    split at h
    · rename_i hg; rw [if_pos hg]; exact hg.2.2
    · cases h
theorem diffF_pos (old next : ByteArray) (ho : old.size ≤ 8192) (hn : next.size ≤ 8192) : 0 < (diffF old next).size := by
  obtain ⟨l, h1, _, _⟩ := diffF_ops old next ho hn
  rw [← ba_size, h1, List.length_append]
  have := encInt_pos (sumB old)
  omega
theorem applyF_none (old : ByteArray) : (applyF old .empty).2 ≠ 0 := by
  unfold applyF
  split
  · decide
  · have e : intAt .empty 0 = (0, 0, 10) := by decide
    rw [e]
    simp only
    rw [if_pos (by decide)]
    decide
theorem applyGo_len (old d : ByteArray) : ∀ (k : Nat) (a : Int) (out : List UInt8), out.length ≤ 8192 → (applyGo old d k a out).2.length ≤ 8192 := by
  intro k
  induction k with
  | zero => intro a out h; exact h
  | succ k ih =>
    intro a out h
    unfold applyGo
    split
    · split
      · simp
      · split
        · simp
        · rename_i h2
          exact ih _ _ (by rw [List.length_append, ba_size]; omega)
    · exact h
theorem applyF_le (old d : ByteArray) : (applyF old d).1.size ≤ 8192 := by
  unfold applyF
  split
  · simp
  · split
    · simp
    · split
      · simp
      · unfold applyRest
        split
        · simp
        · split
          · simp
          · split
            · simp
            · rw [ba_mk_size]
              exact applyGo_len old d _ _ _ (by simp)
theorem zig_nat (n : Nat) : zig (n : Int) = 2 * n := by unfold zig; rw [if_neg (by omega)]; omega
theorem numS_le (n k : Nat) (h : 2 * n < 128 ^ k) (h0 : 0 < k) (hk : k ≤ 10) : (numS (n : Int)).size ≤ k := by
  change (encF 10 (zig n)).length ≤ k
  rw [zig_nat, encF_more k 10 _ h h0 hk]
  exact encF_len _ _
theorem numS_sum (s : ByteArray) : (numS (sumB s)).size ≤ 5 := by
  have h := sumB_range s
  unfold sumB at h ⊢
  refine numS_le _ 5 ?_ (by decide) (by decide)
  show 2 * _ < 34359738368
  omega
theorem numS_8192 (n : Nat) (h : n < 8192) : (numS (n : Int)).size ≤ 2 := by
  refine numS_le n 2 ?_ (by decide) (by decide)
  show 2 * n < 16384
  omega
theorem numS_3 (n : Nat) (h : n ≤ 8192) : (numS (n : Int)).size ≤ 3 := by
  refine numS_le n 3 ?_ (by decide) (by decide)
  show 2 * n < 2097152
  omega
theorem numS_64 (n : Nat) (h : n < 64) : (numS (n : Int)).size ≤ 1 := numS_le n 1 (by omega) (by decide) (by decide)
theorem insF_le (f : ByteArray) (h : f.size ≤ 8192) : (insF f).size ≤ f.size + 4 ∧ (f.size < 8192 → (insF f).size ≤ f.size + 3) ∧ (f.size < 64 → (insF f).size ≤ f.size + 2) := by
  unfold insF
  split
  · refine ⟨by simp, fun _ => by simp, fun _ => by simp⟩
  · simp only [ba_append_size]
    have h0 : (numS 0).size ≤ 1 := numS_64 0 (by omega)
    have h3 := numS_3 f.size h
    refine ⟨by omega, fun h' => ?_, fun h' => ?_⟩
    · have := numS_8192 f.size h'; omega
    · have := numS_64 f.size h'; omega
theorem diffGo_size (old next : ByteArray) (ho : old.size ≤ 8192) (hn : next.size ≤ 8192) : ∀ (k p : Nat) (f o : ByteArray), p ≤ next.size → next.size ≤ k + p → f.size ≤ p →
    (diffGo old next k p f o).size ≤ o.size + (f.size + (next.size - p)) + 4 := by
  intro k
  induction k with
  | zero =>
    intro p f o hp hk hf
    unfold diffGo
    rw [ba_append_size]
    have := (insF_le f (by omega)).1
    omega
  | succ k ih =>
    intro p f o hp hk hf
    by_cases hlt : p < next.size
    · obtain ⟨⟨n, a⟩, hl⟩ : ∃ q, longestF old next p = q := ⟨_, rfl⟩
      have hle := longestF_le old next p
      by_cases h8 : 8 ≤ n
      · have hof := longestF_off old next p (by rw [hl]; simp only; omega)
        rw [hl] at hof hle
        dsimp only at hof hle
        have hlc := lcpB_le old next a p
        have h1 := ih (p + n) .empty (o ++ insF f ++ numS n ++ numS a) (by omega) (by omega) (by simp)
        unfold diffGo
        rw [if_pos hlt, hl, if_pos h8]
        simp only [ba_append_size, ByteArray.size_empty] at h1
        have h2 := (insF_le f (by omega)).2.1 (by omega)
        have h3 : (numS (n : Int)).size + (numS (a : Int)).size ≤ 4 := by
          by_cases hn' : n < 8192
          · have := numS_8192 n hn'
            have := numS_8192 a (by omega)
            omega
          · have := numS_3 n (by omega)
            have := numS_64 a (by omega)
            omega
        simp only
        omega
      · have h1 := ih (p + 1) (f ++ next.extract p (p + 1)) o (by omega) (by omega) (by rw [ba_append_size]; simp; omega)
        unfold diffGo
        rw [if_pos hlt, hl, if_neg h8]
        rw [ba_append_size] at h1
        have : (next.extract p (p + 1)).size = 1 := by simp; omega
        omega
    · rw [diffGo_end (by omega), ba_append_size]
      have := (insF_le f (by omega)).1
      omega
theorem diffF_size (old next : ByteArray) (ho : old.size ≤ 8192) (hn : next.size ≤ 8192) : (diffF old next).size ≤ next.size + 14 := by
  have h := diffGo_size old next ho hn next.size 0 .empty (numS (sumB old) ++ numS (sumB next)) (by omega) (by omega) (by simp)
  unfold diffF
  rw [if_neg (by omega)]
  simp only [ba_append_size, ByteArray.size_empty] at h
  have := numS_sum old
  have := numS_sum next
  omega
end Go.Proofs.YtkpgadjhcnkadaaDoor
