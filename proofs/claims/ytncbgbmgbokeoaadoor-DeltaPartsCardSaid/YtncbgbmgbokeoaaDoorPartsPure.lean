/- Plain: a text of k parts that lie in the old one has a short diff. -/
import Derived.Test.YtncbgbmgbokeoaaDoorDeltaPure2
namespace Go.Proofs.YtncbgbmgbokeoaaDoor

def Occ (old : ByteArray) (q : List UInt8) : Prop := ∃ i, (old.data.toList.drop i).take q.length = q
theorem Occ.drop {old : ByteArray} {q : List UInt8} (h : Occ old q) (n : Nat) : Occ old (q.drop n) := by
  obtain ⟨i, h⟩ := h
  refine ⟨i + n, ?_⟩
  rw [List.length_drop, ← List.drop_drop, ← List.drop_take, h]
theorem longest_ge (old next : ByteArray) (p off : Nat) (h : off < old.size) : lcpB old next off p ≤ (longestF old next p).1 := by
  unfold longestF
  have mono : ∀ (l : List Nat) (b : Nat × Nat), b.1 ≤ (l.foldl (bestStep old next p) b).1 := by
    intro l
    induction l with
    | nil => intro b; exact Nat.le_refl _
    | cons x l ih =>
      intro b
      refine Nat.le_trans ?_ (ih _)
      unfold bestStep
      split
      · simp only; omega
      · exact Nat.le_refl _
  have key : ∀ (l : List Nat) (b : Nat × Nat), off ∈ l → lcpB old next off p ≤ (l.foldl (bestStep old next p) b).1 := by
    intro l
    induction l with
    | nil => intro b h; cases h
    | cons x l ih =>
      intro b hm
      rcases List.mem_cons.1 hm with rfl | hm
      · refine Nat.le_trans ?_ (mono l _)
        unfold bestStep
        split
        · exact Nat.le_refl _
        · omega
      · exact ih _ hm
  exact key _ _ (List.mem_range.2 h)
theorem longest_occ {old next : ByteArray} {p : Nat} {q r : List UInt8} (h : next.data.toList.drop p = q ++ r) (ho : Occ old q) : q.length ≤ (longestF old next p).1 := by
  by_cases hq : q = []
  · rw [hq]; exact Nat.zero_le _
  · obtain ⟨i, hi⟩ := ho
    have hl := congrArg List.length hi
    rw [List.length_take, List.length_drop, ba_size] at hl
    have hq0 : 0 < q.length := List.length_pos_iff.2 hq
    refine Nat.le_trans ?_ (longest_ge old next p i (by omega))
    unfold lcpB
    refine (lcpL_take q.length _ _ (by rw [List.length_drop, ba_size]; omega) (by rw [h, List.length_append]; omega)).1 ?_
    rw [hi, h, List.take_left' rfl]
structure Pieces (old : ByteArray) (qs : List (List UInt8)) : Prop where
  ne : ∀ q ∈ qs, q ≠ []
  occ : ∀ q ∈ qs, Occ old q
  long : ∀ q ∈ qs.tail, 8 ≤ q.length
theorem Pieces.cons {old : ByteArray} {q : List UInt8} {r : List (List UInt8)} (h : Pieces old (q :: r)) : Pieces old r :=
  ⟨fun x hx => h.ne x (List.mem_cons_of_mem _ hx), fun x hx => h.occ x (List.mem_cons_of_mem _ hx), fun x hx => h.long x (List.mem_of_mem_tail hx)⟩
theorem Pieces.head {old : ByteArray} {q : List UInt8} {r : List (List UInt8)} (h : Pieces old (q :: r)) {n : Nat} (hn : n < q.length) : Pieces old (q.drop n :: r) := by
  refine ⟨fun x hx => ?_, fun x hx => ?_, h.long⟩
  · rcases List.mem_cons.1 hx with rfl | hx
    · intro e
      have := congrArg List.length e
      rw [List.length_drop, List.length_nil] at this
      omega
    · exact h.ne x (List.mem_cons_of_mem _ hx)
  · rcases List.mem_cons.1 hx with rfl | hx
    · exact (h.occ q (List.mem_cons_self ..)).drop n
    · exact h.occ x (List.mem_cons_of_mem _ hx)
theorem pieces_drop {old : ByteArray} : ∀ (qs : List (List UInt8)) (n : Nat), Pieces old qs → ∃ qs', qs.flatten.drop n = qs'.flatten ∧ Pieces old qs' ∧ qs'.length ≤ qs.length ∧ (∀ q r, qs = q :: r → q.length ≤ n → qs'.length ≤ r.length)
  | [], n, h => ⟨[], by simp, h, Nat.le_refl _, fun _ _ e => by cases e⟩
  | q :: r, n, h => by
    by_cases hn : n < q.length
    · refine ⟨q.drop n :: r, ?_, h.head hn, Nat.le_refl _, fun q' r' e hl => ?_⟩
      · rw [List.flatten_cons, List.flatten_cons, List.drop_append_of_le_length (by omega)]
      · cases e
        omega
    · obtain ⟨qs', h1, h2, h3, _⟩ := pieces_drop r (n - q.length) h.cons
      refine ⟨qs', ?_, h2, by simp; omega, fun q' r' e _ => by cases e; exact h3⟩
      rw [List.flatten_cons, List.drop_append, List.drop_eq_nil_of_le (by omega), List.nil_append, h1]
theorem flatten_nil {old : ByteArray} {qs : List (List UInt8)} (h : Pieces old qs) (he : qs.flatten = []) : qs = [] := by
  cases qs with
  | nil => rfl
  | cons q r =>
    rw [List.flatten_cons] at he
    exact absurd (List.append_eq_nil_iff.1 he).1 (h.ne q (List.mem_cons_self ..))
theorem insF_small (f : ByteArray) (h : f.size ≤ 7) : (insF f).size ≤ 9 ∧ (f.size = 0 → (insF f).size = 0) := by
  refine ⟨?_, fun h0 => by unfold insF; rw [if_pos h0]; rfl⟩
  have := (insF_le f (by omega)).2.2 (by omega)
  omega
theorem diffGo_parts (old next : ByteArray) (ho : old.size ≤ 8191) : ∀ (k p : Nat) (f o : ByteArray) (qs : List (List UInt8)), p ≤ next.size → next.size ≤ k + p → next.data.toList.drop p = qs.flatten → Pieces old qs → f.size ≤ 7 →
    (f.size = 0 → (diffGo old next k p f o).size ≤ o.size + 16 * qs.length) ∧
    ((∀ q r, qs = q :: r → 8 ≤ q.length) → (diffGo old next k p f o).size ≤ o.size + 16 * qs.length + 9) ∧
    ((∃ q r, qs = q :: r ∧ q.length < 8 ∧ f.size + q.length ≤ 7) → (diffGo old next k p f o).size ≤ o.size + 16 * qs.length) := by
  intro k
  induction k with
  | zero =>
    intro p f o qs hp hk hq hP hf
    have hn : qs = [] := flatten_nil hP (by rw [← hq, List.drop_eq_nil_of_le (by rw [ba_size]; omega)])
    subst hn
    have hi := insF_small f hf
    unfold diffGo
    rw [ba_append_size]
    refine ⟨fun h => by rw [hi.2 h]; simp, fun _ => by simp; omega, fun ⟨_, _, h, _⟩ => by cases h⟩
  | succ k ih =>
    intro p f o qs hp hk hq hP hf
    have hi := insF_small f hf
    by_cases hlt : p < next.size
    · cases qs with
      | nil =>
        have := congrArg List.length hq
        rw [List.length_drop, ba_size] at this
        simp at this
        omega
      | cons q r =>
        have hocc := longest_occ (q := q) (r := r.flatten) (by rw [hq, List.flatten_cons]) (hP.occ q (List.mem_cons_self ..))
        obtain ⟨⟨n, a⟩, hl⟩ : ∃ z, longestF old next p = z := ⟨_, rfl⟩
        rw [hl] at hocc
        dsimp only at hocc
        by_cases h8 : 8 ≤ n
        · have hle := longestF_le old next p
          have hof := longestF_off old next p (by rw [hl]; simp only; omega)
          rw [hl] at hof hle
          dsimp only at hof hle
          have hlc := lcpB_le old next a p
          obtain ⟨qs', e1, e2, _, e4⟩ := pieces_drop (q :: r) n hP
          have e5 := e4 q r rfl hocc
          have h1 := (ih (p + n) .empty (o ++ insF f ++ numS n ++ numS a) qs' (by omega) (by omega) (by rw [← List.drop_drop, hq]; exact e1) e2 (by simp)).1 (by simp)
          have q1 := numS_8192 n (by omega)
          have q2 := numS_8192 a (by omega)
          simp only [ba_append_size] at h1
          have e : diffGo old next (k + 1) p f o = diffGo old next k (p + n) .empty (o ++ insF f ++ numS n ++ numS a) := by
            conv => lhs; unfold diffGo
            rw [if_pos hlt, hl, if_pos h8]
          rw [e]
          simp only [List.length_cons]
          refine ⟨fun h => ?_, fun _ => by omega, fun _ => by omega⟩
          have := hi.2 h
          omega
        · have hq8 : q.length < 8 := by omega
          have hq0 : 0 < q.length := List.length_pos_iff.2 (hP.ne q (List.mem_cons_self ..))
          have e : diffGo old next (k + 1) p f o = diffGo old next k (p + 1) (f ++ next.extract p (p + 1)) o := by
            conv => lhs; unfold diffGo
            rw [if_pos hlt, hl, if_neg h8]
          rw [e]
          have hs1 : (f ++ next.extract p (p + 1)).size = f.size + 1 := by rw [ba_append_size]; simp; omega
          simp only [List.length_cons]
          by_cases h1 : q.length = 1
          · have hd : next.data.toList.drop (p + 1) = r.flatten := by
              rw [← List.drop_drop, hq, List.flatten_cons, List.drop_append, List.drop_eq_nil_of_le (by omega), h1]
              simp
            have hlong : ∀ q' r', r = q' :: r' → 8 ≤ q'.length := fun q' r' e => hP.long q' (by rw [e]; simp)
            have step : ∀ (hb : f.size + 1 ≤ 7), (diffGo old next k (p + 1) (f ++ next.extract p (p + 1)) o).size ≤ o.size + 16 * r.length + 9 := fun hb =>
              (ih (p + 1) (f ++ next.extract p (p + 1)) o r (by omega) (by omega) hd hP.cons (by omega)).2.1 hlong
            refine ⟨fun h => ?_, fun h => ?_, fun ⟨q', r', h, h2, h3⟩ => ?_⟩
            · have := step (by omega); omega
            · have := h q r rfl; omega
            · cases h
              have := step (by omega); omega
          · have hd : next.data.toList.drop (p + 1) = (q.drop 1 :: r).flatten := by
              rw [← List.drop_drop, hq, List.flatten_cons, List.flatten_cons, List.drop_append_of_le_length (by omega)]
            have hP' := hP.head (n := 1) (by omega)
            have hdl : (q.drop 1).length = q.length - 1 := List.length_drop ..
            have step : ∀ (hb : f.size + q.length ≤ 7), (diffGo old next k (p + 1) (f ++ next.extract p (p + 1)) o).size ≤ o.size + 16 * (q.drop 1 :: r).length := fun hb =>
              (ih (p + 1) (f ++ next.extract p (p + 1)) o (q.drop 1 :: r) (by omega) (by omega) hd hP' (by omega)).2.2 ⟨q.drop 1, r, rfl, by omega, by omega⟩
            simp only [List.length_cons] at step
            refine ⟨fun h => step (by omega), fun h => ?_, fun ⟨q', r', h, h2, h3⟩ => ?_⟩
            · have := h q r rfl; omega
            · cases h
              exact step h3
    · have hn : qs = [] := flatten_nil hP (by rw [← hq, List.drop_eq_nil_of_le (by rw [ba_size]; omega)])
      subst hn
      rw [diffGo_end (by omega), ba_append_size]
      refine ⟨fun h => by rw [hi.2 h]; simp, fun _ => by simp; omega, fun ⟨_, _, h, _⟩ => by cases h⟩
theorem diffF_parts (old next : ByteArray) (ho : old.size ≤ 8191) (hn : next.size ≤ 8192) (qs : List (List UInt8)) (h : next.data.toList = qs.flatten) (h8 : ∀ q ∈ qs, 8 ≤ q.length) (hoc : ∀ q ∈ qs, Occ old q) : (diffF old next).size ≤ 16 * qs.length + 14 := by
  have hP : Pieces old qs := ⟨fun q hq e => by have := h8 q hq; rw [e] at this; simp at this, hoc, fun q hq => h8 q (List.mem_of_mem_tail hq)⟩
  have hg := (diffGo_parts old next ho next.size 0 .empty (numS (sumB old) ++ numS (sumB next)) qs (by omega) (by omega) (by rw [List.drop_zero]; exact h) hP (by simp)).1 (by simp)
  unfold diffF
  rw [if_neg (by omega)]
  rw [ba_append_size] at hg
  have := numS_sum old
  have := numS_sum next
  omega
end Go.Proofs.YtncbgbmgbokeoaaDoor
