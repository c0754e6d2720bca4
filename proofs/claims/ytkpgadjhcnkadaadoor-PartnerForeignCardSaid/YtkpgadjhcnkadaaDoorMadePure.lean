/- The partner and the reference's partner behind a list of messages: the plain laws. -/
import Derived.Test.YtkpgadjhcnkadaaDoorBuild
import Derived.Test.YtkpgadjhcnkadaaDoorDelivered
set_option linter.unusedSimpArgs false
set_option linter.unusedVariables false
namespace Go.Proofs.YtkpgadjhcnkadaaDoor
open Go.RowKit

theorem keepGo_len (x : Ent) : ∀ (E : List Ent) (d : Bool), (keepGo x E d).length ≤ E.length + (if d then 0 else 1)
  | [], d => by cases d <;> simp [keepGo]
  | p :: E, d => by
    have h := keepGo_len x E (d || decide (x.story ≤ p.story))
    unfold keepGo
    simp only [List.length_append, List.length_cons]
    cases d
    · by_cases hx : x.story ≤ p.story
      · simp only [hx, decide_true, Bool.or_true, if_true, and_self, List.length_singleton] at h ⊢
        split <;> simp <;> omega
      · simp only [hx, decide_false, Bool.or_false, Bool.false_eq_true, if_false, and_false, List.length_nil] at h ⊢
        split <;> simp <;> omega
    · simp only [Bool.true_or, Bool.true_eq_false, false_and, if_false, if_true, List.length_nil] at h ⊢
      split <;> simp <;> omega
theorem recvR_len (id : Int) (E : List Ent) (m : Msg) : (recvR id E m).2.length ≤ E.length + 1 := by
  have hk : ∀ x, (keepF E x).length ≤ E.length + 1 := fun x => by have := keepGo_len x E false; simpa [keepF] using this
  unfold recvR
  repeat' split
  all_goals first | exact hk _ | exact Nat.le_succ _
theorem recvF_txt {id : Int} {L : List (Int × Held)} (h : ∀ k, (mapAt L k).text.size ≤ 8192) (m : Msg) (k : Int) : (mapAt (recvF id L m).2 k).text.size ≤ 8192 := by
  have hd : (delivF (mapAt L m.story) m).1.size ≤ 8192 := by
    unfold delivF
    split
    · simp
    · exact applyF_size _ _
  unfold recvF
  repeat' split
  all_goals first
    | exact h k
    | (simp only [mapAt_put]; split <;> first | exact hd | exact h k | exact Nat.zero_le _)
/-- What the two partners hold behind at most n messages. -/
structure Good (L : List (Int × Held)) (E : List Ent) (n : Nat) : Prop where
  rel : Rel L E
  len : E.length ≤ n
  txt : ∀ k, (mapAt L k).text.size ≤ 8192
theorem Good.nil : Good [] [] 0 := ⟨Rel.nil, by simp, fun k => by simp [mapAt, noHeld]⟩
theorem Good.ent {L : List (Int × Held)} {E : List Ent} {n : Nat} (h : Good L E n) (k : Int) : (entryF E k).text.size ≤ 8192 := by
  have := h.txt k
  rw [h.rel.1 k] at this
  exact this
theorem Good.step {L : List (Int × Held)} {E : List Ent} {n : Nat} (h : Good L E n) (id : Int) (m : Msg) : Good (recvF id L m).2 (recvR id E m).2 (n + 1) :=
  ⟨(h.rel.recv id m).2, Nat.le_trans (recvR_len id E m) (by have := h.len; omega), recvF_txt h.txt m⟩
theorem buildF_data {L : List (Int × Held)} {E : List Ent} {n : Nat} (h : Good L E n) (id : Int) (x : Six) : (buildF id E x).data.size ≤ 8206 := by
  have hd : ∀ seq story base next, base.size ≤ 8192 → next.size ≤ 132 → (deliverM id seq story base next).data.size ≤ 8206 := fun seq story base next h1 h2 => by
    have := diffF_size base next h1 (by omega)
    unfold deliverM
    dsimp only
    omega
  have hw := fun c => wordsF_size c
  have hA : ∀ m seq story next c x5, m.data.size ≤ 8206 → next.size ≤ 132 → (buildA m id seq story next c x5).data.size ≤ 8206 := fun m seq story next c x5 hm hn => by
    unfold buildA
    repeat' split
    · exact hd _ _ _ _ (Nat.zero_le _) hn
    · exact hd _ _ _ _ (by have := hw x5; omega) hn
    · exact hm
    · exact hm
    · simp; omega
    · exact hm
  have hB : ∀ m seq story c x5, m.data.size ≤ 8206 → (buildB m id seq story c x5).data.size ≤ 8206 := fun m seq story c x5 hm => by
    unfold buildB
    repeat' split
    all_goals first | exact hm | exact Nat.zero_le _
  unfold buildF
  exact hB _ _ _ _ _ (hA _ _ _ _ _ _ (hd _ _ _ _ (h.ent _) (hw _)) (hw _))
/-- Both partners behind one message more. -/
def partF (id : Int) (s : List (Int × Held) × List Ent) (x : Six) : List (Int × Held) × List Ent := ((recvF id s.1 (buildF id s.2 x)).2, (recvR id s.2 (buildF id s.2 x)).2)
def madeF (id : Int) (xs : List Six) : List (Int × Held) × List Ent := xs.foldl (partF id) ([], [])
theorem madeF_good (id : Int) (xs : List Six) : Good (madeF id xs).1 (madeF id xs).2 xs.length := by
  have key : ∀ (xs : List Six) (s : List (Int × Held) × List Ent) (n : Nat), Good s.1 s.2 n → Good (xs.foldl (partF id) s).1 (xs.foldl (partF id) s).2 (n + xs.length) := by
    intro xs
    induction xs with
    | nil => intro s n h; exact h
    | cons x xs ih =>
      intro s n h
      have := ih (partF id s x) (n + 1) (h.step id _)
      rw [List.foldl_cons, List.length_cons, show n + (xs.length + 1) = n + 1 + xs.length by omega]
      exact this
  have := key xs ([], []) 0 Good.nil
  simpa [madeF] using this
theorem madeF_snoc (id : Int) (xs : List Six) (x : Six) : madeF id (xs ++ [x]) = partF id (madeF id xs) x := by simp [madeF]
end Go.Proofs.YtkpgadjhcnkadaaDoor
