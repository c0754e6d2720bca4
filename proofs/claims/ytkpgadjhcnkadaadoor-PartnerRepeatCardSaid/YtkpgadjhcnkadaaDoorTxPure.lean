/- What both partners hold behind messages that the integers determine are texts of a few words: the plain laws. -/
import Derived.Test.YtkpgadjhcnkadaaDoorWordsSum2
import Derived.Test.YtkpgadjhcnkadaaDoorItemsPure
set_option linter.unusedSimpArgs false
set_option linter.unusedVariables false
namespace Go.Proofs.YtkpgadjhcnkadaaDoor
open Go.RowKit

/-! ### a delta cut short -/
theorem decR_mono : ∀ (k : Nat) (f : Bool) (l t : List UInt8) (p : Nat × Nat), decR k f l = some p → decR k f (l ++ t) = some p
  | 0, _, _, _, _, h => by simp [decR] at h
  | _ + 1, _, [], _, _, h => by simp [decR] at h
  | k + 1, f, b :: l, t, p, h => by
    unfold decR at h
    show decR (k + 1) f (b :: (l ++ t)) = some p
    unfold decR
    split at h
    · rename_i hb
      rw [if_pos hb]
      cases hd : decR k false l with
      | none => rw [hd] at h; simp at h
      | some q => rw [hd] at h; rw [decR_mono k false l t q hd]; exact h
    · rename_i hb
      rw [if_neg hb]
      exact h
theorem intL_mono {l t : List UInt8} {p : Int × Nat} (h : intL l = some p) : intL (l ++ t) = some p := by
  unfold intL at h ⊢
  cases hd : decR 9 true l with
  | none => rw [hd] at h; simp at h
  | some q => rw [hd] at h; rw [decR_mono 9 true l t q hd]; exact h
section
variable {d' d : ByteArray} {t : List UInt8} (hcut : d.data.toList = d'.data.toList ++ t)
include hcut
theorem cut_size : d'.size ≤ d.size := by
  have := congrArg List.length hcut
  rw [List.length_append, ba_size, ba_size] at this
  omega
theorem cut_drop {i : Nat} (h : i ≤ d'.size) : d.data.toList.drop i = d'.data.toList.drop i ++ t := by
  rw [hcut, List.drop_append_of_le_length (by rw [ba_size]; exact h)]
theorem intAt_mono {a : Int} (h : (intAt d' a).2.2 = 0) : intAt d a = intAt d' a := by
  have hs := cut_size hcut
  unfold intAt at h ⊢
  split at h
  · simp at h
  · rename_i hr
    rw [if_neg (by omega), if_neg hr, cut_drop hcut (by omega)]
    cases hl : intL (d'.data.toList.drop a.toNat) with
    | none => rw [hl] at h; simp at h
    | some p => rw [intL_mono hl]
theorem cut_extract {i j : Nat} (h : i ≤ j) (hj : j ≤ d'.size) : d.extract i j = d'.extract i j := by
  apply ba_of_list
  rw [ex_list, ex_list, cut_drop hcut (by omega), List.take_append_of_le_length (by rw [List.length_drop, ba_size]; omega)]
theorem strAt_mono {a : Int} (h : (strAt d' a).2.2 = 0) : strAt d a = strAt d' a := by
  have hs := cut_size hcut
  have hint : (intAt d' a).2.2 = 0 := by
    rcases Decidable.em ((intAt d' a).2.2 = 0) with h0 | h0
    · exact h0
    · unfold strAt at h
      rw [if_pos h0] at h
      exact h
  have he := intAt_mono hcut hint
  unfold strAt at h ⊢
  rw [he]
  have hn : ¬ (intAt d' a).2.2 ≠ 0 := by simp [hint]
  rw [if_neg hn] at h
  rw [if_neg hn, if_neg hn]
  have hnn : 0 ≤ (intAt d' a).2.1 := by
    unfold intAt at hint ⊢
    split
    · simp
    · split <;> simp <;> omega
  split at h
  · simp at h
  · rename_i hr
    rw [if_neg (by omega), if_neg hr, cut_extract hcut (by omega) (by omega)]
theorem opAt_mono {old : ByteArray} {a : Int} (h : (opAt old d' a).2.2 = 0) : opAt old d a = opAt old d' a := by
  have hint : (intAt d' a).2.2 = 0 := by
    rcases Decidable.em ((intAt d' a).2.2 = 0) with h0 | h0
    · exact h0
    · unfold opAt at h
      rw [if_pos h0] at h
      simp at h
  have he := intAt_mono hcut hint
  unfold opAt at h ⊢
  rw [he]
  have hn : ¬ (intAt d' a).2.2 ≠ 0 := by simp [hint]
  rw [if_neg hn] at h
  rw [if_neg hn, if_neg hn]
  split at h
  · simp at h
  · rename_i h1
    rw [if_neg h1, if_neg h1]
    split at h
    · rename_i h2
      rw [if_pos h2, if_pos h2]
      have hstr : (strAt d' (intAt d' a).2.1).2.2 = 0 := by
        rcases Decidable.em ((strAt d' (intAt d' a).2.1).2.2 = 0) with h0 | h0
        · exact h0
        · rw [if_pos h0] at h; simp at h
      rw [strAt_mono hcut hstr]
    · rename_i h2
      rw [if_neg h2, if_neg h2]
      have hi2 : (intAt d' (intAt d' a).2.1).2.2 = 0 := by
        rcases Decidable.em ((intAt d' (intAt d' a).2.1).2.2 = 0) with h0 | h0
        · exact h0
        · rw [if_pos h0] at h; simp at h
      rw [intAt_mono hcut hi2]
theorem applyGo_mono {old : ByteArray} : ∀ (k' k : Nat) (a : Int) (out t1 t2 : List UInt8), k' ≤ k → applyGo old d' k' a out = (0, t1) → applyGo old d k a out = (0, t2) → ∃ u, t2 = t1 ++ u := by
  have ext : ∀ (k : Nat) (a : Int) (out t2 : List UInt8), applyGo old d k a out = (0, t2) → ∃ u, t2 = out ++ u := by
    intro k
    induction k with
    | zero => intro a out t2 h; simp only [applyGo, Prod.mk.injEq, true_and] at h; exact ⟨[], by rw [h]; simp⟩
    | succ k ih =>
      intro a out t2 h
      unfold applyGo at h
      split at h
      · split at h
        · rename_i hne; simp only [Prod.mk.injEq] at h; exact absurd h.1 hne
        · split at h
          · simp at h
          · obtain ⟨u, hu⟩ := ih _ _ _ h
            exact ⟨_, by rw [hu, List.append_assoc]⟩
      · simp only [Prod.mk.injEq, true_and] at h
        exact ⟨[], by rw [h]; simp⟩
  intro k'
  induction k' with
  | zero =>
    intro k a out t1 t2 _ h1 h2
    simp only [applyGo, Prod.mk.injEq, true_and] at h1
    subst h1
    exact ext k a out t2 h2
  | succ k' ih =>
    intro k a out t1 t2 hk h1 h2
    have hs := cut_size hcut
    by_cases ha : a < (d'.size : Int)
    · obtain ⟨j, rfl⟩ : ∃ j, k = j + 1 := ⟨k - 1, by omega⟩
      unfold applyGo at h1 h2
      rw [if_pos ha] at h1
      rw [if_pos (by omega)] at h2
      split at h1
      · rename_i hne; simp only [Prod.mk.injEq] at h1; exact absurd h1.1 hne
      · rename_i hz
        have hz' : (opAt old d' a).2.2 = 0 := by simpa using hz
        rw [opAt_mono hcut hz', if_neg hz] at h2
        split at h1
        · simp at h1
        · rename_i hle
          rw [if_neg hle] at h2
          exact ih j _ _ _ _ (by omega) h1 h2
    · unfold applyGo at h1
      rw [if_neg ha] at h1
      simp only [Prod.mk.injEq, true_and] at h1
      subst h1
      exact ext k a out t2 h2
end
/-- What a delta that is accepted says. -/
theorem applyF_ok {b d : ByteArray} (h : (applyF b d).2 = 0) : (intAt d 0).2.2 = 0 ∧ (intAt d 0).1 = sumB b ∧ (intAt d (intAt d 0).2.1).2.2 = 0 ∧ applyGo b d d.size (intAt d (intAt d 0).2.1).2.1 [] = (0, (applyF b d).1.data.toList) ∧ sumB (applyF b d).1 = (intAt d (intAt d 0).2.1).1 := by
  unfold applyF at h ⊢
  split at h
  · simp at h
  rename_i h1
  rw [if_neg h1]
  split at h
  · simp at h
  rename_i h2
  rw [if_neg h2]
  split at h
  · simp at h
  rename_i h3
  rw [if_neg h3]
  unfold applyRest at h ⊢
  split at h
  · simp at h
  rename_i h4
  rw [if_neg h4]
  split at h
  · rename_i h5
    exact absurd h h5
  rename_i h5
  rw [if_neg h5]
  split at h
  · simp at h
  rename_i h6
  rw [if_neg h6]
  refine ⟨by simpa using h2, by simpa using h3, by simpa using h4, ?_, by simpa using h6⟩
  have h5' : (applyGo b d d.size (intAt d (intAt d 0).2.1).2.1 []).1 = 0 := by simpa using h5
  exact Prod.ext h5' (by simp)
/-- A delta between two texts of words, whole or cut short: if it is accepted at a text of words, the result is the new text. -/
theorem cut_tx {b old next d' : ByteArray} {t : List UInt8} (hb : TX b) (ho : TX old) (hn : TX next) (so : old.size ≤ 8192) (sn : next.size ≤ 8192)
    (hcut : (diffF old next).data.toList = d'.data.toList ++ t) (h : (applyF b d').2 = 0) : (applyF b d').1 = next := by
  have hr := roundTrip old next so sn
  obtain ⟨a1, a2, a3, a4, a5⟩ := applyF_ok h
  obtain ⟨b1, b2, b3, b4, b5⟩ := applyF_ok (b := old) (d := diffF old next) (by rw [hr])
  have e1 := intAt_mono hcut a1
  have e2 := intAt_mono hcut a3
  rw [hr] at b4 b5
  rw [e1] at b2 b4 b5
  rw [e2] at b4 b5
  dsimp only at b4 b5
  have hbo : b = old := sum_inj hb ho (a2.symm.trans b2)
  subst hbo
  obtain ⟨u, hu⟩ := applyGo_mono hcut _ _ _ _ _ _ (cut_size hcut) a4 b4
  exact sum_prefix hn hu (a5.trans b5.symm)
/-! ### the messages that six integers determine -/
/-- The delta is one between two texts of words, whole or cut short. -/
def DataTX (m : Msg) : Prop := ∃ old next t, TX old ∧ TX next ∧ old.size ≤ 8192 ∧ next.size ≤ 8192 ∧ (diffF old next).data.toList = m.data.data.toList ++ t
theorem deliver_tx {id seq story : Int} {old next : ByteArray} (ho : TX old) (hn : TX next) (so : old.size ≤ 8192) (sn : next.size ≤ 8192) : DataTX (deliverM id seq story old next) :=
  ⟨old, next, [], ho, hn, so, sn, by unfold deliverM; simp⟩
/-- What is held are texts of words, with small numbers. -/
def HeldTX (L : List (Int × Held)) : Prop := ∀ k, TX (mapAt L k).text ∧ (mapAt L k).text.size ≤ 8192 ∧ 0 ≤ (mapAt L k).seq ∧ (mapAt L k).seq ≤ 3000
theorem words_le (c : Int) : (wordsF c).size ≤ 8192 := by have := wordsF_size c; omega
theorem build_tx {L : List (Int × Held)} {E : List Ent} (hL : HeldTX L) (hr : Rel L E) (id : Int) (x : Six) : ((buildF id E x).kind = 2 ∨ DataTX (buildF id E x)) ∧ (buildF id E x).seq ≤ 3000 := by
  have hE : ∀ k, TX (entryF E k).text ∧ (entryF E k).text.size ≤ 8192 := fun k => by
    have := hL k
    rw [hr.st k] at this
    exact ⟨this.1, this.2.1⟩
  have hA : ∀ m seq story next c x5, DataTX m → TX next → next.size ≤ 8192 → DataTX (buildA m id seq story next c x5) := fun m seq story next c x5 hm hn sn => by
    unfold buildA
    repeat' split
    · exact deliver_tx empty_tx hn (Nat.zero_le _) sn
    · exact deliver_tx (wordsF_tx _) hn (words_le _) sn
    · exact hm
    · exact hm
    · obtain ⟨old, nx, t, h1, h2, h3, h4, h5⟩ := hm
      refine ⟨old, nx, m.data.data.toList.drop (pickI x5 ((m.data.size : Int) + 1)).toNat ++ t, h1, h2, h3, h4, ?_⟩
      rw [h5, ← List.append_assoc]
      congr 1
      show _ = (m.data.extract 0 _).data.toList ++ _
      rw [ex_list, List.drop_zero, Nat.sub_zero, List.take_append_drop]
    · exact hm
  have hAs : ∀ m seq story next c x5, m.seq ≤ 3000 → seq ≤ 3000 → (buildA m id seq story next c x5).seq ≤ 3000 := fun m seq story next c x5 hm hs => by
    unfold buildA
    repeat' split
    all_goals first | exact hm | exact hs
  have hB : ∀ m seq story c x5, DataTX m → (buildB m id seq story c x5).kind = 2 ∨ DataTX (buildB m id seq story c x5) := fun m seq story c x5 hm => by
    unfold buildB
    repeat' split
    all_goals first | exact Or.inl rfl | exact Or.inr hm
  have hBs : ∀ m seq story c x5, m.seq ≤ 3000 → seq ≤ 3000 → (buildB m id seq story c x5).seq ≤ 3000 := fun m seq story c x5 hm hs => by
    unfold buildB
    have h3 := pickI_range x5 3000 (by decide)
    repeat' split
    all_goals first | exact hm | exact hs | (show pickI x5 3000 - 10 ≤ 3000; omega)
  have h12 := pickI_range x.x1 12 (by decide)
  unfold buildF
  exact ⟨hB _ _ _ _ _ (hA _ _ _ _ _ _ (deliver_tx (hE _).1 (wordsF_tx _) (hE _).2 (words_le _)) (wordsF_tx _) (words_le _)), hBs _ _ _ _ _ (hAs _ _ _ _ _ _ (by show pickI x.x1 12 ≤ 3000; omega) (by omega)) (by omega)⟩
theorem HeldTX.recv {L : List (Int × Held)} (h : HeldTX L) (id : Int) (m : Msg) (hm : m.kind = 2 ∨ DataTX m) (hs : m.seq ≤ 3000) : HeldTX (recvF id L m).2 := by
  intro k
  unfold recvF
  split
  · exact h k
  split
  · exact h k
  split
  · exact h k
  rename_i hv h1 h2
  have h0 := (h m.story).2.2.1
  split
  · simp only [mapAt_put]
    split
    · exact ⟨empty_tx, Nat.zero_le _, by show 0 ≤ m.seq; omega, hs⟩
    · exact h k
  rename_i hk
  split
  · exact h k
  rename_i hd
  simp only [mapAt_put]
  split
  · have hD : DataTX m := hm.resolve_left hk
    obtain ⟨old, next, t, t1, t2, t3, t4, t5⟩ := hD
    have hbase : TX (baseF (mapAt L m.story) m) := by
      unfold baseF
      split
      · exact empty_tx
      · exact (h m.story).1
    have hd' : (delivF (mapAt L m.story) m).2 = true := by simpa using hd
    have hres : (delivF (mapAt L m.story) m).1 = next := by
      unfold delivF at hd' ⊢
      split at hd'
      · cases hd'
      · rename_i hb
        rw [if_neg hb]
        simp only [Bool.and_eq_true, decide_eq_true_eq] at hd'
        exact cut_tx hbase t1 t2 t3 t4 t5 hd'.1
    exact ⟨by rw [hres]; exact t2, by rw [hres]; exact t4, by show 0 ≤ m.seq; omega, hs⟩
  · exact h k
theorem madeF_tx (id : Int) (xs : List Six) : HeldTX (madeF id xs).1 := by
  have key : ∀ (xs : List Six) (s : List (Int × Held) × List Ent), HeldTX s.1 → Rel s.1 s.2 → HeldTX (xs.foldl (partF id) s).1 := by
    intro xs
    induction xs with
    | nil => intro s h _; exact h
    | cons x xs ih =>
      intro s h hr
      obtain ⟨hb1, hb2⟩ := build_tx h hr id x
      exact ih _ (h.recv id _ hb1 hb2) (hr.recv id _).2
  exact key xs ([], []) (fun k => ⟨empty_tx, by simp [mapAt, noHeld], by simp [mapAt, noHeld], by simp [mapAt, noHeld]⟩) Rel.nil
end Go.Proofs.YtkpgadjhcnkadaaDoor
