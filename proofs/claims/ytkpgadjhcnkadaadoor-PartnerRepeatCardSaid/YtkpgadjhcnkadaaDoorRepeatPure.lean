/- A message received again: the plain laws. -/
import Derived.Test.YtkpgadjhcnkadaaDoorTxPure2
set_option linter.unusedSimpArgs false
set_option linter.unusedVariables false
namespace Go.Proofs.YtkpgadjhcnkadaaDoor
open Go.RowKit

/-- Received again, a message changes nothing and has the same answer. -/
theorem recv_twice (id : Int) (L : List (Int × Held)) (m : Msg) : recvF id (recvF id L m).2 m = ((recvF id L m).1, (recvF id L m).2) := by
  by_cases h0 : validM m = false ∨ m.partner ≠ id ∨ (m.kind ≠ 1 ∧ m.kind ≠ 2)
  · have e : recvF id L m = (none, L) := by unfold recvF; rw [if_pos h0]
    rw [e]; exact e
  by_cases h1 : m.seq < (mapAt L m.story).seq
  · have e : recvF id L m = (some (rejM id (mapAt L m.story).seq m.story (sumB (mapAt L m.story).text)), L) := by unfold recvF; rw [if_neg h0, if_pos h1]
    rw [e]; exact e
  by_cases h2 : m.seq = (mapAt L m.story).seq
  · have e : recvF id L m = (some (ackM id m.seq m.story (sumB (mapAt L m.story).text)), L) := by unfold recvF; rw [if_neg h0, if_neg h1, if_pos h2]
    rw [e]; exact e
  by_cases h3 : m.kind = 2
  · have e : recvF id L m = (some (ackM id m.seq m.story 0), mapPut L m.story ⟨m.seq, .empty, false⟩) := by unfold recvF; rw [if_neg h0, if_neg h1, if_neg h2, if_pos h3]
    rw [e]
    have hm : mapAt (mapPut L m.story ⟨m.seq, .empty, false⟩) m.story = ⟨m.seq, .empty, false⟩ := by rw [mapAt_put, if_pos rfl]
    show recvF id (mapPut L m.story ⟨m.seq, .empty, false⟩) m = _
    unfold recvF
    rw [if_neg h0, hm, if_neg (by show ¬ m.seq < m.seq; omega), if_pos rfl]
    dsimp only
    rw [sum_empty]
  by_cases h4 : (delivF (mapAt L m.story) m).2 = false
  · have e : recvF id L m = (some (rejM id m.seq m.story (sumB (mapAt L m.story).text)), L) := by unfold recvF; rw [if_neg h0, if_neg h1, if_neg h2, if_neg h3, if_pos h4]
    rw [e]; exact e
  · have e : recvF id L m = (some (ackM id m.seq m.story m.version), mapPut L m.story ⟨m.seq, (delivF (mapAt L m.story) m).1, true⟩) := by unfold recvF; rw [if_neg h0, if_neg h1, if_neg h2, if_neg h3, if_neg h4]
    rw [e]
    have hs : sumB (delivF (mapAt L m.story) m).1 = m.version := by
      have h4' : (delivF (mapAt L m.story) m).2 = true := by simpa using h4
      unfold delivF at h4' ⊢
      split at h4'
      · cases h4'
      · rename_i hb
        rw [if_neg hb]
        simp only [Bool.and_eq_true, decide_eq_true_eq] at h4'
        exact h4'.2
    obtain ⟨tx, htx⟩ : ∃ t, (delivF (mapAt L m.story) m).1 = t := ⟨_, rfl⟩
    rw [htx] at hs ⊢
    have hm : mapAt (mapPut L m.story ⟨m.seq, tx, true⟩) m.story = ⟨m.seq, tx, true⟩ := by rw [mapAt_put, if_pos rfl]
    show recvF id (mapPut L m.story ⟨m.seq, tx, true⟩) m = _
    unfold recvF
    rw [if_neg h0, hm, if_neg (by show ¬ m.seq < m.seq; omega), if_pos rfl]
    dsimp only
    rw [hs]
/-- What an answer says. -/
theorem recv_form (id : Int) (L : List (Int × Held)) (m : Msg) : ((recvF id L m).1 = none ∧ (recvF id L m).2 = L) ∨ (∃ v, (recvF id L m).1 = some (ackM m.partner m.seq m.story v)) ∨
    (∃ s v, m.seq ≤ s ∧ (recvF id L m).1 = some (rejM m.partner s m.story v) ∧ (recvF id L m).2 = L) := by
  by_cases h0 : validM m = false ∨ m.partner ≠ id ∨ (m.kind ≠ 1 ∧ m.kind ≠ 2)
  · have e : recvF id L m = (none, L) := by unfold recvF; rw [if_pos h0]
    rw [e]; exact .inl ⟨rfl, rfl⟩
  have hp : m.partner = id := by
    rcases Decidable.em (m.partner = id) with h | h
    · exact h
    · exact absurd (.inr (.inl h)) h0
  by_cases h1 : m.seq < (mapAt L m.story).seq
  · have e : recvF id L m = (some (rejM id (mapAt L m.story).seq m.story (sumB (mapAt L m.story).text)), L) := by unfold recvF; rw [if_neg h0, if_pos h1]
    rw [e, hp]; exact .inr (.inr ⟨_, _, by omega, rfl, rfl⟩)
  by_cases h2 : m.seq = (mapAt L m.story).seq
  · have e : recvF id L m = (some (ackM id m.seq m.story (sumB (mapAt L m.story).text)), L) := by unfold recvF; rw [if_neg h0, if_neg h1, if_pos h2]
    rw [e, hp]; exact .inr (.inl ⟨_, rfl⟩)
  by_cases h3 : m.kind = 2
  · have e : recvF id L m = (some (ackM id m.seq m.story 0), mapPut L m.story ⟨m.seq, .empty, false⟩) := by unfold recvF; rw [if_neg h0, if_neg h1, if_neg h2, if_pos h3]
    rw [e, hp]; exact .inr (.inl ⟨_, rfl⟩)
  by_cases h4 : (delivF (mapAt L m.story) m).2 = false
  · have e : recvF id L m = (some (rejM id m.seq m.story (sumB (mapAt L m.story).text)), L) := by unfold recvF; rw [if_neg h0, if_neg h1, if_neg h2, if_neg h3, if_pos h4]
    rw [e, hp]; exact .inr (.inr ⟨_, _, Int.le_refl _, rfl, rfl⟩)
  · have e : recvF id L m = (some (ackM id m.seq m.story m.version), mapPut L m.story ⟨m.seq, (delivF (mapAt L m.story) m).1, true⟩) := by unfold recvF; rw [if_neg h0, if_neg h1, if_neg h2, if_neg h3, if_neg h4]
    rw [e, hp]; exact .inr (.inl ⟨_, rfl⟩)
end Go.Proofs.YtkpgadjhcnkadaaDoor
