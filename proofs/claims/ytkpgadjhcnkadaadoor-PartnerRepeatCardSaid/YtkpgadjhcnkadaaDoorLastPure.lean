/- The partner takes the delivery with the greatest number: the plain law. -/
import Derived.Test.YtkpgadjhcnkadaaDoorLaw22Base
import Derived.Test.YtkpgadjhcnkadaaDoorRecvFns
import Derived.Test.YtkpgadjhcnkadaaDoorDeltaPure2
set_option linter.unusedSimpArgs false
set_option linter.unusedVariables false
namespace Go.Proofs.YtkpgadjhcnkadaaDoor
open Go.RowKit

theorem sum_empty : sumB ByteArray.empty = 0 := by kernel_rfl
theorem sum_empty' : sumB ⟨#[]⟩ = 0 := by kernel_rfl
theorem deliver_valid {id seq story : Int} {base next : ByteArray} (hi : 1 ≤ id ∧ id ≤ 8) (hq : 1 ≤ seq ∧ seq ≤ 4611686018427387903) (hs : 1 ≤ story ∧ story ≤ 64) (hb : base.size ≤ 8192) (hn : next.size ≤ 8192) :
    validM (deliverM id seq story base next) = true := by
  have h1 := sumB_range base
  have h2 := sumB_range next
  have h3 := diffF_size base next hb hn
  unfold validM deliverM ruleF withinB isSumB withinB
  simp
  omega
theorem kill_valid {id seq story : Int} (hi : 1 ≤ id ∧ id ≤ 8) (hq : 1 ≤ seq ∧ seq ≤ 4611686018427387903) (hs : 1 ≤ story ∧ story ≤ 64) : validM ⟨2, id, seq, story, 0, 0, .empty⟩ = true := by
  unfold validM ruleF withinB isSumB withinB
  simp
  omega
/-- A delivery against the empty text is taken whatever is held. -/
theorem deliver_fresh (h : Held) (id seq story : Int) (next : ByteArray) (hn : next.size ≤ 8192) : delivF h (deliverM id seq story ⟨#[]⟩ next) = (next, true) := by
  have hb : baseF h (deliverM id seq story ⟨#[]⟩ next) = .empty := by
    unfold baseF deliverM
    rw [if_pos sum_empty']
  unfold delivF
  rw [hb, if_neg (by unfold deliverM; rw [sum_empty, sum_empty']; simp)]
  have hr := roundTrip .empty next (by decide) hn
  have : (deliverM id seq story ⟨#[]⟩ next).data = diffF .empty next := rfl
  rw [this, hr]
  simp [deliverM]
/-- A delivery against what is held is taken. -/
theorem deliver_held (h : Held) (id seq story : Int) (next : ByteArray) (ht : h.text.size ≤ 8192) (hn : next.size ≤ 8192) (h0 : sumB h.text = 0 → h.text = .empty) : delivF h (deliverM id seq story h.text next) = (next, true) := by
  have hb : baseF h (deliverM id seq story h.text next) = h.text := by
    unfold baseF
    split
    · rename_i hz
      exact (h0 hz).symm
    · rfl
  unfold delivF
  rw [hb, if_neg (by unfold deliverM; simp)]
  have hr := roundTrip h.text next ht hn
  have : (deliverM id seq story h.text next).data = diffF h.text next := rfl
  rw [this, hr]
  simp [deliverM]
/-- What is held once the greatest number so far is k + 1 (k = -1: none). -/
def lastH (zs : List Int) (k : Int) : Held := if k < 0 then noHeld else if zs.getD k.toNat 0 < 0 then ⟨k + 1, .empty, false⟩ else ⟨k + 1, wordsF (zs.getD k.toNat 0), true⟩
def lastM (zs : List Int) (k : Nat) : Msg := if zs.getD k 0 < 0 then ⟨2, 1, (k : Int) + 1, 5, 0, 0, .empty⟩ else deliverM 1 ((k : Int) + 1) 5 ⟨#[]⟩ (wordsF (zs.getD k 0))
theorem lastH_seq (zs : List Int) (k : Int) (h : -1 ≤ k) : (lastH zs k).seq = k + 1 := by
  unfold lastH
  split
  · simp [noHeld]; omega
  · split <;> rfl
theorem lastH_size (zs : List Int) (k : Int) : (lastH zs k).text.size ≤ 132 := by
  unfold lastH
  split
  · simp [noHeld]
  · split
    · simp
    · exact wordsF_size _
theorem last_recv {l : List (Int × Held)} (zs : List Int) (last : Int) (k : Nat) (hk : k < 12) (hl : -1 ≤ last) (h : mapAt l 5 = lastH zs last) :
    mapAt (recvF 1 l (lastM zs k)).2 5 = lastH zs (max last k) := by
  have hw := wordsF_size (zs.getD k 0)
  have hv : validM (lastM zs k) = true := by
    unfold lastM
    split
    · exact kill_valid (by decide) (by omega) (by decide)
    · exact deliver_valid (by decide) (by omega) (by decide) (by decide) (by omega)
  have e1 : (lastM zs k).partner = 1 := by unfold lastM; split <;> rfl
  have e2 : (lastM zs k).seq = (k : Int) + 1 := by unfold lastM; split <;> rfl
  have e3 : (lastM zs k).story = 5 := by unfold lastM; split <;> rfl
  have e4 : (lastM zs k).kind = if zs.getD k 0 < 0 then 2 else 1 := by unfold lastM; split <;> rfl
  have hs := lastH_seq zs last hl
  unfold recvF
  rw [if_neg (by rw [hv, e1, e4]; rintro (h1 | h1 | ⟨h1, h2⟩); exact absurd h1 (by decide); exact h1 rfl; split at h1 <;> omega), e3, h, hs, e2]
  by_cases c1 : (k : Int) + 1 < last + 1
  · rw [if_pos c1, show max last (k : Int) = last by omega]; exact h
  · rw [if_neg c1]
    by_cases c2 : (k : Int) + 1 = last + 1
    · rw [if_pos c2, show max last (k : Int) = last by omega]; exact h
    · rw [if_neg c2, show max last (k : Int) = k by omega, e4]
      by_cases c3 : zs.getD k 0 < 0
      · rw [if_pos (if_pos c3)]
        simp only [mapAt_put, if_true]
        unfold lastH
        rw [if_neg (by omega), Int.toNat_natCast, if_pos c3]
      · rw [if_neg (by rw [if_neg c3]; decide)]
        have hd := deliver_fresh (lastH zs last) 1 ((k : Int) + 1) 5 (wordsF (zs.getD k 0)) (by omega)
        have hm : lastM zs k = deliverM 1 ((k : Int) + 1) 5 ⟨#[]⟩ (wordsF (zs.getD k 0)) := by unfold lastM; rw [if_neg c3]
        rw [← hm] at hd
        rw [hd, if_neg (by simp)]
        simp only [mapAt_put, if_true]
        unfold lastH
        rw [if_neg (by omega), Int.toNat_natCast, if_neg c3]
end Go.Proofs.YtkpgadjhcnkadaaDoor
