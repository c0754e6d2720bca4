/- What a partner that holds texts of a few words answers to a delivery with a greater number: the plain laws. -/
import Derived.Test.YtkpgadjhcnkadaaDoorTxPure
import Derived.Test.YtkpgadjhcnkadaaDoorLastPure
import Derived.Test.YtkpgadjhcnkadaaDoorIndPure
set_option linter.unusedSimpArgs false
set_option linter.unusedVariables false
namespace Go.Proofs.YtkpgadjhcnkadaaDoor
open Go.RowKit

theorem sum_zero {s : ByteArray} (h : TX s) (h0 : sumB s = 0) : s = .empty := sum_inj h empty_tx (h0.trans sum_empty.symm)
section
variable {L : List (Int × Held)} (hL : HeldTX L) {id st : Int} (hi : 1 ≤ id ∧ id ≤ 8) (hs : 1 ≤ st ∧ st ≤ 64) {nx : ByteArray} (hn : nx.size ≤ 8192)
include hL hi hs hn
theorem recv_next : recvF id L (deliverM id ((mapAt L st).seq + 1) st (mapAt L st).text nx) = (some (ackM id ((mapAt L st).seq + 1) st (sumB nx)), mapPut L st ⟨(mapAt L st).seq + 1, nx, true⟩) := by
  obtain ⟨h1, h2, h3, h4⟩ := hL st
  have hv := deliver_valid (seq := (mapAt L st).seq + 1) hi (by omega) hs h2 hn
  have hd := deliver_held (mapAt L st) id ((mapAt L st).seq + 1) st nx h2 hn (sum_zero h1)
  unfold recvF
  rw [if_neg (by rw [hv]; rintro (h | h | ⟨h, _⟩); exact absurd h (by decide); exact h rfl; exact h rfl)]
  rw [if_neg (by show ¬ (mapAt L st).seq + 1 < (mapAt L st).seq; omega), if_neg (by show ¬ (mapAt L st).seq + 1 = (mapAt L st).seq; omega), if_neg (by show ¬ (1 : Int) = 2; decide)]
  rw [show (deliverM id ((mapAt L st).seq + 1) st (mapAt L st).text nx).story = st from rfl, hd, if_neg (by simp)]
  rfl
theorem recv_fresh : recvF id L (deliverM id ((mapAt L st).seq + 1) st ⟨#[]⟩ nx) = (some (ackM id ((mapAt L st).seq + 1) st (sumB nx)), mapPut L st ⟨(mapAt L st).seq + 1, nx, true⟩) := by
  obtain ⟨h1, h2, h3, h4⟩ := hL st
  have hv := deliver_valid (seq := (mapAt L st).seq + 1) (base := ⟨#[]⟩) hi (by omega) hs (by decide) hn
  have hd := deliver_fresh (mapAt L st) id ((mapAt L st).seq + 1) st nx hn
  unfold recvF
  rw [if_neg (by rw [hv]; rintro (h | h | ⟨h, _⟩); exact absurd h (by decide); exact h rfl; exact h rfl)]
  rw [if_neg (by show ¬ (mapAt L st).seq + 1 < (mapAt L st).seq; omega), if_neg (by show ¬ (mapAt L st).seq + 1 = (mapAt L st).seq; omega), if_neg (by show ¬ (1 : Int) = 2; decide)]
  rw [show (deliverM id ((mapAt L st).seq + 1) st ⟨#[]⟩ nx).story = st from rfl, hd, if_neg (by simp)]
  rfl
theorem recv_wrong {a : ByteArray} (ha : TX a) (sa : a.size ≤ 132) : recvF id L (deliverM id ((mapAt L st).seq + 1) st (a ++ ⟨#[63]⟩) nx) = (some (rejM id ((mapAt L st).seq + 1) st (sumB (mapAt L st).text)), L) := by
  obtain ⟨h1, h2, h3, h4⟩ := hL st
  have hsz : (a ++ ⟨#[63]⟩ : ByteArray).size ≤ 8192 := by
    rw [ba_append_size]
    have : (⟨#[63]⟩ : ByteArray).size = 1 := rfl
    omega
  have hv := deliver_valid (seq := (mapAt L st).seq + 1) (base := a ++ ⟨#[63]⟩) hi (by omega) hs hsz hn
  have hne : sumB (a ++ ⟨#[63]⟩) ≠ 0 := fun h => sum_quest ha empty_tx (h.trans sum_empty.symm)
  have hb : baseF (mapAt L st) (deliverM id ((mapAt L st).seq + 1) st (a ++ ⟨#[63]⟩) nx) = (mapAt L st).text := by
    unfold baseF
    rw [if_neg (by show ¬ sumB (a ++ ⟨#[63]⟩) = 0; exact hne)]
  have hd : delivF (mapAt L st) (deliverM id ((mapAt L st).seq + 1) st (a ++ ⟨#[63]⟩) nx) = (.empty, false) := by
    unfold delivF
    rw [hb, if_pos (by show sumB (mapAt L st).text ≠ sumB (a ++ ⟨#[63]⟩); exact fun h => sum_quest ha h1 h.symm)]
  unfold recvF
  rw [if_neg (by rw [hv]; rintro (h | h | ⟨h, _⟩); exact absurd h (by decide); exact h rfl; exact h rfl)]
  rw [if_neg (by show ¬ (mapAt L st).seq + 1 < (mapAt L st).seq; omega), if_neg (by show ¬ (mapAt L st).seq + 1 = (mapAt L st).seq; omega), if_neg (by show ¬ (1 : Int) = 2; decide)]
  rw [show (deliverM id ((mapAt L st).seq + 1) st (a ++ ⟨#[63]⟩) nx).story = st from rfl, hd, if_pos rfl]
  rfl
end
theorem PairAt.drew {B p b r : Nat} {id : Int} {L : List (Int × Held)} {E : List Ent} {W : World} (h : PairAt B p b r id L E W) : PairAt B p b r id L E W.drew := ⟨⟨h.p.heap, h.p.held⟩, ⟨h.r.ge, h.r.row⟩, h.ge, h.size⟩
theorem below_drew {B : Nat} {a w : World} (h : Below B a w) : Below B a w.drew := ⟨h.os, h.tape, h.output, h.size, h.block⟩
end Go.Proofs.YtkpgadjhcnkadaaDoor
