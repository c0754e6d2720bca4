/- What a partner holds of a story depends on the messages about it alone: the plain laws, and three partners in memory. -/
import Derived.Test.YtkpgadjhcnkadaaDoorItemsPure
set_option linter.unusedSimpArgs false
set_option linter.unusedVariables false
namespace Go.Proofs.YtkpgadjhcnkadaaDoor
open Go.RowKit

theorem recvF_other (id : Int) (L : List (Int × Held)) (m : Msg) (k : Int) (h : k ≠ m.story) : mapAt (recvF id L m).2 k = mapAt L k := by
  unfold recvF
  repeat' split
  all_goals first | rfl | (simp only [mapAt_put]; rw [if_neg h])
theorem recvF_same (id : Int) (L Q : List (Int × Held)) (m : Msg) (h : mapAt Q m.story = mapAt L m.story) : (recvF id Q m).1 = (recvF id L m).1 ∧ mapAt (recvF id Q m).2 m.story = mapAt (recvF id L m).2 m.story := by
  unfold recvF
  rw [h]
  repeat' split
  all_goals first | exact ⟨rfl, h⟩ | exact ⟨rfl, by simp only [mapAt_put, if_true]⟩
/-- Q holds what L holds of the story, and nothing else. -/
def Ind (L Q : List (Int × Held)) (st : Int) : Prop := mapAt Q st = mapAt L st ∧ ∀ k, k ≠ st → mapAt Q k = noHeld
theorem Ind.nil (st : Int) : Ind [] [] st := ⟨rfl, fun _ _ => rfl⟩
theorem Ind.yes {L Q : List (Int × Held)} {st : Int} (h : Ind L Q st) (id : Int) (m : Msg) (hm : m.story = st) : (recvF id Q m).1 = (recvF id L m).1 ∧ Ind (recvF id L m).2 (recvF id Q m).2 st := by
  subst hm
  obtain ⟨h1, h2⟩ := recvF_same id L Q m h.1
  exact ⟨h1, h2, fun k hk => by rw [recvF_other id Q m k hk]; exact h.2 k hk⟩
theorem Ind.no {L Q : List (Int × Held)} {st : Int} (h : Ind L Q st) (id : Int) (m : Msg) (hm : m.story ≠ st) : Ind (recvF id L m).2 Q st :=
  ⟨by rw [recvF_other id L m st (Ne.symm hm)]; exact h.1, h.2⟩
theorem Ind.items {L Q : List (Int × Held)} {st : Int} (h : Ind L Q st) (h1 : 1 ≤ st) (h2 : st ≤ 64) : (itemsF Q).length = if (mapAt L st).has then 1 else 0 := by
  have key : ∀ n : Nat, (itemsTo Q n).length = if st ≤ n ∧ (mapAt L st).has = true then 1 else 0 := by
    intro n
    induction n with
    | zero => rw [if_neg (by omega)]; rfl
    | succ n ih =>
      rw [itemsTo_succ, List.length_append, ih]
      by_cases hn : (n : Int) + 1 = st
      · rw [hn, h.1]
        cases hh : (mapAt L st).has
        · simp
        · rw [if_neg (by omega)]; simp; omega
      · rw [h.2 _ hn]
        have e : (st ≤ (n : Int) ∧ (mapAt L st).has = true) ↔ (st ≤ ((n + 1 : Nat) : Int) ∧ (mapAt L st).has = true) := by
          constructor
          · rintro ⟨h3, h4⟩; exact ⟨by omega, h4⟩
          · rintro ⟨h3, h4⟩; exact ⟨by omega, h4⟩
        simp only [e]
        simp [noHeld]
  have := key 64
  show (itemsTo Q 64).length = _
  rw [this]
  cases (mapAt L st).has
  · simp
  · rw [if_pos ⟨by omega, rfl⟩]; simp
/-- Two partners of the program and one of the reference. -/
structure TriAt (B p b r q c : Nat) (id : Int) (L : List (Int × Held)) (E : List Ent) (Q : List (Int × Held)) (W : World) : Prop where
  pair : PairAt B p b r id L E W
  q : IsP q c id Q W
  bc : b ≠ c
  cge : B ≤ c
theorem IsP.grown_map {p b c : Nat} {id : Int} {L : List (Int × Held)} {W W' : World} (h : IsP p b id L W) (hm : ∃ es k, W.heap[c]? = some (.map es k)) (hbc : b ≠ c) (hg : W.grownBy W' (some c)) : IsP p b id L W' := by
  obtain ⟨es0, k0, hc⟩ := hm
  obtain ⟨es, k, hb, hes⟩ := h.held
  refine ⟨?_, es, k, ?_, hes⟩
  · rw [hg.block p h.lt (fun e => by
      have e := Option.some.inj e
      have hh := h.heap
      rw [e, hc] at hh
      cases hh)]
    exact h.heap
  · rw [hg.block b (lt_of_heap hb) (fun e => hbc (Option.some.inj e))]
    exact hb
theorem TriAt.below {B p b r q c : Nat} {id : Int} {L : List (Int × Held)} {E : List Ent} {Q : List (Int × Held)} {W W' : World} (h : TriAt B p b r q c id L E Q W) (hb : Below W.heap.size W W') : TriAt B p b r q c id L E Q W' :=
  ⟨h.pair.below hb, h.q.below hb h.q.lt h.q.held.lt, h.bc, h.cge⟩
theorem TriAt.recvP {B p b r q c : Nat} {id : Int} {L : List (Int × Held)} {E : List Ent} {Q : List (Int × Held)} {w0 W : World} {a0 a1 : Addr} (h : TriAt B p b r q c id L E Q W) (hB : Below B w0 W) (hn : NibCells W) (he : ErrCells a0 a1 W) (m : Msg) (hd : m.data.size ≤ 8206) (ht : ∀ k, (mapAt L k).text.size ≤ 8192) :
    Calls Tryd.prog 18 #[.pointer (some ⟨p, 0, none⟩), msgV m] W fun e w' => ∃ v, e = .returned v ∧ IsAns W.heap.size w' v (recvF id L m).1 ∧ TriAt B p b r q c id (recvF id L m).2 E Q w' ∧ Below B w0 w' ∧ W.grownBy w' (some b) :=
  (h.pair.recvP hB hn he m hd ht).mono fun e w' ⟨v, h1, h2, h3, h4, h5⟩ => ⟨v, h1, h2, ⟨h3, h.q.grown_map h.pair.p.map (Ne.symm h.bc) h5, h.bc, h.cge⟩, h4, h5⟩
theorem TriAt.recvR {B p b r q c : Nat} {id : Int} {L : List (Int × Held)} {E : List Ent} {Q : List (Int × Held)} {w0 W : World} (h : TriAt B p b r q c id L E Q W) (hB : Below B w0 W) (m : Msg) (hd : m.data.size ≤ 8206) (hlen : E.length ≤ 1000) (ht : ∀ k, (entryF E k).text.size ≤ 8192) :
    Calls Tryd.prog 19 #[.pointer (some ⟨r, 0, none⟩), msgV m] W fun e w' => ∃ v, e = .returned v ∧ IsAns W.heap.size w' v (Proofs.YtkpgadjhcnkadaaDoor.recvR id E m).1 ∧ TriAt B p b r q c id L (Proofs.YtkpgadjhcnkadaaDoor.recvR id E m).2 Q w' ∧ Below B w0 w' ∧ W.grownBy w' (some r) :=
  (h.pair.recvR hB m hd hlen ht).mono fun e w' ⟨v, h1, h2, h3, h4, h5⟩ => ⟨v, h1, h2, ⟨h3, h.q.grown_r h.pair.r h5, h.bc, h.cge⟩, h4, h5⟩
theorem TriAt.recvQ {B p b r q c : Nat} {id : Int} {L : List (Int × Held)} {E : List Ent} {Q : List (Int × Held)} {w0 W : World} {a0 a1 : Addr} (h : TriAt B p b r q c id L E Q W) (hB : Below B w0 W) (hn : NibCells W) (he : ErrCells a0 a1 W) (m : Msg) (hd : m.data.size ≤ 8206) (ht : (mapAt Q m.story).text.size ≤ 8192) :
    Calls Tryd.prog 18 #[.pointer (some ⟨q, 0, none⟩), msgV m] W fun e w' => ∃ v, e = .returned v ∧ IsAns W.heap.size w' v (recvF id Q m).1 ∧ TriAt B p b r q c id L E (recvF id Q m).2 w' ∧ Below B w0 w' ∧ W.grownBy w' (some c) :=
  (receive_any a0 a1 hn he h.q m (by omega) (by omega)).mono fun e w' ⟨v, h1, h2, h3, h4⟩ =>
    ⟨v, h1, h2, ⟨⟨h.pair.p.grown_map h.q.map h.bc h4, h.pair.r.grown_map h.q.map h4, h.pair.ge, Nat.le_trans h.pair.size h4.size⟩, h3, h.bc, h.cge⟩, hB.grown h4 h.pair.size (fun k hk => by cases hk; exact h.cge), h4⟩
theorem IsAns.kept {B : Nat} {w w' : World} {v : Value} {o : Option Msg} {row : Option Nat} (h : IsAns B w v o) (hg : w.grownBy w' row) (hr : ∀ k, row = some k → k < B) : IsAns B w' v o := by
  cases o with
  | none => exact h
  | some a =>
    obtain ⟨g, h1, h2, h3⟩ := h
    exact ⟨g, h1, h2, (hg.block g (lt_of_heap h3) (fun e => by have := hr g e.symm; omega)).trans h3⟩
theorem IsAns.below {B : Nat} {w w' : World} {v : Value} {o : Option Msg} (h : IsAns B w v o) (hb : Below w.heap.size w w') : IsAns B w' v o :=
  h.kept (row := Option.none) ⟨hb.os, hb.tape, hb.output, hb.size, fun j hj _ => hb.block j hj⟩ (fun k hk => by cases hk)
end Go.Proofs.YtkpgadjhcnkadaaDoor
