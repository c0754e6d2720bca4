/- What the laws on both partners share: stores into a message beside them, rows of items kept. -/
import Derived.Test.YtkpgadjhcnkadaaDoorMade
import Derived.Test.YtkpgadjhcnkadaaDoorLastPure
import Derived.Deep.DeepCutAuto
import Derived.Deep.CutBlock
set_option linter.unusedSimpArgs false
set_option linter.unusedVariables false
namespace Go.Proofs.YtkpgadjhcnkadaaDoor
open Go.RowKit

theorem IsP.set {p b : Nat} {id : Int} {L : List (Int × Held)} {W : World} (h : IsP p b id L W) {g : Nat} {cs : Array Value} (hg : W.heap[g]? = some (.cells cs 33 (0, 0))) (k : Nat) (u : Value) : IsP p b id L (W.setCell ⟨g, k, none⟩ u) := by
  obtain ⟨es, c, hb, hes⟩ := h.held
  refine ⟨?_, es, c, ?_, hes⟩
  · rw [Below.heap_setCell _ _ _ _ (fun e => by
      have hh := h.heap
      rw [show p = g from e, hg] at hh
      simp only [Option.some.injEq, Obj.cells.injEq] at hh
      exact absurd hh.2.1 (by decide))]
    exact h.heap
  · rw [Below.heap_setCell _ _ _ _ (fun e => by rw [show b = g from e, hg] at hb; cases hb)]
    exact hb
theorem PairAt.set {B p b r : Nat} {id : Int} {L : List (Int × Held)} {E : List Ent} {W : World} (h : PairAt B p b r id L E W) {g : Nat} {cs : Array Value} (hg : W.heap[g]? = some (.cells cs 33 (0, 0))) (k : Nat) (u : Value) : PairAt B p b r id L E (W.setCell ⟨g, k, none⟩ u) :=
  ⟨h.p.set hg k u, h.r.set hg k u, h.ge, by rw [World.size_setCell]; exact h.size⟩
theorem IsItems.kept {B : Nat} {w w' : World} {v : Value} {X : List (Int × ByteArray)} {row : Option Nat} (h : IsItems B w v X) (hg : w.grownBy w' row) (hr : ∀ k, row = some k → k < B) : IsItems B w' v X := by
  refine World.ownsRow.kept h hg ?_
  rcases h.2 with ⟨h1, _⟩ | ⟨g, cap, cur, h1, h2, _⟩
  · exact Or.inl (by rw [h1]; rfl)
  · refine Or.inr (fun e => ?_)
    rw [h1] at e
    have := hr g e.symm
    omega
theorem IsItems.below {B : Nat} {w w' : World} {v : Value} {X : List (Int × ByteArray)} (h : IsItems B w v X) (hb : Below w.heap.size w w') : IsItems B w' v X :=
  h.kept (row := Option.none) ⟨hb.os, hb.tape, hb.output, hb.size, fun j hj _ => hb.block j hj⟩ (fun k hk => by cases hk)
theorem itemsF_len (L : List (Int × Held)) : (itemsF L).length ≤ 64 := itemsTo_len L 64
/-- A message variable at block q beside both partners, a box of two integers at block xb. -/
structure ForSt (W1 : World) (p b r q xb : Nat) (id : Int) (L : List (Int × Held)) (E : List Ent) (x0 x1 : Int) (m : Msg) (W : World) : Prop where
  pair : PairAt W1.heap.size p b r id L E W
  below : Below W1.heap.size W1 W
  ge : W1.heap.size ≤ q
  msg : W.heap[q]? = some (.cells (msgCells m) 33 (0, 0))
  lt : xb < W1.heap.size
  box : W.heap[xb]? = some (.cells #[.int .i64 x0, .int .i64 x1] 54 (0, 0))
theorem ForSt.set {W1 : World} {p b r q xb : Nat} {id : Int} {L : List (Int × Held)} {E : List Ent} {x0 x1 : Int} {m : Msg} {W : World} (h : ForSt W1 p b r q xb id L E x0 x1 m W) (k : Nat) (v : Value) (m' : Msg) (hm : (msgCells m).setIfInBounds k v = msgCells m') : ForSt W1 p b r q xb id L E x0 x1 m' (W.setCell ⟨q, k, none⟩ v) :=
  ⟨h.pair.set h.msg k v, h.below.setCell (p := ⟨q, k, none⟩) h.ge v, h.ge, by rw [Go.heap_setCell_same _ _ _ _ _ _ h.msg, hm], h.lt, by rw [Below.heap_setCell _ _ _ _ (by have := h.ge; have := h.lt; simp only; omega)]; exact h.box⟩
theorem ForSt.put {W1 : World} {p b r q xb : Nat} {id : Int} {L : List (Int × Held)} {E : List Ent} {x0 x1 : Int} {m : Msg} {W : World} (h : ForSt W1 p b r q xb id L E x0 x1 m W) (m' : Msg) : ForSt W1 p b r q xb id L E x0 x1 m' (((((((W.setCell ⟨q, 0, none⟩ (.int .i64 m'.kind)).setCell ⟨q, 1, none⟩ (.int .i64 m'.partner)).setCell ⟨q, 2, none⟩ (.int .i64 m'.seq)).setCell ⟨q, 3, none⟩ (.int .i64 m'.story)).setCell ⟨q, 4, none⟩ (.int .i64 m'.base)).setCell ⟨q, 5, none⟩ (.int .i64 m'.version)).setCell ⟨q, 6, none⟩ (.string m'.data)) :=
  (((((((h.set 0 _ ⟨m'.kind, m.partner, m.seq, m.story, m.base, m.version, m.data⟩ rfl).set 1 _ ⟨m'.kind, m'.partner, m.seq, m.story, m.base, m.version, m.data⟩ rfl).set 2 _ ⟨m'.kind, m'.partner, m'.seq, m.story, m.base, m.version, m.data⟩ rfl).set 3 _ ⟨m'.kind, m'.partner, m'.seq, m'.story, m.base, m.version, m.data⟩ rfl).set 4 _ ⟨m'.kind, m'.partner, m'.seq, m'.story, m'.base, m.version, m.data⟩ rfl).set 5 _ ⟨m'.kind, m'.partner, m'.seq, m'.story, m'.base, m'.version, m.data⟩ rfl).set 6 _ m' rfl)
theorem ForSt.next {W1 : World} {p b r q xb : Nat} {id : Int} {L : List (Int × Held)} {E : List Ent} {x0 x1 : Int} {m : Msg} {W W' : World} (h : ForSt W1 p b r q xb id L E x0 x1 m W) (hb : Below W.heap.size W W') : ForSt W1 p b r q xb id L E x0 x1 m W' :=
  ⟨h.pair.below hb, Below_then h.below hb, h.ge, (hb.block _ (lt_of_heap h.msg)).trans h.msg, h.lt, (hb.block _ (lt_of_heap h.box)).trans h.box⟩
theorem forSt_new {w1 w2 W : World} {p b r xb q : Nat} {id : Int} {L : List (Int × Held)} {E : List Ent} {x0 x1 : Int} {m : Msg} (hp : PairAt w1.heap.size p b r id L E w2) (hb : Below w1.heap.size w1 w2) (hx : w2.heap[xb]? = some (.cells #[.int .i64 x0, .int .i64 x1] 54 (0, 0))) (hlt : xb < w1.heap.size)
    (hS : Below w2.heap.size w2 W) (hq : w1.heap.size ≤ q) (hm : W.heap[q]? = some (.cells (msgCells m) 33 (0, 0))) : ForSt w1 p b r q xb id L E x0 x1 m W :=
  ⟨hp.below hS, Below_then hb hS, hq, hm, hlt, (hS.block _ (lt_of_heap hx)).trans hx⟩
theorem forSt_old {w1 w2 W : World} {p b r xb q : Nat} {id : Int} {L : List (Int × Held)} {E : List Ent} {x0 x1 : Int} (hp : PairAt w1.heap.size p b r id L E w2) (hb : Below w1.heap.size w1 w2) (hx : w2.heap[xb]? = some (.cells #[.int .i64 x0, .int .i64 x1] 54 (0, 0))) (hlt : xb < w1.heap.size)
    (hS : Below w2.heap.size w2 W) (hq : w1.heap.size ≤ q) (hq2 : w2.heap.size ≤ q) (hm : W.heap[q]? = some (.cells #[.int .i64 0, .int .i64 0, .int .i64 0, .int .i64 0, .int .i64 0, .int .i64 0, .string ⟨#[]⟩] 33 (0, 0))) (m : Msg) :
    ForSt w1 p b r q xb id L E x0 x1 m (((((((W.setCell ⟨q, 0, none⟩ (.int .i64 m.kind)).setCell ⟨q, 1, none⟩ (.int .i64 m.partner)).setCell ⟨q, 2, none⟩ (.int .i64 m.seq)).setCell ⟨q, 3, none⟩ (.int .i64 m.story)).setCell ⟨q, 4, none⟩ (.int .i64 m.base)).setCell ⟨q, 5, none⟩ (.int .i64 m.version)).setCell ⟨q, 6, none⟩ (.string m.data)) ∧
    Below w2.heap.size w2 (((((((W.setCell ⟨q, 0, none⟩ (.int .i64 m.kind)).setCell ⟨q, 1, none⟩ (.int .i64 m.partner)).setCell ⟨q, 2, none⟩ (.int .i64 m.seq)).setCell ⟨q, 3, none⟩ (.int .i64 m.story)).setCell ⟨q, 4, none⟩ (.int .i64 m.base)).setCell ⟨q, 5, none⟩ (.int .i64 m.version)).setCell ⟨q, 6, none⟩ (.string m.data)) :=
  ⟨(forSt_new (m := ⟨0, 0, 0, 0, 0, 0, ⟨#[]⟩⟩) hp hb hx hlt hS hq hm).put m, ((((((hS.setCell (p := ⟨q, 0, none⟩) hq2 _).setCell (p := ⟨q, 1, none⟩) hq2 _).setCell (p := ⟨q, 2, none⟩) hq2 _).setCell (p := ⟨q, 3, none⟩) hq2 _).setCell (p := ⟨q, 4, none⟩) hq2 _).setCell (p := ⟨q, 5, none⟩) hq2 _).setCell (p := ⟨q, 6, none⟩) hq2 _⟩
theorem cells2of {W : World} {c : Nat} {x0 x1 : Int} (h : W.heap[c]? = some (.cells #[.int .i64 x0, .int .i64 x1] 54 (0, 0))) : W.cell? ⟨c, 0, none⟩ = some (.int .i64 x0) ∧ W.cell? ⟨c, 1, none⟩ = some (.int .i64 x1) := ⟨Lib.cell_of_heap h 0, Lib.cell_of_heap h 1⟩
theorem keepB0 {r c : Nat} {id x0 : Int} {X W' : World} (h : X.cell? ⟨r, 0, none⟩ = some (.int .i64 id) ∧ X.cell? ⟨c, 0, none⟩ = some (.int .i64 x0)) (hb : Below X.heap.size X W') : W'.cell? ⟨r, 0, none⟩ = some (.int .i64 id) ∧ W'.cell? ⟨c, 0, none⟩ = some (.int .i64 x0) :=
  ⟨(hb.cell (World.block_lt_of_cell? X _ h.1)).trans h.1, (hb.cell (World.block_lt_of_cell? X _ h.2)).trans h.2⟩
theorem recv_out {id : Int} {L : List (Int × Held)} {m : Msg} (h : validM m = false ∨ m.partner ≠ id ∨ (m.kind ≠ 1 ∧ m.kind ≠ 2)) : recvF id L m = (none, L) := by unfold recvF; rw [if_pos h]
end Go.Proofs.YtkpgadjhcnkadaaDoor
