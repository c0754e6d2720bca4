/- copydesklaw22.Build computes buildF. -/
import Derived.Test.YtkpgadjhcnkadaaDoorRefRecv
import Derived.Test.YtkpgadjhcnkadaaDoorRef22
import Derived.Test.YtkpgadjhcnkadaaDoorLaw22Base
import Derived.Test.YtkpgadjhcnkadaaDoorDeltaPure2
import Derived.Deep.DeepCutAuto
import Derived.Deep.CutBlock
import Derived.StillTailTactics
set_option linter.unusedSimpArgs false
set_option linter.unusedVariables false
namespace Go.Proofs.YtkpgadjhcnkadaaDoor
open Go.RowKit

/-- The six integers of a message. -/
structure Six where
  x0 : Int
  x1 : Int
  x2 : Int
  x3 : Int
  x4 : Int
  x5 : Int
def sixV (x : Six) : Value := .agg #[.int .i64 x.x0, .int .i64 x.x1, .int .i64 x.x2, .int .i64 x.x3, .int .i64 x.x4, .int .i64 x.x5]
def In64 (n : Int) : Prop := -9223372036854775808 ≤ n ∧ n ≤ 9223372036854775807
def Six.Ok (x : Six) : Prop := In64 x.x0 ∧ In64 x.x1 ∧ In64 x.x2 ∧ In64 x.x3 ∧ In64 x.x4 ∧ In64 x.x5
def buildA (m : Msg) (id seq story : Int) (next : ByteArray) (c x5 : Int) : Msg :=
  if c ≤ 2 then deliverM id seq story ⟨#[]⟩ next
  else if c = 3 then deliverM id seq story (wordsF x5) next
  else if c = 4 then { m with version := x5 }
  else if c = 5 then { m with base := x5 }
  else if c = 6 then { m with data := m.data.extract 0 (pickI x5 (m.data.size + 1)).toNat }
  else m
def buildB (m : Msg) (id seq story : Int) (c x5 : Int) : Msg :=
  if c ≤ 1 then ⟨2, id, seq, story, 0, 0, .empty⟩
  else if c = 2 then { m with kind := pickI x5 6 }
  else if c = 3 then { m with partner := pickI x5 10 }
  else if c = 4 then { m with story := pickI x5 66 }
  else if c = 5 then { m with seq := pickI x5 3000 - 10 }
  else m
def buildF (id : Int) (E : List Ent) (x : Six) : Msg :=
  buildB (buildA (deliverM id (pickI x.x1 12) (1 + pickI x.x2 3) (entryF E (1 + pickI x.x2 3)).text (wordsF x.x4)) id (pickI x.x1 12) (1 + pickI x.x2 3) (wordsF x.x4) (pickI x.x3 8) x.x5) id (pickI x.x1 12) (1 + pickI x.x2 3) (pickI x.x0 10) x.x5
theorem set7_same {W : World} {tb : Nat} {a0 a1 a2 a3 a4 a5 a6 v0 v1 v2 v3 v4 v5 v6 : Value} {T : TypeId} (h : W.heap[tb]? = some (.cells #[a0, a1, a2, a3, a4, a5, a6] T (0, 0))) :
    (((((((W.setCell ⟨tb, 0, none⟩ v0).setCell ⟨tb, 1, none⟩ v1).setCell ⟨tb, 2, none⟩ v2).setCell ⟨tb, 3, none⟩ v3).setCell ⟨tb, 4, none⟩ v4).setCell ⟨tb, 5, none⟩ v5).setCell ⟨tb, 6, none⟩ v6).heap[tb]? = some (.cells #[v0, v1, v2, v3, v4, v5, v6] T (0, 0)) := by
  simp [World.setCell, Array.getElem?_modify, h]
/-- Between the statements of Build: the box of x, the message at block q. -/
structure BuildSt (w : World) (q : Nat) (x : Six) (m : Msg) (W : World) : Prop where
  below : Below w.heap.size w W
  gt : w.heap.size + 2 ≤ q
  box : W.heap[w.heap.size]? = some (.cells #[.int .i64 x.x0, .int .i64 x.x1, .int .i64 x.x2, .int .i64 x.x3, .int .i64 x.x4, .int .i64 x.x5] 35 (0, 0))
  res : W.heap[w.heap.size + 1]? = some (.cells #[.int .i64 0, .int .i64 0, .int .i64 0, .int .i64 0, .int .i64 0, .int .i64 0, .string ⟨#[]⟩] 33 (0, 0))
  msg : W.heap[q]? = some (.cells (msgCells m) 33 (0, 0))
theorem BuildSt.next {w : World} {q : Nat} {x : Six} {m : Msg} {W W' : World} (h : BuildSt w q x m W) (hb : Below W.heap.size W W') : BuildSt w q x m W' :=
  ⟨Below_then h.below hb, h.gt, (hb.block _ (lt_of_heap h.box)).trans h.box, (hb.block _ (lt_of_heap h.res)).trans h.res, (hb.block _ (lt_of_heap h.msg)).trans h.msg⟩
theorem BuildSt.drewN {w : World} {q : Nat} {x : Six} {m : Msg} {W : World} (h : BuildSt w q x m W) (k : Nat) : BuildSt w q x m (W.drewN k) := ⟨below_drewN3 h.below k, h.gt, h.box, h.res, h.msg⟩
theorem BuildSt.set {w : World} {q : Nat} {x : Six} {m : Msg} {W : World} (h : BuildSt w q x m W) (k : Nat) (v : Value) (m' : Msg) (hm : (msgCells m).setIfInBounds k v = msgCells m') : BuildSt w q x m' (W.setCell ⟨q, k, none⟩ v) := by
  have hg := h.gt
  refine ⟨h.below.setCell (p := ⟨q, k, none⟩) (by simp only; omega) v, h.gt, ?_, ?_, ?_⟩
  · rw [Below.heap_setCell _ _ _ _ (by simp only; omega)]; exact h.box
  · rw [Below.heap_setCell _ _ _ _ (by simp only; omega)]; exact h.res
  · rw [Go.heap_setCell_same _ _ _ _ _ _ h.msg, hm]
theorem BuildSt.put {w : World} {q : Nat} {x : Six} {m : Msg} {W : World} (h : BuildSt w q x m W) (m' : Msg) : BuildSt w q x m' (((((((W.setCell ⟨q, 0, none⟩ (.int .i64 m'.kind)).setCell ⟨q, 1, none⟩ (.int .i64 m'.partner)).setCell ⟨q, 2, none⟩ (.int .i64 m'.seq)).setCell ⟨q, 3, none⟩ (.int .i64 m'.story)).setCell ⟨q, 4, none⟩ (.int .i64 m'.base)).setCell ⟨q, 5, none⟩ (.int .i64 m'.version)).setCell ⟨q, 6, none⟩ (.string m'.data)) :=
  (((((((h.set 0 _ ⟨m'.kind, m.partner, m.seq, m.story, m.base, m.version, m.data⟩ rfl).set 1 _ ⟨m'.kind, m'.partner, m.seq, m.story, m.base, m.version, m.data⟩ rfl).set 2 _ ⟨m'.kind, m'.partner, m'.seq, m.story, m.base, m.version, m.data⟩ rfl).set 3 _ ⟨m'.kind, m'.partner, m'.seq, m'.story, m.base, m.version, m.data⟩ rfl).set 4 _ ⟨m'.kind, m'.partner, m'.seq, m'.story, m'.base, m.version, m.data⟩ rfl).set 5 _ ⟨m'.kind, m'.partner, m'.seq, m'.story, m'.base, m'.version, m.data⟩ rfl).set 6 _ m' rfl)
theorem cells6 {W : World} {c : Nat} {x : Six} (h : W.heap[c]? = some (.cells #[.int .i64 x.x0, .int .i64 x.x1, .int .i64 x.x2, .int .i64 x.x3, .int .i64 x.x4, .int .i64 x.x5] 35 (0, 0))) : W.cell? ⟨c, 0, none⟩ = some (.int .i64 x.x0) ∧ W.cell? ⟨c, 1, none⟩ = some (.int .i64 x.x1) ∧ W.cell? ⟨c, 2, none⟩ = some (.int .i64 x.x2) ∧ W.cell? ⟨c, 3, none⟩ = some (.int .i64 x.x3) ∧ W.cell? ⟨c, 4, none⟩ = some (.int .i64 x.x4) ∧ W.cell? ⟨c, 5, none⟩ = some (.int .i64 x.x5) :=
  ⟨Lib.cell_of_heap h 0, Lib.cell_of_heap h 1, Lib.cell_of_heap h 2, Lib.cell_of_heap h 3, Lib.cell_of_heap h 4, Lib.cell_of_heap h 5⟩
theorem frozen7 {W : World} {c : Nat} {cs : Array Value} {T : TypeId} (h : W.heap[c]? = some (.cells cs T (0, 0))) : W.frozen? ⟨c, 0, none⟩ = false ∧ W.frozen? ⟨c, 1, none⟩ = false ∧ W.frozen? ⟨c, 2, none⟩ = false ∧ W.frozen? ⟨c, 3, none⟩ = false ∧ W.frozen? ⟨c, 4, none⟩ = false ∧ W.frozen? ⟨c, 5, none⟩ = false ∧ W.frozen? ⟨c, 6, none⟩ = false :=
  ⟨Lib.frozen_of_heap h 0, Lib.frozen_of_heap h 1, Lib.frozen_of_heap h 2, Lib.frozen_of_heap h 3, Lib.frozen_of_heap h 4, Lib.frozen_of_heap h 5, Lib.frozen_of_heap h 6⟩

theorem keepB {r c : Nat} {id x5 : Int} {X W' : World} (h : X.cell? ⟨r, 0, none⟩ = some (.int .i64 id) ∧ X.cell? ⟨c, 5, none⟩ = some (.int .i64 x5)) (hb : Below X.heap.size X W') : W'.cell? ⟨r, 0, none⟩ = some (.int .i64 id) ∧ W'.cell? ⟨c, 5, none⟩ = some (.int .i64 x5) :=
  ⟨(hb.cell (World.block_lt_of_cell? X _ h.1)).trans h.1, (hb.cell (World.block_lt_of_cell? X _ h.2)).trans h.2⟩
theorem keepC {r c q : Nat} {id x5 : Int} {X : World} (h : X.cell? ⟨r, 0, none⟩ = some (.int .i64 id) ∧ X.cell? ⟨c, 5, none⟩ = some (.int .i64 x5)) (hr : q ≠ r) (hc : q ≠ c) (j : Nat) (v : Value) : (X.setCell ⟨q, j, none⟩ v).cell? ⟨r, 0, none⟩ = some (.int .i64 id) ∧ (X.setCell ⟨q, j, none⟩ v).cell? ⟨c, 5, none⟩ = some (.int .i64 x5) :=
  ⟨(World.cell?_setCell_far X ⟨q, j, none⟩ _ v hr).trans h.1, (World.cell?_setCell_far X ⟨q, j, none⟩ _ v hc).trans h.2⟩
theorem keepD {r c q : Nat} {id x5 : Int} {X : World} (h : X.cell? ⟨r, 0, none⟩ = some (.int .i64 id) ∧ X.cell? ⟨c, 5, none⟩ = some (.int .i64 x5)) (hr : q ≠ r) (hc : q ≠ c) {v0 v1 v2 v3 v4 v5 v6 : Value} : (((((((X.setCell ⟨q, 0, none⟩ v0).setCell ⟨q, 1, none⟩ v1).setCell ⟨q, 2, none⟩ v2).setCell ⟨q, 3, none⟩ v3).setCell ⟨q, 4, none⟩ v4).setCell ⟨q, 5, none⟩ v5).setCell ⟨q, 6, none⟩ v6).cell? ⟨r, 0, none⟩ = some (.int .i64 id) ∧ (((((((X.setCell ⟨q, 0, none⟩ v0).setCell ⟨q, 1, none⟩ v1).setCell ⟨q, 2, none⟩ v2).setCell ⟨q, 3, none⟩ v3).setCell ⟨q, 4, none⟩ v4).setCell ⟨q, 5, none⟩ v5).setCell ⟨q, 6, none⟩ v6).cell? ⟨c, 5, none⟩ = some (.int .i64 x5) :=
  keepC (keepC (keepC (keepC (keepC (keepC (keepC h hr hc 0 v0) hr hc 1 v1) hr hc 2 v2) hr hc 3 v3) hr hc 4 v4) hr hc 5 v5) hr hc 6 v6
theorem BuildSt.drew {w : World} {q : Nat} {x : Six} {m : Msg} {W : World} (h : BuildSt w q x m W) : BuildSt w q x m W.drew := ⟨⟨h.below.os, h.below.tape, h.below.output, h.below.size, h.below.block⟩, h.gt, h.box, h.res, h.msg⟩

set_option maxRecDepth 100000 in
set_option maxHeartbeats 12800000 in
theorem build_any {B r : Nat} {id : Int} {E : List Ent} {w : World} (hr : IsR B r id E w) (x : Six) (hx : x.Ok) (hlen : E.length ≤ 1000) (ht : ∀ k, (entryF E k).text.size ≤ 8192) :
    Calls Tryd.prog 16 #[.pointer (some ⟨r, 0, none⟩), sixV x] w fun e w' => e = .returned (msgV (buildF id E x)) ∧ Below w.heap.size w w' := by
  obtain ⟨⟨l0, u0⟩, ⟨l1, u1⟩, ⟨l2, u2⟩, ⟨l3, u3⟩, ⟨l4, u4⟩, ⟨l5, u5⟩⟩ := hx
  obtain ⟨k2, hk2⟩ : ∃ k, pickI x.x2 3 = k := ⟨_, rfl⟩
  have r2 := pickI_range x.x2 3 (by decide)
  rw [hk2] at r2
  obtain ⟨sq, hsq⟩ : ∃ k, pickI x.x1 12 = k := ⟨_, rfl⟩
  obtain ⟨c3, hc3⟩ : ∃ k, pickI x.x3 8 = k := ⟨_, rfl⟩
  have r3 := pickI_range x.x3 8 (by decide)
  rw [hc3] at r3
  obtain ⟨c0, hc0⟩ : ∃ k, pickI x.x0 10 = k := ⟨_, rfl⟩
  have r0 := pickI_range x.x0 10 (by decide)
  rw [hc0] at r0
  obtain ⟨old, hold⟩ : ∃ o, (entryF E (1 + k2)).text = o := ⟨_, rfl⟩
  have sold : old.size ≤ 8192 := by rw [← hold]; exact ht (1 + k2)
  obtain ⟨nx, hnx⟩ : ∃ o, wordsF x.x4 = o := ⟨_, rfl⟩
  have snx : nx.size ≤ 132 := by rw [← hnx]; exact wordsF_size _
  obtain ⟨m0, hm0⟩ : ∃ m, deliverM id sq (1 + k2) old nx = m := ⟨_, rfl⟩
  have sm0 : m0.data.size ≤ 146 := by rw [← hm0]; have := diffF_size old nx sold (by omega); unfold deliverM; dsimp only; omega
  obtain ⟨mA, hmA⟩ : ∃ m, buildA m0 id sq (1 + k2) nx c3 x.x5 = m := ⟨_, rfl⟩
  have hF : buildF id E x = buildB mA id sq (1 + k2) c0 x.x5 := by unfold buildF; rw [hk2, hsq, hold, hnx, hm0, hc3, hmA, hc0]
  rw [hF]
  have p2 := fun W => pick22_any x.x2 3 W l2 u2 (by decide) (by decide)
  rw [hk2] at p2
  have P2 := Lib.hid p2
  have p1 := fun W => pick22_any x.x1 12 W l1 u1 (by decide) (by decide)
  rw [hsq] at p1
  have P1 := Lib.hid p1
  have p3 := fun W => pick22_any x.x3 8 W l3 u3 (by decide) (by decide)
  rw [hc3] at p3
  have P3 := Lib.hid p3
  have p0 := fun W => pick22_any x.x0 10 W l0 u0 (by decide) (by decide)
  rw [hc0] at p0
  have P0 := Lib.hid p0
  have cw := fun W => words_any x.x4 W l4 u4
  rw [hnx] at cw
  have CW := Lib.hid cw
  have CW5 := Lib.hid (fun W => words_any x.x5 W l5 u5)
  have cd := fun W => deliver_any id sq (1 + k2) old nx W (by omega) (by omega)
  rw [hm0] at cd
  have CD := Lib.hid cd
  have HT := Lib.hid (show (entryF E (1 + k2)).text = old from hold)
  have HMA := Lib.hid hmA
  have HR := Lib.hid hr
  have hrlt := hr.lt
  clear hk2 hsq hc3 hc0 hold hnx hm0 hmA hF p2 p1 p3 p0 cw cd hr ht
  obtain ⟨mB, hmB⟩ : ∃ m, buildB mA id sq (1 + k2) c0 x.x5 = m := ⟨_, rfl⟩
  rw [hmB]
  have HMB := Lib.hid hmB
  clear hmB
  unfold sixV
  go_enter Tryd.func16, Tryd.ntmps16
  go_wp2_with fail
  obtain ⟨wb, hwb⟩ : ∃ wb, (w.alloc (.cells #[.int .i64 x.x0, .int .i64 x.x1, .int .i64 x.x2, .int .i64 x.x3, .int .i64 x.x4, .int .i64 x.x5] 35)).alloc (.cells #[.int .i64 0, .int .i64 0, .int .i64 0, .int .i64 0, .int .i64 0, .int .i64 0, .string ⟨#[]⟩] 33) = wb := ⟨_, rfl⟩
  have hBb : Below w.heap.size w wb := by rw [← hwb]; exact ((Below.refl _ _).alloc (Nat.le_refl _) _).alloc (by simp) _
  have hxb : wb.heap[w.heap.size]? = some (.cells #[.int .i64 x.x0, .int .i64 x.x1, .int .i64 x.x2, .int .i64 x.x3, .int .i64 x.x4, .int .i64 x.x5] 35 (0, 0)) := by
    rw [← hwb, Below.heap_alloc _ _ _ (by simp)]; exact World.alloc_heap_new w _
  have hzb : wb.heap[w.heap.size + 1]? = some (.cells #[.int .i64 0, .int .i64 0, .int .i64 0, .int .i64 0, .int .i64 0, .int .i64 0, .string ⟨#[]⟩] 33 (0, 0)) := by
    have := World.alloc_heap_new (w.alloc (.cells #[.int .i64 x.x0, .int .i64 x.x1, .int .i64 x.x2, .int .i64 x.x3, .int .i64 x.x4, .int .i64 x.x5] 35)) (.cells #[.int .i64 0, .int .i64 0, .int .i64 0, .int .i64 0, .int .i64 0, .int .i64 0, .string ⟨#[]⟩] 33)
    rw [← hwb]
    simpa using this
  rw [hwb]
  obtain ⟨y0, y1, y2, y3, y4, y5⟩ := cells6 hxb
  clear hwb
  refine (P2.out _).mono ?_
  rintro e _ ⟨rfl, rfl⟩
  go_wp2_with fail
  refine (P1.out _).mono ?_
  rintro e _ ⟨rfl, rfl⟩
  go_wp2_with fail
  refine (refText_any (HR.out.below hBb) (1 + k2) hlen).mono ?_
  rintro e w3 ⟨rfl, hb3⟩
  rw [HT.out]
  have hB3 := Below_then hBb hb3
  have x3 := (hb3.block _ (lt_of_heap hxb)).trans hxb
  have z3 := (hb3.block _ (lt_of_heap hzb)).trans hzb
  clear y0 y1 y2 y3 y4 y5
  obtain ⟨y0, y1, y2, y3, y4, y5⟩ := cells6 x3
  go_wp2_with fail
  refine (CW.out _).mono ?_
  rintro e w4 ⟨rfl, hb4⟩
  have hB4 := Below_then hB3 hb4
  have x4 := (hb4.block _ (lt_of_heap x3)).trans x3
  have z4 := (hb4.block _ (lt_of_heap z3)).trans z3
  have i4 := (HR.out.below hB4).c0
  clear y0 y1 y2 y3 y4 y5
  go_wp2_with fail
  refine (CD.out _).mono ?_
  rintro e w5 ⟨rfl, hb5⟩
  have hB5 := Below_then hB4 hb5
  have x5 := (hb5.block _ (lt_of_heap x4)).trans x4
  have z5 := (hb5.block _ (lt_of_heap z4)).trans z4
  clear i4
  obtain ⟨w6, hw6⟩ : ∃ w6, w5.alloc (.cells #[.int .i64 m0.kind, .int .i64 m0.partner, .int .i64 m0.seq, .int .i64 m0.story, .int .i64 m0.base, .int .i64 m0.version, .string m0.data] 33) = w6 := ⟨_, rfl⟩
  have hb6 : Below w5.heap.size w5 w6 := by rw [← hw6]; exact (Below.refl _ _).alloc (Nat.le_refl _) _
  have hS6 : BuildSt w w5.heap.size x m0 w6 := ⟨Below_then hB5 hb6, by have := lt_of_heap z5; omega, (hb6.block _ (lt_of_heap x5)).trans x5, (hb6.block _ (lt_of_heap z5)).trans z5, by rw [← hw6]; exact World.alloc_heap_new w5 _⟩
  have S6 := Lib.hid hS6
  obtain ⟨y0, y1, y2, y3, y4, y5⟩ := cells6 hS6.box
  clear hS6 x3 x4 x5 z3 z4 z5 hxb hzb hb6
  rw [show msgV m0 = .agg #[.int .i64 m0.kind, .int .i64 m0.partner, .int .i64 m0.seq, .int .i64 m0.story, .int .i64 m0.base, .int .i64 m0.version, .string m0.data] from rfl]
  go_wp2_with fail
  obtain ⟨q, hq⟩ : ∃ q, w5.heap.size = q := ⟨_, rfl⟩
  rw [hq] at S6 ⊢
  have HQ := Lib.hid hq
  have HW6 := Lib.hid hw6
  clear hq hw6
  refine (P3.out _).mono ?_
  rintro e _ ⟨rfl, rfl⟩
  go_upto_block 0 with (fail)
  go_cut [39] (fun s39 wx => Hid (BuildSt w q x mA wx))
  case first =>
    have i6 := (HR.out.below S6.out.below).c0
    have hS6 := S6.out
    obtain ⟨a0, a1, a2, a3, a4, a5, a6⟩ := cells7 hS6.msg
    obtain ⟨z0, z1, z2, z3, z4, z5, z6⟩ := frozen7 hS6.msg
    clear hS6
    have hc : c3 = 0 ∨ c3 = 1 ∨ c3 = 2 ∨ c3 = 3 ∨ c3 = 4 ∨ c3 = 5 ∨ c3 = 6 ∨ c3 = 7 := by omega
    clear r3
    rcases hc with rfl | rfl | rfl | rfl | rfl | rfl | rfl | rfl
    · have CD2 := fun W => deliver_any id sq (1 + k2) ⟨#[]⟩ nx W (by decide) (by omega)
      obtain ⟨m1, hm1⟩ : ∃ m, deliverM id sq (1 + k2) ⟨#[]⟩ nx = m := ⟨_, rfl⟩
      rw [hm1] at CD2
      have CDH := Lib.hid CD2
      have HM1 := Lib.hid hm1
      clear CD2 hm1
      go_wp2_with fail
      refine (CDH.out _).mono ?_
      rintro e w7 ⟨rfl, hb7⟩
      have hS7 := S6.out.next hb7
      have S7 := Lib.hid hS7
      clear a0 a1 a2 a3 a4 a5 a6 z0 z1 z2 z3 z4 z5 z6
      obtain ⟨a0, a1, a2, a3, a4, a5, a6⟩ := cells7 hS7.msg
      obtain ⟨z0, z1, z2, z3, z4, z5, z6⟩ := frozen7 hS7.msg
      clear hS7
      rw [show msgV m1 = .agg #[.int .i64 m1.kind, .int .i64 m1.partner, .int .i64 m1.seq, .int .i64 m1.story, .int .i64 m1.base, .int .i64 m1.version, .string m1.data] from rfl]
      go_wp2_with fail
      go_meet
      exact Lib.hid (by rw [← HMA.out]; unfold buildA; rw [if_pos (by decide), HM1.out]; exact S7.out.put m1)
    · have CD2 := fun W => deliver_any id sq (1 + k2) ⟨#[]⟩ nx W (by decide) (by omega)
      obtain ⟨m1, hm1⟩ : ∃ m, deliverM id sq (1 + k2) ⟨#[]⟩ nx = m := ⟨_, rfl⟩
      rw [hm1] at CD2
      have CDH := Lib.hid CD2
      have HM1 := Lib.hid hm1
      clear CD2 hm1
      go_wp2_with fail
      refine (CDH.out _).mono ?_
      rintro e w7 ⟨rfl, hb7⟩
      have hS7 := S6.out.next hb7
      have S7 := Lib.hid hS7
      clear a0 a1 a2 a3 a4 a5 a6 z0 z1 z2 z3 z4 z5 z6
      obtain ⟨a0, a1, a2, a3, a4, a5, a6⟩ := cells7 hS7.msg
      obtain ⟨z0, z1, z2, z3, z4, z5, z6⟩ := frozen7 hS7.msg
      clear hS7
      rw [show msgV m1 = .agg #[.int .i64 m1.kind, .int .i64 m1.partner, .int .i64 m1.seq, .int .i64 m1.story, .int .i64 m1.base, .int .i64 m1.version, .string m1.data] from rfl]
      go_wp2_with fail
      go_meet
      exact Lib.hid (by rw [← HMA.out]; unfold buildA; rw [if_pos (by decide), HM1.out]; exact S7.out.put m1)
    · have CD2 := fun W => deliver_any id sq (1 + k2) ⟨#[]⟩ nx W (by decide) (by omega)
      obtain ⟨m1, hm1⟩ : ∃ m, deliverM id sq (1 + k2) ⟨#[]⟩ nx = m := ⟨_, rfl⟩
      rw [hm1] at CD2
      have CDH := Lib.hid CD2
      have HM1 := Lib.hid hm1
      clear CD2 hm1
      go_wp2_with fail
      refine (CDH.out _).mono ?_
      rintro e w7 ⟨rfl, hb7⟩
      have hS7 := S6.out.next hb7
      have S7 := Lib.hid hS7
      clear a0 a1 a2 a3 a4 a5 a6 z0 z1 z2 z3 z4 z5 z6
      obtain ⟨a0, a1, a2, a3, a4, a5, a6⟩ := cells7 hS7.msg
      obtain ⟨z0, z1, z2, z3, z4, z5, z6⟩ := frozen7 hS7.msg
      clear hS7
      rw [show msgV m1 = .agg #[.int .i64 m1.kind, .int .i64 m1.partner, .int .i64 m1.seq, .int .i64 m1.story, .int .i64 m1.base, .int .i64 m1.version, .string m1.data] from rfl]
      go_wp2_with fail
      go_meet
      exact Lib.hid (by rw [← HMA.out]; unfold buildA; rw [if_pos (by decide), HM1.out]; exact S7.out.put m1)
    · obtain ⟨n5, hn5⟩ : ∃ o, wordsF x.x5 = o := ⟨_, rfl⟩
      have sn5 : n5.size ≤ 132 := by rw [← hn5]; exact wordsF_size _
      have CD2 := fun W => deliver_any id sq (1 + k2) n5 nx W (by omega) (by omega)
      obtain ⟨m1, hm1⟩ : ∃ m, deliverM id sq (1 + k2) n5 nx = m := ⟨_, rfl⟩
      rw [hm1] at CD2
      rw [show msgV m1 = .agg #[.int .i64 m1.kind, .int .i64 m1.partner, .int .i64 m1.seq, .int .i64 m1.story, .int .i64 m1.base, .int .i64 m1.version, .string m1.data] from rfl] at CD2
      have CDH := Lib.hid CD2
      have HM1 := Lib.hid hm1
      have CW5' := CW5.out
      rw [hn5] at CW5'
      have CW5h := Lib.hid CW5'
      have HN5 := Lib.hid hn5
      clear CD2 hm1 CW5' hn5
      go_wp2_with fail
      have hqr : q ≠ r := by have := S6.out.gt; omega
      have hqc : q ≠ w.heap.size := by have := S6.out.gt; omega
      clear a0 a1 a2 a3 a4 a5 a6 z0 z1 z2 z3 z4 z5 z6
      go_region_held3 (fun W' => W'.cell? ⟨r, 0, none⟩ = some (.int .i64 id) ∧ W'.cell? ⟨w.heap.size, 5, none⟩ = some (.int .i64 x.x5)) (first | go_keep | exact keepB (by assumption) (by assumption) | exact keepD (by assumption) hqr hqc)
        (first | (go_at_call 27; refine (CW5h.out _).mono ?_; rintro e w7 ⟨rfl, hb7⟩) | (go_at_call 24; refine (CDH.out _).mono ?_; rintro e w8 ⟨rfl, hb8⟩; have hS8 := (S6.out.drew.next hb7).next hb8; have S8 := Lib.hid hS8; obtain ⟨a0, a1, a2, a3, a4, a5, a6⟩ := cells7 hS8.msg; obtain ⟨z0, z1, z2, z3, z4, z5, z6⟩ := frozen7 hS8.msg; clear hS8))
      go_wp2_with fail
      go_meet
      exact Lib.hid (by rw [← HMA.out]; unfold buildA; rw [if_neg (by decide), if_pos rfl, HN5.out, HM1.out]; exact S8.out.put m1)
    · go_wp2_with fail
      go_meet
      exact Lib.hid (by rw [← HMA.out]; unfold buildA; rw [if_neg (by decide), if_neg (by decide), if_pos rfl]; exact S6.out.set 5 _ _ rfl)
    · go_wp2_with fail
      go_meet
      exact Lib.hid (by rw [← HMA.out]; unfold buildA; rw [if_neg (by decide), if_neg (by decide), if_neg (by decide), if_pos rfl]; exact S6.out.set 4 _ _ rfl)
    · obtain ⟨cut, hcu⟩ : ∃ k : Nat, pickI x.x5 ((m0.data.size : Int) + 1) = k := by
        have := pickI_range x.x5 ((m0.data.size : Int) + 1) (by omega)
        exact ⟨(pickI x.x5 ((m0.data.size : Int) + 1)).toNat, by omega⟩
      have hcr := pickI_range x.x5 ((m0.data.size : Int) + 1) (by omega)
      rw [hcu] at hcr
      have j1 : (0 : Int) ≤ cut := hcr.1
      have j2 : (cut : Int) ≤ m0.data.size := by omega
      have CP := fun W => pick22_any x.x5 ((m0.data.size : Int) + 1) W l5 u5 (by omega) (by omega)
      rw [hcu] at CP
      have CPH := Lib.hid CP
      have HCU := Lib.hid hcu
      clear CP hcu
      go_wp2_with fail
      have ew : IntKind.i64.wrap ((m0.data.size : Int) + 1) = (m0.data.size : Int) + 1 := by unfold IntKind.wrap; simp [IntKind.bits, IntKind.signed]; omega
      go_still_tail 11, (by kernel_rfl)
      still_call ((CPH.out _).mono fun e w'' h => ⟨h.1, h.2.symm⟩)
      repeat still_step
      refine wpStill_nil ?_
      change wpList _ _ _ _ _ w6.drew
      have hS7 := S6.out.drew
      obtain ⟨w7, hw7⟩ : ∃ w7, w6.drew = w7 := ⟨_, rfl⟩
      rw [hw7] at hS7 ⊢
      have S7 := Lib.hid hS7
      clear a0 a1 a2 a3 a4 a5 a6 z0 z1 z2 z3 z4 z5 z6 hw7
      obtain ⟨z0, z1, z2, z3, z4, z5, z6⟩ := frozen7 hS7.msg
      obtain ⟨a0, a1, a2, a3, a4, a5, a6⟩ := cells7 hS7.msg
      clear hS7
      go_wp2_with fail
      go_meet
      exact Lib.hid (by rw [← HMA.out]; unfold buildA; rw [if_neg (by decide), if_neg (by decide), if_neg (by decide), if_neg (by decide), if_pos rfl, HCU.out, Int.toNat_natCast]; exact S7.out.set 6 _ _ rfl)
    · go_wp2_with fail
      go_meet
      exact Lib.hid (by rw [← HMA.out]; unfold buildA; rw [if_neg (by decide), if_neg (by decide), if_neg (by decide), if_neg (by decide), if_neg (by decide)]; exact S6.out)
  case rest =>
    have hS := hcut.out
    obtain ⟨y0, y1, y2, y3, y4, y5⟩ := cells6 hS.box
    have S7 := hcut
    clear hcut hS
    go_wp2_with fail
    refine (P0.out _).mono ?_
    rintro e _ ⟨rfl, rfl⟩
    obtain ⟨w7, hw7⟩ : ∃ w7 : World, w7 = wc := ⟨_, rfl⟩
    rw [← hw7] at S7 y0 y1 y2 y3 y4 y5 ⊢
    clear hw7
    go_upto_block 1 with (fail)
    go_cut [90] (fun s90 wx => Hid (BuildSt w q x mB wx))
    case first =>
      have i7 := (HR.out.below S7.out.below).c0
      have hS7 := S7.out
      obtain ⟨a0, a1, a2, a3, a4, a5, a6⟩ := cells7 hS7.msg
      obtain ⟨z0, z1, z2, z3, z4, z5, z6⟩ := frozen7 hS7.msg
      clear hS7
      have hc : c0 = 0 ∨ c0 = 1 ∨ c0 = 2 ∨ c0 = 3 ∨ c0 = 4 ∨ c0 = 5 ∨ (6 ≤ c0 ∧ c0 < 10) := by omega
      rcases hc with rfl | rfl | rfl | rfl | rfl | rfl | hc
      · go_wp2_with fail
        refine (kill_any id sq (1 + k2) _).mono ?_
        rintro e w8 ⟨rfl, hb8⟩
        have hS8 := S7.out.next hb8
        have S8 := Lib.hid hS8
        clear a0 a1 a2 a3 a4 a5 a6 z0 z1 z2 z3 z4 z5 z6
        obtain ⟨a0, a1, a2, a3, a4, a5, a6⟩ := cells7 hS8.msg
        obtain ⟨z0, z1, z2, z3, z4, z5, z6⟩ := frozen7 hS8.msg
        clear hS8
        rw [show msgV (⟨2, id, sq, 1 + k2, 0, 0, .empty⟩ : Msg) = .agg #[.int .i64 2, .int .i64 id, .int .i64 sq, .int .i64 (1 + k2), .int .i64 0, .int .i64 0, .string .empty] from rfl]
        go_wp2_with fail
        go_meet
        exact Lib.hid (by rw [← HMB.out]; unfold buildB; rw [if_pos (by decide)]; exact S8.out.put ⟨2, id, sq, 1 + k2, 0, 0, .empty⟩)
      · go_wp2_with fail
        refine (kill_any id sq (1 + k2) _).mono ?_
        rintro e w8 ⟨rfl, hb8⟩
        have hS8 := S7.out.next hb8
        have S8 := Lib.hid hS8
        clear a0 a1 a2 a3 a4 a5 a6 z0 z1 z2 z3 z4 z5 z6
        obtain ⟨a0, a1, a2, a3, a4, a5, a6⟩ := cells7 hS8.msg
        obtain ⟨z0, z1, z2, z3, z4, z5, z6⟩ := frozen7 hS8.msg
        clear hS8
        rw [show msgV (⟨2, id, sq, 1 + k2, 0, 0, .empty⟩ : Msg) = .agg #[.int .i64 2, .int .i64 id, .int .i64 sq, .int .i64 (1 + k2), .int .i64 0, .int .i64 0, .string .empty] from rfl]
        go_wp2_with fail
        go_meet
        exact Lib.hid (by rw [← HMB.out]; unfold buildB; rw [if_pos (by decide)]; exact S8.out.put ⟨2, id, sq, 1 + k2, 0, 0, .empty⟩)
      · obtain ⟨n9, hn9⟩ : ∃ k, pickI x.x5 6 = k := ⟨_, rfl⟩
        have hr9 := pickI_range x.x5 6 (by decide)
        rw [hn9] at hr9
        have l9 : 0 ≤ n9 := hr9.1
        have u9' : n9 < 6 := hr9.2
        have CP := fun W => pick22_any x.x5 6 W l5 u5 (by decide) (by decide)
        rw [hn9] at CP
        have CPH := Lib.hid CP
        have HN9 := Lib.hid hn9
        clear CP hn9 hr9
        go_wp2_with fail
        refine (CPH.out _).mono ?_
        rintro e w8 ⟨rfl, rfl⟩
        go_wp2_with fail
        go_meet
        exact Lib.hid (by rw [← HMB.out]; unfold buildB; rw [if_neg (by decide), if_pos rfl, HN9.out]; exact S7.out.set 0 _ _ rfl)
      · obtain ⟨n9, hn9⟩ : ∃ k, pickI x.x5 10 = k := ⟨_, rfl⟩
        have hr9 := pickI_range x.x5 10 (by decide)
        rw [hn9] at hr9
        have l9 : 0 ≤ n9 := hr9.1
        have u9' : n9 < 10 := hr9.2
        have CP := fun W => pick22_any x.x5 10 W l5 u5 (by decide) (by decide)
        rw [hn9] at CP
        have CPH := Lib.hid CP
        have HN9 := Lib.hid hn9
        clear CP hn9 hr9
        go_wp2_with fail
        refine (CPH.out _).mono ?_
        rintro e w8 ⟨rfl, rfl⟩
        go_wp2_with fail
        go_meet
        exact Lib.hid (by rw [← HMB.out]; unfold buildB; rw [if_neg (by decide), if_neg (by decide), if_pos rfl, HN9.out]; exact S7.out.set 1 _ _ rfl)
      · obtain ⟨n9, hn9⟩ : ∃ k, pickI x.x5 66 = k := ⟨_, rfl⟩
        have hr9 := pickI_range x.x5 66 (by decide)
        rw [hn9] at hr9
        have l9 : 0 ≤ n9 := hr9.1
        have u9' : n9 < 66 := hr9.2
        have CP := fun W => pick22_any x.x5 66 W l5 u5 (by decide) (by decide)
        rw [hn9] at CP
        have CPH := Lib.hid CP
        have HN9 := Lib.hid hn9
        clear CP hn9 hr9
        go_wp2_with fail
        refine (CPH.out _).mono ?_
        rintro e w8 ⟨rfl, rfl⟩
        go_wp2_with fail
        go_meet
        exact Lib.hid (by rw [← HMB.out]; unfold buildB; rw [if_neg (by decide), if_neg (by decide), if_neg (by decide), if_pos rfl, HN9.out]; exact S7.out.set 3 _ _ rfl)
      · obtain ⟨n9, hn9⟩ : ∃ k, pickI x.x5 3000 = k := ⟨_, rfl⟩
        have hr9 := pickI_range x.x5 3000 (by decide)
        rw [hn9] at hr9
        have l9 : 0 ≤ n9 := hr9.1
        have u9' : n9 < 3000 := hr9.2
        have CP := fun W => pick22_any x.x5 3000 W l5 u5 (by decide) (by decide)
        rw [hn9] at CP
        have CPH := Lib.hid CP
        have HN9 := Lib.hid hn9
        clear CP hn9 hr9
        go_wp2_with fail
        refine (CPH.out _).mono ?_
        rintro e w8 ⟨rfl, rfl⟩
        go_wp2_with fail
        go_meet
        exact Lib.hid (by rw [← HMB.out]; unfold buildB; rw [if_neg (by decide), if_neg (by decide), if_neg (by decide), if_neg (by decide), if_pos rfl, HN9.out]; exact S7.out.set 2 _ _ rfl)
      · have t0 : (c0 == 0) = false := by simp; omega
        have t1 : (c0 == 1) = false := by simp; omega
        have t2 : (c0 == 2) = false := by simp; omega
        have t3 : (c0 == 3) = false := by simp; omega
        have t4 : (c0 == 4) = false := by simp; omega
        have t5 : (c0 == 5) = false := by simp; omega
        have HC := Lib.hid hc
        clear hc r0
        go_wp2_with fail
        go_meet
        exact Lib.hid (by have h := HC.out; rw [← HMB.out]; unfold buildB; rw [if_neg (by omega), if_neg (by omega), if_neg (by omega), if_neg (by omega), if_neg (by omega)]; exact S7.out)
    case rest =>
      have S8 := hcut
      have hS := hcut.out
      obtain ⟨a0, a1, a2, a3, a4, a5, a6⟩ := cells7 hS.msg
      obtain ⟨z0, z1, z2, z3, z4, z5, z6⟩ := frozen7 hS.res
      have b0 := Lib.cell_of_heap hS.res 0
      have b1 := Lib.cell_of_heap hS.res 1
      have b2 := Lib.cell_of_heap hS.res 2
      have b3 := Lib.cell_of_heap hS.res 3
      have b4 := Lib.cell_of_heap hS.res 4
      have b5 := Lib.cell_of_heap hS.res 5
      have b6 := Lib.cell_of_heap hS.res 6
      simp only [List.getElem?_toArray, List.getElem?_cons_zero, List.getElem?_cons_succ] at b0 b1 b2 b3 b4 b5 b6
      have hB8 := hS.below
      have h7 := set7_same (v0 := .int .i64 mB.kind) (v1 := .int .i64 mB.partner) (v2 := .int .i64 mB.seq) (v3 := .int .i64 mB.story) (v4 := .int .i64 mB.base) (v5 := .int .i64 mB.version) (v6 := .string mB.data) hS.res
      have hBF := (((((((hB8.setCell (p := ⟨w.heap.size + 1, 0, none⟩) (Nat.le_succ _) (.int .i64 mB.kind)).setCell (p := ⟨w.heap.size + 1, 1, none⟩) (Nat.le_succ _) (.int .i64 mB.partner)).setCell (p := ⟨w.heap.size + 1, 2, none⟩) (Nat.le_succ _) (.int .i64 mB.seq)).setCell (p := ⟨w.heap.size + 1, 3, none⟩) (Nat.le_succ _) (.int .i64 mB.story)).setCell (p := ⟨w.heap.size + 1, 4, none⟩) (Nat.le_succ _) (.int .i64 mB.base)).setCell (p := ⟨w.heap.size + 1, 5, none⟩) (Nat.le_succ _) (.int .i64 mB.version)).setCell (p := ⟨w.heap.size + 1, 6, none⟩) (Nat.le_succ _) (.string mB.data))
      have H7 := Lib.hid h7
      have HBF := Lib.hid hBF
      clear hcut hS h7 hBF hB8
      go_wp2_with fail
      obtain ⟨WF, hWF⟩ : ∃ WF, ((((((wc.setCell ⟨w.heap.size + 1, 0, none⟩ (.int .i64 mB.kind)).setCell ⟨w.heap.size + 1, 1, none⟩ (.int .i64 mB.partner)).setCell ⟨w.heap.size + 1, 2, none⟩ (.int .i64 mB.seq)).setCell ⟨w.heap.size + 1, 3, none⟩ (.int .i64 mB.story)).setCell ⟨w.heap.size + 1, 4, none⟩ (.int .i64 mB.base)).setCell ⟨w.heap.size + 1, 5, none⟩ (.int .i64 mB.version)).setCell ⟨w.heap.size + 1, 6, none⟩ (.string mB.data) = WF := ⟨_, rfl⟩
      have h7 := H7.out
      have hBF := HBF.out
      rw [hWF] at h7 hBF
      rw [hWF]
      obtain ⟨f0, f1, f2, f3, f4, f5, f6⟩ := cells7 (m := mB) h7
      exact bodyPost_ret (by simp [results, Tryd.results16, go_sem, f0, f1, f2, f3, f4, f5, f6]; rfl) rfl ⟨rfl, hBF⟩
end Go.Proofs.YtkpgadjhcnkadaaDoor
