/- copydeskref22.Receive computes recvR. -/
import Derived.Test.YtkpgadjhcnkadaaDoorKeep
import Derived.Test.YtkpgadjhcnkadaaDoorMsgRef
import Derived.Test.YtkpgadjhcnkadaaDoorRef19
import Derived.Test.YtkpgadjhcnkadaaDoorRecvFns
import Derived.Test.YtkpgadjhcnkadaaDoorDelivered
set_option linter.unusedSimpArgs false
set_option linter.unusedVariables false
namespace Go.Proofs.YtkpgadjhcnkadaaDoor
open Go.RowKit

theorem cells7 {W : World} {c : Nat} {m : Msg} (h : W.heap[c]? = some (.cells (msgCells m) 33 (0, 0))) : W.cell? ⟨c, 0, none⟩ = some (.int .i64 m.kind) ∧ W.cell? ⟨c, 1, none⟩ = some (.int .i64 m.partner) ∧ W.cell? ⟨c, 2, none⟩ = some (.int .i64 m.seq) ∧ W.cell? ⟨c, 3, none⟩ = some (.int .i64 m.story) ∧ W.cell? ⟨c, 4, none⟩ = some (.int .i64 m.base) ∧ W.cell? ⟨c, 5, none⟩ = some (.int .i64 m.version) ∧ W.cell? ⟨c, 6, none⟩ = some (.string m.data) :=
  ⟨Lib.cell_of_heap h 0, Lib.cell_of_heap h 1, Lib.cell_of_heap h 2, Lib.cell_of_heap h 3, Lib.cell_of_heap h 4, Lib.cell_of_heap h 5, Lib.cell_of_heap h 6⟩
theorem IsR.lt {B r : Nat} {id : Int} {E : List Ent} {w : World} (h : IsR B r id E w) : r < w.heap.size := by
  obtain ⟨v, hrb, _⟩ := h.row
  rcases Nat.lt_or_ge r w.heap.size with h' | h'
  · exact h'
  · simp [Array.getElem?_eq_none h'] at hrb
theorem IsR.c0 {B r : Nat} {id : Int} {E : List Ent} {w : World} (h : IsR B r id E w) : w.cell? ⟨r, 0, none⟩ = some (.int .i64 id) := by
  obtain ⟨v, hrb, _⟩ := h.row
  exact Lib.cell_of_heap hrb 0
theorem IsR.below {B r : Nat} {id : Int} {E : List Ent} {w w' : World} (h : IsR B r id E w) (hb : Below w.heap.size w w') : IsR B r id E w' := by
  obtain ⟨v, hrb, hrow⟩ := h.row
  exact ⟨h.ge, v, (hb.block r h.lt).trans hrb, hrow.kept (row := Option.none) ⟨hb.os, hb.tape, hb.output, hb.size, fun j hj _ => hb.block j hj⟩ (own_or' _)⟩
theorem IsR.drewN {B r : Nat} {id : Int} {E : List Ent} {w : World} (h : IsR B r id E w) (k : Nat) : IsR B r id E (w.drewN k) := ⟨h.ge, h.row⟩
theorem cells4 {W : World} {c : Nat} {x : Ent} (h : W.heap[c]? = some (.cells #[.int .i64 x.story, .int .i64 x.seq, .bool x.has, .string x.text] 59 (0, 0))) : W.cell? ⟨c, 0, none⟩ = some (.int .i64 x.story) ∧ W.cell? ⟨c, 1, none⟩ = some (.int .i64 x.seq) ∧ W.cell? ⟨c, 2, none⟩ = some (.bool x.has) ∧ W.cell? ⟨c, 3, none⟩ = some (.string x.text) :=
  ⟨Lib.cell_of_heap h 0, Lib.cell_of_heap h 1, Lib.cell_of_heap h 2, Lib.cell_of_heap h 3⟩
theorem grown_trans {w w1 w2 : World} {row : Option Nat} (h : Below w.heap.size w w1) (h2 : w1.grownBy w2 row) : w.grownBy w2 row :=
  ⟨h2.os.trans h.os, h2.tape.trans h.tape, h2.output.trans h.output, Nat.le_trans h.size h2.size, fun k hk hne => (h2.block k (Nat.lt_of_lt_of_le hk h.size) hne).trans (h.block k hk)⟩
theorem grown_alloc {w w1 : World} {row : Option Nat} (h : w.grownBy w1 row) (o : Obj) : w.grownBy (w1.alloc o) row :=
  ⟨h.os, h.tape, h.output, by have := h.size; simp; omega, fun k hk hne => by
    rw [← h.block k hk hne]
    exact Below.heap_alloc _ _ _ (Nat.lt_of_lt_of_le hk h.size)⟩
theorem grown_set {w w1 : World} {row : Option Nat} (h : w.grownBy w1 row) {p : Addr} (hp : w.heap.size ≤ p.block) (v : Value) : w.grownBy (w1.setCell p v) row :=
  ⟨h.os, h.tape, h.output, by rw [World.size_setCell]; exact h.size, fun k hk hne => by
    rw [Below.heap_setCell _ _ _ _ (by omega)]
    exact h.block k hk hne⟩
theorem IsR.set {B r : Nat} {id : Int} {E : List Ent} {w : World} (h : IsR B r id E w) {g : Nat} {cs : Array Value} (hg : w.heap[g]? = some (.cells cs 33 (0, 0))) (k : Nat) (u : Value) : IsR B r id E (w.setCell ⟨g, k, none⟩ u) := by
  obtain ⟨v, hrb, h1, h2⟩ := h.row
  have hne : ∀ {j : Nat} {c : Array Value} {T : TypeId}, T ≠ 33 → w.heap[j]? = some (.cells c T (0, 0)) → j ≠ g := fun hT hj e => by
    rw [e, hg] at hj
    simp only [Option.some.injEq, Obj.cells.injEq] at hj
    exact hT hj.2.1.symm
  refine ⟨h.ge, v, ?_, h1, ?_⟩
  · rw [Below.heap_setCell _ _ _ _ (hne (by decide) hrb)]
    exact hrb
  · rcases h2 with h2 | ⟨j, cap, cur, hv, hj, hh, rest⟩
    · exact Or.inl h2
    · exact Or.inr ⟨j, cap, cur, hv, hj, by rw [Below.heap_setCell _ _ _ _ (hne (by decide) hh)]; exact hh, rest⟩
set_option maxRecDepth 100000 in
set_option maxHeartbeats 6400000 in
theorem refRecv_bad {B r : Nat} {id : Int} {E : List Ent} {w : World} (hr : IsR B r id E w) (m : Msg) (hd : m.data.size ≤ 4611686018427387904) (hlen : E.length ≤ 1000) (hv : validM m = false) :
    Calls Tryd.prog 19 #[.pointer (some ⟨r, 0, none⟩), msgV m] w fun e w' => e = .returned (.slice none 0 0) ∧ Below w.heap.size w w' := by
  obtain ⟨wA, hA⟩ : ∃ wA, w.alloc (.cells #[.int .i64 m.kind, .int .i64 m.partner, .int .i64 m.seq, .int .i64 m.story, .int .i64 m.base, .int .i64 m.version, .string m.data] 33) = wA := ⟨_, rfl⟩
  have hBA : Below w.heap.size w wA := by rw [← hA]; exact (Below.refl _ _).alloc (Nat.le_refl _) _
  have hcA : wA.heap[w.heap.size]? = some (.cells (msgCells m) 33 (0, 0)) := by rw [← hA]; exact World.alloc_heap_new w _
  have hrlt := hr.lt
  have CV := Lib.hid (fun W => refValid_any m W hd)
  obtain ⟨c, hc⟩ : ∃ c, w.heap.size = c := ⟨_, rfl⟩
  have hcl : c < wA.heap.size := by rw [← hA, ← hc]; simp
  have HC := Lib.hid hc
  have HA := Lib.hid hA
  have HR := Lib.hid hr
  have HCA := Lib.hid hcA
  clear hA hr hc hcA
  have HM := Lib.hid (show msgV m = .agg #[.int .i64 m.kind, .int .i64 m.partner, .int .i64 m.seq, .int .i64 m.story, .int .i64 m.base, .int .i64 m.version, .string m.data] from rfl)
  rw [HM.out]
  have HV := Lib.hid hv
  clear hv
  go_enter Tryd.func19, Tryd.ntmps19
  go_wp2_with fail
  rw [HA.out, HC.out]
  obtain ⟨a0, a1, a2, a3, a4, a5, a6⟩ := cells7 (by rw [← HC.out]; exact HCA.out : wA.heap[c]? = some (.cells (msgCells m) 33 (0, 0)))
  go_wp2_with fail
  rw [← HM.out]
  refine (CV.out _).mono ?_
  rintro e w1 ⟨rfl, hb1⟩
  rw [HV.out]
  have hB1 := Below_then hBA hb1
  have hr1 := HR.out.below hB1
  have m1 := (hb1.block w.heap.size (by rw [HC.out]; exact hcl)).trans HCA.out
  rw [HC.out] at m1
  have R1 := Lib.hid hr1
  have M1 := Lib.hid m1
  obtain ⟨b0, b1, b2, b3, b4, b5, b6⟩ := cells7 m1
  have c0 := hr1.c0
  clear hr1 m1 a0 a1 a2 a3 a4 a5 a6
  go_wp2_with fail
  go_quiet (fail)
  go_wp2_with fail
  go_ret
  exact ⟨rfl, hB1.trans ⟨rfl, rfl, rfl, Nat.le_refl _, fun _ _ => rfl⟩⟩
set_option maxRecDepth 100000 in
set_option maxHeartbeats 6400000 in
theorem refRecv_other {B r : Nat} {id : Int} {E : List Ent} {w : World} (hr : IsR B r id E w) (m : Msg) (hd : m.data.size ≤ 4611686018427387904) (hlen : E.length ≤ 1000) (hv : validM m = true) (hp : m.partner ≠ id) :
    Calls Tryd.prog 19 #[.pointer (some ⟨r, 0, none⟩), msgV m] w fun e w' => e = .returned (.slice none 0 0) ∧ Below w.heap.size w w' := by
  obtain ⟨wA, hA⟩ : ∃ wA, w.alloc (.cells #[.int .i64 m.kind, .int .i64 m.partner, .int .i64 m.seq, .int .i64 m.story, .int .i64 m.base, .int .i64 m.version, .string m.data] 33) = wA := ⟨_, rfl⟩
  have hBA : Below w.heap.size w wA := by rw [← hA]; exact (Below.refl _ _).alloc (Nat.le_refl _) _
  have hcA : wA.heap[w.heap.size]? = some (.cells (msgCells m) 33 (0, 0)) := by rw [← hA]; exact World.alloc_heap_new w _
  have hrlt := hr.lt
  have CV := Lib.hid (fun W => refValid_any m W hd)
  obtain ⟨c, hc⟩ : ∃ c, w.heap.size = c := ⟨_, rfl⟩
  have hcl : c < wA.heap.size := by rw [← hA, ← hc]; simp
  have HC := Lib.hid hc
  have HA := Lib.hid hA
  have HR := Lib.hid hr
  have HCA := Lib.hid hcA
  clear hA hr hc hcA
  have HM := Lib.hid (show msgV m = .agg #[.int .i64 m.kind, .int .i64 m.partner, .int .i64 m.seq, .int .i64 m.story, .int .i64 m.base, .int .i64 m.version, .string m.data] from rfl)
  rw [HM.out]
  have HV := Lib.hid hv
  have t1 : (m.partner != id) = true := by simpa using hp
  have HP := Lib.hid hp
  clear hv hp
  go_enter Tryd.func19, Tryd.ntmps19
  go_wp2_with fail
  rw [HA.out, HC.out]
  obtain ⟨a0, a1, a2, a3, a4, a5, a6⟩ := cells7 (by rw [← HC.out]; exact HCA.out : wA.heap[c]? = some (.cells (msgCells m) 33 (0, 0)))
  go_wp2_with fail
  rw [← HM.out]
  refine (CV.out _).mono ?_
  rintro e w1 ⟨rfl, hb1⟩
  rw [HV.out]
  have hB1 := Below_then hBA hb1
  have hr1 := HR.out.below hB1
  have m1 := (hb1.block w.heap.size (by rw [HC.out]; exact hcl)).trans HCA.out
  rw [HC.out] at m1
  have R1 := Lib.hid hr1
  have M1 := Lib.hid m1
  obtain ⟨b0, b1, b2, b3, b4, b5, b6⟩ := cells7 m1
  have c0 := hr1.c0
  clear hr1 m1 a0 a1 a2 a3 a4 a5 a6
  go_wp2_with fail
  go_quiet (fail)
  go_wp2_with fail
  go_ret
  exact ⟨rfl, hB1.trans ⟨rfl, rfl, rfl, Nat.le_refl _, fun _ _ => rfl⟩⟩
set_option maxRecDepth 100000 in
set_option maxHeartbeats 6400000 in
theorem refRecv_kind {B r : Nat} {id : Int} {E : List Ent} {w : World} (hr : IsR B r id E w) (m : Msg) (hd : m.data.size ≤ 4611686018427387904) (hlen : E.length ≤ 1000) (hv : validM m = true) (hp : m.partner = id) (hk : m.kind ≠ 1 ∧ m.kind ≠ 2) :
    Calls Tryd.prog 19 #[.pointer (some ⟨r, 0, none⟩), msgV m] w fun e w' => e = .returned (.slice none 0 0) ∧ Below w.heap.size w w' := by
  obtain ⟨wA, hA⟩ : ∃ wA, w.alloc (.cells #[.int .i64 m.kind, .int .i64 m.partner, .int .i64 m.seq, .int .i64 m.story, .int .i64 m.base, .int .i64 m.version, .string m.data] 33) = wA := ⟨_, rfl⟩
  have hBA : Below w.heap.size w wA := by rw [← hA]; exact (Below.refl _ _).alloc (Nat.le_refl _) _
  have hcA : wA.heap[w.heap.size]? = some (.cells (msgCells m) 33 (0, 0)) := by rw [← hA]; exact World.alloc_heap_new w _
  have hrlt := hr.lt
  have CV := Lib.hid (fun W => refValid_any m W hd)
  obtain ⟨c, hc⟩ : ∃ c, w.heap.size = c := ⟨_, rfl⟩
  have hcl : c < wA.heap.size := by rw [← hA, ← hc]; simp
  have HC := Lib.hid hc
  have HA := Lib.hid hA
  have HR := Lib.hid hr
  have HCA := Lib.hid hcA
  clear hA hr hc hcA
  have HM := Lib.hid (show msgV m = .agg #[.int .i64 m.kind, .int .i64 m.partner, .int .i64 m.seq, .int .i64 m.story, .int .i64 m.base, .int .i64 m.version, .string m.data] from rfl)
  rw [HM.out]
  have HV := Lib.hid hv
  have t1 : (m.partner != id) = false := by simpa using hp
  have HP := Lib.hid hp
  have t2 : (m.kind != 1) = true := by simpa using hk.1
  have t3 : (m.kind != 2) = true := by simpa using hk.2
  clear hv hp hk
  go_enter Tryd.func19, Tryd.ntmps19
  go_wp2_with fail
  rw [HA.out, HC.out]
  obtain ⟨a0, a1, a2, a3, a4, a5, a6⟩ := cells7 (by rw [← HC.out]; exact HCA.out : wA.heap[c]? = some (.cells (msgCells m) 33 (0, 0)))
  go_wp2_with fail
  rw [← HM.out]
  refine (CV.out _).mono ?_
  rintro e w1 ⟨rfl, hb1⟩
  rw [HV.out]
  have hB1 := Below_then hBA hb1
  have hr1 := HR.out.below hB1
  have m1 := (hb1.block w.heap.size (by rw [HC.out]; exact hcl)).trans HCA.out
  rw [HC.out] at m1
  have R1 := Lib.hid hr1
  have M1 := Lib.hid m1
  obtain ⟨b0, b1, b2, b3, b4, b5, b6⟩ := cells7 m1
  have c0 := hr1.c0
  clear hr1 m1 a0 a1 a2 a3 a4 a5 a6
  go_wp2_with fail
  go_quiet (fail)
  go_wp2_with fail
  go_ret
  exact ⟨rfl, hB1.trans ⟨rfl, rfl, rfl, Nat.le_refl _, fun _ _ => rfl⟩⟩
set_option maxRecDepth 100000 in
set_option maxHeartbeats 6400000 in
theorem refRecv_late1 {B r : Nat} {id : Int} {E : List Ent} {w : World} (hr : IsR B r id E w) (m : Msg) (hd : m.data.size ≤ 4611686018427387904) (hlen : E.length ≤ 1000) (hv : validM m = true) (hp : m.partner = id) (hk : m.kind = 1) (hl : m.seq < (entryF E m.story).seq) (ht : (entryF E m.story).text.size ≤ 4611686018427387904) :
    Calls Tryd.prog 19 #[.pointer (some ⟨r, 0, none⟩), msgV m] w fun e w' => ∃ v, e = .returned v ∧ IsAns w.heap.size w' v (some (rejM id (entryF E m.story).seq m.story (sumB (entryF E m.story).text))) ∧ Below w.heap.size w w' := by
  obtain ⟨wA, hA⟩ : ∃ wA, w.alloc (.cells #[.int .i64 m.kind, .int .i64 m.partner, .int .i64 m.seq, .int .i64 m.story, .int .i64 m.base, .int .i64 m.version, .string m.data] 33) = wA := ⟨_, rfl⟩
  have hBA : Below w.heap.size w wA := by rw [← hA]; exact (Below.refl _ _).alloc (Nat.le_refl _) _
  have hcA : wA.heap[w.heap.size]? = some (.cells (msgCells m) 33 (0, 0)) := by rw [← hA]; exact World.alloc_heap_new w _
  have hrlt := hr.lt
  have CV := Lib.hid (fun W => refValid_any m W hd)
  obtain ⟨c, hc⟩ : ∃ c, w.heap.size = c := ⟨_, rfl⟩
  have hcl : c < wA.heap.size := by rw [← hA, ← hc]; simp
  have HC := Lib.hid hc
  have HA := Lib.hid hA
  have HR := Lib.hid hr
  have HCA := Lib.hid hcA
  clear hA hr hc hcA
  have HM := Lib.hid (show msgV m = .agg #[.int .i64 m.kind, .int .i64 m.partner, .int .i64 m.seq, .int .i64 m.story, .int .i64 m.base, .int .i64 m.version, .string m.data] from rfl)
  rw [HM.out]
  have HV := Lib.hid hv
  have t1 : (m.partner != id) = false := by simpa using hp
  have HP := Lib.hid hp
  have t2 : (m.kind != 1) = false := by simp [hk]
  have t4 : (m.kind == 2) = false := by simp [hk]
  have HK := Lib.hid hk
  obtain ⟨x, hx⟩ : ∃ x, entryF E m.story = x := ⟨_, rfl⟩
  rw [hx] at hl ht
  try rw [hx]
  obtain ⟨sx, hsx⟩ : ∃ n, sumB x.text = n := ⟨_, rfl⟩
  have CX := Lib.hid (fun W => refSum_is hsx (by omega) W)
  rw [hsx]
  have HSX := Lib.hid hsx
  have t5 : decide (m.seq < x.seq) = true := by simpa using hl
  have HL := Lib.hid hl
  clear hl
  have HX := Lib.hid hx
  clear hv hp hk hx hsx
  go_enter Tryd.func19, Tryd.ntmps19
  go_wp2_with fail
  rw [HA.out, HC.out]
  obtain ⟨a0, a1, a2, a3, a4, a5, a6⟩ := cells7 (by rw [← HC.out]; exact HCA.out : wA.heap[c]? = some (.cells (msgCells m) 33 (0, 0)))
  go_wp2_with fail
  rw [← HM.out]
  refine (CV.out _).mono ?_
  rintro e w1 ⟨rfl, hb1⟩
  rw [HV.out]
  have hB1 := Below_then hBA hb1
  have hr1 := HR.out.below hB1
  have m1 := (hb1.block w.heap.size (by rw [HC.out]; exact hcl)).trans HCA.out
  rw [HC.out] at m1
  have R1 := Lib.hid hr1
  have M1 := Lib.hid m1
  obtain ⟨b0, b1, b2, b3, b4, b5, b6⟩ := cells7 m1
  have c0 := hr1.c0
  clear hr1 m1 a0 a1 a2 a3 a4 a5 a6
  go_wp2_with fail
  go_quiet (fail)
  go_wp2_with fail
  refine (refEntry_any (R1.out.drewN _) m.story hlen).mono ?_
  rintro e w2 ⟨rfl, hb2⟩
  rw [HX.out]
  have hB2 : Below w.heap.size w w2 := Below_then (below_drewN3 hB1 _) hb2
  have hr2 := (R1.out.drewN _).below hb2
  have m2 := (hb2.block c (lt_of_heap M1.out)).trans M1.out
  clear b0 b1 b2 b3 b4 b5 b6 c0
  unfold entV
  obtain ⟨w3, hw3⟩ : ∃ w3, w2.alloc (.cells #[.int .i64 x.story, .int .i64 x.seq, .bool x.has, .string x.text] 59) = w3 := ⟨_, rfl⟩
  have hb3 : Below w2.heap.size w2 w3 := by rw [← hw3]; exact (Below.refl _ _).alloc (Nat.le_refl _) _
  have hB3 := Below_then hB2 hb3
  have hr3 := hr2.below hb3
  have m3 := (hb3.block c (lt_of_heap m2)).trans m2
  have x3 : w3.heap[w2.heap.size]? = some (.cells #[.int .i64 x.story, .int .i64 x.seq, .bool x.has, .string x.text] 59 (0, 0)) := by rw [← hw3]; exact World.alloc_heap_new w2 _
  obtain ⟨a0, a1, a2, a3, a4, a5, a6⟩ := cells7 m3
  obtain ⟨e0, e1, e2, e3⟩ := cells4 x3
  have c3 := hr3.c0
  have hq2 := hB2.size
  have R3 := Lib.hid hr3
  have M3 := Lib.hid m3
  have X3 := Lib.hid x3
  clear hr2 hr3 m2 m3 x3
  go_wp2_with fail
  obtain ⟨q, hq⟩ : ∃ q, w2.heap.size = q := ⟨_, rfl⟩
  rw [hq] at e0 e1 e2 e3 X3
  rw [hq]
  have HQ := Lib.hid hq
  have HW3 := Lib.hid hw3
  clear hq hw3
  go_region_held3 (fun W' => W'.cell? ⟨r, 0, none⟩ = some (.int .i64 id) ∧ W'.cell? ⟨c, 3, none⟩ = some (.int .i64 m.story) ∧ W'.cell? ⟨c, 2, none⟩ = some (.int .i64 m.seq) ∧ W'.cell? ⟨q, 1, none⟩ = some (.int .i64 x.seq) ∧ W'.cell? ⟨q, 3, none⟩ = some (.string x.text)) (first | go_keep)
    (first | (go_at_call 29; refine (CX.out _).mono ?_; rintro e w' ⟨rfl, rfl⟩))
  go_wp2_with fail
  go_ret
  refine ⟨_, rfl, ⟨w3.heap.size, hB3.size, rfl, ?_⟩, (below_drewN3 hB3 _).alloc hB3.size _⟩
  exact (Go.MapKept.heap_alloc _ _).1
set_option maxRecDepth 100000 in
set_option maxHeartbeats 6400000 in
theorem refRecv_late2 {B r : Nat} {id : Int} {E : List Ent} {w : World} (hr : IsR B r id E w) (m : Msg) (hd : m.data.size ≤ 4611686018427387904) (hlen : E.length ≤ 1000) (hv : validM m = true) (hp : m.partner = id) (hk : m.kind = 2) (hl : m.seq < (entryF E m.story).seq) (ht : (entryF E m.story).text.size ≤ 4611686018427387904) :
    Calls Tryd.prog 19 #[.pointer (some ⟨r, 0, none⟩), msgV m] w fun e w' => ∃ v, e = .returned v ∧ IsAns w.heap.size w' v (some (rejM id (entryF E m.story).seq m.story (sumB (entryF E m.story).text))) ∧ Below w.heap.size w w' := by
  obtain ⟨wA, hA⟩ : ∃ wA, w.alloc (.cells #[.int .i64 m.kind, .int .i64 m.partner, .int .i64 m.seq, .int .i64 m.story, .int .i64 m.base, .int .i64 m.version, .string m.data] 33) = wA := ⟨_, rfl⟩
  have hBA : Below w.heap.size w wA := by rw [← hA]; exact (Below.refl _ _).alloc (Nat.le_refl _) _
  have hcA : wA.heap[w.heap.size]? = some (.cells (msgCells m) 33 (0, 0)) := by rw [← hA]; exact World.alloc_heap_new w _
  have hrlt := hr.lt
  have CV := Lib.hid (fun W => refValid_any m W hd)
  obtain ⟨c, hc⟩ : ∃ c, w.heap.size = c := ⟨_, rfl⟩
  have hcl : c < wA.heap.size := by rw [← hA, ← hc]; simp
  have HC := Lib.hid hc
  have HA := Lib.hid hA
  have HR := Lib.hid hr
  have HCA := Lib.hid hcA
  clear hA hr hc hcA
  have HM := Lib.hid (show msgV m = .agg #[.int .i64 m.kind, .int .i64 m.partner, .int .i64 m.seq, .int .i64 m.story, .int .i64 m.base, .int .i64 m.version, .string m.data] from rfl)
  rw [HM.out]
  have HV := Lib.hid hv
  have t1 : (m.partner != id) = false := by simpa using hp
  have HP := Lib.hid hp
  have t2 : (m.kind != 1) = true := by simp [hk]
  have t3 : (m.kind != 2) = false := by simp [hk]
  have t4 : (m.kind == 2) = true := by simp [hk]
  have HK := Lib.hid hk
  obtain ⟨x, hx⟩ : ∃ x, entryF E m.story = x := ⟨_, rfl⟩
  rw [hx] at hl ht
  try rw [hx]
  obtain ⟨sx, hsx⟩ : ∃ n, sumB x.text = n := ⟨_, rfl⟩
  have CX := Lib.hid (fun W => refSum_is hsx (by omega) W)
  rw [hsx]
  have HSX := Lib.hid hsx
  have t5 : decide (m.seq < x.seq) = true := by simpa using hl
  have HL := Lib.hid hl
  clear hl
  have HX := Lib.hid hx
  clear hv hp hk hx hsx
  go_enter Tryd.func19, Tryd.ntmps19
  go_wp2_with fail
  rw [HA.out, HC.out]
  obtain ⟨a0, a1, a2, a3, a4, a5, a6⟩ := cells7 (by rw [← HC.out]; exact HCA.out : wA.heap[c]? = some (.cells (msgCells m) 33 (0, 0)))
  go_wp2_with fail
  rw [← HM.out]
  refine (CV.out _).mono ?_
  rintro e w1 ⟨rfl, hb1⟩
  rw [HV.out]
  have hB1 := Below_then hBA hb1
  have hr1 := HR.out.below hB1
  have m1 := (hb1.block w.heap.size (by rw [HC.out]; exact hcl)).trans HCA.out
  rw [HC.out] at m1
  have R1 := Lib.hid hr1
  have M1 := Lib.hid m1
  obtain ⟨b0, b1, b2, b3, b4, b5, b6⟩ := cells7 m1
  have c0 := hr1.c0
  clear hr1 m1 a0 a1 a2 a3 a4 a5 a6
  go_wp2_with fail
  go_quiet (fail)
  go_wp2_with fail
  refine (refEntry_any (R1.out.drewN _) m.story hlen).mono ?_
  rintro e w2 ⟨rfl, hb2⟩
  rw [HX.out]
  have hB2 : Below w.heap.size w w2 := Below_then (below_drewN3 hB1 _) hb2
  have hr2 := (R1.out.drewN _).below hb2
  have m2 := (hb2.block c (lt_of_heap M1.out)).trans M1.out
  clear b0 b1 b2 b3 b4 b5 b6 c0
  unfold entV
  obtain ⟨w3, hw3⟩ : ∃ w3, w2.alloc (.cells #[.int .i64 x.story, .int .i64 x.seq, .bool x.has, .string x.text] 59) = w3 := ⟨_, rfl⟩
  have hb3 : Below w2.heap.size w2 w3 := by rw [← hw3]; exact (Below.refl _ _).alloc (Nat.le_refl _) _
  have hB3 := Below_then hB2 hb3
  have hr3 := hr2.below hb3
  have m3 := (hb3.block c (lt_of_heap m2)).trans m2
  have x3 : w3.heap[w2.heap.size]? = some (.cells #[.int .i64 x.story, .int .i64 x.seq, .bool x.has, .string x.text] 59 (0, 0)) := by rw [← hw3]; exact World.alloc_heap_new w2 _
  obtain ⟨a0, a1, a2, a3, a4, a5, a6⟩ := cells7 m3
  obtain ⟨e0, e1, e2, e3⟩ := cells4 x3
  have c3 := hr3.c0
  have hq2 := hB2.size
  have R3 := Lib.hid hr3
  have M3 := Lib.hid m3
  have X3 := Lib.hid x3
  clear hr2 hr3 m2 m3 x3
  go_wp2_with fail
  obtain ⟨q, hq⟩ : ∃ q, w2.heap.size = q := ⟨_, rfl⟩
  rw [hq] at e0 e1 e2 e3 X3
  rw [hq]
  have HQ := Lib.hid hq
  have HW3 := Lib.hid hw3
  clear hq hw3
  go_region_held3 (fun W' => W'.cell? ⟨r, 0, none⟩ = some (.int .i64 id) ∧ W'.cell? ⟨c, 3, none⟩ = some (.int .i64 m.story) ∧ W'.cell? ⟨c, 2, none⟩ = some (.int .i64 m.seq) ∧ W'.cell? ⟨q, 1, none⟩ = some (.int .i64 x.seq) ∧ W'.cell? ⟨q, 3, none⟩ = some (.string x.text)) (first | go_keep)
    (first | (go_at_call 29; refine (CX.out _).mono ?_; rintro e w' ⟨rfl, rfl⟩))
  go_wp2_with fail
  go_ret
  refine ⟨_, rfl, ⟨w3.heap.size, hB3.size, rfl, ?_⟩, (below_drewN3 hB3 _).alloc hB3.size _⟩
  exact (Go.MapKept.heap_alloc _ _).1
set_option maxRecDepth 100000 in
set_option maxHeartbeats 6400000 in
theorem refRecv_same1 {B r : Nat} {id : Int} {E : List Ent} {w : World} (hr : IsR B r id E w) (m : Msg) (hd : m.data.size ≤ 4611686018427387904) (hlen : E.length ≤ 1000) (hv : validM m = true) (hp : m.partner = id) (hk : m.kind = 1) (hl : m.seq = (entryF E m.story).seq) (ht : (entryF E m.story).text.size ≤ 4611686018427387904) :
    Calls Tryd.prog 19 #[.pointer (some ⟨r, 0, none⟩), msgV m] w fun e w' => ∃ v, e = .returned v ∧ IsAns w.heap.size w' v (some (ackM id m.seq m.story (sumB (entryF E m.story).text))) ∧ Below w.heap.size w w' := by
  obtain ⟨wA, hA⟩ : ∃ wA, w.alloc (.cells #[.int .i64 m.kind, .int .i64 m.partner, .int .i64 m.seq, .int .i64 m.story, .int .i64 m.base, .int .i64 m.version, .string m.data] 33) = wA := ⟨_, rfl⟩
  have hBA : Below w.heap.size w wA := by rw [← hA]; exact (Below.refl _ _).alloc (Nat.le_refl _) _
  have hcA : wA.heap[w.heap.size]? = some (.cells (msgCells m) 33 (0, 0)) := by rw [← hA]; exact World.alloc_heap_new w _
  have hrlt := hr.lt
  have CV := Lib.hid (fun W => refValid_any m W hd)
  obtain ⟨c, hc⟩ : ∃ c, w.heap.size = c := ⟨_, rfl⟩
  have hcl : c < wA.heap.size := by rw [← hA, ← hc]; simp
  have HC := Lib.hid hc
  have HA := Lib.hid hA
  have HR := Lib.hid hr
  have HCA := Lib.hid hcA
  clear hA hr hc hcA
  have HM := Lib.hid (show msgV m = .agg #[.int .i64 m.kind, .int .i64 m.partner, .int .i64 m.seq, .int .i64 m.story, .int .i64 m.base, .int .i64 m.version, .string m.data] from rfl)
  rw [HM.out]
  have HV := Lib.hid hv
  have t1 : (m.partner != id) = false := by simpa using hp
  have HP := Lib.hid hp
  have t2 : (m.kind != 1) = false := by simp [hk]
  have t4 : (m.kind == 2) = false := by simp [hk]
  have HK := Lib.hid hk
  obtain ⟨x, hx⟩ : ∃ x, entryF E m.story = x := ⟨_, rfl⟩
  rw [hx] at hl ht
  try rw [hx]
  obtain ⟨sx, hsx⟩ : ∃ n, sumB x.text = n := ⟨_, rfl⟩
  have CX := Lib.hid (fun W => refSum_is hsx (by omega) W)
  rw [hsx]
  have HSX := Lib.hid hsx
  have t5 : decide (m.seq < x.seq) = false := by simp; omega
  have t6 : (m.seq == x.seq) = true := by simpa using hl
  have HL := Lib.hid hl
  clear hl
  have HX := Lib.hid hx
  clear hv hp hk hx hsx
  go_enter Tryd.func19, Tryd.ntmps19
  go_wp2_with fail
  rw [HA.out, HC.out]
  obtain ⟨a0, a1, a2, a3, a4, a5, a6⟩ := cells7 (by rw [← HC.out]; exact HCA.out : wA.heap[c]? = some (.cells (msgCells m) 33 (0, 0)))
  go_wp2_with fail
  rw [← HM.out]
  refine (CV.out _).mono ?_
  rintro e w1 ⟨rfl, hb1⟩
  rw [HV.out]
  have hB1 := Below_then hBA hb1
  have hr1 := HR.out.below hB1
  have m1 := (hb1.block w.heap.size (by rw [HC.out]; exact hcl)).trans HCA.out
  rw [HC.out] at m1
  have R1 := Lib.hid hr1
  have M1 := Lib.hid m1
  obtain ⟨b0, b1, b2, b3, b4, b5, b6⟩ := cells7 m1
  have c0 := hr1.c0
  clear hr1 m1 a0 a1 a2 a3 a4 a5 a6
  go_wp2_with fail
  go_quiet (fail)
  go_wp2_with fail
  refine (refEntry_any (R1.out.drewN _) m.story hlen).mono ?_
  rintro e w2 ⟨rfl, hb2⟩
  rw [HX.out]
  have hB2 : Below w.heap.size w w2 := Below_then (below_drewN3 hB1 _) hb2
  have hr2 := (R1.out.drewN _).below hb2
  have m2 := (hb2.block c (lt_of_heap M1.out)).trans M1.out
  clear b0 b1 b2 b3 b4 b5 b6 c0
  unfold entV
  obtain ⟨w3, hw3⟩ : ∃ w3, w2.alloc (.cells #[.int .i64 x.story, .int .i64 x.seq, .bool x.has, .string x.text] 59) = w3 := ⟨_, rfl⟩
  have hb3 : Below w2.heap.size w2 w3 := by rw [← hw3]; exact (Below.refl _ _).alloc (Nat.le_refl _) _
  have hB3 := Below_then hB2 hb3
  have hr3 := hr2.below hb3
  have m3 := (hb3.block c (lt_of_heap m2)).trans m2
  have x3 : w3.heap[w2.heap.size]? = some (.cells #[.int .i64 x.story, .int .i64 x.seq, .bool x.has, .string x.text] 59 (0, 0)) := by rw [← hw3]; exact World.alloc_heap_new w2 _
  obtain ⟨a0, a1, a2, a3, a4, a5, a6⟩ := cells7 m3
  obtain ⟨e0, e1, e2, e3⟩ := cells4 x3
  have c3 := hr3.c0
  have hq2 := hB2.size
  have R3 := Lib.hid hr3
  have M3 := Lib.hid m3
  have X3 := Lib.hid x3
  clear hr2 hr3 m2 m3 x3
  go_wp2_with fail
  obtain ⟨q, hq⟩ : ∃ q, w2.heap.size = q := ⟨_, rfl⟩
  rw [hq] at e0 e1 e2 e3 X3
  rw [hq]
  have HQ := Lib.hid hq
  have HW3 := Lib.hid hw3
  clear hq hw3
  go_region_held3 (fun W' => W'.cell? ⟨r, 0, none⟩ = some (.int .i64 id) ∧ W'.cell? ⟨c, 3, none⟩ = some (.int .i64 m.story) ∧ W'.cell? ⟨c, 2, none⟩ = some (.int .i64 m.seq)) (first | go_keep) (first | fail)
  obtain ⟨w4, hw4⟩ : ∃ w4, (w3.alloc (.cells #[.int .i64 3, .int .i64 id, .int .i64 m.seq, .int .i64 m.story, .int .i64 0, .int .i64 0, .string ⟨#[]⟩] 33)).drew = w4 := ⟨_, rfl⟩
  have hb4 : Below w3.heap.size w3 w4 := by
    rw [← hw4]
    have := (Below.refl w3.heap.size w3).alloc (Nat.le_refl _) (.cells #[.int .i64 3, .int .i64 id, .int .i64 m.seq, .int .i64 m.story, .int .i64 0, .int .i64 0, .string ⟨#[]⟩] 33)
    exact ⟨this.os, this.tape, this.output, this.size, this.block⟩
  have hB4 := Below_then hB3 hb4
  have g4 : w4.heap[w3.heap.size]? = some (.cells #[.int .i64 3, .int .i64 id, .int .i64 m.seq, .int .i64 m.story, .int .i64 0, .int .i64 0, .string ⟨#[]⟩] 33 (0, 0)) := by rw [← hw4]; exact World.alloc_heap_new w3 _
  have hr4 := R3.out.below hb4
  have m4 := (hb4.block c (lt_of_heap M3.out)).trans M3.out
  have x4 := (hb4.block q (lt_of_heap X3.out)).trans X3.out
  clear a0 a1 a2 a3 a4 a5 a6 e0 e1 e2 e3 c3
  obtain ⟨a0, a1, a2, a3, a4, a5, a6⟩ := cells7 m4
  obtain ⟨e0, e1, e2, e3⟩ := cells4 x4
  have c4 := hr4.c0
  have R4 := Lib.hid hr4
  have M4 := Lib.hid m4
  have X4 := Lib.hid x4
  have hgB := Lib.hid hB3.size
  have hgr := Lib.hid (show w3.heap.size ≠ r from fun e => by have := R3.out.lt; omega)
  have hcg := Lib.hid (show c < w3.heap.size from lt_of_heap M3.out)
  have hqg := Lib.hid (show q < w3.heap.size from lt_of_heap X3.out)
  rw [hw4]
  clear hr4 m4 x4 hw4
  obtain ⟨g, hg⟩ : ∃ g, w3.heap.size = g := ⟨_, rfl⟩
  rw [hg] at g4 hgB hgr hcg hqg ⊢
  have G4 := Lib.hid g4
  have k0 := Lib.cell_of_heap g4 0
  have k1 := Lib.cell_of_heap g4 1
  have k2 := Lib.cell_of_heap g4 2
  have k3 := Lib.cell_of_heap g4 3
  have k4 := Lib.cell_of_heap g4 4
  have k5 := Lib.cell_of_heap g4 5
  have k6 := Lib.cell_of_heap g4 6
  have z5 := Lib.frozen_of_heap g4 5
  simp only [List.getElem?_toArray, List.getElem?_cons_zero, List.getElem?_cons_succ] at k0 k1 k2 k3 k4 k5 k6
  have HG := Lib.hid hg
  clear g4 hg hb4
  go_wp2_with fail
  refine (CX.out _).mono ?_
  rintro e w' ⟨rfl, rfl⟩
  go_wp2_with fail
  go_ret
  have hBF := hB4.setCell (p := ⟨g, 5, none⟩) hgB.out (.int .i64 sx)
  have hal := (Go.MapKept.heap_alloc (w4.setCell ⟨g, 5, none⟩ (.int .i64 sx)) (.cells (msgCells (ackM id m.seq m.story sx)) 33)).1
  rw [World.size_setCell] at hal
  exact ⟨_, rfl, ⟨w4.heap.size, hB4.size, rfl, hal⟩, hBF.alloc hBF.size _⟩
set_option maxRecDepth 100000 in
set_option maxHeartbeats 6400000 in
theorem refRecv_same2 {B r : Nat} {id : Int} {E : List Ent} {w : World} (hr : IsR B r id E w) (m : Msg) (hd : m.data.size ≤ 4611686018427387904) (hlen : E.length ≤ 1000) (hv : validM m = true) (hp : m.partner = id) (hk : m.kind = 2) (hl : m.seq = (entryF E m.story).seq) (ht : (entryF E m.story).text.size ≤ 4611686018427387904) :
    Calls Tryd.prog 19 #[.pointer (some ⟨r, 0, none⟩), msgV m] w fun e w' => ∃ v, e = .returned v ∧ IsAns w.heap.size w' v (some (ackM id m.seq m.story (sumB (entryF E m.story).text))) ∧ Below w.heap.size w w' := by
  obtain ⟨wA, hA⟩ : ∃ wA, w.alloc (.cells #[.int .i64 m.kind, .int .i64 m.partner, .int .i64 m.seq, .int .i64 m.story, .int .i64 m.base, .int .i64 m.version, .string m.data] 33) = wA := ⟨_, rfl⟩
  have hBA : Below w.heap.size w wA := by rw [← hA]; exact (Below.refl _ _).alloc (Nat.le_refl _) _
  have hcA : wA.heap[w.heap.size]? = some (.cells (msgCells m) 33 (0, 0)) := by rw [← hA]; exact World.alloc_heap_new w _
  have hrlt := hr.lt
  have CV := Lib.hid (fun W => refValid_any m W hd)
  obtain ⟨c, hc⟩ : ∃ c, w.heap.size = c := ⟨_, rfl⟩
  have hcl : c < wA.heap.size := by rw [← hA, ← hc]; simp
  have HC := Lib.hid hc
  have HA := Lib.hid hA
  have HR := Lib.hid hr
  have HCA := Lib.hid hcA
  clear hA hr hc hcA
  have HM := Lib.hid (show msgV m = .agg #[.int .i64 m.kind, .int .i64 m.partner, .int .i64 m.seq, .int .i64 m.story, .int .i64 m.base, .int .i64 m.version, .string m.data] from rfl)
  rw [HM.out]
  have HV := Lib.hid hv
  have t1 : (m.partner != id) = false := by simpa using hp
  have HP := Lib.hid hp
  have t2 : (m.kind != 1) = true := by simp [hk]
  have t3 : (m.kind != 2) = false := by simp [hk]
  have t4 : (m.kind == 2) = true := by simp [hk]
  have HK := Lib.hid hk
  obtain ⟨x, hx⟩ : ∃ x, entryF E m.story = x := ⟨_, rfl⟩
  rw [hx] at hl ht
  try rw [hx]
  obtain ⟨sx, hsx⟩ : ∃ n, sumB x.text = n := ⟨_, rfl⟩
  have CX := Lib.hid (fun W => refSum_is hsx (by omega) W)
  rw [hsx]
  have HSX := Lib.hid hsx
  have t5 : decide (m.seq < x.seq) = false := by simp; omega
  have t6 : (m.seq == x.seq) = true := by simpa using hl
  have HL := Lib.hid hl
  clear hl
  have HX := Lib.hid hx
  clear hv hp hk hx hsx
  go_enter Tryd.func19, Tryd.ntmps19
  go_wp2_with fail
  rw [HA.out, HC.out]
  obtain ⟨a0, a1, a2, a3, a4, a5, a6⟩ := cells7 (by rw [← HC.out]; exact HCA.out : wA.heap[c]? = some (.cells (msgCells m) 33 (0, 0)))
  go_wp2_with fail
  rw [← HM.out]
  refine (CV.out _).mono ?_
  rintro e w1 ⟨rfl, hb1⟩
  rw [HV.out]
  have hB1 := Below_then hBA hb1
  have hr1 := HR.out.below hB1
  have m1 := (hb1.block w.heap.size (by rw [HC.out]; exact hcl)).trans HCA.out
  rw [HC.out] at m1
  have R1 := Lib.hid hr1
  have M1 := Lib.hid m1
  obtain ⟨b0, b1, b2, b3, b4, b5, b6⟩ := cells7 m1
  have c0 := hr1.c0
  clear hr1 m1 a0 a1 a2 a3 a4 a5 a6
  go_wp2_with fail
  go_quiet (fail)
  go_wp2_with fail
  refine (refEntry_any (R1.out.drewN _) m.story hlen).mono ?_
  rintro e w2 ⟨rfl, hb2⟩
  rw [HX.out]
  have hB2 : Below w.heap.size w w2 := Below_then (below_drewN3 hB1 _) hb2
  have hr2 := (R1.out.drewN _).below hb2
  have m2 := (hb2.block c (lt_of_heap M1.out)).trans M1.out
  clear b0 b1 b2 b3 b4 b5 b6 c0
  unfold entV
  obtain ⟨w3, hw3⟩ : ∃ w3, w2.alloc (.cells #[.int .i64 x.story, .int .i64 x.seq, .bool x.has, .string x.text] 59) = w3 := ⟨_, rfl⟩
  have hb3 : Below w2.heap.size w2 w3 := by rw [← hw3]; exact (Below.refl _ _).alloc (Nat.le_refl _) _
  have hB3 := Below_then hB2 hb3
  have hr3 := hr2.below hb3
  have m3 := (hb3.block c (lt_of_heap m2)).trans m2
  have x3 : w3.heap[w2.heap.size]? = some (.cells #[.int .i64 x.story, .int .i64 x.seq, .bool x.has, .string x.text] 59 (0, 0)) := by rw [← hw3]; exact World.alloc_heap_new w2 _
  obtain ⟨a0, a1, a2, a3, a4, a5, a6⟩ := cells7 m3
  obtain ⟨e0, e1, e2, e3⟩ := cells4 x3
  have c3 := hr3.c0
  have hq2 := hB2.size
  have R3 := Lib.hid hr3
  have M3 := Lib.hid m3
  have X3 := Lib.hid x3
  clear hr2 hr3 m2 m3 x3
  go_wp2_with fail
  obtain ⟨q, hq⟩ : ∃ q, w2.heap.size = q := ⟨_, rfl⟩
  rw [hq] at e0 e1 e2 e3 X3
  rw [hq]
  have HQ := Lib.hid hq
  have HW3 := Lib.hid hw3
  clear hq hw3
  go_region_held3 (fun W' => W'.cell? ⟨r, 0, none⟩ = some (.int .i64 id) ∧ W'.cell? ⟨c, 3, none⟩ = some (.int .i64 m.story) ∧ W'.cell? ⟨c, 2, none⟩ = some (.int .i64 m.seq)) (first | go_keep) (first | fail)
  obtain ⟨w4, hw4⟩ : ∃ w4, (w3.alloc (.cells #[.int .i64 3, .int .i64 id, .int .i64 m.seq, .int .i64 m.story, .int .i64 0, .int .i64 0, .string ⟨#[]⟩] 33)).drew = w4 := ⟨_, rfl⟩
  have hb4 : Below w3.heap.size w3 w4 := by
    rw [← hw4]
    have := (Below.refl w3.heap.size w3).alloc (Nat.le_refl _) (.cells #[.int .i64 3, .int .i64 id, .int .i64 m.seq, .int .i64 m.story, .int .i64 0, .int .i64 0, .string ⟨#[]⟩] 33)
    exact ⟨this.os, this.tape, this.output, this.size, this.block⟩
  have hB4 := Below_then hB3 hb4
  have g4 : w4.heap[w3.heap.size]? = some (.cells #[.int .i64 3, .int .i64 id, .int .i64 m.seq, .int .i64 m.story, .int .i64 0, .int .i64 0, .string ⟨#[]⟩] 33 (0, 0)) := by rw [← hw4]; exact World.alloc_heap_new w3 _
  have hr4 := R3.out.below hb4
  have m4 := (hb4.block c (lt_of_heap M3.out)).trans M3.out
  have x4 := (hb4.block q (lt_of_heap X3.out)).trans X3.out
  clear a0 a1 a2 a3 a4 a5 a6 e0 e1 e2 e3 c3
  obtain ⟨a0, a1, a2, a3, a4, a5, a6⟩ := cells7 m4
  obtain ⟨e0, e1, e2, e3⟩ := cells4 x4
  have c4 := hr4.c0
  have R4 := Lib.hid hr4
  have M4 := Lib.hid m4
  have X4 := Lib.hid x4
  have hgB := Lib.hid hB3.size
  have hgr := Lib.hid (show w3.heap.size ≠ r from fun e => by have := R3.out.lt; omega)
  have hcg := Lib.hid (show c < w3.heap.size from lt_of_heap M3.out)
  have hqg := Lib.hid (show q < w3.heap.size from lt_of_heap X3.out)
  rw [hw4]
  clear hr4 m4 x4 hw4
  obtain ⟨g, hg⟩ : ∃ g, w3.heap.size = g := ⟨_, rfl⟩
  rw [hg] at g4 hgB hgr hcg hqg ⊢
  have G4 := Lib.hid g4
  have k0 := Lib.cell_of_heap g4 0
  have k1 := Lib.cell_of_heap g4 1
  have k2 := Lib.cell_of_heap g4 2
  have k3 := Lib.cell_of_heap g4 3
  have k4 := Lib.cell_of_heap g4 4
  have k5 := Lib.cell_of_heap g4 5
  have k6 := Lib.cell_of_heap g4 6
  have z5 := Lib.frozen_of_heap g4 5
  simp only [List.getElem?_toArray, List.getElem?_cons_zero, List.getElem?_cons_succ] at k0 k1 k2 k3 k4 k5 k6
  have HG := Lib.hid hg
  clear g4 hg hb4
  go_wp2_with fail
  refine (CX.out _).mono ?_
  rintro e w' ⟨rfl, rfl⟩
  go_wp2_with fail
  go_ret
  have hBF := hB4.setCell (p := ⟨g, 5, none⟩) hgB.out (.int .i64 sx)
  have hal := (Go.MapKept.heap_alloc (w4.setCell ⟨g, 5, none⟩ (.int .i64 sx)) (.cells (msgCells (ackM id m.seq m.story sx)) 33)).1
  rw [World.size_setCell] at hal
  exact ⟨_, rfl, ⟨w4.heap.size, hB4.size, rfl, hal⟩, hBF.alloc hBF.size _⟩
set_option maxRecDepth 100000 in
set_option maxHeartbeats 6400000 in
theorem refRecv_kill {B r : Nat} {id : Int} {E : List Ent} {w : World} (hr : IsR B r id E w) (m : Msg) (hd : m.data.size ≤ 4611686018427387904) (hlen : E.length ≤ 1000) (hBw : B ≤ w.heap.size) (hv : validM m = true) (hp : m.partner = id) (hk : m.kind = 2) (hl : (entryF E m.story).seq < m.seq) (ht : (entryF E m.story).text.size ≤ 4611686018427387904) :
    Calls Tryd.prog 19 #[.pointer (some ⟨r, 0, none⟩), msgV m] w fun e w' => ∃ v, e = .returned v ∧ IsAns w.heap.size w' v (some (ackM id m.seq m.story 0)) ∧ IsR B r id (keepF E ⟨m.story, m.seq, false, .empty⟩) w' ∧ w.grownBy w' (some r) := by
  obtain ⟨wA, hA⟩ : ∃ wA, w.alloc (.cells #[.int .i64 m.kind, .int .i64 m.partner, .int .i64 m.seq, .int .i64 m.story, .int .i64 m.base, .int .i64 m.version, .string m.data] 33) = wA := ⟨_, rfl⟩
  have hBA : Below w.heap.size w wA := by rw [← hA]; exact (Below.refl _ _).alloc (Nat.le_refl _) _
  have hcA : wA.heap[w.heap.size]? = some (.cells (msgCells m) 33 (0, 0)) := by rw [← hA]; exact World.alloc_heap_new w _
  have hrlt := hr.lt
  have CV := Lib.hid (fun W => refValid_any m W hd)
  obtain ⟨c, hc⟩ : ∃ c, w.heap.size = c := ⟨_, rfl⟩
  have hcl : c < wA.heap.size := by rw [← hA, ← hc]; simp
  have HC := Lib.hid hc
  have HA := Lib.hid hA
  have HR := Lib.hid hr
  have HCA := Lib.hid hcA
  clear hA hr hc hcA
  have HM := Lib.hid (show msgV m = .agg #[.int .i64 m.kind, .int .i64 m.partner, .int .i64 m.seq, .int .i64 m.story, .int .i64 m.base, .int .i64 m.version, .string m.data] from rfl)
  rw [HM.out]
  have HV := Lib.hid hv
  have t1 : (m.partner != id) = false := by simpa using hp
  have HP := Lib.hid hp
  have t2 : (m.kind != 1) = true := by simp [hk]
  have t3 : (m.kind != 2) = false := by simp [hk]
  have t4 : (m.kind == 2) = true := by simp [hk]
  have HK := Lib.hid hk
  obtain ⟨x, hx⟩ : ∃ x, entryF E m.story = x := ⟨_, rfl⟩
  rw [hx] at hl ht
  try rw [hx]
  obtain ⟨sx, hsx⟩ : ∃ n, sumB x.text = n := ⟨_, rfl⟩
  have CX := Lib.hid (fun W => refSum_is hsx (by omega) W)
  have HSX := Lib.hid hsx
  have t5 : decide (m.seq < x.seq) = false := by simp; omega
  have t6 : (m.seq == x.seq) = false := by simp; omega
  have HL := Lib.hid hl
  clear hl
  have HX := Lib.hid hx
  clear hv hp hk hx hsx
  go_enter Tryd.func19, Tryd.ntmps19
  go_wp2_with fail
  rw [HA.out, HC.out]
  obtain ⟨a0, a1, a2, a3, a4, a5, a6⟩ := cells7 (by rw [← HC.out]; exact HCA.out : wA.heap[c]? = some (.cells (msgCells m) 33 (0, 0)))
  go_wp2_with fail
  rw [← HM.out]
  refine (CV.out _).mono ?_
  rintro e w1 ⟨rfl, hb1⟩
  rw [HV.out]
  have hB1 := Below_then hBA hb1
  have hr1 := HR.out.below hB1
  have m1 := (hb1.block w.heap.size (by rw [HC.out]; exact hcl)).trans HCA.out
  rw [HC.out] at m1
  have R1 := Lib.hid hr1
  have M1 := Lib.hid m1
  obtain ⟨b0, b1, b2, b3, b4, b5, b6⟩ := cells7 m1
  have c0 := hr1.c0
  clear hr1 m1 a0 a1 a2 a3 a4 a5 a6
  go_wp2_with fail
  go_quiet (fail)
  go_wp2_with fail
  refine (refEntry_any (R1.out.drewN _) m.story hlen).mono ?_
  rintro e w2 ⟨rfl, hb2⟩
  rw [HX.out]
  have hB2 : Below w.heap.size w w2 := Below_then (below_drewN3 hB1 _) hb2
  have hr2 := (R1.out.drewN _).below hb2
  have m2 := (hb2.block c (lt_of_heap M1.out)).trans M1.out
  clear b0 b1 b2 b3 b4 b5 b6 c0
  unfold entV
  obtain ⟨w3, hw3⟩ : ∃ w3, w2.alloc (.cells #[.int .i64 x.story, .int .i64 x.seq, .bool x.has, .string x.text] 59) = w3 := ⟨_, rfl⟩
  have hb3 : Below w2.heap.size w2 w3 := by rw [← hw3]; exact (Below.refl _ _).alloc (Nat.le_refl _) _
  have hB3 := Below_then hB2 hb3
  have hr3 := hr2.below hb3
  have m3 := (hb3.block c (lt_of_heap m2)).trans m2
  have x3 : w3.heap[w2.heap.size]? = some (.cells #[.int .i64 x.story, .int .i64 x.seq, .bool x.has, .string x.text] 59 (0, 0)) := by rw [← hw3]; exact World.alloc_heap_new w2 _
  obtain ⟨a0, a1, a2, a3, a4, a5, a6⟩ := cells7 m3
  obtain ⟨e0, e1, e2, e3⟩ := cells4 x3
  have c3 := hr3.c0
  have hq2 := hB2.size
  have R3 := Lib.hid hr3
  have M3 := Lib.hid m3
  have X3 := Lib.hid x3
  clear hr2 hr3 m2 m3 x3
  go_wp2_with fail
  obtain ⟨q, hq⟩ : ∃ q, w2.heap.size = q := ⟨_, rfl⟩
  rw [hq] at e0 e1 e2 e3 X3
  rw [hq]
  have HQ := Lib.hid hq
  have HW3 := Lib.hid hw3
  clear hq hw3
  go_region_held3 (fun W' => W'.cell? ⟨r, 0, none⟩ = some (.int .i64 id) ∧ W'.cell? ⟨c, 3, none⟩ = some (.int .i64 m.story) ∧ W'.cell? ⟨c, 2, none⟩ = some (.int .i64 m.seq)) (first | go_keep) (first | fail)
  obtain ⟨w4, hw4⟩ : ∃ w4, (w3.alloc (.cells #[.int .i64 3, .int .i64 id, .int .i64 m.seq, .int .i64 m.story, .int .i64 0, .int .i64 0, .string ⟨#[]⟩] 33)).drew = w4 := ⟨_, rfl⟩
  have hb4 : Below w3.heap.size w3 w4 := by
    rw [← hw4]
    have := (Below.refl w3.heap.size w3).alloc (Nat.le_refl _) (.cells #[.int .i64 3, .int .i64 id, .int .i64 m.seq, .int .i64 m.story, .int .i64 0, .int .i64 0, .string ⟨#[]⟩] 33)
    exact ⟨this.os, this.tape, this.output, this.size, this.block⟩
  have hB4 := Below_then hB3 hb4
  have g4 : w4.heap[w3.heap.size]? = some (.cells #[.int .i64 3, .int .i64 id, .int .i64 m.seq, .int .i64 m.story, .int .i64 0, .int .i64 0, .string ⟨#[]⟩] 33 (0, 0)) := by rw [← hw4]; exact World.alloc_heap_new w3 _
  have hr4 := R3.out.below hb4
  have m4 := (hb4.block c (lt_of_heap M3.out)).trans M3.out
  have x4 := (hb4.block q (lt_of_heap X3.out)).trans X3.out
  clear a0 a1 a2 a3 a4 a5 a6 e0 e1 e2 e3 c3
  obtain ⟨a0, a1, a2, a3, a4, a5, a6⟩ := cells7 m4
  obtain ⟨e0, e1, e2, e3⟩ := cells4 x4
  have c4 := hr4.c0
  have R4 := Lib.hid hr4
  have M4 := Lib.hid m4
  have X4 := Lib.hid x4
  have hgB := Lib.hid hB3.size
  have hgr := Lib.hid (show w3.heap.size ≠ r from fun e => by have := R3.out.lt; omega)
  have hcg := Lib.hid (show c < w3.heap.size from lt_of_heap M3.out)
  have hqg := Lib.hid (show q < w3.heap.size from lt_of_heap X3.out)
  rw [hw4]
  clear hr4 m4 x4 hw4
  obtain ⟨g, hg⟩ : ∃ g, w3.heap.size = g := ⟨_, rfl⟩
  rw [hg] at g4 hgB hgr hcg hqg ⊢
  have G4 := Lib.hid g4
  have k0 := Lib.cell_of_heap g4 0
  have k1 := Lib.cell_of_heap g4 1
  have k2 := Lib.cell_of_heap g4 2
  have k3 := Lib.cell_of_heap g4 3
  have k4 := Lib.cell_of_heap g4 4
  have k5 := Lib.cell_of_heap g4 5
  have k6 := Lib.cell_of_heap g4 6
  have z5 := Lib.frozen_of_heap g4 5
  simp only [List.getElem?_toArray, List.getElem?_cons_zero, List.getElem?_cons_succ] at k0 k1 k2 k3 k4 k5 k6
  have HG := Lib.hid hg
  clear g4 hg hb4
  have ck := refKeep_any R4.out ⟨m.story, m.seq, false, .empty⟩ hlen (Nat.le_trans hBw hB4.size)
  unfold entV at ck
  dsimp only at ck
  have CKP := Lib.hid ck
  clear ck
  go_wp2_with fail
  refine (CKP.out).mono ?_
  rintro e w5 ⟨rfl, hr5, hg5⟩
  have g5 := (hg5.block g (lt_of_heap G4.out) (fun h => hgr.out (by cases h; rfl))).trans G4.out
  have l0 := Lib.cell_of_heap g5 0
  have l1 := Lib.cell_of_heap g5 1
  have l2 := Lib.cell_of_heap g5 2
  have l3 := Lib.cell_of_heap g5 3
  have l4 := Lib.cell_of_heap g5 4
  have l5 := Lib.cell_of_heap g5 5
  have l6 := Lib.cell_of_heap g5 6
  simp only [List.getElem?_toArray, List.getElem?_cons_zero, List.getElem?_cons_succ] at l0 l1 l2 l3 l4 l5 l6
  have R5 := Lib.hid hr5
  clear hr5
  go_wp2_with fail
  go_ret
  have hgw : w.grownBy w5 (some r) := grown_trans hB4 hg5
  exact ⟨_, rfl, ⟨_, hgw.size, rfl, (Go.MapKept.heap_alloc _ _).1⟩, R5.out.below ((Below.refl _ _).alloc (Nat.le_refl _) _), grown_alloc hgw _⟩
end Go.Proofs.YtkpgadjhcnkadaaDoor
