/- copydeskref22.Receive, a delivery. -/
import Derived.Test.YtkpgadjhcnkadaaDoorRefRecv
set_option linter.unusedSimpArgs false
set_option linter.unusedVariables false
namespace Go.Proofs.YtkpgadjhcnkadaaDoor
open Go.RowKit

set_option maxRecDepth 100000 in
set_option maxHeartbeats 6400000 in
theorem refRecv_a0 {B r : Nat} {id : Int} {E : List Ent} {w : World} (hr : IsR B r id E w) (m : Msg) (hd : m.data.size ≤ 4611686018427387904) (hlen : E.length ≤ 1000) (hBw : B ≤ w.heap.size) (hv : validM m = true) (hp : m.partner = id) (hk : m.kind = 1) (hl : (entryF E m.story).seq < m.seq) (ht : (entryF E m.story).text.size ≤ 4611686018427387904) (hz : m.base ≠ 0) {tx : ByteArray} {code : Int} (hap : applyF (entryF E m.story).text m.data = (tx, code)) (hs : sumB (entryF E m.story).text ≠ m.base) :
    Calls Tryd.prog 19 #[.pointer (some ⟨r, 0, none⟩), msgV m] w fun e w' => ∃ v, e = .returned v ∧ IsAns w.heap.size w' v (some (rejM id m.seq m.story (sumB (entryF E m.story).text))) ∧ Below w.heap.size w w' := by
  obtain ⟨wA, hA⟩ : ∃ wA, w.alloc (.cells #[.int .i64 m.kind, .int .i64 m.partner, .int .i64 m.seq, .int .i64 m.story, .int .i64 m.base, .int .i64 m.version, .string m.data] 33) = wA := ⟨_, rfl⟩
  have hBA : Below w.heap.size w wA := by rw [← hA]; exact (Below.refl _ _).alloc (Nat.le_refl _) _
  have hcA : wA.heap[w.heap.size]? = some (.cells (msgCells m) 33 (0, 0)) := by rw [← hA]; exact World.alloc_heap_new w _
  have hrlt := hr.lt
  have CV := Lib.hid (fun W => refValid_any m W hd)
  obtain ⟨c, hc⟩ : ∃ c, w.heap.size = c := ⟨_, rfl⟩
  have hcl : c < wA.heap.size := by rw [← hA, ← hc]; simp
  have HC := Lib.hid hc
  have HA := Lib.hid hA
  have HR := Lib.hid hr
  have HCA := Lib.hid hcA
  clear hA hr hc hcA
  have HM := Lib.hid (show msgV m = .agg #[.int .i64 m.kind, .int .i64 m.partner, .int .i64 m.seq, .int .i64 m.story, .int .i64 m.base, .int .i64 m.version, .string m.data] from rfl)
  rw [HM.out]
  have HV := Lib.hid hv
  have t1 : (m.partner != id) = false := by simpa using hp
  have HP := Lib.hid hp
  have t2 : (m.kind != 1) = false := by simp [hk]
  have t4 : (m.kind == 2) = false := by simp [hk]
  have HK := Lib.hid hk
  obtain ⟨x, hx⟩ : ∃ x, entryF E m.story = x := ⟨_, rfl⟩
  rw [hx] at hl ht hap hs
  try rw [hx]
  obtain ⟨sx, hsx⟩ : ∃ n, sumB x.text = n := ⟨_, rfl⟩
  have CX := Lib.hid (fun W => refSum_is hsx (by omega) W)
  rw [hsx]
  have HSX := Lib.hid hsx
  have t5 : decide (m.seq < x.seq) = false := by simp; omega
  have t6 : (m.seq == x.seq) = false := by simp; omega
  have HL := Lib.hid hl
  clear hl
  have CA := fun W => refApply_any x.text m.data W hd (by exact ht)
  rw [hap] at CA
  dsimp only at CA
  have CAH := Lib.hid CA
  have htx : tx.size ≤ 8192 := by have := applyF_size x.text m.data; rw [hap] at this; exact this
  obtain ⟨st, hst⟩ : ∃ n, sumB tx = n := ⟨_, rfl⟩
  have CT := Lib.hid (fun W => refSum_is hst (by omega) W)
  rw [hsx] at hs
  have t8 : (sx != m.base) = true := by simpa using hs
  have t7 : (m.base == 0) = false := by simpa using hz
  have HZ := Lib.hid hz
  clear CA hap hst hz hs
  have HX := Lib.hid hx
  clear hv hp hk hx hsx
  go_enter Tryd.func19, Tryd.ntmps19
  go_wp2_with fail
  rw [HA.out, HC.out]
  obtain ⟨a0, a1, a2, a3, a4, a5, a6⟩ := cells7 (by rw [← HC.out]; exact HCA.out : wA.heap[c]? = some (.cells (msgCells m) 33 (0, 0)))
  go_wp2_with fail
  rw [← HM.out]
  refine (CV.out _).mono ?_
  rintro e w1 ⟨rfl, hb1⟩
  rw [HV.out]
  have hB1 := Below_then hBA hb1
  have hr1 := HR.out.below hB1
  have m1 := (hb1.block w.heap.size (by rw [HC.out]; exact hcl)).trans HCA.out
  rw [HC.out] at m1
  have R1 := Lib.hid hr1
  have M1 := Lib.hid m1
  obtain ⟨b0, b1, b2, b3, b4, b5, b6⟩ := cells7 m1
  have c0 := hr1.c0
  clear hr1 m1 a0 a1 a2 a3 a4 a5 a6
  go_wp2_with fail
  go_quiet (fail)
  go_wp2_with fail
  refine (refEntry_any (R1.out.drewN _) m.story hlen).mono ?_
  rintro e w2 ⟨rfl, hb2⟩
  rw [HX.out]
  have hB2 : Below w.heap.size w w2 := Below_then (below_drewN3 hB1 _) hb2
  have hr2 := (R1.out.drewN _).below hb2
  have m2 := (hb2.block c (lt_of_heap M1.out)).trans M1.out
  clear b0 b1 b2 b3 b4 b5 b6 c0
  unfold entV
  obtain ⟨w3, hw3⟩ : ∃ w3, w2.alloc (.cells #[.int .i64 x.story, .int .i64 x.seq, .bool x.has, .string x.text] 59) = w3 := ⟨_, rfl⟩
  have hb3 : Below w2.heap.size w2 w3 := by rw [← hw3]; exact (Below.refl _ _).alloc (Nat.le_refl _) _
  have hB3 := Below_then hB2 hb3
  have hr3 := hr2.below hb3
  have m3 := (hb3.block c (lt_of_heap m2)).trans m2
  have x3 : w3.heap[w2.heap.size]? = some (.cells #[.int .i64 x.story, .int .i64 x.seq, .bool x.has, .string x.text] 59 (0, 0)) := by rw [← hw3]; exact World.alloc_heap_new w2 _
  obtain ⟨a0, a1, a2, a3, a4, a5, a6⟩ := cells7 m3
  obtain ⟨e0, e1, e2, e3⟩ := cells4 x3
  have c3 := hr3.c0
  have hq2 := hB2.size
  have R3 := Lib.hid hr3
  have M3 := Lib.hid m3
  have X3 := Lib.hid x3
  clear hr2 hr3 m2 m3 x3
  go_wp2_with fail
  obtain ⟨q, hq⟩ : ∃ q, w2.heap.size = q := ⟨_, rfl⟩
  rw [hq] at e0 e1 e2 e3 X3
  rw [hq]
  have HQ := Lib.hid hq
  have HW3 := Lib.hid hw3
  clear hq hw3
  go_region_held3 (fun W' => W'.cell? ⟨r, 0, none⟩ = some (.int .i64 id) ∧ W'.cell? ⟨c, 3, none⟩ = some (.int .i64 m.story) ∧ W'.cell? ⟨c, 2, none⟩ = some (.int .i64 m.seq)) (first | go_keep) (first | fail)
  obtain ⟨w4, hw4⟩ : ∃ w4, (w3.alloc (.cells #[.int .i64 3, .int .i64 id, .int .i64 m.seq, .int .i64 m.story, .int .i64 0, .int .i64 0, .string ⟨#[]⟩] 33)).drew = w4 := ⟨_, rfl⟩
  have hb4 : Below w3.heap.size w3 w4 := by
    rw [← hw4]
    have := (Below.refl w3.heap.size w3).alloc (Nat.le_refl _) (.cells #[.int .i64 3, .int .i64 id, .int .i64 m.seq, .int .i64 m.story, .int .i64 0, .int .i64 0, .string ⟨#[]⟩] 33)
    exact ⟨this.os, this.tape, this.output, this.size, this.block⟩
  have hB4 := Below_then hB3 hb4
  have g4 : w4.heap[w3.heap.size]? = some (.cells #[.int .i64 3, .int .i64 id, .int .i64 m.seq, .int .i64 m.story, .int .i64 0, .int .i64 0, .string ⟨#[]⟩] 33 (0, 0)) := by rw [← hw4]; exact World.alloc_heap_new w3 _
  have hr4 := R3.out.below hb4
  have m4 := (hb4.block c (lt_of_heap M3.out)).trans M3.out
  have x4 := (hb4.block q (lt_of_heap X3.out)).trans X3.out
  clear a0 a1 a2 a3 a4 a5 a6 e0 e1 e2 e3 c3
  obtain ⟨a0, a1, a2, a3, a4, a5, a6⟩ := cells7 m4
  obtain ⟨e0, e1, e2, e3⟩ := cells4 x4
  have c4 := hr4.c0
  have R4 := Lib.hid hr4
  have M4 := Lib.hid m4
  have X4 := Lib.hid x4
  have hgB := Lib.hid hB3.size
  have hgr := Lib.hid (show w3.heap.size ≠ r from fun e => by have := R3.out.lt; omega)
  have hcg := Lib.hid (show c < w3.heap.size from lt_of_heap M3.out)
  have hqg := Lib.hid (show q < w3.heap.size from lt_of_heap X3.out)
  rw [hw4]
  clear hr4 m4 x4 hw4
  obtain ⟨g, hg⟩ : ∃ g, w3.heap.size = g := ⟨_, rfl⟩
  rw [hg] at g4 hgB hgr hcg hqg ⊢
  have G4 := Lib.hid g4
  have k0 := Lib.cell_of_heap g4 0
  have k1 := Lib.cell_of_heap g4 1
  have k2 := Lib.cell_of_heap g4 2
  have k3 := Lib.cell_of_heap g4 3
  have k4 := Lib.cell_of_heap g4 4
  have k5 := Lib.cell_of_heap g4 5
  have k6 := Lib.cell_of_heap g4 6
  have z5 := Lib.frozen_of_heap g4 5
  simp only [List.getElem?_toArray, List.getElem?_cons_zero, List.getElem?_cons_succ] at k0 k1 k2 k3 k4 k5 k6
  have HG := Lib.hid hg
  clear g4 hg hb4
  go_wp2_with fail
  refine (CAH.out _).mono ?_
  rintro e w5 ⟨rfl, hb5⟩
  have hB5 := Below_then hB4 hb5
  have m5 := (hb5.block c (lt_of_heap M4.out)).trans M4.out
  have x5 := (hb5.block q (lt_of_heap X4.out)).trans X4.out
  have g5 := (hb5.block g (lt_of_heap G4.out)).trans G4.out
  have hr5 := R4.out.below hb5
  clear a0 a1 a2 a3 a4 a5 a6 e0 e1 e2 e3 c4 k0 k1 k2 k3 k4 k5 k6 z5
  obtain ⟨a0, a1, a2, a3, a4, a5, a6⟩ := cells7 m5
  obtain ⟨e0, e1, e2, e3⟩ := cells4 x5
  have c5 := hr5.c0
  have R5 := Lib.hid hr5
  have M5 := Lib.hid m5
  have X5 := Lib.hid x5
  have G5 := Lib.hid g5
  clear hr5 m5 x5 g5
  go_wp2_with fail
  go_quiet ((go_at_call 29; first | with_reducible exact quiet_left' (CX.out _) | with_reducible exact quiet_left' (CT.out _)))
  obtain ⟨w6, hw6⟩ : ∃ w6, w5.drewN nq = w6 := ⟨_, rfl⟩
  have hB6 : Below w.heap.size w w6 := by rw [← hw6]; exact below_drewN3 hB5 _
  have m6 : w6.heap[c]? = some (.cells (msgCells m) 33 (0, 0)) := by rw [← hw6]; exact M5.out
  have x6 : w6.heap[q]? = some (.cells #[.int .i64 x.story, .int .i64 x.seq, .bool x.has, .string x.text] 59 (0, 0)) := by rw [← hw6]; exact X5.out
  have g6 : w6.heap[g]? = some (.cells #[.int .i64 3, .int .i64 id, .int .i64 m.seq, .int .i64 m.story, .int .i64 0, .int .i64 0, .string ⟨#[]⟩] 33 (0, 0)) := by rw [← hw6]; exact G5.out
  have hr6 : IsR B r id E w6 := by rw [← hw6]; exact R5.out.drewN _
  rw [hw6]
  clear a0 a1 a2 a3 a4 a5 a6 e0 e1 e2 e3 c5 hw6
  obtain ⟨a0, a1, a2, a3, a4, a5, a6⟩ := cells7 m6
  obtain ⟨e0, e1, e2, e3⟩ := cells4 x6
  have c6 := hr6.c0
  have R6 := Lib.hid hr6
  have G6 := Lib.hid g6
  clear hr6 m6 x6 g6
  go_wp2_with fail
  go_region_held3 (fun W' => W'.cell? ⟨r, 0, none⟩ = some (.int .i64 id) ∧ W'.cell? ⟨c, 3, none⟩ = some (.int .i64 m.story) ∧ W'.cell? ⟨c, 2, none⟩ = some (.int .i64 m.seq) ∧ W'.cell? ⟨q, 3, none⟩ = some (.string x.text)) (first | go_keep)
    (first | (go_at_call 29; refine (CX.out _).mono ?_; rintro e w' ⟨rfl, rfl⟩))
  go_wp2_with fail
  go_ret
  exact ⟨_, rfl, ⟨_, hB6.size, rfl, (Go.MapKept.heap_alloc _ _).1⟩, (below_drewN3 hB6 _).alloc hB6.size _⟩
set_option maxRecDepth 100000 in
set_option maxHeartbeats 6400000 in
theorem refRecv_b0 {B r : Nat} {id : Int} {E : List Ent} {w : World} (hr : IsR B r id E w) (m : Msg) (hd : m.data.size ≤ 4611686018427387904) (hlen : E.length ≤ 1000) (hBw : B ≤ w.heap.size) (hv : validM m = true) (hp : m.partner = id) (hk : m.kind = 1) (hl : (entryF E m.story).seq < m.seq) (ht : (entryF E m.story).text.size ≤ 4611686018427387904) (hz : m.base ≠ 0) {tx : ByteArray} {code : Int} (hap : applyF (entryF E m.story).text m.data = (tx, code)) (hs : sumB (entryF E m.story).text = m.base) (hc : code ≠ 0) :
    Calls Tryd.prog 19 #[.pointer (some ⟨r, 0, none⟩), msgV m] w fun e w' => ∃ v, e = .returned v ∧ IsAns w.heap.size w' v (some (rejM id m.seq m.story (sumB (entryF E m.story).text))) ∧ Below w.heap.size w w' := by
  obtain ⟨wA, hA⟩ : ∃ wA, w.alloc (.cells #[.int .i64 m.kind, .int .i64 m.partner, .int .i64 m.seq, .int .i64 m.story, .int .i64 m.base, .int .i64 m.version, .string m.data] 33) = wA := ⟨_, rfl⟩
  have hBA : Below w.heap.size w wA := by rw [← hA]; exact (Below.refl _ _).alloc (Nat.le_refl _) _
  have hcA : wA.heap[w.heap.size]? = some (.cells (msgCells m) 33 (0, 0)) := by rw [← hA]; exact World.alloc_heap_new w _
  have hrlt := hr.lt
  have CV := Lib.hid (fun W => refValid_any m W hd)
  obtain ⟨c, hc⟩ : ∃ c, w.heap.size = c := ⟨_, rfl⟩
  have hcl : c < wA.heap.size := by rw [← hA, ← hc]; simp
  have HC := Lib.hid hc
  have HA := Lib.hid hA
  have HR := Lib.hid hr
  have HCA := Lib.hid hcA
  clear hA hr hc hcA
  have HM := Lib.hid (show msgV m = .agg #[.int .i64 m.kind, .int .i64 m.partner, .int .i64 m.seq, .int .i64 m.story, .int .i64 m.base, .int .i64 m.version, .string m.data] from rfl)
  rw [HM.out]
  have HV := Lib.hid hv
  have t1 : (m.partner != id) = false := by simpa using hp
  have HP := Lib.hid hp
  have t2 : (m.kind != 1) = false := by simp [hk]
  have t4 : (m.kind == 2) = false := by simp [hk]
  have HK := Lib.hid hk
  obtain ⟨x, hx⟩ : ∃ x, entryF E m.story = x := ⟨_, rfl⟩
  rw [hx] at hl ht hap hs
  try rw [hx]
  obtain ⟨sx, hsx⟩ : ∃ n, sumB x.text = n := ⟨_, rfl⟩
  have CX := Lib.hid (fun W => refSum_is hsx (by omega) W)
  rw [hsx]
  have HSX := Lib.hid hsx
  have t5 : decide (m.seq < x.seq) = false := by simp; omega
  have t6 : (m.seq == x.seq) = false := by simp; omega
  have HL := Lib.hid hl
  clear hl
  have CA := fun W => refApply_any x.text m.data W hd (by exact ht)
  rw [hap] at CA
  dsimp only at CA
  have CAH := Lib.hid CA
  have htx : tx.size ≤ 8192 := by have := applyF_size x.text m.data; rw [hap] at this; exact this
  obtain ⟨st, hst⟩ : ∃ n, sumB tx = n := ⟨_, rfl⟩
  have CT := Lib.hid (fun W => refSum_is hst (by omega) W)
  rw [hsx] at hs
  have t8 : (sx != m.base) = false := by simpa using hs
  have t9 : (code != 0) = true := by simpa using hc
  have t7 : (m.base == 0) = false := by simpa using hz
  have HZ := Lib.hid hz
  clear CA hap hst hz hs hc
  have HX := Lib.hid hx
  clear hv hp hk hx hsx
  go_enter Tryd.func19, Tryd.ntmps19
  go_wp2_with fail
  rw [HA.out, HC.out]
  obtain ⟨a0, a1, a2, a3, a4, a5, a6⟩ := cells7 (by rw [← HC.out]; exact HCA.out : wA.heap[c]? = some (.cells (msgCells m) 33 (0, 0)))
  go_wp2_with fail
  rw [← HM.out]
  refine (CV.out _).mono ?_
  rintro e w1 ⟨rfl, hb1⟩
  rw [HV.out]
  have hB1 := Below_then hBA hb1
  have hr1 := HR.out.below hB1
  have m1 := (hb1.block w.heap.size (by rw [HC.out]; exact hcl)).trans HCA.out
  rw [HC.out] at m1
  have R1 := Lib.hid hr1
  have M1 := Lib.hid m1
  obtain ⟨b0, b1, b2, b3, b4, b5, b6⟩ := cells7 m1
  have c0 := hr1.c0
  clear hr1 m1 a0 a1 a2 a3 a4 a5 a6
  go_wp2_with fail
  go_quiet (fail)
  go_wp2_with fail
  refine (refEntry_any (R1.out.drewN _) m.story hlen).mono ?_
  rintro e w2 ⟨rfl, hb2⟩
  rw [HX.out]
  have hB2 : Below w.heap.size w w2 := Below_then (below_drewN3 hB1 _) hb2
  have hr2 := (R1.out.drewN _).below hb2
  have m2 := (hb2.block c (lt_of_heap M1.out)).trans M1.out
  clear b0 b1 b2 b3 b4 b5 b6 c0
  unfold entV
  obtain ⟨w3, hw3⟩ : ∃ w3, w2.alloc (.cells #[.int .i64 x.story, .int .i64 x.seq, .bool x.has, .string x.text] 59) = w3 := ⟨_, rfl⟩
  have hb3 : Below w2.heap.size w2 w3 := by rw [← hw3]; exact (Below.refl _ _).alloc (Nat.le_refl _) _
  have hB3 := Below_then hB2 hb3
  have hr3 := hr2.below hb3
  have m3 := (hb3.block c (lt_of_heap m2)).trans m2
  have x3 : w3.heap[w2.heap.size]? = some (.cells #[.int .i64 x.story, .int .i64 x.seq, .bool x.has, .string x.text] 59 (0, 0)) := by rw [← hw3]; exact World.alloc_heap_new w2 _
  obtain ⟨a0, a1, a2, a3, a4, a5, a6⟩ := cells7 m3
  obtain ⟨e0, e1, e2, e3⟩ := cells4 x3
  have c3 := hr3.c0
  have hq2 := hB2.size
  have R3 := Lib.hid hr3
  have M3 := Lib.hid m3
  have X3 := Lib.hid x3
  clear hr2 hr3 m2 m3 x3
  go_wp2_with fail
  obtain ⟨q, hq⟩ : ∃ q, w2.heap.size = q := ⟨_, rfl⟩
  rw [hq] at e0 e1 e2 e3 X3
  rw [hq]
  have HQ := Lib.hid hq
  have HW3 := Lib.hid hw3
  clear hq hw3
  go_region_held3 (fun W' => W'.cell? ⟨r, 0, none⟩ = some (.int .i64 id) ∧ W'.cell? ⟨c, 3, none⟩ = some (.int .i64 m.story) ∧ W'.cell? ⟨c, 2, none⟩ = some (.int .i64 m.seq)) (first | go_keep) (first | fail)
  obtain ⟨w4, hw4⟩ : ∃ w4, (w3.alloc (.cells #[.int .i64 3, .int .i64 id, .int .i64 m.seq, .int .i64 m.story, .int .i64 0, .int .i64 0, .string ⟨#[]⟩] 33)).drew = w4 := ⟨_, rfl⟩
  have hb4 : Below w3.heap.size w3 w4 := by
    rw [← hw4]
    have := (Below.refl w3.heap.size w3).alloc (Nat.le_refl _) (.cells #[.int .i64 3, .int .i64 id, .int .i64 m.seq, .int .i64 m.story, .int .i64 0, .int .i64 0, .string ⟨#[]⟩] 33)
    exact ⟨this.os, this.tape, this.output, this.size, this.block⟩
  have hB4 := Below_then hB3 hb4
  have g4 : w4.heap[w3.heap.size]? = some (.cells #[.int .i64 3, .int .i64 id, .int .i64 m.seq, .int .i64 m.story, .int .i64 0, .int .i64 0, .string ⟨#[]⟩] 33 (0, 0)) := by rw [← hw4]; exact World.alloc_heap_new w3 _
  have hr4 := R3.out.below hb4
  have m4 := (hb4.block c (lt_of_heap M3.out)).trans M3.out
  have x4 := (hb4.block q (lt_of_heap X3.out)).trans X3.out
  clear a0 a1 a2 a3 a4 a5 a6 e0 e1 e2 e3 c3
  obtain ⟨a0, a1, a2, a3, a4, a5, a6⟩ := cells7 m4
  obtain ⟨e0, e1, e2, e3⟩ := cells4 x4
  have c4 := hr4.c0
  have R4 := Lib.hid hr4
  have M4 := Lib.hid m4
  have X4 := Lib.hid x4
  have hgB := Lib.hid hB3.size
  have hgr := Lib.hid (show w3.heap.size ≠ r from fun e => by have := R3.out.lt; omega)
  have hcg := Lib.hid (show c < w3.heap.size from lt_of_heap M3.out)
  have hqg := Lib.hid (show q < w3.heap.size from lt_of_heap X3.out)
  rw [hw4]
  clear hr4 m4 x4 hw4
  obtain ⟨g, hg⟩ : ∃ g, w3.heap.size = g := ⟨_, rfl⟩
  rw [hg] at g4 hgB hgr hcg hqg ⊢
  have G4 := Lib.hid g4
  have k0 := Lib.cell_of_heap g4 0
  have k1 := Lib.cell_of_heap g4 1
  have k2 := Lib.cell_of_heap g4 2
  have k3 := Lib.cell_of_heap g4 3
  have k4 := Lib.cell_of_heap g4 4
  have k5 := Lib.cell_of_heap g4 5
  have k6 := Lib.cell_of_heap g4 6
  have z5 := Lib.frozen_of_heap g4 5
  simp only [List.getElem?_toArray, List.getElem?_cons_zero, List.getElem?_cons_succ] at k0 k1 k2 k3 k4 k5 k6
  have HG := Lib.hid hg
  clear g4 hg hb4
  go_wp2_with fail
  refine (CAH.out _).mono ?_
  rintro e w5 ⟨rfl, hb5⟩
  have hB5 := Below_then hB4 hb5
  have m5 := (hb5.block c (lt_of_heap M4.out)).trans M4.out
  have x5 := (hb5.block q (lt_of_heap X4.out)).trans X4.out
  have g5 := (hb5.block g (lt_of_heap G4.out)).trans G4.out
  have hr5 := R4.out.below hb5
  clear a0 a1 a2 a3 a4 a5 a6 e0 e1 e2 e3 c4 k0 k1 k2 k3 k4 k5 k6 z5
  obtain ⟨a0, a1, a2, a3, a4, a5, a6⟩ := cells7 m5
  obtain ⟨e0, e1, e2, e3⟩ := cells4 x5
  have c5 := hr5.c0
  have R5 := Lib.hid hr5
  have M5 := Lib.hid m5
  have X5 := Lib.hid x5
  have G5 := Lib.hid g5
  clear hr5 m5 x5 g5
  go_wp2_with fail
  go_quiet ((go_at_call 29; first | with_reducible exact quiet_left' (CX.out _) | with_reducible exact quiet_left' (CT.out _)))
  obtain ⟨w6, hw6⟩ : ∃ w6, w5.drewN nq = w6 := ⟨_, rfl⟩
  have hB6 : Below w.heap.size w w6 := by rw [← hw6]; exact below_drewN3 hB5 _
  have m6 : w6.heap[c]? = some (.cells (msgCells m) 33 (0, 0)) := by rw [← hw6]; exact M5.out
  have x6 : w6.heap[q]? = some (.cells #[.int .i64 x.story, .int .i64 x.seq, .bool x.has, .string x.text] 59 (0, 0)) := by rw [← hw6]; exact X5.out
  have g6 : w6.heap[g]? = some (.cells #[.int .i64 3, .int .i64 id, .int .i64 m.seq, .int .i64 m.story, .int .i64 0, .int .i64 0, .string ⟨#[]⟩] 33 (0, 0)) := by rw [← hw6]; exact G5.out
  have hr6 : IsR B r id E w6 := by rw [← hw6]; exact R5.out.drewN _
  rw [hw6]
  clear a0 a1 a2 a3 a4 a5 a6 e0 e1 e2 e3 c5 hw6
  obtain ⟨a0, a1, a2, a3, a4, a5, a6⟩ := cells7 m6
  obtain ⟨e0, e1, e2, e3⟩ := cells4 x6
  have c6 := hr6.c0
  have R6 := Lib.hid hr6
  have G6 := Lib.hid g6
  clear hr6 m6 x6 g6
  go_wp2_with fail
  go_region_held3 (fun W' => W'.cell? ⟨r, 0, none⟩ = some (.int .i64 id) ∧ W'.cell? ⟨c, 3, none⟩ = some (.int .i64 m.story) ∧ W'.cell? ⟨c, 2, none⟩ = some (.int .i64 m.seq) ∧ W'.cell? ⟨q, 3, none⟩ = some (.string x.text)) (first | go_keep)
    (first | (go_at_call 29; refine (CX.out _).mono ?_; rintro e w' ⟨rfl, rfl⟩))
  go_wp2_with fail
  go_ret
  exact ⟨_, rfl, ⟨_, hB6.size, rfl, (Go.MapKept.heap_alloc _ _).1⟩, (below_drewN3 hB6 _).alloc hB6.size _⟩
set_option maxRecDepth 100000 in
set_option maxHeartbeats 6400000 in
theorem refRecv_c0 {B r : Nat} {id : Int} {E : List Ent} {w : World} (hr : IsR B r id E w) (m : Msg) (hd : m.data.size ≤ 4611686018427387904) (hlen : E.length ≤ 1000) (hBw : B ≤ w.heap.size) (hv : validM m = true) (hp : m.partner = id) (hk : m.kind = 1) (hl : (entryF E m.story).seq < m.seq) (ht : (entryF E m.story).text.size ≤ 4611686018427387904) (hz : m.base ≠ 0) {tx : ByteArray} {code : Int} (hap : applyF (entryF E m.story).text m.data = (tx, code)) (hs : sumB (entryF E m.story).text = m.base) (hc : code = 0) (hq : sumB tx ≠ m.version) :
    Calls Tryd.prog 19 #[.pointer (some ⟨r, 0, none⟩), msgV m] w fun e w' => ∃ v, e = .returned v ∧ IsAns w.heap.size w' v (some (rejM id m.seq m.story (sumB (entryF E m.story).text))) ∧ Below w.heap.size w w' := by
  obtain ⟨wA, hA⟩ : ∃ wA, w.alloc (.cells #[.int .i64 m.kind, .int .i64 m.partner, .int .i64 m.seq, .int .i64 m.story, .int .i64 m.base, .int .i64 m.version, .string m.data] 33) = wA := ⟨_, rfl⟩
  have hBA : Below w.heap.size w wA := by rw [← hA]; exact (Below.refl _ _).alloc (Nat.le_refl _) _
  have hcA : wA.heap[w.heap.size]? = some (.cells (msgCells m) 33 (0, 0)) := by rw [← hA]; exact World.alloc_heap_new w _
  have hrlt := hr.lt
  have CV := Lib.hid (fun W => refValid_any m W hd)
  obtain ⟨c, hc⟩ : ∃ c, w.heap.size = c := ⟨_, rfl⟩
  have hcl : c < wA.heap.size := by rw [← hA, ← hc]; simp
  have HC := Lib.hid hc
  have HA := Lib.hid hA
  have HR := Lib.hid hr
  have HCA := Lib.hid hcA
  clear hA hr hc hcA
  have HM := Lib.hid (show msgV m = .agg #[.int .i64 m.kind, .int .i64 m.partner, .int .i64 m.seq, .int .i64 m.story, .int .i64 m.base, .int .i64 m.version, .string m.data] from rfl)
  rw [HM.out]
  have HV := Lib.hid hv
  have t1 : (m.partner != id) = false := by simpa using hp
  have HP := Lib.hid hp
  have t2 : (m.kind != 1) = false := by simp [hk]
  have t4 : (m.kind == 2) = false := by simp [hk]
  have HK := Lib.hid hk
  obtain ⟨x, hx⟩ : ∃ x, entryF E m.story = x := ⟨_, rfl⟩
  rw [hx] at hl ht hap hs
  try rw [hx]
  obtain ⟨sx, hsx⟩ : ∃ n, sumB x.text = n := ⟨_, rfl⟩
  have CX := Lib.hid (fun W => refSum_is hsx (by omega) W)
  rw [hsx]
  have HSX := Lib.hid hsx
  have t5 : decide (m.seq < x.seq) = false := by simp; omega
  have t6 : (m.seq == x.seq) = false := by simp; omega
  have HL := Lib.hid hl
  clear hl
  have CA := fun W => refApply_any x.text m.data W hd (by exact ht)
  rw [hap] at CA
  dsimp only at CA
  have CAH := Lib.hid CA
  have htx : tx.size ≤ 8192 := by have := applyF_size x.text m.data; rw [hap] at this; exact this
  obtain ⟨st, hst⟩ : ∃ n, sumB tx = n := ⟨_, rfl⟩
  have CT := Lib.hid (fun W => refSum_is hst (by omega) W)
  rw [hsx] at hs
  have t8 : (sx != m.base) = false := by simpa using hs
  have t9 : (code != 0) = false := by simpa using hc
  rw [hst] at hq
  have t10 : (st != m.version) = true := by simpa using hq
  have t7 : (m.base == 0) = false := by simpa using hz
  have HZ := Lib.hid hz
  clear CA hap hst hz hs hc hq
  have HX := Lib.hid hx
  clear hv hp hk hx hsx
  go_enter Tryd.func19, Tryd.ntmps19
  go_wp2_with fail
  rw [HA.out, HC.out]
  obtain ⟨a0, a1, a2, a3, a4, a5, a6⟩ := cells7 (by rw [← HC.out]; exact HCA.out : wA.heap[c]? = some (.cells (msgCells m) 33 (0, 0)))
  go_wp2_with fail
  rw [← HM.out]
  refine (CV.out _).mono ?_
  rintro e w1 ⟨rfl, hb1⟩
  rw [HV.out]
  have hB1 := Below_then hBA hb1
  have hr1 := HR.out.below hB1
  have m1 := (hb1.block w.heap.size (by rw [HC.out]; exact hcl)).trans HCA.out
  rw [HC.out] at m1
  have R1 := Lib.hid hr1
  have M1 := Lib.hid m1
  obtain ⟨b0, b1, b2, b3, b4, b5, b6⟩ := cells7 m1
  have c0 := hr1.c0
  clear hr1 m1 a0 a1 a2 a3 a4 a5 a6
  go_wp2_with fail
  go_quiet (fail)
  go_wp2_with fail
  refine (refEntry_any (R1.out.drewN _) m.story hlen).mono ?_
  rintro e w2 ⟨rfl, hb2⟩
  rw [HX.out]
  have hB2 : Below w.heap.size w w2 := Below_then (below_drewN3 hB1 _) hb2
  have hr2 := (R1.out.drewN _).below hb2
  have m2 := (hb2.block c (lt_of_heap M1.out)).trans M1.out
  clear b0 b1 b2 b3 b4 b5 b6 c0
  unfold entV
  obtain ⟨w3, hw3⟩ : ∃ w3, w2.alloc (.cells #[.int .i64 x.story, .int .i64 x.seq, .bool x.has, .string x.text] 59) = w3 := ⟨_, rfl⟩
  have hb3 : Below w2.heap.size w2 w3 := by rw [← hw3]; exact (Below.refl _ _).alloc (Nat.le_refl _) _
  have hB3 := Below_then hB2 hb3
  have hr3 := hr2.below hb3
  have m3 := (hb3.block c (lt_of_heap m2)).trans m2
  have x3 : w3.heap[w2.heap.size]? = some (.cells #[.int .i64 x.story, .int .i64 x.seq, .bool x.has, .string x.text] 59 (0, 0)) := by rw [← hw3]; exact World.alloc_heap_new w2 _
  obtain ⟨a0, a1, a2, a3, a4, a5, a6⟩ := cells7 m3
  obtain ⟨e0, e1, e2, e3⟩ := cells4 x3
  have c3 := hr3.c0
  have hq2 := hB2.size
  have R3 := Lib.hid hr3
  have M3 := Lib.hid m3
  have X3 := Lib.hid x3
  clear hr2 hr3 m2 m3 x3
  go_wp2_with fail
  obtain ⟨q, hq⟩ : ∃ q, w2.heap.size = q := ⟨_, rfl⟩
  rw [hq] at e0 e1 e2 e3 X3
  rw [hq]
  have HQ := Lib.hid hq
  have HW3 := Lib.hid hw3
  clear hq hw3
  go_region_held3 (fun W' => W'.cell? ⟨r, 0, none⟩ = some (.int .i64 id) ∧ W'.cell? ⟨c, 3, none⟩ = some (.int .i64 m.story) ∧ W'.cell? ⟨c, 2, none⟩ = some (.int .i64 m.seq)) (first | go_keep) (first | fail)
  obtain ⟨w4, hw4⟩ : ∃ w4, (w3.alloc (.cells #[.int .i64 3, .int .i64 id, .int .i64 m.seq, .int .i64 m.story, .int .i64 0, .int .i64 0, .string ⟨#[]⟩] 33)).drew = w4 := ⟨_, rfl⟩
  have hb4 : Below w3.heap.size w3 w4 := by
    rw [← hw4]
    have := (Below.refl w3.heap.size w3).alloc (Nat.le_refl _) (.cells #[.int .i64 3, .int .i64 id, .int .i64 m.seq, .int .i64 m.story, .int .i64 0, .int .i64 0, .string ⟨#[]⟩] 33)
    exact ⟨this.os, this.tape, this.output, this.size, this.block⟩
  have hB4 := Below_then hB3 hb4
  have g4 : w4.heap[w3.heap.size]? = some (.cells #[.int .i64 3, .int .i64 id, .int .i64 m.seq, .int .i64 m.story, .int .i64 0, .int .i64 0, .string ⟨#[]⟩] 33 (0, 0)) := by rw [← hw4]; exact World.alloc_heap_new w3 _
  have hr4 := R3.out.below hb4
  have m4 := (hb4.block c (lt_of_heap M3.out)).trans M3.out
  have x4 := (hb4.block q (lt_of_heap X3.out)).trans X3.out
  clear a0 a1 a2 a3 a4 a5 a6 e0 e1 e2 e3 c3
  obtain ⟨a0, a1, a2, a3, a4, a5, a6⟩ := cells7 m4
  obtain ⟨e0, e1, e2, e3⟩ := cells4 x4
  have c4 := hr4.c0
  have R4 := Lib.hid hr4
  have M4 := Lib.hid m4
  have X4 := Lib.hid x4
  have hgB := Lib.hid hB3.size
  have hgr := Lib.hid (show w3.heap.size ≠ r from fun e => by have := R3.out.lt; omega)
  have hcg := Lib.hid (show c < w3.heap.size from lt_of_heap M3.out)
  have hqg := Lib.hid (show q < w3.heap.size from lt_of_heap X3.out)
  rw [hw4]
  clear hr4 m4 x4 hw4
  obtain ⟨g, hg⟩ : ∃ g, w3.heap.size = g := ⟨_, rfl⟩
  rw [hg] at g4 hgB hgr hcg hqg ⊢
  have G4 := Lib.hid g4
  have k0 := Lib.cell_of_heap g4 0
  have k1 := Lib.cell_of_heap g4 1
  have k2 := Lib.cell_of_heap g4 2
  have k3 := Lib.cell_of_heap g4 3
  have k4 := Lib.cell_of_heap g4 4
  have k5 := Lib.cell_of_heap g4 5
  have k6 := Lib.cell_of_heap g4 6
  have z5 := Lib.frozen_of_heap g4 5
  simp only [List.getElem?_toArray, List.getElem?_cons_zero, List.getElem?_cons_succ] at k0 k1 k2 k3 k4 k5 k6
  have HG := Lib.hid hg
  clear g4 hg hb4
  go_wp2_with fail
  refine (CAH.out _).mono ?_
  rintro e w5 ⟨rfl, hb5⟩
  have hB5 := Below_then hB4 hb5
  have m5 := (hb5.block c (lt_of_heap M4.out)).trans M4.out
  have x5 := (hb5.block q (lt_of_heap X4.out)).trans X4.out
  have g5 := (hb5.block g (lt_of_heap G4.out)).trans G4.out
  have hr5 := R4.out.below hb5
  clear a0 a1 a2 a3 a4 a5 a6 e0 e1 e2 e3 c4 k0 k1 k2 k3 k4 k5 k6 z5
  obtain ⟨a0, a1, a2, a3, a4, a5, a6⟩ := cells7 m5
  obtain ⟨e0, e1, e2, e3⟩ := cells4 x5
  have c5 := hr5.c0
  have R5 := Lib.hid hr5
  have M5 := Lib.hid m5
  have X5 := Lib.hid x5
  have G5 := Lib.hid g5
  clear hr5 m5 x5 g5
  go_wp2_with fail
  go_quiet ((go_at_call 29; first | with_reducible exact quiet_left' (CX.out _) | with_reducible exact quiet_left' (CT.out _)))
  obtain ⟨w6, hw6⟩ : ∃ w6, w5.drewN nq = w6 := ⟨_, rfl⟩
  have hB6 : Below w.heap.size w w6 := by rw [← hw6]; exact below_drewN3 hB5 _
  have m6 : w6.heap[c]? = some (.cells (msgCells m) 33 (0, 0)) := by rw [← hw6]; exact M5.out
  have x6 : w6.heap[q]? = some (.cells #[.int .i64 x.story, .int .i64 x.seq, .bool x.has, .string x.text] 59 (0, 0)) := by rw [← hw6]; exact X5.out
  have g6 : w6.heap[g]? = some (.cells #[.int .i64 3, .int .i64 id, .int .i64 m.seq, .int .i64 m.story, .int .i64 0, .int .i64 0, .string ⟨#[]⟩] 33 (0, 0)) := by rw [← hw6]; exact G5.out
  have hr6 : IsR B r id E w6 := by rw [← hw6]; exact R5.out.drewN _
  rw [hw6]
  clear a0 a1 a2 a3 a4 a5 a6 e0 e1 e2 e3 c5 hw6
  obtain ⟨a0, a1, a2, a3, a4, a5, a6⟩ := cells7 m6
  obtain ⟨e0, e1, e2, e3⟩ := cells4 x6
  have c6 := hr6.c0
  have R6 := Lib.hid hr6
  have G6 := Lib.hid g6
  clear hr6 m6 x6 g6
  go_wp2_with fail
  go_region_held3 (fun W' => W'.cell? ⟨r, 0, none⟩ = some (.int .i64 id) ∧ W'.cell? ⟨c, 3, none⟩ = some (.int .i64 m.story) ∧ W'.cell? ⟨c, 2, none⟩ = some (.int .i64 m.seq) ∧ W'.cell? ⟨q, 3, none⟩ = some (.string x.text)) (first | go_keep)
    (first | (go_at_call 29; refine (CX.out _).mono ?_; rintro e w' ⟨rfl, rfl⟩))
  go_wp2_with fail
  go_ret
  exact ⟨_, rfl, ⟨_, hB6.size, rfl, (Go.MapKept.heap_alloc _ _).1⟩, (below_drewN3 hB6 _).alloc hB6.size _⟩
set_option maxRecDepth 100000 in
set_option maxHeartbeats 6400000 in
theorem refRecv_ok0 {B r : Nat} {id : Int} {E : List Ent} {w : World} (hr : IsR B r id E w) (m : Msg) (hd : m.data.size ≤ 4611686018427387904) (hlen : E.length ≤ 1000) (hBw : B ≤ w.heap.size) (hv : validM m = true) (hp : m.partner = id) (hk : m.kind = 1) (hl : (entryF E m.story).seq < m.seq) (ht : (entryF E m.story).text.size ≤ 4611686018427387904) (hz : m.base ≠ 0) {tx : ByteArray} {code : Int} (hap : applyF (entryF E m.story).text m.data = (tx, code)) (hs : sumB (entryF E m.story).text = m.base) (hc : code = 0) (hq : sumB tx = m.version) :
    Calls Tryd.prog 19 #[.pointer (some ⟨r, 0, none⟩), msgV m] w fun e w' => ∃ v, e = .returned v ∧ IsAns w.heap.size w' v (some (ackM id m.seq m.story m.version)) ∧ IsR B r id (keepF E ⟨m.story, m.seq, true, tx⟩) w' ∧ w.grownBy w' (some r) := by
  obtain ⟨wA, hA⟩ : ∃ wA, w.alloc (.cells #[.int .i64 m.kind, .int .i64 m.partner, .int .i64 m.seq, .int .i64 m.story, .int .i64 m.base, .int .i64 m.version, .string m.data] 33) = wA := ⟨_, rfl⟩
  have hBA : Below w.heap.size w wA := by rw [← hA]; exact (Below.refl _ _).alloc (Nat.le_refl _) _
  have hcA : wA.heap[w.heap.size]? = some (.cells (msgCells m) 33 (0, 0)) := by rw [← hA]; exact World.alloc_heap_new w _
  have hrlt := hr.lt
  have CV := Lib.hid (fun W => refValid_any m W hd)
  obtain ⟨c, hc⟩ : ∃ c, w.heap.size = c := ⟨_, rfl⟩
  have hcl : c < wA.heap.size := by rw [← hA, ← hc]; simp
  have HC := Lib.hid hc
  have HA := Lib.hid hA
  have HR := Lib.hid hr
  have HCA := Lib.hid hcA
  clear hA hr hc hcA
  have HM := Lib.hid (show msgV m = .agg #[.int .i64 m.kind, .int .i64 m.partner, .int .i64 m.seq, .int .i64 m.story, .int .i64 m.base, .int .i64 m.version, .string m.data] from rfl)
  rw [HM.out]
  have HV := Lib.hid hv
  have t1 : (m.partner != id) = false := by simpa using hp
  have HP := Lib.hid hp
  have t2 : (m.kind != 1) = false := by simp [hk]
  have t4 : (m.kind == 2) = false := by simp [hk]
  have HK := Lib.hid hk
  obtain ⟨x, hx⟩ : ∃ x, entryF E m.story = x := ⟨_, rfl⟩
  rw [hx] at hl ht hap hs
  try rw [hx]
  obtain ⟨sx, hsx⟩ : ∃ n, sumB x.text = n := ⟨_, rfl⟩
  have CX := Lib.hid (fun W => refSum_is hsx (by omega) W)
  have HSX := Lib.hid hsx
  have t5 : decide (m.seq < x.seq) = false := by simp; omega
  have t6 : (m.seq == x.seq) = false := by simp; omega
  have HL := Lib.hid hl
  clear hl
  have CA := fun W => refApply_any x.text m.data W hd (by exact ht)
  rw [hap] at CA
  dsimp only at CA
  have CAH := Lib.hid CA
  have htx : tx.size ≤ 8192 := by have := applyF_size x.text m.data; rw [hap] at this; exact this
  obtain ⟨st, hst⟩ : ∃ n, sumB tx = n := ⟨_, rfl⟩
  have CT := Lib.hid (fun W => refSum_is hst (by omega) W)
  rw [hsx] at hs
  have t8 : (sx != m.base) = false := by simpa using hs
  have t9 : (code != 0) = false := by simpa using hc
  rw [hst] at hq
  have t10 : (st != m.version) = false := by simpa using hq
  have t7 : (m.base == 0) = false := by simpa using hz
  have HZ := Lib.hid hz
  clear CA hap hst hz hs hc hq
  have HX := Lib.hid hx
  clear hv hp hk hx hsx
  go_enter Tryd.func19, Tryd.ntmps19
  go_wp2_with fail
  rw [HA.out, HC.out]
  obtain ⟨a0, a1, a2, a3, a4, a5, a6⟩ := cells7 (by rw [← HC.out]; exact HCA.out : wA.heap[c]? = some (.cells (msgCells m) 33 (0, 0)))
  go_wp2_with fail
  rw [← HM.out]
  refine (CV.out _).mono ?_
  rintro e w1 ⟨rfl, hb1⟩
  rw [HV.out]
  have hB1 := Below_then hBA hb1
  have hr1 := HR.out.below hB1
  have m1 := (hb1.block w.heap.size (by rw [HC.out]; exact hcl)).trans HCA.out
  rw [HC.out] at m1
  have R1 := Lib.hid hr1
  have M1 := Lib.hid m1
  obtain ⟨b0, b1, b2, b3, b4, b5, b6⟩ := cells7 m1
  have c0 := hr1.c0
  clear hr1 m1 a0 a1 a2 a3 a4 a5 a6
  go_wp2_with fail
  go_quiet (fail)
  go_wp2_with fail
  refine (refEntry_any (R1.out.drewN _) m.story hlen).mono ?_
  rintro e w2 ⟨rfl, hb2⟩
  rw [HX.out]
  have hB2 : Below w.heap.size w w2 := Below_then (below_drewN3 hB1 _) hb2
  have hr2 := (R1.out.drewN _).below hb2
  have m2 := (hb2.block c (lt_of_heap M1.out)).trans M1.out
  clear b0 b1 b2 b3 b4 b5 b6 c0
  unfold entV
  obtain ⟨w3, hw3⟩ : ∃ w3, w2.alloc (.cells #[.int .i64 x.story, .int .i64 x.seq, .bool x.has, .string x.text] 59) = w3 := ⟨_, rfl⟩
  have hb3 : Below w2.heap.size w2 w3 := by rw [← hw3]; exact (Below.refl _ _).alloc (Nat.le_refl _) _
  have hB3 := Below_then hB2 hb3
  have hr3 := hr2.below hb3
  have m3 := (hb3.block c (lt_of_heap m2)).trans m2
  have x3 : w3.heap[w2.heap.size]? = some (.cells #[.int .i64 x.story, .int .i64 x.seq, .bool x.has, .string x.text] 59 (0, 0)) := by rw [← hw3]; exact World.alloc_heap_new w2 _
  obtain ⟨a0, a1, a2, a3, a4, a5, a6⟩ := cells7 m3
  obtain ⟨e0, e1, e2, e3⟩ := cells4 x3
  have c3 := hr3.c0
  have hq2 := hB2.size
  have R3 := Lib.hid hr3
  have M3 := Lib.hid m3
  have X3 := Lib.hid x3
  clear hr2 hr3 m2 m3 x3
  go_wp2_with fail
  obtain ⟨q, hq⟩ : ∃ q, w2.heap.size = q := ⟨_, rfl⟩
  rw [hq] at e0 e1 e2 e3 X3
  rw [hq]
  have HQ := Lib.hid hq
  have HW3 := Lib.hid hw3
  clear hq hw3
  go_region_held3 (fun W' => W'.cell? ⟨r, 0, none⟩ = some (.int .i64 id) ∧ W'.cell? ⟨c, 3, none⟩ = some (.int .i64 m.story) ∧ W'.cell? ⟨c, 2, none⟩ = some (.int .i64 m.seq)) (first | go_keep) (first | fail)
  obtain ⟨w4, hw4⟩ : ∃ w4, (w3.alloc (.cells #[.int .i64 3, .int .i64 id, .int .i64 m.seq, .int .i64 m.story, .int .i64 0, .int .i64 0, .string ⟨#[]⟩] 33)).drew = w4 := ⟨_, rfl⟩
  have hb4 : Below w3.heap.size w3 w4 := by
    rw [← hw4]
    have := (Below.refl w3.heap.size w3).alloc (Nat.le_refl _) (.cells #[.int .i64 3, .int .i64 id, .int .i64 m.seq, .int .i64 m.story, .int .i64 0, .int .i64 0, .string ⟨#[]⟩] 33)
    exact ⟨this.os, this.tape, this.output, this.size, this.block⟩
  have hB4 := Below_then hB3 hb4
  have g4 : w4.heap[w3.heap.size]? = some (.cells #[.int .i64 3, .int .i64 id, .int .i64 m.seq, .int .i64 m.story, .int .i64 0, .int .i64 0, .string ⟨#[]⟩] 33 (0, 0)) := by rw [← hw4]; exact World.alloc_heap_new w3 _
  have hr4 := R3.out.below hb4
  have m4 := (hb4.block c (lt_of_heap M3.out)).trans M3.out
  have x4 := (hb4.block q (lt_of_heap X3.out)).trans X3.out
  clear a0 a1 a2 a3 a4 a5 a6 e0 e1 e2 e3 c3
  obtain ⟨a0, a1, a2, a3, a4, a5, a6⟩ := cells7 m4
  obtain ⟨e0, e1, e2, e3⟩ := cells4 x4
  have c4 := hr4.c0
  have R4 := Lib.hid hr4
  have M4 := Lib.hid m4
  have X4 := Lib.hid x4
  have hgB := Lib.hid hB3.size
  have hgr := Lib.hid (show w3.heap.size ≠ r from fun e => by have := R3.out.lt; omega)
  have hcg := Lib.hid (show c < w3.heap.size from lt_of_heap M3.out)
  have hqg := Lib.hid (show q < w3.heap.size from lt_of_heap X3.out)
  rw [hw4]
  clear hr4 m4 x4 hw4
  obtain ⟨g, hg⟩ : ∃ g, w3.heap.size = g := ⟨_, rfl⟩
  rw [hg] at g4 hgB hgr hcg hqg ⊢
  have G4 := Lib.hid g4
  have k0 := Lib.cell_of_heap g4 0
  have k1 := Lib.cell_of_heap g4 1
  have k2 := Lib.cell_of_heap g4 2
  have k3 := Lib.cell_of_heap g4 3
  have k4 := Lib.cell_of_heap g4 4
  have k5 := Lib.cell_of_heap g4 5
  have k6 := Lib.cell_of_heap g4 6
  have z5 := Lib.frozen_of_heap g4 5
  simp only [List.getElem?_toArray, List.getElem?_cons_zero, List.getElem?_cons_succ] at k0 k1 k2 k3 k4 k5 k6
  have HG := Lib.hid hg
  clear g4 hg hb4
  go_wp2_with fail
  refine (CAH.out _).mono ?_
  rintro e w5 ⟨rfl, hb5⟩
  have hB5 := Below_then hB4 hb5
  have m5 := (hb5.block c (lt_of_heap M4.out)).trans M4.out
  have x5 := (hb5.block q (lt_of_heap X4.out)).trans X4.out
  have g5 := (hb5.block g (lt_of_heap G4.out)).trans G4.out
  have hr5 := R4.out.below hb5
  clear a0 a1 a2 a3 a4 a5 a6 e0 e1 e2 e3 c4 k0 k1 k2 k3 k4 k5 k6 z5
  obtain ⟨a0, a1, a2, a3, a4, a5, a6⟩ := cells7 m5
  obtain ⟨e0, e1, e2, e3⟩ := cells4 x5
  have c5 := hr5.c0
  have R5 := Lib.hid hr5
  have M5 := Lib.hid m5
  have X5 := Lib.hid x5
  have G5 := Lib.hid g5
  clear hr5 m5 x5 g5
  go_wp2_with fail
  go_quiet ((go_at_call 29; first | with_reducible exact quiet_left' (CX.out _) | with_reducible exact quiet_left' (CT.out _)))
  obtain ⟨w6, hw6⟩ : ∃ w6, w5.drewN nq = w6 := ⟨_, rfl⟩
  have hB6 : Below w.heap.size w w6 := by rw [← hw6]; exact below_drewN3 hB5 _
  have m6 : w6.heap[c]? = some (.cells (msgCells m) 33 (0, 0)) := by rw [← hw6]; exact M5.out
  have x6 : w6.heap[q]? = some (.cells #[.int .i64 x.story, .int .i64 x.seq, .bool x.has, .string x.text] 59 (0, 0)) := by rw [← hw6]; exact X5.out
  have g6 : w6.heap[g]? = some (.cells #[.int .i64 3, .int .i64 id, .int .i64 m.seq, .int .i64 m.story, .int .i64 0, .int .i64 0, .string ⟨#[]⟩] 33 (0, 0)) := by rw [← hw6]; exact G5.out
  have hr6 : IsR B r id E w6 := by rw [← hw6]; exact R5.out.drewN _
  rw [hw6]
  clear a0 a1 a2 a3 a4 a5 a6 e0 e1 e2 e3 c5 hw6
  obtain ⟨a0, a1, a2, a3, a4, a5, a6⟩ := cells7 m6
  obtain ⟨e0, e1, e2, e3⟩ := cells4 x6
  have c6 := hr6.c0
  have R6 := Lib.hid hr6
  have G6 := Lib.hid g6
  clear hr6 m6 x6 g6
  have ck := refKeep_any R6.out ⟨m.story, m.seq, true, tx⟩ hlen (Nat.le_trans hBw hB6.size)
  unfold entV at ck
  dsimp only at ck
  have CKP := Lib.hid ck
  clear ck
  have m6c := hB6.size
  go_wp2_with fail
  refine (CKP.out).mono ?_
  rintro e w7 ⟨rfl, hr7, hg7⟩
  have g7 := (hg7.block g (lt_of_heap G6.out) (fun h => hgr.out (by cases h; rfl))).trans G6.out
  have m7 := (hg7.block c (World.block_lt_of_cell? w6 _ a5) (fun h => by cases h; have := hrlt; rw [HC.out] at this; omega))
  have v7 : w7.cell? ⟨c, 5, none⟩ = some (.int .i64 m.version) := (World.cell?_of_block (w := w6) (a := ⟨c, 5, none⟩) m7).trans a5
  have l0 := Lib.cell_of_heap g7 0
  have l1 := Lib.cell_of_heap g7 1
  have l2 := Lib.cell_of_heap g7 2
  have l3 := Lib.cell_of_heap g7 3
  have l4 := Lib.cell_of_heap g7 4
  have l5 := Lib.cell_of_heap g7 5
  have l6 := Lib.cell_of_heap g7 6
  have z5 := Lib.frozen_of_heap g7 5
  simp only [List.getElem?_toArray, List.getElem?_cons_zero, List.getElem?_cons_succ] at l0 l1 l2 l3 l4 l5 l6
  have R7 := Lib.hid hr7
  have G7 := Lib.hid g7
  clear hr7 m7 g7
  go_wp2_with fail
  go_ret
  have hgw : w.grownBy w7 (some r) := grown_trans hB6 hg7
  have hgs := grown_set hgw (p := ⟨g, 5, none⟩) hgB.out (.int .i64 m.version)
  have hal := (Go.MapKept.heap_alloc (w7.setCell ⟨g, 5, none⟩ (.int .i64 m.version)) (.cells (msgCells (ackM id m.seq m.story m.version)) 33)).1
  rw [World.size_setCell] at hal
  exact ⟨_, rfl, ⟨w7.heap.size, hgw.size, rfl, hal⟩, (R7.out.set G7.out 5 _).below ((Below.refl _ _).alloc (Nat.le_refl _) _), grown_alloc hgs _⟩
end Go.Proofs.YtkpgadjhcnkadaaDoor
