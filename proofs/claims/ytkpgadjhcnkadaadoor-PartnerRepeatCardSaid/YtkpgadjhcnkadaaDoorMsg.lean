/- Messages as data; message.Valid and copydeskref20.Valid compute the same test. -/
import Derived.Test.YtkpgadjhcnkadaaDoorWalkRead
namespace Go.Proofs.YtkpgadjhcnkadaaDoor
open Go.RowKit

structure Msg where
  kind : Int
  partner : Int
  seq : Int
  story : Int
  base : Int
  version : Int
  data : ByteArray
def msgV (m : Msg) : Value := .agg #[.int .i64 m.kind, .int .i64 m.partner, .int .i64 m.seq, .int .i64 m.story, .int .i64 m.base, .int .i64 m.version, .string m.data]
def withinB (n lo hi : Int) : Bool := decide (lo ≤ n) && decide (n ≤ hi)
def isSumB (n : Int) (any : Bool) : Bool := withinB n 0 4294967295 && (any || n == 0)
def ruleF (kind : Int) : (Bool × Bool × Int) × Bool :=
  if kind = 1 then ((true, true, 16384), true) else if kind = 2 then ((false, false, 0), true) else if kind = 3 then ((false, true, 0), true) else if kind = 4 then ((true, false, 0), true) else ((false, false, 0), false)
def validM (m : Msg) : Bool :=
  (ruleF m.kind).2 && withinB m.partner 1 8 && withinB m.seq 1 4611686018427387903 && withinB m.story 1 64 && isSumB m.base (ruleF m.kind).1.1 && isSumB m.version (ruleF m.kind).1.2.1 && decide ((m.data.size : Int) ≤ (ruleF m.kind).1.2.2)
def ruleV (r : Bool × Bool × Int) : Value := .agg #[.bool r.1, .bool r.2.1, .int .i64 r.2.2]

theorem within_any (n lo hi : Int) (w : World) : Calls Tryd.prog 41 #[.int .i64 n, .int .i64 lo, .int .i64 hi] w fun e w' => e = .returned (.bool (withinB n lo hi)) ∧ w = w' := by
  by_cases h1 : lo ≤ n
  · by_cases h2 : n ≤ hi
    · have d1 : decide (lo ≤ n) = true := decide_eq_true h1
      have d2 : decide (n ≤ hi) = true := decide_eq_true h2
      have e : withinB n lo hi = true := by unfold withinB; rw [d1, d2]; rfl
      rw [e]
      go_enter Tryd.func41, Tryd.ntmps41
      go_wp2
      go_ret
      exact ⟨rfl, rfl⟩
    · have d1 : decide (lo ≤ n) = true := decide_eq_true h1
      have d2 : decide (n ≤ hi) = false := decide_eq_false h2
      have e : withinB n lo hi = false := by unfold withinB; rw [d1, d2]; rfl
      rw [e]
      go_enter Tryd.func41, Tryd.ntmps41
      go_wp2
      go_ret
      exact ⟨rfl, rfl⟩
  · have d1 : decide (lo ≤ n) = false := decide_eq_false h1
    have e : withinB n lo hi = false := by unfold withinB; rw [d1]; rfl
    rw [e]
    go_enter Tryd.func41, Tryd.ntmps41
    go_wp2
    go_ret
    exact ⟨rfl, rfl⟩
theorem isSum_any (n : Int) (any : Bool) (w : World) : Calls Tryd.prog 42 #[.int .i64 n, .bool any] w fun e w' => e = .returned (.bool (isSumB n any)) ∧ w = w' := by
  obtain ⟨b, hb⟩ : ∃ b, withinB n 0 4294967295 = b := ⟨_, rfl⟩
  have hw := within_any n 0 4294967295
  simp only [hb] at hw
  have Hw := Lib.hid hw
  unfold isSumB
  rw [hb]
  clear hw hb
  go_enter Tryd.func42, Tryd.ntmps42
  go_wp2_with fail
  refine (Hw.out _).mono ?_
  rintro e w' ⟨rfl, rfl⟩
  cases b
  · go_wp2_with fail
    go_ret
    exact ⟨rfl, rfl⟩
  · cases any
    · go_wp2_with fail
      go_ret
      exact ⟨rfl, rfl⟩
    · go_wp2_with fail
      go_ret
      exact ⟨rfl, rfl⟩
set_option maxRecDepth 100000 in
set_option maxHeartbeats 1600000 in
theorem ruleOf_any (k : Int) (w : World) : Calls Tryd.prog 40 #[.int .i64 k] w fun e w' => e = .returned (.tuple #[ruleV (ruleF k).1, .bool (ruleF k).2]) ∧ Below w.heap.size w w' := by
  have hB : ∀ o, Below w.heap.size w (w.alloc o) := fun o => (Below.refl _ _).alloc (Nat.le_refl _) _
  unfold ruleF
  by_cases h1 : k = 1
  · subst h1
    go_enter Tryd.func40, Tryd.ntmps40
    go_wp2_with fail
    exact bodyPost_ret (by simp [results, Tryd.results40, go_sem]; rfl) rfl ⟨rfl, hB _⟩
  by_cases h2 : k = 2
  · subst h2
    go_enter Tryd.func40, Tryd.ntmps40
    go_wp2_with fail
    exact bodyPost_ret (by simp [results, Tryd.results40, go_sem]; rfl) rfl ⟨rfl, hB _⟩
  by_cases h3 : k = 3
  · subst h3
    go_enter Tryd.func40, Tryd.ntmps40
    go_wp2_with fail
    exact bodyPost_ret (by simp [results, Tryd.results40, go_sem]; rfl) rfl ⟨rfl, hB _⟩
  by_cases h4 : k = 4
  · subst h4
    go_enter Tryd.func40, Tryd.ntmps40
    go_wp2_with fail
    exact bodyPost_ret (by simp [results, Tryd.results40, go_sem]; rfl) rfl ⟨rfl, hB _⟩
  have e1 : (k == 1) = false := by simp [h1]
  have e2 : (k == 2) = false := by simp [h2]
  have e3 : (k == 3) = false := by simp [h3]
  have e4 : (k == 4) = false := by simp [h4]
  rw [if_neg h1, if_neg h2, if_neg h3, if_neg h4]
  go_enter Tryd.func40, Tryd.ntmps40
  go_wp2_with fail
  exact bodyPost_ret (by simp [results, Tryd.results40, go_sem]; rfl) rfl ⟨rfl, hB _⟩
theorem cell_new_at (w : World) (cs : Array Value) (t : TypeId) (i : Nat) (v : Value) (h : cs[i]? = some v) : (w.alloc (.cells cs t)).cell? ⟨w.heap.size, i, none⟩ = some v := by
  have hb : (w.alloc (.cells cs t)).heap[w.heap.size]? = some (.cells cs t) := by unfold World.alloc; simp
  rw [Lib.cell_of_heap hb]
  exact h
set_option maxRecDepth 100000 in
set_option maxHeartbeats 3200000 in
theorem valid_any (m : Msg) (w : World) (hs : m.data.size ≤ 4611686018427387904) : Calls Tryd.prog 31 #[msgV m] w fun e w' => e = .returned (.bool (validM m)) ∧ Below w.heap.size w w' := by
  obtain ⟨k, p, q, s, b, v, d⟩ := m
  simp only at hs
  obtain ⟨⟨⟨rb, rv, rd⟩, known⟩, hrule⟩ : ∃ r, ruleF k = r := ⟨_, rfl⟩
  have cr := fun W => ruleOf_any k W
  obtain ⟨x1, h1⟩ : ∃ x, withinB p 1 8 = x := ⟨_, rfl⟩
  obtain ⟨x2, h2⟩ : ∃ x, withinB q 1 4611686018427387903 = x := ⟨_, rfl⟩
  obtain ⟨x3, h3⟩ : ∃ x, withinB s 1 64 = x := ⟨_, rfl⟩
  obtain ⟨x4, h4⟩ : ∃ x, isSumB b rb = x := ⟨_, rfl⟩
  obtain ⟨x5, h5⟩ : ∃ x, isSumB v rv = x := ⟨_, rfl⟩
  obtain ⟨x6, h6⟩ : ∃ x, decide ((d.size : Int) ≤ rd) = x := ⟨_, rfl⟩
  have c1 := fun W => within_any p 1 8 W
  have c2 := fun W => within_any q 1 4611686018427387903 W
  have c3 := fun W => within_any s 1 64 W
  have c4 := fun W => isSum_any b rb W
  have c5 := fun W => isSum_any v rv W
  unfold validM msgV
  simp only [hrule, h1, h2, h3, h4, h5, h6] at cr c1 c2 c3 c4 c5 ⊢
  have Cr := Lib.hid cr
  have C1 := Lib.hid c1
  have C2 := Lib.hid c2
  have C3 := Lib.hid c3
  have C4 := Lib.hid c4
  have C5 := Lib.hid c5
  clear cr c1 c2 c3 c4 c5 hrule h1 h2 h3 h4 h5
  unfold ruleV at Cr
  go_enter Tryd.func31, Tryd.ntmps31
  go_wp2_with fail
  obtain ⟨w0, hw0⟩ : ∃ w0, w.alloc (.cells #[.int .i64 k, .int .i64 p, .int .i64 q, .int .i64 s, .int .i64 b, .int .i64 v, .string d] 33) = w0 := ⟨_, rfl⟩
  have hB0 : Below w.heap.size w w0 := by rw [← hw0]; exact (Below.refl _ _).alloc (Nat.le_refl _) _
  have hs0 : w0.heap.size = w.heap.size + 1 := by rw [← hw0]; simp
  have g1 : w0.cell? ⟨w.heap.size, 1, none⟩ = some (.int .i64 p) := by rw [← hw0]; exact cell_new_at _ _ _ _ _ rfl
  have g2 : w0.cell? ⟨w.heap.size, 2, none⟩ = some (.int .i64 q) := by rw [← hw0]; exact cell_new_at _ _ _ _ _ rfl
  have g3 : w0.cell? ⟨w.heap.size, 3, none⟩ = some (.int .i64 s) := by rw [← hw0]; exact cell_new_at _ _ _ _ _ rfl
  have g4 : w0.cell? ⟨w.heap.size, 4, none⟩ = some (.int .i64 b) := by rw [← hw0]; exact cell_new_at _ _ _ _ _ rfl
  have g5 : w0.cell? ⟨w.heap.size, 5, none⟩ = some (.int .i64 v) := by rw [← hw0]; exact cell_new_at _ _ _ _ _ rfl
  have g6 : w0.cell? ⟨w.heap.size, 6, none⟩ = some (.string d) := by rw [← hw0]; exact cell_new_at _ _ _ _ _ rfl
  rw [hw0]
  clear hw0
  refine (Cr.out _).mono ?_
  rintro e w1 ⟨rfl, hb1⟩
  have hs1 := hb1.size
  have k1 := (hb1.cell (p := ⟨w.heap.size, 1, none⟩) (by rw [hs0]; exact Nat.lt_succ_self _)).trans g1
  have k2 := (hb1.cell (p := ⟨w.heap.size, 2, none⟩) (by rw [hs0]; exact Nat.lt_succ_self _)).trans g2
  have k3 := (hb1.cell (p := ⟨w.heap.size, 3, none⟩) (by rw [hs0]; exact Nat.lt_succ_self _)).trans g3
  have k4 := (hb1.cell (p := ⟨w.heap.size, 4, none⟩) (by rw [hs0]; exact Nat.lt_succ_self _)).trans g4
  have k5 := (hb1.cell (p := ⟨w.heap.size, 5, none⟩) (by rw [hs0]; exact Nat.lt_succ_self _)).trans g5
  have k6 := (hb1.cell (p := ⟨w.heap.size, 6, none⟩) (by rw [hs0]; exact Nat.lt_succ_self _)).trans g6
  have hB1 := hB0.trans (hb1.mono (by omega))
  clear g1 g2 g3 g4 g5 g6 hb1 hB0
  obtain ⟨w2, hw2⟩ : ∃ w2, w1.alloc (.cells #[.bool rb, .bool rv, .int .i64 rd] 83) = w2 := ⟨_, rfl⟩
  have hB2 : Below w.heap.size w w2 := by rw [← hw2]; exact hB1.alloc (by omega) _
  have l0 : w2.cell? ⟨w1.heap.size, 0, none⟩ = some (.bool rb) := by rw [← hw2]; exact cell_new_at _ _ _ _ _ rfl
  have l1 : w2.cell? ⟨w1.heap.size, 1, none⟩ = some (.bool rv) := by rw [← hw2]; exact cell_new_at _ _ _ _ _ rfl
  have l2 : w2.cell? ⟨w1.heap.size, 2, none⟩ = some (.int .i64 rd) := by rw [← hw2]; exact cell_new_at _ _ _ _ _ rfl
  have al : Below w1.heap.size w1 w2 := by rw [← hw2]; exact (Below.refl _ _).alloc (Nat.le_refl _) _
  have m1 := (al.cell (p := ⟨w.heap.size, 1, none⟩) (show w.heap.size < _ by omega)).trans k1
  have m2 := (al.cell (p := ⟨w.heap.size, 2, none⟩) (show w.heap.size < _ by omega)).trans k2
  have m3 := (al.cell (p := ⟨w.heap.size, 3, none⟩) (show w.heap.size < _ by omega)).trans k3
  have m4 := (al.cell (p := ⟨w.heap.size, 4, none⟩) (show w.heap.size < _ by omega)).trans k4
  have m5 := (al.cell (p := ⟨w.heap.size, 5, none⟩) (show w.heap.size < _ by omega)).trans k5
  have m6 := (al.cell (p := ⟨w.heap.size, 6, none⟩) (show w.heap.size < _ by omega)).trans k6
  clear k1 k2 k3 k4 k5 k6 al
  cases known
  · go_wp2_with fail
    go_ret
    exact ⟨rfl, hB2⟩
  go_wp2_with fail
  refine (C1.out _).mono ?_
  rintro e w' ⟨rfl, rfl⟩
  cases x1
  · go_wp2_with fail
    go_ret
    exact ⟨rfl, hB2⟩
  go_wp2_with fail
  refine (C2.out _).mono ?_
  rintro e w' ⟨rfl, rfl⟩
  cases x2
  · go_wp2_with fail
    go_ret
    exact ⟨rfl, hB2⟩
  go_wp2_with fail
  refine (C3.out _).mono ?_
  rintro e w' ⟨rfl, rfl⟩
  cases x3
  · go_wp2_with fail
    go_ret
    exact ⟨rfl, hB2⟩
  go_wp2_with fail
  refine (C4.out _).mono ?_
  rintro e w' ⟨rfl, rfl⟩
  cases x4
  · go_wp2_with fail
    go_ret
    exact ⟨rfl, hB2⟩
  go_wp2_with fail
  refine (C5.out _).mono ?_
  rintro e w' ⟨rfl, rfl⟩
  cases x5
  · go_wp2_with fail
    go_ret
    exact ⟨rfl, hB2⟩
  go_wp2_with fail
  go_ret
  exact ⟨by simp, hB2⟩
end Go.Proofs.YtkpgadjhcnkadaaDoor
