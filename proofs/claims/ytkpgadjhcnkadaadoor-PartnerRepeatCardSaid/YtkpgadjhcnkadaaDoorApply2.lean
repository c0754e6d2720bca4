/- delta.Apply: the deferred closure, and the whole. -/
import Derived.Test.YtkpgadjhcnkadaaDoorApply
namespace Go.Proofs.YtkpgadjhcnkadaaDoor
open Go.RowKit

theorem cell_apart {w : World} {p q : Addr} {v : Value} (h : p.block ≠ q.block) : (w.setCell p v).cell? q = w.cell? q := by
  unfold World.cell?
  rw [Below.heap_setCell w p v q.block (Ne.symm h)]
theorem frozen_apart {w : World} {p q : Addr} {v : Value} (h : p.block ≠ q.block) : (w.setCell p v).frozen? q = w.frozen? q := by
  unfold World.frozen?
  rw [Below.heap_setCell w p v q.block (Ne.symm h)]
section
variable (b c : Nat) (a0 a1 : Addr) (x y : Value) (older : List PanicEntry) (w0 w : World)
set_option maxRecDepth 100000 in
set_option maxHeartbeats 1600000 in
theorem catch_wire (hp : w.cell? ⟨b, 0, none⟩ = some x) (hq : w.cell? ⟨c, 0, none⟩ = some y) (zp : w.frozen? ⟨b, 0, none⟩ = false) (zq : w.frozen? ⟨c, 0, none⟩ = false) (hpq : b ≠ c) (he : ErrCells a0 a1 w0) (hB : Below w0.heap.size w0 w) (hlb : w0.heap.size ≤ b) (hlc : w0.heap.size ≤ c) :
    CallsD Tryd.prog 49 #[.pointer (some ⟨b, 0, none⟩), .pointer (some ⟨c, 0, none⟩)] (.panicking ({ v := errV a0, recovered := false } :: older)) w fun e u' w' =>
      e = .returned (.tuple #[]) ∧ u' = .panicking ({ v := errV a0, recovered := true } :: older) ∧ w'.cell? ⟨b, 0, none⟩ = some (.string ⟨#[]⟩) ∧ w'.cell? ⟨c, 0, none⟩ = some (.int .i64 10) ∧ Below w0.heap.size w0 w' := by
  have hA := isErrorE
  have hcb : c ≠ b := Ne.symm hpq
  refine callsD_of_wpS Tryd.func49 rfl fun c₀ cs hu => ?_
  apply wpS_seq
  apply wpS_region
  simp [wpOpsS, go_sem, recoverD, hu, Tryd.ntmps49, Exit.thenS, errV, hA]
  simp only [Array.replicate_succ, Array.replicate_zero, List.push_toArray, List.append_toArray, List.nil_append, List.cons_append, List.setIfInBounds_toArray, List.set_cons_zero, List.set_cons_succ]
  refine wpS_of_wp ?_
  have p1 : (w.setCell ⟨b, 0, none⟩ (.string ⟨#[]⟩)).cell? ⟨b, 0, none⟩ = some (.string ⟨#[]⟩) := World.cell?_setCell_same _ _ _ hp
  have q1 : (w.setCell ⟨b, 0, none⟩ (.string ⟨#[]⟩)).cell? ⟨c, 0, none⟩ = some y := (cell_apart hpq).trans hq
  have q2 : (w.setCell ⟨b, 0, none⟩ (.string ⟨#[]⟩)).frozen? ⟨c, 0, none⟩ = false := (frozen_apart hpq).trans zq
  have hB2 := (hB.setCell (p := ⟨b, 0, none⟩) hlb (.string ⟨#[]⟩)).setCell (p := ⟨c, 0, none⟩) hlc (.int .i64 190)
  have hdw := (he.below hB2).wire
  have q3 : ((w.setCell ⟨b, 0, none⟩ (.string ⟨#[]⟩)).setCell ⟨c, 0, none⟩ (.int .i64 190)).cell? ⟨c, 0, none⟩ = some (.int .i64 190) := World.cell?_setCell_same _ _ _ q1
  have q4 : ((w.setCell ⟨b, 0, none⟩ (.string ⟨#[]⟩)).setCell ⟨c, 0, none⟩ (.int .i64 190)).frozen? ⟨c, 0, none⟩ = false := by simp [zq]
  have p3 : ((w.setCell ⟨b, 0, none⟩ (.string ⟨#[]⟩)).setCell ⟨c, 0, none⟩ (.int .i64 190)).cell? ⟨b, 0, none⟩ = some (.string ⟨#[]⟩) := (cell_apart hcb).trans p1
  obtain ⟨W, hW⟩ : ∃ W, (w.setCell ⟨b, 0, none⟩ (.string ⟨#[]⟩)).setCell ⟨c, 0, none⟩ (.int .i64 190) = W := ⟨_, rfl⟩
  rw [hW] at q3 q4 p3 hB2 hdw
  clear p1
  go_wp2_with fail
  clear hW q1 q2 hp hq zp zq
  refine (is_same a0 _).mono ?_
  rintro e w1 ⟨rfl, rfl⟩
  go_wp2_with fail
  exact ⟨rfl, _, rfl, _, by simp [results, Tryd.results49], rfl, rfl, (cell_apart hcb).trans p3, World.cell?_setCell_same _ _ _ q3, hB2.setCell (p := ⟨c, 0, none⟩) hlc _⟩
set_option maxRecDepth 100000 in
set_option maxHeartbeats 1600000 in
theorem catch_delta (hp : w.cell? ⟨b, 0, none⟩ = some x) (hq : w.cell? ⟨c, 0, none⟩ = some y) (zp : w.frozen? ⟨b, 0, none⟩ = false) (zq : w.frozen? ⟨c, 0, none⟩ = false) (hpq : b ≠ c) (he : ErrCells a0 a1 w0) (hB : Below w0.heap.size w0 w) (hlb : w0.heap.size ≤ b) (hlc : w0.heap.size ≤ c) :
    CallsD Tryd.prog 49 #[.pointer (some ⟨b, 0, none⟩), .pointer (some ⟨c, 0, none⟩)] (.panicking ({ v := errV a1, recovered := false } :: older)) w fun e u' w' =>
      e = .returned (.tuple #[]) ∧ u' = .panicking ({ v := errV a1, recovered := true } :: older) ∧ w'.cell? ⟨b, 0, none⟩ = some (.string ⟨#[]⟩) ∧ w'.cell? ⟨c, 0, none⟩ = some (.int .i64 190) ∧ Below w0.heap.size w0 w' := by
  have hA := isErrorE
  have hcb : c ≠ b := Ne.symm hpq
  refine callsD_of_wpS Tryd.func49 rfl fun c₀ cs hu => ?_
  apply wpS_seq
  apply wpS_region
  simp [wpOpsS, go_sem, recoverD, hu, Tryd.ntmps49, Exit.thenS, errV, hA]
  simp only [Array.replicate_succ, Array.replicate_zero, List.push_toArray, List.append_toArray, List.nil_append, List.cons_append, List.setIfInBounds_toArray, List.set_cons_zero, List.set_cons_succ]
  refine wpS_of_wp ?_
  have p1 : (w.setCell ⟨b, 0, none⟩ (.string ⟨#[]⟩)).cell? ⟨b, 0, none⟩ = some (.string ⟨#[]⟩) := World.cell?_setCell_same _ _ _ hp
  have q1 : (w.setCell ⟨b, 0, none⟩ (.string ⟨#[]⟩)).cell? ⟨c, 0, none⟩ = some y := (cell_apart hpq).trans hq
  have q2 : (w.setCell ⟨b, 0, none⟩ (.string ⟨#[]⟩)).frozen? ⟨c, 0, none⟩ = false := (frozen_apart hpq).trans zq
  have hB2 := (hB.setCell (p := ⟨b, 0, none⟩) hlb (.string ⟨#[]⟩)).setCell (p := ⟨c, 0, none⟩) hlc (.int .i64 190)
  have hee := he.below hB2
  have hdw := hee.wire
  have q3 : ((w.setCell ⟨b, 0, none⟩ (.string ⟨#[]⟩)).setCell ⟨c, 0, none⟩ (.int .i64 190)).cell? ⟨c, 0, none⟩ = some (.int .i64 190) := World.cell?_setCell_same _ _ _ q1
  have q4 : ((w.setCell ⟨b, 0, none⟩ (.string ⟨#[]⟩)).setCell ⟨c, 0, none⟩ (.int .i64 190)).frozen? ⟨c, 0, none⟩ = false := by simp [zq]
  have p3 : ((w.setCell ⟨b, 0, none⟩ (.string ⟨#[]⟩)).setCell ⟨c, 0, none⟩ (.int .i64 190)).cell? ⟨b, 0, none⟩ = some (.string ⟨#[]⟩) := (cell_apart hcb).trans p1
  obtain ⟨W, hW⟩ : ∃ W, (w.setCell ⟨b, 0, none⟩ (.string ⟨#[]⟩)).setCell ⟨c, 0, none⟩ (.int .i64 190) = W := ⟨_, rfl⟩
  rw [hW] at q3 q4 p3 hB2 hdw hee
  obtain ⟨u0, t0, g0⟩ := hee.h0
  obtain ⟨u1, t1, g1⟩ := hee.h1
  have hne := Ne.symm hee.ne
  have hio := Lib.hid (is_other a1 a0 u1 u0 t1 t0 W hne g1 g0)
  clear g0 g1 hne hee
  clear p1
  go_wp2_with fail
  clear hW q1 q2 hp hq zp zq
  refine (hio.out).mono ?_
  rintro e w1 ⟨rfl, rfl⟩
  go_wp2_with fail
  exact ⟨rfl, _, rfl, _, by simp [results, Tryd.results49], rfl, rfl, p3, q3, hB2⟩
set_option maxRecDepth 100000 in
set_option maxHeartbeats 1600000 in
theorem catch_idle (w : World) :
    CallsD Tryd.prog 49 #[.pointer (some ⟨b, 0, none⟩), .pointer (some ⟨c, 0, none⟩)] .returning w fun e u' w' => e = .returned (.tuple #[]) ∧ u' = .returning ∧ w' = w := by
  refine callsD_of_wpS Tryd.func49 rfl fun c₀ cs hu => ?_
  apply wpS_seq
  apply wpS_region
  have hN : ∀ w : World, (Instr.typeAssert .nilIface 20 98 true).run Tryd.prog w = .ok (.tuple #[.nilIface, .bool false]) w := fun w => by kernel_rfl
  simp [wpOpsS, go_sem, recoverD, hu, Tryd.ntmps49, Exit.thenS, hN]
  simp only [Array.replicate_succ, Array.replicate_zero, List.push_toArray, List.append_toArray, List.nil_append, List.cons_append, List.setIfInBounds_toArray, List.set_cons_zero, List.set_cons_succ]
  refine wpS_of_wp ?_
  cases c₀
  simp only at hu
  subst hu
  go_wp2_with fail
  exact ⟨rfl, _, rfl, _, by simp [results, Tryd.results49], rfl, rfl, rfl⟩
end
end Go.Proofs.YtkpgadjhcnkadaaDoor
