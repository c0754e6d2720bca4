/- Slices of integers that came in, with their capacity. Arrays of integers that came in by value; slices of six integers each. -/
import Derived.Test.YtkpgadjhcnkadaaDoorRowKitE
import Derived.Test.YtkpgadjhcnkadaaDoorMade
import Derived.Deep.Slices
namespace Go.Proofs.YtkpgadjhcnkadaaDoor
open Go.ChangeShapes Go.WideShapes Go.ChangeAt Go.RowKit

/-- What a slice of integers holds; it is no longer than its capacity. -/
def IntsC (W : World) (A : Option Addr) (l c : Nat) (zs : List Int) : Prop := IntsIn W A l zs ∧ l ≤ c ∧ c ≤ maxLen
section
variable {H : Type} {enc : TypeId × Value → H} {P : Program} {w : World} {base : Nat} {held : Bool} {r : Reach} {b0 : Nat}
theorem open_intsC {t e : TypeId} {v : Value} {d : DataW H} {ps : List MemPlace} (ht : P.underlying t = some (.slice e)) (he : P.underlying e = some (.int .i64)) (hc : P.cellsOf e = 1)
    (hv : Value.okWide P w r b0 t v) (hd : DataW.Trod enc P w 0 (fun _ => true) held t v d ps) : ∃ (A : Option Addr) (l c : Nat) (zs : List Int), v = .slice A l c ∧ IntsC w A l c zs := by
  obtain ⟨A, l, c, rfl⟩ := okWide_slice ht hv
  obtain ⟨fuel, hf⟩ := hd
  rcases open_ints ht he hc hf with ⟨hcs, _⟩ | ⟨x, l', c', zs, hcs, _, hl, hm, hz, _, hcell, hwz⟩
  · simp [Value.cells] at hcs
    obtain ⟨rfl, rfl, rfl⟩ := hcs
    exact ⟨none, 0, 0, [], rfl, ⟨rfl, by decide, fun h => absurd h (by decide), by simp⟩, by decide, by decide⟩
  · simp [Value.cells] at hcs
    obtain ⟨rfl, rfl, rfl⟩ := hcs
    have hzl : zs.length = c := by simpa using hz
    refine ⟨_, l, c, zs.take l, rfl, ⟨by simp; omega, by omega, fun h0 => ?_, fun z hz' => wfb_i64 (hwz z (List.mem_of_mem_take hz'))⟩, hl, by omega⟩
    obtain ⟨b, off, rfl, hc2⟩ := ints_at hcell (by omega)
    refine ⟨b, off, rfl, World.block_lt_of_cell? w _ (hc2 0 (by omega)), fun i hi => ?_⟩
    rw [hc2 i (by omega)]
    simp [List.getD_eq_getElem?_getD, hi]
end
end Go.Proofs.YtkpgadjhcnkadaaDoor
set_option linter.unusedSimpArgs false
set_option linter.unusedVariables false
namespace Go.Proofs.YtkpgadjhcnkadaaDoor
open Go.ChangeShapes Go.WideShapes Go.ChangeAt Go.RowKit Go.Deep

theorem listed {α : Type} {R : Nat → α → Prop} (l : Nat) (h : ∀ i, i < l → ∃ z, R i z) : ∃ zs : List α, zs.length = l ∧ ∀ i, i < l → ∃ z, zs[i]? = some z ∧ R i z := by
  induction l with
  | zero => exact ⟨[], rfl, fun i h => absurd h (by omega)⟩
  | succ l ih =>
    obtain ⟨zs, h1, h2⟩ := ih (fun i hi => h i (by omega))
    obtain ⟨z, hz⟩ := h l (by omega)
    refine ⟨zs ++ [z], by simp [h1], fun i hi => ?_⟩
    by_cases e : i = l
    · subst e
      exact ⟨z, by rw [← h1]; simp, hz⟩
    · obtain ⟨y, hy, hr⟩ := h2 i (by omega)
      exact ⟨y, by rw [List.getElem?_append_left (by omega)]; exact hy, hr⟩
theorem addr_add (b off i : Nat) : (⟨b, off, none⟩ : Addr).add i = ⟨b, off + i, none⟩ := by unfold Addr.add; split <;> simp_all
section
variable {H : Type} {enc : TypeId × Value → H} {P : Program} {w : World} {base : Nat} {sp : Nat → Bool} {held : Bool} {r : Reach} {b0 : Nat}
theorem open_arr2 {t e : TypeId} {v : Value} {d : DataW H} {ps : List MemPlace} (ht : P.underlying t = some (.array 2 e)) (he : P.underlying e = some (.int .i64)) (hce : P.cellsOf e = 1) (hct : P.cellsOf t = 2)
    (hv : Value.okWide P w r b0 t v) (hd : DataW.Trod enc P w base sp held t v d ps) : ∃ a0 a1 : Int, v = .agg #[.int .i64 a0, .int .i64 a1] ∧ In64 a0 ∧ In64 a1 := by
  obtain ⟨cs, rfl, hsz⟩ := okWide_array ht hv
  obtain ⟨l⟩ := cs
  match l, hsz.trans hct with
  | [c0, c1], _ =>
    obtain ⟨fuel, hf⟩ := hd
    obtain ⟨xs, m, _, _, _, hxl, hg⟩ := DataW.trod_array ht hf
    have g0 := hg 0 (by decide)
    have g1 := hg 1 (by decide)
    rw [hce] at g0 g1
    match xs, hxl with
    | [y0, y1], _ =>
      obtain ⟨z0, e0, _, u0⟩ := DataW.trod_int he (show DataW.trod enc P w base sp held m e [c0] = some y0 from by simpa [Value.cells] using g0)
      obtain ⟨z1, e1, _, u1⟩ := DataW.trod_int he (show DataW.trod enc P w base sp held m e [c1] = some y1 from by simpa [Value.cells] using g1)
      simp only [List.cons.injEq, and_true] at e0 e1
      subst e0 e1
      exact ⟨z0, z1, rfl, wfb_i64 u0, wfb_i64 u1⟩
theorem open_arr3 {t e : TypeId} {v : Value} {d : DataW H} {ps : List MemPlace} (ht : P.underlying t = some (.array 3 e)) (he : P.underlying e = some (.int .i64)) (hce : P.cellsOf e = 1) (hct : P.cellsOf t = 3)
    (hv : Value.okWide P w r b0 t v) (hd : DataW.Trod enc P w base sp held t v d ps) : ∃ a0 a1 a2 : Int, v = .agg #[.int .i64 a0, .int .i64 a1, .int .i64 a2] ∧ In64 a0 ∧ In64 a1 ∧ In64 a2 := by
  obtain ⟨cs, rfl, hsz⟩ := okWide_array ht hv
  obtain ⟨l⟩ := cs
  match l, hsz.trans hct with
  | [c0, c1, c2], _ =>
    obtain ⟨fuel, hf⟩ := hd
    obtain ⟨xs, m, _, _, _, hxl, hg⟩ := DataW.trod_array ht hf
    have g0 := hg 0 (by decide)
    have g1 := hg 1 (by decide)
    have g2 := hg 2 (by decide)
    rw [hce] at g0 g1 g2
    match xs, hxl with
    | [y0, y1, y2], _ =>
      obtain ⟨z0, e0, _, u0⟩ := DataW.trod_int he (show DataW.trod enc P w base sp held m e [c0] = some y0 from by simpa [Value.cells] using g0)
      obtain ⟨z1, e1, _, u1⟩ := DataW.trod_int he (show DataW.trod enc P w base sp held m e [c1] = some y1 from by simpa [Value.cells] using g1)
      obtain ⟨z2, e2, _, u2⟩ := DataW.trod_int he (show DataW.trod enc P w base sp held m e [c2] = some y2 from by simpa [Value.cells] using g2)
      simp only [List.cons.injEq, and_true] at e0 e1 e2
      subst e0 e1 e2
      exact ⟨z0, z1, z2, rfl, wfb_i64 u0, wfb_i64 u1, wfb_i64 u2⟩
theorem open_arr6 {t e : TypeId} {v : Value} {d : DataW H} {ps : List MemPlace} (ht : P.underlying t = some (.array 6 e)) (he : P.underlying e = some (.int .i64)) (hce : P.cellsOf e = 1) (hct : P.cellsOf t = 6)
    (hv : Value.okWide P w r b0 t v) (hd : DataW.Trod enc P w base sp held t v d ps) : ∃ a0 a1 a2 a3 a4 a5 : Int, v = .agg #[.int .i64 a0, .int .i64 a1, .int .i64 a2, .int .i64 a3, .int .i64 a4, .int .i64 a5] ∧ In64 a0 ∧ In64 a1 ∧ In64 a2 ∧ In64 a3 ∧ In64 a4 ∧ In64 a5 := by
  obtain ⟨cs, rfl, hsz⟩ := okWide_array ht hv
  obtain ⟨l⟩ := cs
  match l, hsz.trans hct with
  | [c0, c1, c2, c3, c4, c5], _ =>
    obtain ⟨fuel, hf⟩ := hd
    obtain ⟨xs, m, _, _, _, hxl, hg⟩ := DataW.trod_array ht hf
    have g0 := hg 0 (by decide)
    have g1 := hg 1 (by decide)
    have g2 := hg 2 (by decide)
    have g3 := hg 3 (by decide)
    have g4 := hg 4 (by decide)
    have g5 := hg 5 (by decide)
    rw [hce] at g0 g1 g2 g3 g4 g5
    match xs, hxl with
    | [y0, y1, y2, y3, y4, y5], _ =>
      obtain ⟨z0, e0, _, u0⟩ := DataW.trod_int he (show DataW.trod enc P w base sp held m e [c0] = some y0 from by simpa [Value.cells] using g0)
      obtain ⟨z1, e1, _, u1⟩ := DataW.trod_int he (show DataW.trod enc P w base sp held m e [c1] = some y1 from by simpa [Value.cells] using g1)
      obtain ⟨z2, e2, _, u2⟩ := DataW.trod_int he (show DataW.trod enc P w base sp held m e [c2] = some y2 from by simpa [Value.cells] using g2)
      obtain ⟨z3, e3, _, u3⟩ := DataW.trod_int he (show DataW.trod enc P w base sp held m e [c3] = some y3 from by simpa [Value.cells] using g3)
      obtain ⟨z4, e4, _, u4⟩ := DataW.trod_int he (show DataW.trod enc P w base sp held m e [c4] = some y4 from by simpa [Value.cells] using g4)
      obtain ⟨z5, e5, _, u5⟩ := DataW.trod_int he (show DataW.trod enc P w base sp held m e [c5] = some y5 from by simpa [Value.cells] using g5)
      simp only [List.cons.injEq, and_true] at e0 e1 e2 e3 e4 e5
      subst e0 e1 e2 e3 e4 e5
      exact ⟨z0, z1, z2, z3, z4, z5, rfl, wfb_i64 u0, wfb_i64 u1, wfb_i64 u2, wfb_i64 u3, wfb_i64 u4, wfb_i64 u5⟩
theorem open_sixR {t e ti : TypeId} {v : Value} {d : DataW H} {ps : List MemPlace} (ht : P.underlying t = some (.slice e)) (he : P.underlying e = some (.array 6 ti)) (hi : P.underlying ti = some (.int .i64)) (hci : P.cellsOf ti = 1) (hce : P.cellsOf e = 6)
    (hv : Value.okWide P w r b0 t v) (hd : DataW.Trod enc P w 0 (fun _ => true) held t v d ps) : ∃ (A : Option Addr) (l c : Nat) (zs : List Six), v = .slice A l c ∧ SixIn w A l zs := by
  obtain ⟨A, l, c, rfl⟩ := okWide_slice ht hv
  obtain ⟨fuel, hf⟩ := hd
  rcases open_slice ht hf with ⟨hcs', _⟩ | ⟨a, l', c', m, n, D, Pl, hcs', _, hl, hm, hmm, _, hcell⟩
  · simp [Value.cells] at hcs'
    obtain ⟨rfl, rfl, rfl⟩ := hcs'
    exact ⟨none, 0, 0, [], rfl, rfl, by decide, fun h => absurd h (by decide), by simp⟩
  · simp [Value.cells] at hcs'
    obtain ⟨rfl, rfl, rfl⟩ := hcs'
    have hml : l ≤ m := by rw [hmm]; simp; omega
    have key : ∀ i, i < l → ∃ z : Six, (w.cell? ((a.add (i * 6)).add 0) = some (.int .i64 z.x0) ∧ w.cell? ((a.add (i * 6)).add 1) = some (.int .i64 z.x1) ∧ w.cell? ((a.add (i * 6)).add 2) = some (.int .i64 z.x2) ∧ w.cell? ((a.add (i * 6)).add 3) = some (.int .i64 z.x3) ∧ w.cell? ((a.add (i * 6)).add 4) = some (.int .i64 z.x4) ∧ w.cell? ((a.add (i * 6)).add 5) = some (.int .i64 z.x5)) ∧ z.Ok := by
      intro i hil
      obtain ⟨cs', hcells, htr⟩ := hcell i (by omega)
      rw [hce] at hcells
      obtain ⟨xs, n', _, _, hl3, hxl, hff⟩ := DataW.trod_array he htr
      obtain ⟨hlen, _, hat⟩ := World.cells?_some hcells
      match cs', hlen, xs, hxl with
      | [c0, c1, c2, c3, c4, c5], _, [y0, y1, y2, y3, y4, y5], _ =>
        have g0 := hff 0 (by decide)
        have g1 := hff 1 (by decide)
        have g2 := hff 2 (by decide)
        have g3 := hff 3 (by decide)
        have g4 := hff 4 (by decide)
        have g5 := hff 5 (by decide)
        rw [hci] at g0 g1 g2 g3 g4 g5
        obtain ⟨z0, e0, _, u0⟩ := DataW.trod_int hi (show DataW.trod enc P w 0 (fun _ => true) held n' ti [c0] = some y0 from by simpa using g0)
        obtain ⟨z1, e1, _, u1⟩ := DataW.trod_int hi (show DataW.trod enc P w 0 (fun _ => true) held n' ti [c1] = some y1 from by simpa using g1)
        obtain ⟨z2, e2, _, u2⟩ := DataW.trod_int hi (show DataW.trod enc P w 0 (fun _ => true) held n' ti [c2] = some y2 from by simpa using g2)
        obtain ⟨z3, e3, _, u3⟩ := DataW.trod_int hi (show DataW.trod enc P w 0 (fun _ => true) held n' ti [c3] = some y3 from by simpa using g3)
        obtain ⟨z4, e4, _, u4⟩ := DataW.trod_int hi (show DataW.trod enc P w 0 (fun _ => true) held n' ti [c4] = some y4 from by simpa using g4)
        obtain ⟨z5, e5, _, u5⟩ := DataW.trod_int hi (show DataW.trod enc P w 0 (fun _ => true) held n' ti [c5] = some y5 from by simpa using g5)
        simp only [List.cons.injEq, and_true] at e0 e1 e2 e3 e4 e5
        subst e0 e1 e2 e3 e4 e5
        exact ⟨⟨z0, z1, z2, z3, z4, z5⟩, ⟨hat 0 (by omega), hat 1 (by omega), hat 2 (by omega), hat 3 (by omega), hat 4 (by omega), hat 5 (by omega)⟩, wfb_i64 u0, wfb_i64 u1, wfb_i64 u2, wfb_i64 u3, wfb_i64 u4, wfb_i64 u5⟩
    obtain ⟨zs, hzl, hz⟩ := listed l key
    refine ⟨_, l, c, zs, rfl, hzl, by omega, fun h0 => ?_, fun z hz' => ?_⟩
    · obtain ⟨z, _, ⟨h00, _⟩, _⟩ := hz 0 h0
      obtain ⟨b, off, spot⟩ := a
      have hspot : spot = none := by simpa [Addr.add] using World.cell?_spot h00
      subst hspot
      refine ⟨b, off, rfl, ?_, fun i hi' => ?_⟩
      · rw [addr_add, addr_add] at h00; exact World.block_lt_of_cell? w _ h00
      · obtain ⟨z, q0, ⟨q1, q2, q3, q4, q5, q6⟩, _⟩ := hz i hi'
        rw [addr_add, addr_add] at q1 q2 q3 q4 q5 q6
        exact ⟨z, q0, q1, q2, q3, q4, q5, q6⟩
    · obtain ⟨i, hi', he'⟩ := List.getElem_of_mem hz'
      obtain ⟨z2, q0, _, q4⟩ := hz i (by omega)
      rw [List.getElem?_eq_getElem hi', he'] at q0
      cases q0
      exact q4
end
theorem cellsInt : Tryd.prog.cellsOf 3 = 1 := by kernel_rfl
theorem cellsSix : Tryd.prog.cellsOf 35 = 6 := by kernel_rfl
theorem cells2 : Tryd.prog.cellsOf 54 = 2 := by kernel_rfl
theorem cells3 : Tryd.prog.cellsOf 63 = 3 := by kernel_rfl
end Go.Proofs.YtkpgadjhcnkadaaDoor
