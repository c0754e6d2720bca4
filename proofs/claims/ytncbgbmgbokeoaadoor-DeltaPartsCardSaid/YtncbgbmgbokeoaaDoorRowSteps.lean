/- Slices of structs that came in: StepParams, PieceParams. -/
import Derived.Test.YtncbgbmgbokeoaaDoorRowKitE
import Derived.Test.YtncbgbmgbokeoaaDoorLawOps
import Derived.Test.YtncbgbmgbokeoaaDoorLawParts
import Derived.Deep.Slices
namespace Go.Proofs.YtncbgbmgbokeoaaDoor
open Go.ChangeShapes Go.WideShapes Go.ChangeAt Go.RowKit Go.Deep

theorem listed {α : Type} {R : Nat → α → Prop} (l : Nat) (h : ∀ i, i < l → ∃ z, R i z) : ∃ zs : List α, zs.length = l ∧ ∀ i, i < l → ∃ z, zs[i]? = some z ∧ R i z := by
  induction l with
  | zero => exact ⟨[], rfl, fun i h => absurd h (by omega)⟩
  | succ l ih =>
    obtain ⟨zs, h1, h2⟩ := ih (fun i hi => h i (by omega))
    obtain ⟨z, hz⟩ := h l (by omega)
    refine ⟨zs ++ [z], by simp [h1], fun i hi => ?_⟩
    by_cases e : i = l
    · subst e
      exact ⟨z, by rw [← h1]; simp, hz⟩
    · obtain ⟨y, hy, hr⟩ := h2 i (by omega)
      exact ⟨y, by rw [List.getElem?_append_left (by omega)]; exact hy, hr⟩
section
variable {H : Type} {enc : TypeId × Value → H} {P : Program} {w : World} {held : Bool} {r : Reach} {b0 : Nat}
theorem addr_add (b off i : Nat) : (⟨b, off, none⟩ : Addr).add i = ⟨b, off + i, none⟩ := by unfold Addr.add; split <;> simp_all
theorem open_stepsR {t e ti ts : TypeId} {v : Value} {d : DataW H} {ps : List MemPlace} (ht : P.underlying t = some (.slice e))
    (he : ∃ f0 f1 f2 : Field, P.underlying e = some (.struct #[f0, f1, f2]) ∧ (f0.type = ti ∧ f0.offset = 0) ∧ (f1.type = ti ∧ f1.offset = 1) ∧ (f2.type = ts ∧ f2.offset = 2))
    (hi : P.underlying ti = some (.int .i64)) (hs : P.underlying ts = some .string) (hci : P.cellsOf ti = 1) (hcs : P.cellsOf ts = 1) (hce : P.cellsOf e = 3)
    (hv : Value.okWide P w r b0 t v) (hd : DataW.Trod enc P w 0 (fun _ => true) held t v d ps) : ∃ (A : Option Addr) (l c : Nat) (zs : List Op3), v = .slice A l c ∧ StepsIn w A l zs := by
  obtain ⟨A, l, c, rfl⟩ := okWide_slice ht hv
  obtain ⟨fuel, hf⟩ := hd
  obtain ⟨f0, f1, f2, hst, ⟨t0, o0⟩, ⟨t1, o1⟩, ⟨t2, o2⟩⟩ := he
  rcases open_slice ht hf with ⟨hcs', _⟩ | ⟨a, l', c', m, n, D, Pl, hcs', _, hl, hm, hmm, _, hcell⟩
  · simp [Value.cells] at hcs'
    obtain ⟨rfl, rfl, rfl⟩ := hcs'
    exact ⟨none, 0, 0, [], rfl, rfl, by decide, fun h => absurd h (by decide), by simp⟩
  · simp [Value.cells] at hcs'
    obtain ⟨rfl, rfl, rfl⟩ := hcs'
    have hml : l ≤ m := by rw [hmm]; simp; omega
    have key : ∀ i, i < l → ∃ z : Op3, w.cell? ((a.add (i * 3)).add 0) = some (.int .i64 z.n) ∧ w.cell? ((a.add (i * 3)).add 1) = some (.int .i64 z.off) ∧ w.cell? ((a.add (i * 3)).add 2) = some (.string z.s) ∧ (-9223372036854775808 ≤ z.n ∧ z.n ≤ 9223372036854775807) ∧ (-9223372036854775808 ≤ z.off ∧ z.off ≤ 9223372036854775807) := by
      intro i hil
      obtain ⟨cs', hcells, htr⟩ := hcell i (by omega)
      rw [hce] at hcells
      obtain ⟨xs, n', _, _, hl3, hxl, hff⟩ := DataW.trod_struct hst htr
      rw [hce] at hl3
      obtain ⟨_, _, hat⟩ := World.cells?_some hcells
      match cs', hl3, xs, hxl with
      | [c0, c1, c2], _, [y0, y1, y2], _ =>
        have g0 := hff 0 f0 rfl
        have g1 := hff 1 f1 rfl
        have g2 := hff 2 f2 rfl
        rw [t0, o0, hci] at g0
        rw [t1, o1, hci] at g1
        rw [t2, o2, hcs] at g2
        obtain ⟨z0, e0, _, u0⟩ := DataW.trod_int hi (show DataW.trod enc P w 0 (fun _ => true) held n' ti [c0] = some y0 from g0)
        obtain ⟨z1, e1, _, u1⟩ := DataW.trod_int hi (show DataW.trod enc P w 0 (fun _ => true) held n' ti [c1] = some y1 from g1)
        obtain ⟨s2, e2, _, _⟩ := DataW.trod_string hs (show DataW.trod enc P w 0 (fun _ => true) held n' ts [c2] = some y2 from g2)
        simp only [List.cons.injEq, and_true] at e0 e1 e2
        subst e0 e1 e2
        exact ⟨⟨z0, z1, s2⟩, hat 0 (by omega), hat 1 (by omega), hat 2 (by omega), wfb_i64 u0, wfb_i64 u1⟩
    obtain ⟨zs, hzl, hz⟩ := listed l key
    refine ⟨_, l, c, zs, rfl, hzl, by omega, fun h0 => ?_, fun z hz' => ?_⟩
    · obtain ⟨z, _, h00, _⟩ := hz 0 h0
      obtain ⟨b, off, spot⟩ := a
      have hspot : spot = none := by simpa [Addr.add] using World.cell?_spot h00
      subst hspot
      refine ⟨b, off, rfl, ?_, fun i hi' => ?_⟩
      · rw [addr_add, addr_add] at h00; exact World.block_lt_of_cell? w _ h00
      · obtain ⟨z, q0, q1, q2, q3, _⟩ := hz i hi'
        rw [addr_add, addr_add] at q1 q2 q3
        exact ⟨z, q0, q1, q2, q3⟩
    · obtain ⟨i, hi', he'⟩ := List.getElem_of_mem hz'
      obtain ⟨z2, q0, _, _, _, q4, q5⟩ := hz i (by omega)
      rw [List.getElem?_eq_getElem hi', he'] at q0
      cases q0
      exact ⟨q4, q5⟩
theorem open_pairsR {t e ti : TypeId} {v : Value} {d : DataW H} {ps : List MemPlace} (ht : P.underlying t = some (.slice e))
    (he : ∃ f0 f1 : Field, P.underlying e = some (.struct #[f0, f1]) ∧ (f0.type = ti ∧ f0.offset = 0) ∧ (f1.type = ti ∧ f1.offset = 1))
    (hi : P.underlying ti = some (.int .i64)) (hci : P.cellsOf ti = 1) (hce : P.cellsOf e = 2)
    (hv : Value.okWide P w r b0 t v) (hd : DataW.Trod enc P w 0 (fun _ => true) held t v d ps) : ∃ (A : Option Addr) (l c : Nat) (zs : List (Int × Int)), v = .slice A l c ∧ PairsIn w A l zs := by
  obtain ⟨A, l, c, rfl⟩ := okWide_slice ht hv
  obtain ⟨fuel, hf⟩ := hd
  obtain ⟨f0, f1, hst, ⟨t0, o0⟩, ⟨t1, o1⟩⟩ := he
  rcases open_slice ht hf with ⟨hcs', _⟩ | ⟨a, l', c', m, n, D, Pl, hcs', _, hl, hm, hmm, _, hcell⟩
  · simp [Value.cells] at hcs'
    obtain ⟨rfl, rfl, rfl⟩ := hcs'
    exact ⟨none, 0, 0, [], rfl, rfl, by decide, fun h => absurd h (by decide), by simp⟩
  · simp [Value.cells] at hcs'
    obtain ⟨rfl, rfl, rfl⟩ := hcs'
    have hml : l ≤ m := by rw [hmm]; simp; omega
    have key : ∀ i, i < l → ∃ z : Int × Int, w.cell? ((a.add (i * 2)).add 0) = some (.int .i64 z.1) ∧ w.cell? ((a.add (i * 2)).add 1) = some (.int .i64 z.2) ∧ (-9223372036854775808 ≤ z.1 ∧ z.1 ≤ 9223372036854775807) ∧ (-9223372036854775808 ≤ z.2 ∧ z.2 ≤ 9223372036854775807) := by
      intro i hil
      obtain ⟨cs', hcells, htr⟩ := hcell i (by omega)
      rw [hce] at hcells
      obtain ⟨xs, n', _, _, hl3, hxl, hff⟩ := DataW.trod_struct hst htr
      rw [hce] at hl3
      obtain ⟨_, _, hat⟩ := World.cells?_some hcells
      match cs', hl3, xs, hxl with
      | [c0, c1], _, [y0, y1], _ =>
        have g0 := hff 0 f0 rfl
        have g1 := hff 1 f1 rfl
        rw [t0, o0, hci] at g0
        rw [t1, o1, hci] at g1
        obtain ⟨z0, e0, _, u0⟩ := DataW.trod_int hi (show DataW.trod enc P w 0 (fun _ => true) held n' ti [c0] = some y0 from g0)
        obtain ⟨z1, e1, _, u1⟩ := DataW.trod_int hi (show DataW.trod enc P w 0 (fun _ => true) held n' ti [c1] = some y1 from g1)
        simp only [List.cons.injEq, and_true] at e0 e1
        subst e0 e1
        exact ⟨(z0, z1), hat 0 (by omega), hat 1 (by omega), wfb_i64 u0, wfb_i64 u1⟩
    obtain ⟨zs, hzl, hz⟩ := listed l key
    refine ⟨_, l, c, zs, rfl, hzl, by omega, fun h0 => ?_, fun z hz' => ?_⟩
    · obtain ⟨z, _, h00, _⟩ := hz 0 h0
      obtain ⟨b, off, spot⟩ := a
      have hspot : spot = none := by simpa [Addr.add] using World.cell?_spot h00
      subst hspot
      refine ⟨b, off, rfl, ?_, fun i hi' => ?_⟩
      · rw [addr_add, addr_add] at h00; exact World.block_lt_of_cell? w _ h00
      · obtain ⟨z, q0, q1, q2, _⟩ := hz i hi'
        rw [addr_add, addr_add] at q1 q2
        have e : zs.getD i (0, 0) = z := by rw [List.getD_eq_getElem?_getD, q0]; rfl
        rw [e]
        exact ⟨q1, q2⟩
    · obtain ⟨i, hi', he'⟩ := List.getElem_of_mem hz'
      obtain ⟨z2, q0, _, _, q4, q5⟩ := hz i (by omega)
      rw [List.getElem?_eq_getElem hi', he'] at q0
      cases q0
      exact ⟨q4, q5⟩
end
theorem fieldsStep : ∃ f0 f1 f2 : Field, Tryd.prog.underlying 28 = some (.struct #[f0, f1, f2]) ∧ (f0.type = 3 ∧ f0.offset = 0) ∧ (f1.type = 3 ∧ f1.offset = 1) ∧ (f2.type = 9 ∧ f2.offset = 2) := ⟨_, _, _, Tryd.underlying28, ⟨rfl, rfl⟩, ⟨rfl, rfl⟩, ⟨rfl, rfl⟩⟩
theorem fieldsPiece : ∃ f0 f1 : Field, Tryd.prog.underlying 42 = some (.struct #[f0, f1]) ∧ (f0.type = 3 ∧ f0.offset = 0) ∧ (f1.type = 3 ∧ f1.offset = 1) := ⟨_, _, Tryd.underlying42, ⟨rfl, rfl⟩, ⟨rfl, rfl⟩⟩
theorem cellsInt : Tryd.prog.cellsOf 3 = 1 := by kernel_rfl
theorem cellsStep : Tryd.prog.cellsOf 28 = 3 := by kernel_rfl
theorem cellsPiece : Tryd.prog.cellsOf 42 = 2 := by kernel_rfl
end Go.Proofs.YtncbgbmgbokeoaaDoor
