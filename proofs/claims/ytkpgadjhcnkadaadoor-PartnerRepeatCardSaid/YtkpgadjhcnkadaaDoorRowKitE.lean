/- What the rows of the laws share: the table of the checksum and the two errors of package delta out of the row's list, a world for the witnesses, arguments opened. -/
import Derived.Test.YtkpgadjhcnkadaaDoorRows
import Derived.Test.YtkpgadjhcnkadaaDoorErrorsIs
import Derived.Test.YtkpgadjhcnkadaaDoorWalkRead
import Derived.WalkKit
import Derived.ProofKit
import Derived.OpenShut
import Derived.ChangeOld
import Derived.SizedLaws
import Derived.Below
import Derived.Deep.DeepHandedRow
import Derived.Lib.LaidTab
import Derived.Stop.LaidTwo
import Derived.MakeChecks
namespace Go.Proofs.YtkpgadjhcnkadaaDoor
open Go.ChangeShapes Go.WideShapes Go.ChangeAt Go.RowKit

theorem own : ownKnob Tryd.prog.godebug = none := by kernel_rfl
theorem laidOut : laidOutB Tryd.prog = true := by kernel_rfl
theorem gNib : Tryd.prog.globalNamed "copydesk/wire.nibbles" = some 0 := by kernel_rfl
theorem gNibType : (Tryd.prog.globals[0]?).map (·.type) = some 89 := by kernel_rfl
theorem cellsNib : Tryd.prog.cellsOf 89 = 16 := by kernel_rfl
theorem cellsU32 : Tryd.prog.cellsOf 81 = 1 := by kernel_rfl
theorem nibCells_of_laid {W : World} (h : laidMetH Tryd.prog [("copydesk/wire.nibbles", Rows.laid_copydesk_wire_nibbles), ("copydesk/delta.errWire", Rows.laid_copydesk_delta_errWire), ("copydesk/delta.errDelta", Rows.laid_copydesk_delta_errDelta)] W) : NibCells W := by
  have ht : Lib.TabIs Tryd.prog W "copydesk/wire.nibbles" .u32 [0, 274646895, 549293790, 820201905, 1098587580, 1361435347, 1640403810, 1905808397, 2197175160, 2460548119, 2722870694, 2987750089, 3280807620, 3553878443, 3811616794, 4084100981] :=
    Lib.tabIs_of_head (rest := [("copydesk/delta.errWire", Rows.laid_copydesk_delta_errWire), ("copydesk/delta.errDelta", Rows.laid_copydesk_delta_errDelta)]) gNib gNibType Tryd.underlying89 Tryd.underlying81 cellsU32 cellsNib h
  intro i hi
  have hc := ht.cell gNib i (by simpa using hi)
  have e : ∀ j, j < 16 → ([0, 274646895, 549293790, 820201905, 1098587580, 1361435347, 1640403810, 1905808397, 2197175160, 2460548119, 2722870694, 2987750089, 3280807620, 3553878443, 3811616794, 4084100981] : List Int).getD j 0 = ((nibAt j : Nat) : Int) := by decide
  rw [e i hi] at hc
  exact hc
theorem gWire : Tryd.prog.globalNamed "copydesk/delta.errWire" = some 1 := by kernel_rfl
theorem gDelta : Tryd.prog.globalNamed "copydesk/delta.errDelta" = some 2 := by kernel_rfl
theorem gWireType : (Tryd.prog.globals[1]?).map (·.type) = some 98 := by kernel_rfl
theorem gDeltaType : (Tryd.prog.globals[2]?).map (·.type) = some 98 := by kernel_rfl
theorem starErr : "*" ++ "errors.errorString" = "*errors.errorString" := by decide
theorem rowErr (u : TypeId) (h : Tryd.prog.typeName? 3 u = some "*errors.errorString") : u = 137 :=
  typeName_ptr_named (nm := "errors.errorString") (by rw [starErr]; kernel_rfl) (by kernel_rfl) (by decide) u (by rw [starErr]; exact h)
theorem cellsErr : Tryd.prog.cellsOf 159 = 1 := by kernel_rfl
theorem cellsStr : Tryd.prog.cellsOf 9 = 1 := by kernel_rfl
theorem errCells_of_laid {W : World} (h : laidMetH Tryd.prog [("copydesk/wire.nibbles", Rows.laid_copydesk_wire_nibbles), ("copydesk/delta.errWire", Rows.laid_copydesk_delta_errWire), ("copydesk/delta.errDelta", Rows.laid_copydesk_delta_errDelta)] W) : ∃ a0 a1, ErrCells a0 a1 W := by
  rw [MakeChecks.laidMetH_plain _ _ _ (by decide)] at h
  obtain ⟨a0, a1, s0, s1, c0, c1, t0, t1, hv0, hv1, _, _, _, _, _, _, hne, hb0, hb1⟩ := laid_sentinels2 h.tail gWire gWireType gDelta gDeltaType Tryd.underlying98 rowErr Tryd.underlying137 Tryd.underlying159 rfl rfl Tryd.underlying9 cellsErr cellsStr
  exact ⟨a0, a1, by simpa using World.var?_cell gWire hv0 0, by simpa using World.var?_cell gDelta hv1 0, hne, ⟨c0, t0, hb0⟩, ⟨c1, t1, hb1⟩⟩
/-- A world for the witnesses: the settled one, the table and the two errors holding what their initialisers lay. -/
noncomputable def low : Nat := (World.holding Tryd.prog default ⟨#[], #[], []⟩).heap.size
noncomputable def laidWorld (os : Os) : World :=
  let w0 := World.holding Tryd.prog os ⟨#[.cells #[.string ⟨#[109, 97, 108, 102, 111, 114, 109, 101, 100]⟩] 159, .cells #[.string ⟨#[110, 111, 116, 32, 102, 111, 114, 32, 116, 104, 105, 115, 32, 116, 101, 120, 116]⟩] 159], #[], []⟩
  { w0 with heap := ((w0.heap.modify 0 fun
      | .cells _ t frozen => .cells #[.int .u32 0, .int .u32 274646895, .int .u32 549293790, .int .u32 820201905, .int .u32 1098587580, .int .u32 1361435347, .int .u32 1640403810, .int .u32 1905808397, .int .u32 2197175160, .int .u32 2460548119, .int .u32 2722870694, .int .u32 2987750089, .int .u32 3280807620, .int .u32 3553878443, .int .u32 3811616794, .int .u32 4084100981] t frozen
      | o => o).modify 1 fun
      | .cells _ t frozen => .cells #[.iface 137 (.pointer (some ⟨low, 0, none⟩))] t frozen
      | o => o).modify 2 fun
      | .cells _ t frozen => .cells #[.iface 137 (.pointer (some ⟨low + 1, 0, none⟩))] t frozen
      | o => o }
theorem wfb_i64 {n : Int} (h : (Lit.int .i64 n).wf = true) : -9223372036854775808 ≤ n ∧ n ≤ 9223372036854775807 := bounds_i64 h
theorem wfb_u8 {n : Int} (h : (Lit.int .u8 n).wf = true) : 0 ≤ n ∧ n ≤ 255 := bounds_u8 h
theorem wfb_u32 {n : Int} (h : (Lit.int .u32 n).wf = true) : 0 ≤ n ∧ n ≤ 4294967295 := bounds_u32 h

/-- What a slice of integers holds, and of strings. -/
def IntsIn (W : World) (A : Option Addr) (l : Nat) (zs : List Int) : Prop :=
  zs.length = l ∧ l ≤ maxLen ∧ (0 < l → ∃ b off, A = some ⟨b, off, none⟩ ∧ b < W.heap.size ∧ ∀ i, i < l → W.cell? ⟨b, off + i, none⟩ = some (.int .i64 (zs.getD i 0))) ∧ ∀ z ∈ zs, -9223372036854775808 ≤ z ∧ z ≤ 9223372036854775807
def StrsIn (W : World) (A : Option Addr) (l : Nat) (zs : List ByteArray) : Prop :=
  zs.length = l ∧ l ≤ maxLen ∧ (0 < l → ∃ b off, A = some ⟨b, off, none⟩ ∧ b < W.heap.size ∧ ∀ i, i < l → W.cell? ⟨b, off + i, none⟩ = some (.string (zs.getD i ByteArray.empty))) ∧ ∀ z ∈ zs, z.size ≤ maxLen
section
variable {H : Type} {enc : TypeId × Value → H} {P : Program} {w : World} {base : Nat} {sp : Nat → Bool} {held : Bool} {r : Reach} {b0 : Nat}
theorem okWide_array {n : Nat} {t e : TypeId} {v : Value} (ht : P.underlying t = some (.array n e)) (h : Value.okWide P w r b0 t v) : ∃ cs, v = .agg cs ∧ cs.size = P.cellsOf t := by
  simp only [Value.okWide, ht] at h
  obtain ⟨cs, h1, h2, _⟩ := h
  exact ⟨cs, h1, h2⟩
/-- An array of two strings, by value. -/
theorem open_str2 {t e : TypeId} {v : Value} {d : DataW H} {ps : List MemPlace} (ht : P.underlying t = some (.array 2 e)) (he : P.underlying e = some .string) (hce : P.cellsOf e = 1) (hct : P.cellsOf t = 2)
    (hv : Value.okWide P w r b0 t v) (hd : DataW.Trod enc P w base sp held t v d ps) : ∃ a b : ByteArray, v = .agg #[.string a, .string b] ∧ a.size ≤ maxLen ∧ b.size ≤ maxLen := by
  obtain ⟨cs, rfl, hsz⟩ := okWide_array ht hv
  obtain ⟨l⟩ := cs
  match l, hsz.trans hct with
  | [c0, c1], _ =>
    obtain ⟨fuel, hf⟩ := hd
    obtain ⟨xs, m, _, _, _, hxl, hg⟩ := DataW.trod_array ht hf
    have g0 := hg 0 (by decide)
    have g1 := hg 1 (by decide)
    rw [hce] at g0 g1
    match xs, hxl with
    | [x0, x1], _ =>
      obtain ⟨s0, e0, _, b0⟩ := DataW.trod_string he (by simpa [Value.cells] using g0)
      obtain ⟨s1, e1, _, b1⟩ := DataW.trod_string he (by simpa [Value.cells] using g1)
      simp at e0 e1
      subst e0 e1
      exact ⟨s0, s1, rfl, b0, b1⟩
/-- A slice of integers that came in. -/
theorem open_intsR {t e : TypeId} {v : Value} {d : DataW H} {ps : List MemPlace} (ht : P.underlying t = some (.slice e)) (he : P.underlying e = some (.int .i64)) (hc : P.cellsOf e = 1)
    (hv : Value.okWide P w r b0 t v) (hd : DataW.Trod enc P w 0 (fun _ => true) held t v d ps) : ∃ (A : Option Addr) (l c : Nat) (zs : List Int), v = .slice A l c ∧ IntsIn w A l zs := by
  obtain ⟨A, l, c, rfl⟩ := okWide_slice ht hv
  obtain ⟨fuel, hf⟩ := hd
  rcases open_ints ht he hc hf with ⟨hcs, _⟩ | ⟨x, l', c', zs, hcs, _, hl, hm, hz, _, hcell, hwz⟩
  · simp [Value.cells] at hcs
    obtain ⟨rfl, rfl, rfl⟩ := hcs
    exact ⟨none, 0, 0, [], rfl, rfl, by decide, fun h => absurd h (by decide), by simp⟩
  · simp [Value.cells] at hcs
    obtain ⟨rfl, rfl, rfl⟩ := hcs
    have hzl : zs.length = c := by simpa using hz
    refine ⟨_, l, c, zs.take l, rfl, by simp; omega, by omega, fun h0 => ?_, fun z hz' => wfb_i64 (hwz z (List.mem_of_mem_take hz'))⟩
    obtain ⟨b, off, rfl, hc2⟩ := ints_at hcell (by omega)
    refine ⟨b, off, rfl, World.block_lt_of_cell? w _ (hc2 0 (by omega)), fun i hi => ?_⟩
    rw [hc2 i (by omega)]
    simp [List.getD_eq_getElem?_getD, hi]
/-- A slice of strings that came in. -/
theorem open_strsR {t e : TypeId} {v : Value} {d : DataW H} {ps : List MemPlace} (ht : P.underlying t = some (.slice e)) (he : P.underlying e = some .string) (hc : P.cellsOf e = 1)
    (hv : Value.okWide P w r b0 t v) (hd : DataW.Trod enc P w 0 (fun _ => true) held t v d ps) : ∃ (A : Option Addr) (l c : Nat) (zs : List ByteArray), v = .slice A l c ∧ StrsIn w A l zs := by
  obtain ⟨A, l, c, rfl⟩ := okWide_slice ht hv
  obtain ⟨fuel, hf⟩ := hd
  rcases open_strings ht he hc hf with ⟨hcs, _⟩ | ⟨x, l', c', zs, hcs, _, hl, hm, hz, _, hcell, hwz⟩
  · simp [Value.cells] at hcs
    obtain ⟨rfl, rfl, rfl⟩ := hcs
    exact ⟨none, 0, 0, [], rfl, rfl, by decide, fun h => absurd h (by decide), by simp⟩
  · simp [Value.cells] at hcs
    obtain ⟨rfl, rfl, rfl⟩ := hcs
    have hzl : zs.length = c := by simpa using hz
    refine ⟨_, l, c, zs.take l, rfl, by simp; omega, by omega, fun h0 => ?_, fun z hz' => hwz z (List.mem_of_mem_take hz')⟩
    have h00 := hcell 0 (by omega)
    obtain ⟨b, off, spot⟩ := x
    have hspot : spot = none := by simpa [Addr.add] using World.cell?_spot h00
    subst hspot
    have hadd : ∀ i, (⟨b, off, none⟩ : Addr).add i = ⟨b, off + i, none⟩ := fun i => by unfold Addr.add; split <;> simp_all
    refine ⟨b, off, rfl, ?_, fun i hi => ?_⟩
    · rw [hadd] at h00; exact World.block_lt_of_cell? w _ h00
    · have := hcell i (by omega)
      rw [hadd] at this
      rw [this]
      simp [List.getD_eq_getElem?_getD, hi]
end
end Go.Proofs.YtkpgadjhcnkadaaDoor
