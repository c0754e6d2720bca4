/- Slices of integers that came in, with their capacity. -/
import Derived.Test.YtkpgadjhcnkadaaDoorRowKitE
namespace Go.Proofs.YtkpgadjhcnkadaaDoor
open Go.ChangeShapes Go.WideShapes Go.ChangeAt Go.RowKit

/-- What a slice of integers holds; it is no longer than its capacity. -/
def IntsC (W : World) (A : Option Addr) (l c : Nat) (zs : List Int) : Prop := IntsIn W A l zs ∧ l ≤ c ∧ c ≤ maxLen
section
variable {H : Type} {enc : TypeId × Value → H} {P : Program} {w : World} {base : Nat} {held : Bool} {r : Reach} {b0 : Nat}
theorem open_intsC {t e : TypeId} {v : Value} {d : DataW H} {ps : List MemPlace} (ht : P.underlying t = some (.slice e)) (he : P.underlying e = some (.int .i64)) (hc : P.cellsOf e = 1)
    (hv : Value.okWide P w r b0 t v) (hd : DataW.Trod enc P w 0 (fun _ => true) held t v d ps) : ∃ (A : Option Addr) (l c : Nat) (zs : List Int), v = .slice A l c ∧ IntsC w A l c zs := by
  obtain ⟨A, l, c, rfl⟩ := okWide_slice ht hv
  obtain ⟨fuel, hf⟩ := hd
  rcases open_ints ht he hc hf with ⟨hcs, _⟩ | ⟨x, l', c', zs, hcs, _, hl, hm, hz, _, hcell, hwz⟩
  · simp [Value.cells] at hcs
    obtain ⟨rfl, rfl, rfl⟩ := hcs
    exact ⟨none, 0, 0, [], rfl, ⟨rfl, by decide, fun h => absurd h (by decide), by simp⟩, by decide, by decide⟩
  · simp [Value.cells] at hcs
    obtain ⟨rfl, rfl, rfl⟩ := hcs
    have hzl : zs.length = c := by simpa using hz
    refine ⟨_, l, c, zs.take l, rfl, ⟨by simp; omega, by omega, fun h0 => ?_, fun z hz' => wfb_i64 (hwz z (List.mem_of_mem_take hz'))⟩, hl, by omega⟩
    obtain ⟨b, off, rfl, hc2⟩ := ints_at hcell (by omega)
    refine ⟨b, off, rfl, World.block_lt_of_cell? w _ (hc2 0 (by omega)), fun i hi => ?_⟩
    rw [hc2 i (by omega)]
    simp [List.getD_eq_getElem?_getD, hi]
end
end Go.Proofs.YtkpgadjhcnkadaaDoor
