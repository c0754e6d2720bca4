/- What several texts lean on: bytes, rows that become strings. -/
import Derived.Test.YtkpgadjhcnkadaaDoorProg
import Derived.Test.YtkpgadjhcnkadaaDoorPureWire
import Derived.TacticsInMore
import Derived.LoopNIn
import Derived.LoopIn
import Derived.Maps.AppendAt
import Derived.Lib.Hide
import Derived.Laws.BitsAllLaws
import Derived.Laws.IdiomStrings
import Derived.RangeFuncNested
import Derived.RangeFuncBound
import Derived.RangeFuncCalls
import Derived.RangeFuncLeaves
import Derived.Shelf.Abstract
import Derived.Shelf.RegionOpen
import Derived.WalkKit
import Derived.OwnWalkIn
namespace Go.Proofs.YtkpgadjhcnkadaaDoor
open Go.RowKit Go.Shelf

attribute [local go_sem] Oper.semAt_some

def byteV (b : UInt8) : Value := .int .u8 b.toNat
theorem own_to_string {P : Program} {w : World} {base : Nat} {e src dst : TypeId} {v : Value} {l : List UInt8} (hs : P.underlying src = some (.slice e)) (he : P.underlying e = some (.int .u8)) (hd : P.underlying dst = some .string)
    (h : w.ownsRow base e 1 v l.length (l.map byteV)) : (convert src dst v).run P w = .ok (.string ⟨l.toArray⟩) w := by
  rcases h.2 with ⟨rfl, h0⟩ | ⟨g, cap, cur, rfl, _⟩
  · obtain rfl : l = [] := List.eq_nil_of_length_eq_zero h0
    exact run_convert_bytes_nil w src e hs he 0 0 dst hd
  · exact run_convert_bytes_back w src dst e _ cap l hs he hd (fun j hj => h.cells (g := g) rfl j _ (by simp [byteV, hj]))

theorem boxed_keptBy {W w1 : World} {n₀ B B' : Nat} {t t' e : TypeId} {size : Nat} {v v' u : Value} {k : Nat} {xs : List Value} {tmp : Obj}
    (h : Boxed W B' t' u) (hv : Boxed W B t v) (hr : W.ownsRow n₀ e size v k xs) (hte : t' ≠ e) (htt : t' ≠ t) (hgrow : (W.alloc tmp).grownBy w1 v.ownBlock) : Boxed (w1.setCell ⟨B, 0, none⟩ v') B' t' u := by
  have h1 : Boxed w1 B' t' u := (h.alloc tmp).kept hgrow (h.not_row hte hr)
  refine h1.kept (grownBy_setCell' _ _ _) ?_
  intro e'
  have : B' = B := by simpa using e'
  subst this
  have := (show W.heap[B']? = _ from h).symm.trans (show W.heap[B']? = _ from hv)
  simp at this
  exact htt this.2
theorem not64 (x : Nat) (h : x < 18446744073709551616) : x ^^^ 18446744073709551615 = 18446744073709551615 - x := by
  have := BitVec.toNat_not (x := BitVec.ofNat 64 x)
  rw [← BitVec.xor_allOnes, BitVec.toNat_xor, BitVec.toNat_allOnes, BitVec.toNat_ofNat, Nat.mod_eq_of_lt (by omega)] at this
  omega
theorem wrap_u64' (n : Int) : IntKind.u64.wrap n = n % 18446744073709551616 := by simp [IntKind.wrap, IntKind.bits, IntKind.signed]
theorem zig_bits (n : Int) (h1 : -maxInt ≤ n) (h2 : n ≤ maxInt) : bits BinOp.xor IntKind.u64 (IntKind.u64.wrap (IntKind.u64.wrap n * 2)) (IntKind.u64.wrap (n / 9223372036854775808)) = ((zig n : Nat) : Int) := by
  unfold maxInt at h1 h2
  by_cases h : n < 0
  · have e1 : IntKind.u64.wrap (IntKind.u64.wrap n * 2) = ((18446744073709551616 + 2 * n).toNat : Int) := by rw [wrap_u64', wrap_u64']; omega
    have e2 : IntKind.u64.wrap (n / 9223372036854775808) = ((18446744073709551615 : Nat) : Int) := by rw [wrap_u64']; omega
    rw [e1, e2, u64_xor_nat _ _ (by omega) (by decide), not64 _ (by omega)]
    unfold zig
    rw [if_pos h]
    omega
  · have e1 : IntKind.u64.wrap (IntKind.u64.wrap n * 2) = ((2 * n).toNat : Int) := by rw [wrap_u64', wrap_u64']; omega
    have e2 : IntKind.u64.wrap (n / 9223372036854775808) = ((0 : Nat) : Int) := by rw [wrap_u64']; omega
    rw [e1, e2, u64_xor_nat _ _ (by omega) (by decide), Nat.xor_zero]
    unfold zig
    rw [if_neg h]
    omega
theorem info_u8 : (Tryd.prog.info? 5).map (fun i => (i.zero, i.size, i.bytes)) = some (some (.int .u8 0), 1, 1) := by kernel_rfl

end Go.Proofs.YtkpgadjhcnkadaaDoor
