/- An operation of a delta, and its bytes. -/
import Derived.Test.YtkpgadjhcnkadaaDoorRef19Diff
namespace Go.Proofs.YtkpgadjhcnkadaaDoor
open Go.RowKit

/-- An operation of a delta. -/
structure Op3 where
  n : Int
  off : Int
  s : ByteArray
def opV (x : Op3) : Value := .agg #[.int .i64 x.n, .int .i64 x.off, .string x.s]
def encOp (x : Op3) : ByteArray := if 0 < x.n then numS x.n ++ numS x.off else numS 0 ++ (numS x.s.size ++ x.s)
structure OpOk (x : Op3) : Prop where
  n : 0 ≤ x.n ∧ x.n ≤ 8192
  off : 0 ≤ x.off ∧ x.off ≤ 8192
  s : x.s.size ≤ 8192
theorem encOp_size {x : Op3} (h : OpOk x) : (encOp x).size ≤ 8300 := by
  unfold encOp
  have := numS_size x.n
  have := numS_size x.off
  have := numS_size 0
  have := numS_size x.s.size
  have := h.s
  split <;> simp only [ba_append_size] <;> omega

end Go.Proofs.YtkpgadjhcnkadaaDoor
