/- copydeskref19.operation, Apply: they compute opAt and applyF. -/
import Derived.Test.YtncbgbmgbokeoaaDoorPureApply
import Derived.Test.YtncbgbmgbokeoaaDoorWalkRef01
namespace Go.Proofs.YtncbgbmgbokeoaaDoor
open Go.RowKit

theorem refSum_is {s : ByteArray} {n : Int} (h : sumB s = n) (hs : s.size ≤ 9223372036854775807) (w : World) : Calls Tryd.prog 25 #[.string s] w fun e w' => e = .returned (.int .i64 n) ∧ w = w' := by
  have := refSum_any s w hs; rwa [h] at this
theorem empty_iff (s : ByteArray) : s.toList.isEmpty = decide (s.size = 0) := by
  rw [ByteArray.toList_eq, ← ba_size]
  cases s.data.toList <;> simp
theorem ret3op {s : ByteArray} {nx er : Int} {p : ByteArray × Int × Int} (h : p = (s, nx, er)) : Ending.returned (.tuple #[.string s, .int .i64 nx, .int .i64 er]) = .returned (.tuple #[.string p.1, .int .i64 p.2.1, .int .i64 p.2.2]) := by rw [h]

end Go.Proofs.YtncbgbmgbokeoaaDoor
