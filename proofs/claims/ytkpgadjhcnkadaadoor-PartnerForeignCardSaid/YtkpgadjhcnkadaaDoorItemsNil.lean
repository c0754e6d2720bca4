/- partner.Items at nil: no items. -/
import Derived.Test.YtkpgadjhcnkadaaDoorItems
set_option linter.unusedSimpArgs false
set_option linter.unusedVariables false
namespace Go.Proofs.YtkpgadjhcnkadaaDoor
open Go.RowKit

set_option maxRecDepth 100000 in
set_option maxHeartbeats 3200000 in
theorem items_nil (w : World) :
    Calls Tryd.prog 21 #[.pointer none] w fun e w' => e = .returned (.slice none 0 0) ∧ w = w' := by
  go_enter Tryd.func21, Tryd.ntmps21
  go_wp2_with fail
  go_loopw [3, 7] (fun v3 v7 wr => ∃ (n : Nat), v7 = .int .i64 n ∧ n ≤ 64 ∧ v3 = .slice none 0 0 ∧ wr = w) (fun _ v7 _ => 64 - (intOf v7).toNat)
  case atStart => exact ⟨0, rfl, by omega, rfl, rfl⟩
  case round =>
    obtain ⟨n, rfl, hn, rfl, rfl⟩ := hrel
    by_cases hlt : n < 64
    · have t0 : decide ((n : Int) < 64) = true := by simp; omega
      have CT := Lib.hid (text_nil ((n : Int) + 1) wr)
      go_wp2_with fail
      refine (CT.out).mono ?_
      rintro e w2 ⟨rfl, rfl⟩
      go_wp2_with fail
      go_roundw
      case rel => exact ⟨n + 1, by go_num, by omega, rfl, trivial⟩
      case measure => simp [intOf]; omega
    · obtain rfl : n = 64 := by omega
      have t0 : decide ((64 : Int) < 64) = false := by decide
      go_wp2_with fail
      go_ret
      exact ⟨rfl, rfl⟩
end Go.Proofs.YtkpgadjhcnkadaaDoor
