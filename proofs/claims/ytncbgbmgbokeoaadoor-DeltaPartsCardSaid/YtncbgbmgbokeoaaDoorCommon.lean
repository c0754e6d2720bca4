/- delta.common, delta.isText. -/
import Derived.Test.YtncbgbmgbokeoaaDoorRef19Diff
import Derived.Deep.QuietTactic
import Derived.BigQuiet
namespace Go.Proofs.YtncbgbmgbokeoaaDoor
open Go.RowKit

set_option maxHeartbeats 400000 in
theorem isTextD_any (s : ByteArray) (w : World) : Calls Tryd.prog 19 #[.string s] w fun e w' => e = .returned (.bool (decide (s.size ≤ 8192))) ∧ w = w' := by
  go_enter Tryd.func19, Tryd.ntmps19
  go_wp2
  go_ret
  exact ⟨by congr 2; simp; omega, rfl⟩

set_option maxRecDepth 100000 in
set_option maxHeartbeats 1600000 in
theorem common_any (a b : ByteArray) (w : World) (ha : a.size ≤ 8192) (hb : b.size ≤ 8192) :
    Calls Tryd.prog 39 #[.string a, .string b] w fun e w' => e = .returned (.int .i64 (lcpB a b 0 0)) ∧ ∃ m, w' = w.drewN m := by
  obtain ⟨M, hM⟩ : ∃ M : Nat, min a.size b.size = M := ⟨_, rfl⟩
  have hm1 : min (a.size : Int) b.size = (M : Int) := by omega
  have HM := Lib.hid hM
  clear hM
  go_enter Tryd.func39, Tryd.ntmps39
  go_wp2_with fail
  all_goals
    first
      | rw [show (b.size : Int) = M by have := HM.out; omega]
      | rw [show (a.size : Int) = M by have := HM.out; omega]
  all_goals
    go_loopw [6, 13] (fun _ v13 wr => ∃ (n m : Nat), v13 = .int .i64 n ∧ n ≤ M ∧ Hid (lcpB a b n n + n = lcpB a b 0 0) ∧ wr = w.drewN m) (fun _ v13 _ => M - (intOf v13).toNat)
    case atStart => exact ⟨0, 0, rfl, by omega, Lib.hid rfl, rfl⟩
    case round =>
      obtain ⟨n, m, rfl, hn, Hn, rfl⟩ := hrel
      by_cases hlt : n < M
      · have t0 : decide ((n : Int) < M) = true := by simp; omega
        have hna : n < a.size := by have := HM.out; omega
        have hnb : n < b.size := by have := HM.out; omega
        have j1 : (0 : Int) ≤ n := by omega
        have j2 : (n : Int) < a.size := by omega
        have j3 : (n : Int) < b.size := by omega
        by_cases e : a[n] = b[n]
        · have t3 : ((a[n].toNat : Int) != (b[n].toNat : Int)) = false := by rw [e]; simp
          have hz := Lib.hid (lcpB_hit a b n n hna hnb e)
          clear e
          go_wp2_with fail
          go_quiet (fail)
          go_wp2_with fail
          go_roundw
          case rel => exact ⟨n + 1, _, by go_num, by omega, Lib.hid (by have := Hn.out; have := hz.out; omega), rfl⟩
          case measure => simp [intOf]; omega
        · have t3 : ((a[n].toNat : Int) != (b[n].toNat : Int)) = true := by
            rw [bne_iff_ne]; intro e'; exact e (UInt8.toNat_inj.1 (by omega))
          have hz := Lib.hid (lcpB_miss a b n n hna hnb e)
          clear e
          go_wp2_with fail
          go_quiet (fail)
          go_wp2_with fail
          go_ret
          exact ⟨by rw [show lcpB a b 0 0 = n by have := Hn.out; have := hz.out; omega]; rfl, _, World.drewN_drewN _ _ _⟩
      · obtain rfl : n = M := by omega
        have t0 : decide ((n : Int) < n) = false := by simp
        have hz : lcpB a b n n = 0 := lcpB_zero a b n n (by have := HM.out; omega)
        have hE : lcpB a b 0 0 = n := by have := Hn.out; omega
        have HE := Lib.hid hE
        clear hE hz
        go_wp2_with fail
        go_ret
        exact ⟨by rw [HE.out]; rfl, _, rfl⟩
end Go.Proofs.YtncbgbmgbokeoaaDoor
