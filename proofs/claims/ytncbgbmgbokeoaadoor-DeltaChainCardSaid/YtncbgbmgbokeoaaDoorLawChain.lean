/- DeltaChain: the walk. -/
import Derived.Test.YtncbgbmgbokeoaaDoorLawDelta
import Derived.Test.YtncbgbmgbokeoaaDoorRowKitE
namespace Go.Proofs.YtncbgbmgbokeoaaDoor
open Go.RowKit

/-- The text before round i. -/
def chainAt (zs : List ByteArray) (i : Nat) : ByteArray := if i = 0 then .empty else cutF (zs.getD (i - 1) .empty) 2000
theorem chainAt_size (zs : List ByteArray) (i : Nat) : (chainAt zs i).size ≤ 2000 := by
  unfold chainAt
  split
  · simp
  · rw [cutF_size]; omega

set_option maxRecDepth 100000 in
set_option maxHeartbeats 6400000 in
theorem chain_walk (A : Option Addr) (l c : Nat) (zs : List ByteArray) (a0 a1 : Addr) (W : World) (hn : NibCells W) (he : ErrCells a0 a1 W) (hz : StrsIn W A l zs) :
    Calls Tryd.prog 6 #[.slice A l c] W fun e W' => e = .returned (.bool true) ∧ Below W.heap.size W W' := by
  obtain ⟨hzl, hlm, hcell, hzs⟩ := hz
  have hlm' : l ≤ 9223372036854775807 := by unfold maxLen at hlm; omega
  have C0 := Lib.hid (sane19_any a0 a1 W hn he)
  have hN := Lib.hid hn
  have hE := Lib.hid he
  clear hn he
  go_enter Tryd.func6, Tryd.ntmps6
  go_wp2_with fail
  refine (C0.out).mono ?_
  rintro e w1 ⟨rfl, hB1⟩
  go_wp2_with fail
  go_loopw [4, 5] (fun v4 v5 wr => ∃ i : Nat, v5 = .int .i64 i ∧ i ≤ l ∧ i ≤ 8 ∧ v4 = .string (chainAt zs i) ∧ Below W.heap.size W wr) (fun _ v5 _ => l - (intOf v5).toNat)
  case atStart => exact ⟨0, rfl, by omega, by omega, rfl, hB1⟩
  case round =>
    obtain ⟨i, rfl, hil, hi8, rfl, hB⟩ := hrel
    by_cases hlt : i < l
    · have t0 : decide ((i : Int) < l) = true := by simp; omega
      by_cases h8 : i < 8
      · have t1 : decide ((i : Int) < 8) = true := by simp; omega
        obtain ⟨b, off, rfl, hbl, hc⟩ := hcell (by omega)
        obtain ⟨p, hp⟩ : ∃ p, chainAt zs i = p := ⟨_, rfl⟩
        have hps : p.size ≤ 2000 := by rw [← hp]; exact chainAt_size zs i
        obtain ⟨z, hzi⟩ : ∃ z, zs.getD i ByteArray.empty = z := ⟨_, rfl⟩
        obtain ⟨x, hx⟩ : ∃ x, cutF z 2000 = x := ⟨_, rfl⟩
        have hxs : x.size ≤ 2000 := by rw [← hx, cutF_size]; omega
        have hnext : chainAt zs (i + 1) = x := by
          unfold chainAt
          rw [if_neg (by omega), Nat.add_sub_cancel, hzi, hx]
        have ci : wr.cell? ⟨b, off + i, none⟩ = some (.string z) := by rw [hB.cell (p := ⟨b, off + i, none⟩) hbl, hc i hlt, hzi]
        obtain ⟨d, hd⟩ : ∃ d, diffF p x = d := ⟨_, rfl⟩
        have hds := diffF_size p x (by omega) (by omega)
        have hap := roundTrip p x (by omega) (by omega)
        rw [hd] at hds hap
        have cx := fun W => cut19_any z 2000 W (by omega)
        rw [hx] at cx
        have CX := Lib.hid cx
        have CD := Lib.hid (fun W h => diff_is hd W h (by omega) (by omega))
        have CA := Lib.hid (fun W h k => apply_is (a0 := a0) (a1 := a1) hap W h k (by omega))
        have k1 : (0 : Int) ≤ i := by omega
        have k2 : (i : Int) < l := by omega
        have HNX := Lib.hid hnext
        have eself : (x.toList != x.toList) = false := by simp
        by_cases h0 : i = 0
        · subst h0
          have hp0 : p = .empty := by rw [← hp]; rfl
          rw [hp]
          subst hp0
          rw [Nat.add_zero] at ci
          clear hp hx hd hap cx hnext
          go_wp2_with fail
          refine (CX.out _).mono ?_
          rintro e _ ⟨rfl, rfl⟩
          go_wp2_with fail
          refine (CD.out _ (hN.out.below hB)).mono ?_
          rintro e w2 ⟨rfl, hb2⟩
          have hB2 := Below_then hB hb2
          go_wp2_with fail
          refine (CA.out _ (hN.out.below hB2) (hE.out.below hB2)).mono ?_
          rintro e w3 ⟨rfl, hb3⟩
          have hB3 := Below_then hB2 hb3
          have ci3 : w3.cell? ⟨b, off, none⟩ = some (.string z) := by have := hc 0 hlt; rw [Nat.add_zero, hzi] at this; rw [hB3.cell (p := ⟨b, off, none⟩) hbl, this]
          go_wp2_with fail
          refine (CX.out _).mono ?_
          rintro e _ ⟨rfl, rfl⟩
          go_wp2_with fail
          go_roundw
          case rel => exact ⟨1, by go_num, by omega, by omega, by rw [HNX.out], hB3⟩
          case measure => simp [intOf]; omega
        · have t2 : decide ((0 : Int) < i) = true := by simp; omega
          obtain ⟨j, rfl⟩ : ∃ j, i = j + 1 := ⟨i - 1, by omega⟩
          obtain ⟨z', hz'⟩ : ∃ z', zs.getD j ByteArray.empty = z' := ⟨_, rfl⟩
          have hpz : cutF z' 2000 = p := by rw [← hp, ← hz']; unfold chainAt; rw [if_neg (by omega), Nat.add_sub_cancel]
          have cp := fun W => cut19_any z' 2000 W (by omega)
          rw [hpz] at cp
          have CP := Lib.hid cp
          have cj : wr.cell? ⟨b, off + j, none⟩ = some (.string z') := by rw [hB.cell (p := ⟨b, off + j, none⟩) hbl, hc j (by omega), hz']
          have ei : ((j + 1 : Nat) : Int) - 1 = j := by omega
          have k3 : (0 : Int) ≤ j := by omega
          have k4 : (j : Int) < l := by omega
          rw [hp]
          clear hp hx hd hap cx hnext cp hpz
          go_wp2_with fail
          refine (CP.out _).mono ?_
          rintro e _ ⟨rfl, rfl⟩
          go_wp2_with fail
          refine (CX.out _).mono ?_
          rintro e _ ⟨rfl, rfl⟩
          go_wp2_with fail
          refine (CD.out _ (hN.out.below hB)).mono ?_
          rintro e w2 ⟨rfl, hb2⟩
          have hB2 := Below_then hB hb2
          go_wp2_with fail
          refine (CA.out _ (hN.out.below hB2) (hE.out.below hB2)).mono ?_
          rintro e w3 ⟨rfl, hb3⟩
          have hB3 := Below_then hB2 hb3
          have ci3 : w3.cell? ⟨b, off + (j + 1), none⟩ = some (.string z) := by rw [hB3.cell (p := ⟨b, off + (j + 1), none⟩) hbl, hc (j + 1) hlt, hzi]
          go_wp2_with fail
          refine (CX.out _).mono ?_
          rintro e _ ⟨rfl, rfl⟩
          go_wp2_with fail
          go_roundw
          case rel => exact ⟨j + 1 + 1, by go_num, by omega, by omega, by rw [HNX.out], hB3⟩
          case measure => simp [intOf]; omega
      · have t1 : decide ((i : Int) < 8) = false := by simp; omega
        go_wp2_with fail
        go_ret
        exact ⟨rfl, hB⟩
    · obtain rfl : i = l := by omega
      have t0 : decide ((i : Int) < i) = false := by simp
      go_wp2_with fail
      go_ret
      exact ⟨rfl, hB⟩
end Go.Proofs.YtncbgbmgbokeoaaDoor
