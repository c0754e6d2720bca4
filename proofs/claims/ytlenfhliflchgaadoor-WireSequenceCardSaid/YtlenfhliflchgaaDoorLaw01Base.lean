/- The helpers of the statements of layer 1: pick, NumberFrom, sane. -/
import Derived.Test.YtlenfhliflchgaaDoorWalkRef01
namespace Go.Proofs.YtlenfhliflchgaaDoor
open Go.RowKit

def pickI (c n : Int) : Int := (if c < 0 then -(c + 1) else c) % n
theorem pickI_range (c n : Int) (h : 1 ≤ n) : 0 ≤ pickI c n ∧ pickI c n < n := ⟨Int.emod_nonneg _ (by omega), Int.emod_lt_of_pos _ (by omega)⟩

set_option maxHeartbeats 400000 in
theorem pick01_any (c n : Int) (w : World) (hc1 : -9223372036854775808 ≤ c) (hc2 : c ≤ 9223372036854775807) (hn : 1 ≤ n) (hn2 : n ≤ 9223372036854775807) :
    Calls Tryd.prog 14 #[.int .i64 c, .int .i64 n] w fun e w' => e = .returned (.int .i64 (pickI c n)) ∧ w = w' := by
  by_cases h : c < 0
  · have d : decide (c < 0) = true := by simpa using h
    have e : Hid (pickI c n = -((c + 1).tmod n)) := Lib.hid (by unfold pickI; rw [if_pos h, ← Int.neg_tmod, Int.tmod_eq_emod_of_nonneg (by omega)])
    go_enter Tryd.func14, Tryd.ntmps14
    go_wp2
    go_ret
    exact ⟨congrArg (fun z => Ending.returned (.int .i64 z)) e.out.symm, rfl⟩
  · have d : decide (c < 0) = false := by simpa using h
    have e : Hid (pickI c n = c % n) := Lib.hid (by unfold pickI; rw [if_neg h])
    go_enter Tryd.func14, Tryd.ntmps14
    go_wp2
    go_ret
    exact ⟨congrArg (fun z => Ending.returned (.int .i64 z)) e.out.symm, rfl⟩

def numTab : List Int := [64, 128, 8192, 16384, 1073741824, 36028797018963968, 576460752303423488, 2]
def numFrom (c : Int) : Int :=
  if pickI c 16 ≥ 8 then -pickI (pickI c 4611686018427387904 / 8) (numTab.getD (pickI c 8).toNat 0) else pickI (pickI c 4611686018427387904 / 8) (numTab.getD (pickI c 8).toNat 0)
theorem numTab_range (i : Nat) (h : i < 8) : 1 ≤ numTab.getD i 0 ∧ numTab.getD i 0 ≤ 576460752303423488 := by
  have : ∀ j, j < 8 → 1 ≤ numTab.getD j 0 ∧ numTab.getD j 0 ≤ 576460752303423488 := by decide
  exact this i h
theorem numFrom_range (c : Int) : -576460752303423488 ≤ numFrom c ∧ numFrom c ≤ 576460752303423488 := by
  have h8 := pickI_range c 8 (by decide)
  have ht := numTab_range (pickI c 8).toNat (by omega)
  have h := pickI_range (pickI c 4611686018427387904 / 8) (numTab.getD (pickI c 8).toNat 0) ht.1
  unfold numFrom
  split <;> omega

set_option maxRecDepth 100000 in
set_option maxHeartbeats 1600000 in
theorem numFrom_any (c : Int) (w : World) (hc1 : -9223372036854775808 ≤ c) (hc2 : c ≤ 9223372036854775807) :
    Calls Tryd.prog 11 #[.int .i64 c] w fun e w' => e = .returned (.int .i64 (numFrom c)) ∧ Below w.heap.size w w' := by
  have h8 := pickI_range c 8 (by decide)
  have h62 := pickI_range c 4611686018427387904 (by decide)
  have h16 := pickI_range c 16 (by decide)
  obtain ⟨q, hq⟩ : ∃ q, pickI c 4611686018427387904 = q := ⟨_, rfl⟩
  obtain ⟨i, hi⟩ : ∃ i, pickI c 8 = i := ⟨_, rfl⟩
  obtain ⟨g, hg⟩ : ∃ g, pickI c 16 = g := ⟨_, rfl⟩
  have c62 := pick01_any c 4611686018427387904 w hc1 hc2 (by decide) (by decide)
  have c8 := fun W : World => pick01_any c 8 W hc1 hc2 (by decide) (by decide)
  have c16 := fun W : World => pick01_any c 16 W hc1 hc2 (by decide) (by decide)
  rw [hq] at c62 h62
  simp only [hi] at c8 h8
  simp only [hg] at c16 h16
  have C62 := Lib.hid c62
  have C8 := Lib.hid c8
  have C16 := Lib.hid c16
  have HF : Hid (numFrom c = if g ≥ 8 then -pickI (q / 8) (numTab.getD i.toNat 0) else pickI (q / 8) (numTab.getD i.toNat 0)) := Lib.hid (by unfold numFrom; rw [hq, hi, hg])
  clear c62 c8 c16 hq hi hg
  have hM2 := numTab_range i.toNat (by omega)
  have hM := pickI_range (q / 8) (numTab.getD i.toNat 0) hM2.1
  by_cases hg8 : 8 ≤ g
  · have dg : decide (8 ≤ g) = true := by simpa using hg8
    have hi8 : i = 0 ∨ i = 1 ∨ i = 2 ∨ i = 3 ∨ i = 4 ∨ i = 5 ∨ i = 6 ∨ i = 7 := by omega
    rcases hi8 with rfl | rfl | rfl | rfl | rfl | rfl | rfl | rfl
    all_goals
      have e8 := HF.out
      rw [if_pos hg8] at e8
      simp [numTab] at e8 hM hM2
      have E8 := Lib.hid e8
      clear e8
      go_enter Tryd.func11, Tryd.ntmps11
      go_wp2_with fail
      refine C62.out.mono ?_
      rintro e w' ⟨rfl, rfl⟩
      go_wp2_with fail
      refine (C8.out _).mono ?_
      rintro e w' ⟨rfl, rfl⟩
      go_wp2_with fail
      refine (pick01_any _ _ _ (by omega) (by omega) (by omega) (by omega)).mono ?_
      rintro e w' ⟨rfl, rfl⟩
      go_wp2_with fail
      refine (C16.out _).mono ?_
      rintro e w' ⟨rfl, rfl⟩
      go_wp2_with fail
      go_ret
      exact ⟨congrArg (fun z => Ending.returned (.int .i64 z)) E8.out.symm, (Below.refl _ _).alloc (Nat.le_refl _) _⟩
  · have dg : decide (8 ≤ g) = false := by simpa using hg8
    have hi8 : i = 0 ∨ i = 1 ∨ i = 2 ∨ i = 3 ∨ i = 4 ∨ i = 5 ∨ i = 6 ∨ i = 7 := by omega
    rcases hi8 with rfl | rfl | rfl | rfl | rfl | rfl | rfl | rfl
    all_goals
      have e8 := HF.out
      rw [if_neg hg8] at e8
      simp [numTab] at e8 hM hM2
      have E8 := Lib.hid e8
      clear e8
      go_enter Tryd.func11, Tryd.ntmps11
      go_wp2_with fail
      refine C62.out.mono ?_
      rintro e w' ⟨rfl, rfl⟩
      go_wp2_with fail
      refine (C8.out _).mono ?_
      rintro e w' ⟨rfl, rfl⟩
      go_wp2_with fail
      refine (pick01_any _ _ _ (by omega) (by omega) (by omega) (by omega)).mono ?_
      rintro e w' ⟨rfl, rfl⟩
      go_wp2_with fail
      refine (C16.out _).mono ?_
      rintro e w' ⟨rfl, rfl⟩
      go_wp2_with fail
      go_ret
      exact ⟨congrArg (fun z => Ending.returned (.int .i64 z)) E8.out.symm, (Below.refl _ _).alloc (Nat.le_refl _) _⟩

set_option maxRecDepth 100000 in
set_option maxHeartbeats 1600000 in
theorem sane01_any (w : World) (hn : NibCells w) :
    Calls Tryd.prog 10 #[] w fun e w' => e = .returned (.bool true) ∧ Below w.heap.size w w' := by
  have c1 := Lib.hid (putInt_is (n := -64) (s := ⟨#[127]⟩) (er := 0) (by decide +kernel))
  have c2 := Lib.hid (putInt_is (n := 64) (s := ⟨#[128, 1]⟩) (er := 0) (by decide +kernel))
  have c3 := Lib.hid (int_is (s := ⟨#[97, 172, 2, 98]⟩) (at_ := 1) (n := 150) (nx := 3) (er := 0) (by decide +kernel) (by decide +kernel))
  have c4 := Lib.hid (int_is (s := ⟨#[128, 0]⟩) (at_ := 0) (n := 0) (nx := 0) (er := 10) (by decide +kernel) (by decide +kernel))
  have c5 := Lib.hid (putStr_is (n := ⟨#[97, 98]⟩) (s := ⟨#[4, 97, 98]⟩) (er := 0) (by decide +kernel) (by decide +kernel))
  have c6 := Lib.hid (str_is (s := ⟨#[4, 97, 98, 99]⟩) (at_ := 0) (r := ⟨#[97, 98]⟩) (nx := 3) (er := 0) (by decide +kernel) (by decide +kernel))
  have c7 := Lib.hid (str_is (s := ⟨#[4, 97]⟩) (at_ := 0) (r := ByteArray.empty) (nx := 0) (er := 10) (by decide +kernel) (by decide +kernel))
  have c8 := Lib.hid (putInt_is (n := 4611686018427387904) (s := ByteArray.empty) (er := 10) (by decide +kernel))
  have c9 := Lib.hid (int_is (s := ⟨#[]⟩) (at_ := 1) (n := 0) (nx := 0) (er := 2) (by decide +kernel) (by decide +kernel))
  have c10 := Lib.hid (sum_is (s := ⟨#[49, 50, 51, 52, 53, 54, 55, 56, 57]⟩) (n := 3808858755) (by decide +kernel) (by decide +kernel))
  have Hn := Lib.hid hn
  clear hn
  go_enter Tryd.func10, Tryd.ntmps10
  go_wp2_with fail
  refine (c1.out _).mono ?_
  rintro e w1 ⟨rfl, hb1⟩
  go_wp2_with fail
  refine (c2.out _).mono ?_
  rintro e w2 ⟨rfl, hb2⟩
  go_wp2_with fail
  refine (c3.out _).mono ?_
  rintro e w' ⟨rfl, rfl⟩
  go_wp2_with fail
  refine (c4.out _).mono ?_
  rintro e w' ⟨rfl, rfl⟩
  go_wp2_with fail
  refine (c5.out _).mono ?_
  rintro e w3 ⟨rfl, hb3⟩
  go_wp2_with fail
  refine (c6.out _).mono ?_
  rintro e w' ⟨rfl, rfl⟩
  go_wp2_with fail
  refine (c7.out _).mono ?_
  rintro e w' ⟨rfl, rfl⟩
  go_wp2_with fail
  refine (c8.out _).mono ?_
  rintro e w4 ⟨rfl, hb4⟩
  go_wp2_with fail
  refine (c9.out _).mono ?_
  rintro e w' ⟨rfl, rfl⟩
  have hB : Below w.heap.size w w4 := Below_then (Below_then (Below_then hb1 hb2) hb3) hb4
  go_wp2_with fail
  refine (c10.out _ (Hn.out.below hB)).mono ?_
  rintro e w' ⟨rfl, rfl⟩
  go_wp2_with fail
  go_ret
  exact ⟨rfl, hB⟩
end Go.Proofs.YtlenfhliflchgaaDoor
