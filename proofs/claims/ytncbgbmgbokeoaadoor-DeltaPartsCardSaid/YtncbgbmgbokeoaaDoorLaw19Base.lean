/- The helpers of the statements of layer 19: cut, sane. -/
import Derived.Test.YtncbgbmgbokeoaaDoorDiff
import Derived.Test.YtncbgbmgbokeoaaDoorApply3
namespace Go.Proofs.YtncbgbmgbokeoaaDoor
open Go.RowKit

def cutF (s : ByteArray) (n : Nat) : ByteArray := s.extract 0 (min s.size n)
theorem cutF_size (s : ByteArray) (n : Nat) : (cutF s n).size = min s.size n := by unfold cutF; simp
set_option maxHeartbeats 400000 in
theorem cut19_any (s : ByteArray) (n : Nat) (w : World) (hn : n ≤ 1000000) :
    Calls Tryd.prog 11 #[.string s, .int .i64 n] w fun e w' => e = .returned (.string (cutF s n)) ∧ w = w' := by
  by_cases h : n < s.size
  · have hm : min (s.size : Int) n = n := by omega
    have d : decide ((n : Int) < s.size) = true := by simp; omega
    have k1 : (0 : Int) ≤ n := by omega
    have k2 : (n : Int) ≤ s.size := by omega
    have HE := Lib.hid (show cutF s n = s.extract 0 n by unfold cutF; rw [Nat.min_eq_right (by omega)])
    go_enter Tryd.func11, Tryd.ntmps11
    go_wp2
    go_ret
    exact ⟨by rw [HE.out]; rfl, rfl⟩
  · have hm : min (s.size : Int) n = s.size := by omega
    have d : decide ((n : Int) < s.size) = false := by simp; omega
    have HE := Lib.hid (show cutF s n = s by unfold cutF; rw [Nat.min_eq_left (by omega)]; apply ba_of_list; rw [ex_list]; rw [List.take_of_length_le (by simp)]; rfl)
    go_enter Tryd.func11, Tryd.ntmps11
    go_wp2
    go_ret
    exact ⟨by rw [HE.out]; rfl, rfl⟩

theorem diff_is {old next d : ByteArray} (h : diffF old next = d) (w : World) (hn : NibCells w) (hos : old.size ≤ 4611686018427387904) (hns : next.size ≤ 4611686018427387904) :
    Calls Tryd.prog 12 #[.string old, .string next] w fun e w' => e = .returned (.string d) ∧ Below w.heap.size w w' := by
  have := diff_any old next w hn hos hns; rwa [h] at this
theorem apply_is {a0 a1 : Addr} {old d s : ByteArray} {e : Int} (h : applyF old d = (s, e)) (w : World) (hn : NibCells w) (he : ErrCells a0 a1 w) (hd : d.size ≤ 4611686018427387904) :
    Calls Tryd.prog 17 #[.string old, .string d] w fun e' w' => e' = .returned (.tuple #[.string s, .int .i64 e]) ∧ Below w.heap.size w w' := by
  have := apply_any old d a0 a1 w hn he hd; rwa [h] at this

def rain : ByteArray := ⟨#[116, 104, 101, 32, 114, 97, 105, 110, 32, 105, 110, 32, 115, 112, 97, 105, 110]⟩
def rainN : ByteArray := ⟨#[116, 104, 101, 32, 114, 97, 105, 110, 32, 105, 110, 32, 115, 112, 97, 105, 78]⟩
def may : ByteArray := ⟨#[97, 108, 108, 32, 116, 104, 101, 32, 114, 97, 105, 110, 32, 105, 110, 32, 109, 97, 121]⟩
def rainD : ByteArray := ⟨#[178, 199, 218, 195, 25, 194, 196, 209, 138, 26, 0, 8, 97, 108, 108, 32, 24, 0, 0, 6, 109, 97, 121]⟩
def rainX : ByteArray := ⟨#[178, 199, 218, 195, 25, 194, 196, 209, 138, 26, 0, 8, 97, 108, 108, 32, 24, 0, 0, 6, 109, 97, 121, 120]⟩
def lit8 : ByteArray := ⟨#[97, 98, 99, 100, 101, 102, 103, 104]⟩
def lit7 : ByteArray := ⟨#[97, 98, 99, 100, 101, 102, 103]⟩
def lit8D : ByteArray := ⟨#[238, 134, 161, 169, 1, 238, 134, 161, 169, 1, 16, 0]⟩
def lit7D : ByteArray := ⟨#[130, 209, 191, 226, 28, 130, 209, 191, 226, 28, 0, 14, 97, 98, 99, 100, 101, 102, 103]⟩
theorem v1 : diffF rain may = rainD := by decide +kernel
theorem v2 : applyF rain rainD = (may, 0) := by decide +kernel
theorem v3 : applyF rainN rainD = (.empty, 190) := by decide +kernel
theorem v4 : applyF ⟨#[97]⟩ ⟨#[]⟩ = (.empty, 10) := by decide +kernel
theorem v5 : applyF rain rainX = (.empty, 10) := by decide +kernel
theorem v6 : diffF lit8 lit8 = lit8D := by decide +kernel
theorem v7 : diffF lit7 lit7 = lit7D := by decide +kernel

set_option maxRecDepth 100000 in
set_option maxHeartbeats 3200000 in
theorem sane19_any (a0 a1 : Addr) (w : World) (hn : NibCells w) (he : ErrCells a0 a1 w) :
    Calls Tryd.prog 10 #[] w fun e w' => e = .returned (.bool true) ∧ Below w.heap.size w w' := by
  have c1 := Lib.hid (fun W h => diff_is v1 W h (by decide) (by decide))
  have c2 := Lib.hid (fun W h k => apply_is (a0 := a0) (a1 := a1) v2 W h k (by decide))
  have c3 := Lib.hid (fun W h k => apply_is (a0 := a0) (a1 := a1) v3 W h k (by decide))
  have c4 := Lib.hid (fun W h k => apply_is (a0 := a0) (a1 := a1) v4 W h k (by decide))
  have c5 := Lib.hid (fun W h k => apply_is (a0 := a0) (a1 := a1) v5 W h k (by decide))
  have c6 := Lib.hid (fun W h => diff_is v6 W h (by decide) (by decide))
  have c7 := Lib.hid (fun W h => diff_is v7 W h (by decide) (by decide))
  have hmay : may.toList = [97, 108, 108, 32, 116, 104, 101, 32, 114, 97, 105, 110, 32, 105, 110, 32, 109, 97, 121] := by decide +kernel
  have hrd : rainD.size = 23 := by decide +kernel
  have hne : (lit8D.toList == lit7D.toList) = false := by decide +kernel
  go_enter Tryd.func10, Tryd.ntmps10
  go_wp2_with fail
  refine (c1.out _ hn).mono ?_
  rintro e w1 ⟨rfl, hb1⟩
  have hB1 := hb1
  go_wp2_with fail
  refine (c2.out _ (hn.below hB1) (he.below hB1)).mono ?_
  rintro e w2 ⟨rfl, hb2⟩
  have hB2 := Below_then hB1 hb2
  go_wp2_with fail
  refine (c3.out _ (hn.below hB2) (he.below hB2)).mono ?_
  rintro e w3 ⟨rfl, hb3⟩
  have hB3 := Below_then hB2 hb3
  go_wp2_with fail
  refine (c4.out _ (hn.below hB3) (he.below hB3)).mono ?_
  rintro e w4 ⟨rfl, hb4⟩
  have hB4 := Below_then hB3 hb4
  go_wp2_with fail
  refine (c5.out _ (hn.below hB4) (he.below hB4)).mono ?_
  rintro e w5 ⟨rfl, hb5⟩
  have hB5 := Below_then hB4 hb5
  go_wp2_with fail
  refine (c6.out _ (hn.below hB5)).mono ?_
  rintro e w6 ⟨rfl, hb6⟩
  have hB6 := Below_then hB5 hb6
  go_wp2_with fail
  refine (c7.out _ (hn.below hB6)).mono ?_
  rintro e w7 ⟨rfl, hb7⟩
  have hB7 := Below_then hB6 hb7
  go_wp2_with fail
  go_ret
  exact ⟨by rfl, hB7⟩
end Go.Proofs.YtncbgbmgbokeoaaDoor
