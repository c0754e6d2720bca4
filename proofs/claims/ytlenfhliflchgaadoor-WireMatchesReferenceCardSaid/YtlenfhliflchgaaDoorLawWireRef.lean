/- WireMatchesReference: the walk. -/
import Derived.Test.YtlenfhliflchgaaDoorLaw01Base
namespace Go.Proofs.YtlenfhliflchgaaDoor
open Go.RowKit

attribute [local go_sem] min2_i min_two_i
set_option maxRecDepth 100000 in
set_option maxHeartbeats 3200000 in
theorem wireRef_walk (n : Int) (s : ByteArray) (at_ : Int) (w : World) (hn : NibCells w) (hn1 : -9223372036854775808 ≤ n) (hn2 : n ≤ 9223372036854775807)
    (_hs : s.size ≤ 140737488351232) (ha1 : -9223372036854775808 ≤ at_) (ha2 : at_ ≤ 9223372036854775807) :
    Calls Tryd.prog 3 #[.int .i64 n, .string s, .int .i64 at_] w fun e w' => e = .returned (.bool true) ∧ Below w.heap.size w w' := by
  have Hn := Lib.hid hn
  clear hn
  obtain ⟨P, hP, hP1, hP2, hP3⟩ := cut_len s 300 (by decide)
  clear hP3
  go_enter Tryd.func3, Tryd.ntmps3
  go_wp2_with fail
  refine (sane01_any _ Hn.out).mono ?_
  rintro e w1 ⟨rfl, hb1⟩
  go_wp2_with fail
  obtain ⟨p, hp⟩ : ∃ p, s.extract 0 P = p := ⟨_, rfl⟩
  have sp : p.size ≤ 300 := by rw [← hp]; simp; omega
  rw [hp]
  clear hp hP
  refine (numFrom_any _ _ (by omega) (by omega)).mono ?_
  rintro e w2 ⟨rfl, hb2⟩
  obtain ⟨nf, hnf⟩ : ∃ nf, numFrom n = nf := ⟨_, rfl⟩
  rw [hnf]
  clear hnf
  have hB2 := Below_then hb1 hb2
  clear hb1 hb2
  go_wp2_with fail
  obtain ⟨w3, hw3⟩ : ∃ w3, w2.alloc (.cells #[.int .i64 n, .int .i64 nf] 3) = w3 := ⟨_, rfl⟩
  have hs3 : w3.heap.size = w2.heap.size + 1 := by rw [← hw3]; simp
  have hB3 : Below w.heap.size w w3 := by rw [← hw3]; exact hB2.alloc hB2.size _
  have c0 : w3.cell? ⟨w2.heap.size, 0, none⟩ = some (.int .i64 n) := by rw [← hw3]; simp
  have c1 : w3.cell? ⟨w2.heap.size, 1, none⟩ = some (.int .i64 nf) := by rw [← hw3]; simp
  rw [hw3]
  have Hs3 := Lib.hid hs3
  have C0 := Lib.hid c0
  have C1 := Lib.hid c1
  clear hw3 hs3 c0 c1 hB2
  go_loopw [10, 11, 12, 13, 14, 44] (fun _ _ _ _ _ v44 wr => ∃ i : Nat, i ≤ 2 ∧ v44 = .int .i64 i ∧ Below w3.heap.size w3 wr) (fun _ _ _ _ _ v44 _ => 2 - (intOf v44).toNat)
  case atStart => exact ⟨0, by omega, rfl, Below.refl _ _⟩
  case round =>
    obtain ⟨i, hi, rfl, hB⟩ := hrel
    have hlt : w2.heap.size < w3.heap.size := by have := Hs3.out; omega
    have c0 := (hB.cell (p := ⟨w2.heap.size, 0, none⟩) hlt).trans C0.out
    have c1 := (hB.cell (p := ⟨w2.heap.size, 1, none⟩) hlt).trans C1.out
    have hi3 : i = 0 ∨ i = 1 ∨ i = 2 := by omega
    rcases hi3 with rfl | rfl | rfl
    · go_wp2_with fail
      refine (putInt_any _ _).mono ?_
      rintro e w4 ⟨rfl, hb4⟩
      go_wp2_with fail
      refine (refPutInt_any _ _).mono ?_
      rintro e w5 ⟨rfl, hb5⟩
      go_wp2_with fail
      go_roundw
      case rel => exact ⟨1, by omega, rfl, hB.trans ((Below_then hb4 hb5).mono hB.size)⟩
      case measure => simp [intOf]
    · go_wp2_with fail
      refine (putInt_any _ _).mono ?_
      rintro e w4 ⟨rfl, hb4⟩
      go_wp2_with fail
      refine (refPutInt_any _ _).mono ?_
      rintro e w5 ⟨rfl, hb5⟩
      go_wp2_with fail
      go_roundw
      case rel => exact ⟨2, by omega, rfl, hB.trans ((Below_then hb4 hb5).mono hB.size)⟩
      case measure => simp [intOf]
    · obtain ⟨wo, rfl⟩ : ∃ wo : World, wo = wr := ⟨_, rfl⟩
      have hB4 : Below w.heap.size w wo := Below_then hB3 hB
      clear c0 c1 hB hB3 C0 C1 Hs3 hlt
      go_wp2_with fail
      refine (pick01_any _ _ _ (by omega) (by omega) (by omega) (by omega)).mono ?_
      rintro e w' ⟨rfl, rfl⟩
      obtain ⟨pk, hpk⟩ : ∃ pk, pickI at_ (↑p.size + 2) = pk := ⟨_, rfl⟩
      rw [hpk]
      clear hpk
      go_wp2_with fail
      obtain ⟨w6, hw6⟩ : ∃ w6, wo.alloc (.cells #[.int .i64 at_, .int .i64 pk] 3) = w6 := ⟨_, rfl⟩
      have hs6 : w6.heap.size = wo.heap.size + 1 := by rw [← hw6]; simp
      have hB6 : Below w.heap.size w w6 := by rw [← hw6]; exact hB4.alloc hB4.size _
      have c0 : w6.cell? ⟨wo.heap.size, 0, none⟩ = some (.int .i64 at_) := by rw [← hw6]; simp
      have c1 : w6.cell? ⟨wo.heap.size, 1, none⟩ = some (.int .i64 pk) := by rw [← hw6]; simp
      rw [hw6]
      have Hs6 := Lib.hid hs6
      have C0 := Lib.hid c0
      have C1 := Lib.hid c1
      clear hw6 hs6 c0 c1 hB4
      go_loopw [16, 17, 18, 19, 20, 21, 22, 23, 24, 25, 26, 27, 28, 75] (fun _ _ _ _ _ _ _ _ _ _ _ _ _ v75 wz => ∃ i : Nat, i ≤ 2 ∧ v75 = .int .i64 i ∧ Below w6.heap.size w6 wz) (fun _ _ _ _ _ _ _ _ _ _ _ _ _ v75 _ => 2 - (intOf v75).toNat)
      case atStart => exact ⟨0, by omega, rfl, Below.refl _ _⟩
      case round =>
        obtain ⟨j, hj, rfl, hBz⟩ := hrel
        have hlt : wo.heap.size < w6.heap.size := by have := Hs6.out; omega
        have c0 := (hBz.cell (p := ⟨wo.heap.size, 0, none⟩) hlt).trans C0.out
        have c1 := (hBz.cell (p := ⟨wo.heap.size, 1, none⟩) hlt).trans C1.out
        have hj3 : j = 0 ∨ j = 1 ∨ j = 2 := by omega
        rcases hj3 with rfl | rfl | rfl
        · go_wp2_with fail
          refine (int_any _ _ _ (by omega)).mono ?_
          rintro e w' ⟨rfl, rfl⟩
          go_wp2_with fail
          refine (refInt_any _ _ _ (by omega)).mono ?_
          rintro e w7 ⟨rfl, hb7⟩
          go_wp2_with fail
          refine (str_any _ _ _ (by omega)).mono ?_
          rintro e w' ⟨rfl, rfl⟩
          go_wp2_with fail
          refine (refStr_any _ _ _ (by omega)).mono ?_
          rintro e w8 ⟨rfl, hb8⟩
          go_wp2_with fail
          go_roundw
          case rel => exact ⟨1, by omega, rfl, hBz.trans ((Below_then hb7 hb8).mono hBz.size)⟩
          case measure => simp [intOf]
        · go_wp2_with fail
          refine (int_any _ _ _ (by omega)).mono ?_
          rintro e w' ⟨rfl, rfl⟩
          go_wp2_with fail
          refine (refInt_any _ _ _ (by omega)).mono ?_
          rintro e w7 ⟨rfl, hb7⟩
          go_wp2_with fail
          refine (str_any _ _ _ (by omega)).mono ?_
          rintro e w' ⟨rfl, rfl⟩
          go_wp2_with fail
          refine (refStr_any _ _ _ (by omega)).mono ?_
          rintro e w8 ⟨rfl, hb8⟩
          go_wp2_with fail
          go_roundw
          case rel => exact ⟨2, by omega, rfl, hBz.trans ((Below_then hb7 hb8).mono hBz.size)⟩
          case measure => simp [intOf]
        · have hB7 : Below w.heap.size w wr := Below_then hB6 hBz
          clear c0 c1 hBz hB6 C0 C1 Hs6 hlt
          go_wp2_with fail
          refine (putStr_any _ _ (by omega)).mono ?_
          rintro e w8 ⟨rfl, hb8⟩
          go_wp2_with fail
          refine (refPutStr_any _ _ (by omega)).mono ?_
          rintro e w9 ⟨rfl, hb9⟩
          have hB9 : Below w.heap.size w w9 := Below_then (Below_then hB7 hb8) hb9
          go_wp2_with fail
          refine (sum_any _ _ (by omega) (Hn.out.below hB9)).mono ?_
          rintro e w' ⟨rfl, rfl⟩
          go_wp2_with fail
          refine (refSum_any _ _ (by omega)).mono ?_
          rintro e w' ⟨rfl, rfl⟩
          go_wp2_with fail
          go_ret
          exact ⟨by simp, hB9⟩
end Go.Proofs.YtlenfhliflchgaaDoor
