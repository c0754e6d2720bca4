/- WireUnique: the walk. -/
import Derived.Test.YtlenfhliflchgaaDoorLaw01Base
import Derived.RegionTactic
import Derived.BigRegion
namespace Go.Proofs.YtlenfhliflchgaaDoor
open Go.RowKit

theorem int_cases (t : ByteArray) (k : Nat) (hk : k ≤ t.size) : ∃ (n nx er : Int) (u : ByteArray), intAt t k = (n, nx, er) ∧ putInt n = (u, 0) ∧
    ((er = 0 ∧ ∃ m : Nat, nx = m ∧ k ≤ m ∧ m ≤ t.size ∧ u = t.extract k m) ∨ (er = 10 ∧ n = 0 ∧ nx = 0)) := by
  cases h : intL (t.data.toList.drop k) with
  | none => exact ⟨0, 0, 10, _, by unfold intAt; rw [if_neg (by omega), Int.toNat_natCast, h], putInt_val 0 (by decide) (by decide), .inr ⟨rfl, rfl, rfl⟩⟩
  | some p =>
    obtain ⟨n, c⟩ := p
    obtain ⟨h1, h2, h3, h4, h5⟩ := enc_intL _ n c h
    rw [List.length_drop, ba_size] at h5
    refine ⟨n, (k : Int) + c, 0, _, by unfold intAt; rw [if_neg (by omega), Int.toNat_natCast, h], putInt_val n h1 h2, .inl ⟨rfl, k + c, by omega, by omega, by omega, ?_⟩⟩
    apply ba_ext
    rw [ba_extract, ba_mk, show k + c - k = c by omega, h3]
theorem str_cases (t : ByteArray) (k : Nat) (hk : k ≤ t.size) : ∃ (v : ByteArray) (nx er : Int) (u : ByteArray), strAt t k = (v, nx, er) ∧ v.size ≤ 65536 ∧ putStr v = (u, 0) ∧
    ((er = 0 ∧ ∃ m : Nat, nx = m ∧ k ≤ m ∧ m ≤ t.size ∧ u = t.extract k m) ∨ (er = 10 ∧ v = ByteArray.empty ∧ nx = 0)) := by
  obtain ⟨n, nx, er, u, hi, hu, hc⟩ := int_cases t k hk
  have he : ∀ x : ByteArray, x = ByteArray.empty → x.size ≤ 65536 := fun x hx => by subst hx; decide
  rcases hc with ⟨rfl, m, rfl, h1, h2, rfl⟩ | ⟨rfl, rfl, rfl⟩
  · by_cases hn : n < 0 ∨ 65536 < n ∨ (t.size : Int) - m < n
    · refine ⟨ByteArray.empty, 0, 10, _, ?_, he _ rfl, putStr_val _ (he _ rfl), .inr ⟨rfl, rfl, rfl⟩⟩
      unfold strAt; rw [hi]; simp only; rw [if_neg (by decide), if_pos hn]
    · obtain ⟨j, rfl⟩ := Int.eq_ofNat_of_zero_le (by omega : 0 ≤ n)
      have hs : (t.extract m (m + j)).size = j := by simp; omega
      refine ⟨t.extract m (m + j), (m : Int) + j, 0, _, ?_, by omega, putStr_val _ (by omega), .inl ⟨rfl, m + j, by omega, by omega, by omega, ?_⟩⟩
      · unfold strAt; rw [hi]; simp only; rw [if_neg (by decide), if_neg hn, Int.toNat_natCast, show ((m : Int) + j).toNat = m + j by omega]
      · rw [hs]
        have e : (⟨(encInt j).toArray⟩ : ByteArray) = t.extract k m := by
          have := putInt_val j (by unfold maxInt; omega) (by unfold maxInt; omega)
          rw [this] at hu
          exact congrArg Prod.fst hu
        rw [e]
        apply ba_ext
        rw [ba_append, ba_extract, ba_extract, ba_extract]
        have e2 : t.data.toList.drop m = (t.data.toList.drop k).drop (m - k) := by rw [List.drop_drop, show k + (m - k) = m by omega]
        rw [e2, show m + j - k = (m - k) + j by omega, show m + j - m = j by omega, ← List.take_add]
  · refine ⟨ByteArray.empty, 0, 10, _, ?_, he _ rfl, putStr_val _ (he _ rfl), .inr ⟨rfl, rfl, rfl⟩⟩
    unfold strAt; rw [hi]; simp only; rw [if_pos (by decide)]

attribute [local go_sem] min2_i min_two_i
set_option maxRecDepth 100000 in
set_option maxHeartbeats 3200000 in
theorem unique_walk (s : ByteArray) (at_ first : Int) (w : World) (hn : NibCells w) 
    (_hs : s.size ≤ 140737488351232) (ha1 : -9223372036854775808 ≤ at_) (ha2 : at_ ≤ 9223372036854775807) (hf1 : 0 ≤ first) (hf2 : first ≤ 255) :
    Calls Tryd.prog 5 #[.string s, .int .i64 at_, .int .u8 first] w fun e w' => e = .returned (.bool true) ∧ Below w.heap.size w w' := by
  have Hn := Lib.hid hn
  clear hn
  obtain ⟨P, hP, hP1, hP2, hP3⟩ := cut_len s 300 (by decide)
  clear hP3
  obtain ⟨f, rfl⟩ : ∃ f : UInt8, (f.toNat : Int) = first := ⟨UInt8.ofNat first.toNat, by rw [ofNat_toNat _ (by omega)]; omega⟩
  go_enter Tryd.func5, Tryd.ntmps5
  go_wp2_with fail
  refine (sane01_any _ Hn.out).mono ?_
  rintro e w1 ⟨rfl, hb1⟩
  have hcv : (convert 38 9 (.slice (some ⟨w1.heap.size, 0, none⟩) 1 1)).run Tryd.prog (w1.alloc (.cells #[.int .u8 f.toNat] 5)).drew = .ok (.string ⟨[f].toArray⟩) (w1.alloc (.cells #[.int .u8 f.toNat] 5)).drew := by
    refine run_convert_bytes_back _ _ _ 5 _ 1 [f] Tryd.underlying38 Tryd.underlying5 Tryd.underlying9 (fun j hj => ?_)
    obtain rfl : j = 0 := by simpa using hj
    exact cell_one_new _ _ _ 0 _ rfl
  go_wp2_with fail
  go_region
  obtain ⟨t, ht⟩ : ∃ t : ByteArray, ⟨#[f]⟩ ++ s.extract 0 P = t := ⟨_, rfl⟩
  have st : t.size ≤ 301 := by
    have h1 : (⟨#[f]⟩ : ByteArray).size = 1 := rfl
    have h2 : (s.extract 0 P).size = P := by simp; omega
    rw [← ht, ba_append_size, h1, h2]; omega
  obtain ⟨w2, hw2⟩ : ∃ w2, (w1.alloc (.cells #[.int .u8 f.toNat] 5)).drew = w2 := ⟨_, rfl⟩
  have hB2 : Below w.heap.size w w2 := by rw [← hw2]; exact (hb1.alloc hb1.size _).drew
  rw [ht, hw2]
  clear ht hP hw2 hcv hb1
  go_wp2_with fail
  refine (pick01_any _ _ _ (by omega) (by omega) (by omega) (by omega)).mono ?_
  rintro e w' ⟨rfl, rfl⟩
  have hpk := pickI_range at_ (t.size + 1) (by omega)
  obtain ⟨pk, hpk2⟩ := Int.eq_ofNat_of_zero_le hpk.1
  rw [hpk2] at hpk ⊢
  clear hpk2
  obtain ⟨i0, x0, g0, u0, I0, U0, E0⟩ := int_cases t 0 (by omega)
  obtain ⟨v0, y0, f0, z0, S0, T0, Z0, F0⟩ := str_cases t 0 (by omega)
  obtain ⟨i1, x1, g1, u1, I1, U1, E1⟩ := int_cases t pk (by omega)
  obtain ⟨v1, y1, f1, z1, S1, T1, Z1, F1⟩ := str_cases t pk (by omega)
  have CI0 := Lib.hid (int_is I0 (by omega))
  have CU0 := Lib.hid (putInt_is U0)
  have CS0 := Lib.hid (str_is S0 (by omega))
  have CZ0 := Lib.hid (putStr_is Z0 (by omega))
  have CI1 := Lib.hid (int_is I1 (by omega))
  have CU1 := Lib.hid (putInt_is U1)
  have CS1 := Lib.hid (str_is S1 (by omega))
  have CZ1 := Lib.hid (putStr_is Z1 (by omega))
  have HE0 := Lib.hid E0
  have HF0 := Lib.hid F0
  have HE1 := Lib.hid E1
  have HF1 := Lib.hid F1
  clear I0 U0 E0 S0 Z0 F0 I1 U1 E1 S1 Z1 F1
  go_wp2_with fail
  obtain ⟨w6, hw6⟩ : ∃ w6, w2.alloc (.cells #[.int .i64 0, .int .i64 pk] 3) = w6 := ⟨_, rfl⟩
  have hs6 : w6.heap.size = w2.heap.size + 1 := by rw [← hw6]; simp
  have hB6 : Below w.heap.size w w6 := by rw [← hw6]; exact hB2.alloc hB2.size _
  have c0 : w6.cell? ⟨w2.heap.size, 0, none⟩ = some (.int .i64 0) := by rw [← hw6]; simp
  have c1 : w6.cell? ⟨w2.heap.size, 1, none⟩ = some (.int .i64 pk) := by rw [← hw6]; simp
  rw [hw6]
  have Hs6 := Lib.hid hs6
  have C0 := Lib.hid c0
  have C1 := Lib.hid c1
  clear hw6 hs6 c0 c1 hB2
  go_loopw [10, 11, 12, 13, 14, 15, 16, 17, 18, 19, 20, 38] (fun _ _ _ _ _ _ _ _ _ _ _ v38 wz => ∃ i : Nat, i ≤ 2 ∧ v38 = .int .i64 i ∧ Below w6.heap.size w6 wz) (fun _ _ _ _ _ _ _ _ _ _ _ v38 _ => 2 - (intOf v38).toNat)
  case atStart => exact ⟨0, by omega, rfl, Below.refl _ _⟩
  case round =>
    obtain ⟨j, hj, rfl, hB⟩ := hrel
    have hlt : w2.heap.size < w6.heap.size := by have := Hs6.out; omega
    have c0 := (hB.cell (p := ⟨w2.heap.size, 0, none⟩) hlt).trans C0.out
    have c1 := (hB.cell (p := ⟨w2.heap.size, 1, none⟩) hlt).trans C1.out
    have hj3 : j = 0 ∨ j = 1 ∨ j = 2 := by omega
    rcases hj3 with rfl | rfl | rfl
    · go_wp2_with fail
      refine (CI0.out _).mono ?_
      rintro e w' ⟨rfl, rfl⟩
      go_wp2_with fail
      refine (CU0.out _).mono ?_
      rintro e w7 ⟨rfl, hb7⟩
      rcases HE0.out with ⟨rfl, m, rfl, hm1, hm2, rfl⟩ | ⟨rfl, rfl, rfl⟩
      all_goals
        go_wp2_with fail
        refine (CS0.out _).mono ?_
        rintro e w' ⟨rfl, rfl⟩
        go_wp2_with fail
        refine (CZ0.out _).mono ?_
        rintro e w8 ⟨rfl, hb8⟩
        rcases HF0.out with ⟨rfl, q, rfl, hq1, hq2, rfl⟩ | ⟨rfl, rfl, rfl⟩
        all_goals
          go_wp2_with fail
          go_roundw
          case rel => exact ⟨1, by omega, rfl, hB.trans ((Below_then hb7 hb8).mono hB.size)⟩
          case measure => simp [intOf]
    · go_wp2_with fail
      refine (CI1.out _).mono ?_
      rintro e w' ⟨rfl, rfl⟩
      go_wp2_with fail
      refine (CU1.out _).mono ?_
      rintro e w7 ⟨rfl, hb7⟩
      rcases HE1.out with ⟨rfl, m, rfl, hm1, hm2, rfl⟩ | ⟨rfl, rfl, rfl⟩
      all_goals
        go_wp2_with fail
        refine (CS1.out _).mono ?_
        rintro e w' ⟨rfl, rfl⟩
        go_wp2_with fail
        refine (CZ1.out _).mono ?_
        rintro e w8 ⟨rfl, hb8⟩
        rcases HF1.out with ⟨rfl, q, rfl, hq1, hq2, rfl⟩ | ⟨rfl, rfl, rfl⟩
        all_goals
          go_wp2_with fail
          go_roundw
          case rel => exact ⟨2, by omega, rfl, hB.trans ((Below_then hb7 hb8).mono hB.size)⟩
          case measure => simp [intOf]
    · go_wp2_with fail
      go_ret
      exact ⟨rfl, Below_then hB6 hB⟩
end Go.Proofs.YtlenfhliflchgaaDoor
