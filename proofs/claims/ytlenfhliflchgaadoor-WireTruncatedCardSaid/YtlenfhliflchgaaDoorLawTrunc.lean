/- WireTruncated: the walk. -/
import Derived.Test.YtlenfhliflchgaaDoorLaw01Base
namespace Go.Proofs.YtlenfhliflchgaaDoor
open Go.RowKit

theorem prefix_unique {n m : Int} {l r : List UInt8} (hn1 : -maxInt ≤ n) (hn2 : n ≤ maxInt) (hm1 : -maxInt ≤ m) (hm2 : m ≤ maxInt) (h : encInt n ++ l = encInt m ++ r) : n = m := by
  have h1 := intL_enc n hn1 hn2 l
  have h2 := intL_enc m hm1 hm2 r
  rw [h, h2] at h1
  simp only [Option.some.injEq, Prod.mk.injEq] at h1
  exact h1.1.symm
theorem intL_cut {n : Int} {k : Nat} (hn1 : -maxInt ≤ n) (hn2 : n ≤ maxInt) (hk : k < (encInt n).length) : intL ((encInt n).take k) = none := by
  cases h : intL ((encInt n).take k) with
  | none => rfl
  | some p =>
    exfalso
    obtain ⟨m, c⟩ := p
    obtain ⟨h1, h2, h3, h4, h5⟩ := enc_intL _ m c h
    rw [List.length_take] at h5
    have e : encInt n ++ [] = encInt m ++ (encInt n).drop c := by
      rw [List.append_nil, ← h3, List.take_take, Nat.min_eq_left (by omega), List.take_append_drop]
    have := prefix_unique hn1 hn2 h1 h2 e
    subst this
    omega
theorem intAt_cut {n : Int} {s : ByteArray} {k : Nat} (hn1 : -maxInt ≤ n) (hn2 : n ≤ maxInt) (hk : k < (encInt n).length) (hs : s.data.toList = (encInt n).take k) : intAt s 0 = (0, 0, 10) := by
  unfold intAt
  rw [if_neg (by omega), show (0 : Int).toNat = 0 from rfl, List.drop_zero, hs, intL_cut hn1 hn2 hk]
theorem strAt_cut {t s : ByteArray} {k : Nat} (ht : t.size ≤ 65536) (hk : k < (encInt t.size).length + t.size) (hs : s.data.toList = (encInt t.size ++ t.data.toList).take k) : strAt s 0 = (ByteArray.empty, 0, 10) := by
  have r1 : -maxInt ≤ (t.size : Int) := by unfold maxInt; omega
  have r2 : (t.size : Int) ≤ maxInt := by unfold maxInt; omega
  by_cases h : k < (encInt t.size).length
  · have hi : intAt s 0 = (0, 0, 10) := by
      refine intAt_cut (n := t.size) (k := k) r1 r2 h ?_
      rw [hs, List.take_append_of_le_length (by omega)]
    unfold strAt
    rw [hi]
    rfl
  · have hl : s.size = k := by
      have := congrArg List.length hs
      rw [ba_size, List.length_take, List.length_append, ba_size] at this
      omega
    have hi := intAt_at s 0 t.size (t.data.toList.take (k - (encInt t.size).length)) r1 r2 (by omega) (by rw [List.drop_zero, hs, List.take_append, List.take_of_length_le (by omega)])
    have hp := encInt_pos t.size
    have hz : ((0 : Nat) : Int) = 0 := rfl
    rw [hz] at hi
    unfold strAt
    rw [hi]
    simp only
    rw [if_neg (by decide), if_pos (by omega)]

attribute [local go_sem] min2_i min_two_i
set_option maxRecDepth 100000 in
set_option maxHeartbeats 3200000 in
theorem trunc_walk (c d : Int) (s : ByteArray) (at_ : Int) (w : World) (hn : NibCells w) (hc1 : -9223372036854775808 ≤ c) (hc2 : c ≤ 9223372036854775807) (hd1 : -9223372036854775808 ≤ d) (hd2 : d ≤ 9223372036854775807)
    (_hs : s.size ≤ 140737488351232) (ha1 : -9223372036854775808 ≤ at_) (ha2 : at_ ≤ 9223372036854775807) :
    Calls Tryd.prog 7 #[.int .i64 c, .int .i64 d, .string s, .int .i64 at_] w fun e w' => e = .returned (.bool true) ∧ Below w.heap.size w w' := by
  have Hn := Lib.hid hn
  clear hn
  obtain ⟨P, hP, hP1, hP2, hP3⟩ := cut_len s 200 (by decide)
  clear hP3
  have hnc := numFrom_range c
  have hnd := numFrom_range d
  have cc := fun W : World => numFrom_any c W hc1 hc2
  have cd := fun W : World => numFrom_any d W hd1 hd2
  obtain ⟨n, hnn⟩ : ∃ n, numFrom c = n := ⟨_, rfl⟩
  obtain ⟨m, hmm⟩ : ∃ m, numFrom d = m := ⟨_, rfl⟩
  rw [hnn] at hnc
  rw [hmm] at hnd
  simp only [hnn] at cc
  simp only [hmm] at cd
  have CC := Lib.hid cc
  have CD := Lib.hid cd
  clear cc cd hnn hmm
  have n1 : -maxInt ≤ n := by unfold maxInt; omega
  have n2 : n ≤ maxInt := by unfold maxInt; omega
  have m1 : -maxInt ≤ m := by unfold maxInt; omega
  have m2 : m ≤ maxInt := by unfold maxInt; omega
  obtain ⟨a, ha⟩ : ∃ a : ByteArray, ⟨(encInt n).toArray⟩ = a := ⟨_, rfl⟩
  obtain ⟨b, hb⟩ : ∃ b : ByteArray, ⟨(encInt m).toArray⟩ = b := ⟨_, rfl⟩
  have sa : a.size = (encInt n).length := by rw [← ha]; rfl
  have sb : b.size = (encInt m).length := by rw [← hb]; rfl
  have sa1 : 0 < a.size := by rw [sa]; exact encInt_pos n
  have sa2 : a.size ≤ 10 := by rw [sa]; exact encInt_len n
  have sb2 : b.size ≤ 10 := by rw [sb]; exact encInt_len m
  have v1 := putInt_val n n1 n2
  have v2 := putInt_val m m1 m2
  rw [ha] at v1
  rw [hb] at v2
  have C1 := Lib.hid (putInt_is v1)
  have C2 := Lib.hid (putInt_is v2)
  have hcut : ∀ k : Nat, k < a.size → intAt (a.extract 0 k) 0 = (0, 0, 10) := fun k hk =>
    intAt_cut (n := n) (k := k) n1 n2 (by omega) (by rw [ba_extract, ← ha]; simp)
  have Hcut := Lib.hid hcut
  clear v1 v2 hcut
  have hpre : Hid (n ≠ m → ((b.extract 0 a.size).toList == a.toList) = false) := Lib.hid (fun hne => by
    have : ¬ (b.extract 0 a.size).toList = a.toList := fun e => hne (by
      rw [Lib.extract_toList, ByteArray.toList_eq, Nat.sub_zero, List.drop_zero] at e
      refine prefix_unique n1 n2 m1 m2 (l := b.data.toList.drop a.size) (r := []) ?_
      rw [List.append_nil]
      have e1 : encInt n = b.data.toList.take a.size := by rw [e, ← ha]
      rw [e1, List.take_append_drop, ← hb])
    simpa using this)
  have Hab : Hid (n = m → b = a) := Lib.hid (fun e => by rw [← ha, ← hb, e])
  clear ha hb sa sb
  go_enter Tryd.func7, Tryd.ntmps7
  go_wp2_with fail
  refine (sane01_any _ Hn.out).mono ?_
  rintro e w1 ⟨rfl, hb1⟩
  go_wp2_with fail
  refine (CC.out _).mono ?_
  rintro e w2 ⟨rfl, hb2⟩
  go_wp2_with fail
  refine (C1.out _).mono ?_
  rintro e w3 ⟨rfl, hb3⟩
  go_wp2_with fail
  refine (CD.out _).mono ?_
  rintro e w4 ⟨rfl, hb4⟩
  go_wp2_with fail
  refine (C2.out _).mono ?_
  rintro e w5 ⟨rfl, hb5⟩
  go_wp2_with fail
  obtain ⟨t, ht⟩ : ∃ t, s.extract 0 P = t := ⟨_, rfl⟩
  have st : t.size ≤ 200 := by rw [← ht]; simp; omega
  rw [ht]
  clear ht hP
  obtain ⟨u, hu⟩ : ∃ u : ByteArray, ⟨(encInt t.size).toArray⟩ ++ t = u := ⟨_, rfl⟩
  have su : u.size = (encInt t.size).length + t.size := by rw [← hu, ba_append_size]; rfl
  have su2 : u.size ≤ 210 := by have := encInt_len t.size; omega
  have su1 : 0 < u.size := by have := encInt_pos t.size; omega
  have v3 := putStr_val t (by omega)
  rw [hu] at v3
  have C3 := Lib.hid (putStr_is v3 (by omega))
  have hcut2 : ∀ k : Nat, k < u.size → strAt (u.extract 0 k) 0 = (ByteArray.empty, 0, 10) := fun k hk =>
    strAt_cut (t := t) (k := k) (by omega) (by omega) (by rw [ba_extract, ← hu, ba_append]; simp)
  have Hcut2 := Lib.hid hcut2
  clear v3 hcut2 hu su
  have hB5 := Below_then (Below_then (Below_then (Below_then hb1 hb2) hb3) hb4) hb5
  clear hb1 hb2 hb3 hb4 hb5
  have da : ((a.size : Int) == 0) = false := beq_eq_false_iff_ne.2 (by omega)
  have du : ((u.size : Int) == 0) = false := beq_eq_false_iff_ne.2 (by omega)
  refine (C3.out _).mono ?_
  rintro e w6 ⟨rfl, hb6⟩
  have hB6 := Below_then hB5 hb6
  clear hB5 hb6
  go_wp2_with fail
  refine (pick01_any _ _ _ (by omega) (by omega) (by omega) (by omega)).mono ?_
  rintro e w' ⟨rfl, rfl⟩
  have hk := pickI_range at_ a.size (by omega)
  obtain ⟨k, hkk⟩ := Int.eq_ofNat_of_zero_le hk.1
  rw [hkk] at hk ⊢
  clear hkk
  go_wp2_with fail
  refine (int_is (Hcut.out k (by omega)) (by simp; omega) _).mono ?_
  rintro e w' ⟨rfl, rfl⟩
  go_wp2_with fail
  refine (pick01_any _ _ _ (by omega) (by omega) (by omega) (by omega)).mono ?_
  rintro e w' ⟨rfl, rfl⟩
  have hj := pickI_range at_ u.size (by omega)
  obtain ⟨j, hjj⟩ := Int.eq_ofNat_of_zero_le hj.1
  rw [hjj] at hj ⊢
  clear hjj
  go_wp2_with fail
  refine (str_is (Hcut2.out j (by omega)) (by simp; omega) _).mono ?_
  rintro e w' ⟨rfl, rfl⟩
  by_cases hnm : n = m
  · obtain rfl := Hab.out hnm
    subst hnm
    go_wp2_with fail
    refine (CC.out _).mono ?_
    rintro e w7 ⟨rfl, hb7⟩
    go_wp2_with fail
    refine (CD.out _).mono ?_
    rintro e w8 ⟨rfl, hb8⟩
    go_wp2_with fail
    go_ret
    exact ⟨by simp, Below_then (Below_then hB6 hb7) hb8⟩
  · have hpr := hpre.out hnm
    have d1 : (n == m) = false := beq_eq_false_iff_ne.2 hnm
    by_cases hle : a.size ≤ b.size
    all_goals
      go_wp2_with fail
      refine (CC.out _).mono ?_
      rintro e w7 ⟨rfl, hb7⟩
      go_wp2_with fail
      refine (CD.out _).mono ?_
      rintro e w8 ⟨rfl, hb8⟩
      go_wp2_with fail
      go_ret
      exact ⟨by simp, Below_then (Below_then hB6 hb7) hb8⟩
end Go.Proofs.YtlenfhliflchgaaDoor
