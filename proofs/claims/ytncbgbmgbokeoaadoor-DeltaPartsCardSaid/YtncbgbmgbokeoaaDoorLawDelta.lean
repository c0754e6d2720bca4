/- DeltaRoundTrip, DeltaOtherBase, DeltaSize: the walks. -/
import Derived.Test.YtncbgbmgbokeoaaDoorLaw19Base
import Derived.Test.YtncbgbmgbokeoaaDoorDeltaPure2
namespace Go.Proofs.YtncbgbmgbokeoaaDoor
open Go.RowKit

theorem empty_list : (ByteArray.empty).toList = [] := by rw [ByteArray.toList_eq]; rfl
theorem toList_same (s : ByteArray) : (s.toList == s.toList) = true := by simp

set_option maxRecDepth 100000 in
set_option maxHeartbeats 3200000 in
theorem size_walk (old next : ByteArray) (a0 a1 : Addr) (W : World) (hn : NibCells W) (he : ErrCells a0 a1 W) (h1 : old.size ≤ 140737488351232) (h2 : next.size ≤ 140737488351232) :
    Calls Tryd.prog 8 #[.string old, .string next] W fun e W' => e = .returned (.bool true) ∧ Below W.heap.size W W' := by
  obtain ⟨o, ho⟩ : ∃ o, cutF old 8192 = o := ⟨_, rfl⟩
  obtain ⟨x, hx⟩ : ∃ x, cutF next 8192 = x := ⟨_, rfl⟩
  have hos : o.size ≤ 8192 := by rw [← ho, cutF_size]; omega
  have hxs : x.size ≤ 8192 := by rw [← hx, cutF_size]; omega
  obtain ⟨d, hd⟩ : ∃ d, diffF o x = d := ⟨_, rfl⟩
  have hds := diffF_size o x hos hxs
  rw [hd] at hds
  have c1 := fun W => cut19_any old 8192 W (by omega)
  have c2 := fun W => cut19_any next 8192 W (by omega)
  rw [ho] at c1
  rw [hx] at c2
  have C0 := Lib.hid (sane19_any a0 a1 W hn he)
  have C1 := Lib.hid c1
  have C2 := Lib.hid c2
  have C3 := Lib.hid (fun W h => diff_is hd W h (by omega) (by omega))
  have t0 : decide ((d.size : Int) ≤ (x.size : Int) + 14) = true := by simp; omega
  clear c1 c2 ho hx hd
  go_enter Tryd.func8, Tryd.ntmps8
  go_wp2_with fail
  refine (C0.out).mono ?_
  rintro e w1 ⟨rfl, hB1⟩
  go_wp2_with fail
  refine (C1.out _).mono ?_
  rintro e _ ⟨rfl, rfl⟩
  go_wp2_with fail
  refine (C2.out _).mono ?_
  rintro e _ ⟨rfl, rfl⟩
  go_wp2_with fail
  refine (C3.out _ (hn.below hB1)).mono ?_
  rintro e w2 ⟨rfl, hb2⟩
  have hB2 := Below_then hB1 hb2
  go_wp2_with fail
  go_ret
  exact ⟨rfl, hB2⟩

set_option maxRecDepth 100000 in
set_option maxHeartbeats 3200000 in
theorem otherBase_walk (old other next : ByteArray) (a0 a1 : Addr) (W : World) (hn : NibCells W) (he : ErrCells a0 a1 W) (h1 : old.size ≤ 140737488351232) (h2 : other.size ≤ 140737488351232) (h3 : next.size ≤ 140737488351232) :
    Calls Tryd.prog 7 #[.string old, .string other, .string next] W fun e W' => e = .returned (.bool true) ∧ Below W.heap.size W W' := by
  obtain ⟨o, ho⟩ : ∃ o, cutF old 2000 = o := ⟨_, rfl⟩
  obtain ⟨y, hy⟩ : ∃ y, cutF other 2000 = y := ⟨_, rfl⟩
  obtain ⟨x, hx⟩ : ∃ x, cutF next 2000 = x := ⟨_, rfl⟩
  have hos : o.size ≤ 2000 := by rw [← ho, cutF_size]; omega
  have hys : y.size ≤ 2000 := by rw [← hy, cutF_size]; omega
  have hxs : x.size ≤ 2000 := by rw [← hx, cutF_size]; omega
  obtain ⟨d, hd⟩ : ∃ d, diffF o x = d := ⟨_, rfl⟩
  have hds := diffF_size o x (by omega) (by omega)
  have hob := otherBase o y x (by omega) (by omega) (by omega)
  rw [hd] at hds hob
  obtain ⟨⟨s, er⟩, hap⟩ : ∃ q, applyF y d = q := ⟨_, rfl⟩
  rw [hap] at hob
  obtain ⟨ky, hky⟩ : ∃ k, sumB y = k := ⟨_, rfl⟩
  obtain ⟨ko, hko⟩ : ∃ k, sumB o = k := ⟨_, rfl⟩
  obtain ⟨ks, hks⟩ : ∃ k, sumB s = k := ⟨_, rfl⟩
  obtain ⟨kx, hkx⟩ : ∃ k, sumB x = k := ⟨_, rfl⟩
  have hss : s.size ≤ 9223372036854775807 := by have := applyF_size y d; rw [hap] at this; simp only at this; omega
  dsimp only at hob
  rw [hky, hko, hks, hkx] at hob
  have c1 := fun W => cut19_any old 2000 W (by omega)
  have c2 := fun W => cut19_any other 2000 W (by omega)
  have c3 := fun W => cut19_any next 2000 W (by omega)
  rw [ho] at c1
  rw [hy] at c2
  rw [hx] at c3
  have C0 := Lib.hid (sane19_any a0 a1 W hn he)
  have C1 := Lib.hid c1
  have C2 := Lib.hid c2
  have C3 := Lib.hid c3
  have C4 := Lib.hid (fun W h => diff_is hd W h (by omega) (by omega))
  have C5 := Lib.hid (fun W h k => apply_is (a0 := a0) (a1 := a1) hap W h k (by omega))
  have S1 := Lib.hid (fun W h => sum_is hky (by omega) W h)
  have S2 := Lib.hid (fun W h => sum_is hko (by omega) W h)
  have S3 := Lib.hid (fun W h => sum_is hks hss W h)
  have S4 := Lib.hid (fun W h => sum_is hkx (by omega) W h)
  clear c1 c2 c3 ho hy hx hd hap hky hko hks hkx
  go_enter Tryd.func7, Tryd.ntmps7
  go_wp2_with fail
  refine (C0.out).mono ?_
  rintro e w1 ⟨rfl, hB1⟩
  go_wp2_with fail
  refine (C1.out _).mono ?_
  rintro e _ ⟨rfl, rfl⟩
  go_wp2_with fail
  refine (C2.out _).mono ?_
  rintro e _ ⟨rfl, rfl⟩
  go_wp2_with fail
  refine (C3.out _).mono ?_
  rintro e _ ⟨rfl, rfl⟩
  go_wp2_with fail
  refine (C4.out _ (hn.below hB1)).mono ?_
  rintro e w2 ⟨rfl, hb2⟩
  have hB2 := Below_then hB1 hb2
  go_wp2_with fail
  refine (C5.out _ (hn.below hB2) (he.below hB2)).mono ?_
  rintro e w3 ⟨rfl, hb3⟩
  have hB3 := Below_then hB2 hb3
  go_wp2_with fail
  refine (S1.out _ (hn.below hB3)).mono ?_
  rintro e _ ⟨rfl, rfl⟩
  go_wp2_with fail
  refine (S2.out _ (hn.below hB3)).mono ?_
  rintro e _ ⟨rfl, rfl⟩
  by_cases hk : ky = ko
  · have b1 : (ky != ko) = false := by simpa using hk
    by_cases h0 : er = 0
    · have b2 : (er != 0) = false := by simpa using h0
      have hsx : ks = kx := hob.2 h0
      have b3 : (ks == kx) = true := by simpa using hsx
      go_wp2_with fail
      refine (S3.out _ (hn.below hB3)).mono ?_
      rintro e _ ⟨rfl, rfl⟩
      go_wp2_with fail
      refine (S4.out _ (hn.below hB3)).mono ?_
      rintro e _ ⟨rfl, rfl⟩
      go_wp2_with fail
      go_ret
      exact ⟨rfl, hB3⟩
    · have b2 : (er != 0) = true := by simpa using h0
      go_wp2_with fail
      go_ret
      exact ⟨rfl, hB3⟩
  · have b1 : (ky != ko) = true := by simpa using hk
    have hE := hob.1 hk
    simp only [Prod.mk.injEq] at hE
    obtain ⟨rfl, rfl⟩ := hE
    have el := empty_list
    go_wp2_with fail
    go_ret
    exact ⟨rfl, hB3⟩

set_option maxRecDepth 100000 in
set_option maxHeartbeats 3200000 in
theorem roundTrip_walk (old next : ByteArray) (a0 a1 : Addr) (W : World) (hn : NibCells W) (he : ErrCells a0 a1 W) (h1 : old.size ≤ 140737488351232) (h2 : next.size ≤ 140737488351232) :
    Calls Tryd.prog 5 #[.string old, .string next] W fun e W' => e = .returned (.bool true) ∧ Below W.heap.size W W' := by
  obtain ⟨o, ho⟩ : ∃ o, cutF old 9000 = o := ⟨_, rfl⟩
  obtain ⟨x, hx⟩ : ∃ x, cutF next 9000 = x := ⟨_, rfl⟩
  have hos : o.size ≤ 9000 := by rw [← ho, cutF_size]; omega
  have hxs : x.size ≤ 9000 := by rw [← hx, cutF_size]; omega
  have c1 := fun W => cut19_any old 9000 W (by omega)
  have c2 := fun W => cut19_any next 9000 W (by omega)
  rw [ho] at c1
  rw [hx] at c2
  have C0 := Lib.hid (sane19_any a0 a1 W hn he)
  have C1 := Lib.hid c1
  have C2 := Lib.hid c2
  clear c1 c2 ho hx
  by_cases hbig : 8192 < o.size ∨ 8192 < x.size
  · have hd : diffF o x = .empty := by unfold diffF; rw [if_pos hbig]
    obtain ⟨⟨s, er⟩, hap⟩ : ∃ q, applyF o .empty = q := ⟨_, rfl⟩
    have her : er ≠ 0 := by have := applyF_none o; rw [hap] at this; exact this
    have b2 : (er != 0) = true := by simpa using her
    have C3 := Lib.hid (fun W h => diff_is hd W h (by omega) (by omega))
    have C4 := Lib.hid (fun W h k => apply_is (a0 := a0) (a1 := a1) hap W h k (by simp))
    have el := empty_list
    clear hd hap her
    by_cases ho1 : 8192 < o.size
    · have t0 : decide ((8192 : Int) < o.size) = true := by simp; omega
      go_enter Tryd.func5, Tryd.ntmps5
      go_wp2_with fail
      refine (C0.out).mono ?_
      rintro e w1 ⟨rfl, hB1⟩
      go_wp2_with fail
      refine (C1.out _).mono ?_
      rintro e _ ⟨rfl, rfl⟩
      go_wp2_with fail
      refine (C2.out _).mono ?_
      rintro e _ ⟨rfl, rfl⟩
      go_wp2_with fail
      refine (C3.out _ (hn.below hB1)).mono ?_
      rintro e w2 ⟨rfl, hb2⟩
      have hB2 := Below_then hB1 hb2
      go_wp2_with fail
      refine (C4.out _ (hn.below hB2) (he.below hB2)).mono ?_
      rintro e w3 ⟨rfl, hb3⟩
      have hB3 := Below_then hB2 hb3
      go_wp2_with fail
      go_ret
      exact ⟨rfl, hB3⟩
    · have t0 : decide ((8192 : Int) < o.size) = false := by simp; omega
      have t1 : decide ((8192 : Int) < x.size) = true := by simp; omega
      go_enter Tryd.func5, Tryd.ntmps5
      go_wp2_with fail
      refine (C0.out).mono ?_
      rintro e w1 ⟨rfl, hB1⟩
      go_wp2_with fail
      refine (C1.out _).mono ?_
      rintro e _ ⟨rfl, rfl⟩
      go_wp2_with fail
      refine (C2.out _).mono ?_
      rintro e _ ⟨rfl, rfl⟩
      go_wp2_with fail
      refine (C3.out _ (hn.below hB1)).mono ?_
      rintro e w2 ⟨rfl, hb2⟩
      have hB2 := Below_then hB1 hb2
      go_wp2_with fail
      refine (C4.out _ (hn.below hB2) (he.below hB2)).mono ?_
      rintro e w3 ⟨rfl, hb3⟩
      have hB3 := Below_then hB2 hb3
      go_wp2_with fail
      go_ret
      exact ⟨rfl, hB3⟩
  · have t0 : decide ((8192 : Int) < o.size) = false := by simp; omega
    have t1 : decide ((8192 : Int) < x.size) = false := by simp; omega
    obtain ⟨d, hd⟩ : ∃ d, diffF o x = d := ⟨_, rfl⟩
    have hds := diffF_size o x (by omega) (by omega)
    have hdp := diffF_pos o x (by omega) (by omega)
    have hap := roundTrip o x (by omega) (by omega)
    rw [hd] at hds hdp hap
    have C3 := Lib.hid (fun W h => diff_is hd W h (by omega) (by omega))
    have C4 := Lib.hid (fun W h k => apply_is (a0 := a0) (a1 := a1) hap W h k (by omega))
    have edl : d.toList ≠ [] := by
      rw [ByteArray.toList_eq]
      intro h
      have := congrArg List.length h
      rw [ba_size, List.length_nil] at this
      omega
    have eb : d.toList.isEmpty = false := by simpa using edl
    clear hd hap
    go_enter Tryd.func5, Tryd.ntmps5
    go_wp2_with fail
    refine (C0.out).mono ?_
    rintro e w1 ⟨rfl, hB1⟩
    go_wp2_with fail
    refine (C1.out _).mono ?_
    rintro e _ ⟨rfl, rfl⟩
    go_wp2_with fail
    refine (C2.out _).mono ?_
    rintro e _ ⟨rfl, rfl⟩
    go_wp2_with fail
    refine (C3.out _ (hn.below hB1)).mono ?_
    rintro e w2 ⟨rfl, hb2⟩
    have hB2 := Below_then hB1 hb2
    go_wp2_with fail
    refine (C4.out _ (hn.below hB2) (he.below hB2)).mono ?_
    rintro e w3 ⟨rfl, hb3⟩
    have hB3 := Below_then hB2 hb3
    go_wp2_with fail
    go_ret
    exact ⟨rfl, hB3⟩
end Go.Proofs.YtncbgbmgbokeoaaDoor
