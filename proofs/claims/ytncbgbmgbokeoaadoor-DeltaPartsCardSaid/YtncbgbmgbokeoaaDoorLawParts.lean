/- DeltaParts: the walk. -/
import Derived.Test.YtncbgbmgbokeoaaDoorLawDelta
import Derived.Test.YtncbgbmgbokeoaaDoorPartsPure
namespace Go.Proofs.YtncbgbmgbokeoaaDoor
open Go.RowKit

def pickI (c n : Int) : Int := (if c < 0 then -(c + 1) else c) % n
theorem pickI_range (c n : Int) (h : 1 ≤ n) : 0 ≤ pickI c n ∧ pickI c n < n := ⟨Int.emod_nonneg _ (by omega), Int.emod_lt_of_pos _ (by omega)⟩
set_option maxHeartbeats 400000 in
theorem pick19_any (c n : Int) (w : World) (hc1 : -9223372036854775808 ≤ c) (hc2 : c ≤ 9223372036854775807) (hn : 1 ≤ n) (hn2 : n ≤ 9223372036854775807) :
    Calls Tryd.prog 18 #[.int .i64 c, .int .i64 n] w fun e w' => e = .returned (.int .i64 (pickI c n)) ∧ w = w' := by
  by_cases h : c < 0
  · have d : decide (c < 0) = true := by simpa using h
    have e : Hid (pickI c n = -((c + 1).tmod n)) := Lib.hid (by unfold pickI; rw [if_pos h, ← Int.neg_tmod, Int.tmod_eq_emod_of_nonneg (by omega)])
    go_enter Tryd.func18, Tryd.ntmps18
    go_wp2
    go_ret
    exact ⟨congrArg (fun z => Ending.returned (.int .i64 z)) e.out.symm, rfl⟩
  · have d : decide (c < 0) = false := by simpa using h
    have e : Hid (pickI c n = c % n) := Lib.hid (by unfold pickI; rw [if_neg h])
    go_enter Tryd.func18, Tryd.ntmps18
    go_wp2
    go_ret
    exact ⟨congrArg (fun z => Ending.returned (.int .i64 z)) e.out.symm, rfl⟩

/-- What a slice of pairs of integers holds. -/
def PairsIn (W : World) (A : Option Addr) (l : Nat) (zs : List (Int × Int)) : Prop :=
  zs.length = l ∧ l ≤ maxLen ∧ (0 < l → ∃ b off, A = some ⟨b, off, none⟩ ∧ b < W.heap.size ∧ ∀ i, i < l → W.cell? ⟨b, off + i * 2, none⟩ = some (.int .i64 (zs.getD i (0, 0)).1) ∧ W.cell? ⟨b, off + i * 2 + 1, none⟩ = some (.int .i64 (zs.getD i (0, 0)).2)) ∧
    ∀ z ∈ zs, (-9223372036854775808 ≤ z.1 ∧ z.1 ≤ 9223372036854775807) ∧ (-9223372036854775808 ≤ z.2 ∧ z.2 ≤ 9223372036854775807)
def newsroom : ByteArray := ⟨#[110, 101, 119, 115, 114, 111, 111, 109]⟩
/-- The text of i parts. -/
def PartsSt (o : ByteArray) (i : Nat) (x : ByteArray) : Prop := ∃ qs : List (List UInt8), x.data.toList = qs.flatten ∧ qs.length = i ∧ (∀ q ∈ qs, 8 ≤ q.length) ∧ (∀ q ∈ qs, Occ o q) ∧ x.size ≤ 200 * i
theorem PartsSt.snoc {o x : ByteArray} {i a n : Nat} (h : PartsSt o i x) (hn : 8 ≤ n) (hn2 : n ≤ 200) (ha : a + n ≤ o.size) : PartsSt o (i + 1) (x ++ o.extract a (a + n)) := by
  obtain ⟨qs, h1, h2, h3, h4, h5⟩ := h
  have hl : (o.extract a (a + n)).data.toList.length = n := by rw [ba_size]; simp; omega
  refine ⟨qs ++ [(o.extract a (a + n)).data.toList], by rw [ba_append, h1]; simp, by simp [h2], fun q hq => ?_, fun q hq => ?_, ?_⟩
  · rcases List.mem_append.1 hq with hq | hq
    · exact h3 q hq
    · rw [List.mem_singleton] at hq
      rw [hq, hl]; exact hn
  · rcases List.mem_append.1 hq with hq | hq
    · exact h4 q hq
    · rw [List.mem_singleton] at hq
      subst hq
      refine ⟨a, ?_⟩
      rw [hl, ex_list]
      congr 1
      omega
  · rw [ba_append_size]
    have : (o.extract a (a + n)).size = n := by rw [← ba_size]; exact hl
    omega

set_option maxRecDepth 100000 in
set_option maxHeartbeats 6400000 in
theorem parts_walk (old : ByteArray) (A : Option Addr) (l c : Nat) (zs : List (Int × Int)) (a0 a1 : Addr) (W : World) (hn : NibCells W) (he : ErrCells a0 a1 W) (h1 : old.size ≤ 140737488351232) (hz : PairsIn W A l zs) :
    Calls Tryd.prog 9 #[.string old, .slice A l c] W fun e W' => e = .returned (.bool true) ∧ Below W.heap.size W W' := by
  obtain ⟨hzl, hlm, hcell, hzs⟩ := hz
  have hlm' : l ≤ 9223372036854775807 := by unfold maxLen at hlm; omega
  obtain ⟨on, hon⟩ : ∃ on, old ++ ⟨#[110, 101, 119, 115, 114, 111, 111, 109]⟩ = on := ⟨_, rfl⟩
  have hons : on.size = old.size + 8 := by rw [← hon, ba_append_size]; rfl
  obtain ⟨o, ho⟩ : ∃ o, cutF on 1000 = o := ⟨_, rfl⟩
  have hos : 8 ≤ o.size ∧ o.size ≤ 1000 := by rw [← ho, cutF_size]; omega
  have c1 := fun W => cut19_any on 1000 W (by omega)
  rw [ho] at c1
  have C1 := Lib.hid c1
  have C0 := Lib.hid (sane19_any a0 a1 W hn he)
  have hN := Lib.hid hn
  have hE := Lib.hid he
  clear hn he c1 ho
  go_enter Tryd.func9, Tryd.ntmps9
  go_wp2_with fail
  refine (C0.out).mono ?_
  rintro e w1 ⟨rfl, hB1⟩
  go_wp2_with fail
  refine (C1.out _).mono ?_
  rintro e _ ⟨rfl, rfl⟩
  clear hon
  go_wp2_with fail
  go_loopw [6, 7, 8, 9, 10] (fun v6 v7 v8 _ _ wr => ∃ (i : Nat) (x : ByteArray), v8 = .int .i64 i ∧ v7 = .int .i64 i ∧ v6 = .string x ∧ i ≤ l ∧ i ≤ 40 ∧ Hid (PartsSt o i x) ∧ wr = w1) (fun _ _ v8 _ _ _ => l - (intOf v8).toNat)
  case atStart => exact ⟨0, .empty, rfl, rfl, rfl, by omega, by omega, Lib.hid ⟨[], rfl, rfl, by simp, by simp, by simp⟩, rfl⟩
  case round =>
    obtain ⟨i, x, rfl, rfl, rfl, hil, hi40, HS, rfl⟩ := hrel
    have hxs : x.size ≤ 8000 := by obtain ⟨_, _, _, _, _, h5⟩ := HS.out; omega
    by_cases hgo : i < l ∧ i < 40
    · have t0 : decide ((i : Int) < l) = true := by simp; omega
      have t1 : decide ((i : Int) < 40) = true := by simp; omega
      obtain ⟨b, off, rfl, hbl, hc⟩ := hcell (by omega)
      obtain ⟨hc1, hc2⟩ := hc i hgo.1
      obtain ⟨z, hzi⟩ : ∃ z, zs.getD i (0, 0) = z := ⟨_, rfl⟩
      have hzm : z ∈ zs := by
        rw [← hzi, List.getD_eq_getElem?_getD, List.getElem?_eq_getElem (by omega)]
        exact List.getElem_mem _
      have hzr := hzs z hzm
      rw [hzi] at hc1 hc2
      obtain ⟨z1, z2⟩ := z
      dsimp only at hc1 hc2 hzr
      have ci1 : wr.cell? ⟨b, off + i * 2, none⟩ = some (.int .i64 z1) := by rw [hB1.cell (p := ⟨b, off + i * 2, none⟩) hbl, hc1]
      have ci2 : wr.cell? ⟨b, off + i * 2 + 1, none⟩ = some (.int .i64 z2) := by rw [hB1.cell (p := ⟨b, off + i * 2 + 1, none⟩) hbl, hc2]
      obtain ⟨fr, hfr⟩ : ∃ fr, pickI z1 ((o.size : Int) - 7) = fr := ⟨_, rfl⟩
      have hfr' := pickI_range z1 ((o.size : Int) - 7) (by omega)
      rw [hfr] at hfr'
      obtain ⟨F, rfl⟩ := Int.eq_ofNat_of_zero_le hfr'.1
      obtain ⟨M, hM⟩ : ∃ M : Int, min 193 ((o.size : Int) - F - 7) = M := ⟨_, rfl⟩
      have hM1 : 1 ≤ M ∧ M ≤ 193 ∧ M ≤ (o.size : Int) - F - 7 := by omega
      obtain ⟨g, hg⟩ : ∃ g, pickI z2 M = g := ⟨_, rfl⟩
      have hg' := pickI_range z2 M hM1.1
      rw [hg] at hg'
      obtain ⟨G, rfl⟩ := Int.eq_ofNat_of_zero_le hg'.1
      have p1 := fun W => pick19_any z1 ((o.size : Int) - 7) W hzr.1.1 hzr.1.2 (by omega) (by omega)
      have p2 := fun W => pick19_any z2 M W hzr.2.1 hzr.2.2 (by omega) (by omega)
      rw [hfr] at p1
      rw [hg] at p2
      have P1 := Lib.hid p1
      have P2 := Lib.hid p2
      have k1 : (0 : Int) ≤ i := by omega
      have k2 : (i : Int) < l := by omega
      have hsn := HS.out.snoc (a := F) (n := 8 + G) (by omega) (by omega) (by omega)
      obtain ⟨y, hy⟩ : ∃ y, o.extract F (F + (8 + G)) = y := ⟨_, rfl⟩
      have hys : y.size ≤ 200 := by rw [← hy]; simp; omega
      rw [hy] at hsn
      have HSN := Lib.hid hsn
      have j1 : (0 : Int) ≤ F := by omega
      have j2 : (F : Int) ≤ (F : Int) + (8 + (G : Int)) := by omega
      have j3 : (F : Int) + (8 + (G : Int)) ≤ o.size := by omega
      have y1 : o.extract F ((F : Int) + (8 + (G : Int))).toNat = y := by rw [← hy]; congr 1
      clear p1 p2 hfr hg hsn hy hc1 hc2 hzi
      by_cases hm : (o.size : Int) - F - 7 < 193
      · obtain rfl : M = (o.size : Int) - F - 7 := by omega
        have hmd : decide ((o.size : Int) - F - 7 < 193) = true := by simpa using hm
        go_wp2_with fail
        refine (P1.out _).mono ?_
        rintro e _ ⟨rfl, rfl⟩
        go_wp2_with fail
        refine (P2.out _).mono ?_
        rintro e _ ⟨rfl, rfl⟩
        go_wp2_with fail
        go_roundw
        case rel => exact ⟨i + 1, x ++ y, by go_num, by go_num, rfl, by omega, by omega, HSN, trivial⟩
        case measure => simp [intOf]; omega
      · obtain rfl : M = 193 := by omega
        have hmd : decide ((o.size : Int) - F - 7 < 193) = false := by simpa using hm
        go_wp2_with fail
        refine (P1.out _).mono ?_
        rintro e _ ⟨rfl, rfl⟩
        go_wp2_with fail
        refine (P2.out _).mono ?_
        rintro e _ ⟨rfl, rfl⟩
        go_wp2_with fail
        go_roundw
        case rel => exact ⟨i + 1, x ++ y, by go_num, by go_num, rfl, by omega, by omega, HSN, trivial⟩
        case measure => simp [intOf]; omega
    · obtain ⟨d, hd⟩ : ∃ d, diffF o x = d := ⟨_, rfl⟩
      have hds := diffF_size o x (by omega) (by omega)
      have hap := roundTrip o x (by omega) (by omega)
      have hdp : d.size ≤ 16 * i + 14 := by
        obtain ⟨qs, e1, e2, e3, e4, _⟩ := HS.out
        have := diffF_parts o x (by omega) (by omega) qs e1 e3 e4
        rw [hd, e2] at this
        exact this
      rw [hd] at hds hap
      have CD := Lib.hid (fun W h => diff_is hd W h (by omega) (by omega))
      have CA := Lib.hid (fun W h k => apply_is (a0 := a0) (a1 := a1) hap W h k (by omega))
      have u1 : decide ((d.size : Int) ≤ 16 * (i : Int) + 14) = true := by simp; omega
      have u2 : (x.toList == x.toList) = true := by simp
      clear hd hap
      by_cases hl : i < l
      · have t0 : decide ((i : Int) < l) = true := by simp; omega
        have t1 : decide ((i : Int) < 40) = false := by simp; omega
        go_wp2_with fail
        refine (CD.out _ (hN.out.below hB1)).mono ?_
        rintro e w2 ⟨rfl, hb2⟩
        have hB2 := Below_then hB1 hb2
        go_wp2_with fail
        refine (CA.out _ (hN.out.below hB2) (hE.out.below hB2)).mono ?_
        rintro e w3 ⟨rfl, hb3⟩
        have hB3 := Below_then hB2 hb3
        go_wp2_with fail
        go_ret
        exact ⟨rfl, hB3⟩
      · have t0 : decide ((i : Int) < l) = false := by simp; omega
        go_wp2_with fail
        refine (CD.out _ (hN.out.below hB1)).mono ?_
        rintro e w2 ⟨rfl, hb2⟩
        have hB2 := Below_then hB1 hb2
        go_wp2_with fail
        refine (CA.out _ (hN.out.below hB2) (hE.out.below hB2)).mono ?_
        rintro e w3 ⟨rfl, hb3⟩
        have hB3 := Below_then hB2 hb3
        go_wp2_with fail
        go_ret
        exact ⟨rfl, hB3⟩
end Go.Proofs.YtncbgbmgbokeoaaDoor
