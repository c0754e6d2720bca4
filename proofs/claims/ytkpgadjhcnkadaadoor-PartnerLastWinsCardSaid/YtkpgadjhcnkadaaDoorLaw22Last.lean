/- PartnerLastWins: the walk. -/
import Derived.Test.YtkpgadjhcnkadaaDoorLaw22Sane
import Derived.Test.YtkpgadjhcnkadaaDoorLastPure
import Derived.Test.YtkpgadjhcnkadaaDoorRow22
set_option linter.unusedSimpArgs false
set_option linter.unusedVariables false
namespace Go.Proofs.YtkpgadjhcnkadaaDoor
open Go.RowKit

set_option maxRecDepth 100000 in
set_option maxHeartbeats 6400000 in
theorem lastWins_any (A : Option Addr) (l c : Nat) (zs : List Int) (A2 : Option Addr) (l2 c2 : Nat) (os : List Int) (a0 a1 : Addr) (W : World) (hn : NibCells W) (he : ErrCells a0 a1 W) (hz : IntsC W A l c zs) (ho : IntsC W A2 l2 c2 os) :
    Calls Tryd.prog 6 #[.slice A l c, .slice A2 l2 c2] W fun e W' => e = .returned (.bool true) ∧ Below W.heap.size W W' := by
  obtain ⟨⟨hzl, hlm, hcell, hzs⟩, hlc, hcm⟩ := hz
  obtain ⟨⟨hol, hom, hcell2, hos⟩, _, _⟩ := ho
  have hcm' : c ≤ 9223372036854775807 := by unfold maxLen at hcm; omega
  have hlm' : l ≤ 9223372036854775807 := by omega
  have hom' : l2 ≤ 9223372036854775807 := by unfold maxLen at hom; omega
  have CS := Lib.hid (sane22_any a0 a1 W hn he)
  have hN := Lib.hid hn
  have hE := Lib.hid he
  obtain ⟨n, hnn⟩ : ∃ n : Nat, min l 12 = n := ⟨_, rfl⟩
  have hm : min (l : Int) 12 = (n : Int) := by omega
  have hn1 : n ≤ l := by omega
  have hn2 : n ≤ 12 := by omega
  have hn3 : n ≤ c := by omega
  have k1 : (n : Int) ≤ c := by omega
  have k2 : (0 : Int) ≤ n := by omega
  have hcellH := Lib.hid hcell
  have hcell2H := Lib.hid hcell2
  clear hn he hnn hcell hcell2 hcm hlm hom
  by_cases hn0 : n = 0
  · subst hn0
    go_enter Tryd.func6, Tryd.ntmps6
    go_wp2_with fail
    refine (CS.out).mono ?_
    rintro e w1 ⟨rfl, hB1⟩
    go_wp2_with fail
    go_ret
    exact ⟨rfl, hB1⟩
  have t0 : ((n : Int) == 0) = false := by simp; omega
  obtain ⟨b, off, rfl, hbl, hc⟩ := hcellH.out (by omega)
  have HC := Lib.hid hc
  clear hc
  go_enter Tryd.func6, Tryd.ntmps6
  go_wp2_with fail
  refine (CS.out).mono ?_
  rintro e w1 ⟨rfl, hB1⟩
  go_wp2_with fail
  refine (new_in 1 w1 (by decide) (by decide)).mono ?_
  rintro e w2 ⟨rfl, hp2, hb2, hs2⟩
  have hB2 := Below_then hB1 hb2
  have hq1 := Lib.hid hB1.size
  obtain ⟨q, hq⟩ : ∃ q, w1.heap.size = q := ⟨_, rfl⟩
  rw [hq] at hp2 hq1
  rw [hq]
  clear hq hb2 hs2 hB1
  have HP2 := Lib.hid hp2
  clear hp2
  go_wp2_with fail
  go_loopw [7, 8] (fun v7 v8 wr => ∃ (i : Nat) (last : Int) (L : List (Int × Held)), v8 = .int .i64 i ∧ v7 = .int .i64 last ∧ i ≤ l2 ∧ i ≤ 40 ∧ -1 ≤ last ∧ last < n ∧ Hid (IsP (q + 1) q 1 L wr ∧ mapAt L 5 = lastH zs last) ∧ Below W.heap.size W wr) (fun _ v8 _ => l2 - (intOf v8).toNat)
  case atStart => exact ⟨0, -1, [], rfl, rfl, by omega, by omega, by omega, by omega, Lib.hid ⟨HP2.out, rfl⟩, hB2⟩
  case round =>
    obtain ⟨i, last, L, rfl, rfl, hil, hi40, hl1, hl2, HS, hB⟩ := hrel
    by_cases hlt : i < l2
    · have t1 : decide ((i : Int) < l2) = true := by simp; omega
      by_cases h40 : i < 40
      · have t2 : decide ((i : Int) < 40) = true := by simp; omega
        obtain ⟨b2, off2, rfl, hbl2, hc2⟩ := hcell2H.out (by omega)
        obtain ⟨z, hzi⟩ : ∃ z, os.getD i 0 = z := ⟨_, rfl⟩
        have hzr : -9223372036854775808 ≤ z ∧ z ≤ 9223372036854775807 := hos z (by rw [← hzi, List.getD_eq_getElem?_getD, List.getElem?_eq_getElem (by omega)]; exact List.getElem_mem _)
        have ci : wr.cell? ⟨b2, off2 + i, none⟩ = some (.int .i64 z) := by rw [hB.cell (p := ⟨b2, off2 + i, none⟩) hbl2, hc2 i hlt, hzi]
        have j1 : (0 : Int) ≤ i := by omega
        have j2 : (i : Int) < l2 := by omega
        have hpr := pickI_range z n (by omega)
        obtain ⟨K, hK⟩ : ∃ K : Nat, pickI z n = K := ⟨(pickI z n).toNat, by omega⟩
        have cp := fun W => pick22_any z n W hzr.1 hzr.2 (by omega) (by omega)
        rw [hK] at cp hpr
        have CP := Lib.hid cp
        have hKn : K < n := by omega
        have j3 : (0 : Int) ≤ K := by omega
        have j4 : (K : Int) < n := by omega
        obtain ⟨M, hM⟩ : ∃ M : Nat, max last (K : Int) = M := ⟨(max last (K : Int)).toNat, by omega⟩
        have hMn : M < n := by omega
        have j5 : (0 : Int) ≤ M := by omega
        have j6 : (M : Int) < n := by omega
        have hr := last_recv zs last K (by omega) hl1 HS.out.2
        rw [hM] at hr
        obtain ⟨o, L2, hrF⟩ : ∃ o L2, recvF 1 L (lastM zs K) = (o, L2) := ⟨_, _, rfl⟩
        rw [hrF] at hr
        have hst : (lastM zs K).story = 5 := by unfold lastM; split <;> rfl
        have hdz : (lastM zs K).data.size ≤ 4611686018427387904 := by
          unfold lastM
          split
          · exact Nat.zero_le _
          · have h1 := wordsF_size (zs.getD K 0)
            have h2 := diffF_size ⟨#[]⟩ (wordsF (zs.getD K 0)) (by decide) (by omega)
            unfold deliverM
            dsimp only
            omega
        have htz : (mapAt L (lastM zs K).story).text.size ≤ 4611686018427387904 := by rw [hst, HS.out.2]; have := lastH_size zs last; omega
        have CR : Hid (∀ w0 : World, Below W.heap.size W w0 → IsP (q + 1) q 1 L w0 → Calls Tryd.prog 18 #[.pointer (some ⟨q + 1, 0, none⟩), msgV (lastM zs K)] w0 fun e w' => ∃ v, e = .returned v ∧ IsAns w0.heap.size w' v o ∧ IsP (q + 1) q 1 L2 w' ∧ Below W.heap.size W w' ∧ w0.grownBy w' (some q)) :=
          Lib.hid (fun w0 h1 h2 => recv_at (w0 := W) h1 h1.size (hN.out.below h1) (hE.out.below h1) h2 hq1.out (lastM zs K) hdz htz hrF)
        have HT := Lib.hid (show mapAt L2 5 = lastH zs M from hr)
        obtain ⟨tK, htK⟩ : ∃ t, zs.getD K 0 = t := ⟨_, rfl⟩
        obtain ⟨tM, htM⟩ : ∃ t, zs.getD M 0 = t := ⟨_, rfl⟩
        have hcK := Lib.hid (show ∀ w', Below W.heap.size W w' → w'.cell? ⟨b, off + K, none⟩ = some (.int .i64 tK) from fun w' h => by rw [h.cell (p := ⟨b, off + K, none⟩) hbl, HC.out K (by omega), htK])
        have hcM := Lib.hid (show ∀ w', Below W.heap.size W w' → w'.cell? ⟨b, off + M, none⟩ = some (.int .i64 tM) from fun w' h => by rw [h.cell (p := ⟨b, off + M, none⟩) hbl, HC.out M (by omega), htM])
        have rK : -9223372036854775808 ≤ tK ∧ tK ≤ 9223372036854775807 := hzs tK (by rw [← htK, List.getD_eq_getElem?_getD, List.getElem?_eq_getElem (by omega)]; exact List.getElem_mem _)
        have rM : -9223372036854775808 ≤ tM ∧ tM ≤ 9223372036854775807 := hzs tM (by rw [← htM, List.getD_eq_getElem?_getD, List.getElem?_eq_getElem (by omega)]; exact List.getElem_mem _)
        obtain ⟨xK, hxK⟩ : ∃ x, wordsF tK = x := ⟨_, rfl⟩
        obtain ⟨xM, hxM⟩ : ∃ x, wordsF tM = x := ⟨_, rfl⟩
        have sK : xK.size ≤ 132 := by rw [← hxK]; exact wordsF_size _
        have cwK := fun W => words_any tK W rK.1 rK.2
        have cwM := fun W => words_any tM W rM.1 rM.2
        rw [hxK] at cwK
        rw [hxM] at cwM
        have CWK := Lib.hid cwK
        have CWM := Lib.hid cwM
        have eself : (xM.toList != xM.toList) = false := by simp
        have cK0 := hcK.out wr hB
        have HXK := Lib.hid hxK
        have HXM := Lib.hid hxM
        have HTK := Lib.hid htK
        have HTM := Lib.hid htM

        clear hzi hzr hK cp hrF hr hst hdz htz htK htM hxK hxM cwK cwM rK rM hpr hc2
        by_cases hk0 : tK < 0
        · have t3 : decide (tK < 0) = true := by simpa using hk0
          have hmsg : lastM zs K = ⟨2, 1, (K : Int) + 1, 5, 0, 0, .empty⟩ := by unfold lastM; rw [HTK.out, if_pos hk0]
          rw [hmsg] at CR
          clear hmsg hk0
          by_cases hm0 : tM < 0
          · have t4 : decide (0 ≤ tM) = false := by simpa using hm0
            have hH : lastH zs M = ⟨(M : Int) + 1, .empty, false⟩ := by unfold lastH; rw [if_neg (by omega), Int.toNat_natCast, HTM.out, if_pos hm0]
            have HH := Lib.hid hH
            clear hH hm0
            go_wp2_with fail
            refine (CP.out _).mono ?_
            rintro e _ ⟨rfl, rfl⟩
            go_wp2_with fail
            refine (kill_any 1 ((K : Int) + 1) 5 _).mono ?_
            rintro e w4 ⟨rfl, hb4⟩
            have hB4 := Below_then hB hb4
            have hp4 := HS.out.1.below hb4 HS.out.1.lt HS.out.1.held.lt
            go_wp2_with fail
            refine (CR.out _ hB4 hp4).mono ?_
            rintro e w5 ⟨v5, rfl, ha5, hp5, hB5, hg5⟩
            go_wp2_with fail
            have ct := text_any hp5 5
            rw [HT.out, HH.out] at ct
            dsimp only at ct
            refine ct.mono ?_
            rintro e w6 ⟨rfl, hb6⟩
            have hB6 := Below_then hB5 hb6
            have hp6 := hp5.below hb6 hp5.lt hp5.held.lt
            have cM6 := hcM.out w6 hB6
            have HP6 := Lib.hid hp6
            clear hp6 hp5
            go_wp2_with fail
            go_roundw
            case rel => exact ⟨i + 1, M, L2, by go_num, rfl, by omega, by omega, by omega, by omega, Lib.hid ⟨HP6.out, HT.out⟩, hB6⟩
            case measure => simp [intOf]; omega
          · have t4 : decide (0 ≤ tM) = true := by simpa using hm0
            have hH : lastH zs M = ⟨(M : Int) + 1, xM, true⟩ := by unfold lastH; rw [if_neg (by omega), Int.toNat_natCast, HTM.out, if_neg hm0, HXM.out]
            have HH := Lib.hid hH
            clear hH hm0
            go_wp2_with fail
            refine (CP.out _).mono ?_
            rintro e _ ⟨rfl, rfl⟩
            go_wp2_with fail
            refine (kill_any 1 ((K : Int) + 1) 5 _).mono ?_
            rintro e w4 ⟨rfl, hb4⟩
            have hB4 := Below_then hB hb4
            have hp4 := HS.out.1.below hb4 HS.out.1.lt HS.out.1.held.lt
            go_wp2_with fail
            refine (CR.out _ hB4 hp4).mono ?_
            rintro e w5 ⟨v5, rfl, ha5, hp5, hB5, hg5⟩
            go_wp2_with fail
            have ct := text_any hp5 5
            rw [HT.out, HH.out] at ct
            dsimp only at ct
            refine ct.mono ?_
            rintro e w6 ⟨rfl, hb6⟩
            have hB6 := Below_then hB5 hb6
            have hp6 := hp5.below hb6 hp5.lt hp5.held.lt
            have cM6 := hcM.out w6 hB6
            have HP6 := Lib.hid hp6
            clear hp6 hp5
            go_wp2_with fail
            refine (CWM.out _).mono ?_
            rintro e w7 ⟨rfl, hb7⟩
            have hB7 := Below_then hB6 hb7
            have hp7 := HP6.out.below hb7 HP6.out.lt HP6.out.held.lt
            have HP7 := Lib.hid hp7
            clear hp7
            go_wp2_with fail
            go_roundw
            case rel => exact ⟨i + 1, M, L2, by go_num, rfl, by omega, by omega, by omega, by omega, Lib.hid ⟨HP7.out, HT.out⟩, hB7⟩
            case measure => simp [intOf]; omega
        · have t3 : decide (tK < 0) = false := by simpa using hk0
          have hmsg : lastM zs K = deliverM 1 ((K : Int) + 1) 5 ⟨#[]⟩ xK := by unfold lastM; rw [HTK.out, if_neg hk0, HXK.out]
          rw [hmsg] at CR
          clear hmsg hk0
          by_cases hm0 : tM < 0
          · have t4 : decide (0 ≤ tM) = false := by simpa using hm0
            have hH : lastH zs M = ⟨(M : Int) + 1, .empty, false⟩ := by unfold lastH; rw [if_neg (by omega), Int.toNat_natCast, HTM.out, if_pos hm0]
            have HH := Lib.hid hH
            clear hH hm0
            go_wp2_with fail
            refine (CP.out _).mono ?_
            rintro e _ ⟨rfl, rfl⟩
            go_wp2_with fail
            refine (CWK.out _).mono ?_
            rintro e w3 ⟨rfl, hb3⟩
            have hB3 := Below_then hB hb3
            have hp3 := HS.out.1.below hb3 HS.out.1.lt HS.out.1.held.lt
            go_wp2_with fail
            refine (deliver_any 1 ((K : Int) + 1) 5 ⟨#[]⟩ xK _ (by decide) (by omega)).mono ?_
            rintro e w4 ⟨rfl, hb4⟩
            have hB4 := Below_then hB3 hb4
            have hp4 := hp3.below hb4 hp3.lt hp3.held.lt
            go_wp2_with fail
            refine (CR.out _ hB4 hp4).mono ?_
            rintro e w5 ⟨v5, rfl, ha5, hp5, hB5, hg5⟩
            go_wp2_with fail
            have ct := text_any hp5 5
            rw [HT.out, HH.out] at ct
            dsimp only at ct
            refine ct.mono ?_
            rintro e w6 ⟨rfl, hb6⟩
            have hB6 := Below_then hB5 hb6
            have hp6 := hp5.below hb6 hp5.lt hp5.held.lt
            have cM6 := hcM.out w6 hB6
            have HP6 := Lib.hid hp6
            clear hp6 hp5
            go_wp2_with fail
            go_roundw
            case rel => exact ⟨i + 1, M, L2, by go_num, rfl, by omega, by omega, by omega, by omega, Lib.hid ⟨HP6.out, HT.out⟩, hB6⟩
            case measure => simp [intOf]; omega
          · have t4 : decide (0 ≤ tM) = true := by simpa using hm0
            have hH : lastH zs M = ⟨(M : Int) + 1, xM, true⟩ := by unfold lastH; rw [if_neg (by omega), Int.toNat_natCast, HTM.out, if_neg hm0, HXM.out]
            have HH := Lib.hid hH
            clear hH hm0
            go_wp2_with fail
            refine (CP.out _).mono ?_
            rintro e _ ⟨rfl, rfl⟩
            go_wp2_with fail
            refine (CWK.out _).mono ?_
            rintro e w3 ⟨rfl, hb3⟩
            have hB3 := Below_then hB hb3
            have hp3 := HS.out.1.below hb3 HS.out.1.lt HS.out.1.held.lt
            go_wp2_with fail
            refine (deliver_any 1 ((K : Int) + 1) 5 ⟨#[]⟩ xK _ (by decide) (by omega)).mono ?_
            rintro e w4 ⟨rfl, hb4⟩
            have hB4 := Below_then hB3 hb4
            have hp4 := hp3.below hb4 hp3.lt hp3.held.lt
            go_wp2_with fail
            refine (CR.out _ hB4 hp4).mono ?_
            rintro e w5 ⟨v5, rfl, ha5, hp5, hB5, hg5⟩
            go_wp2_with fail
            have ct := text_any hp5 5
            rw [HT.out, HH.out] at ct
            dsimp only at ct
            refine ct.mono ?_
            rintro e w6 ⟨rfl, hb6⟩
            have hB6 := Below_then hB5 hb6
            have hp6 := hp5.below hb6 hp5.lt hp5.held.lt
            have cM6 := hcM.out w6 hB6
            have HP6 := Lib.hid hp6
            clear hp6 hp5
            go_wp2_with fail
            refine (CWM.out _).mono ?_
            rintro e w7 ⟨rfl, hb7⟩
            have hB7 := Below_then hB6 hb7
            have hp7 := HP6.out.below hb7 HP6.out.lt HP6.out.held.lt
            have HP7 := Lib.hid hp7
            clear hp7
            go_wp2_with fail
            go_roundw
            case rel => exact ⟨i + 1, M, L2, by go_num, rfl, by omega, by omega, by omega, by omega, Lib.hid ⟨HP7.out, HT.out⟩, hB7⟩
            case measure => simp [intOf]; omega
      · have t2 : decide ((i : Int) < 40) = false := by simp; omega
        go_wp2_with fail
        go_ret
        exact ⟨rfl, hB⟩
    · obtain rfl : i = l2 := by omega
      have t1 : decide ((i : Int) < i) = false := by simp
      go_wp2_with fail
      go_ret
      exact ⟨rfl, hB⟩
end Go.Proofs.YtkpgadjhcnkadaaDoor
