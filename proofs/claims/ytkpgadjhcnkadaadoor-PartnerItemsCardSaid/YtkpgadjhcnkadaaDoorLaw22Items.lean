/- PartnerItems: the walk. -/
import Derived.Test.YtkpgadjhcnkadaaDoorItemsPure
import Derived.Test.YtkpgadjhcnkadaaDoorRow22b
set_option linter.unusedSimpArgs false
set_option linter.unusedVariables false
namespace Go.Proofs.YtkpgadjhcnkadaaDoor
open Go.RowKit

theorem item_cells {B : Nat} {w : World} {v : Value} {X : List (Int × ByteArray)} (h : IsItems B w v X) {i : Nat} {x : Int × ByteArray} (hx : X[i]? = some x) : ∃ g cap, v = .slice (some ⟨g, 0, none⟩) X.length cap ∧ w.cell? ⟨g, i * 2, none⟩ = some (.int .i64 x.1) ∧ w.cell? ⟨g, i * 2 + 1, none⟩ = some (.string x.2) := by
  have hil : i < X.length := by
    rw [List.getElem?_eq_some_iff] at hx
    exact hx.1
  obtain ⟨ao, cap, rfl⟩ := items_form h
  obtain ⟨g, rfl⟩ : ∃ g, ao = some ⟨g, 0, none⟩ := by
    rcases h.2 with ⟨h3, h0⟩ | ⟨g, cap', cur, h3, _⟩
    · omega
    · simp only [Value.slice.injEq] at h3
      exact ⟨g, h3.1⟩
  refine ⟨g, cap, rfl, ?_, ?_⟩
  · have := World.ownsRow.cellAt h (i * 2 + 0) (by omega)
    rw [items_at X i _ hx 0 (by omega)] at this
    exact this
  · have := World.ownsRow.cellAt h (i * 2 + 1) (by omega)
    rw [items_at X i _ hx 1 (by omega)] at this
    exact this

set_option maxRecDepth 100000 in
set_option maxHeartbeats 12800000 in
theorem items22_any (a : Int) (A : Option Addr) (l c : Nat) (zs : List Six) (a0 a1 : Addr) (W : World) (hn : NibCells W) (he : ErrCells a0 a1 W) (h1 : -9223372036854775808 ≤ a) (h2 : a ≤ 9223372036854775807) (hz : SixIn W A l zs) :
    Calls Tryd.prog 11 #[.int .i64 a, .slice A l c] W fun e W' => e = .returned (.bool true) ∧ Below W.heap.size W W' := by
  have CS := Lib.hid (sane22_any a0 a1 W hn he)
  have CM := Lib.hid (fun w1 (h : Below W.heap.size W w1) => made_any a A l c zs a0 a1 w1 (hn.below h) (he.below h) h1 h2 (hz.below h))
  obtain ⟨id, hid⟩ : ∃ d, 1 + pickI a 8 = d := ⟨_, rfl⟩
  rw [hid] at CM
  have hgood := madeF_good id (zs.take 24)
  have hhas := madeF_has id (zs.take 24)
  obtain ⟨⟨L, E⟩, hLE⟩ : ∃ s, madeF id (zs.take 24) = s := ⟨_, rfl⟩
  rw [hLE] at hgood CM hhas
  dsimp only at hgood CM hhas
  have HG := Lib.hid hgood
  have HH := Lib.hid hhas
  clear hn he hz hid hLE hgood hhas
  go_enter Tryd.func11, Tryd.ntmps11
  go_wp2_with fail
  refine (CS.out).mono ?_
  rintro e w1 ⟨rfl, hb1⟩
  go_wp2_with fail
  refine (CM.out _ hb1).mono ?_
  rintro e w2 ⟨p, b, r, rfl, hP2, hb2⟩
  have hB2 := Below_then hb1 hb2
  have HP2 := Lib.hid hP2.p
  have hbge := Lib.hid (Nat.le_trans hb1.size hP2.ge)
  have hW2 := hB2.size
  clear hP2 hb1 hb2
  go_wp2_with fail
  refine (items_any HP2.out).mono ?_
  rintro e w3 ⟨v3, rfl, hi3, hb3⟩
  have hB3 := Below_then hB2 hb3
  have HP3 := Lib.hid (HP2.out.below hb3 HP2.out.lt HP2.out.held.lt)
  obtain ⟨n, hnn⟩ : ∃ n, (itemsF L).length = n := ⟨_, rfl⟩
  have hn64 : n ≤ 64 := by rw [← hnn]; exact itemsF_len L
  obtain ⟨ao, cap, hv3⟩ := items_form hi3
  subst hv3
  rw [hnn] at hi3 ⊢
  have HI3 := Lib.hid hi3
  have HNN := Lib.hid hnn
  clear hi3 hnn hb3 hB2
  go_wp2_with fail
  go_loopw [5, 9, 10] (fun v5 v9 v10 wr => ∃ s : Nat, v5 = .bool true ∧ v10 = .int .i64 s ∧ s ≤ 66 ∧ v9 = .int .i64 (atF L s) ∧ Below w3.heap.size w3 wr) (fun _ _ v10 _ => 66 - (intOf v10).toNat)
  case atStart => exact ⟨0, rfl, rfl, by omega, rfl, Below.refl _ _⟩
  case round =>
    obtain ⟨s, rfl, rfl, hs66, rfl, hBr⟩ := hrel
    have hP := HP3.out.below hBr HP3.out.lt HP3.out.held.lt
    by_cases hlt : s ≤ 65
    · have t0 : decide ((s : Int) ≤ 65) = true := by simp; omega
      have ct := text_any hP s
      obtain ⟨at0, hat⟩ : ∃ k, atF L s = k := ⟨_, rfl⟩
      have hat66 : at0 ≤ 66 := by rw [← hat]; exact Nat.le_trans (atF_le L s) (by omega)
      rw [hat]
      have HAT := Lib.hid hat
      have HP := Lib.hid hP
      clear hP hat
      cases hh : (mapAt L s).has with
      | false =>
        have htx := HH.out _ hh
        rw [hh, htx] at ct
        have CT := Lib.hid ct
        have HN' := Lib.hid (atF_no hh)
        have ee : (ByteArray.empty.toList == ([] : List UInt8)) = true := by decide +kernel
        clear ct hh htx
        go_wp2_with fail
        refine (CT.out).mono ?_
        rintro e w5 ⟨rfl, hb5⟩
        have hB5 := Below_then hBr hb5
        go_wp2_with fail
        go_roundw
        case rel => exact ⟨s + 1, rfl, by go_num, by omega, by rw [HN'.out, HAT.out], hB5⟩
        case measure => simp [intOf]; omega
      | true =>
        have hs1 : 1 ≤ s := by
          rcases Nat.lt_or_ge s 1 with h | h
          · have := HG.out.rel.out s (.inl (by omega)); rw [hh] at this; cases this
          · exact h
        have hs64 : s ≤ 64 := by
          rcases Nat.lt_or_ge 64 s with h | h
          · have := HG.out.rel.out s (.inr (by omega)); rw [hh] at this; cases this
          · exact h
        obtain ⟨hy1, hy2⟩ := atF_yes hs1 hs64 hh
        rw [HAT.out] at hy1 hy2
        have hlt2 : at0 < n := by
          rw [← HNN.out]
          rw [List.getElem?_eq_some_iff] at hy2
          exact hy2.1
        rw [hh] at ct
        obtain ⟨tx, htx⟩ : ∃ t, (mapAt L s).text = t := ⟨_, rfl⟩
        rw [htx] at ct hy2
        have CT := Lib.hid ct
        have HY1 := Lib.hid hy1
        have HY2 := Lib.hid hy2
        have eself : (tx.toList == tx.toList) = true := by simp
        have e2 : ((s : Int) == s) = true := by simp
        have t1 : decide ((n : Int) ≤ at0) = false := by simp; omega
        obtain ⟨g, rfl⟩ : ∃ g, ao = some ⟨g, 0, none⟩ := by
          obtain ⟨g, cap', h3, _⟩ := item_cells HI3.out HY2.out
          simp only [Value.slice.injEq] at h3
          exact ⟨g, h3.1⟩
        have hcell : w3.cell? ⟨g, at0 * 2, none⟩ = some (.int .i64 s) ∧ w3.cell? ⟨g, at0 * 2 + 1, none⟩ = some (.string tx) := by
          obtain ⟨g', cap', h3, q0, q1⟩ := item_cells HI3.out HY2.out
          simp only [Value.slice.injEq, Option.some.injEq, Addr.mk.injEq] at h3
          obtain ⟨⟨rfl, _⟩, _⟩ := h3
          exact ⟨q0, q1⟩
        have k1 : (0 : Int) ≤ at0 := by omega
        have k2 : (at0 : Int) < n := by omega
        have HC := Lib.hid hcell
        clear hh hy1 hy2 ct htx hcell
        go_wp2_with fail
        refine (CT.out).mono ?_
        rintro e w5 ⟨rfl, hb5⟩
        have hB5 := Below_then hBr hb5
        have q0 := (hB5.cell (p := ⟨g, at0 * 2, none⟩) (World.block_lt_of_cell? w3 _ HC.out.1)).trans HC.out.1
        have q1 := (hB5.cell (p := ⟨g, at0 * 2 + 1, none⟩) (World.block_lt_of_cell? w3 _ HC.out.2)).trans HC.out.2
        go_wp2_with fail
        go_roundw
        case rel => exact ⟨s + 1, rfl, by go_num, by omega, by rw [HY1.out]; go_num, hB5⟩
        case measure => simp [intOf]; omega
    · obtain rfl : s = 66 := by omega
      have t0 : decide ((66 : Int) ≤ 65) = false := by decide
      have hend := atF_end (HG.out.rel.out 65 (.inr (by decide)))
      rw [HNN.out] at hend
      rw [hend]
      clear hend
      have hB3' := Lib.hid (Below_then hB3 hBr)
      have HPr := Lib.hid (HP3.out.below hBr HP3.out.lt HP3.out.held.lt)
      have hrow : (n = 0 ∧ ao = none ∧ cap = 0) ∨ ∃ g cur, ao = some ⟨g, 0, none⟩ ∧ W.heap.size ≤ g ∧ wr.heap[g]? = some (.cells cur 67 (0, 0)) ∧ n ≤ cap ∧ cur.size = cap * 2 := by
        rcases HI3.out.2 with ⟨h3, h0⟩ | ⟨g, cap', cur, h3, hg, hh, hle, hcm, hsz, _⟩
        · rw [HNN.out] at h0
          simp only [Value.slice.injEq] at h3
          exact .inl ⟨h0, h3.1, h3.2.2⟩
        · rw [HNN.out] at h3 hle
          simp only [Value.slice.injEq] at h3
          obtain ⟨rfl, _, rfl⟩ := h3
          exact .inr ⟨g, cur, rfl, Nat.le_trans hW2 hg, (hBr.block g (lt_of_heap hh)).trans hh, hle, hsz⟩
      obtain ⟨w4, hw4⟩ : ∃ w4 : World, w4 = wr := ⟨_, rfl⟩
      rw [← hw4] at hB3' HPr hrow ⊢
      have HROW := Lib.hid hrow
      clear hw4 hrow hBr
      go_wp2_with fail
      go_loopw [13] (fun v13 wr => ∃ i : Nat, v13 = .int .i64 i ∧ i ≤ n ∧ Hid ((n = 0 ∧ ao = none ∧ cap = 0) ∨ ∃ g cur, ao = some ⟨g, 0, none⟩ ∧ W.heap.size ≤ g ∧ wr.heap[g]? = some (.cells cur 67 (0, 0)) ∧ n ≤ cap ∧ cur.size = cap * 2) ∧ Hid (IsP p b id L wr) ∧ Hid (Below W.heap.size W wr)) (fun v13 _ => n - (intOf v13).toNat)
      case atStart => exact ⟨0, rfl, by omega, HROW, HPr, hB3'⟩
      case round =>
        obtain ⟨i, rfl, hin, HR, HPi, HBi⟩ := hrel
        by_cases hlt2 : i < n
        · have t1 : decide ((i : Int) < n) = true := by simp; omega
          obtain ⟨g, cur, rfl, hgW, hgr, hnc, hcur⟩ : ∃ g cur, ao = some ⟨g, 0, none⟩ ∧ W.heap.size ≤ g ∧ wr.heap[g]? = some (.cells cur 67 (0, 0)) ∧ n ≤ cap ∧ cur.size = cap * 2 := by
            rcases HR.out with ⟨h0, _⟩ | h
            · omega
            · exact h
          have x0 : wr.cell? ⟨g, i * 2, none⟩ = some cur[i * 2] := by rw [Lib.cell_of_heap hgr, Array.getElem?_eq_getElem (by omega)]
          have x1 : wr.cell? ⟨g, i * 2 + 1, none⟩ = some cur[i * 2 + 1] := by rw [Lib.cell_of_heap hgr, Array.getElem?_eq_getElem (by omega)]
          have z0 := Lib.frozen_of_heap hgr (i * 2)
          have z1 := Lib.frozen_of_heap hgr (i * 2 + 1)
          obtain ⟨c0, hc0⟩ : ∃ c0, cur[i * 2] = c0 := ⟨_, rfl⟩
          obtain ⟨c1, hc1⟩ : ∃ c1, cur[i * 2 + 1] = c1 := ⟨_, rfl⟩
          rw [hc0] at x0
          rw [hc1] at x1
          have k1 : (0 : Int) ≤ i := by omega
          have k2 : (i : Int) < n := by omega
          have HGR := Lib.hid hgr
          have HCU := Lib.hid hcur
          clear hc0 hc1 hgr hcur HR
          go_wp2_with fail
          have hg1 := Go.heap_setCell_same wr g (i * 2) cur _ (.int .i64 0) HGR.out
          have hg2 := Go.heap_setCell_same _ g (i * 2 + 1) _ _ (.string ⟨#[]⟩) hg1
          have hp1 := HPi.out.setT HGR.out (i * 2) (.int .i64 0)
          have hp2 := hp1.setT hg1 (i * 2 + 1) (.string ⟨#[]⟩)
          have hbf := (HBi.out.setCell (p := ⟨g, i * 2, none⟩) hgW (.int .i64 0)).setCell (p := ⟨g, i * 2 + 1, none⟩) hgW (.string ⟨#[]⟩)
          go_roundw
          case rel => exact ⟨i + 1, by go_num, by omega, Lib.hid (.inr ⟨g, _, rfl, hgW, hg2, hnc, by simp [HCU.out]⟩), Lib.hid hp2, Lib.hid hbf⟩
          case measure => simp [intOf]; omega
        · have HIE := Lib.hid (show i = n by omega)
          have t1 : decide ((i : Int) < n) = false := by simp; omega
          obtain ⟨w5, hw5⟩ : ∃ w5 : World, w5 = wr := ⟨_, rfl⟩
          rw [← hw5] at HPi HBi ⊢
          clear hw5
          have en : ((n : Int) == n) = true := by simp
          by_cases hn0 : n = 0
          · have e0 : ((n : Int) == 0) = true := by simp [hn0]
            have HN0 := Lib.hid hn0
            clear hn0
            go_wp2_with fail
            refine (items_any HPi.out).mono ?_
            rintro e w6 ⟨v6, rfl, hi6, hb6⟩
            obtain ⟨ao6, cap6, rfl⟩ := items_form hi6
            rw [HNN.out]
            have hB6 := Below_then HBi.out hb6
            clear hi6
            go_wp2_with fail
            go_ret
            exact ⟨rfl, hB6⟩
          · have e0 : ((n : Int) == 0) = false := by simp; omega
            go_wp2_with fail
            refine (items_any HPi.out).mono ?_
            rintro e w6 ⟨v6, rfl, hi6, hb6⟩
            obtain ⟨ao6, cap6, rfl⟩ := items_form hi6
            rw [HNN.out]
            have hB6 := Below_then HBi.out hb6
            have hp6 := HPi.out.below hb6 HPi.out.lt HPi.out.held.lt
            clear hi6
            go_wp2_with fail
            refine (items_any hp6).mono ?_
            rintro e w7 ⟨v7, rfl, hi7, hb7⟩
            have hB7 := Below_then hB6 hb7
            obtain ⟨y, hy⟩ : ∃ y, (itemsF L)[0]? = some y := ⟨_, List.getElem?_eq_getElem (by rw [HNN.out]; omega)⟩
            have hy1 := (itemsF_pos L y (by rw [List.getElem?_eq_some_iff] at hy; obtain ⟨h, rfl⟩ := hy; exact List.getElem_mem _)).1
            obtain ⟨g7, cap7, rfl, q0, q1⟩ := item_cells hi7 hy
            rw [HNN.out]
            rw [Nat.zero_mul] at q0
            have t9 : decide (0 < y.1) = true := by simp; omega
            have k3 : (0 : Int) < n := by omega
            clear hi7 hy q1
            go_wp2_with fail
            go_ret
            exact ⟨rfl, hB7⟩
end Go.Proofs.YtkpgadjhcnkadaaDoor
