/- PartnerIndependent: the walk. -/
import Derived.Test.YtkpgadjhcnkadaaDoorIndPure
import Derived.Test.YtkpgadjhcnkadaaDoorRow22b
set_option linter.unusedSimpArgs false
set_option linter.unusedVariables false
namespace Go.Proofs.YtkpgadjhcnkadaaDoor
open Go.RowKit

set_option maxRecDepth 100000 in
set_option maxHeartbeats 12800000 in
theorem independent_any (a : Int) (A : Option Addr) (l c : Nat) (zs : List Six) (y : Int) (a0 a1 : Addr) (W : World) (hn : NibCells W) (he : ErrCells a0 a1 W) (h1 : -9223372036854775808 ≤ a) (h2 : a ≤ 9223372036854775807) (hz : SixIn W A l zs) (hy1 : -9223372036854775808 ≤ y) (hy2 : y ≤ 9223372036854775807) :
    Calls Tryd.prog 10 #[.int .i64 a, .slice A l c, .int .i64 y] W fun e W' => e = .returned (.bool true) ∧ Below W.heap.size W W' := by
  obtain ⟨hzl, hlm, hcell, hzs⟩ := hz
  have hlm' : l ≤ 9223372036854775807 := by unfold maxLen at hlm; omega
  have CS := Lib.hid (sane22_any a0 a1 W hn he)
  have hN := Lib.hid hn
  have hE := Lib.hid he
  have hpr := pickI_range a 8 (by decide)
  obtain ⟨d, hd⟩ : ∃ d, pickI a 8 = d := ⟨_, rfl⟩
  rw [hd] at hpr
  have cp := fun W => pick22_any a 8 W h1 h2 (by decide) (by decide)
  rw [hd] at cp
  have CP := Lib.hid cp
  have l0 : 0 ≤ d := hpr.1
  have l1 : d < 8 := hpr.2
  have hps := pickI_range y 3 (by decide)
  obtain ⟨f, hf⟩ : ∃ f, pickI y 3 = f := ⟨_, rfl⟩
  rw [hf] at hps
  have cq := fun W => pick22_any y 3 W hy1 hy2 (by decide) (by decide)
  rw [hf] at cq
  have CQ := Lib.hid cq
  have l2 : 0 ≤ f := hps.1
  have l3 : f < 3 := hps.2
  have HCELL := Lib.hid hcell
  have HZS := Lib.hid hzs
  clear hd cp hpr hf cq hps hn he hzl hlm hcell hzs
  go_enter Tryd.func10, Tryd.ntmps10
  go_wp2_with fail
  refine (CS.out).mono ?_
  rintro e w1 ⟨rfl, hb1⟩
  go_wp2_with fail
  refine (CP.out _).mono ?_
  rintro e _ ⟨rfl, rfl⟩
  go_wp2_with fail
  refine (CQ.out _).mono ?_
  rintro e _ ⟨rfl, rfl⟩
  go_wp2_with fail
  refine (new_in (1 + d) _ (by omega) (by omega)).mono ?_
  rintro e w2 ⟨rfl, hp2, hb2, hs2⟩
  have HS2 := Lib.hid hs2
  clear hs2
  have hB2 := Below_then hb1 hb2
  go_wp2_with fail
  refine (new_in (1 + d) _ (by omega) (by omega)).mono ?_
  rintro e w3 ⟨rfl, hq3, hb3, hs3⟩
  clear hs3
  have hB3 := Below_then hB2 hb3
  go_wp2_with fail
  refine (refNew_in (1 + d) _ (by omega) (by omega)).mono ?_
  rintro e w4 ⟨rfl, hr4, hb4⟩
  have hB4 := Below_then hB3 hb4
  have hT4 : TriAt W.heap.size (w1.heap.size + 1) w1.heap.size w3.heap.size (w2.heap.size + 1) w2.heap.size (1 + d) [] [] [] w4 :=
    ⟨⟨(hp2.below hb3 hp2.lt hp2.held.lt).below hb4 (hp2.below hb3 hp2.lt hp2.held.lt).lt (hp2.below hb3 hp2.lt hp2.held.lt).held.lt, hr4 _ hB3.size, hb1.size, hB4.size⟩, hq3.below hb4 hq3.lt hq3.held.lt, by have := HS2.out; omega, hB2.size⟩
  obtain ⟨r, hr⟩ : ∃ r, w3.heap.size = r := ⟨_, rfl⟩
  obtain ⟨b, hb⟩ : ∃ b, w1.heap.size = b := ⟨_, rfl⟩
  obtain ⟨c2, hc2⟩ : ∃ b, w2.heap.size = b := ⟨_, rfl⟩
  rw [hr, hb, hc2] at hT4
  rw [hr, hb, hc2]
  have HT4 := Lib.hid hT4
  clear hT4 hp2 hq3 hr4 hr hb hc2 hb1 hb2 hb3 hb4 hB2 hB3
  go_wp2_with fail
  go_loopw [7, 15] (fun v7 v15 wr => ∃ (i : Nat) (L : List (Int × Held)) (E : List Ent) (Q : List (Int × Held)), v7 = .bool true ∧ v15 = .int .i64 i ∧ i ≤ l ∧ i ≤ 24 ∧ Hid (TriAt W.heap.size (b + 1) b r (c2 + 1) c2 (1 + d) L E Q wr) ∧ Hid (Good L E i) ∧ Hid (Ind L Q (1 + f)) ∧ Below W.heap.size W wr) (fun _ v15 _ => l - (intOf v15).toNat)
  case atStart => exact ⟨0, [], [], [], rfl, rfl, by omega, by omega, HT4, Lib.hid Good.nil, Lib.hid (Ind.nil _), hB4⟩
  case round =>
    obtain ⟨i, L, E, Q, rfl, rfl, hil, hi24, HS, HG, HI, hB⟩ := hrel
    have hgo : (i < l ∧ i < 24) ∨ ¬ (i < l ∧ i < 24) := by omega
    rcases hgo with ⟨hlt, h24⟩ | hno
    · have t0 : decide ((i : Int) < l) = true := by simp; omega
      have t1 : decide ((i : Int) < 24) = true := by simp; omega
      obtain ⟨bb, off, rfl, hbl, hc⟩ := HCELL.out (by omega)
      obtain ⟨z, hzi, c0, c1, c2', c3, c4, c5⟩ := hc i hlt
      have hok : z.Ok := HZS.out z (by rw [List.getElem?_eq_some_iff] at hzi; obtain ⟨hh, rfl⟩ := hzi; exact List.getElem_mem _)
      have x0 := (hB.cell (p := ⟨bb, off + i * 6, none⟩) hbl).trans c0
      have x1 := (hB.cell (p := ⟨bb, off + i * 6 + 1, none⟩) hbl).trans c1
      have x2 := (hB.cell (p := ⟨bb, off + i * 6 + 2, none⟩) hbl).trans c2'
      have x3 := (hB.cell (p := ⟨bb, off + i * 6 + 3, none⟩) hbl).trans c3
      have x4 := (hB.cell (p := ⟨bb, off + i * 6 + 4, none⟩) hbl).trans c4
      have x5 := (hB.cell (p := ⟨bb, off + i * 6 + 5, none⟩) hbl).trans c5
      have k1 : (0 : Int) ≤ i := by omega
      have k2 : (i : Int) < l := by omega
      have hlenE : E.length ≤ 1000 := by have := HG.out.len; omega
      obtain ⟨m, hm⟩ : ∃ m, buildF (1 + d) E z = m := ⟨_, rfl⟩
      have hmd : m.data.size ≤ 8206 := by rw [← hm]; exact buildF_data HG.out (1 + d) z
      have cb := fun W' (h : IsR W.heap.size r (1 + d) E W') => build_any h z hok hlenE (HG.out.ent)
      simp only [hm] at cb
      have CB := Lib.hid cb
      have HG2 := Lib.hid (HG.out.step (1 + d) m)
      clear hm cb hok hzi c0 c1 c2' c3 c4 c5 hc
      go_wp2_with fail
      refine (CB.out _ HS.out.pair.r).mono ?_
      rintro e w5 ⟨rfl, hb5⟩
      have hB5 := Below_then hB hb5
      have hT5 := HS.out.below hb5
      rw [show msgV m = .agg #[.int .i64 m.kind, .int .i64 m.partner, .int .i64 m.seq, .int .i64 m.story, .int .i64 m.base, .int .i64 m.version, .string m.data] from rfl]
      obtain ⟨w6, hw6⟩ : ∃ w6, w5.alloc (.cells #[.int .i64 m.kind, .int .i64 m.partner, .int .i64 m.seq, .int .i64 m.story, .int .i64 m.base, .int .i64 m.version, .string m.data] 33) = w6 := ⟨_, rfl⟩
      have hb6 : Below w5.heap.size w5 w6 := by rw [← hw6]; exact (Below.refl _ _).alloc (Nat.le_refl _) _
      have hB6 := Below_then hB5 hb6
      have hT6 := hT5.below hb6
      have m6 : w6.heap[w5.heap.size]? = some (.cells (msgCells m) 33 (0, 0)) := by rw [← hw6]; exact World.alloc_heap_new w5 _
      obtain ⟨y0, y1, y2, y3, y4, y5, y6⟩ := cells7 m6
      have HT6 := Lib.hid hT6
      have M6 := Lib.hid m6
      have hq1 := hT5.pair.p.held.lt
      have hq2 := hT5.q.held.lt
      have hq3 := hT5.pair.r.lt
      clear hT5 hT6 m6 x0 x1 x2 x3 x4 x5
      go_wp2_with fail
      refine (HT6.out.recvR hB6 m hmd hlenE HG.out.ent).mono ?_
      rintro e w7 ⟨v7, rfl, _, hT7, hB7, hg7⟩
      have m7 := (hg7.block w5.heap.size (lt_of_heap M6.out) (fun e => by have := Option.some.inj e; omega)).trans M6.out
      clear y0 y1 y2 y3 y4 y5 y6
      obtain ⟨y0, y1, y2, y3, y4, y5, y6⟩ := cells7 m7
      have HT7 := Lib.hid hT7
      have M7 := Lib.hid m7
      clear hT7 m7 hg7
      go_wp2_with fail
      refine (HT7.out.recvP (a0 := a0) (a1 := a1) hB7 (hN.out.below hB7) (hE.out.below hB7) m hmd HG.out.txt).mono ?_
      rintro e w8 ⟨v8, rfl, ha8, hT8, hB8, hg8⟩
      have m8 := (hg8.block w5.heap.size (lt_of_heap M7.out) (fun e => by have := Option.some.inj e; omega)).trans M7.out
      clear y0 y1 y2 y3 y4 y5 y6
      obtain ⟨y0, y1, y2, y3, y4, y5, y6⟩ := cells7 m8
      have HT8 := Lib.hid hT8
      have HA8 := Lib.hid ha8
      have hcl := Lib.hid HT7.out.q.held.lt
      clear hT8 m8 hg8 ha8
      by_cases hst : m.story = 1 + f
      · have e0 : (m.story == 1 + f) = true := by simpa using hst
        obtain ⟨han, hind⟩ := HI.out.yes (1 + d) m hst
        have htq : (mapAt Q m.story).text.size ≤ 8192 := by rw [hst, HI.out.1]; exact HG.out.txt _
        have HAN := Lib.hid han
        have HIN := Lib.hid hind
        have HST := Lib.hid hst
        clear han hind hst
        go_wp2_with fail
        refine (HT8.out.recvQ (a0 := a0) (a1 := a1) hB8 (hN.out.below hB8) (hE.out.below hB8) m hmd htq).mono ?_
        rintro e w9 ⟨v9, rfl, ha9, hT9, hB9, hg9⟩
        have ha8 := HA8.out.kept hg9 (fun k hk => by cases hk; exact hcl.out)
        rw [HAN.out] at ha9
        have HT9 := Lib.hid hT9
        clear hT9 hg9
        go_wp2_with fail
        refine (same_any ha8 ha9).mono ?_
        rintro e w10 ⟨rfl, hb10⟩
        have hB10 := Below_then hB9 hb10
        have HT10 := Lib.hid (HT9.out.below hb10)
        clear ha8 ha9
        go_wp2_with fail
        go_roundw
        case rel => exact ⟨i + 1, _, _, _, rfl, by go_num, by omega, by omega, HT10, HG2, HIN, hB10⟩
        case measure => simp [intOf]; omega
      · have e0 : (m.story == 1 + f) = false := by simpa using hst
        have HIN := Lib.hid (HI.out.no (1 + d) m hst)
        have HST := Lib.hid hst
        clear hst
        go_wp2_with fail
        go_roundw
        case rel => exact ⟨i + 1, _, _, _, rfl, by go_num, by omega, by omega, HT8, HG2, HIN, hB8⟩
        case measure => simp [intOf]; omega
    · have HNO := Lib.hid hno
      clear hil hi24
      have tx : (decide ((i : Int) < l) = false ∧ ¬ i < l) ∨ (decide ((i : Int) < l) = true ∧ decide ((i : Int) < 24) = false ∧ i < l ∧ ¬ i < 24) := by
        have hno := HNO.out
        rcases Nat.lt_or_ge i l with h | h
        · exact .inr ⟨by simp; omega, by simp; omega, h, by omega⟩
        · exact .inl ⟨by simp; omega, by omega⟩
      have ct := fun W' (h : IsP (b + 1) b (1 + d) L W') => text_any h (1 + f)
      have cu := fun W' (h : IsP (c2 + 1) c2 (1 + d) Q W') => text_any h (1 + f)
      rw [HI.out.1] at cu
      obtain ⟨⟨sq, tx', has⟩, hh⟩ : ∃ h, mapAt L (1 + f) = h := ⟨_, rfl⟩
      rw [hh] at ct cu
      have hlen := HI.out.items (by omega) (by omega)
      rw [hh] at hlen
      dsimp only at hlen ct cu
      have CT := Lib.hid ct
      have CU := Lib.hid cu
      have HL := Lib.hid hlen
      have eself : (tx'.toList == tx'.toList) = true := by simp
      have ehas : (has == has) = true := by simp
      clear ct cu hlen hh hno
      rcases tx with ⟨t0, g0⟩ | ⟨t0, t1, g0, g1⟩
      all_goals
        go_wp2_with fail
        refine (CT.out _ HS.out.pair.p).mono ?_
        rintro e w5 ⟨rfl, hb5⟩
        have hB5 := Below_then hB hb5
        have HT5 := Lib.hid (HS.out.below hb5)
        go_wp2_with fail
        refine (CU.out _ HT5.out.q).mono ?_
        rintro e w6 ⟨rfl, hb6⟩
        have hB6 := Below_then hB5 hb6
        have HT6 := Lib.hid (HT5.out.below hb6)
        go_wp2_with fail
        refine (items_any HT6.out.q).mono ?_
        rintro e w7 ⟨v7, rfl, hi7, hb7⟩
        have hB7 := Below_then hB6 hb7
        obtain ⟨ao, cap, rfl⟩ := items_form hi7
        rw [HL.out]
        clear hi7
        cases has
        · simp only [Bool.false_eq_true, if_false]
          go_wp2_with fail
          go_ret
          exact ⟨rfl, hB7⟩
        · simp only [if_true]
          go_wp2_with fail
          go_ret
          exact ⟨rfl, hB7⟩
end Go.Proofs.YtkpgadjhcnkadaaDoor
