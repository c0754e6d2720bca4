/- PartnerRepeat: the walk. -/
import Derived.Test.YtkpgadjhcnkadaaDoorRepeatPure
import Derived.Test.YtkpgadjhcnkadaaDoorRow22b
import Derived.BigQuiet
set_option linter.unusedSimpArgs false
set_option linter.unusedVariables false
namespace Go.Proofs.YtkpgadjhcnkadaaDoor
open Go.RowKit

set_option maxRecDepth 100000 in
set_option maxHeartbeats 12800000 in
theorem repeat_any (a : Int) (A : Option Addr) (l c : Nat) (zs : List Six) (x : Six) (a0 a1 : Addr) (W : World) (hn : NibCells W) (he : ErrCells a0 a1 W) (h1 : -9223372036854775808 ≤ a) (h2 : a ≤ 9223372036854775807) (hz : SixIn W A l zs) (hx : x.Ok) :
    Calls Tryd.prog 5 #[.int .i64 a, .slice A l c, .agg #[.int .i64 x.x0, .int .i64 x.x1, .int .i64 x.x2, .int .i64 x.x3, .int .i64 x.x4, .int .i64 x.x5]] W fun e W' => e = .returned (.bool true) ∧ Below W.heap.size W W' := by
  obtain ⟨wb, hwb⟩ : ∃ wb, W.alloc (.cells #[.int .i64 x.x0, .int .i64 x.x1, .int .i64 x.x2, .int .i64 x.x3, .int .i64 x.x4, .int .i64 x.x5] 35) = wb := ⟨_, rfl⟩
  have hBb : Below W.heap.size W wb := by rw [← hwb]; exact (Below.refl _ _).alloc (Nat.le_refl _) _
  have hxb : wb.heap[W.heap.size]? = some (.cells #[.int .i64 x.x0, .int .i64 x.x1, .int .i64 x.x2, .int .i64 x.x3, .int .i64 x.x4, .int .i64 x.x5] 35 (0, 0)) := by rw [← hwb]; exact World.alloc_heap_new W _
  have hzb : SixIn wb A l zs := hz.below hBb
  have CS := Lib.hid (sane22_any a0 a1 wb (hn.below hBb) (he.below hBb))
  have CM := Lib.hid (fun w1 (h : Below wb.heap.size wb w1) => made_any a A l c zs a0 a1 w1 ((hn.below hBb).below h) ((he.below hBb).below h) h1 h2 (hzb.below h))
  obtain ⟨id, hid⟩ : ∃ d, 1 + pickI a 8 = d := ⟨_, rfl⟩
  rw [hid] at CM
  have hgood := madeF_good id (zs.take 24)
  obtain ⟨⟨L, E⟩, hLE⟩ : ∃ s, madeF id (zs.take 24) = s := ⟨_, rfl⟩
  rw [hLE] at hgood CM
  dsimp only at hgood CM
  have hlenE : E.length ≤ 1000 := by have := hgood.len; rw [List.length_take] at this; omega
  obtain ⟨m, hm⟩ : ∃ m, buildF id E x = m := ⟨_, rfl⟩
  have hmd : m.data.size ≤ 8206 := by rw [← hm]; exact buildF_data hgood id x
  have cb := fun (B r : Nat) (W' : World) (h : IsR B r id E W') => build_any h x hx hlenE hgood.ent
  simp only [hm] at cb
  rw [show msgV m = .agg #[.int .i64 m.kind, .int .i64 m.partner, .int .i64 m.seq, .int .i64 m.story, .int .i64 m.base, .int .i64 m.version, .string m.data] from rfl] at cb
  unfold sixV at cb
  have CB := Lib.hid cb
  have htw := recv_twice id L m
  have hfo := recv_form id L m
  have hg2 := (hgood.step id m).txt
  obtain ⟨⟨o, L1⟩, ho⟩ : ∃ s, recvF id L m = s := ⟨_, rfl⟩
  rw [ho] at htw hfo hg2
  dsimp only at htw hfo hg2
  have HO := Lib.hid ho
  have HTW := Lib.hid htw
  have HG := Lib.hid (show ∀ k, (mapAt L k).text.size ≤ 8192 from hgood.txt)
  have HG2 := Lib.hid hg2
  have HWB := Lib.hid hwb
  have HN := Lib.hid (hn.below hBb)
  have HE := Lib.hid (he.below hBb)
  have HXB := Lib.hid hxb
  have HFO := Lib.hid hfo
  clear hn he hz hzb hid hLE hgood hm cb htw hfo hg2 ho hwb hxb
  go_enter Tryd.func5, Tryd.ntmps5
  go_wp2_with fail
  rw [HWB.out]
  refine (CS.out).mono ?_
  rintro e w1 ⟨rfl, hb1⟩
  have hB1 := Below_then hBb hb1
  go_wp2_with fail
  refine (CM.out _ hb1).mono ?_
  rintro e w2 ⟨p, b, r, rfl, hP2, hb2⟩
  have HB1 := Lib.hid hB1
  have HN1 := Lib.hid (HN.out.below hb1)
  have HE1 := Lib.hid (HE.out.below hb1)
  have hx1' := (hb1.block _ (lt_of_heap HXB.out)).trans HXB.out
  have hx2 := (hb2.block _ (lt_of_heap hx1')).trans hx1'
  obtain ⟨xb, hxb'⟩ : ∃ xb, W.heap.size = xb := ⟨_, rfl⟩
  rw [hxb'] at hx2
  rw [hxb']
  have HXBE := Lib.hid hxb'
  obtain ⟨y0, y1, y2, y3, y4, y5⟩ := cells6 hx2
  clear hx1' hb1 hB1 hBb hxb' hx2
  go_wp2_with fail
  refine (CB.out _ _ _ hP2.r).mono ?_
  rintro e w3 ⟨rfl, hb3⟩
  have hB3 := Below_then hb2 hb3
  have hP3 := hP2.below hb3
  obtain ⟨w4, hw4⟩ : ∃ w4, w3.alloc (.cells #[.int .i64 m.kind, .int .i64 m.partner, .int .i64 m.seq, .int .i64 m.story, .int .i64 m.base, .int .i64 m.version, .string m.data] 33) = w4 := ⟨_, rfl⟩
  have hb4 : Below w3.heap.size w3 w4 := by rw [← hw4]; exact (Below.refl _ _).alloc (Nat.le_refl _) _
  have hB4 := Below_then hB3 hb4
  have hP4 := hP3.below hb4
  have m4 : w4.heap[w3.heap.size]? = some (.cells (msgCells m) 33 (0, 0)) := by rw [← hw4]; exact World.alloc_heap_new w3 _
  have hbq : b < w3.heap.size := hP3.p.held.lt
  obtain ⟨q, hq⟩ : ∃ q, w3.heap.size = q := ⟨_, rfl⟩
  have HW4 := Lib.hid hw4
  have HQ := Lib.hid hq
  rw [hq] at m4 hbq
  have HP4 := Lib.hid hP4
  have M4 := Lib.hid m4
  clear hP2 hP3 hP4 m4 y0 y1 y2 y3 y4 y5 hq hw4 hb4 hb3 hb2
  go_wp2_with fail
  rw [HQ.out, HW4.out]
  refine (items_any HP4.out.p).mono ?_
  rintro e w5 ⟨v5, rfl, hi5, hb5⟩
  have hB5 := Below_then hB4 hb5
  have hP5 := HP4.out.below hb5
  have m5 := (hb5.block q (lt_of_heap M4.out)).trans M4.out
  obtain ⟨d0, d1, d2, d3, d4, d5, d6⟩ := cells7 m5
  have HI5 := Lib.hid hi5
  have HP5 := Lib.hid hP5
  have M5 := Lib.hid m5
  have hb4s := Lib.hid HP4.out.p.held.lt
  clear hi5 hP5 m5
  go_wp2_with fail
  refine (HP5.out.recvP (w0 := w1) hB5 (HN1.out.below hB5) (HE1.out.below hB5) m hmd HG.out).mono ?_
  rintro e w6 ⟨v6, rfl, ha6, hP6, hB6, hg6⟩
  rw [HO.out] at ha6 hP6
  dsimp only at ha6 hP6
  have hi6 := HI5.out.kept hg6 (fun k hk => by have hk := Option.some.inj hk; have := hb4s.out; omega)
  have m6 := (hg6.block q (lt_of_heap M5.out) (fun e => by have := Option.some.inj e; omega)).trans M5.out
  have HA6 := Lib.hid ha6
  have HP6 := Lib.hid hP6
  have HI6 := Lib.hid hi6
  have M6 := Lib.hid m6
  have hb5s := Lib.hid HP5.out.p.held.lt
  clear ha6 hP6 hi6 m6 hg6 d0 d1 d2 d3 d4 d5 d6
  go_wp2_with fail
  refine (items_any HP6.out.p).mono ?_
  rintro e w7 ⟨v7, rfl, hi7, hb7⟩
  have hB7 := Below_then hB6 hb7
  have hP7 := HP6.out.below hb7
  have m7 := (hb7.block q (lt_of_heap M6.out)).trans M6.out
  obtain ⟨d0, d1, d2, d3, d4, d5, d6⟩ := cells7 m7
  have HI7 := Lib.hid hi7
  have HWAS7 := Lib.hid (HI6.out.below hb7)
  have HA7 := Lib.hid (HA6.out.below hb7)
  have HP7 := Lib.hid hP7
  have M7 := Lib.hid m7
  have hb6s := Lib.hid HP6.out.p.held.lt
  clear hi7 hP7 m7
  go_wp2_with fail
  refine (HP7.out.recvP (w0 := w1) hB7 (HN1.out.below hB7) (HE1.out.below hB7) m hmd HG2.out).mono ?_
  rintro e w8 ⟨v8, rfl, ha8, hP8, hB8, hg8⟩
  rw [HTW.out] at ha8 hP8
  dsimp only at ha8 hP8
  have hsm : ∀ k, some b = some k → k < w6.heap.size := fun k hk => by have hk := Option.some.inj hk; have := hb6s.out; omega
  have hi8 := HI7.out.kept hg8 hsm
  have hwas8 := HWAS7.out.kept hg8 (fun k hk => by have hk := Option.some.inj hk; have := hb4s.out; omega)
  have ha68 := HA7.out.kept hg8 (fun k hk => by have hk := Option.some.inj hk; have := hb5s.out; omega)
  have m8 := (hg8.block q (lt_of_heap M7.out) (fun e => by have := Option.some.inj e; omega)).trans M7.out
  have HP8 := Lib.hid hP8
  have HI8 := Lib.hid hi8
  have HWAS8 := Lib.hid hwas8
  have HA8 := Lib.hid ha8
  have HA68 := Lib.hid ha68
  have M8 := Lib.hid m8
  clear hP8 hi8 hwas8 ha8 ha68 m8 hg8 hsm d0 d1 d2 d3 d4 d5 d6
  go_wp2_with fail
  refine (same_any HA68.out HA8.out).mono ?_
  rintro e w9 ⟨rfl, hb9⟩
  have hB9 := Below_then hB8 hb9
  have HP9 := Lib.hid (HP8.out.below hb9)
  have HI9 := Lib.hid (HI8.out.below hb9)
  have HWAS9 := Lib.hid (HWAS8.out.below hb9)
  have HA9 := Lib.hid (HA68.out.below hb9)
  have M9 := Lib.hid ((hb9.block q (lt_of_heap M8.out)).trans M8.out)
  go_wp2_with fail
  refine (items_any HP9.out.p).mono ?_
  rintro e w10 ⟨v10, rfl, hi10, hb10⟩
  have hB10 := Below_then hB9 hb10
  have HI10 := Lib.hid (HI9.out.below hb10)
  have HWAS10 := Lib.hid (HWAS9.out.below hb10)
  have HA10 := Lib.hid (HA9.out.below hb10)
  have M10 := Lib.hid ((hb10.block q (lt_of_heap M9.out)).trans M9.out)
  go_wp2_with fail
  refine (sameItems_any HI10.out hi10 (Nat.le_trans (itemsF_len L1) (by decide))).mono ?_
  rintro e w11 ⟨rfl, hb11⟩
  have hB11 := Below_then hB10 hb11
  have HI11 := Lib.hid (HI10.out.below hb11)
  have HWAS11 := Lib.hid (HWAS10.out.below hb11)
  have HA11 := Lib.hid (HA10.out.below hb11)
  have M11 := Lib.hid ((hb11.block q (lt_of_heap M10.out)).trans M10.out)
  clear hi10 HP8 HP9 HI5 HI6 HI7 HI8 HI9 HI10 HWAS7 HWAS8 HWAS9 HWAS10 HA6 HA7 HA8 HA68 HA9 HA10 M4 M5 M6 M7 M8 M9 M10 HP4 HP5 HP6 HP7
  rcases HFO.out with ⟨ho1, ho2⟩ | ⟨v, ho1⟩ | ⟨sq, v, hsq, ho1, ho2⟩
  · subst ho1
    have hav := HA11.out
    have hv6 : v6 = .slice none 0 0 := hav
    subst hv6
    have hnow := HI11.out
    rw [ho2] at hnow
    have HNOW := Lib.hid hnow
    have t0 : decide ((0 : Int) ≤ 1) = true := by decide
    have HO2 := Lib.hid ho2
    clear hav hnow ho2
    go_wp2_with fail
    go_loopw [7, 15] (fun v7 v15 wr => v7 = .bool true ∧ v15 = .int .i64 0 ∧ wr = w11) (fun _ _ _ => 0)
    case atStart => exact ⟨rfl, rfl, rfl⟩
    case round =>
      obtain ⟨rfl, rfl, rfl⟩ := hrel
      go_wp2_with fail
      refine (sameItems_any HWAS11.out HNOW.out (Nat.le_trans (itemsF_len L) (by decide))).mono ?_
      rintro e w12 ⟨rfl, hb12⟩
      have hB12 := Below_then hB11 hb12
      go_wp2_with fail
      go_ret
      exact ⟨rfl, Below_then HB1.out hB12⟩
  · subst ho1
    obtain ⟨g, hg0, hv6, hgc⟩ := HA11.out
    subst hv6
    have GC := Lib.hid hgc
    have t5 : decide (m.seq ≤ m.seq) = true := by simp
    have t6 : (m.seq == m.seq) = true := by simp
    have ep : (m.partner == m.partner) = true := by simp
    have es : (m.story == m.story) = true := by simp
    have ee : (ByteArray.empty.toList == ([] : List UInt8)) = true := by decide +kernel
    clear hgc
    go_wp2_with fail
    go_loopw [7, 15] (fun v7 v15 wr => ∃ (i k : Nat), v7 = .bool true ∧ v15 = .int .i64 i ∧ i ≤ 1 ∧ Hid (Below w11.heap.size w11 wr)) (fun _ v15 _ => 1 - (intOf v15).toNat)
    case atStart => exact ⟨0, 0, rfl, rfl, by omega, Lib.hid (Below.refl _ _)⟩
    case round =>
      obtain ⟨i, k, rfl, rfl, hi1, HBr⟩ := hrel
      have gr := (HBr.out.block g (lt_of_heap GC.out)).trans GC.out
      have mr := (HBr.out.block q (lt_of_heap M11.out)).trans M11.out
      by_cases hi0 : i = 0
      · subst hi0
        obtain ⟨c0, c1, c2, c3, c4, c5, c6⟩ := cells7 gr
        obtain ⟨d0, d1, d2, d3, d4, d5, d6⟩ := cells7 mr
        unfold ackM at c0 c1 c2 c3 c4 c5 c6
        dsimp only at c0 c1 c2 c3 c4 c5 c6
        clear gr mr
        go_wp2_with fail
        simp only [List.append_eq, List.cons_append, List.nil_append]
        go_big_quiet (fail)
        go_wp2_with fail
        go_roundw
        case rel => exact ⟨1, 0, rfl, by go_num, by omega, Lib.hid (below_drewN3 HBr.out _)⟩
        case measure => simp [intOf]
      · have HI1 := Lib.hid (show i = 1 by omega)
        have t9 : decide ((i : Int) < 1) = false := by simp; omega
        clear gr mr
        go_wp2_with fail
        go_ret
        exact ⟨rfl, Below_then HB1.out (Below_then hB11 HBr.out)⟩

  · subst ho1
    obtain ⟨g, hg0, hv6, hgc⟩ := HA11.out
    subst hv6
    have GC := Lib.hid hgc
    have hnow := HI11.out
    rw [ho2] at hnow
    have HNOW := Lib.hid hnow
    have t5 : decide (m.seq ≤ sq) = true := by simpa using hsq
    clear hnow ho2
    have ep : (m.partner == m.partner) = true := by simp
    have es : (m.story == m.story) = true := by simp
    have ee : (ByteArray.empty.toList == ([] : List UInt8)) = true := by decide +kernel
    clear hgc
    go_wp2_with fail
    go_loopw [7, 15] (fun v7 v15 wr => ∃ (i k : Nat), v7 = .bool true ∧ v15 = .int .i64 i ∧ i ≤ 1 ∧ Hid (Below w11.heap.size w11 wr)) (fun _ v15 _ => 1 - (intOf v15).toNat)
    case atStart => exact ⟨0, 0, rfl, rfl, by omega, Lib.hid (Below.refl _ _)⟩
    case round =>
      obtain ⟨i, k, rfl, rfl, hi1, HBr⟩ := hrel
      have gr := (HBr.out.block g (lt_of_heap GC.out)).trans GC.out
      have mr := (HBr.out.block q (lt_of_heap M11.out)).trans M11.out
      by_cases hi0 : i = 0
      · subst hi0
        obtain ⟨c0, c1, c2, c3, c4, c5, c6⟩ := cells7 gr
        obtain ⟨d0, d1, d2, d3, d4, d5, d6⟩ := cells7 mr
        unfold rejM at c0 c1 c2 c3 c4 c5 c6
        dsimp only at c0 c1 c2 c3 c4 c5 c6
        clear gr mr
        by_cases hs6 : sq = m.seq
        · have t6 : (sq == m.seq) = true := by simp [hs6]
          have HS6 := Lib.hid hs6
          clear hs6
          go_wp2_with fail
          simp only [List.append_eq, List.cons_append, List.nil_append]
          go_big_quiet (fail)
          go_wp2_with fail
          refine (sameItems_any ((HWAS11.out.below HBr.out).below (below_drewN3 (Below.refl _ _) _)) ((HNOW.out.below HBr.out).below (below_drewN3 (Below.refl _ _) _)) (Nat.le_trans (itemsF_len L) (by decide))).mono ?_
          rintro e w12 ⟨rfl, hb12⟩
          have hb12' := Below_then (below_drewN3 HBr.out _) hb12
          go_wp2_with fail
          go_roundw
          case rel => exact ⟨1, 0, rfl, by go_num, by omega, Lib.hid hb12'⟩
          case measure => simp [intOf]
        · have t6 : (sq == m.seq) = false := by simp [hs6]
          have HS6 := Lib.hid hs6
          clear hs6
          go_wp2_with fail
          simp only [List.append_eq, List.cons_append, List.nil_append]
          go_big_quiet (fail)
          go_wp2_with fail
          refine (sameItems_any ((HWAS11.out.below HBr.out).below (below_drewN3 (Below.refl _ _) _)) ((HNOW.out.below HBr.out).below (below_drewN3 (Below.refl _ _) _)) (Nat.le_trans (itemsF_len L) (by decide))).mono ?_
          rintro e w12 ⟨rfl, hb12⟩
          have hb12' := Below_then (below_drewN3 HBr.out _) hb12
          go_wp2_with fail
          go_roundw
          case rel => exact ⟨1, 0, rfl, by go_num, by omega, Lib.hid hb12'⟩
          case measure => simp [intOf]
      · have HI1 := Lib.hid (show i = 1 by omega)
        have t9 : decide ((i : Int) < 1) = false := by simp; omega
        clear gr mr
        go_wp2_with fail
        go_ret
        exact ⟨rfl, Below_then HB1.out (Below_then hB11 HBr.out)⟩

end Go.Proofs.YtkpgadjhcnkadaaDoor
