/- PartnerReject: the walk. -/
import Derived.Test.YtkpgadjhcnkadaaDoorTxPure2
import Derived.Test.YtkpgadjhcnkadaaDoorRow22b
set_option linter.unusedSimpArgs false
set_option linter.unusedVariables false
namespace Go.Proofs.YtkpgadjhcnkadaaDoor
open Go.RowKit

set_option maxRecDepth 100000 in
set_option maxHeartbeats 12800000 in
theorem reject22_any (a : Int) (A : Option Addr) (l c : Nat) (zs : List Six) (x0 x1 x2 : Int) (a0 a1 : Addr) (W : World) (hn : NibCells W) (he : ErrCells a0 a1 W) (h1 : -9223372036854775808 ≤ a) (h2 : a ≤ 9223372036854775807) (hz : SixIn W A l zs) (hx0 : In64 x0) (hx1 : In64 x1) (hx2 : In64 x2) :
    Calls Tryd.prog 8 #[.int .i64 a, .slice A l c, .agg #[.int .i64 x0, .int .i64 x1, .int .i64 x2]] W fun e W' => e = .returned (.bool true) ∧ Below W.heap.size W W' := by
  obtain ⟨l0, u0⟩ := hx0
  obtain ⟨l1, u1⟩ := hx1
  obtain ⟨l2, u2⟩ := hx2
  obtain ⟨wb, hwb⟩ : ∃ wb, W.alloc (.cells #[.int .i64 x0, .int .i64 x1, .int .i64 x2] 63) = wb := ⟨_, rfl⟩
  have hBb : Below W.heap.size W wb := by rw [← hwb]; exact (Below.refl _ _).alloc (Nat.le_refl _) _
  have hxb : wb.heap[W.heap.size]? = some (.cells #[.int .i64 x0, .int .i64 x1, .int .i64 x2] 63 (0, 0)) := by rw [← hwb]; exact World.alloc_heap_new W _
  have hzb : SixIn wb A l zs := hz.below hBb
  have CS := Lib.hid (sane22_any a0 a1 wb (hn.below hBb) (he.below hBb))
  have CM := Lib.hid (fun w1 (h : Below wb.heap.size wb w1) => made_any a A l c zs a0 a1 w1 ((hn.below hBb).below h) ((he.below hBb).below h) h1 h2 (hzb.below h))
  obtain ⟨id, hid⟩ : ∃ d, 1 + pickI a 8 = d := ⟨_, rfl⟩
  have hr8 := pickI_range a 8 (by decide)
  have i0 : 1 ≤ id := by omega
  have i1 : id ≤ 8 := by omega
  rw [hid] at CM
  have hgood := madeF_good id (zs.take 24)
  have htx := madeF_tx id (zs.take 24)
  obtain ⟨⟨L, E⟩, hLE⟩ : ∃ s, madeF id (zs.take 24) = s := ⟨_, rfl⟩
  rw [hLE] at hgood CM htx
  dsimp only at hgood CM htx
  have HG := Lib.hid hgood
  have hlenE : E.length ≤ 1000 := by have := hgood.len; rw [List.length_take] at this; omega
  obtain ⟨k4, hk4⟩ : ∃ k, pickI x0 4 = k := ⟨_, rfl⟩
  have r4 := pickI_range x0 4 (by decide)
  rw [hk4] at r4
  have g0 : 0 ≤ k4 := r4.1
  have g1 : k4 < 4 := r4.2
  have p4 := fun W => pick22_any x0 4 W l0 u0 (by decide) (by decide)
  rw [hk4] at p4
  have P4 := Lib.hid p4
  obtain ⟨wr, hwr⟩ : ∃ o, wordsF x1 = o := ⟨_, rfl⟩
  have swr : wr.size ≤ 132 := by rw [← hwr]; exact wordsF_size _
  have twr : TX wr := by rw [← hwr]; exact wordsF_tx _
  have cwr := fun W => words_any x1 W l1 u1
  rw [hwr] at cwr
  have Cwr := Lib.hid cwr
  have Twr := Lib.hid twr
  clear hwr cwr twr
  obtain ⟨nx, hnx⟩ : ∃ o, wordsF x2 = o := ⟨_, rfl⟩
  have snx : nx.size ≤ 132 := by rw [← hnx]; exact wordsF_size _
  have tnx : TX nx := by rw [← hnx]; exact wordsF_tx _
  have cnx := fun W => words_any x2 W l2 u2
  rw [hnx] at cnx
  have Cnx := Lib.hid cnx
  have Tnx := Lib.hid tnx
  clear hnx cnx tnx
  have hh0 := htx (1 + k4)
  have hst := hgood.rel.st (1 + k4)
  obtain ⟨e0, hE⟩ : ∃ e, entryF E (1 + k4) = e := ⟨_, rfl⟩
  rw [hE] at hst
  obtain ⟨⟨sq, old, had⟩, hH⟩ : ∃ h, mapAt L (1 + k4) = h := ⟨_, rfl⟩
  rw [hH] at hst hh0
  have hsq : e0.seq = sq := (congrArg Held.seq hst).symm
  dsimp only at hh0
  obtain ⟨told, sold, q0, q1⟩ := hh0
  have hrn := recv_next htx ⟨i0, i1⟩ (st := 1 + k4) (by omega) (nx := nx) (by omega)
  rw [hH] at hrn
  dsimp only at hrn
  have hrf := recv_fresh htx ⟨i0, i1⟩ (st := 1 + k4) (by omega) (nx := nx) (by omega)
  rw [hH] at hrf
  dsimp only at hrf
  have hrw := recv_wrong htx ⟨i0, i1⟩ (st := 1 + k4) (by omega) (nx := nx) (by omega) Twr.out swr
  rw [hH] at hrw
  dsimp only at hrw
  have HRW := Lib.hid hrw
  have sq1 : (⟨#[63]⟩ : ByteArray).size = 1 := rfl
  obtain ⟨wq, hwq⟩ : ∃ o, wr ++ ⟨#[63]⟩ = o := ⟨_, rfl⟩
  have swq : wq.size ≤ 133 := by rw [← hwq, ba_append_size, sq1]; omega
  rw [hwq] at HRW
  have HWQ := Lib.hid hwq
  clear hrw hwq sq1
  have HRN := Lib.hid hrn
  have HRF := Lib.hid hrf
  have ct := fun (p b : Nat) (W' : World) (h : IsP p b id L W') => text_any h (1 + k4)
  rw [hH] at ct
  dsimp only at ct
  have CT := Lib.hid ct
  have ce := fun (B r : Nat) (W' : World) (h : IsR B r id E W') => refEntry_any h (1 + k4) hlenE
  rw [hE] at ce
  unfold entV at ce
  rw [hsq] at ce
  have CE := Lib.hid ce
  obtain ⟨es, eq, eh, et⟩ := e0
  dsimp only at CE
  have hfld : ∀ W : World, (Instr.field 59 (.agg #[.int .i64 es, .int .i64 sq, .bool eh, .string et]) 1).run Tryd.prog W = .ok (.int .i64 sq) W := fun W => by kernel_rfl
  have ew : IntKind.i64.wrap (sq + 1) = sq + 1 := by unfold IntKind.wrap; simp [IntKind.bits, IntKind.signed]; omega
  have CD := Lib.hid (fun W => deliver_any id (sq + 1) (1 + k4) old nx W (by omega) (by omega))
  have CF := Lib.hid (fun W => deliver_any id (sq + 1) (1 + k4) ⟨#[]⟩ nx W (by decide) (by omega))
  obtain ⟨sn, hsn⟩ : ∃ n, sumB nx = n := ⟨_, rfl⟩
  have CSN := Lib.hid (fun W => refSum_is hsn (by omega) W)
  obtain ⟨so, hso⟩ : ∃ n, sumB old = n := ⟨_, rfl⟩
  have CSO := Lib.hid (fun W => refSum_is hso (by omega) W)
  rw [hsn] at HRN HRF
  have HWB := Lib.hid hwb
  have HN := Lib.hid (hn.below hBb)
  have HE := Lib.hid (he.below hBb)
  have HXB := Lib.hid hxb
  have eself : (nx.toList == nx.toList) = true := by simp
  have esn : (sn == sn) = true := by simp
  have hdm : ∀ base : ByteArray, base.size ≤ 8192 → (deliverM id (sq + 1) (1 + k4) base nx).data.size ≤ 8206 := fun base hb => by
    have := diffF_size base nx hb (by omega)
    unfold deliverM
    dsimp only
    omega
  have HDM := Lib.hid hdm
  have HGT := Lib.hid (show ∀ k, (mapAt L k).text.size ≤ 8192 from hgood.txt)
  have CW1 := Lib.hid (fun W => deliver_any id (sq + 1) (1 + k4) wq nx W (by omega) (by omega))
  have eold : (old.toList == old.toList) = true := by simp
  have ehad : (had == had) = true := by simp
  have eso : (so == so) = true := by simp
  rw [hso] at HRW
  clear hn he hz hzb hid hr8 hLE hgood hk4 p4 r4 hwb hxb htx hst hE hH hsq hrn hrf ct ce hsn hso told hdm
  go_enter Tryd.func8, Tryd.ntmps8
  go_wp2_with fail
  rw [HWB.out]
  refine (CS.out).mono ?_
  rintro e w1 ⟨rfl, hb1⟩
  have hB1 := Below_then hBb hb1
  go_wp2_with fail
  refine (CM.out _ hb1).mono ?_
  rintro e w2 ⟨p, b, r, rfl, hP2, hb2⟩
  have HB1 := Lib.hid hB1
  have HN1 := Lib.hid (HN.out.below hb1)
  have HE1 := Lib.hid (HE.out.below hb1)
  have hx1' := (hb1.block _ (lt_of_heap HXB.out)).trans HXB.out
  have hx2 := (hb2.block _ (lt_of_heap hx1')).trans hx1'
  obtain ⟨xb, hxb'⟩ : ∃ xb, W.heap.size = xb := ⟨_, rfl⟩
  rw [hxb'] at hx2
  rw [hxb']
  have HX2 := Lib.hid hx2
  have HXBE := Lib.hid hxb'
  clear hx1' hb1 hB1 hBb hxb' hx2
  have y0 : w2.cell? ⟨xb, 0, none⟩ = some (.int .i64 x0) := Lib.cell_of_heap HX2.out 0
  have y1 : w2.cell? ⟨xb, 1, none⟩ = some (.int .i64 x1) := Lib.cell_of_heap HX2.out 1
  have y2 : w2.cell? ⟨xb, 2, none⟩ = some (.int .i64 x2) := Lib.cell_of_heap HX2.out 2
  go_wp2_with fail
  refine (P4.out _).mono ?_
  rintro e _ ⟨rfl, rfl⟩
  go_wp2_with fail
  refine (CT.out _ _ _ hP2.p).mono ?_
  rintro e w3 ⟨rfl, hb3⟩
  have hB3 := Below_then hb2 hb3
  have hP3 := hP2.below hb3
  have hx3 := (hb3.block _ (lt_of_heap HX2.out)).trans HX2.out
  have HX3 := Lib.hid hx3
  clear hP2 hb2 hb3 hx3 y0 y1 y2
  have y0 : w3.cell? ⟨xb, 0, none⟩ = some (.int .i64 x0) := Lib.cell_of_heap HX3.out 0
  have y1 : w3.cell? ⟨xb, 1, none⟩ = some (.int .i64 x1) := Lib.cell_of_heap HX3.out 1
  have y2 : w3.cell? ⟨xb, 2, none⟩ = some (.int .i64 x2) := Lib.cell_of_heap HX3.out 2
  go_wp2_with fail
  refine (Cwr.out _).mono ?_
  rintro e w4 ⟨rfl, hb4⟩
  have hB4 := Below_then hB3 hb4
  have hP4 := hP3.below hb4
  have hx4 := (hb4.block _ (lt_of_heap HX3.out)).trans HX3.out
  have HX4 := Lib.hid hx4
  clear hP3 hx4 y0 y1 y2
  have y2 : w4.cell? ⟨xb, 2, none⟩ = some (.int .i64 x2) := Lib.cell_of_heap HX4.out 2
  go_wp2_with fail
  rw [HWQ.out]
  refine (Cnx.out _).mono ?_
  rintro e w5 ⟨rfl, hb5⟩
  have hB5 := Below_then hB4 hb5
  have hP5 := hP4.below hb5
  clear hP4 y2
  go_wp2_with fail
  refine (CE.out _ _ _ hP5.r).mono ?_
  rintro e w6 ⟨rfl, hb6⟩
  have hB6 := Below_then hB5 hb6
  have hP6 := hP5.below hb6
  have i6 := hP6.r.c0
  have HP6 := Lib.hid hP6
  clear hP5 hP6
  go_wp2_with fail
  refine (CW1.out _).mono ?_
  rintro e w7 ⟨rfl, hb7⟩
  have hB7 := Below_then hB6 hb7
  have hP7 := HP6.out.below hb7
  clear i6
  go_wp2_with fail
  refine (hP7.recvP (w0 := w1) hB7 (HN1.out.below hB7) (HE1.out.below hB7) (deliverM id (sq + 1) (1 + k4) wq nx) (HDM.out wq (by omega)) HGT.out).mono ?_
  rintro e w8 ⟨v8, rfl, ha8, hP8, hB8, hg8⟩
  rw [HRW.out] at ha8 hP8
  obtain ⟨g, hg0, rfl, hgc⟩ := ha8
  go_wp2_with fail
  refine (CT.out _ _ _ hP8.p).mono ?_
  rintro e w9 ⟨rfl, hb9⟩
  have hB9 := Below_then hB8 hb9
  have hP9 := hP8.below hb9
  have HP9 := Lib.hid hP9
  have m9 := (hb9.block g (lt_of_heap hgc)).trans hgc
  obtain ⟨c0, c1, c2, c3, c4, c5, c6⟩ := cells7 m9
  unfold rejM at c0 c1 c2 c3 c4 c5 c6
  dsimp only at c0 c1 c2 c3 c4 c5 c6
  clear m9 hgc hP8 hP9
  go_wp2_with fail
  go_quiet ((go_at_call 29; exact quiet_left' (CSO.out _)))
  obtain ⟨w10, hw10⟩ : ∃ w10, w9.drewN nq = w10 := ⟨_, rfl⟩
  have hB10 : Below w1.heap.size w1 w10 := by rw [← hw10]; exact below_drewN3 hB9 _
  have hP10 : PairAt w1.heap.size p b r id L E w10 := by rw [← hw10]; exact HP9.out.drewN _
  rw [hw10]
  have HP10 := Lib.hid hP10
  have i10 := hP10.r.c0
  clear hw10 hP10 c0 c1 c2 c3 c4 c5 c6
  go_wp2_with fail
  refine (CF.out _).mono ?_
  rintro e w11 ⟨rfl, hb11⟩
  have hB11 := Below_then hB10 hb11
  have hP11 := HP10.out.below hb11
  clear i10
  go_wp2_with fail
  refine (hP11.recvP (w0 := w1) hB11 (HN1.out.below hB11) (HE1.out.below hB11) (deliverM id (sq + 1) (1 + k4) ⟨#[]⟩ nx) (HDM.out ⟨#[]⟩ (by decide)) HGT.out).mono ?_
  rintro e w12 ⟨v12, rfl, ha12, hP12, hB12, hg12⟩
  rw [HRF.out] at ha12 hP12
  obtain ⟨g', hg0', rfl, hgc'⟩ := ha12
  go_wp2_with fail
  have ctx := text_any hP12.p (1 + k4)
  rw [mapAt_put, if_pos rfl] at ctx
  refine ctx.mono ?_
  rintro e w13 ⟨rfl, hb13⟩
  have hB13 := Below_then hB12 hb13
  have m13 := (hb13.block g' (lt_of_heap hgc')).trans hgc'
  obtain ⟨c0, c1, c2, c3, c4, c5, c6⟩ := cells7 m13
  unfold ackM at c0 c1 c2 c3 c4 c5 c6
  dsimp only at c0 c1 c2 c3 c4 c5 c6
  clear ctx m13 hgc'
  go_wp2_with fail
  go_ret
  exact ⟨rfl, Below_then HB1.out hB13⟩
end Go.Proofs.YtkpgadjhcnkadaaDoor
