/- PartnerForeign: the walk. -/
import Derived.Test.YtkpgadjhcnkadaaDoorPairKit
import Derived.OrdersHeld
import Derived.Deep.RegionHeld
import Derived.Test.YtkpgadjhcnkadaaDoorRow22b
set_option linter.unusedSimpArgs false
set_option linter.unusedVariables false
namespace Go.Proofs.YtkpgadjhcnkadaaDoor
open Go.RowKit

set_option maxRecDepth 100000 in
set_option maxHeartbeats 12800000 in
theorem foreign_any (a : Int) (A : Option Addr) (l c : Nat) (zs : List Six) (x0 x1 : Int) (a0 a1 : Addr) (W : World) (hn : NibCells W) (he : ErrCells a0 a1 W) (h1 : -9223372036854775808 ≤ a) (h2 : a ≤ 9223372036854775807) (hz : SixIn W A l zs) (hx0 : In64 x0) (hx1 : In64 x1) :
    Calls Tryd.prog 9 #[.int .i64 a, .slice A l c, .agg #[.int .i64 x0, .int .i64 x1]] W fun e W' => e = .returned (.bool true) ∧ Below W.heap.size W W' := by
  obtain ⟨l0, u0⟩ := hx0
  obtain ⟨l1, u1⟩ := hx1
  obtain ⟨wb, hwb⟩ : ∃ wb, W.alloc (.cells #[.int .i64 x0, .int .i64 x1] 54) = wb := ⟨_, rfl⟩
  have hBb : Below W.heap.size W wb := by rw [← hwb]; exact (Below.refl _ _).alloc (Nat.le_refl _) _
  have hxb : wb.heap[W.heap.size]? = some (.cells #[.int .i64 x0, .int .i64 x1] 54 (0, 0)) := by rw [← hwb]; exact World.alloc_heap_new W _
  have hzb : SixIn wb A l zs := hz.below hBb
  have CS := Lib.hid (sane22_any a0 a1 wb (hn.below hBb) (he.below hBb))
  have CM := Lib.hid (fun w1 (h : Below wb.heap.size wb w1) => made_any a A l c zs a0 a1 w1 ((hn.below hBb).below h) ((he.below hBb).below h) h1 h2 (hzb.below h))
  obtain ⟨id, hid⟩ : ∃ d, 1 + pickI a 8 = d := ⟨_, rfl⟩
  have hr8 := pickI_range a 8 (by decide)
  have i0 : 1 ≤ id := by omega
  have i1 : id ≤ 8 := by omega
  rw [hid] at CM
  have hgood := madeF_good id (zs.take 24)
  obtain ⟨⟨L, E⟩, hLE⟩ : ∃ s, madeF id (zs.take 24) = s := ⟨_, rfl⟩
  rw [hLE] at hgood CM
  dsimp only at hgood CM
  have HG := Lib.hid hgood
  obtain ⟨nx, hnx⟩ : ∃ o, wordsF x0 = o := ⟨_, rfl⟩
  have snx : nx.size ≤ 132 := by rw [← hnx]; exact wordsF_size _
  have cw := fun W => words_any x0 W l0 u0
  rw [hnx] at cw
  have CW := Lib.hid cw
  obtain ⟨m0, hm0⟩ : ∃ m, deliverM id 1000 2 ⟨#[]⟩ nx = m := ⟨_, rfl⟩
  have cd := fun W => deliver_any id 1000 2 ⟨#[]⟩ nx W (by decide) (by omega)
  rw [hm0] at cd
  rw [show msgV m0 = .agg #[.int .i64 m0.kind, .int .i64 m0.partner, .int .i64 m0.seq, .int .i64 m0.story, .int .i64 m0.base, .int .i64 m0.version, .string m0.data] from rfl] at cd
  have CD := Lib.hid cd
  have sm0 : m0.data.size ≤ 8206 := by rw [← hm0]; have := diffF_size ⟨#[]⟩ nx (by decide) (by omega); unfold deliverM; dsimp only; omega
  have HM0 := Lib.hid hm0
  have r7 := pickI_range x1 7 (by decide)
  obtain ⟨c7, hc7⟩ : ∃ k, pickI x1 7 = k := ⟨_, rfl⟩
  rw [hc7] at r7
  have p7 := fun W => pick22_any x1 7 W l1 u1 (by decide) (by decide)
  rw [hc7] at p7
  have P7 := Lib.hid p7
  have HWB := Lib.hid hwb
  have HN := Lib.hid (hn.below hBb)
  have HE := Lib.hid (he.below hBb)
  have HXB := Lib.hid hxb
  have hWb : W.heap.size < wb.heap.size := by rw [← hwb]; simp
  clear hn he hz hzb hid hr8 hLE hgood hnx cw hm0 cd hc7 p7 hwb hxb
  go_enter Tryd.func9, Tryd.ntmps9
  go_wp2_with fail
  rw [HWB.out]
  refine (CS.out).mono ?_
  rintro e w1 ⟨rfl, hb1⟩
  have hB1 := Below_then hBb hb1
  go_wp2_with fail
  refine (CM.out _ hb1).mono ?_
  rintro e w2 ⟨p, b, r, rfl, hP2, hb2⟩
  have HB1 := Lib.hid hB1
  have HN1 := Lib.hid (HN.out.below hb1)
  have HE1 := Lib.hid (HE.out.below hb1)
  have hx1' := (hb1.block _ (lt_of_heap HXB.out)).trans HXB.out
  have hx2 := (hb2.block _ (lt_of_heap hx1')).trans hx1'
  have hlt1 : W.heap.size < w1.heap.size := lt_of_heap hx1'
  obtain ⟨xb, hxb'⟩ : ∃ xb, W.heap.size = xb := ⟨_, rfl⟩
  rw [hxb'] at hx2 hlt1
  rw [hxb']
  have HX2 := Lib.hid hx2
  have HP2 := Lib.hid hP2
  have HB2 := Lib.hid hb2
  obtain ⟨y0, y1⟩ := cells2of hx2
  have i2 := hP2.r.c0
  have HXB' := Lib.hid hxb'
  clear hx1' hx2 hP2 hB1 hBb hb1 hb2 hxb' hWb
  go_upto_region 3 with (fail)
  go_cut [10] (fun s10 wx => ∃ q, s10 = .pointer (some ⟨q, 0, none⟩) ∧ Hid (ForSt w1 p b r q xb id L E x0 x1 m0 wx))
  case first =>
    have hrl : r < w2.heap.size := HP2.out.r.lt
    have hxl : xb < w2.heap.size := lt_of_heap HX2.out
    refine wp_region_held_drew (S := fun W' => Below w2.heap.size w2 W') rfl ⟨rfl, rfl, rfl, Nat.le_refl _, fun _ _ => rfl⟩ (fun hS0 => ?_)
    obtain ⟨W0, hW0⟩ : ∃ W0, w2.drew = W0 := ⟨_, rfl⟩
    rw [hW0] at hS0 ⊢
    clear hW0
    refine wpAnyH_take (i := 0) (v := ?v1) rfl (by kernel_rfl) (by kernel_rfl) (by kernel_rfl) (fun _ _ _ h => h) (Or.inl ⟨by rfl, ?hy1⟩) (by assumption) ?rest1
    case hy1 => intro w hSw; (try dsimp only at hSw); go_simp; try with_reducible rfl
    case rest1 =>
    try simp only [Act.put, List.getElem_toArray, List.getElem_cons_succ, List.getElem_cons_zero, List.setIfInBounds_toArray, List.set_cons_zero, List.set_cons_succ]
    refine wpAnyH_take (i := 1) (v := ?v2) rfl (by kernel_rfl) (by kernel_rfl) (by kernel_rfl) (fun _ _ _ h => h) (Or.inl ⟨by rfl, ?hy2⟩) (by assumption) ?rest2
    case hy2 => intro w hSw; (try dsimp only at hSw); go_simp; try with_reducible rfl
    case rest2 =>
    try simp only [Act.put, List.getElem_toArray, List.getElem_cons_succ, List.getElem_cons_zero, List.setIfInBounds_toArray, List.set_cons_zero, List.set_cons_succ]
    refine wpAnyH_take (i := 2) (v := ?v3) rfl (by kernel_rfl) (by kernel_rfl) (by kernel_rfl) (fun _ _ _ h => h) (Or.inl ⟨by rfl, ?hy3⟩) (by assumption) ?rest3
    case hy3 => intro w hSw; (try dsimp only at hSw); go_simp; try with_reducible rfl
    case rest3 =>
    try simp only [Act.put, List.getElem_toArray, List.getElem_cons_succ, List.getElem_cons_zero, List.setIfInBounds_toArray, List.set_cons_zero, List.set_cons_succ]
    refine wpAnyH_take (i := 3) (v := ?v4) rfl (by kernel_rfl) (by kernel_rfl) (by kernel_rfl) (fun _ _ _ h => h) (Or.inl ⟨by rfl, ?hy4⟩) (by assumption) ?rest4
    case hy4 => intro w hSw; (try dsimp only at hSw); have c0 := (hSw.cell (p := ⟨r, 0, none⟩) hrl).trans i2; go_simp; try with_reducible rfl
    case rest4 =>
    try simp only [Act.put, List.getElem_toArray, List.getElem_cons_succ, List.getElem_cons_zero, List.setIfInBounds_toArray, List.set_cons_zero, List.set_cons_succ]
    refine wpAnyH_take (i := 4) (v := ?v5) rfl (by kernel_rfl) (by kernel_rfl) (by kernel_rfl) (fun _ _ _ h => h) (Or.inl ⟨by rfl, ?hy5⟩) (by assumption) ?rest5
    case hy5 => intro w hSw; (try dsimp only at hSw); go_simp; try with_reducible rfl
    case rest5 =>
    try simp only [Act.put, List.getElem_toArray, List.getElem_cons_succ, List.getElem_cons_zero, List.setIfInBounds_toArray, List.set_cons_zero, List.set_cons_succ]
    refine wpAnyH_take (i := 5) (v := ?v6) rfl (by kernel_rfl) (by kernel_rfl) (by kernel_rfl) (fun _ _ _ h => h) (Or.inl ⟨by rfl, ?hy6⟩) (by assumption) ?rest6
    case hy6 => intro w hSw; (try dsimp only at hSw); have c0 := (hSw.cell (p := ⟨xb, 0, none⟩) hxl).trans y0; go_simp; try with_reducible rfl
    case rest6 =>
    try simp only [Act.put, List.getElem_toArray, List.getElem_cons_succ, List.getElem_cons_zero, List.setIfInBounds_toArray, List.set_cons_zero, List.set_cons_succ]
    refine wpAnyH_ready (rs := [6, 8]) (by kernel_rfl) (by simp) ?_
    refine AllReadyH.cons rfl (fun K hK => ?_) (AllReadyH.cons rfl (fun K hK => ?_) AllReadyH.nil)
    · go_simp
      refine (CW.out _).mono ?_
      rintro e w7 ⟨rfl, hb7⟩
      have hS7 := Below.trans hS0 (hb7.mono hS0.size)
      refine hK.out _ _ (hS7) (fun hS => ?_)
      clear hK K
      try simp only [Act.put, List.getElem_toArray, List.getElem_cons_succ, List.getElem_cons_zero, List.setIfInBounds_toArray, List.set_cons_zero, List.set_cons_succ]
      refine wpAnyH_ready (rs := [7, 8]) (by kernel_rfl) (by simp) ?_
      refine AllReadyH.cons rfl (fun K hK => ?_) (AllReadyH.cons rfl (fun K hK => ?_) AllReadyH.nil)
      · go_simp
        refine (CD.out _).mono ?_
        rintro e w8 ⟨rfl, hb8⟩
        have hS8 := Below.trans hS7 (hb8.mono hS7.size)
        refine hK.out _ _ (hS8) (fun hS => ?_)
        clear hK K
        try simp only [Act.put, List.getElem_toArray, List.getElem_cons_succ, List.getElem_cons_zero, List.setIfInBounds_toArray, List.set_cons_zero, List.set_cons_succ]
        refine wpAnyH_ready (rs := [8]) (by kernel_rfl) (by simp) ?_
        refine AllReadyH.cons rfl (fun K hK => ?_) AllReadyH.nil
        go_simp
        have hS9 := hS8.alloc hS8.size (.cells #[.int .i64 0, .int .i64 0, .int .i64 0, .int .i64 0, .int .i64 0, .int .i64 0, .string ⟨#[]⟩] 33)
        refine hK.out _ _ (hS9) (fun hS => ?_)
        clear hK K
        try simp only [Act.put, List.getElem_toArray, List.getElem_cons_succ, List.getElem_cons_zero, List.setIfInBounds_toArray, List.set_cons_zero, List.set_cons_succ]
        refine wpAnyH_ready (rs := [9]) (by kernel_rfl) (by simp) ?_
        refine AllReadyH.cons rfl (fun K hK => ?_) AllReadyH.nil
        go_simp
        have hS10 := hS8.alloc hS8.size (.cells (msgCells m0) 33)
        refine hK.out _ _ (hS10) (fun hS => ?_)
        clear hK K
        try simp only [Act.put, List.getElem_toArray, List.getElem_cons_succ, List.getElem_cons_zero, List.setIfInBounds_toArray, List.set_cons_zero, List.set_cons_succ]
        refine wpAnyH_done (by kernel_rfl) ?_ _
        go_wp2_with fail
        go_meet
        exact ⟨w8.heap.size, rfl, Lib.hid (forSt_new HP2.out HB2.out HX2.out hlt1 hS10 (Nat.le_trans HB2.out.size hS8.size) (World.alloc_heap_new w8 _))⟩
      · go_simp
        have hS9 := hS7.alloc hS7.size (.cells #[.int .i64 0, .int .i64 0, .int .i64 0, .int .i64 0, .int .i64 0, .int .i64 0, .string ⟨#[]⟩] 33)
        have hz9 := World.alloc_heap_new w7 (.cells #[.int .i64 0, .int .i64 0, .int .i64 0, .int .i64 0, .int .i64 0, .int .i64 0, .string ⟨#[]⟩] 33)
        have hq9 := Lib.hid (Nat.le_trans HB2.out.size hS7.size)
        have hw9 := Lib.hid hS7.size
        refine hK.out _ _ (hS9) (fun hS => ?_)
        clear hK K
        try simp only [Act.put, List.getElem_toArray, List.getElem_cons_succ, List.getElem_cons_zero, List.setIfInBounds_toArray, List.set_cons_zero, List.set_cons_succ]
        refine wpAnyH_ready (rs := [7]) (by kernel_rfl) (by simp) ?_
        refine AllReadyH.cons rfl (fun K hK => ?_) AllReadyH.nil
        go_simp
        refine (CD.out _).mono ?_
        rintro e w8 ⟨rfl, hb8⟩
        have hS8 := Below.trans hS9 (hb8.mono hS9.size)
        have hz8 := (hb8.block _ (by simp)).trans hz9
        refine hK.out _ _ (hS8) (fun hS => ?_)
        clear hK K
        try simp only [Act.put, List.getElem_toArray, List.getElem_cons_succ, List.getElem_cons_zero, List.setIfInBounds_toArray, List.set_cons_zero, List.set_cons_succ]
        have F7 := frozen7 hz8
        have C7 := cells7 (m := ⟨0, 0, 0, 0, 0, 0, ⟨#[]⟩⟩) hz8
        obtain ⟨z0, z1, z2, z3, z4, z5, z6⟩ := F7
        obtain ⟨d0, d1, d2, d3, d4, d5, d6⟩ := C7
        dsimp only at d0 d1 d2 d3 d4 d5 d6
        refine wpAnyH_ready (rs := [9]) (by kernel_rfl) (by simp) ?_
        refine AllReadyH.cons rfl (fun K hK => ?_) AllReadyH.nil
        go_simp
        have HF := forSt_old HP2.out HB2.out HX2.out hlt1 hS8 hq9.out hw9.out hz8 m0
        refine hK.out _ _ (HF.2) (fun hS => ?_)
        clear hK K
        try simp only [Act.put, List.getElem_toArray, List.getElem_cons_succ, List.getElem_cons_zero, List.setIfInBounds_toArray, List.set_cons_zero, List.set_cons_succ]
        refine wpAnyH_done (by kernel_rfl) ?_ _
        go_wp2_with fail
        go_meet
        exact ⟨w7.heap.size, rfl, Lib.hid HF.1⟩
    · go_simp
      have hS9 := hS0.alloc hS0.size (.cells #[.int .i64 0, .int .i64 0, .int .i64 0, .int .i64 0, .int .i64 0, .int .i64 0, .string ⟨#[]⟩] 33)
      have hz9 := World.alloc_heap_new W0 (.cells #[.int .i64 0, .int .i64 0, .int .i64 0, .int .i64 0, .int .i64 0, .int .i64 0, .string ⟨#[]⟩] 33)
      have hq9 := Lib.hid (Nat.le_trans HB2.out.size hS0.size)
      have hw9 := Lib.hid hS0.size
      refine hK.out _ _ (hS9) (fun hS => ?_)
      clear hK K
      try simp only [Act.put, List.getElem_toArray, List.getElem_cons_succ, List.getElem_cons_zero, List.setIfInBounds_toArray, List.set_cons_zero, List.set_cons_succ]
      refine wpAnyH_ready (rs := [6]) (by kernel_rfl) (by simp) ?_
      refine AllReadyH.cons rfl (fun K hK => ?_) AllReadyH.nil
      go_simp
      refine (CW.out _).mono ?_
      rintro e w7 ⟨rfl, hb7⟩
      have hS7 := Below.trans hS9 (hb7.mono hS9.size)
      have hz7 := (hb7.block _ (by simp)).trans hz9
      refine hK.out _ _ (hS7) (fun hS => ?_)
      clear hK K
      try simp only [Act.put, List.getElem_toArray, List.getElem_cons_succ, List.getElem_cons_zero, List.setIfInBounds_toArray, List.set_cons_zero, List.set_cons_succ]
      refine wpAnyH_ready (rs := [7]) (by kernel_rfl) (by simp) ?_
      refine AllReadyH.cons rfl (fun K hK => ?_) AllReadyH.nil
      go_simp
      refine (CD.out _).mono ?_
      rintro e w8 ⟨rfl, hb8⟩
      have hS8 := Below.trans hS7 (hb8.mono hS7.size)
      have hz8 := (hb8.block _ (lt_of_heap hz7)).trans hz7
      refine hK.out _ _ (hS8) (fun hS => ?_)
      clear hK K
      try simp only [Act.put, List.getElem_toArray, List.getElem_cons_succ, List.getElem_cons_zero, List.setIfInBounds_toArray, List.set_cons_zero, List.set_cons_succ]
      have F7 := frozen7 hz8
      have C7 := cells7 (m := ⟨0, 0, 0, 0, 0, 0, ⟨#[]⟩⟩) hz8
      obtain ⟨z0, z1, z2, z3, z4, z5, z6⟩ := F7
      obtain ⟨d0, d1, d2, d3, d4, d5, d6⟩ := C7
      dsimp only at d0 d1 d2 d3 d4 d5 d6
      refine wpAnyH_ready (rs := [9]) (by kernel_rfl) (by simp) ?_
      refine AllReadyH.cons rfl (fun K hK => ?_) AllReadyH.nil
      go_simp
      have HF := forSt_old HP2.out HB2.out HX2.out hlt1 hS8 hq9.out hw9.out hz8 m0
      refine hK.out _ _ (HF.2) (fun hS => ?_)
      clear hK K
      try simp only [Act.put, List.getElem_toArray, List.getElem_cons_succ, List.getElem_cons_zero, List.setIfInBounds_toArray, List.set_cons_zero, List.set_cons_succ]
      refine wpAnyH_done (by kernel_rfl) ?_ _
      go_wp2_with fail
      go_meet
      exact ⟨W0.heap.size, rfl, Lib.hid HF.1⟩
  case rest =>
    obtain ⟨q, rfl, S3⟩ := hcut
    obtain ⟨y0, y1⟩ := cells2of S3.out.box
    go_wp2_with fail
    refine (P7.out _).mono ?_
    rintro e _ ⟨rfl, rfl⟩
    obtain ⟨w3, hw3⟩ : ∃ w3 : World, w3 = wc := ⟨_, rfl⟩
    rw [← hw3] at S3 y0 y1 ⊢
    clear hw3
    go_upto_block 0 with (fail)
    go_cut [31] (fun s31 wx => ∃ m', Hid (ForSt w1 p b r q xb id L E x0 x1 m' wx ∧ recvF id L m' = (none, L) ∧ m'.data.size ≤ 8206))
    case first =>
      have i3 := S3.out.pair.r.c0
      have hS3 := S3.out
      obtain ⟨d0, d1, d2, d3, d4, d5, d6⟩ := cells7 hS3.msg
      obtain ⟨z0, z1, z2, z3, z4, z5, z6⟩ := frozen7 hS3.msg
      clear hS3
      have hc : c7 = 0 ∨ c7 = 1 ∨ c7 = 2 ∨ c7 = 3 ∨ c7 = 4 ∨ c7 = 5 ∨ c7 = 6 := by omega
      clear r7
      have hmk : m0.kind = 1 := by rw [← HM0.out]; rfl
      have HK := Lib.hid hmk
      clear hmk
      rcases hc with rfl | rfl | rfl | rfl | rfl | rfl | rfl
      · obtain ⟨o8, ho8⟩ : ∃ o, id % 8 = o := ⟨_, rfl⟩
        have b0 : 0 ≤ o8 := by omega
        have b1 : o8 < 8 := by omega
        have hne : o8 + 1 ≠ id := by omega
        have HO := Lib.hid ho8
        have HNE := Lib.hid hne
        have et : id.tmod 8 = o8 := by rw [Int.tmod_eq_emod_of_nonneg (by omega), ho8]
        clear hne
        go_wp2_with fail
        go_meet
        exact ⟨_, Lib.hid ⟨S3.out.set 1 _ { m0 with partner := o8 + 1 } rfl, recv_out (.inr (.inl HNE.out)), sm0⟩⟩
      · go_wp2_with fail
        go_meet
        exact ⟨_, Lib.hid ⟨S3.out.put ⟨3, id, 1000, 2, 0, 7, ⟨#[]⟩⟩, recv_out (.inr (.inr (show (3 : Int) ≠ 1 ∧ (3 : Int) ≠ 2 by decide))), Nat.zero_le _⟩⟩
      · go_wp2_with fail
        go_meet
        exact ⟨_, Lib.hid ⟨S3.out.put ⟨4, id, 1000, 2, 7, 0, ⟨#[]⟩⟩, recv_out (.inr (.inr (show (4 : Int) ≠ 1 ∧ (4 : Int) ≠ 2 by decide))), Nat.zero_le _⟩⟩
      · go_wp2_with fail
        go_meet
        exact ⟨_, Lib.hid ⟨S3.out.set 0 _ { m0 with kind := 5 } rfl, recv_out (.inl (by simp [validM, ruleF])), sm0⟩⟩
      · go_wp2_with fail
        go_meet
        exact ⟨_, Lib.hid ⟨S3.out.set 3 _ { m0 with story := 65 } rfl, recv_out (.inl (by simp [validM, withinB])), sm0⟩⟩
      · go_wp2_with fail
        go_meet
        exact ⟨_, Lib.hid ⟨S3.out.set 2 _ { m0 with seq := -1 } rfl, recv_out (.inl (by simp [validM, withinB])), sm0⟩⟩
      · go_wp2_with fail
        go_meet
        exact ⟨_, Lib.hid ⟨S3.out.set 5 _ { m0 with version := -1 } rfl, recv_out (.inl (by simp [validM, isSumB, withinB])), sm0⟩⟩
    case rest =>
      obtain ⟨m', S4⟩ := hcut
      have hP := S4.out.1.pair
      have HR := Lib.hid S4.out.2.1
      have hsz := S4.out.2.2
      go_wp2_with fail
      obtain ⟨w4, hw4⟩ : ∃ w4 : World, w4 = wc := ⟨_, rfl⟩
      rw [← hw4] at S4 hP ⊢
      clear hw4
      refine (items_any hP.p).mono ?_
      rintro e w5 ⟨v5, rfl, hi5, hb5⟩
      have S5 := S4.out.1.next hb5
      obtain ⟨d0, d1, d2, d3, d4, d5, d6⟩ := cells7 S5.msg
      have HS5 := Lib.hid S5
      have HI5 := Lib.hid hi5
      have hb4 := Lib.hid hP.p.held.lt
      clear S5 hi5 hP
      go_wp2_with fail
      refine (HS5.out.pair.recvP (w0 := w1) HS5.out.below (HN1.out.below HS5.out.below) (HE1.out.below HS5.out.below) m' hsz HG.out.txt).mono ?_
      rintro e w6 ⟨v6, rfl, ha6, hP6, hB6, hg6⟩
      rw [HR.out] at ha6 hP6
      obtain rfl : v6 = .slice none 0 0 := ha6
      have hi6 := HI5.out.kept hg6 (fun k hk => by cases hk; exact hb4.out)
      have HP6 := Lib.hid hP6
      have HI6 := Lib.hid hi6
      clear hP6 hi6
      go_wp2_with fail
      refine (items_any HP6.out.p).mono ?_
      rintro e w7 ⟨v7, rfl, hi7, hb7⟩
      have hB7 := Below_then hB6 hb7
      have hi6 := HI6.out.below hb7
      go_wp2_with fail
      refine (sameItems_any hi6 hi7 (Nat.le_trans (itemsF_len L) (by decide))).mono ?_
      rintro e w8 ⟨rfl, hb8⟩
      have hB8 := Below_then hB7 hb8
      go_wp2_with fail
      go_ret
      exact ⟨rfl, Below_then HB1.out hB8⟩
end Go.Proofs.YtkpgadjhcnkadaaDoor
