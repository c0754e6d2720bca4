/- PartnerMatchesReference: the walk. -/
import Derived.Test.YtkpgadjhcnkadaaDoorIndPure
import Derived.Test.YtkpgadjhcnkadaaDoorTxPure2
import Derived.Test.YtkpgadjhcnkadaaDoorRefItems
import Derived.Test.YtkpgadjhcnkadaaDoorRow22b
set_option linter.unusedSimpArgs false
set_option linter.unusedVariables false
namespace Go.Proofs.YtkpgadjhcnkadaaDoor
open Go.RowKit

set_option maxRecDepth 100000 in
set_option maxHeartbeats 12800000 in
theorem match_any (a : Int) (A : Option Addr) (l c : Nat) (zs : List Six) (a0 a1 : Addr) (W : World) (hn : NibCells W) (he : ErrCells a0 a1 W) (h1 : -9223372036854775808 ≤ a) (h2 : a ≤ 9223372036854775807) (hz : SixIn W A l zs) :
    Calls Tryd.prog 3 #[.int .i64 a, .slice A l c] W fun e W' => e = .returned (.bool true) ∧ Below W.heap.size W W' := by
  obtain ⟨hzl, hlm, hcell, hzs⟩ := hz
  have hlm' : l ≤ 9223372036854775807 := by unfold maxLen at hlm; omega
  have CS := Lib.hid (sane22_any a0 a1 W hn he)
  have hN := Lib.hid hn
  have hE := Lib.hid he
  have hpr := pickI_range a 8 (by decide)
  obtain ⟨d, hd⟩ : ∃ d, pickI a 8 = d := ⟨_, rfl⟩
  rw [hd] at hpr
  have cp := fun W => pick22_any a 8 W h1 h2 (by decide) (by decide)
  rw [hd] at cp
  have CP := Lib.hid cp
  have l0 : 0 ≤ d := hpr.1
  have l1 : d < 8 := hpr.2
  have HCELL := Lib.hid hcell
  have HZS := Lib.hid hzs
  clear hd cp hpr hn he hzl hlm hcell hzs
  go_enter Tryd.func3, Tryd.ntmps3
  go_wp2_with fail
  refine (CS.out).mono ?_
  rintro e w1 ⟨rfl, hb1⟩
  go_wp2_with fail
  refine (CP.out _).mono ?_
  rintro e _ ⟨rfl, rfl⟩
  go_wp2_with fail
  refine (new_in (1 + d) _ (by omega) (by omega)).mono ?_
  rintro e w2 ⟨rfl, hp2, hb2, hs2⟩
  clear hs2
  have hB2 := Below_then hb1 hb2
  go_wp2_with fail
  refine (refNew_in (1 + d) _ (by omega) (by omega)).mono ?_
  rintro e w4 ⟨rfl, hr4, hb4⟩
  have hB4 := Below_then hB2 hb4
  have hT4 : PairAt W.heap.size (w1.heap.size + 1) w1.heap.size w2.heap.size (1 + d) [] [] w4 :=
    ⟨hp2.below hb4 hp2.lt hp2.held.lt, hr4 _ hB2.size, hb1.size, hB4.size⟩
  obtain ⟨r, hr⟩ : ∃ r, w2.heap.size = r := ⟨_, rfl⟩
  obtain ⟨b, hb⟩ : ∃ b, w1.heap.size = b := ⟨_, rfl⟩
  rw [hr, hb] at hT4
  rw [hr, hb]
  have HT4 := Lib.hid hT4
  clear hT4 hp2 hr4 hr hb hb1 hb2 hb4 hB2
  go_wp2_with fail
  go_loopw [9] (fun v9 wr => ∃ (i : Nat) (L : List (Int × Held)) (E : List Ent), v9 = .int .i64 i ∧ i ≤ l ∧ i ≤ 24 ∧ Hid (PairAt W.heap.size (b + 1) b r (1 + d) L E wr) ∧ Hid (Good L E i) ∧ Below W.heap.size W wr) (fun v9 _ => l - (intOf v9).toNat)
  case atStart => exact ⟨0, [], [], rfl, by omega, by omega, HT4, Lib.hid Good.nil, hB4⟩
  case round =>
    obtain ⟨i, L, E, rfl, hil, hi24, HS, HG, hB⟩ := hrel
    by_cases hlt : i < l
    · by_cases h24 : i < 24
      · have t0 : decide ((i : Int) < l) = true := by simp; omega
        have t1 : decide ((i : Int) < 24) = true := by simp; omega
        obtain ⟨bb, off, rfl, hbl, hc⟩ := HCELL.out (by omega)
        obtain ⟨z, hzi, c0, c1, c2', c3, c4, c5⟩ := hc i hlt
        have hok : z.Ok := HZS.out z (by rw [List.getElem?_eq_some_iff] at hzi; obtain ⟨hh, rfl⟩ := hzi; exact List.getElem_mem _)
        have x0 := (hB.cell (p := ⟨bb, off + i * 6, none⟩) hbl).trans c0
        have x1 := (hB.cell (p := ⟨bb, off + i * 6 + 1, none⟩) hbl).trans c1
        have x2 := (hB.cell (p := ⟨bb, off + i * 6 + 2, none⟩) hbl).trans c2'
        have x3 := (hB.cell (p := ⟨bb, off + i * 6 + 3, none⟩) hbl).trans c3
        have x4 := (hB.cell (p := ⟨bb, off + i * 6 + 4, none⟩) hbl).trans c4
        have x5 := (hB.cell (p := ⟨bb, off + i * 6 + 5, none⟩) hbl).trans c5
        have k1 : (0 : Int) ≤ i := by omega
        have k2 : (i : Int) < l := by omega
        have hlenE : E.length ≤ 1000 := by have := HG.out.len; omega
        obtain ⟨m, hm⟩ : ∃ m, buildF (1 + d) E z = m := ⟨_, rfl⟩
        have hmd : m.data.size ≤ 8206 := by rw [← hm]; exact buildF_data HG.out (1 + d) z
        have cb := fun W' (h : IsR W.heap.size r (1 + d) E W') => build_any h z hok hlenE (HG.out.ent)
        simp only [hm] at cb
        have CB := Lib.hid cb
        have HG2 := Lib.hid (HG.out.step (1 + d) m)
        have HAN := Lib.hid (HG.out.rel.recv (1 + d) m).1
        have HIT := Lib.hid HG2.out.rel.items
        have hlen2 : (recvR (1 + d) E m).2.length ≤ 1000 := by have := HG2.out.len; omega
        clear hm cb hok hzi c0 c1 c2' c3 c4 c5 hc
        go_wp2_with fail
        refine (CB.out _ HS.out.r).mono ?_
        rintro e w5 ⟨rfl, hb5⟩
        have hB5 := Below_then hB hb5
        have hT5 := HS.out.below hb5
        rw [show msgV m = .agg #[.int .i64 m.kind, .int .i64 m.partner, .int .i64 m.seq, .int .i64 m.story, .int .i64 m.base, .int .i64 m.version, .string m.data] from rfl]
        obtain ⟨w6, hw6⟩ : ∃ w6, w5.alloc (.cells #[.int .i64 m.kind, .int .i64 m.partner, .int .i64 m.seq, .int .i64 m.story, .int .i64 m.base, .int .i64 m.version, .string m.data] 33) = w6 := ⟨_, rfl⟩
        have hb6 : Below w5.heap.size w5 w6 := by rw [← hw6]; exact (Below.refl _ _).alloc (Nat.le_refl _) _
        have hB6 := Below_then hB5 hb6
        have hT6 := hT5.below hb6
        have m6 : w6.heap[w5.heap.size]? = some (.cells (msgCells m) 33 (0, 0)) := by rw [← hw6]; exact World.alloc_heap_new w5 _
        have hq1 := hT5.p.held.lt
        have hq3 := hT5.r.lt
        obtain ⟨q, hq⟩ : ∃ q, w5.heap.size = q := ⟨_, rfl⟩
        have hqW : W.heap.size ≤ q := by rw [← hq]; exact hB5.size
        have HW6 := Lib.hid hw6
        have HQ := Lib.hid hq
        rw [hq] at m6 hq1 hq3
        obtain ⟨y0, y1, y2, y3, y4, y5, y6⟩ := cells7 m6
        have HT6 := Lib.hid hT6
        have M6 := Lib.hid m6
        clear hT5 hT6 m6 x0 x1 x2 x3 x4 x5 hq hw6 hb6
        go_wp2_with fail
        rw [HQ.out, HW6.out]
        go_region_held3 (fun W' => W'.cell? ⟨q, 0, none⟩ = some (.int .i64 m.kind) ∧ W'.cell? ⟨q, 1, none⟩ = some (.int .i64 m.partner) ∧ W'.cell? ⟨q, 2, none⟩ = some (.int .i64 m.seq) ∧ W'.cell? ⟨q, 3, none⟩ = some (.int .i64 m.story) ∧ W'.cell? ⟨q, 4, none⟩ = some (.int .i64 m.base) ∧ W'.cell? ⟨q, 5, none⟩ = some (.int .i64 m.version) ∧ W'.cell? ⟨q, 6, none⟩ = some (.string m.data)) (first | go_keep | assumption)
          (first
            | (go_at_call 18; refine (HT6.out.drew.recvP (a0 := a0) (a1 := a1) (w0 := W) (below_drew hB6) (hN.out.below (below_drew hB6)) (hE.out.below (below_drew hB6)) m hmd HG.out.txt).mono ?_; rintro e w7 ⟨v7, rfl, ha7, hP7, hB7, hg7⟩; have m7 := (hg7.block q (lt_of_heap M6.out) (fun e => by have := Option.some.inj e; omega)).trans M6.out; have s7 := cells7 m7)
            | (go_at_call 19; refine (hP7.recvR (w0 := W) hB7 m hmd hlenE HG.out.ent).mono ?_; rintro e w8 ⟨v8, rfl, ha8, hP8, hB8, hg8⟩; have m8 := (hg8.block q (lt_of_heap m7) (fun e => by have := Option.some.inj e; omega)).trans m7; have s8 := cells7 m8; have ha7' := ha7.kept hg8 (fun k hk => by have hk := Option.some.inj hk; have hrl := HT6.out.drew.r.lt; omega); rw [← HAN.out] at ha8)
            | (go_at_call 17; refine (same_any ha7' ha8).mono ?_; rintro e w9 ⟨rfl, hb9⟩; have hP9 := hP8.below hb9; have hB9 := Below_then hB8 hb9; have m9 := (hb9.block q (lt_of_heap m8)).trans m8; have s9 := cells7 m9)
            | (go_at_call 21; refine (items_any hP9.p).mono ?_; rintro e w10 ⟨v10, rfl, hi10, hb10⟩; have hP10 := hP9.below hb10; have hB10 := Below_then hB9 hb10; have m10 := (hb10.block q (lt_of_heap m9)).trans m9; have s10 := cells7 m10)
            | (go_at_call 22; refine (refItems_any hP10.r hlen2).mono ?_; rintro e w11 ⟨v11, rfl, hi11, hb11⟩; have hP11 := hP10.below hb11; have hB11 := Below_then hB10 hb11; have hi10' := hi10.below hb11; rw [HIT.out] at hi10'; have m11 := (hb11.block q (lt_of_heap m10)).trans m10; have s11 := cells7 m11)
            | (go_at_call 20; refine (sameItems_any hi10' hi11 (Nat.le_trans (itemsR_len _) hlen2)).mono ?_; rintro e w12 ⟨rfl, hb12⟩; have hP12 := hP11.below hb12; have hB12 := Below_then hB11 hb12; have m12 := (hb12.block q (lt_of_heap m11)).trans m11; have s12 := cells7 m12))
        have HP12 := Lib.hid hP12
        go_wp2_with fail
        go_roundw
        case rel => exact ⟨i + 1, _, _, by go_num, by omega, by omega, HP12, HG2, hB12⟩
        case measure => simp [intOf]; omega
      · have t0 : decide ((i : Int) < l) = true := by simp; omega
        have t1 : decide ((i : Int) < 24) = false := by simp; omega
        go_wp2_with fail
        go_ret
        exact ⟨rfl, hB⟩
    · have t0 : decide ((i : Int) < l) = false := by simp; omega
      go_wp2_with fail
      go_ret
      exact ⟨rfl, hB⟩
end Go.Proofs.YtkpgadjhcnkadaaDoor
