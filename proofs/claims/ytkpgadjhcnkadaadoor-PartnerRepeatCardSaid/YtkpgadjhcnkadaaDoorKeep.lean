/- copydeskref22.keep computes keepF. -/
import Derived.Test.YtkpgadjhcnkadaaDoorRef22
import Derived.Deep.AppendLies
import Derived.OwnWalk
import Derived.Deep.QuietTactic
import Derived.BigQuiet
set_option linter.unusedSimpArgs false
set_option linter.unusedVariables false
namespace Go.Proofs.YtkpgadjhcnkadaaDoor
open Go.RowKit

theorem info_entry : (Tryd.prog.info? 59).map (fun i => (i.zero, i.size, i.bytes)) = some (some (.agg #[.int .i64 0, .int .i64 0, .bool false, .string .empty]), 4, 40) := by kernel_rfl
theorem keep_step (x e : Ent) (D : List Ent) (done : Bool) : keepGo x (e :: D) done = (if done = false ∧ x.story ≤ e.story then [x] else []) ++ ((if e.story ≠ x.story then [e] else []) ++ keepGo x D (done || decide (x.story ≤ e.story))) := rfl
theorem own_or' (u : Value) : u.ownBlock = Option.none ∨ u.ownBlock ≠ Option.none := by cases u.ownBlock <;> simp
/-- What keep has made so far: the list K at v, the box of x. -/
structure KeepW (x : Ent) (w : World) (K : List Ent) (v : Value) (W : World) : Prop where
  row : W.ownsRow (w.heap.size + 1) 59 4 v K.length (K.flatMap entCells)
  below : Below w.heap.size w W
  size : w.heap.size + 1 ≤ W.heap.size
  box : W.heap[w.heap.size]? = some (.cells #[.int .i64 x.story, .int .i64 x.seq, .bool x.has, .string x.text] 59 (0, 0))
theorem KeepW.push {x q : Ent} {w W W3 : World} {v : Value} {K : List Ent} (h : KeepW x w K v W) {o : Obj} {g cap : Nat} {L : List Value} (hL : L = entCells q)
    (hown : W3.ownsRow (w.heap.size + 1) 59 4 (.slice (some ⟨g, 0, none⟩) (K.length + 1) cap) (K.length + 1) (K.flatMap entCells ++ L))
    (hgrow : (W.alloc o).grownBy W3 v.ownBlock) : KeepW x w (K ++ [q]) (.slice (some ⟨g, 0, none⟩) (K.length + 1) cap) W3 := by
  subst hL
  have hal := h.below.alloc h.below.size o
  have hs := h.size
  refine ⟨by simpa using hown, hal.grown hgrow (by simp; omega) (fun k hk => by have := (h.row.lt k hk).1; omega), ?_, ?_⟩
  · have := hgrow.size; simp at this; omega
  · have h1 : (W.alloc o).heap[w.heap.size]? = some (.cells #[.int .i64 x.story, .int .i64 x.seq, .bool x.has, .string x.text] 59 (0, 0)) := by
      rw [← h.box]
      exact Below.heap_alloc _ _ _ (by omega)
    rw [← h1]
    exact hgrow.block _ (by simp; omega) (fun hk => by have := (h.row.lt _ hk.symm).1; omega)
theorem KeepW.drewN {x : Ent} {w W : World} {v : Value} {K : List Ent} (h : KeepW x w K v W) (k : Nat) : KeepW x w K v (W.drewN k) := ⟨h.row, ⟨h.below.os, h.below.tape, h.below.output, h.below.size, h.below.block⟩, h.size, h.box⟩
theorem drop_at {E : List Ent} {i : Nat} {e : Ent} (h : E[i]? = some e) : E.drop i = e :: E.drop (i + 1) := by
  rw [List.getElem?_eq_some_iff] at h
  obtain ⟨h1, h2⟩ := h
  rw [List.drop_eq_getElem_cons h1, h2]

theorem keep_done {B r : Nat} {id : Int} {E : List Ent} {x : Ent} {w W : World} {K : List Ent} {v v0 : Value} (hge : B ≤ r) (hrlt : r < w.heap.size) (hBw : B ≤ w.heap.size) (hrb : w.heap[r]? = some (.cells #[.int .i64 id, v0] 57 (0, 0)))
    (hv : keepF E x = K) (h : KeepW x w K v W) : IsR B r id (keepF E x) (W.setCell ⟨r, 1, none⟩ v) := by
  rw [hv]
  have hb := (h.below.block r hrlt).trans hrb
  refine ⟨hge, v, ?_, ?_⟩
  · rw [Go.heap_setCell_same _ _ _ _ _ _ hb]
    rfl
  · obtain ⟨h1, h2⟩ := ownsRow_setCell_below h.row (a := ⟨r, 1, none⟩) (by simp only; omega) v
    refine ⟨h1, ?_⟩
    rcases h2 with h2 | ⟨g, cap, cur, hv, hg, hh⟩
    · exact Or.inl h2
    · exact Or.inr ⟨g, cap, cur, hv, by omega, hh⟩
theorem keep_grown {r : Nat} {x : Ent} {w W : World} {K : List Ent} {v : Value} (hrlt : r < w.heap.size) (h : KeepW x w K v W) : w.grownBy (W.setCell ⟨r, 1, none⟩ v) (some r) :=
  ⟨h.below.os, h.below.tape, h.below.output, by rw [World.size_setCell]; exact h.below.size, fun j hj hne => by
    rw [Below.heap_setCell _ _ _ _ (by intro e; exact hne (by rw [e]))]
    exact h.below.block j hj⟩
set_option maxRecDepth 100000 in
set_option maxHeartbeats 6400000 in
theorem refKeep_any {B r : Nat} {id : Int} {E : List Ent} {w : World} (hr : IsR B r id E w) (x : Ent) (hlen : E.length ≤ 1000) (hBw : B ≤ w.heap.size) :
    Calls Tryd.prog 37 #[.pointer (some ⟨r, 0, none⟩), entV x] w fun e w' => e = .returned (.tuple #[]) ∧ IsR B r id (keepF E x) w' ∧ w.grownBy w' (some r) := by
  obtain ⟨i0, hi, hz0, hz1, hz2⟩ := info_parts info_entry
  obtain ⟨v, hrb, hrow⟩ := hr.row
  have hge := hr.ge
  obtain ⟨n, hnE⟩ : ∃ n, E.length = n := ⟨_, rfl⟩
  rw [hnE] at hrow hlen
  obtain ⟨ao, cap, hvv⟩ : ∃ ao cap, v = .slice ao n cap := by
    rcases hrow.2 with ⟨h3, h0⟩ | ⟨g, cap, cur, h3, _⟩
    · exact ⟨none, 0, by rw [h3]; congr 1; omega⟩
    · exact ⟨_, cap, h3⟩
  subst hvv
  have hrlt : r < w.heap.size := by
    rcases Nat.lt_or_ge r w.heap.size with h' | h'
    · exact h'
    · simp [Array.getElem?_eq_none h'] at hrb
  have HROW := Lib.hid hrow
  have HN := Lib.hid hnE
  have HRB := Lib.hid hrb
  obtain ⟨wA, hA⟩ : ∃ wA, w.alloc (.cells #[.int .i64 x.story, .int .i64 x.seq, .bool x.has, .string x.text] 59) = wA := ⟨_, rfl⟩
  have hst : KeepW x w [] (.slice none 0 0) wA := ⟨World.ownsRow_nil _ _ _ _, by rw [← hA]; exact (Below.refl _ _).alloc (Nat.le_refl _) _, by rw [← hA]; simp, by rw [← hA]; exact World.alloc_heap_new w _⟩
  have hSz : ∀ i, i < n → ∃ e, E[i]? = some e := fun i hi => ⟨_, List.getElem?_eq_getElem (by omega)⟩
  have HST := Lib.hid hst
  have HA := Lib.hid hA
  clear hrow hnE hr hrb hst hA
  unfold entV
  go_enter Tryd.func37, Tryd.ntmps37
  go_wp2_with fail
  rw [HA.out]
  obtain ⟨bx, hbx⟩ : ∃ bx, w.heap.size = bx := ⟨_, rfl⟩
  rw [hbx]
  have HBX := Lib.hid hbx
  clear hbx
  go_loopw [4, 5, 6] (fun v4 v5 v6 wr => ∃ (i : Nat) (done : Bool) (K : List Ent), v6 = .int .i64 i ∧ v5 = .bool done ∧ i ≤ n ∧ K.length ≤ i + 1 ∧ Hid (done = false → K.length ≤ i) ∧ Hid (keepGo x E false = K ++ keepGo x (E.drop i) done) ∧ Hid (KeepW x w K v4 wr)) (fun _ _ v6 _ => n - (intOf v6).toNat)
  case atStart => exact ⟨0, false, [], rfl, rfl, by omega, by simp, Lib.hid (fun _ => Nat.le_refl _), Lib.hid rfl, HST⟩
  case round =>
    obtain ⟨i, done, K, rfl, rfl, hi', hKl, HKL, HV, HS⟩ := hrel
    have BX := fun (K' : List Ent) (v' : Value) (W' : World) (h : KeepW x w K' v' W') (j : Nat) => (show W'.cell? ⟨bx, j, none⟩ = (#[Value.int .i64 x.story, .int .i64 x.seq, .bool x.has, .string x.text] : Array Value)[j]? from Lib.cell_of_heap (by rw [← HBX.out]; exact h.box) j)
    have BXh := Lib.hid BX
    have R1h := Lib.hid (fun (K' : List Ent) (v' : Value) (W' : World) (h : KeepW x w K' v' W') => (show W'.cell? ⟨r, 1, none⟩ = some (.slice ao n cap) from (h.below.cell (p := ⟨r, 1, none⟩) hrlt).trans (Lib.cell_of_heap HRB.out 1)))
    clear BX
    have b0_0 := BXh.out _ _ _ HS.out 0
    have b0_1 := BXh.out _ _ _ HS.out 1
    have b0_2 := BXh.out _ _ _ HS.out 2
    have b0_3 := BXh.out _ _ _ HS.out 3
    simp only [List.getElem?_toArray, List.getElem?_cons_zero, List.getElem?_cons_succ] at b0_0 b0_1 b0_2 b0_3
    have r0 := R1h.out _ _ _ HS.out
    by_cases hlt : i < n
    · have t0 : decide ((i : Int) < n) = true := by simp; omega
      obtain ⟨e, he⟩ := hSz i hlt
      obtain ⟨g, rfl⟩ : ∃ g, ao = some ⟨g, 0, none⟩ := by
        rcases HROW.out.2 with ⟨h3, h0⟩ | ⟨g, cap', cur, h3, _⟩
        · omega
        · simp only [Value.slice.injEq] at h3
          exact ⟨g, h3.1⟩
      have hgl : g < w.heap.size := (HROW.out.lt g rfl).2
      have hat : ∀ W' : World, Below w.heap.size w W' → ∀ j, j < 4 → W'.cell? ⟨g, i * 4 + j, none⟩ = (entCells e)[j]? := fun W' hB j hj => by
        rw [hB.cell (p := ⟨g, i * 4 + j, none⟩) hgl, HROW.out.cellAt (i * 4 + j) (by omega), flat_at E i e he j hj]
      have HAT := Lib.hid hat
      clear hat
      have a0_0 : wr.cell? ⟨g, i * 4, none⟩ = some (.int .i64 e.story) := HAT.out _ HS.out.below 0 (by omega)
      have a0_1 : wr.cell? ⟨g, i * 4 + 1, none⟩ = some (.int .i64 e.seq) := HAT.out _ HS.out.below 1 (by omega)
      have a0_2 : wr.cell? ⟨g, i * 4 + 2, none⟩ = some (.bool e.has) := HAT.out _ HS.out.below 2 (by omega)
      have a0_3 : wr.cell? ⟨g, i * 4 + 3, none⟩ = some (.string e.text) := HAT.out _ HS.out.below 3 (by omega)
      have k1 : (0 : Int) ≤ i := by omega
      have k2 : (i : Int) < n := by omega
      have hks := HV.out
      rw [drop_at he, keep_step] at hks
      have HK := Lib.hid hks
      clear hks he hlt
      cases done with
      | true =>
        by_cases hq : e.story = x.story
        · have t2 : (e.story != x.story) = false := by simp [hq]
          have HQ := Lib.hid hq
          clear hq
          go_wp2_with fail
          go_quiet (fail)
          go_wp2_with fail
          go_quiet (fail)
          go_wp2_with fail
          go_roundw
          case rel => exact ⟨i + 1, true, K, by go_num, rfl, by omega, by omega, Lib.hid (fun h => by cases h), Lib.hid (by have := HK.out; rw [if_neg (by simp), if_neg (by simp [HQ.out])] at this; simpa using this), Lib.hid (HS.out.drewN _)⟩
          case measure => simp [intOf]; omega
        · have t2 : (e.story != x.story) = true := by simp [hq]
          have HQ := Lib.hid hq
          clear hq
          go_wp2_with fail
          go_quiet (fail)
          go_wp2_with fail
          go_quiet (fail)
          have hS := HS.out
          have hrow := hS.row
          have hsz := hS.size
          go_wp2_with (at_builtin; refine wpList_append_lies _ rfl _ _ 55 rfl (w.heap.size + 1) 59 i0 _ 4 40 Tryd.underlying55 hi hz0 hz1 hz2 rfl (by decide) _ _ _ rfl (hrow.alloc _) ⟨wr.heap.size, 0, none⟩ 1 1 [.int .i64 e.story, .int .i64 e.seq, .bool e.has, .string e.text] rfl rfl (World.news_of_block (World.alloc_heap_new wr _)) (by simp [Value.oneCell']) (by omega) (by unfold maxLen; omega) (by omega) (by simp; omega) (wr.heap.size + 1) (by simp) ?_; intro g3 cap3 w3 hown' hgrow hloc hglt)
          have hS3 := (hS.drewN _).push (q := e) rfl hown' hgrow
          go_roundw
          case rel => exact ⟨i + 1, true, K ++ [e], by go_num, rfl, by omega, by simp; omega, Lib.hid (fun h => by cases h), Lib.hid (by have := HK.out; rw [if_neg (by simp), if_pos HQ.out] at this; simpa using this), Lib.hid hS3⟩
          case measure => simp [intOf]; omega
      | false =>
        by_cases hle : x.story ≤ e.story
        · have t3 : decide (x.story ≤ e.story) = true := by simpa using hle
          have HLE := Lib.hid hle
          clear hle
          go_wp2_with fail
          go_quiet (fail)
          have hS := HS.out
          have hrow := hS.row
          have hsz := hS.size
          go_wp2_with (at_builtin; refine wpList_append_lies _ rfl _ _ 55 rfl (w.heap.size + 1) 59 i0 _ 4 40 Tryd.underlying55 hi hz0 hz1 hz2 rfl (by decide) _ _ _ rfl (hrow.alloc _) ⟨wr.heap.size, 0, none⟩ 1 1 [.int .i64 x.story, .int .i64 x.seq, .bool x.has, .string x.text] rfl rfl (World.news_of_block (World.alloc_heap_new wr _)) (by simp [Value.oneCell']) (by omega) (by unfold maxLen; omega) (by omega) (by simp; omega) (wr.heap.size + 1) (by simp) ?_; intro g3 cap3 w3 hown' hgrow hloc hglt)
          have hS3 := (hS.drewN _).push (q := x) rfl hown' hgrow
          obtain ⟨v5, hv5⟩ : ∃ v5, Value.slice (some ⟨g3, 0, none⟩) (K.length + 1) cap3 = v5 := ⟨_, rfl⟩
          rw [hv5] at hS3
          rw [hv5]
          clear hv5 hown' hgrow
          obtain ⟨K4, hK4⟩ : ∃ K4, K ++ [x] = K4 := ⟨_, rfl⟩
          have hK4l : K4.length ≤ i + 1 := by have := HKL.out (by simp); rw [← hK4]; simp; omega
          rw [hK4] at hS3
          have HK4 := Lib.hid hK4
          clear hK4
          have HS3 := Lib.hid hS3
          have b3_0 := BXh.out _ _ _ HS3.out 0
          have b3_1 := BXh.out _ _ _ HS3.out 1
          have b3_2 := BXh.out _ _ _ HS3.out 2
          have b3_3 := BXh.out _ _ _ HS3.out 3
          simp only [List.getElem?_toArray, List.getElem?_cons_zero, List.getElem?_cons_succ] at b3_0 b3_1 b3_2 b3_3
          have r3 := R1h.out _ _ _ HS3.out
          have a3_0 : w3.cell? ⟨g, i * 4, none⟩ = some (.int .i64 e.story) := HAT.out _ HS3.out.below 0 (by omega)
          have a3_1 : w3.cell? ⟨g, i * 4 + 1, none⟩ = some (.int .i64 e.seq) := HAT.out _ HS3.out.below 1 (by omega)
          have a3_2 : w3.cell? ⟨g, i * 4 + 2, none⟩ = some (.bool e.has) := HAT.out _ HS3.out.below 2 (by omega)
          have a3_3 : w3.cell? ⟨g, i * 4 + 3, none⟩ = some (.string e.text) := HAT.out _ HS3.out.below 3 (by omega)
          by_cases hq : e.story = x.story
          · have t2 : (e.story != x.story) = false := by simp [hq]
            have HQ := Lib.hid hq
            clear hq hS3
            go_wp2_with fail
            go_quiet (fail)
            go_wp2_with fail
            go_roundw
            case rel => exact ⟨i + 1, true, K4, by go_num, by simp, by omega, by omega, Lib.hid (fun h => by cases h), Lib.hid (by rw [← HK4.out]; have := HK.out; rw [if_pos (by simp [HLE.out]), if_neg (by simp [HQ.out])] at this; simpa [HLE.out] using this), Lib.hid (HS3.out.drewN _)⟩
            case measure => simp [intOf]; omega
          · have t2 : (e.story != x.story) = true := by simp [hq]
            have HQ := Lib.hid hq
            clear hq hS3
            go_wp2_with fail
            go_quiet (fail)
            have hS4 := HS3.out
            have hrow4 := hS4.row
            have hsz4 := hS4.size
            go_wp2_with (at_builtin; refine wpList_append_lies _ rfl _ _ 55 rfl (w.heap.size + 1) 59 i0 _ 4 40 Tryd.underlying55 hi hz0 hz1 hz2 rfl (by decide) _ _ _ rfl (hrow4.alloc _) ⟨w3.heap.size, 0, none⟩ 1 1 [.int .i64 e.story, .int .i64 e.seq, .bool e.has, .string e.text] rfl rfl (World.news_of_block (World.alloc_heap_new w3 _)) (by simp [Value.oneCell']) (by omega) (by unfold maxLen; omega) (by omega) (by simp; omega) (w3.heap.size + 1) (by simp) ?_; intro g5 cap5 w5 hown5 hgrow5 hloc5 hglt5)
            have hS5 := (hS4.drewN _).push (q := e) rfl hown5 hgrow5
            go_roundw
            case rel => exact ⟨i + 1, true, K4 ++ [e], by go_num, by simp, by omega, by simp; omega, Lib.hid (fun h => by cases h), Lib.hid (by rw [← HK4.out]; have := HK.out; rw [if_pos (by simp [HLE.out]), if_pos HQ.out] at this; simpa [HLE.out] using this), Lib.hid hS5⟩
            case measure => simp [intOf]; omega
        · have t3 : decide (x.story ≤ e.story) = false := by simpa using hle
          have hq : ¬ e.story = x.story := by omega
          have t2 : (e.story != x.story) = true := by simp [hq]
          have HQ := Lib.hid hq
          have HLE := Lib.hid hle
          clear hle hq
          go_wp2_with fail
          go_quiet (fail)
          go_wp2_with fail
          go_quiet (fail)
          have hS := HS.out
          have hrow := hS.row
          have hsz := hS.size
          go_wp2_with (at_builtin; refine wpList_append_lies _ rfl _ _ 55 rfl (w.heap.size + 1) 59 i0 _ 4 40 Tryd.underlying55 hi hz0 hz1 hz2 rfl (by decide) _ _ _ rfl (hrow.alloc _) ⟨wr.heap.size, 0, none⟩ 1 1 [.int .i64 e.story, .int .i64 e.seq, .bool e.has, .string e.text] rfl rfl (World.news_of_block (World.alloc_heap_new wr _)) (by simp [Value.oneCell']) (by omega) (by unfold maxLen; omega) (by omega) (by simp; omega) (wr.heap.size + 1) (by simp) ?_; intro g3 cap3 w3 hown' hgrow hloc hglt)
          have hS3 := (hS.drewN _).push (q := e) rfl hown' hgrow
          go_roundw
          case rel => exact ⟨i + 1, false, K ++ [e], by go_num, rfl, by omega, by simp; omega, Lib.hid (fun _ => by have := HKL.out (by simp); simp; omega), Lib.hid (by have h1 := HLE.out; have := HK.out; rw [if_neg (by simp; omega), if_pos HQ.out, decide_eq_false (by omega)] at this; simpa using this), Lib.hid hS3⟩
          case measure => simp [intOf]; omega
    · obtain rfl : i = n := by omega
      have t0 : decide ((i : Int) < i) = false := by simp
      have hS := HS.out
      have hdr : keepGo x E false = K ++ keepGo x [] done := by rw [HV.out, List.drop_of_length_le (by have := HN.out; omega)]
      have HD := Lib.hid hdr
      clear hdr
      cases done with
      | true =>
        obtain ⟨ao2, cap2, hvv⟩ : ∃ ao cap, u4 = .slice ao K.length cap := by
          rcases hS.row.2 with ⟨h3, h0⟩ | ⟨g, cap, cur, h3, _⟩
          · exact ⟨none, 0, by rw [h3, h0]⟩
          · exact ⟨_, cap, h3⟩
        subst hvv
        have hb := (hS.below.block r hrlt).trans HRB.out
        have f0 := Lib.cell_of_heap hb 1
        have z0 := Lib.frozen_of_heap hb 1
        go_wp2_with fail
        exact bodyPost_end (results_none Tryd.results37 _ _ _) rfl ⟨rfl, keep_done hge hrlt hBw HRB.out (by have := HD.out; simpa [keepF, keepGo] using this) hS, keep_grown hrlt hS⟩
      | false =>
        have hrow := hS.row
        have hsz := hS.size
        go_wp2_with (at_builtin; refine wpList_append_lies _ rfl _ _ 55 rfl (w.heap.size + 1) 59 i0 _ 4 40 Tryd.underlying55 hi hz0 hz1 hz2 rfl (by decide) _ _ _ rfl (hrow.alloc _) ⟨wr.heap.size, 0, none⟩ 1 1 [.int .i64 x.story, .int .i64 x.seq, .bool x.has, .string x.text] rfl rfl (World.news_of_block (World.alloc_heap_new wr _)) (by simp [Value.oneCell']) (by omega) (by unfold maxLen; omega) (by omega) (by simp; omega) (wr.heap.size + 1) (by simp) ?_; intro g3 cap3 w3 hown' hgrow hloc hglt; have hS3 := hS.push (q := x) rfl hown' hgrow; have hb := (hS3.below.block r hrlt).trans HRB.out; have f0 := Lib.cell_of_heap hb 1; have z0 := Lib.frozen_of_heap hb 1)
        exact bodyPost_end (results_none Tryd.results37 _ _ _) rfl ⟨rfl, keep_done hge hrlt hBw HRB.out (by have := HD.out; simpa [keepF, keepGo] using this) hS3, keep_grown hrlt hS3⟩
end Go.Proofs.YtkpgadjhcnkadaaDoor
