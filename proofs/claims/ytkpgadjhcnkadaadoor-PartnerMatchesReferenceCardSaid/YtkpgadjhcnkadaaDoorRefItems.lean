/- copydeskref22.Items computes itemsR. -/
import Derived.Test.YtkpgadjhcnkadaaDoorKeep
import Derived.Test.YtkpgadjhcnkadaaDoorItems
import Derived.OrdersHeld
import Derived.Deep.RegionHeld
import Derived.Deep.RegionHeld3
set_option linter.unusedSimpArgs false
set_option linter.unusedVariables false
namespace Go.Proofs.YtkpgadjhcnkadaaDoor
open Go.RowKit

theorem itemsR_snoc {E : List Ent} {i : Nat} {e : Ent} (h : E[i]? = some e) : itemsR (E.take (i + 1)) = itemsR (E.take i) ++ (if e.has then [(e.story, e.text)] else []) := by
  rw [List.take_add_one, h]
  unfold itemsR
  rw [List.filter_append, List.map_append]
  congr 1
  cases hh : e.has <;> simp [hh]
theorem itemsR_len (E : List Ent) : (itemsR E).length ≤ E.length := by
  unfold itemsR
  rw [List.length_map]
  exact List.length_filter_le _ _

set_option maxRecDepth 100000 in
set_option maxHeartbeats 6400000 in
theorem refItems_any {B r : Nat} {id : Int} {E : List Ent} {w : World} (hr : IsR B r id E w) (hlen : E.length ≤ 1000) :
    Calls Tryd.prog 22 #[.pointer (some ⟨r, 0, none⟩)] w fun e w' => ∃ v, e = .returned v ∧ IsItems w.heap.size w' v (itemsR E) ∧ Below w.heap.size w w' := by
  obtain ⟨i0, hi, hz0, hz1, hz2⟩ := info_parts info_item
  obtain ⟨v, hrb, hrow⟩ := hr.row
  obtain ⟨n, hnE⟩ : ∃ n, E.length = n := ⟨_, rfl⟩
  rw [hnE] at hrow hlen
  obtain ⟨ao, cap, hvv⟩ : ∃ ao cap, v = .slice ao n cap := by
    rcases hrow.2 with ⟨h3, h0⟩ | ⟨g, cap, cur, h3, _⟩
    · exact ⟨none, 0, by rw [h3]; congr 1; omega⟩
    · exact ⟨_, cap, h3⟩
  subst hvv
  have hrlt : r < w.heap.size := by
    rcases Nat.lt_or_ge r w.heap.size with h' | h'
    · exact h'
    · simp [Array.getElem?_eq_none h'] at hrb
  have HROW := Lib.hid hrow
  have HN := Lib.hid hnE
  have HRB := Lib.hid hrb
  have hSz : ∀ i, i < n → ∃ e, E[i]? = some e := fun i hi => ⟨_, List.getElem?_eq_getElem (by omega)⟩
  have hend : itemsR (E.take n) = itemsR E := by rw [List.take_of_length_le (by omega)]
  have HEND := Lib.hid hend
  clear hrow hnE hr hrb hend
  go_enter Tryd.func22, Tryd.ntmps22
  go_wp2_with fail
  go_loopw [3, 4] (fun v3 v4 wr => ∃ (i : Nat), v4 = .int .i64 i ∧ i ≤ n ∧ Hid (IsItems w.heap.size wr v3 (itemsR (E.take i))) ∧ Below w.heap.size w wr) (fun _ v4 _ => n - (intOf v4).toNat)
  case atStart => exact ⟨0, rfl, by omega, Lib.hid (World.ownsRow_nil _ _ _ _), Below.refl _ _⟩
  case round =>
    obtain ⟨i, rfl, hin, HI, hB⟩ := hrel
    have r1 : wr.cell? ⟨r, 1, none⟩ = some (.slice ao n cap) := (hB.cell (p := ⟨r, 1, none⟩) hrlt).trans (Lib.cell_of_heap HRB.out 1)
    by_cases hlt : i < n
    · have t0 : decide ((i : Int) < n) = true := by simp; omega
      obtain ⟨e, he⟩ := hSz i hlt
      obtain ⟨g, rfl⟩ : ∃ g, ao = some ⟨g, 0, none⟩ := by
        rcases HROW.out.2 with ⟨h3, h0⟩ | ⟨g, cap', cur, h3, _⟩
        · omega
        · simp only [Value.slice.injEq] at h3
          exact ⟨g, h3.1⟩
      have hgl : g < w.heap.size := (HROW.out.lt g rfl).2
      have hat : ∀ W' : World, Below w.heap.size w W' → ∀ j, j < 4 → W'.cell? ⟨g, i * 4 + j, none⟩ = (entCells e)[j]? := fun W' hB j hj => by
        rw [hB.cell (p := ⟨g, i * 4 + j, none⟩) hgl, HROW.out.cellAt (i * 4 + j) (by omega), flat_at E i e he j hj]
      have a0 : wr.cell? ⟨g, i * 4, none⟩ = some (.int .i64 e.story) := hat wr hB 0 (by omega)
      have a2 : wr.cell? ⟨g, i * 4 + 2, none⟩ = some (.bool e.has) := hat wr hB 2 (by omega)
      have a3 : wr.cell? ⟨g, i * 4 + 3, none⟩ = some (.string e.text) := hat wr hB 3 (by omega)
      have k1 : (0 : Int) ≤ i := by omega
      have k2 : (i : Int) < n := by omega
      have hsn := itemsR_snoc he
      have hIl : (itemsR (E.take i)).length ≤ i := Nat.le_trans (itemsR_len _) (by rw [List.length_take]; omega)
      have HAT := Lib.hid hat
      clear hat
      cases hhas : e.has with
      | false =>
        rw [hhas] at hsn a2
        simp only [Bool.false_eq_true, if_false, List.append_nil] at hsn
        have HS := Lib.hid hsn
        clear hsn he hhas
        go_wp2_with fail
        go_roundw
        case rel => exact ⟨i + 1, by go_num, by omega, by rw [HS.out]; exact HI, hB⟩
        case measure => simp [intOf]; omega
      | true =>
        rw [hhas] at hsn a2
        simp only [if_true] at hsn
        have HS := Lib.hid hsn
        clear hsn he hhas
        go_wp2_with fail
        refine wp_region_held_drew (S := fun W' => Below w.heap.size w W') rfl ⟨hB.os, hB.tape, hB.output, hB.size, hB.block⟩ (fun hS0 => ?_)
        have hI2 : IsItems w.heap.size wr.drew u3 (itemsR (E.take i)) := HI.out
        obtain ⟨w2, hw2⟩ : ∃ w2, wr.drew = w2 := ⟨_, rfl⟩
        rw [hw2] at hS0 hI2 ⊢
        have hsz2 := hS0.size
        unfold IsItems at hI2
        obtain ⟨m, hm⟩ : ∃ m, (itemsR (E.take i)).length = m := ⟨_, rfl⟩
        rw [hm] at hI2 hIl
        have HM := Lib.hid hm
        clear hw2 hm HI r1 a0 a2 a3
        refine wpAnyH_take (i := 0) (v := ?v1) rfl (by kernel_rfl) (by kernel_rfl) (by kernel_rfl) (fun _ _ _ h => h) (Or.inl ⟨by rfl, ?hy1⟩) (by assumption) ?rest1
        case hy1 => intro w hSw; (try dsimp only at hSw); go_simp; try with_reducible rfl
        case rest1 =>
        try simp only [Act.put, List.getElem_toArray, List.getElem_cons_succ, List.getElem_cons_zero, List.setIfInBounds_toArray, List.set_cons_zero, List.set_cons_succ]
        refine wpAnyH_take (i := 1) (v := ?v2) rfl (by kernel_rfl) (by kernel_rfl) (by kernel_rfl) (fun _ _ _ h => h) (Or.inl ⟨by rfl, ?hy2⟩) (by assumption) ?rest2
        case hy2 => intro w hSw; (try dsimp only at hSw); go_simp; try with_reducible rfl
        case rest2 =>
        try simp only [Act.put, List.getElem_toArray, List.getElem_cons_succ, List.getElem_cons_zero, List.setIfInBounds_toArray, List.set_cons_zero, List.set_cons_succ]
        refine wpAnyH_take (i := 2) (v := ?v3) rfl (by kernel_rfl) (by kernel_rfl) (by kernel_rfl) (fun _ _ _ h => h) (Or.inl ⟨by rfl, ?hy3⟩) (by assumption) ?rest3
        case hy3 => intro w hSw; (try dsimp only at hSw); go_simp; try with_reducible rfl
        case rest3 =>
        try simp only [Act.put, List.getElem_toArray, List.getElem_cons_succ, List.getElem_cons_zero, List.setIfInBounds_toArray, List.set_cons_zero, List.set_cons_succ]
        refine wpAnyH_take (i := 3) (v := ?v4) rfl (by kernel_rfl) (by kernel_rfl) (by kernel_rfl) (fun _ _ _ h => h) (Or.inl ⟨by rfl, ?hy4⟩) (by assumption) ?rest4
        case hy4 => intro w hSw; (try dsimp only at hSw); go_simp; try with_reducible rfl
        case rest4 =>
        try simp only [Act.put, List.getElem_toArray, List.getElem_cons_succ, List.getElem_cons_zero, List.setIfInBounds_toArray, List.set_cons_zero, List.set_cons_succ]
        refine wpAnyH_take (i := 4) (v := ?v5) rfl (by kernel_rfl) (by kernel_rfl) (by kernel_rfl) (fun _ _ _ h => h) (Or.inl ⟨by rfl, ?hy5⟩) (by assumption) ?rest5
        case hy5 => intro w hSw; (try dsimp only at hSw); have r1 := (hSw.cell (p := ⟨r, 1, none⟩) hrlt).trans (Lib.cell_of_heap HRB.out 1); simp only [List.getElem?_toArray, List.getElem?_cons_zero, List.getElem?_cons_succ] at r1; go_simp; try with_reducible rfl
        case rest5 =>
        try simp only [Act.put, List.getElem_toArray, List.getElem_cons_succ, List.getElem_cons_zero, List.setIfInBounds_toArray, List.set_cons_zero, List.set_cons_succ]
        refine wpAnyH_take (i := 5) (v := ?v6) rfl (by kernel_rfl) (by kernel_rfl) (by kernel_rfl) (fun _ _ _ h => h) (Or.inl ⟨by rfl, ?hy6⟩) (by assumption) ?rest6
        case hy6 => intro w hSw; (try dsimp only at hSw); go_simp; try with_reducible rfl
        case rest6 =>
        try simp only [Act.put, List.getElem_toArray, List.getElem_cons_succ, List.getElem_cons_zero, List.setIfInBounds_toArray, List.set_cons_zero, List.set_cons_succ]
        refine wpAnyH_take (i := 6) (v := ?v7) rfl (by kernel_rfl) (by kernel_rfl) (by kernel_rfl) (fun _ _ _ h => h) (Or.inl ⟨by rfl, ?hy7⟩) (by assumption) ?rest7
        case hy7 => intro w hSw; (try dsimp only at hSw); go_simp; try with_reducible rfl
        case rest7 =>
        try simp only [Act.put, List.getElem_toArray, List.getElem_cons_succ, List.getElem_cons_zero, List.setIfInBounds_toArray, List.set_cons_zero, List.set_cons_succ]
        refine wpAnyH_take (i := 7) (v := ?v8) rfl (by kernel_rfl) (by kernel_rfl) (by kernel_rfl) (fun _ _ _ h => h) (Or.inl ⟨by rfl, ?hy8⟩) (by assumption) ?rest8
        case hy8 => intro w hSw; (try dsimp only at hSw); go_simp; try with_reducible rfl
        case rest8 =>
        try simp only [Act.put, List.getElem_toArray, List.getElem_cons_succ, List.getElem_cons_zero, List.setIfInBounds_toArray, List.set_cons_zero, List.set_cons_succ]
        refine wpAnyH_take (i := 8) (v := ?v9) rfl (by kernel_rfl) (by kernel_rfl) (by kernel_rfl) (fun _ _ _ h => h) (Or.inl ⟨by rfl, ?hy9⟩) (by assumption) ?rest9
        case hy9 => intro w hSw; (try dsimp only at hSw); have a0 : w.cell? ⟨g, i * 4, none⟩ = some (.int .i64 e.story) := HAT.out w hSw 0 (by omega); go_simp; try with_reducible rfl
        case rest9 =>
        try simp only [Act.put, List.getElem_toArray, List.getElem_cons_succ, List.getElem_cons_zero, List.setIfInBounds_toArray, List.set_cons_zero, List.set_cons_succ]
        refine wpAnyH_take (i := 9) (v := ?v10) rfl (by kernel_rfl) (by kernel_rfl) (by kernel_rfl) (fun _ _ _ h => h) (Or.inl ⟨by rfl, ?hy10⟩) (by assumption) ?rest10
        case hy10 => intro w hSw; (try dsimp only at hSw); go_simp; try with_reducible rfl
        case rest10 =>
        try simp only [Act.put, List.getElem_toArray, List.getElem_cons_succ, List.getElem_cons_zero, List.setIfInBounds_toArray, List.set_cons_zero, List.set_cons_succ]
        refine wpAnyH_take (i := 10) (v := ?v11) rfl (by kernel_rfl) (by kernel_rfl) (by kernel_rfl) (fun _ _ _ h => h) (Or.inl ⟨by rfl, ?hy11⟩) (by assumption) ?rest11
        case hy11 => intro w hSw; (try dsimp only at hSw); go_simp; try with_reducible rfl
        case rest11 =>
        try simp only [Act.put, List.getElem_toArray, List.getElem_cons_succ, List.getElem_cons_zero, List.setIfInBounds_toArray, List.set_cons_zero, List.set_cons_succ]
        refine wpAnyH_take (i := 11) (v := ?v12) rfl (by kernel_rfl) (by kernel_rfl) (by kernel_rfl) (fun _ _ _ h => h) (Or.inl ⟨by rfl, ?hy12⟩) (by assumption) ?rest12
        case hy12 => intro w hSw; (try dsimp only at hSw); go_simp; try with_reducible rfl
        case rest12 =>
        try simp only [Act.put, List.getElem_toArray, List.getElem_cons_succ, List.getElem_cons_zero, List.setIfInBounds_toArray, List.set_cons_zero, List.set_cons_succ]
        refine wpAnyH_take (i := 12) (v := ?v13) rfl (by kernel_rfl) (by kernel_rfl) (by kernel_rfl) (fun _ _ _ h => h) (Or.inl ⟨by rfl, ?hy13⟩) (by assumption) ?rest13
        case hy13 => intro w hSw; (try dsimp only at hSw); have r1 := (hSw.cell (p := ⟨r, 1, none⟩) hrlt).trans (Lib.cell_of_heap HRB.out 1); simp only [List.getElem?_toArray, List.getElem?_cons_zero, List.getElem?_cons_succ] at r1; go_simp; try with_reducible rfl
        case rest13 =>
        try simp only [Act.put, List.getElem_toArray, List.getElem_cons_succ, List.getElem_cons_zero, List.setIfInBounds_toArray, List.set_cons_zero, List.set_cons_succ]
        refine wpAnyH_take (i := 13) (v := ?v14) rfl (by kernel_rfl) (by kernel_rfl) (by kernel_rfl) (fun _ _ _ h => h) (Or.inl ⟨by rfl, ?hy14⟩) (by assumption) ?rest14
        case hy14 => intro w hSw; (try dsimp only at hSw); go_simp; try with_reducible rfl
        case rest14 =>
        try simp only [Act.put, List.getElem_toArray, List.getElem_cons_succ, List.getElem_cons_zero, List.setIfInBounds_toArray, List.set_cons_zero, List.set_cons_succ]
        refine wpAnyH_take (i := 14) (v := ?v15) rfl (by kernel_rfl) (by kernel_rfl) (by kernel_rfl) (fun _ _ _ h => h) (Or.inl ⟨by rfl, ?hy15⟩) (by assumption) ?rest15
        case hy15 => intro w hSw; (try dsimp only at hSw); go_simp; try with_reducible rfl
        case rest15 =>
        try simp only [Act.put, List.getElem_toArray, List.getElem_cons_succ, List.getElem_cons_zero, List.setIfInBounds_toArray, List.set_cons_zero, List.set_cons_succ]
        refine wpAnyH_take (i := 15) (v := ?v16) rfl (by kernel_rfl) (by kernel_rfl) (by kernel_rfl) (fun _ _ _ h => h) (Or.inl ⟨by rfl, ?hy16⟩) (by assumption) ?rest16
        case hy16 => intro w hSw; (try dsimp only at hSw); go_simp; try with_reducible rfl
        case rest16 =>
        try simp only [Act.put, List.getElem_toArray, List.getElem_cons_succ, List.getElem_cons_zero, List.setIfInBounds_toArray, List.set_cons_zero, List.set_cons_succ]
        refine wpAnyH_take (i := 16) (v := ?v17) rfl (by kernel_rfl) (by kernel_rfl) (by kernel_rfl) (fun _ _ _ h => h) (Or.inl ⟨by rfl, ?hy17⟩) (by assumption) ?rest17
        case hy17 => intro w hSw; (try dsimp only at hSw); have a3 : w.cell? ⟨g, i * 4 + 3, none⟩ = some (.string e.text) := HAT.out w hSw 3 (by omega); go_simp; try with_reducible rfl
        case rest17 =>
        try simp only [Act.put, List.getElem_toArray, List.getElem_cons_succ, List.getElem_cons_zero, List.setIfInBounds_toArray, List.set_cons_zero, List.set_cons_succ]
        refine wpAnyH_take (i := 17) (v := ?v18) rfl (by kernel_rfl) (by kernel_rfl) (by kernel_rfl) (fun _ _ _ h => h) (Or.inl ⟨by rfl, ?hy18⟩) (by assumption) ?rest18
        case hy18 => intro w hSw; (try dsimp only at hSw); go_simp; try with_reducible rfl
        case rest18 =>
        try simp only [Act.put, List.getElem_toArray, List.getElem_cons_succ, List.getElem_cons_zero, List.setIfInBounds_toArray, List.set_cons_zero, List.set_cons_succ]
        refine wpAnyH_ready (rs := [18]) (by kernel_rfl) (by simp) ?_
        refine AllReadyH.cons rfl (fun K hK => ?_) AllReadyH.nil
        go_simp
        have hS1 := hS0.alloc hS0.size (.cells #[.int .i64 e.story, .string e.text] 67)
        refine hK.out _ _ (hS1) (fun hS => ?_)
        clear hK K
        try simp only [Act.put, List.getElem_toArray, List.getElem_cons_succ, List.getElem_cons_zero, List.setIfInBounds_toArray, List.set_cons_zero, List.set_cons_succ]
        refine wpAnyH_ready (rs := [19]) (by kernel_rfl) (by simp) ?_
        refine AllReadyH.cons rfl (fun K hK => ?_) AllReadyH.nil
        refine step_append_lies _ (by rfl) _ _ 40 (by rfl) w.heap.size 67 i0 _ 2 24 Tryd.underlying40 hi hz0 hz1 hz2 rfl (by decide) u3 m ((itemsR (E.take i)).flatMap itemCells) (by rfl) (hI2.alloc _) ⟨w2.heap.size, 0, none⟩ 1 1 [.int .i64 e.story, .string e.text] (by rfl) (by rfl) (World.news_of_block (World.alloc_heap_new w2 _)) (by simp [Value.oneCell']) (by omega) (by unfold maxLen; omega) (by omega) (by simp; omega) (w2.heap.size + 1) (by simp) ?_
        intro g3 cap3 w3 hown' hgrow hloc hglt
        have hS2 := hS1.grown hgrow (by simp; omega) (fun k hk => (hI2.lt k hk).1)
        refine hK.out _ _ (hS2) (fun hS => ?_)
        clear hK K
        try simp only [Act.put, List.getElem_toArray, List.getElem_cons_succ, List.getElem_cons_zero, List.setIfInBounds_toArray, List.set_cons_zero, List.set_cons_succ]
        refine wpAnyH_take (i := 20) (v := ?v19) rfl (by kernel_rfl) (by kernel_rfl) (by kernel_rfl) (fun _ _ _ h => h) (Or.inl ⟨by rfl, ?hy19⟩) (by assumption) ?rest19
        case hy19 => intro w hSw; (try dsimp only at hSw); go_simp; try with_reducible rfl
        case rest19 =>
        try simp only [Act.put, List.getElem_toArray, List.getElem_cons_succ, List.getElem_cons_zero, List.setIfInBounds_toArray, List.set_cons_zero, List.set_cons_succ]
        refine wpAnyH_done (by kernel_rfl) ?_ _
        go_wp2_with fail
        go_roundw
        case rel =>
          refine ⟨i + 1, by go_num, by omega, Lib.hid ?_, hS2⟩
          rw [HS.out]
          unfold IsItems
          simpa [itemCells, HM.out] using hown'
        case measure => simp [intOf]; omega
    · have HIN := Lib.hid (show i = n by omega)
      have t0 : decide ((i : Int) < n) = false := by simp; omega
      go_wp2_with fail
      go_ret
      exact ⟨_, rfl, by have h := HI.out; rw [HIN.out, HEND.out] at h; exact h, hB⟩
end Go.Proofs.YtkpgadjhcnkadaaDoor
