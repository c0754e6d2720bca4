/- delta.places: the offsets of every string of eight bytes. -/
import Derived.Test.YtncbgbmgbokeoaaDoorCommon
import Derived.Maps.OwnRows
import Derived.Maps.Views
import Derived.Deep.AppendLies
import Derived.OrdersHeld
import Derived.Deep.RegionHeld3
import Derived.Deep.DrawnRows
namespace Go.Proofs.YtncbgbmgbokeoaaDoor
open Go.RowKit Go.ChangeShapes

theorem keyLaw : Go.Maps.Keyed Tryd.prog 9 := Go.Maps.string_keyed Tryd.underlying9
theorem zeroInts (w : World) : (zeroValue 85).run Tryd.prog w = .ok (.slice none 0 0) w := by kernel_rfl
theorem info_int : (Tryd.prog.info? 3).map (fun i => (i.zero, i.size, i.bytes)) = some (some (.int .i64 0), 1, 8) := by kernel_rfl
def rowInts : DataW Unit → List Int
  | .slice es _ => es.filterMap fun d => match d with | .lit (.int _ z) => some z | _ => none
  | _ => []
theorem rowInts_lits (q : IntKind) (zs : List Int) (sp : List (DataW Unit)) : rowInts (.slice (lits q zs) sp) = zs := by
  unfold rowInts lits
  induction zs with
  | nil => rfl
  | cons z zs ih => simp at ih ⊢; exact ih
theorem rowInts_datum {w : World} {base : Nat} {e : TypeId} {q : IntKind} {v : Value} {zs : List Int} (h : w.ownsInts base e q v zs) : rowInts (rowDatum q v zs) = zs := by
  rcases h.datum (H := Unit) with ⟨h1, rfl⟩ | h1
  · rw [h1]; rfl
  · rw [h1, rowInts_lits]
theorem ownsInts_stay {w w' : World} {base : Nat} {e : TypeId} {q : IntKind} {v : Value} {zs : List Int} (he : e ≠ 5) (h : w.ownsInts base e q v zs) (hs : ∀ j, j < w.heap.size → base ≤ j → (¬ ∃ cs fz, w.heap[j]? = some (.cells cs 5 fz)) → w'.heap[j]? = w.heap[j]?) : w'.ownsInts base e q v zs := by
  obtain ⟨⟨h0, h1⟩, h2⟩ := h
  refine ⟨⟨h0, ?_⟩, h2⟩
  rcases h1 with h3 | ⟨g, cap, cur, hv, hg, hh, hr⟩
  · exact .inl h3
  · have hgl : g < w.heap.size := by
      rcases Nat.lt_or_ge g w.heap.size with h' | h'
      · exact h'
      · simp [Array.getElem?_eq_none h'] at hh
    exact .inr ⟨g, cap, cur, hv, hg, (hs g hgl hg (fun ⟨cs, fz, hc⟩ => by rw [hh] at hc; simp only [Option.some.injEq, Obj.cells.injEq] at hc; exact he hc.2.1)).trans hh, hr⟩
theorem ownsGroups_stay {w w' : World} {P : Program} {k : TypeId} {base : Nat} {e : TypeId} {q : IntKind} {b n : Nat} {D : DataW Unit} (he : e ≠ 5) (h : w.ownsGroups P k base e q b n D) (hs : ∀ j, j < w.heap.size → b ≤ j → (¬ ∃ cs fz, w.heap[j]? = some (.cells cs 5 fz)) → w'.heap[j]? = w.heap[j]?) : w'.ownsGroups P k base e q b n D := by
  obtain ⟨es, clock, hb, F, hsz, rfl, hbb, hlen, hap⟩ := h
  have hlt : b < w.heap.size := by
    rcases Nat.lt_or_ge b w.heap.size with h' | h'
    · exact h'
    · simp [Array.getElem?_eq_none h'] at hb
  have hs' : ∀ j, j < w.heap.size → base ≤ j → (¬ ∃ cs fz, w.heap[j]? = some (.cells cs 5 fz)) → w'.heap[j]? = w.heap[j]? := fun j hj hj2 hn => hs j hj (by omega) hn
  obtain ⟨F1, hmap, _⟩ := F.stay (R' := rowElem w' base e q) (fun x _ z hz => by
    obtain ⟨zs, ho, rfl⟩ := rowElem_inv hz
    exact rowElem_mk (ownsInts_stay he ho hs'))
  refine ⟨es, clock, (hs b hlt (Nat.le_refl _) (fun ⟨cs, fz, hc⟩ => by rw [hb] at hc; cases hc)).trans hb, F1, hsz, by rw [hmap], hbb, fun x hx zs ho => ?_, hap⟩
  obtain ⟨y, hy⟩ := F.reads x hx
  obtain ⟨z, hz, _⟩ := WideElems.rd_val hy
  obtain ⟨zs', ho', _⟩ := rowElem_inv hz
  rw [ho.unique (ownsInts_stay he ho' hs')]
  exact hlen x hx zs' ho'

/-- The offsets below k at which the eight bytes of s stand. -/
def offsAt (old : ByteArray) (k : Nat) (s : ByteArray) : List Nat := (List.range k).filter fun i => decide (old.extract i (i + 8) = s)
theorem offsAt_succ (old : ByteArray) (k : Nat) (s : ByteArray) : offsAt old (k + 1) s = if old.extract k (k + 8) = s then offsAt old k s ++ [k] else offsAt old k s := by
  unfold offsAt
  rw [List.range_succ, List.filter_append]
  by_cases h : old.extract k (k + 8) = s <;> simp [h]
/-- What the map holds behind k rounds. -/
def IsPlaces (old : ByteArray) (k : Nat) (D : DataW Unit) : Prop := Go.Maps.IsMap D ∧ ∀ s : ByteArray, rowInts (D.atKey (.string s.data.toList) .nil) = (offsAt old k s).map Int.ofNat
theorem IsPlaces.zero (old : ByteArray) : IsPlaces old 0 (.map []) := ⟨⟨[], rfl⟩, fun _ => rfl⟩
theorem ba_of_list {a b : ByteArray} (h : a.data.toList = b.data.toList) : a = b := by
  cases a; cases b; simp at h; rw [h]
theorem IsPlaces.succ {old : ByteArray} {k : Nat} {D : DataW Unit} (h : IsPlaces old k D) {t : ByteArray} (ht : old.extract k (k + 8) = t) {w w1 : World} {base : Nat} {v v' : Value} {zs : List Int}
    (hat : D.atKey (.string t.data.toList) .nil = rowDatum .i64 v zs) (ho : w.ownsInts base 3 .i64 v zs) (ho' : w1.ownsInts base 3 .i64 v' (zs ++ [(k : Int)])) : IsPlaces old (k + 1) (D.put (.string t.data.toList) (rowDatum .i64 v' (zs ++ [(k : Int)]))) := by
  refine ⟨by obtain ⟨es, rfl⟩ := h.1; exact ⟨_, DataW.put_eq _ _ _⟩, fun s => ?_⟩
  rw [offsAt_succ, ht]
  by_cases e : t = s
  · subst e
    rw [if_pos rfl, Go.Maps.atKey_put_same h.1 (by simp [WideAt.IsKeyLit]), rowInts_datum ho']
    have := h.2 t
    rw [hat, rowInts_datum ho] at this
    rw [this]; simp
  · rw [if_neg e, Go.Maps.atKey_put_other (by intro e2; exact e (ba_of_list (by simpa using e2)).symm)]
    exact h.2 s

attribute [local go_sem ↓] Go.wp_at_zero Go.wp_at_succ
set_option linter.unusedSimpArgs false in
set_option maxRecDepth 100000 in
set_option maxHeartbeats 3200000 in
theorem places_any (old : ByteArray) (w : World) (hos : old.size ≤ 8192) :
    Calls Tryd.prog 37 #[.string old] w fun e w' => e = .returned (.map (some w.heap.size)) ∧ (∃ D, w'.ownsGroups Tryd.prog 9 (w.heap.size + 1) 3 .i64 w.heap.size (old.size - 7) D ∧ IsPlaces old (old.size - 7) D) ∧ Below w.heap.size w w' ∧ w.heap.size + 1 ≤ w'.heap.size := by
  have hmm := @run_makeMap Tryd.prog
  obtain ⟨i0, hi, hz0, hz1, hz2⟩ := info_parts info_int
  go_enter Tryd.func37, Tryd.ntmps37
  go_wp2_with fail
  go_loopw [4] (fun v4 wr => ∃ (k : Nat) (D : DataW Unit), v4 = .int .i64 k ∧ k ≤ old.size - 7 ∧ wr.ownsGroups Tryd.prog 9 (w.heap.size + 1) 3 .i64 w.heap.size k D ∧ Hid (IsPlaces old k D) ∧ Below w.heap.size w wr ∧ w.heap.size + 1 ≤ wr.heap.size) (fun v4 _ => old.size - (intOf v4).toNat)
  case atStart => exact ⟨0, .map [], rfl, by omega, World.ownsGroups_made _ _ _ _ _, Lib.hid (IsPlaces.zero _), (Below.refl _ _).alloc (Nat.le_refl _) _, by simp⟩
  case round =>
    obtain ⟨k, D, rfl, hk, hown, HD, hB, hws⟩ := hrel
    by_cases hlt : k + 8 ≤ old.size
    · have t0 : decide ((k : Int) + 8 ≤ old.size) = true := by simp; omega
      have j1 : (0 : Int) ≤ k := by omega
      have j2 : (k : Int) ≤ (k : Int) + 8 := by omega
      have j3 : (k : Int) + 8 ≤ old.size := by omega
      obtain ⟨t, ht⟩ : ∃ t, old.extract k (k + 8) = t := ⟨_, rfl⟩
      have hts : t.size = 8 := by rw [← ht]; simp; omega
      have HT := Lib.hid ht
      have e1 : old.extract (k : Int).toNat ((k : Int) + 8).toNat = t := by rw [← ht]; congr 1
      have e2 : old.extract k ((k : Int) + 8).toNat = t := by rw [← ht]; congr 1
      have ew : IntKind.i64.wrap ((k : Int) + 8) = (k : Int) + 8 := by unfold IntKind.wrap; simp [IntKind.bits, IntKind.signed]; omega
      have hkey : keyOf Tryd.prog 9 (.string t) = some (.string t.data.toList) := WideMaps.keyOf_string_mk Tryd.underlying9 (by unfold maxLen; omega)
      go_wp2_with fail
      have hTT : True := trivial
      refine wp_region_held (S := fun _ => True) rfl ?_
      obtain ⟨W0, hW0⟩ : ∃ W0 : World, ({ wr with drawn := wr.drawn + 1 } : World) = W0 := ⟨_, rfl⟩
      rw [hW0]
      have hown0 : W0.ownsGroups Tryd.prog 9 (w.heap.size + 1) 3 .i64 w.heap.size k D := ownsGroups_stay (by decide) hown (fun j _ _ _ => by rw [← hW0])
      have hB0 : Below w.heap.size w W0 := by rw [← hW0]; exact ⟨hB.os, hB.tape, hB.output, hB.size, hB.block⟩
      have hws0 : w.heap.size + 1 ≤ W0.heap.size := by rw [← hW0]; exact hws
      clear hW0 hown hB hws
      refine wpAnyH_take (i := 0) (v := ?v1) rfl (by kernel_rfl) (by kernel_rfl) (by kernel_rfl) (fun _ _ _ h => h) (Or.inl ⟨by rfl, ?hy1⟩) (by assumption) ?rest1
      case hy1 => intro w hSw; (try dsimp only at hSw); go_simp; try with_reducible rfl
      case rest1 =>
      try simp only [Act.put, List.getElem_toArray, List.getElem_cons_succ, List.getElem_cons_zero, List.setIfInBounds_toArray, List.set_cons_zero, List.set_cons_succ]
      refine wpAnyH_take (i := 1) (v := ?v2) rfl (by kernel_rfl) (by kernel_rfl) (by kernel_rfl) (fun _ _ _ h => h) (Or.inl ⟨by rfl, ?hy2⟩) (by assumption) ?rest2
      case hy2 => intro w hSw; (try dsimp only at hSw); go_simp; try with_reducible rfl
      case rest2 =>
      try simp only [Act.put, List.getElem_toArray, List.getElem_cons_succ, List.getElem_cons_zero, List.setIfInBounds_toArray, List.set_cons_zero, List.set_cons_succ]
      refine wpAnyH_take (i := 2) (v := ?v3) rfl (by kernel_rfl) (by kernel_rfl) (by kernel_rfl) (fun _ _ _ h => h) (Or.inl ⟨by rfl, ?hy3⟩) (by assumption) ?rest3
      case hy3 => intro w hSw; (try dsimp only at hSw); go_simp; try with_reducible rfl
      case rest3 =>
      try simp only [Act.put, List.getElem_toArray, List.getElem_cons_succ, List.getElem_cons_zero, List.setIfInBounds_toArray, List.set_cons_zero, List.set_cons_succ]
      refine wpAnyH_take (i := 3) (v := ?v4) rfl (by kernel_rfl) (by kernel_rfl) (by kernel_rfl) (fun _ _ _ h => h) (Or.inl ⟨by rfl, ?hy4⟩) (by assumption) ?rest4
      case hy4 => intro w hSw; (try dsimp only at hSw); go_simp; try with_reducible rfl
      case rest4 =>
      try simp only [Act.put, List.getElem_toArray, List.getElem_cons_succ, List.getElem_cons_zero, List.setIfInBounds_toArray, List.set_cons_zero, List.set_cons_succ]
      refine wpAnyH_take (i := 4) (v := ?v5) rfl (by kernel_rfl) (by kernel_rfl) (by kernel_rfl) (fun _ _ _ h => h) (Or.inl ⟨by rfl, ?hy5⟩) (by assumption) ?rest5
      case hy5 => intro w hSw; (try dsimp only at hSw); go_simp; try with_reducible rfl
      case rest5 =>
      try simp only [Act.put, List.getElem_toArray, List.getElem_cons_succ, List.getElem_cons_zero, List.setIfInBounds_toArray, List.set_cons_zero, List.set_cons_succ]
      refine wpAnyH_take (i := 5) (v := ?v6) rfl (by kernel_rfl) (by kernel_rfl) (by kernel_rfl) (fun _ _ _ h => h) (Or.inl ⟨by rfl, ?hy6⟩) (by assumption) ?rest6
      case hy6 => intro w hSw; (try dsimp only at hSw); go_simp; try with_reducible rfl
      case rest6 =>
      try simp only [Act.put, List.getElem_toArray, List.getElem_cons_succ, List.getElem_cons_zero, List.setIfInBounds_toArray, List.set_cons_zero, List.set_cons_succ]
      refine wpAnyH_take (i := 6) (v := ?v7) rfl (by kernel_rfl) (by kernel_rfl) (by kernel_rfl) (fun _ _ _ h => h) (Or.inl ⟨by rfl, ?hy7⟩) (by assumption) ?rest7
      case hy7 => intro w hSw; (try dsimp only at hSw); go_simp; try with_reducible rfl
      case rest7 =>
      try simp only [Act.put, List.getElem_toArray, List.getElem_cons_succ, List.getElem_cons_zero, List.setIfInBounds_toArray, List.set_cons_zero, List.set_cons_succ]
      refine wpAnyH_take (i := 7) (v := ?v8) rfl (by kernel_rfl) (by kernel_rfl) (by kernel_rfl) (fun _ _ _ h => h) (Or.inl ⟨by rfl, ?hy8⟩) (by assumption) ?rest8
      case hy8 => intro w hSw; (try dsimp only at hSw); go_simp; try with_reducible rfl
      case rest8 =>
      try simp only [Act.put, List.getElem_toArray, List.getElem_cons_succ, List.getElem_cons_zero, List.setIfInBounds_toArray, List.set_cons_zero, List.set_cons_succ]
      refine wpAnyH_take (i := 8) (v := ?v9) rfl (by kernel_rfl) (by kernel_rfl) (by kernel_rfl) (fun _ _ _ h => h) (Or.inl ⟨by rfl, ?hy9⟩) (by assumption) ?rest9
      case hy9 => intro w hSw; (try dsimp only at hSw); go_simp; try with_reducible rfl
      case rest9 =>
      try simp only [Act.put, List.getElem_toArray, List.getElem_cons_succ, List.getElem_cons_zero, List.setIfInBounds_toArray, List.set_cons_zero, List.set_cons_succ]
      refine wpAnyH_take (i := 9) (v := ?v10) rfl (by kernel_rfl) (by kernel_rfl) (by kernel_rfl) (fun _ _ _ h => h) (Or.inl ⟨by rfl, ?hy10⟩) (by assumption) ?rest10
      case hy10 => intro w hSw; (try dsimp only at hSw); go_simp; try with_reducible rfl
      case rest10 =>
      try simp only [Act.put, List.getElem_toArray, List.getElem_cons_succ, List.getElem_cons_zero, List.setIfInBounds_toArray, List.set_cons_zero, List.set_cons_succ]
      refine wpAnyH_take (i := 10) (v := ?v11) rfl (by kernel_rfl) (by kernel_rfl) (by kernel_rfl) (fun _ _ _ h => h) (Or.inl ⟨by rfl, ?hy11⟩) (by assumption) ?rest11
      case hy11 => intro w hSw; (try dsimp only at hSw); go_simp; try with_reducible rfl
      case rest11 =>
      try simp only [Act.put, List.getElem_toArray, List.getElem_cons_succ, List.getElem_cons_zero, List.setIfInBounds_toArray, List.set_cons_zero, List.set_cons_succ]
      refine wpAnyH_take (i := 11) (v := ?v12) rfl (by kernel_rfl) (by kernel_rfl) (by kernel_rfl) (fun _ _ _ h => h) (Or.inl ⟨by rfl, ?hy12⟩) (by assumption) ?rest12
      case hy12 => intro w hSw; (try dsimp only at hSw); go_simp; try with_reducible rfl
      case rest12 =>
      try simp only [Act.put, List.getElem_toArray, List.getElem_cons_succ, List.getElem_cons_zero, List.setIfInBounds_toArray, List.set_cons_zero, List.set_cons_succ]
      refine wpAnyH_take (i := 13) (v := ?v13) rfl (by kernel_rfl) (by kernel_rfl) (by kernel_rfl) (fun _ _ _ h => h) (Or.inl ⟨by rfl, ?hy13⟩) (by assumption) ?rest13
      case hy13 => intro w hSw; (try dsimp only at hSw); go_simp; try with_reducible rfl
      case rest13 =>
      try simp only [Act.put, List.getElem_toArray, List.getElem_cons_succ, List.getElem_cons_zero, List.setIfInBounds_toArray, List.set_cons_zero, List.set_cons_succ]
      refine wpAnyH_ready (rs := [12, 14]) (by kernel_rfl) (by simp) ?_
      refine AllReadyH.cons rfl (fun K hK => ?_) (AllReadyH.cons rfl (fun K hK => ?_) AllReadyH.nil)
      · obtain ⟨v, zs, hrun, hat, hoi, hzl, hback⟩ := hown0.at keyLaw Tryd.underlying83 (zeroInts W0) (by unfold maxLen; omega) hkey
        go_simp
        refine hK.out _ _ (trivial) (fun hS => ?_)
        clear hK K
        try simp only [Act.put, List.getElem_toArray, List.getElem_cons_succ, List.getElem_cons_zero, List.setIfInBounds_toArray, List.set_cons_zero, List.set_cons_succ]
        refine wpAnyH_ready (rs := [14]) (by kernel_rfl) (by simp) ?_
        refine AllReadyH.cons rfl (fun K hK => ?_) AllReadyH.nil
        go_simp
        refine hK.out _ _ (trivial) (fun hS => ?_)
        clear hK K
        try simp only [Act.put, List.getElem_toArray, List.getElem_cons_succ, List.getElem_cons_zero, List.setIfInBounds_toArray, List.set_cons_zero, List.set_cons_succ]
        refine wpAnyH_ready (rs := [15]) (by kernel_rfl) (by simp) ?_
        refine AllReadyH.cons rfl (fun K hK => ?_) AllReadyH.nil
        refine step_append_lies _ (by rfl) _ _ 85 (by rfl) (w.heap.size + 1) 3 i0 (.int .i64 0) 1 8 Tryd.underlying85 hi hz0 hz1 hz2 rfl (by decide) v zs.length (zs.map (Value.int .i64)) (by rfl) (hoi.1.alloc _) ⟨W0.heap.size, 0, none⟩ 1 1 [.int .i64 k] (by rfl) (by rfl) (cell_one_new _ _ _) (ints_oneCell .i64 [(k : Int)]) (by omega) (by unfold maxLen; omega) (by omega) (by simp; omega) (W0.heap.size + 1) (by simp) ?_
        intro g cap w1 hown' hgrow hloc hglt
        refine hK.out _ _ (trivial) (fun hS => ?_)
        clear hK K
        try simp only [Act.put, List.getElem_toArray, List.getElem_cons_succ, List.getElem_cons_zero, List.setIfInBounds_toArray, List.set_cons_zero, List.set_cons_succ]
        have hall := (World.grownBy_alloc W0 (.cells #[.int .i64 k] 3) v.ownBlock).trans hgrow
        have happ := hoi.appended hown' (WalkArith.wf_i64 (by omega))
        obtain ⟨w2, hrun2, hown2, hgrow2⟩ := hback w1 _ _ hall happ (by simp; omega) (hloc.imp (fun h => h.symm) (fun h => ⟨g, rfl, by omega⟩))
        refine wpAnyH_ready (rs := [16]) (by kernel_rfl) (by simp) ?_
        refine AllReadyH.cons rfl (fun K hK => ?_) AllReadyH.nil
        go_simp
        refine hK.out _ _ (trivial) (fun hS => ?_)
        clear hK K
        try simp only [Act.put, List.getElem_toArray, List.getElem_cons_succ, List.getElem_cons_zero, List.setIfInBounds_toArray, List.set_cons_zero, List.set_cons_succ]
        refine wpAnyH_done (by kernel_rfl) ?_ _
        go_wp2_with fail
        go_roundw
        case rel =>
          refine ⟨k + 1, _, by go_num, by omega, hown2, Lib.hid (HD.out.succ HT.out hat hoi happ), hB0.groups hoi hall hgrow2 hB0.size (Nat.le_succ _) (Nat.le_refl _), Nat.le_trans hws0 (Nat.le_trans hall.size hgrow2.size)⟩
        case measure => simp [intOf]; omega
      · go_simp
        refine hK.out _ _ (trivial) (fun hS => ?_)
        clear hK K
        try simp only [Act.put, List.getElem_toArray, List.getElem_cons_succ, List.getElem_cons_zero, List.setIfInBounds_toArray, List.set_cons_zero, List.set_cons_succ]
        obtain ⟨W1, hW1⟩ : ∃ W1, W0.alloc (.cells #[.int .i64 k] 3) = W1 := ⟨_, rfl⟩
        have hown1 : W1.ownsGroups Tryd.prog 9 (w.heap.size + 1) 3 .i64 w.heap.size k D := ownsGroups_stay (by decide) hown0 (fun j hj _ _ => by rw [← hW1]; exact Below.heap_alloc W0 _ j hj)
        have hB1 : Below w.heap.size w W1 := by rw [← hW1]; exact hB0.alloc hB0.size _
        have hsz1 : W1.heap.size = W0.heap.size + 1 := by rw [← hW1]; simp
        have hnew : ∀ j u, [Value.int .i64 (k : Int)][j]? = some u → W1.cell? ((⟨W0.heap.size, 0, none⟩ : Addr).add j) = some u := by rw [← hW1]; exact cell_one_new W0 (.int .i64 k) 3
        rw [hW1]
        obtain ⟨v, zs, hrun, hat, hoi, hzl, hback⟩ := hown1.at keyLaw Tryd.underlying83 (zeroInts W1) (by unfold maxLen; omega) hkey
        refine wpAnyH_ready (rs := [12]) (by kernel_rfl) (by simp) ?_
        refine AllReadyH.cons rfl (fun K hK => ?_) AllReadyH.nil
        go_simp
        refine hK.out _ _ (trivial) (fun hS => ?_)
        clear hK K
        try simp only [Act.put, List.getElem_toArray, List.getElem_cons_succ, List.getElem_cons_zero, List.setIfInBounds_toArray, List.set_cons_zero, List.set_cons_succ]
        refine wpAnyH_ready (rs := [15]) (by kernel_rfl) (by simp) ?_
        refine AllReadyH.cons rfl (fun K hK => ?_) AllReadyH.nil
        refine step_append_lies _ (by rfl) _ _ 85 (by rfl) (w.heap.size + 1) 3 i0 (.int .i64 0) 1 8 Tryd.underlying85 hi hz0 hz1 hz2 rfl (by decide) v zs.length (zs.map (Value.int .i64)) (by rfl) hoi.1 ⟨W0.heap.size, 0, none⟩ 1 1 [.int .i64 k] (by rfl) (by rfl) hnew (ints_oneCell .i64 [(k : Int)]) (by omega) (by unfold maxLen; omega) (by omega) (by omega) W1.heap.size (by rfl) ?_
        intro g cap w1 hown' hgrow hloc hglt
        refine hK.out _ _ (trivial) (fun hS => ?_)
        clear hK K
        try simp only [Act.put, List.getElem_toArray, List.getElem_cons_succ, List.getElem_cons_zero, List.setIfInBounds_toArray, List.set_cons_zero, List.set_cons_succ]
        have hall := hgrow
        have happ := hoi.appended hown' (WalkArith.wf_i64 (by omega))
        obtain ⟨w2, hrun2, hown2, hgrow2⟩ := hback w1 _ _ hall happ (by simp; omega) (hloc.imp (fun h => h.symm) (fun h => ⟨g, rfl, by omega⟩))
        refine wpAnyH_ready (rs := [16]) (by kernel_rfl) (by simp) ?_
        refine AllReadyH.cons rfl (fun K hK => ?_) AllReadyH.nil
        go_simp
        refine hK.out _ _ (trivial) (fun hS => ?_)
        clear hK K
        try simp only [Act.put, List.getElem_toArray, List.getElem_cons_succ, List.getElem_cons_zero, List.setIfInBounds_toArray, List.set_cons_zero, List.set_cons_succ]
        refine wpAnyH_done (by kernel_rfl) ?_ _
        go_wp2_with fail
        go_roundw
        case rel =>
          refine ⟨k + 1, _, by go_num, by omega, hown2, Lib.hid (HD.out.succ HT.out hat hoi happ), hB1.groups hoi hall hgrow2 hB1.size (Nat.le_succ _) (Nat.le_refl _), Nat.le_trans (by omega) (Nat.le_trans hall.size hgrow2.size)⟩
        case measure => simp [intOf]; omega
    · have t0 : decide ((k : Int) + 8 ≤ old.size) = false := by simp; omega
      obtain rfl : k = old.size - 7 := by omega
      go_wp2_with fail
      go_ret
      exact ⟨rfl, ⟨D, hown, HD.out⟩, hB, hws⟩
end Go.Proofs.YtncbgbmgbokeoaaDoor
