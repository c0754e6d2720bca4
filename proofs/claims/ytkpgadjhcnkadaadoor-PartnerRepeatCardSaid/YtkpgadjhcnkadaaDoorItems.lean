/- partner.Items computes itemsF. partner.Items at nil: no items. copydeskref22.SameMessages at equal answers. copydeskref22.SameItems at equal lists. -/
import Derived.Test.YtkpgadjhcnkadaaDoorPartner
import Derived.Test.YtkpgadjhcnkadaaDoorPartnerPure
import Derived.Deep.AppendLies
import Derived.OwnWalk
import Derived.Test.YtkpgadjhcnkadaaDoorRecvFns
import Derived.Deep.QuietTactic
import Derived.BigQuiet
import Derived.Laws.OwnMore
set_option linter.unusedSimpArgs false
set_option linter.unusedVariables false
namespace Go.Proofs.YtkpgadjhcnkadaaDoor
open Go.RowKit

def itemCells (x : Int × ByteArray) : List Value := [.int .i64 x.1, .string x.2]
/-- The slice v of items, of the call's own from block B on. -/
def IsItems (B : Nat) (w : World) (v : Value) (L : List (Int × ByteArray)) : Prop := w.ownsRow B 67 2 v L.length (L.flatMap itemCells)
theorem info_item : (Tryd.prog.info? 67).map (fun i => (i.zero, i.size, i.bytes)) = some (some (.agg #[.int .i64 0, .string .empty]), 2, 24) := by kernel_rfl
/-- The items of the first n stories. -/
def itemsTo (l : List (Int × Held)) (n : Nat) : List (Int × ByteArray) := (List.range n).filterMap fun (i : Nat) => if (mapAt l ((i : Int) + 1)).has then some ((i : Int) + 1, (mapAt l ((i : Int) + 1)).text) else none
theorem itemsTo_succ (l : List (Int × Held)) (n : Nat) : itemsTo l (n + 1) = itemsTo l n ++ (if (mapAt l ((n : Int) + 1)).has then [((n : Int) + 1, (mapAt l ((n : Int) + 1)).text)] else []) := by
  unfold itemsTo
  rw [List.range_succ, List.filterMap_append]
  congr 1
  cases h : (mapAt l ((n : Int) + 1)).has <;> simp [h]
theorem itemsTo_len (l : List (Int × Held)) (n : Nat) : (itemsTo l n).length ≤ n := by
  unfold itemsTo
  exact Nat.le_trans (List.length_filterMap_le _ _) (by simp)

theorem own_or (u : Value) : u.ownBlock = Option.none ∨ u.ownBlock ≠ Option.none := by cases u.ownBlock <;> simp

set_option maxRecDepth 100000 in
set_option maxHeartbeats 3200000 in
theorem items_any {p b : Nat} {id : Int} {l : List (Int × Held)} {w : World} (hp : IsP p b id l w) :
    Calls Tryd.prog 21 #[.pointer (some ⟨p, 0, none⟩)] w fun e w' => ∃ v, e = .returned v ∧ IsItems w.heap.size w' v (itemsF l) ∧ Below w.heap.size w w' := by
  obtain ⟨i0, hi, hz0, hz1, hz2⟩ := info_parts info_item
  have hplt := hp.lt
  have hblt := hp.held.lt
  have HP := Lib.hid hp
  clear hp
  go_enter Tryd.func21, Tryd.ntmps21
  go_wp2_with fail
  go_loopw [3, 7] (fun v3 v7 wr => ∃ (n : Nat), v7 = .int .i64 n ∧ n ≤ 64 ∧ wr.ownsRow w.heap.size 67 2 v3 (itemsTo l n).length ((itemsTo l n).flatMap itemCells) ∧ Below w.heap.size w wr) (fun _ v7 _ => 64 - (intOf v7).toNat)
  case atStart => exact ⟨0, rfl, by omega, World.ownsRow_nil _ _ _ _, Below.refl _ _⟩
  case round =>
    obtain ⟨n, rfl, hn, hrow, hB⟩ := hrel
    have hlen := itemsTo_len l n
    by_cases hlt : n < 64
    · have t0 : decide ((n : Int) < 64) = true := by simp; omega
      obtain ⟨h, hh⟩ : ∃ h, mapAt l ((n : Int) + 1) = h := ⟨_, rfl⟩
      have ct := text_any (HP.out.below hB hplt hblt) ((n : Int) + 1)
      have hsu := itemsTo_succ l n
      rw [hh] at ct hsu
      have CT := Lib.hid ct
      have HSU := Lib.hid hsu
      clear ct hsu hh
      cases hhas : h.has with
      | false =>
        have hs := HSU.out
        rw [hhas] at hs
        simp only [Bool.false_eq_true, if_false, List.append_nil] at hs
        have HS := Lib.hid hs
        clear hs
        go_wp2_with fail
        refine (CT.out).mono ?_
        rintro e w2 ⟨rfl, hb2⟩
        rw [hhas]
        go_wp2_with fail
        go_roundw
        case rel => exact ⟨n + 1, by go_num, by omega, by rw [HS.out]; exact hrow.kept (row := Option.none) ⟨hb2.os, hb2.tape, hb2.output, hb2.size, fun j hj _ => hb2.block j hj⟩ (own_or _), hB.trans (hb2.mono hB.size)⟩
        case measure => simp [intOf]; omega
      | true =>
        have hs := HSU.out
        rw [hhas] at hs
        simp only [if_true] at hs
        have HS := Lib.hid hs
        clear hs
        go_wp2_with fail
        refine (CT.out).mono ?_
        rintro e w2 ⟨rfl, hb2⟩
        rw [hhas]
        have hrow2 := hrow.kept (row := Option.none) (w' := w2) ⟨hb2.os, hb2.tape, hb2.output, hb2.size, fun j hj _ => hb2.block j hj⟩ (own_or _)
        have hB2 := hB.trans (hb2.mono hB.size)
        have hsz2 := hB2.size
        go_wp2_with (at_builtin; refine wpList_append_lies _ rfl _ _ 40 rfl w.heap.size 67 i0 _ 2 24 Tryd.underlying40 hi hz0 hz1 hz2 rfl (by decide) _ _ _ rfl (hrow2.alloc _) ⟨w2.heap.size, 0, none⟩ 1 1 [.int .i64 ((n : Int) + 1), .string h.text] rfl rfl (World.news_of_block (World.alloc_heap_new w2 _)) (by simp [Value.oneCell']) (by omega) (by unfold maxLen; omega) (by omega) (by simp; omega) (w2.heap.size + 1) (by simp) ?_; intro g cap w3 hown' hgrow hloc hglt)
        go_roundw
        case rel =>
          refine ⟨n + 1, by go_num, by omega, ?_, ?_⟩
          · rw [HS.out]
            simpa [itemCells] using hown'
          · exact (hB2.alloc hB2.size _).grown hgrow (by simp; omega) (fun k hk => (hrow2.lt k hk).1)
        case measure => simp [intOf]; omega
    · obtain rfl : n = 64 := by omega
      have t0 : decide ((64 : Int) < 64) = false := by decide
      go_wp2_with fail
      go_ret
      exact ⟨_, rfl, hrow, hB⟩
end Go.Proofs.YtkpgadjhcnkadaaDoor
set_option linter.unusedSimpArgs false
set_option linter.unusedVariables false
namespace Go.Proofs.YtkpgadjhcnkadaaDoor
open Go.RowKit

set_option maxRecDepth 100000 in
set_option maxHeartbeats 3200000 in
theorem items_nil (w : World) :
    Calls Tryd.prog 21 #[.pointer none] w fun e w' => e = .returned (.slice none 0 0) ∧ w = w' := by
  go_enter Tryd.func21, Tryd.ntmps21
  go_wp2_with fail
  go_loopw [3, 7] (fun v3 v7 wr => ∃ (n : Nat), v7 = .int .i64 n ∧ n ≤ 64 ∧ v3 = .slice none 0 0 ∧ wr = w) (fun _ v7 _ => 64 - (intOf v7).toNat)
  case atStart => exact ⟨0, rfl, by omega, rfl, rfl⟩
  case round =>
    obtain ⟨n, rfl, hn, rfl, rfl⟩ := hrel
    by_cases hlt : n < 64
    · have t0 : decide ((n : Int) < 64) = true := by simp; omega
      have CT := Lib.hid (text_nil ((n : Int) + 1) wr)
      go_wp2_with fail
      refine (CT.out).mono ?_
      rintro e w2 ⟨rfl, rfl⟩
      go_wp2_with fail
      go_roundw
      case rel => exact ⟨n + 1, by go_num, by omega, rfl, trivial⟩
      case measure => simp [intOf]; omega
    · obtain rfl : n = 64 := by omega
      have t0 : decide ((64 : Int) < 64) = false := by decide
      go_wp2_with fail
      go_ret
      exact ⟨rfl, rfl⟩
end Go.Proofs.YtkpgadjhcnkadaaDoor
set_option linter.unusedSimpArgs false
set_option linter.unusedVariables false
namespace Go.Proofs.YtkpgadjhcnkadaaDoor
open Go.RowKit

set_option maxRecDepth 100000 in
set_option maxHeartbeats 3200000 in
theorem sameNone_any (w : World) :
    Calls Tryd.prog 17 #[.slice none 0 0, .slice none 0 0] w fun e w' => e = .returned (.bool true) ∧ w = w' := by
  go_enter Tryd.func17, Tryd.ntmps17
  go_wp2_with fail
  refine wp_loop_rounds 1 ?_
  rw [rounds_succ]
  go_wp2_with fail
  go_ret
  exact ⟨rfl, rfl⟩
set_option maxRecDepth 100000 in
set_option maxHeartbeats 3200000 in
theorem sameOne_any (a : Msg) (g1 g2 c1 c2 : Nat) (w : World) (h1 : w.heap[g1]? = some (.cells (msgCells a) 33 (0, 0))) (h2 : w.heap[g2]? = some (.cells (msgCells a) 33 (0, 0))) :
    Calls Tryd.prog 17 #[.slice (some ⟨g1, 0, none⟩) 1 c1, .slice (some ⟨g2, 0, none⟩) 1 c2] w fun e w' => e = .returned (.bool true) ∧ ∃ n, w' = w.drewN n := by
  have a0 : w.cell? ⟨g1, 0, none⟩ = some (.int .i64 a.kind) := Lib.cell_of_heap h1 0
  have a1 : w.cell? ⟨g1, 1, none⟩ = some (.int .i64 a.partner) := Lib.cell_of_heap h1 1
  have a2 : w.cell? ⟨g1, 2, none⟩ = some (.int .i64 a.seq) := Lib.cell_of_heap h1 2
  have a3 : w.cell? ⟨g1, 3, none⟩ = some (.int .i64 a.story) := Lib.cell_of_heap h1 3
  have a4 : w.cell? ⟨g1, 4, none⟩ = some (.int .i64 a.base) := Lib.cell_of_heap h1 4
  have a5 : w.cell? ⟨g1, 5, none⟩ = some (.int .i64 a.version) := Lib.cell_of_heap h1 5
  have a6 : w.cell? ⟨g1, 6, none⟩ = some (.string a.data) := Lib.cell_of_heap h1 6
  have b0 : w.cell? ⟨g2, 0, none⟩ = some (.int .i64 a.kind) := Lib.cell_of_heap h2 0
  have b1 : w.cell? ⟨g2, 1, none⟩ = some (.int .i64 a.partner) := Lib.cell_of_heap h2 1
  have b2 : w.cell? ⟨g2, 2, none⟩ = some (.int .i64 a.seq) := Lib.cell_of_heap h2 2
  have b3 : w.cell? ⟨g2, 3, none⟩ = some (.int .i64 a.story) := Lib.cell_of_heap h2 3
  have b4 : w.cell? ⟨g2, 4, none⟩ = some (.int .i64 a.base) := Lib.cell_of_heap h2 4
  have b5 : w.cell? ⟨g2, 5, none⟩ = some (.int .i64 a.version) := Lib.cell_of_heap h2 5
  have b6 : w.cell? ⟨g2, 6, none⟩ = some (.string a.data) := Lib.cell_of_heap h2 6
  clear h1 h2
  go_enter Tryd.func17, Tryd.ntmps17
  go_wp2_with fail
  refine wp_loop_rounds 2 ?_
  rw [rounds_succ]
  go_wp2_with fail
  go_quiet (fail)
  go_wp2_with fail
  rw [rounds_succ]
  go_wp2_with fail
  go_ret
  exact ⟨rfl, _, rfl⟩
/-- Two lists of answers that hold the same are the same. -/
theorem same_any {B1 B2 : Nat} {v1 v2 : Value} {o : Option Msg} {w : World} (h1 : IsAns B1 w v1 o) (h2 : IsAns B2 w v2 o) :
    Calls Tryd.prog 17 #[v1, v2] w fun e w' => e = .returned (.bool true) ∧ Below w.heap.size w w' := by
  cases o with
  | none =>
    obtain rfl : v1 = .slice none 0 0 := h1
    obtain rfl : v2 = .slice none 0 0 := h2
    exact (sameNone_any w).mono fun e w' ⟨he, hw⟩ => ⟨he, hw ▸ Below.refl _ _⟩
  | some a =>
    obtain ⟨g1, _, rfl, hg1⟩ := h1
    obtain ⟨g2, _, rfl, hg2⟩ := h2
    exact (sameOne_any a g1 g2 1 1 w hg1 hg2).mono fun e w' ⟨he, n, hw⟩ => ⟨he, hw ▸ ⟨rfl, rfl, rfl, Nat.le_refl _, fun _ _ => rfl⟩⟩
end Go.Proofs.YtkpgadjhcnkadaaDoor
set_option linter.unusedSimpArgs false
set_option linter.unusedVariables false
namespace Go.Proofs.YtkpgadjhcnkadaaDoor
open Go.RowKit

theorem items_at (L : List (Int × ByteArray)) (i : Nat) (x : Int × ByteArray) (h : L[i]? = some x) (j : Nat) (hj : j < 2) : (L.flatMap itemCells)[i * 2 + j]? = (itemCells x)[j]? := by
  induction L generalizing i with
  | nil => simp at h
  | cons y L ih =>
    cases i with
    | zero =>
      simp only [List.getElem?_cons_zero, Option.some.injEq] at h
      subst h
      rw [List.flatMap_cons, Nat.zero_mul, Nat.zero_add, List.getElem?_append_left (by simp [itemCells]; omega)]
    | succ i =>
      rw [List.flatMap_cons, List.getElem?_append_right (by simp [itemCells]; omega)]
      have e1 : (i + 1) * 2 + j - (itemCells y).length = i * 2 + j := by simp [itemCells]; omega
      rw [e1]
      exact ih i (by simpa using h)
theorem items_form {B : Nat} {w : World} {v : Value} {L : List (Int × ByteArray)} (h : IsItems B w v L) : ∃ ao cap, v = .slice ao L.length cap := by
  rcases h.2 with ⟨h3, h0⟩ | ⟨g, cap, cur, h3, _⟩
  · exact ⟨none, 0, by rw [h3]; congr 1; omega⟩
  · exact ⟨_, cap, h3⟩
set_option maxRecDepth 100000 in
set_option maxHeartbeats 3200000 in
theorem sameItems_any {B1 B2 : Nat} {v1 v2 : Value} {L : List (Int × ByteArray)} {w : World} (h1 : IsItems B1 w v1 L) (h2 : IsItems B2 w v2 L) (hlen : L.length ≤ 1000) :
    Calls Tryd.prog 20 #[v1, v2] w fun e w' => e = .returned (.bool true) ∧ Below w.heap.size w w' := by
  obtain ⟨o1, c1, rfl⟩ := items_form h1
  obtain ⟨o2, c2, rfl⟩ := items_form h2
  unfold IsItems at h1 h2
  obtain ⟨n, hn⟩ : ∃ n, L.length = n := ⟨_, rfl⟩
  rw [hn] at h1 h2 hlen ⊢
  have H1 := Lib.hid h1
  have H2 := Lib.hid h2
  have HN := Lib.hid hn
  have hSz : ∀ i, i < n → ∃ e, L[i]? = some e := fun i hi => ⟨_, List.getElem?_eq_getElem (by omega)⟩
  clear h1 h2 hn
  go_enter Tryd.func20, Tryd.ntmps20
  go_wp2_with fail
  go_loopw [5] (fun v5 wr => ∃ i m : Nat, v5 = .int .i64 i ∧ i ≤ n ∧ wr = w.drewN m) (fun v5 _ => n - (intOf v5).toNat)
  case atStart => exact ⟨0, 0, rfl, by omega, rfl⟩
  case round =>
    obtain ⟨i, m, rfl, hi, rfl⟩ := hrel
    by_cases hlt : i < n
    · have t0 : decide ((i : Int) < n) = true := by simp; omega
      obtain ⟨⟨xs, xt⟩, hx⟩ := hSz i hlt
      obtain ⟨g1, rfl⟩ : ∃ g, o1 = some ⟨g, 0, none⟩ := by
        rcases H1.out.2 with ⟨h3, h0⟩ | ⟨g, cap', cur, h3, _⟩
        · omega
        · simp only [Value.slice.injEq] at h3
          exact ⟨g, h3.1⟩
      obtain ⟨g2, rfl⟩ : ∃ g, o2 = some ⟨g, 0, none⟩ := by
        rcases H2.out.2 with ⟨h3, h0⟩ | ⟨g, cap', cur, h3, _⟩
        · omega
        · simp only [Value.slice.injEq] at h3
          exact ⟨g, h3.1⟩
      have a0 : w.cell? ⟨g1, i * 2, none⟩ = some (.int .i64 xs) := by
        have := H1.out.cellAt (i * 2 + 0) (by omega); rw [items_at L i _ hx 0 (by omega)] at this; exact this
      have a1 : w.cell? ⟨g1, i * 2 + 1, none⟩ = some (.string xt) := by
        have := H1.out.cellAt (i * 2 + 1) (by omega); rw [items_at L i _ hx 1 (by omega)] at this; exact this
      have b0 : w.cell? ⟨g2, i * 2, none⟩ = some (.int .i64 xs) := by
        have := H2.out.cellAt (i * 2 + 0) (by omega); rw [items_at L i _ hx 0 (by omega)] at this; exact this
      have b1 : w.cell? ⟨g2, i * 2 + 1, none⟩ = some (.string xt) := by
        have := H2.out.cellAt (i * 2 + 1) (by omega); rw [items_at L i _ hx 1 (by omega)] at this; exact this
      have k1 : (0 : Int) ≤ i := by omega
      have k2 : (i : Int) < n := by omega
      clear hx
      go_wp2_with fail
      go_quiet (fail)
      go_wp2_with fail
      go_roundw
      case rel => exact ⟨i + 1, _, by go_num, by omega, rfl⟩
      case measure => simp [intOf]; omega
    · obtain rfl : i = n := by omega
      have t0 : decide ((i : Int) < i) = false := by simp
      go_wp2_with fail
      go_ret
      exact ⟨rfl, ⟨rfl, rfl, rfl, Nat.le_refl _, fun _ _ => rfl⟩⟩
end Go.Proofs.YtkpgadjhcnkadaaDoor
