/- copydeskref22: New, Entry, Text. copydeskref22: New, Text. -/
import Derived.Test.YtkpgadjhcnkadaaDoorPartnerPure
import Derived.Laws.OwnMore
import Derived.Deep.QuietTactic
import Derived.BigQuiet
set_option linter.unusedSimpArgs false
set_option linter.unusedVariables false
namespace Go.Proofs.YtkpgadjhcnkadaaDoor
open Go.RowKit

def entCells (e : Ent) : List Value := [.int .i64 e.story, .int .i64 e.seq, .bool e.has, .string e.text]
def entV (e : Ent) : Value := .agg #[.int .i64 e.story, .int .i64 e.seq, .bool e.has, .string e.text]
/-- The reference's partner at block r, of the call's own from block B on: its ID and its entries. -/
structure IsR (B r : Nat) (id : Int) (E : List Ent) (w : World) : Prop where
  ge : B ≤ r
  row : ∃ v, w.heap[r]? = some (.cells #[.int .i64 id, v] 57 (0, 0)) ∧ w.ownsRow B 59 4 v E.length (E.flatMap entCells)
theorem flat_at (E : List Ent) (i : Nat) (e : Ent) (h : E[i]? = some e) (j : Nat) (hj : j < 4) : (E.flatMap entCells)[i * 4 + j]? = (entCells e)[j]? := by
  induction E generalizing i with
  | nil => simp at h
  | cons x E ih =>
    cases i with
    | zero =>
      simp only [List.getElem?_cons_zero, Option.some.injEq] at h
      subst h
      rw [List.flatMap_cons, Nat.zero_mul, Nat.zero_add, List.getElem?_append_left (by simp [entCells]; omega)]
    | succ i =>
      rw [List.flatMap_cons, List.getElem?_append_right (by simp [entCells]; omega)]
      have e1 : (i + 1) * 4 + j - (entCells x).length = i * 4 + j := by simp [entCells]; omega
      rw [e1]
      exact ih i (by simpa using h)
theorem entry_at {E : List Ent} {i : Nat} {k : Int} {e : Ent} (hb : ∀ j q, j < i → E[j]? = some q → q.story ≠ k) (h : E[i]? = some e) (he : e.story = k) : entryF E k = e := by
  induction E generalizing i with
  | nil => simp at h
  | cons x E ih =>
    rw [entry_cons]
    cases i with
    | zero =>
      simp only [List.getElem?_cons_zero, Option.some.injEq] at h
      subst h
      rw [if_pos he]
    | succ i =>
      rw [if_neg (hb 0 x (by omega) rfl)]
      exact ih (i := i) (fun j q hj hq => hb (j + 1) q (by omega) (by simpa using hq)) (by simpa using h)

theorem set4_same {W : World} {tb : Nat} {a b c d x y z u : Value} {T : TypeId} (h : W.heap[tb]? = some (.cells #[a, b, c, d] T (0, 0))) : ((((W.setCell ⟨tb, 0, none⟩ x).setCell ⟨tb, 1, none⟩ y).setCell ⟨tb, 2, none⟩ z).setCell ⟨tb, 3, none⟩ u).heap[tb]? = some (.cells #[x, y, z, u] T (0, 0)) := by
  simp [World.setCell, Array.getElem?_modify, h]

set_option maxRecDepth 100000 in
set_option maxHeartbeats 3200000 in
theorem refEntry_any {B r : Nat} {id : Int} {E : List Ent} {w : World} (hr : IsR B r id E w) (k : Int) (hlen : E.length ≤ 1000) :
    Calls Tryd.prog 28 #[.pointer (some ⟨r, 0, none⟩), .int .i64 k] w fun e w' => e = .returned (entV (entryF E k)) ∧ Below w.heap.size w w' := by
  obtain ⟨v, hrb, hrow⟩ := hr.row
  obtain ⟨n, hnE⟩ : ∃ n, E.length = n := ⟨_, rfl⟩
  rw [hnE] at hrow hlen
  obtain ⟨ao, cap, hvv⟩ : ∃ ao cap, v = .slice ao n cap := by
    rcases hrow.2 with ⟨h3, h0⟩ | ⟨g, cap, cur, h3, _⟩
    · exact ⟨none, 0, by rw [h3]; congr 1; omega⟩
    · exact ⟨_, cap, h3⟩
  subst hvv
  have hrlt : r < w.heap.size := by
    rcases Nat.lt_or_ge r w.heap.size with h' | h'
    · exact h'
    · simp [Array.getElem?_eq_none h'] at hrb
  have r1 : w.cell? ⟨r, 1, none⟩ = some (.slice ao n cap) := Lib.cell_of_heap hrb 1
  have HROW := Lib.hid hrow
  have HN := Lib.hid hnE
  clear hrow hnE hr
  go_enter Tryd.func28, Tryd.ntmps28
  go_wp2_with fail
  obtain ⟨c4, hc4⟩ : ∃ c4, w.heap.size = c4 := ⟨_, rfl⟩
  obtain ⟨wA, hA⟩ : ∃ wA, w.alloc (.cells #[.int .i64 0, .int .i64 0, .bool false, .string ⟨#[]⟩] 59) = wA := ⟨_, rfl⟩
  have hBA : Below w.heap.size w wA := by rw [← hA]; exact (Below.refl _ _).alloc (Nat.le_refl _) _
  have cb : wA.heap[c4]? = some (.cells #[.int .i64 0, .int .i64 0, .bool false, .string ⟨#[]⟩] 59 (0, 0)) := by rw [← hA, ← hc4]; exact World.alloc_heap_new w _
  have rA : wA.cell? ⟨r, 1, none⟩ = some (.slice ao n cap) := (hBA.cell (p := ⟨r, 1, none⟩) hrlt).trans r1
  have s0 : wA.cell? ⟨c4, 0, none⟩ = some (.int .i64 0) := Lib.cell_of_heap cb 0
  have s1 : wA.cell? ⟨c4, 1, none⟩ = some (.int .i64 0) := Lib.cell_of_heap cb 1
  have s2 : wA.cell? ⟨c4, 2, none⟩ = some (.bool false) := Lib.cell_of_heap cb 2
  have s3 : wA.cell? ⟨c4, 3, none⟩ = some (.string ⟨#[]⟩) := Lib.cell_of_heap cb 3
  have z0 : wA.frozen? ⟨c4, 0, none⟩ = false := Lib.frozen_of_heap cb 0
  have z1 : wA.frozen? ⟨c4, 1, none⟩ = false := Lib.frozen_of_heap cb 1
  have z2 : wA.frozen? ⟨c4, 2, none⟩ = false := Lib.frozen_of_heap cb 2
  have z3 : wA.frozen? ⟨c4, 3, none⟩ = false := Lib.frozen_of_heap cb 3
  have hBs : ∀ x0 x1 x2 x3 : Value, Below w.heap.size w ((((wA.setCell ⟨c4, 0, none⟩ x0).setCell ⟨c4, 1, none⟩ x1).setCell ⟨c4, 2, none⟩ x2).setCell ⟨c4, 3, none⟩ x3) := fun x0 x1 x2 x3 =>
    (((hBA.setCell (p := ⟨c4, 0, none⟩) (by simp only; omega) x0).setCell (p := ⟨c4, 1, none⟩) (by simp only; omega) x1).setCell (p := ⟨c4, 2, none⟩) (by simp only; omega) x2).setCell (p := ⟨c4, 3, none⟩) (by simp only; omega) x3
  have hSz : ∀ i, i < n → ∃ e, E[i]? = some e := fun i hi => ⟨_, List.getElem?_eq_getElem (by have := HN.out; omega)⟩
  rw [hA, hc4]
  clear hA r1
  go_loopw [5] (fun v5 wr => ∃ i : Nat, v5 = .int .i64 i ∧ i ≤ n ∧ Hid (∀ j q, j < i → E[j]? = some q → q.story ≠ k) ∧ wr = wA) (fun v5 _ => n - (intOf v5).toNat)
  case atStart => exact ⟨0, rfl, by omega, Lib.hid (fun j q h => absurd h (by omega)), rfl⟩
  case round =>
    obtain ⟨i, rfl, hi, HB, rfl⟩ := hrel
    by_cases hlt : i < n
    · have t0 : decide ((i : Int) < n) = true := by simp; omega
      obtain ⟨e, he⟩ := hSz i hlt
      obtain ⟨g, rfl⟩ : ∃ g, ao = some ⟨g, 0, none⟩ := by
        rcases HROW.out.2 with ⟨h3, h0⟩ | ⟨g, cap', cur, h3, _⟩
        · omega
        · simp only [Value.slice.injEq] at h3
          exact ⟨g, h3.1⟩
      have hgl : g < w.heap.size := (HROW.out.lt g rfl).2
      have hat : ∀ j, j < 4 → wr.cell? ⟨g, i * 4 + j, none⟩ = (entCells e)[j]? := fun j hj => by
        rw [hBA.cell (p := ⟨g, i * 4 + j, none⟩) hgl, HROW.out.cellAt (i * 4 + j) (by omega), flat_at E i e he j hj]
      have a0 : wr.cell? ⟨g, i * 4, none⟩ = some (.int .i64 e.story) := hat 0 (by omega)
      have a1 : wr.cell? ⟨g, i * 4 + 1, none⟩ = some (.int .i64 e.seq) := hat 1 (by omega)
      have a2 : wr.cell? ⟨g, i * 4 + 2, none⟩ = some (.bool e.has) := hat 2 (by omega)
      have a3 : wr.cell? ⟨g, i * 4 + 3, none⟩ = some (.string e.text) := hat 3 (by omega)
      have k1 : (0 : Int) ≤ i := by omega
      have k2 : (i : Int) < n := by omega
      clear hat
      by_cases hk : e.story = k
      · have t1 : (e.story == k) = true := by simpa using hk
        have HE := Lib.hid (entry_at HB.out he hk)
        clear hk he
        go_wp2_with fail
        have hBF := hBs (.int .i64 e.story) (.int .i64 e.seq) (.bool e.has) (.string e.text)
        have hF4 := set4_same (x := .int .i64 e.story) (y := .int .i64 e.seq) (z := .bool e.has) (u := .string e.text) cb
        obtain ⟨WF, hWF⟩ : ∃ WF, (((wr.setCell ⟨c4, 0, none⟩ (.int .i64 e.story)).setCell ⟨c4, 1, none⟩ (.int .i64 e.seq)).setCell ⟨c4, 2, none⟩ (.bool e.has)).setCell ⟨c4, 3, none⟩ (.string e.text) = WF := ⟨_, rfl⟩
        rw [hWF] at hBF hF4
        rw [hWF]
        have f0 := Lib.cell_of_heap hF4 0
        have f1 := Lib.cell_of_heap hF4 1
        have f2 := Lib.cell_of_heap hF4 2
        have f3 := Lib.cell_of_heap hF4 3
        simp only [List.getElem?_toArray, List.getElem?_cons_zero, List.getElem?_cons_succ] at f0 f1 f2 f3
        exact bodyPost_ret (by simp [results, Tryd.results28, go_sem, f0, f1, f2, f3]; rfl) rfl ⟨by rw [HE.out]; rfl, hBF⟩
      · have t1 : (e.story == k) = false := by simpa using hk
        have hnext : ∀ j q, j < i + 1 → E[j]? = some q → q.story ≠ k := fun j q hj hq => by
          by_cases hji : j = i
          · subst hji
            rw [he] at hq
            cases hq
            exact hk
          · exact HB.out j q (by omega) hq
        have HNX := Lib.hid hnext
        clear hnext hk he
        go_wp2_with fail
        go_roundw
        case rel => exact ⟨i + 1, by go_num, by omega, HNX, trivial⟩
        case measure => simp [intOf]; omega
    · obtain rfl : i = n := by omega
      have t0 : decide ((i : Int) < i) = false := by simp
      have hne : entryF E k = noEnt k := entry_none (fun q hq => by
        obtain ⟨j, hj, hjq⟩ := List.getElem_of_mem hq
        exact HB.out j q (by have := HN.out; omega) (by rw [List.getElem?_eq_getElem hj, hjq]))
      have HNE := Lib.hid hne
      clear hne
      go_wp2_with fail
      have hBF := hBs (.int .i64 k) (.int .i64 0) (.bool false) (.string ⟨#[]⟩)
      have hF4 := set4_same (x := .int .i64 k) (y := .int .i64 0) (z := .bool false) (u := .string ⟨#[]⟩) cb
      obtain ⟨WF, hWF⟩ : ∃ WF, (((wr.setCell ⟨c4, 0, none⟩ (.int .i64 k)).setCell ⟨c4, 1, none⟩ (.int .i64 0)).setCell ⟨c4, 2, none⟩ (.bool false)).setCell ⟨c4, 3, none⟩ (.string ⟨#[]⟩) = WF := ⟨_, rfl⟩
      rw [hWF] at hBF hF4
      rw [hWF]
      have f0 := Lib.cell_of_heap hF4 0
      have f1 := Lib.cell_of_heap hF4 1
      have f2 := Lib.cell_of_heap hF4 2
      have f3 := Lib.cell_of_heap hF4 3
      simp only [List.getElem?_toArray, List.getElem?_cons_zero, List.getElem?_cons_succ] at f0 f1 f2 f3
      exact bodyPost_ret (by simp [results, Tryd.results28, go_sem, f0, f1, f2, f3]; rfl) rfl ⟨by rw [HNE.out]; rfl, hBF⟩
end Go.Proofs.YtkpgadjhcnkadaaDoor
set_option linter.unusedSimpArgs false
set_option linter.unusedVariables false
namespace Go.Proofs.YtkpgadjhcnkadaaDoor
open Go.RowKit

set_option maxHeartbeats 800000 in
theorem refNew_in (id : Int) (w : World) (h1 : 1 ≤ id) (h2 : id ≤ 8) : Calls Tryd.prog 15 #[.int .i64 id] w fun e w' => e = .returned (.tuple #[.pointer (some ⟨w.heap.size, 0, none⟩), .int .i64 0]) ∧ (∀ B, B ≤ w.heap.size → IsR B w.heap.size id [] w') ∧ Below w.heap.size w w' := by
  have d1 : decide (id < 1) = false := by simp; omega
  have d2 : decide ((8 : Int) < id) = false := by simp; omega
  go_enter Tryd.func15, Tryd.ntmps15
  go_wp2
  go_ret2
  exact ⟨rfl, fun B hB => ⟨hB, _, World.alloc_heap_new w _, World.ownsRow_nil _ _ _ _⟩, (Below.refl _ _).alloc (Nat.le_refl _) _⟩
set_option maxHeartbeats 800000 in
theorem refNew_out (id : Int) (w : World) (h : id < 1 ∨ 8 < id) : Calls Tryd.prog 15 #[.int .i64 id] w fun e w' => e = .returned (.tuple #[.pointer none, .int .i64 220]) ∧ w = w' := by
  by_cases h1 : id < 1
  · have d1 : decide (id < 1) = true := by simpa using h1
    go_enter Tryd.func15, Tryd.ntmps15
    go_wp2
    go_ret2
    exact ⟨rfl, rfl⟩
  · have d1 : decide (id < 1) = false := by simpa using h1
    have d2 : decide ((8 : Int) < id) = true := by simp; omega
    go_enter Tryd.func15, Tryd.ntmps15
    go_wp2
    go_ret2
    exact ⟨rfl, rfl⟩
set_option maxHeartbeats 800000 in
theorem refText_any {B r : Nat} {id : Int} {E : List Ent} {w : World} (hr : IsR B r id E w) (k : Int) (hlen : E.length ≤ 1000) :
    Calls Tryd.prog 30 #[.pointer (some ⟨r, 0, none⟩), .int .i64 k] w fun e w' => e = .returned (.tuple #[.string (entryF E k).text, .bool (entryF E k).has]) ∧ Below w.heap.size w w' := by
  obtain ⟨x, hx⟩ : ∃ x, entryF E k = x := ⟨_, rfl⟩
  have ce := refEntry_any hr k hlen
  rw [hx] at ce ⊢
  obtain ⟨a, b, c, d⟩ := x
  unfold entV at ce
  dsimp only at ce ⊢
  have CE := Lib.hid ce
  clear ce hx hr
  go_enter Tryd.func30, Tryd.ntmps30
  go_wp2_with fail
  refine (CE.out).mono ?_
  rintro e w1 ⟨rfl, hb1⟩
  go_wp2_with fail
  go_quiet (fail)
  go_wp2_with fail
  go_ret2
  exact ⟨rfl, (hb1.alloc hb1.size _).trans ⟨rfl, rfl, rfl, Nat.le_refl _, fun _ _ => rfl⟩⟩
end Go.Proofs.YtkpgadjhcnkadaaDoor
