/- A map[int]held as a list of pairs: made, looked up, written. package partner: New, Text. -/
import Derived.Test.YtkpgadjhcnkadaaDoorBase
import Derived.Maps.Own
import Derived.Test.YtkpgadjhcnkadaaDoorMsg
import Derived.Deep.QuietTactic
import Derived.BigQuiet
set_option linter.unusedSimpArgs false
set_option linter.unusedVariables false
namespace Go.Proofs.YtkpgadjhcnkadaaDoor
open Go.RowKit

structure Held where
  seq : Int
  text : ByteArray
  has : Bool
def noHeld : Held := ⟨0, .empty, false⟩
def heldV (h : Held) : Value := .agg #[.int .i64 h.seq, .string h.text, .bool h.has]
def mapAt (l : List (Int × Held)) (k : Int) : Held := ((l.find? fun p => p.1 == k).map (·.2)).getD noHeld
def mapPut : List (Int × Held) → Int → Held → List (Int × Held)
  | [], k, h => [(k, h)]
  | p :: l, k, h => if p.1 = k then (k, h) :: l else p :: mapPut l k h
theorem mapAt_put (l : List (Int × Held)) (k : Int) (h : Held) (j : Int) : mapAt (mapPut l k h) j = if j = k then h else mapAt l j := by
  induction l with
  | nil =>
    unfold mapAt mapPut
    by_cases e : j = k
    · simp [e]
    · have e1 : (k == j) = false := by simp; exact fun h => e h.symm
      simp [e1, e]
  | cons p l ih =>
    unfold mapPut
    by_cases e : p.1 = k
    · rw [if_pos e]
      unfold mapAt
      by_cases ej : j = k
      · simp [ej]
      · have e1 : (k == j) = false := by simp; exact fun h => ej h.symm
        have e2 : (p.1 == j) = false := by rw [e]; exact e1
        simp [List.find?_cons, e1, e2, ej]
    · rw [if_neg e]
      unfold mapAt at ih ⊢
      by_cases ep : p.1 = j
      · have : j ≠ k := by rw [← ep]; exact e
        simp [List.find?_cons, ep, this]
      · have e2 : (p.1 == j) = false := by simpa using ep
        simp only [List.find?_cons, e2]
        exact ih
def pairV (p : Int × Held) : Value × Value := (.int .i64 p.1, heldV p.2)
/-- Block b is a map that holds the pairs l. -/
def IsHeld (w : World) (b : Nat) (l : List (Int × Held)) : Prop := ∃ es clock, w.heap[b]? = some (.map es clock) ∧ es.toList.map (fun e => (e.key, e.val)) = l.map pairV
theorem findNow_held {q : IntKind} {k : Int} : ∀ (es : List MapEntry) (l : List (Int × Held)) (i : Nat), es.map (fun e => (e.key, e.val)) = l.map pairV →
    (∃ j e, es[j]? = some e ∧ Instr.findNow (.int q) (.int .i64 k) es i = some (some (i + j, e.val)) ∧ e.key = .int .i64 k ∧ l.find? (fun p => p.1 == k) = l[j]? ∧ (∀ h, mapPut l k h = l.set j (k, h)) ∧ ∃ h, l[j]? = some (k, h)) ∨
    (Instr.findNow (.int q) (.int .i64 k) es i = some none ∧ l.find? (fun p => p.1 == k) = none ∧ ∀ h, mapPut l k h = l ++ [(k, h)])
  | [], [], i, _ => .inr ⟨rfl, rfl, fun _ => rfl⟩
  | [], _ :: _, _, h => by simp at h
  | _ :: _, [], _, h => by simp at h
  | e :: es, p :: l, i, h => by
    simp only [List.map_cons, List.cons.injEq] at h
    obtain ⟨hp, hl⟩ := h
    have hk : e.key = .int .i64 p.1 := congrArg Prod.fst hp
    have hv : e.val = heldV p.2 := congrArg Prod.snd hp
    have hs : Instr.sameNow (.int q) (.int .i64 k) e.key = some (k == p.1) := by rw [hk]; simp [Instr.sameNow]
    by_cases ek : p.1 = k
    · refine .inl ⟨0, e, rfl, ?_, by rw [hk, ek], ?_, ?_, p.2, ?_⟩
      · unfold Instr.findNow; rw [hs, ek]; simp
      · simp [ek]
      · intro h'; unfold mapPut; rw [if_pos ek]; rfl
      · simp [← ek]
    · have e2 : (k == p.1) = false := by simp; exact fun h => ek h.symm
      have e3 : (p.1 == k) = false := by simpa using ek
      have hf : Instr.findNow (.int q) (.int .i64 k) (e :: es) i = Instr.findNow (.int q) (.int .i64 k) es (i + 1) := by
        conv => lhs; unfold Instr.findNow
        rw [hs, e2]
      rcases findNow_held es l (i + 1) hl with ⟨j, e', h1, h2, h3, h4, h5, h6⟩ | ⟨h1, h2, h3⟩
      · refine .inl ⟨j + 1, e', by simpa using h1, by rw [hf, h2]; simp; omega, h3, ?_, ?_, ?_⟩
        · rw [List.find?_cons, e3]; simpa using h4
        · intro h'; unfold mapPut; rw [if_neg ek, h5 h']; rfl
        · simpa using h6
      · refine .inr ⟨by rw [hf, h1], by rw [List.find?_cons, e3]; exact h2, fun h' => ?_⟩
        unfold mapPut; rw [if_neg ek, h3 h']; rfl
theorem IsHeld.new (w : World) : IsHeld (w.alloc (.map #[] 0)) w.heap.size [] := ⟨#[], 0, by unfold World.alloc; simp, rfl⟩
theorem IsHeld.lt {w : World} {b : Nat} {l : List (Int × Held)} (h : IsHeld w b l) : b < w.heap.size := by
  obtain ⟨es, c, hb, _⟩ := h
  rcases Nat.lt_or_ge b w.heap.size with h' | h'
  · exact h'
  · simp [Array.getElem?_eq_none h'] at hb
theorem IsHeld.below {w w' : World} {b B : Nat} {l : List (Int × Held)} (h : IsHeld w b l) (hb : Below B w w') (hB : b < B) : IsHeld w' b l := by
  obtain ⟨es, c, h1, h2⟩ := h
  exact ⟨es, c, (hb.block b hB).trans h1, h2⟩
theorem zeroHeld (w : World) : (zeroValue 73).run Tryd.prog w = .ok (heldV noHeld) w := by kernel_rfl
set_option maxHeartbeats 400000 in
theorem run_lookup_held {w : World} {b : Nat} {l : List (Int × Held)} (h : IsHeld w b l) (k : Int) :
    (Instr.lookup 68 (.map (some b)) (.int .i64 k) false).run Tryd.prog w = .ok (heldV (mapAt l k)) w := by
  obtain ⟨es, c, hb, hl⟩ := h
  have hz := zeroHeld w
  have um := run_underlying Tryd.underlying68 (w := w)
  have ck : (Instr.checkKey es.isEmpty 10000 3 (.int .i64 k)).run Tryd.prog w = .ok () w := Go.MapKept.run_checkKey (d := .int .i64) (k := .int .i64 k) Tryd.underlying3 rfl es.isEmpty 9999
  have go := Go.MapKept.run_getObj_map (P := Tryd.prog) hb
  rcases findNow_held (q := .i64) (k := k) es.toList l 0 hl with ⟨j, e, h1, h2, h3, h4, h5, hh, h6⟩ | ⟨h1, h2, h3⟩
  · have hv : e.val = heldV hh := by
      have := congrArg (fun L => L[j]?) hl
      simp only [List.getElem?_map, h1, h6, Option.map_some] at this
      exact congrArg Prod.snd (Option.some.inj this)
    have hm : mapAt l k = hh := by unfold mapAt; rw [h4, h6]; rfl
    have fk := Go.MapKept.run_findKey (P := Tryd.prog) (w := w) (kt := 3) Tryd.underlying3 h2
    simp [Instr.lookup, um, go, ck, fk, hv, hm, Result.andThen]
  · have hm : mapAt l k = noHeld := by unfold mapAt; rw [h2]; rfl
    have fk := Go.MapKept.run_findKey (P := Tryd.prog) (w := w) (kt := 3) Tryd.underlying3 h1
    simp [Instr.lookup, um, go, ck, fk, hm, hz, Result.andThen]
set_option maxHeartbeats 400000 in
theorem run_update_held {w : World} {b : Nat} {l : List (Int × Held)} (h : IsHeld w b l) (k : Int) (x : Held) :
    ∃ w', (Instr.mapUpdate 68 (.map (some b)) (.int .i64 k) (heldV x)).run Tryd.prog w = .ok () w' ∧ IsHeld w' b (mapPut l k x) ∧ w.grownBy w' (some b) := by
  obtain ⟨es, c, hb, hl⟩ := h
  have um := run_underlying Tryd.underlying68 (w := w)
  have ck : (Instr.checkKey false 10000 3 (.int .i64 k)).run Tryd.prog w = .ok () w := Go.MapKept.run_checkKey (d := .int .i64) (k := .int .i64 k) Tryd.underlying3 rfl false 9999
  have go := Go.MapKept.run_getObj_map (P := Tryd.prog) hb
  have so := fun o => Go.MapKept.run_setObj_map (P := Tryd.prog) o hb
  have gr : ∀ o, w.grownBy { w with heap := w.heap.setIfInBounds b o } (some b) := fun o =>
    ⟨rfl, rfl, rfl, by simp, fun j _ hj => (Go.MapKept.heap_set hb).2 j (fun e => hj (by rw [e]))⟩
  have kt := Go.MapKept.run_keyThatStays (P := Tryd.prog) (w := w) (d := .int .i64) (k := .int .i64 k) rfl
  rcases findNow_held (q := .i64) (k := k) es.toList l 0 hl with ⟨j, e, h1, h2, h3, h4, h5, hh, h6⟩ | ⟨h1, h2, h3⟩
  · have fk := Go.MapKept.run_findKey (P := Tryd.prog) (w := w) (kt := 3) Tryd.underlying3 h2
    have he : es[j]? = some e := by simpa using h1
    refine ⟨_, by simp [Instr.mapUpdate, um, go, ck, fk, he, h3, kt, so, Result.andThen]; rfl, ?_, gr _⟩
    refine ⟨_, _, (Go.MapKept.heap_set hb).1, ?_⟩
    rw [h5]
    apply List.ext_getElem?
    intro i
    have hi := congrArg (fun L => L[i]?) hl
    simp only [List.getElem?_map, Array.getElem?_toList] at hi
    simp only [List.getElem?_map, Array.getElem?_toList, Array.getElem?_modify, List.getElem?_set]
    by_cases e1 : j = i
    · subst e1
      have hlt : j < l.length := by
        rcases Nat.lt_or_ge j l.length with h' | h'
        · exact h'
        · rw [List.getElem?_eq_none h'] at h6; cases h6
      simp [he, hlt, pairV]
    · simp only [e1, if_false]
      exact hi
  · have fk := Go.MapKept.run_findKey (P := Tryd.prog) (w := w) (kt := 3) Tryd.underlying3 h1
    refine ⟨_, by simp [Instr.mapUpdate, um, go, ck, fk, so, Result.andThen]; rfl, ?_, gr _⟩
    refine ⟨_, _, (Go.MapKept.heap_set hb).1, ?_⟩
    rw [h3]
    simp [hl, pairV]
end Go.Proofs.YtkpgadjhcnkadaaDoor
set_option linter.unusedSimpArgs false
set_option linter.unusedVariables false
namespace Go.Proofs.YtkpgadjhcnkadaaDoor
open Go.RowKit

/-- A partner at block p, its map at block b, holding the pairs l. -/
structure IsP (p b : Nat) (id : Int) (l : List (Int × Held)) (w : World) : Prop where
  heap : w.heap[p]? = some (.cells #[.int .i64 id, .map (some b)] 70 (0, 0))
  held : IsHeld w b l
theorem IsP.lt {p b : Nat} {id : Int} {l : List (Int × Held)} {w : World} (h : IsP p b id l w) : p < w.heap.size := by
  rcases Nat.lt_or_ge p w.heap.size with h' | h'
  · exact h'
  · have := h.heap; simp [Array.getElem?_eq_none h'] at this
theorem IsP.below {p b B : Nat} {id : Int} {l : List (Int × Held)} {w w' : World} (h : IsP p b id l w) (hb : Below B w w') (hp : p < B) (hq : b < B) : IsP p b id l w' := ⟨(hb.block p hp).trans h.heap, h.held.below hb hq⟩
theorem IsP.c0 {p b : Nat} {id : Int} {l : List (Int × Held)} {w : World} (h : IsP p b id l w) : w.cell? ⟨p, 0, none⟩ = some (.int .i64 id) := by rw [Lib.cell_of_heap h.heap]; rfl
theorem IsP.c1 {p b : Nat} {id : Int} {l : List (Int × Held)} {w : World} (h : IsP p b id l w) : w.cell? ⟨p, 1, none⟩ = some (.map (some b)) := by rw [Lib.cell_of_heap h.heap]; rfl

set_option maxHeartbeats 800000 in
theorem new_out (id : Int) (w : World) (h : id < 1 ∨ 8 < id) : Calls Tryd.prog 14 #[.int .i64 id] w fun e w' => e = .returned (.tuple #[.pointer none, .int .i64 220]) ∧ w = w' := by
  by_cases h1 : id < 1
  · have d1 : decide (id < 1) = true := decide_eq_true h1
    go_enter Tryd.func14, Tryd.ntmps14
    go_wp2
    go_ret2
    exact ⟨rfl, rfl⟩
  · have d1 : decide (id < 1) = false := decide_eq_false h1
    have d2 : decide (8 < id) = true := by simp; omega
    go_enter Tryd.func14, Tryd.ntmps14
    go_wp2
    go_ret2
    exact ⟨rfl, rfl⟩
set_option maxHeartbeats 800000 in
theorem new_in (id : Int) (w : World) (h1 : 1 ≤ id) (h2 : id ≤ 8) : Calls Tryd.prog 14 #[.int .i64 id] w fun e w' => e = .returned (.tuple #[.pointer (some ⟨w.heap.size + 1, 0, none⟩), .int .i64 0]) ∧ IsP (w.heap.size + 1) w.heap.size id [] w' ∧ Below w.heap.size w w' ∧ w'.heap.size = w.heap.size + 2 := by
  have d1 : decide (id < 1) = false := by simp; omega
  have d2 : decide (8 < id) = false := by simp; omega
  have hmm := @run_makeMap Tryd.prog
  go_enter Tryd.func14, Tryd.ntmps14
  go_wp2
  go_ret2
  refine ⟨rfl, ⟨?_, ?_⟩, ((Below.refl _ _).alloc (Nat.le_refl _) _).alloc (by simp) _, by simp⟩
  · have h := Go.MapKept.heap_alloc (w.alloc (.map #[] 0)) (.cells #[.int .i64 id, .map (some w.heap.size)] 70)
    rw [World.size_alloc] at h
    exact h.1
  · exact (IsHeld.new w).below ((Below.refl (w.heap.size + 1) _).alloc (by simp) _) (by omega)

set_option maxHeartbeats 800000 in
theorem text_nil (k : Int) (w : World) : Calls Tryd.prog 23 #[.pointer none, .int .i64 k] w fun e w' => e = .returned (.tuple #[.string .empty, .bool false]) ∧ w = w' := by
  go_enter Tryd.func23, Tryd.ntmps23
  go_wp2
  go_ret2
  exact ⟨rfl, rfl⟩
set_option maxHeartbeats 1600000 in
theorem text_any {p b : Nat} {id : Int} {l : List (Int × Held)} {w : World} (hp : IsP p b id l w) (k : Int) :
    Calls Tryd.prog 23 #[.pointer (some ⟨p, 0, none⟩), .int .i64 k] w fun e w' => e = .returned (.tuple #[.string (mapAt l k).text, .bool (mapAt l k).has]) ∧ Below w.heap.size w w' := by
  have c1 := hp.c1
  have hl := run_lookup_held hp.held k
  obtain ⟨⟨s, t, h⟩, hx⟩ : ∃ x, mapAt l k = x := ⟨_, rfl⟩
  rw [hx] at hl
  unfold heldV at hl
  rw [hx]
  clear hx hp
  go_enter Tryd.func23, Tryd.ntmps23
  go_wp2_with fail
  go_quiet (fail)
  go_wp2_with fail
  go_ret2
  exact ⟨rfl, ⟨rfl, rfl, rfl, by simp, fun j hj => Below.heap_alloc _ _ _ hj⟩⟩
end Go.Proofs.YtkpgadjhcnkadaaDoor
