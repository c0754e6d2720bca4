/- strings.Builder's WriteString once more: besides what XBuilder says, that no block but the builder's own and one of bytes turns. -/
import Derived.Test.YtncbgbmgbokeoaaDoorBuilder
set_option linter.unusedVariables false
namespace Go.Proofs.YtncbgbmgbokeoaaDoor
open Go.RowKit Go.Shelf

def BytesAt (w : World) (j : Nat) : Prop := ∃ cs fz, w.heap[j]? = some (.cells cs 5 fz)
/-- From w to w' no block turns but b, and blocks of bytes. -/
def NBut (b : Nat) (w w' : World) : Prop := w.heap.size ≤ w'.heap.size ∧ ∀ j, j < w.heap.size → j ≠ b → ¬ BytesAt w j → w'.heap[j]? = w.heap[j]?
theorem NBut.trans {b : Nat} {x y z : World} (h : NBut b x y) (k : NBut b y z) : NBut b x z :=
  ⟨Nat.le_trans h.1 k.1, fun j hj hb hn => by
    have e := h.2 j hj hb hn
    exact (k.2 j (Nat.lt_of_lt_of_le hj h.1) hb (fun ⟨cs, fz, hc⟩ => hn ⟨cs, fz, e ▸ hc⟩)).trans e⟩
theorem NBut.below {b : Nat} {w w' : World} (h : Below w.heap.size w w') : NBut b w w' := ⟨h.size, fun j hj _ _ => h.block j hj⟩
theorem NBut.refl (b : Nat) (w : World) : NBut b w w := ⟨Nat.le_refl _, fun _ _ _ _ => rfl⟩
theorem NBut.grown {b : Nat} {w w' : World} {row : Option Nat} (h : w.grownBy w' row) (hr : ∀ j, row = some j → j = b ∨ BytesAt w j) : NBut b w w' :=
  ⟨h.size, fun j hj hb hn => h.block j hj (fun e => (hr j e.symm).elim hb hn)⟩

theorem NBut.cells {b : Nat} {w w' : World} (h : NBut b w w') {j : Nat} {cs : Array Value} {T : TypeId} {fz : Nat × Nat} (hc : w.heap[j]? = some (.cells cs T fz)) (hT : T ≠ 5) (hj : j ≠ b) : w'.heap[j]? = some (.cells cs T fz) := by
  have hlt : j < w.heap.size := by
    rcases Nat.lt_or_ge j w.heap.size with h' | h'
    · exact h'
    · simp [Array.getElem?_eq_none h'] at hc
  refine (h.2 j hlt hj ?_).trans hc
  rintro ⟨cs', fz', hb⟩
  rw [hc] at hb
  simp only [Option.some.injEq, Obj.cells.injEq] at hb
  exact hT hb.2.1
theorem copyCheck_nb {T : TypeId} (hT : BuilderType T) (B b : Nat) (bs : List Value) (w : World) (h : Lib.IsBuilderF T 5 B b bs w) :
    Calls Tryd.prog 47 #[.pointer (some ⟨b, 0, none⟩)] w fun e w' => e = .returned (.tuple #[]) ∧ (Lib.BuilderAtF T 5 B b (.pointer (some ⟨b, 0, none⟩)) bs w' ∧ Below B w w' ∧ NBut b w w') := by
  rcases h with h | h
  · refine (copyCheck_fresh hT b w h.cell0 h.shape h.frozen0).mono ?_
    rintro e w' ⟨rfl, rfl⟩
    exact ⟨rfl, h.used _, (Below.refl B w).setCell (p := ⟨b, 0, none⟩) h.1 _, by simp [World.setCell], fun j hj hb _ => Below.heap_setCell _ _ _ _ hb⟩
  · refine (copyCheck_used b w h.cell0).mono ?_
    rintro e w' ⟨rfl, rfl⟩
    exact ⟨rfl, h, Below.refl B _, NBut.refl _ _⟩

set_option maxHeartbeats 2000000 in
set_option maxRecDepth 100000 in
theorem builderWrite_nb {T : TypeId} (hT : BuilderType T) (B b : Nat) (l : List UInt8) (s : ByteArray) (w : World) (h : BuiltF T B b l w) (hlen : l.length + s.size ≤ 140737488355328) (hBw : B ≤ w.heap.size) :
    Calls Tryd.prog 35 #[.pointer (some ⟨b, 0, none⟩), .string s] w fun e w' => e = .returned (.tuple #[.int .i64 s.size, .nilIface]) ∧ BuiltF T B b (l ++ s.data.toList) w' ∧ Below B w w' ∧ NBut b w w' := by
  obtain ⟨i0, hi, hz0, hz1, hz2⟩ := info_parts info_u8
  obtain ⟨bs, hbs⟩ : ∃ bs, Lib.byteCells l = bs := ⟨_, rfl⟩
  have hbl : bs.length = l.length := by rw [← hbs, Lib.byteCells_length]
  unfold BuiltF at h
  rw [hbs] at h
  have HB := Lib.hid hbs
  rw [← hbl] at hlen
  clear hbs hbl
  go_enter Tryd.func35, Tryd.ntmps35
  go_wp2_with (go_at_call 47; refine (copyCheck_nb hT B b bs _ h).mono ?_)
  rintro e w1 ⟨rfl, h1, hb1, hn1⟩
  obtain ⟨hB, v, hbk, hown, hne⟩ := h1
  have c0 : w1.cell? ⟨b, 0, none⟩ = some (.pointer (some ⟨b, 0, none⟩)) := by rw [Lib.cell_of_heap hbk]; rfl
  have c1 : w1.cell? ⟨b, 1, none⟩ = some v := by rw [Lib.cell_of_heap hbk]; rfl
  go_wp2_with (at_builtin; refine Lib.wpList_append_own_stringF _ rfl _ _ 46 9 rfl B 5 i0 Tryd.underlying46 Tryd.underlying9 hi hz0 hz1 hz2 _ _ _ rfl hown s rfl ?c3 ?c4 ?c5 ?_)
  case c3 => unfold maxLen; omega
  case c4 => omega
  case c5 => have := hb1.size; omega
  intro v' w2 hown' hgrow _
  have hlt : b < w1.heap.size := by
    rcases Nat.lt_or_ge b w1.heap.size with h' | h'
    · exact h'
    · simp [Array.getElem?_eq_none h'] at hbk
  have hb2 : w2.heap[b]? = some (.cells #[.pointer (some ⟨b, 0, none⟩), v] T (0, 0)) := by
    rw [hgrow.block b hlt (fun e => hne e.symm)]
    exact hbk
  have hn2 : NBut b w1 w2 := NBut.grown hgrow (fun j hj => .inr (by
    rcases hown.2 with ⟨rfl, _⟩ | ⟨g, cap, cur, fz, rfl, _, hg, _⟩
    · cases hj
    · simp only [Value.ownBlock, Option.some.injEq] at hj
      subst hj
      exact ⟨_, _, hg⟩))
  have d0 : w2.cell? ⟨b, 0, none⟩ = some (.pointer (some ⟨b, 0, none⟩)) := by rw [Lib.cell_of_heap hb2]; rfl
  have d1 : w2.cell? ⟨b, 1, none⟩ = some v := by rw [Lib.cell_of_heap hb2]; rfl
  have f1 : w2.frozen? ⟨b, 1, none⟩ = false := Lib.frozen_of_heap hb2 1
  obtain ⟨ao, n', cap, rfl⟩ : ∃ ao n' cap, v' = .slice ao n' cap := by
    rcases hown'.2 with ⟨hv, _⟩ | ⟨g, cap, cur, fz, hv, _⟩
    · exact ⟨_, _, _, hv⟩
    · exact ⟨_, _, _, hv⟩
  go_wp2
  go_ret2
  refine ⟨rfl, ?_, ?_, ?_⟩
  · refine Or.inr ?_
    have := Lib.BuilderAtF.put (T := T) (e := 5) hB hb2 (bs' := bs ++ Lib.strCells s) (by simpa [Lib.strCells_length] using hown') hT.ne
    rwa [← HB.out, strCells_byteCells, byteCells_append] at this
  · exact (hb1.grown hgrow (by have := hb1.size; omega) (fun k hk => (hown.lt k hk).1)).setCell (p := ⟨b, 1, none⟩) hB _
  · exact hn1.trans (hn2.trans ⟨by simp [World.setCell], fun j hj hb _ => Below.heap_setCell _ _ _ _ hb⟩)
/-- The builder stands where nothing turns that lies below B, and no block of bytes. -/
theorem BuiltF.stays {T : TypeId} {B b : Nat} {l : List UInt8} {w w' : World} (h : BuiltF T B b l w) (hs : ∀ j, j < w.heap.size → j = b ∨ BytesAt w j → w'.heap[j]? = w.heap[j]?) : BuiltF T B b l w' := by
  have key : ∀ p, Lib.BuilderAtF T 5 B b p (Lib.byteCells l) w → Lib.BuilderAtF T 5 B b p (Lib.byteCells l) w' := by
    intro p h
    have hlt := h.lt
    obtain ⟨hB, v, hb, hown, hne⟩ := h
    refine ⟨hB, v, (hs b hlt (.inl rfl)).trans hb, ⟨hown.1, ?_⟩, hne⟩
    rcases hown.2 with h0 | ⟨g, cap, cur, fz, hv, hg, hh, hr⟩
    · exact .inl h0
    · have hgl : g < w.heap.size := by
        rcases Nat.lt_or_ge g w.heap.size with h' | h'
        · exact h'
        · simp [Array.getElem?_eq_none h'] at hh
      exact .inr ⟨g, cap, cur, fz, hv, hg, (hs g hgl (.inr ⟨_, _, hh⟩)).trans hh, hr⟩
  exact h.imp (key _) (key _)
set_option maxHeartbeats 2000000 in
set_option maxRecDepth 100000 in
theorem string_some_nb {T : TypeId} (B b : Nat) (l : List UInt8) (w : World) (h : BuiltF T B b l w) (h0 : l ≠ []) :
    Calls Tryd.prog 23 #[.pointer (some ⟨b, 0, none⟩)] w fun e w' => e = .returned (.string ⟨l.toArray⟩) ∧ BuiltF T B b l w' ∧ Below B w w' ∧ NBut b w w' := by
  obtain ⟨p, hp, hAt⟩ : ∃ p, (p = .pointer none ∨ p = .pointer (some ⟨b, 0, none⟩)) ∧ Lib.BuilderAtF T 5 B b p (Lib.byteCells l) w := by
    rcases h with h | h
    · exact ⟨_, .inl rfl, h⟩
    · exact ⟨_, .inr rfl, h⟩
  obtain ⟨hB, v, hbk, hown, hne⟩ := hAt
  have hl0 : l.length ≠ 0 := by simpa using h0
  rw [Lib.byteCells_length] at hown
  obtain ⟨g, cap, cur, fz, rfl, hbg, hg, hfz, hnc, hcm, hcs, htake⟩ : ∃ g cap cur fz, v = .slice (some ⟨g, 0, none⟩) l.length cap ∧ B ≤ g ∧ w.heap[g]? = some (.cells cur 5 fz) ∧ fz.2 ≤ l.length * 1 ∧ l.length ≤ cap ∧ cap ≤ maxLen ∧ cur.size = cap * 1 ∧ cur.toList.take (l.length * 1) = Lib.byteCells l := by
    rcases hown.2 with ⟨_, hz⟩ | ⟨g, cap, cur, fz, hv, r⟩
    · exact absurd hz hl0
    · exact ⟨g, cap, cur, fz, hv, r⟩
  have c1 : w.drew.cell? ⟨b, 1, none⟩ = some (.slice (some ⟨g, 0, none⟩) l.length cap) := by
    have : w.drew.heap[b]? = some (.cells #[p, .slice (some ⟨g, 0, none⟩) l.length cap] T (0, 0)) := hbk
    rw [Lib.cell_of_heap this]; rfl
  have hSD : (Builtin.unsafeSliceData_ #[46] 87 #[.slice (some ⟨g, 0, none⟩) l.length cap]).run Tryd.prog w.drew = .ok (.pointer (some ⟨g, 0, none⟩)) w.drew :=
    Lib.run_unsafeSliceData_row _ _ _ _ _ _ (by omega)
  have hUS : (Builtin.unsafeString_ #[87, 3] 9 #[.pointer (some ⟨g, 0, none⟩), .int .i64 l.length]).run Tryd.prog w.drew = .ok (.string ⟨l.toArray⟩) (w.drew.freeze ⟨g, 0, none⟩ l.length) := by
    refine Lib.run_unsafeString_row w.drew 87 3 9 5 Tryd.underlying87 cellsByte g cur.size (by have hg' : w.drew.heap[g]? = some (.cells cur 5 fz) := hg; simp [World.shape?, hg']) l h0 (by omega) (by unfold maxLen at hcm; omega) ?_
    intro j x hx
    exact hown.cells (g := g) rfl j (.int .u8 x.toNat) (by simp [Lib.byteCells, hx])
  have hkeep : BuiltF T B b l (w.drew.freeze ⟨g, 0, none⟩ l.length) := by
    have hA : Lib.BuilderAtF T 5 B b p (Lib.byteCells l) w.drew := ⟨hB, _, hbk, by rw [Lib.byteCells_length]; exact hown, hne⟩
    have hF := hA.froze (g := g) (cap := cap) (by rw [Lib.byteCells_length]; exact c1)
    rw [Lib.byteCells_length] at hF
    rcases hp with rfl | rfl
    · exact .inl hF
    · exact .inr hF
  have c2 : w.cell? ⟨b, 1, none⟩ = some (.slice (some ⟨g, 0, none⟩) l.length cap) := c1
  have hNb : NBut b w (w.drew.freeze ⟨g, 0, none⟩ l.length) := by
    have hg' : w.drew.heap[g]? = some (.cells cur 5 fz) := hg
    have key : NBut b w.drew (w.drew.freeze ⟨g, 0, none⟩ l.length) := by
      generalize w.drew = W at hg'
      unfold World.freeze
      split
      · exact NBut.refl _ _
      · refine ⟨by simp, fun j _ _ hn => ?_⟩
        have hjg : j ≠ g := fun e => hn ⟨cur, fz, e ▸ hg'⟩
        simp [Array.getElem?_modify, Ne.symm hjg]
    exact ⟨key.1, key.2⟩
  have HN := Lib.hid hNb
  clear hNb
  have Hk := Lib.hid hkeep
  clear hkeep hown hbk hg htake hcs hcm hfz hnc hne
  go_enter Tryd.func23, Tryd.ntmps23
  go_wp2
  go_region
  all_goals (go_wp2; go_ret; exact ⟨rfl, Hk.out, Lib.below_freeze (Below.drew (Below.refl B w)) (p := ⟨g, 0, none⟩) hbg _, HN.out⟩)
set_option maxHeartbeats 2000000 in
set_option maxRecDepth 100000 in
theorem string_nil_nb {T : TypeId} (B b : Nat) (p : Value) (w : World) (hbk : w.heap[b]? = some (.cells #[p, .slice none 0 0] T (0, 0))) (hA : Lib.BuilderAtF T 5 B b p [] w) :
    Calls Tryd.prog 23 #[.pointer (some ⟨b, 0, none⟩)] w fun e w' => e = .returned (.string ⟨#[]⟩) ∧ (Lib.BuilderAtF T 5 B b p [] w' ∧ Below B w w' ∧ NBut b w w') := by
  have hUS := run_unsafeString_nil
  have c1 : w.cell? ⟨b, 1, none⟩ = some (.slice none 0 0) := by rw [Lib.cell_of_heap hbk]; rfl
  have hSD : (Builtin.unsafeSliceData_ #[46] 87 #[.slice none 0 0]).run Tryd.prog w.drew = .ok (.pointer none) w.drew := rfl
  go_enter Tryd.func23, Tryd.ntmps23
  go_wp2
  go_region
  all_goals (go_wp2; go_ret; exact ⟨rfl, hA.drew, Below.drew (Below.refl B w), Nat.le_refl _, fun _ _ _ _ => rfl⟩)
set_option maxHeartbeats 2000000 in
set_option maxRecDepth 100000 in
theorem string_noroom_nb {T : TypeId} (B b g : Nat) (p : Value) (cur : Array Value) (w : World) (hBw : B ≤ w.heap.size) (hbk : w.heap[b]? = some (.cells #[p, .slice (some ⟨g, 0, none⟩) 0 0] T (0, 0))) (fz : Nat × Nat) (hg : w.heap[g]? = some (.cells cur 5 fz)) (hA : Lib.BuilderAtF T 5 B b p [] w) :
    Calls Tryd.prog 23 #[.pointer (some ⟨b, 0, none⟩)] w fun e w' => e = .returned (.string ⟨#[]⟩) ∧ (Lib.BuilderAtF T 5 B b p [] w' ∧ Below B w w' ∧ NBut b w w') := by
  have hUS := run_unsafeString_nil
  have hlt : b < w.heap.size := by
    rcases Nat.lt_or_ge b w.heap.size with h' | h'
    · exact h'
    · simp [Array.getElem?_eq_none h'] at hbk
  have hSD : (Builtin.unsafeSliceData_ #[46] 87 #[.slice (some ⟨g, 0, none⟩) 0 0]).run Tryd.prog w.drew = .ok (.pointer (some ⟨w.drew.heap.size, 0, none⟩)) (w.drew.alloc (.view ⟨g, 0, none⟩ 5)) :=
    Lib.run_unsafeSliceData_zero w.drew _ _ 5 Tryd.underlying87 ⟨g, 0, none⟩ 0 (5, cur.size) (by have hg' : w.drew.heap[g]? = some (.cells cur 5 fz) := hg; simp [World.shape?, hg'])
  have c3 : (w.alloc (.view ⟨g, 0, none⟩ 5)).cell? ⟨b, 1, none⟩ = some (.slice (some ⟨g, 0, none⟩) 0 0) := by
    have : (w.alloc (.view ⟨g, 0, none⟩ 5)).heap[b]? = _ := (Lib.alloc_old w _ b hlt).trans hbk
    rw [Lib.cell_of_heap this]; rfl
  have c0 : w.cell? ⟨b, 1, none⟩ = some (.slice (some ⟨g, 0, none⟩) 0 0) := by rw [Lib.cell_of_heap hbk]; rfl
  go_enter Tryd.func23, Tryd.ntmps23
  go_wp2
  go_region
  all_goals (go_wp2; go_ret; exact ⟨rfl, hA.drew.alloc _, (Below.drew (Below.refl B w)).alloc hBw _, by simp, fun j hj _ _ => Below.heap_alloc w.drew _ j hj⟩)
set_option maxHeartbeats 2000000 in
set_option maxRecDepth 100000 in
theorem string_room_nb {T : TypeId} (B b g cap : Nat) (p : Value) (w : World) (hc0 : cap ≠ 0) (hbk : w.heap[b]? = some (.cells #[p, .slice (some ⟨g, 0, none⟩) 0 cap] T (0, 0))) (hA : Lib.BuilderAtF T 5 B b p [] w) :
    Calls Tryd.prog 23 #[.pointer (some ⟨b, 0, none⟩)] w fun e w' => e = .returned (.string ⟨#[]⟩) ∧ (Lib.BuilderAtF T 5 B b p [] w' ∧ Below B w w' ∧ NBut b w w') := by
  have hUS := run_unsafeString_nil
  have c1 : w.cell? ⟨b, 1, none⟩ = some (.slice (some ⟨g, 0, none⟩) 0 cap) := by rw [Lib.cell_of_heap hbk]; rfl
  have hSD : (Builtin.unsafeSliceData_ #[46] 87 #[.slice (some ⟨g, 0, none⟩) 0 cap]).run Tryd.prog w.drew = .ok (.pointer (some ⟨g, 0, none⟩)) w.drew :=
    Lib.run_unsafeSliceData_row _ _ _ _ _ _ hc0
  clear hc0
  go_enter Tryd.func23, Tryd.ntmps23
  go_wp2
  go_region
  all_goals (go_wp2; go_ret; exact ⟨rfl, hA.drew, Below.drew (Below.refl B w), Nat.le_refl _, fun _ _ _ _ => rfl⟩)
theorem builderString_nb {T : TypeId} (B b : Nat) (l : List UInt8) (w : World) (h : BuiltF T B b l w) (hBw : B ≤ w.heap.size) :
    Calls Tryd.prog 23 #[.pointer (some ⟨b, 0, none⟩)] w fun e w' => e = .returned (.string ⟨l.toArray⟩) ∧ BuiltF T B b l w' ∧ Below B w w' ∧ NBut b w w' := by
  cases l with
  | cons x r => exact string_some_nb B b (x :: r) w h (by simp)
  | nil =>
    obtain ⟨p, hp, hA⟩ : ∃ p, (p = .pointer none ∨ p = .pointer (some ⟨b, 0, none⟩)) ∧ Lib.BuilderAtF T 5 B b p [] w := by
      rcases h with h | h
      · exact ⟨_, .inl rfl, h⟩
      · exact ⟨_, .inr rfl, h⟩
    have fin : ∀ (e : Ending) (w' : World), (e = .returned (.string ⟨#[]⟩) ∧ (Lib.BuilderAtF T 5 B b p [] w' ∧ Below B w w' ∧ NBut b w w')) → e = .returned (.string ⟨#[]⟩) ∧ (BuiltF T B b [] w' ∧ Below B w w' ∧ NBut b w w') := by
      rintro e w' ⟨he, hk, hb⟩
      rcases hp with rfl | rfl
      · exact ⟨he, .inl hk, hb⟩
      · exact ⟨he, .inr hk, hb⟩
    have hA' := hA
    obtain ⟨hB, v, hbk, hown, hne⟩ := hA
    rcases hown.2 with ⟨rfl, _⟩ | ⟨g, cap, cur, fz, rfl, hbg, hg, _, _, _, _, _⟩
    · exact (string_nil_nb B b p w hbk hA').mono fin
    · by_cases hc0 : cap = 0
      · subst hc0
        exact (string_noroom_nb B b g p cur w hBw hbk fz hg hA').mono fin
      · exact (string_room_nb B b g cap p w hc0 hbk hA').mono fin
end Go.Proofs.YtncbgbmgbokeoaaDoor
