/- delta.Apply: the whole. -/
import Derived.Test.YtkpgadjhcnkadaaDoorApply2
import Derived.Test.YtkpgadjhcnkadaaDoorPanics
namespace Go.Proofs.YtkpgadjhcnkadaaDoor
open Go.RowKit

theorem BuiltF.grown {T : TypeId} {B b r : Nat} {l : List UInt8} {w w' : World} (h : BuiltF T B b l w) (hg : w.grownBy w' (some r)) (hr : r < B) : BuiltF T B b l w' := by
  have key : ∀ p, Lib.BuilderAtF T 5 B b p (Lib.byteCells l) w → Lib.BuilderAtF T 5 B b p (Lib.byteCells l) w' := by
    rintro p ⟨hB, v, hb, hown, hne⟩
    refine ⟨hB, v, (hg.block b (lt_of_heap hb) (by intro e; cases e; omega)).trans hb, hown.kept hg ?_, hne⟩
    cases hv : v.ownBlock with
    | none => exact .inl rfl
    | some g => exact .inr (by have := (hown.lt g hv).1; intro e; cases e; omega)
  exact h.elim (fun h => .inl (key _ h)) (fun h => .inr (key _ h))
theorem Reads.below {b B : Nat} {d : ByteArray} {a : Int} {w w' : World} (h : Reads b d a w) (hb : Below B w w') (hB : b < B) : Reads b d a w' := ⟨(hb.block b hB).trans h.heap⟩
theorem strAt_facts {d t : ByteArray} {a nx : Int} (h : strAt d a = (t, nx, 0)) : a < nx ∧ t.size ≤ 65536 := by
  have f2 := intAt_facts d a
  unfold strAt at h
  split at h
  · rename_i k1; simp at h; exact absurd h.2.2 k1
  · split at h
    · simp at h
    · rename_i k1 k2
      simp at h
      obtain ⟨rfl, rfl⟩ := h
      rcases f2 with f2 | f2
      · refine ⟨by omega, ?_⟩
        simp
        omega
      · omega
theorem opAt_facts {old d : ByteArray} {a : Int} {s : ByteArray} {nx : Int} (h : opAt old d a = (s, nx, 0)) : a < nx ∧ s.size ≤ 65536 + old.size := by
  obtain ⟨n, nx1, e1, hi1⟩ : ∃ A B C, intAt d a = (A, B, C) := ⟨_, _, _, rfl⟩
  have f1 := intAt_facts d a
  rw [hi1] at f1
  by_cases h1 : e1 = 0
  · subst h1
    simp at f1
    by_cases h2 : n < 0
    · rw [opAt_neg hi1 h2] at h; simp at h
    · by_cases h3 : n = 0
      · subst h3
        rw [opAt_ins hi1] at h
        obtain ⟨t, nx2, e2, hs⟩ : ∃ A B C, strAt d nx1 = (A, B, C) := ⟨_, _, _, rfl⟩
        rw [hs] at h
        by_cases h4 : e2 = 0
        · subst h4
          have f2 := strAt_facts hs
          by_cases h5 : t.size = 0
          · simp [h5] at h
          · simp [h5] at h
            obtain ⟨rfl, rfl⟩ := h
            exact ⟨by omega, by omega⟩
        · simp [h4] at h
      · rw [opAt_copy hi1 (by omega)] at h
        have f2 := intAt_facts d nx1
        split at h
        · simp at h
        · split at h
          · simp at h
          · rename_i g1 g2
            simp at h
            obtain ⟨rfl, rfl⟩ := h
            simp at g1
            rcases f2 with f2 | f2
            · refine ⟨by omega, ?_⟩
              simp
              omega
            · omega
  · rw [opAt_num hi1 h1] at h; simp at h
/-- The world behind the two named results' cells. -/
def applyW (w : World) : World := (w.alloc (.cells #[.string ⟨#[]⟩] 9)).alloc (.cells #[.int .i64 0] 26)
theorem applyW_size (w : World) : (applyW w).heap.size = w.heap.size + 2 := by simp [applyW]
theorem applyW_below (w : World) : Below w.heap.size w (applyW w) := ((Below.refl _ _).alloc (Nat.le_refl _) _).alloc (by simp) _
theorem heap_new (w : World) (o : Obj) : (w.alloc o).heap[w.heap.size]? = some o := by unfold World.alloc; simp
theorem applyW_heap0 (w : World) : (applyW w).heap[w.heap.size]? = some (.cells #[.string ⟨#[]⟩] 9 (0, 0)) := by
  unfold applyW
  rw [Below.heap_alloc _ _ _ (by simp), heap_new]
theorem applyW_heap1 (w : World) : (applyW w).heap[w.heap.size + 1]? = some (.cells #[.int .i64 0] 26 (0, 0)) := by
  unfold applyW
  have h := heap_new (w.alloc (.cells #[.string ⟨#[]⟩] 9)) (.cells #[.int .i64 0] 26)
  rw [World.size_alloc] at h
  exact h
def applyD (w : World) : List Deferred := [{ target := .fn (.func 49) #[.pointer (some ⟨w.heap.size, 0, none⟩), .pointer (some ⟨w.heap.size + 1, 0, none⟩)], args := #[] }]
set_option linter.unusedSimpArgs false in
set_option maxRecDepth 100000 in
set_option maxHeartbeats 1600000 in
theorem apply_door {a0 a1 : Addr} {w W' : World} (he : ErrCells a0 a1 w) (hB : Below (w.heap.size + 2) (applyW w) W') (T : Array Value) (hT : T[4]? = some (.pointer (some ⟨w.heap.size, 0, none⟩)) ∧ T[5]? = some (.pointer (some ⟨w.heap.size + 1, 0, none⟩))) {er : Int} (her : er = 10 ∨ er = 190) :
    Leaves Tryd.prog Tryd.f43 T (fun e w' => e = .returned (.tuple #[.string .empty, .int .i64 er]) ∧ Below w.heap.size w w') (applyD w) (.panicking [{ v := errV (errOf a0 a1 er), recovered := false }]) W' := by
  have h0 := (hB.block _ (show w.heap.size < w.heap.size + 2 by omega)).trans (applyW_heap0 w)
  have h1 := (hB.block _ (show w.heap.size + 1 < w.heap.size + 2 by omega)).trans (applyW_heap1 w)
  have c0 : W'.cell? ⟨w.heap.size, 0, none⟩ = some (.string ⟨#[]⟩) := by rw [Lib.cell_of_heap h0]; rfl
  have c1 : W'.cell? ⟨w.heap.size + 1, 0, none⟩ = some (.int .i64 0) := by rw [Lib.cell_of_heap h1]; rfl
  have z0 : W'.frozen? ⟨w.heap.size, 0, none⟩ = false := Lib.frozen_of_heap h0 0
  have z1 : W'.frozen? ⟨w.heap.size + 1, 0, none⟩ = false := Lib.frozen_of_heap h1 0
  have hBw : Below w.heap.size w W' := (applyW_below w).trans (hB.mono (by omega))
  have k4 : T[4]?.getD undef = .pointer (some ⟨w.heap.size, 0, none⟩) := by rw [hT.1]; rfl
  have k5 : T[5]?.getD undef = .pointer (some ⟨w.heap.size + 1, 0, none⟩) := by rw [hT.2]; rfl
  refine leaves_cons (f := 49) (args := #[.pointer (some ⟨w.heap.size, 0, none⟩), .pointer (some ⟨w.heap.size + 1, 0, none⟩)]) (by simp) (by simp [go_sem]) ?_
  rcases her with rfl | rfl
  · refine (catch_wire w.heap.size (w.heap.size + 1) a0 a1 _ _ [] w W' c0 c1 z0 z1 (by omega) he hBw (Nat.le_refl _) (by omega)).mono ?_
    rintro e u' w'' ⟨rfl, rfl, d0, d1, hB2⟩
    refine ⟨.tuple #[.string .empty, .int .i64 10], ?_, rfl, hB2⟩
    simp [results, Tryd.results43, go_sem, k4, k5, d0, d1]
    rfl
  · refine (catch_delta w.heap.size (w.heap.size + 1) a0 a1 _ _ [] w W' c0 c1 z0 z1 (by omega) he hBw (Nat.le_refl _) (by omega)).mono ?_
    rintro e u' w'' ⟨rfl, rfl, d0, d1, hB2⟩
    refine ⟨.tuple #[.string .empty, .int .i64 190], ?_, rfl, hB2⟩
    simp [results, Tryd.results43, go_sem, k4, k5, d0, d1]
    rfl

set_option linter.unusedSimpArgs false in
set_option maxRecDepth 100000 in
set_option maxHeartbeats 1600000 in
theorem apply_long (old d : ByteArray) (a0 a1 : Addr) (w : World) (he : ErrCells a0 a1 w) (h : 8192 < old.size) :
    Calls Tryd.prog 43 #[.string old, .string d] w fun e w' => e = .returned (.tuple #[.string .empty, .int .i64 190]) ∧ Below w.heap.size w w' := by
  have hmf : ∀ (fn : Fn) (first cap : Array Value) (w : World), (Instr.makeFunc fn first cap).run Tryd.prog w = .ok (.func fn first cap) w := fun _ _ _ _ => rfl
  obtain ⟨W, hW⟩ : ∃ W, (w.alloc (.cells #[.string ⟨#[]⟩] 9)).alloc (.cells #[.int .i64 0] 26) = W := ⟨_, rfl⟩
  have hWs : applyW w = W := hW
  go_enter_defers Tryd.func43, Tryd.ntmps43
  go_wp2_with fail
  have hB : Below w.heap.size w W := by rw [← hWs]; exact applyW_below w
  have heW := he.below hB
  have hdl := heW.delta
  clear hW
  have ht : decide ((old.size : Int) ≤ 8192) = false := by simp; omega
  refine wp_region_dies (S := fun W' => W'.cell? ⟨2, 0, none⟩ = some (.iface 137 (.pointer (some a1)))) (by kernel_rfl) (fun c W' => c = [{ v := errV a1, recovered := false }] ∧ Below (w.heap.size + 2) (applyW w) W') (fun T => T[4]? = some (.pointer (some ⟨w.heap.size, 0, none⟩)) ∧ T[5]? = some (.pointer (some ⟨w.heap.size + 1, 0, none⟩))) (spares_two (by kernel_rfl)) ⟨rfl, rfl⟩ ?hQ hdl (fun hS => ?_)
  case hQ =>
    rintro c T W' ⟨rfl, hB'⟩ ⟨h4, h5⟩
    exact apply_door he hB' T ⟨h4, h5⟩ (.inr rfl)
  refine wpAnyH_take (i := 0) (v := ?v1) rfl (by kernel_rfl) (by kernel_rfl) (by kernel_rfl) (fun _ _ _ h => h) (Or.inl ⟨by rfl, ?hy1⟩) (by assumption) ?rest1
  case hy1 => intro w hSw; (try dsimp only at hSw); go_simp; try with_reducible rfl
  case rest1 =>
  try simp only [Act.put, List.setIfInBounds_toArray, List.set_cons_zero, List.set_cons_succ]
  refine wpAnyH_take (i := 2) (v := ?v2) rfl (by kernel_rfl) (by kernel_rfl) (by kernel_rfl) (fun _ _ _ h => h) (Or.inl ⟨by rfl, ?hy2⟩) (by assumption) ?rest2
  case hy2 => intro w hSw; (try dsimp only at hSw); go_simp; try with_reducible rfl
  case rest2 =>
  try simp only [Act.put, List.setIfInBounds_toArray, List.set_cons_zero, List.set_cons_succ]
  refine wpAnyH_ready (rs := [1]) (by kernel_rfl) (by simp) ?_
  refine AllReadyH.cons rfl (fun K hK => ?_) AllReadyH.nil
  go_simp
  go_at_call 52
  refine (isText_any _ _).mono ?_
  rintro e w' ⟨rfl, rfl⟩
  refine hK.out _ _ (hS) (fun hS => ?_)
  clear hK K
  try simp only [Act.put, List.setIfInBounds_toArray, List.set_cons_zero, List.set_cons_succ]
  refine wpAnyH_ready (rs := [3]) (by kernel_rfl) (by simp) ?_
  refine AllReadyH.cons rfl (fun K hK => ?_) AllReadyH.nil
  go_simp
  go_at_call 51
  refine (must_no _ _ _).mono ?_
  rintro e w' ⟨rfl, rfl⟩
  exact ⟨⟨rfl, Below.drew (Below.refl _ _)⟩, rfl⟩

set_option linter.unusedSimpArgs false in
set_option maxRecDepth 100000 in
set_option maxHeartbeats 12000000 in
theorem apply_short (old d : ByteArray) (a0 a1 : Addr) (w : World) (hn : NibCells w) (he : ErrCells a0 a1 w) (h : old.size ≤ 8192) (hd : d.size ≤ 4611686018427387904) :
    Calls Tryd.prog 43 #[.string old, .string d] w fun e w' => e = .returned (.tuple #[.string (applyF old d).1, .int .i64 (applyF old d).2]) ∧ Below w.heap.size w w' := by
  have hmf : ∀ (fn : Fn) (first cap : Array Value) (w : World), (Instr.makeFunc fn first cap).run Tryd.prog w = .ok (.func fn first cap) w := fun _ _ _ _ => rfl
  have HF : Hid (applyF old d = applyF old d) := Lib.hid rfl
  obtain ⟨W, hW⟩ : ∃ W, (w.alloc (.cells #[.string ⟨#[]⟩] 9)).alloc (.cells #[.int .i64 0] 26) = W := ⟨_, rfl⟩
  have hWs : applyW w = W := hW
  obtain ⟨v, hv⟩ : ∃ v, applyF old d = v := ⟨_, rfl⟩
  rw [hv]
  go_enter_defers Tryd.func43, Tryd.ntmps43
  go_wp2_with fail
  have hB : Below w.heap.size w W := by rw [← hWs]; exact applyW_below w
  have hdl := (he.below hB).delta
  have hsz : W.heap.size = w.heap.size + 2 := by rw [← hWs, applyW_size]
  clear hW
  have ht : decide ((old.size : Int) ≤ 8192) = true := by simp; omega
  go_region_held3 (fun W' => W'.cell? ⟨2, 0, none⟩ = some (.iface 137 (.pointer (some a1)))) (first | go_keep)
    (first | (go_at_call 52; refine (isText_any _ _).mono ?_; rintro e w' ⟨rfl, rfl⟩)
           | (go_at_call 51; refine (must_ok _ _).mono ?_; rintro e w' ⟨rfl, rfl⟩))
  obtain ⟨w2, hw2⟩ : ∃ w2, W.drew = w2 := ⟨_, rfl⟩
  have hs2 : w2.heap.size = w.heap.size + 2 := by rw [← hw2]; exact hsz
  have hB2 : Below (w.heap.size + 2) (applyW w) w2 := by rw [← hw2, hWs]; exact Below.drew (Below.refl _ _)
  rw [hw2]
  clear hw2 hdl ht hB
  go_wp2_with fail
  obtain ⟨w3, hw3⟩ : ∃ w3, w2.alloc (.cells #[.string d, .int .i64 0] 105) = w3 := ⟨_, rfl⟩
  have hB3 : Below (w.heap.size + 2) (applyW w) w3 := by rw [← hw3]; exact hB2.alloc (by omega) _
  have hr3 : Reads (w.heap.size + 2) d 0 w3 := ⟨by rw [← hw3, ← hs2]; exact heap_new _ _⟩
  have hs3 : w3.heap.size = w.heap.size + 3 := by rw [← hw3, World.size_alloc, hs2]
  have hb3 : Below w.heap.size w w3 := (applyW_below w).trans (hB3.mono (by omega))
  rw [hw3]
  clear hw3 hB2 hs2 hWs hsz
  have hee3 := he.below hb3
  have hdl3 := hee3.delta
  obtain ⟨n, nx, e1, hi1⟩ : ∃ n nx e1, intAt d 0 = (n, nx, e1) := ⟨_, _, _, rfl⟩
  by_cases h1 : e1 = 0
  · subst h1
    obtain ⟨sm, hsm⟩ : ∃ sm, sumB old = sm := ⟨_, rfl⟩
    have hn3 := hn.below hb3
    by_cases h2 : n = sm
    · have hv2 : applyRest old d (intAt d nx) = v := by rw [← hv]; unfold applyF; rw [if_neg (by omega), hi1, if_neg (by simp), if_neg (by rw [hsm]; simpa using h2)]
      have hq : (n == sm) = true := by simp [h2]
      refine wp_region_noPanic ?_
      refine wp_region_held_drew (S := fun W' => W'.cell? ⟨2, 0, none⟩ = some (.iface 137 (.pointer (some a1)))) (by kernel_rfl) hdl3 (fun hHeld => ?_)
      refine wpAnyH_take (i := 0) (v := ?v3) rfl (by kernel_rfl) (by kernel_rfl) (by kernel_rfl) (fun _ _ _ h => h) (Or.inl ⟨by rfl, ?hy3⟩) (by assumption) ?rest3
      case hy3 => intro w hSw; (try dsimp only at hSw); go_simp; try with_reducible rfl
      case rest3 =>
      try simp only [Act.put, List.setIfInBounds_toArray, List.set_cons_zero, List.set_cons_succ]
      refine wpAnyH_take (i := 2) (v := ?v4) rfl (by kernel_rfl) (by kernel_rfl) (by kernel_rfl) (fun _ _ _ h => h) (Or.inl ⟨by rfl, ?hy4⟩) (by assumption) ?rest4
      case hy4 => intro w hSw; (try dsimp only at hSw); go_simp; try with_reducible rfl
      case rest4 =>
      try simp only [Act.put, List.setIfInBounds_toArray, List.set_cons_zero, List.set_cons_succ]
      refine wpAnyH_take (i := 5) (v := ?v5) rfl (by kernel_rfl) (by kernel_rfl) (by kernel_rfl) (fun _ _ _ h => h) (Or.inl ⟨by rfl, ?hy5⟩) (by assumption) ?rest5
      case hy5 => intro w hSw; (try dsimp only at hSw); go_simp; try with_reducible rfl
      case rest5 =>
      try simp only [Act.put, List.setIfInBounds_toArray, List.set_cons_zero, List.set_cons_succ]
      refine wpAnyH_ready (rs := [1]) (by kernel_rfl) (by simp) ?_
      refine AllReadyH.cons rfl (fun K hK => ?_) AllReadyH.nil
      go_simp
      go_at_call 53
      refine (readInt_ok (w := w3.drew) ⟨hr3.heap⟩ hd a0 a1 ⟨hee3.wire, hee3.delta, hee3.ne, hee3.h0, hee3.h1⟩ hi1).mono ?_
      rintro e w4 ⟨rfl, k, hw4⟩
      have hg4 : w3.grownBy w4 (some (w.heap.size + 2)) := by rw [hw4]; exact gb_trans (gb_drewN w3 1 _) (gb_set _ _ _ _ _)
      have hr4 : Reads (w.heap.size + 2) d nx w4 := by rw [hw4]; exact Reads.put (w := w3.drew) ⟨hr3.heap⟩ _ _
      have hs4 : w4.heap.size = w.heap.size + 3 := by rw [hw4]; simpa [World.setCell] using hs3
      clear hw4
      have hB4 : Below (w.heap.size + 2) (applyW w) w4 := hB3.grown hg4 (by omega) (fun k hk => by cases hk; omega)
      have hb4 : Below w.heap.size w w4 := (applyW_below w).trans (hB4.mono (by omega))
      have hdl4 := (he.below hb4).delta
      refine hK.out _ _ (hdl4) (fun hS => ?_)
      clear hK K
      try simp only [Act.put, List.setIfInBounds_toArray, List.set_cons_zero, List.set_cons_succ]
      refine wpAnyH_ready (rs := [3]) (by kernel_rfl) (by simp) ?_
      refine AllReadyH.cons rfl (fun K hK => ?_) AllReadyH.nil
      go_simp
      go_at_call 34
      refine (sum_is hsm (by omega) _ (hn.below hb4)).mono ?_
      rintro e w' ⟨rfl, rfl⟩
      refine hK.out _ _ (hdl4) (fun hS => ?_)
      clear hK K
      try simp only [Act.put, List.setIfInBounds_toArray, List.set_cons_zero, List.set_cons_succ]
      refine wpAnyH_take (i := 4) (v := ?v6) rfl (by kernel_rfl) (by kernel_rfl) (by kernel_rfl) (fun _ _ _ h => h) (Or.inl ⟨by rfl, ?hy6⟩) (by assumption) ?rest6
      case hy6 => intro w hSw; (try dsimp only at hSw); go_simp; try with_reducible rfl
      case rest6 =>
      try simp only [Act.put, List.setIfInBounds_toArray, List.set_cons_zero, List.set_cons_succ]
      refine wpAnyH_ready (rs := [6]) (by kernel_rfl) (by simp) ?_
      refine AllReadyH.cons rfl (fun K hK => ?_) AllReadyH.nil
      go_simp
      go_at_call 51
      refine (must_ok _ _).mono ?_
      rintro e w' ⟨rfl, rfl⟩
      refine hK.out _ _ (hdl4) (fun hS => ?_)
      clear hK K
      try simp only [Act.put, List.setIfInBounds_toArray, List.set_cons_zero, List.set_cons_succ]
      refine wpAnyH_done (by kernel_rfl) ?_ _
      refine NoPanic.normal ?_
      go_wp2_with fail
      obtain ⟨want, nx2, e2, hi2⟩ : ∃ A B C, intAt d nx = (A, B, C) := ⟨_, _, _, rfl⟩
      rw [hi2] at hv2
      by_cases h3 : e2 = 0
      · subst h3
        refine (readInt_ok hr4 hd a0 a1 (he.below hb4) hi2).mono ?_
        rintro e w5 ⟨rfl, k5, hw5⟩
        have hg5 : w4.grownBy w5 (some (w.heap.size + 2)) := by rw [hw5]; exact gb_set _ _ _ _ _
        have hr5 : Reads (w.heap.size + 2) d nx2 w5 := by rw [hw5]; exact hr4.put _ _
        have hs5 : w5.heap.size = w.heap.size + 3 := by rw [hw5]; simpa [World.setCell] using hs4
        clear hw5
        have hB5 : Below (w.heap.size + 2) (applyW w) w5 := hB4.grown hg5 (by omega) (fun k hk => by cases hk; omega)
        have hfx := intAt_facts d nx
        rw [hi2] at hfx
        go_wp2_with fail
        obtain ⟨w6, hw6⟩ : ∃ w6, w5.alloc (.cells #[.pointer none, .slice none 0 0] 110) = w6 := ⟨_, rfl⟩
        have hB6 : Below (w.heap.size + 2) (applyW w) w6 := by rw [← hw6]; exact hB5.alloc (by omega) _
        have hr6 : Reads (w.heap.size + 2) d nx2 w6 := by rw [← hw6]; exact hr5.below ((Below.refl w5.heap.size w5).alloc (Nat.le_refl _) _) (by omega)
        have hs6 : w6.heap.size = w.heap.size + 4 := by rw [← hw6, World.size_alloc, hs5]
        have hl6 : BuiltF 110 (w.heap.size + 3) (w.heap.size + 3) [] w6 := by rw [← hw6, ← hs5]; exact BuiltF.new _ _ _ (Nat.le_refl _)
        rw [hw6]
        have Hv2 := Lib.hid hv2
        have H5 := Lib.hid (show 0 ≤ nx2 ∧ nx2 ≤ d.size by rcases hfx with h | h <;> simp at h; omega)
        clear hw6 hB5 hs5 hr5 hg5 hB4 hb4 hdl4 hg4 hr4 hs4 hfx hv2 hi2 hi1 hHeld hee3 hdl3 hb3 hn3 hs3 hr3 hB3 HF
        go_loopw [9] (fun _ wr => ∃ (j : Nat) (at_ : Int) (out : List UInt8), Reads (w.heap.size + 2) d at_ wr ∧ BuiltF 110 (w.heap.size + 3) (w.heap.size + 3) out wr ∧ out.length ≤ 8192 ∧ Hid (0 ≤ at_ ∧ (d.size : Int) ≤ j + at_) ∧ Hid (applyGo old d j at_ out = applyGo old d d.size nx2 []) ∧ Below (w.heap.size + 2) (applyW w) wr ∧ w.heap.size + 4 ≤ wr.heap.size) (fun _ wr => ((d.size : Int) - intOf ((wr.cell? ⟨w.heap.size + 2, 1, none⟩).getD (.int .i64 0))).toNat)
        case atStart => exact ⟨d.size, nx2, [], hr6, hl6, by simp, Lib.hid ⟨H5.out.1, by have := H5.out.1; omega⟩, Lib.hid rfl, hB6, by omega⟩
        case round =>
          obtain ⟨j, at_, out, hr, hl, ho, Hat, Hgo, hB, hsz⟩ := hrel
          have hc0 := hr.c0
          have hc1 := hr.c1
          have hb : Below w.heap.size w wr := (applyW_below w).trans (hB.mono (by omega))
          by_cases hlt : at_ < d.size
          · have t1 : decide (at_ < (d.size : Int)) = true := decide_eq_true hlt
            obtain ⟨s, nx3, er, hop⟩ : ∃ A B C, opAt old d at_ = (A, B, C) := ⟨_, _, _, rfl⟩
            by_cases her : er = 0
            · subst her
              have hf := opAt_facts hop
              have b1 : (out.length : Int) ≤ 8192 := by omega
              have b2 : (s.size : Int) ≤ 4611686018427387904 := by omega
              have b3 : IntKind.i64.wrap ((out.length : Int) + s.size) = (out.length : Int) + s.size := by rw [wrap_i64']; omega
              go_wp2_with fail
              refine (added_ok hr hd h he hb (by omega) hop).mono ?_
              rintro e w7 ⟨rfl, hg7, hr7⟩
              have hB7 : Below (w.heap.size + 2) (applyW w) w7 := hB.grown hg7 (by omega) (fun k hk => by cases hk; omega)
              have hb7 : Below w.heap.size w w7 := (applyW_below w).trans (hB7.mono (by omega))
              have hl7 : BuiltF 110 (w.heap.size + 3) (w.heap.size + 3) out w7 := hl.grown hg7 (by omega)
              have hdl7 := (he.below hb7).delta
              have hs7 := hg7.size
              have Hop := Lib.hid hop
              have Hc1 := Lib.hid hc1
              clear hop hc0 hc1 hr hl hB hb
              go_wp2_with fail
              by_cases hbig : 8192 < out.length + s.size
              · have t9 : decide ((out.length : Int) + s.size ≤ 8192) = false := by simp; omega
                have hv' : v = (.empty, 190) := by
                  rw [← Hv2.out]; unfold applyRest
                  rw [← Hgo.out, applyGo_long hlt Hat.out.2 Hop.out hbig, if_neg (by simp), if_pos (by simp)]
                subst hv'
                refine wp_region_dies (S := fun W' => W'.cell? ⟨2, 0, none⟩ = some (.iface 137 (.pointer (some a1)))) (by kernel_rfl) (fun c W' => c = [{ v := errV a1, recovered := false }] ∧ Below (w.heap.size + 2) (applyW w) W') (fun T => T[4]? = some (.pointer (some ⟨w.heap.size, 0, none⟩)) ∧ T[5]? = some (.pointer (some ⟨w.heap.size + 1, 0, none⟩))) (spares_two (by kernel_rfl)) ⟨rfl, rfl⟩ ?hQ2 hdl7 (fun hS => ?_)
                case hQ2 =>
                  rintro c T W' ⟨rfl, hB'⟩ ⟨h4, h5⟩
                  exact apply_door he hB' T ⟨h4, h5⟩ (.inr rfl)
                refine wpAnyH_take (i := 1) (v := ?v7) rfl (by kernel_rfl) (by kernel_rfl) (by kernel_rfl) (fun _ _ _ h => h) (Or.inl ⟨by rfl, ?hy7⟩) (by assumption) ?rest7
                case hy7 => intro w hSw; (try dsimp only at hSw); go_simp; try with_reducible rfl
                case rest7 =>
                try simp only [Act.put, List.setIfInBounds_toArray, List.set_cons_zero, List.set_cons_succ]
                refine wpAnyH_take (i := 2) (v := ?v8) rfl (by kernel_rfl) (by kernel_rfl) (by kernel_rfl) (fun _ _ _ h => h) (Or.inl ⟨by rfl, ?hy8⟩) (by assumption) ?rest8
                case hy8 => intro w hSw; (try dsimp only at hSw); go_simp; try with_reducible rfl
                case rest8 =>
                try simp only [Act.put, List.setIfInBounds_toArray, List.set_cons_zero, List.set_cons_succ]
                refine wpAnyH_take (i := 5) (v := ?v9) rfl (by kernel_rfl) (by kernel_rfl) (by kernel_rfl) (fun _ _ _ h => h) (Or.inl ⟨by rfl, ?hy9⟩) (by assumption) ?rest9
                case hy9 => intro w hSw; (try dsimp only at hSw); go_simp; try with_reducible rfl
                case rest9 =>
                try simp only [Act.put, List.setIfInBounds_toArray, List.set_cons_zero, List.set_cons_succ]
                refine wpAnyH_ready (rs := [0]) (by kernel_rfl) (by simp) ?_
                refine AllReadyH.cons rfl (fun K hK => ?_) AllReadyH.nil
                go_simp
                go_at_call 55
                refine (builderLen_any (T := 110) (w.heap.size + 3) (w.heap.size + 3) out w7.drew hl7).mono ?_
                rintro e w' ⟨rfl, rfl⟩
                refine hK.out _ _ (hdl7) (fun hS => ?_)
                clear hK K
                try simp only [Act.put, List.setIfInBounds_toArray, List.set_cons_zero, List.set_cons_succ]
                refine wpAnyH_take (i := 3) (v := ?v10) rfl (by kernel_rfl) (by kernel_rfl) (by kernel_rfl) (fun _ _ _ h => h) (Or.inl ⟨by rfl, ?hy10⟩) (by assumption) ?rest10
                case hy10 => intro w hSw; (try dsimp only at hSw); go_simp; try with_reducible rfl
                case rest10 =>
                try simp only [Act.put, List.setIfInBounds_toArray, List.set_cons_zero, List.set_cons_succ]
                refine wpAnyH_take (i := 4) (v := ?v11) rfl (by kernel_rfl) (by kernel_rfl) (by kernel_rfl) (fun _ _ _ h => h) (Or.inl ⟨by rfl, ?hy11⟩) (by assumption) ?rest11
                case hy11 => intro w hSw; (try dsimp only at hSw); go_simp; try with_reducible rfl
                case rest11 =>
                try simp only [Act.put, List.setIfInBounds_toArray, List.set_cons_zero, List.set_cons_succ]
                refine wpAnyH_ready (rs := [6]) (by kernel_rfl) (by simp) ?_
                refine AllReadyH.cons rfl (fun K hK => ?_) AllReadyH.nil
                go_simp
                go_at_call 51
                refine (must_no _ _ _).mono ?_
                rintro e w' ⟨rfl, rfl⟩
                exact ⟨⟨rfl, hB7.drew⟩, rfl⟩
              · have t9 : decide ((out.length : Int) + s.size ≤ 8192) = true := by simp; omega
                refine wp_region_noPanic ?_
                refine wp_region_held_drew (S := fun W' => W'.cell? ⟨2, 0, none⟩ = some (.iface 137 (.pointer (some a1)))) (by kernel_rfl) hdl7 (fun hHeld => ?_)
                refine wpAnyH_take (i := 1) (v := ?v12) rfl (by kernel_rfl) (by kernel_rfl) (by kernel_rfl) (fun _ _ _ h => h) (Or.inl ⟨by rfl, ?hy12⟩) (by assumption) ?rest12
                case hy12 => intro w hSw; (try dsimp only at hSw); go_simp; try with_reducible rfl
                case rest12 =>
                try simp only [Act.put, List.setIfInBounds_toArray, List.set_cons_zero, List.set_cons_succ]
                refine wpAnyH_take (i := 2) (v := ?v13) rfl (by kernel_rfl) (by kernel_rfl) (by kernel_rfl) (fun _ _ _ h => h) (Or.inl ⟨by rfl, ?hy13⟩) (by assumption) ?rest13
                case hy13 => intro w hSw; (try dsimp only at hSw); go_simp; try with_reducible rfl
                case rest13 =>
                try simp only [Act.put, List.setIfInBounds_toArray, List.set_cons_zero, List.set_cons_succ]
                refine wpAnyH_take (i := 5) (v := ?v14) rfl (by kernel_rfl) (by kernel_rfl) (by kernel_rfl) (fun _ _ _ h => h) (Or.inl ⟨by rfl, ?hy14⟩) (by assumption) ?rest14
                case hy14 => intro w hSw; (try dsimp only at hSw); go_simp; try with_reducible rfl
                case rest14 =>
                try simp only [Act.put, List.setIfInBounds_toArray, List.set_cons_zero, List.set_cons_succ]
                refine wpAnyH_ready (rs := [0]) (by kernel_rfl) (by simp) ?_
                refine AllReadyH.cons rfl (fun K hK => ?_) AllReadyH.nil
                go_simp
                go_at_call 55
                refine (builderLen_any (T := 110) (w.heap.size + 3) (w.heap.size + 3) out w7.drew hl7).mono ?_
                rintro e w' ⟨rfl, rfl⟩
                refine hK.out _ _ (hdl7) (fun hS => ?_)
                clear hK K
                try simp only [Act.put, List.setIfInBounds_toArray, List.set_cons_zero, List.set_cons_succ]
                refine wpAnyH_take (i := 3) (v := ?v15) rfl (by kernel_rfl) (by kernel_rfl) (by kernel_rfl) (fun _ _ _ h => h) (Or.inl ⟨by rfl, ?hy15⟩) (by assumption) ?rest15
                case hy15 => intro w hSw; (try dsimp only at hSw); go_simp; try with_reducible rfl
                case rest15 =>
                try simp only [Act.put, List.setIfInBounds_toArray, List.set_cons_zero, List.set_cons_succ]
                refine wpAnyH_take (i := 4) (v := ?v16) rfl (by kernel_rfl) (by kernel_rfl) (by kernel_rfl) (fun _ _ _ h => h) (Or.inl ⟨by rfl, ?hy16⟩) (by assumption) ?rest16
                case hy16 => intro w hSw; (try dsimp only at hSw); go_simp; try with_reducible rfl
                case rest16 =>
                try simp only [Act.put, List.setIfInBounds_toArray, List.set_cons_zero, List.set_cons_succ]
                refine wpAnyH_ready (rs := [6]) (by kernel_rfl) (by simp) ?_
                refine AllReadyH.cons rfl (fun K hK => ?_) AllReadyH.nil
                go_simp
                go_at_call 51
                refine (must_ok _ _).mono ?_
                rintro e w' ⟨rfl, rfl⟩
                refine hK.out _ _ (hdl7) (fun hS => ?_)
                clear hK K
                try simp only [Act.put, List.setIfInBounds_toArray, List.set_cons_zero, List.set_cons_succ]
                refine wpAnyH_done (by kernel_rfl) ?_ _
                refine NoPanic.normal ?_
                go_wp2_with fail
                refine (builderWrite_any builderT (w.heap.size + 3) (w.heap.size + 3) out s w7.drew hl7 (by omega) (by simp; omega)).mono ?_
                rintro e w8 ⟨rfl, hl8, hB8⟩
                go_wp2_with fail
                go_roundw
                case rel =>
                  obtain ⟨j', hj, hstep⟩ := applyGo_step hlt Hat.out.2 Hop.out hbig
                  exact ⟨j', nx3, out ++ s.data.toList, (show Reads (w.heap.size + 2) d nx3 w7.drew from ⟨hr7.heap⟩).below hB8 (by omega), hl8, by rw [List.length_append, ba_size]; omega, Lib.hid ⟨by have := Hat.out.1; omega, by have := Hat.out.2; omega⟩, Lib.hid (hstep.symm.trans Hgo.out), hB7.trans ((show Below (w.heap.size + 2) w7 w7.drew from Below.drew (Below.refl _ _)).trans (hB8.mono (by omega))), by have := hB8.size; simp at this; omega⟩
                case measure =>
                  have e8 : w8.cell? ⟨w.heap.size + 2, 1, none⟩ = some (.int .i64 nx3) := ((show Reads (w.heap.size + 2) d nx3 w7.drew from ⟨hr7.heap⟩).below hB8 (by omega)).c1
                  rw [e8, Hc1.out]
                  simp only [Option.getD_some, intOf]
                  omega
            · have hv' : v = (.empty, er) := by
                rw [← Hv2.out]; unfold applyRest
                rw [← Hgo.out, applyGo_bad hlt Hat.out.2 hop her, if_neg (by simp), if_pos her]
              subst hv'
              go_wp2_with fail
              refine (added_bad hr hd h he hb (by omega) hop her).mono ?_
              rintro e w7 ⟨⟨rfl, her2⟩, hg7⟩
              go_wp2_with fail
              refine apply_door he (hB.grown hg7 (by omega) (fun k hk => by cases hk; omega)) _ ?_ her2
              exact ⟨rfl, rfl⟩
          · have t1 : decide (at_ < (d.size : Int)) = false := decide_eq_false hlt
            have hgd := applyGo_done (old := old) (k := j) (out := out) (show (d.size : Int) ≤ at_ by omega)
            have hv3 := Hv2.out
            unfold applyRest at hv3
            rw [← Hgo.out, hgd, if_neg (by simp), if_neg (by simp)] at hv3
            obtain ⟨O, hO⟩ : ∃ O : ByteArray, ⟨out.toArray⟩ = O := ⟨_, rfl⟩
            obtain ⟨so, hso⟩ : ∃ so, sumB O = so := ⟨_, rfl⟩
            simp only [hO, hso] at hv3
            have hOs : O.size ≤ 8192 := by rw [← hO]; exact ho
            have Hgd := Lib.hid hgd
            have hdl8 := (he.below hb).delta
            clear hgd
            go_wp2_with fail
            by_cases hw8 : so = want
            · have q8 : (so == want) = true := by simp [hw8]
              rw [if_neg (by simpa using hw8)] at hv3
              subst hv3
              refine wp_region_noPanic ?_
              refine wp_region_held_drew (S := fun W' => W'.cell? ⟨2, 0, none⟩ = some (.iface 137 (.pointer (some a1)))) (by kernel_rfl) hdl8 (fun hHeld => ?_)
              refine wpAnyH_take (i := 2) (v := ?v17) rfl (by kernel_rfl) (by kernel_rfl) (by kernel_rfl) (fun _ _ _ h => h) (Or.inl ⟨by rfl, ?hy17⟩) (by assumption) ?rest17
              case hy17 => intro w hSw; (try dsimp only at hSw); go_simp; try with_reducible rfl
              case rest17 =>
              try simp only [Act.put, List.setIfInBounds_toArray, List.set_cons_zero, List.set_cons_succ]
              refine wpAnyH_take (i := 4) (v := ?v18) rfl (by kernel_rfl) (by kernel_rfl) (by kernel_rfl) (fun _ _ _ h => h) (Or.inl ⟨by rfl, ?hy18⟩) (by assumption) ?rest18
              case hy18 => intro w hSw; (try dsimp only at hSw); go_simp; try with_reducible rfl
              case rest18 =>
              try simp only [Act.put, List.setIfInBounds_toArray, List.set_cons_zero, List.set_cons_succ]
              refine wpAnyH_ready (rs := [0]) (by kernel_rfl) (by simp) ?_
              refine AllReadyH.cons rfl (fun K hK => ?_) AllReadyH.nil
              go_simp
              go_at_call 57
              refine (builderString_any (T := 110) (w.heap.size + 3) (w.heap.size + 3) out wr.drew hl (by simp; omega)).mono ?_
              rintro e w9 ⟨rfl, hl9, hB9⟩
              rw [hO]
              have hBA : Below (w.heap.size + 2) (applyW w) w9 := hB.trans (Below.trans (show Below (w.heap.size + 2) wr wr.drew from Below.drew (Below.refl _ _)) (hB9.mono (by omega)))
              have hbA : Below w.heap.size w w9 := (applyW_below w).trans (hBA.mono (by omega))
              have hdl9 := (he.below hbA).delta
              refine hK.out _ _ (hdl9) (fun hS => ?_)
              clear hK K
              try simp only [Act.put, List.setIfInBounds_toArray, List.set_cons_zero, List.set_cons_succ]
              refine wpAnyH_ready (rs := [1]) (by kernel_rfl) (by simp) ?_
              refine AllReadyH.cons rfl (fun K hK => ?_) AllReadyH.nil
              go_simp
              go_at_call 34
              refine (sum_is hso (by omega) _ (hn.below hbA)).mono ?_
              rintro e w' ⟨rfl, rfl⟩
              refine hK.out _ _ (hdl9) (fun hS => ?_)
              clear hK K
              try simp only [Act.put, List.setIfInBounds_toArray, List.set_cons_zero, List.set_cons_succ]
              refine wpAnyH_take (i := 3) (v := ?v19) rfl (by kernel_rfl) (by kernel_rfl) (by kernel_rfl) (fun _ _ _ h => h) (Or.inl ⟨by rfl, ?hy19⟩) (by assumption) ?rest19
              case hy19 => intro w hSw; (try dsimp only at hSw); go_simp; try with_reducible rfl
              case rest19 =>
              try simp only [Act.put, List.setIfInBounds_toArray, List.set_cons_zero, List.set_cons_succ]
              refine wpAnyH_ready (rs := [5]) (by kernel_rfl) (by simp) ?_
              refine AllReadyH.cons rfl (fun K hK => ?_) AllReadyH.nil
              go_simp
              go_at_call 51
              refine (must_ok _ _).mono ?_
              rintro e w' ⟨rfl, rfl⟩
              refine hK.out _ _ (hdl9) (fun hS => ?_)
              clear hK K
              try simp only [Act.put, List.setIfInBounds_toArray, List.set_cons_zero, List.set_cons_succ]
              refine wpAnyH_done (by kernel_rfl) ?_ _
              refine NoPanic.normal ?_
              go_wp2_with fail
              refine (builderString_any (T := 110) (w.heap.size + 3) (w.heap.size + 3) out w9 hl9 (by have := hB9.size; simp at this; omega)).mono ?_
              rintro e wA ⟨rfl, hlA, hBa⟩
              rw [hO]
              have hBB : Below (w.heap.size + 2) (applyW w) wA := hBA.trans (hBa.mono (by omega))
              have g0 := (hBB.block _ (show w.heap.size < w.heap.size + 2 by omega)).trans (applyW_heap0 w)
              have g1 := (hBB.block _ (show w.heap.size + 1 < w.heap.size + 2 by omega)).trans (applyW_heap1 w)
              have c0 : wA.cell? ⟨w.heap.size, 0, none⟩ = some (.string ⟨#[]⟩) := by rw [Lib.cell_of_heap g0]; rfl
              have c1 : wA.cell? ⟨w.heap.size + 1, 0, none⟩ = some (.int .i64 0) := by rw [Lib.cell_of_heap g1]; rfl
              have z0 : wA.frozen? ⟨w.heap.size, 0, none⟩ = false := Lib.frozen_of_heap g0 0
              have z1 : wA.frozen? ⟨w.heap.size + 1, 0, none⟩ = false := Lib.frozen_of_heap g1 0
              have e1 : (wA.setCell ⟨w.heap.size, 0, none⟩ (.string O)).cell? ⟨w.heap.size + 1, 0, none⟩ = some (.int .i64 0) := (cell_apart (by simp)).trans c1
              have e0 : (wA.setCell ⟨w.heap.size, 0, none⟩ (.string O)).cell? ⟨w.heap.size, 0, none⟩ = some (.string O) := World.cell?_setCell_same _ _ _ c0
              have hBC : Below w.heap.size w ((wA.setCell ⟨w.heap.size, 0, none⟩ (.string O)).setCell ⟨w.heap.size + 1, 0, none⟩ (.int .i64 0)) := (((applyW_below w).trans (hBB.mono (by omega))).setCell (p := ⟨w.heap.size, 0, none⟩) (Nat.le_refl _) _).setCell (p := ⟨w.heap.size + 1, 0, none⟩) (by simp) _
              have f0 : ((wA.setCell ⟨w.heap.size, 0, none⟩ (.string O)).setCell ⟨w.heap.size + 1, 0, none⟩ (.int .i64 0)).cell? ⟨w.heap.size, 0, none⟩ = some (.string O) := (cell_apart (by simp)).trans e0
              have f1 : ((wA.setCell ⟨w.heap.size, 0, none⟩ (.string O)).setCell ⟨w.heap.size + 1, 0, none⟩ (.int .i64 0)).cell? ⟨w.heap.size + 1, 0, none⟩ = some (.int .i64 0) := World.cell?_setCell_same _ _ _ e1
              have HBC := Lib.hid hBC
              have F0 := Lib.hid f0
              have F1 := Lib.hid f1
              clear hBC f0 f1
              go_wp2_with fail
              refine leaves_cons (f := 49) (args := #[.pointer (some ⟨w.heap.size, 0, none⟩), .pointer (some ⟨w.heap.size + 1, 0, none⟩)]) (by simp) (by simp [go_sem]) ?_
              refine (catch_idle w.heap.size (w.heap.size + 1) _).mono ?_
              rintro e u' w'' ⟨rfl, rfl, rfl⟩
              have f0 := F0.out
              have f1 := F1.out
              refine ⟨.tuple #[.string O, .int .i64 0], ?_, rfl, HBC.out⟩
              simp [results, Tryd.results43, go_sem, f0, f1]
            · have q8 : (so == want) = false := by simp [hw8]
              rw [if_pos (by simpa using hw8)] at hv3
              subst hv3
              refine wp_region_dies (S := fun W' => W'.cell? ⟨2, 0, none⟩ = some (.iface 137 (.pointer (some a1)))) (by kernel_rfl) (fun c W' => c = [{ v := errV a1, recovered := false }] ∧ Below (w.heap.size + 2) (applyW w) W') (fun T => T[4]? = some (.pointer (some ⟨w.heap.size, 0, none⟩)) ∧ T[5]? = some (.pointer (some ⟨w.heap.size + 1, 0, none⟩))) (spares_two (by kernel_rfl)) ⟨rfl, rfl⟩ ?hQ3 hdl8 (fun hS => ?_)
              case hQ3 =>
                rintro c T W' ⟨rfl, hB'⟩ ⟨h4, h5⟩
                exact apply_door he hB' T ⟨h4, h5⟩ (.inr rfl)
              refine wpAnyH_take (i := 2) (v := ?v20) rfl (by kernel_rfl) (by kernel_rfl) (by kernel_rfl) (fun _ _ _ h => h) (Or.inl ⟨by rfl, ?hy20⟩) (by assumption) ?rest20
              case hy20 => intro w hSw; (try dsimp only at hSw); go_simp; try with_reducible rfl
              case rest20 =>
              try simp only [Act.put, List.setIfInBounds_toArray, List.set_cons_zero, List.set_cons_succ]
              refine wpAnyH_take (i := 4) (v := ?v21) rfl (by kernel_rfl) (by kernel_rfl) (by kernel_rfl) (fun _ _ _ h => h) (Or.inl ⟨by rfl, ?hy21⟩) (by assumption) ?rest21
              case hy21 => intro w hSw; (try dsimp only at hSw); go_simp; try with_reducible rfl
              case rest21 =>
              try simp only [Act.put, List.setIfInBounds_toArray, List.set_cons_zero, List.set_cons_succ]
              refine wpAnyH_ready (rs := [0]) (by kernel_rfl) (by simp) ?_
              refine AllReadyH.cons rfl (fun K hK => ?_) AllReadyH.nil
              go_simp
              go_at_call 57
              refine (builderString_any (T := 110) (w.heap.size + 3) (w.heap.size + 3) out wr.drew hl (by simp; omega)).mono ?_
              rintro e w9 ⟨rfl, hl9, hB9⟩
              rw [hO]
              have hBA : Below (w.heap.size + 2) (applyW w) w9 := hB.trans (Below.trans (show Below (w.heap.size + 2) wr wr.drew from Below.drew (Below.refl _ _)) (hB9.mono (by omega)))
              have hbA : Below w.heap.size w w9 := (applyW_below w).trans (hBA.mono (by omega))
              have hdl9 := (he.below hbA).delta
              refine hK.out _ _ (hdl9) (fun hS => ?_)
              clear hK K
              try simp only [Act.put, List.setIfInBounds_toArray, List.set_cons_zero, List.set_cons_succ]
              refine wpAnyH_ready (rs := [1]) (by kernel_rfl) (by simp) ?_
              refine AllReadyH.cons rfl (fun K hK => ?_) AllReadyH.nil
              go_simp
              go_at_call 34
              refine (sum_is hso (by omega) _ (hn.below hbA)).mono ?_
              rintro e w' ⟨rfl, rfl⟩
              refine hK.out _ _ (hdl9) (fun hS => ?_)
              clear hK K
              try simp only [Act.put, List.setIfInBounds_toArray, List.set_cons_zero, List.set_cons_succ]
              refine wpAnyH_take (i := 3) (v := ?v22) rfl (by kernel_rfl) (by kernel_rfl) (by kernel_rfl) (fun _ _ _ h => h) (Or.inl ⟨by rfl, ?hy22⟩) (by assumption) ?rest22
              case hy22 => intro w hSw; (try dsimp only at hSw); go_simp; try with_reducible rfl
              case rest22 =>
              try simp only [Act.put, List.setIfInBounds_toArray, List.set_cons_zero, List.set_cons_succ]
              refine wpAnyH_ready (rs := [5]) (by kernel_rfl) (by simp) ?_
              refine AllReadyH.cons rfl (fun K hK => ?_) AllReadyH.nil
              go_simp
              go_at_call 51
              refine (must_no _ _ _).mono ?_
              rintro e w' ⟨rfl, rfl⟩
              exact ⟨⟨rfl, hBA⟩, rfl⟩
      · have hv' : v = (.empty, 10) := by rw [← hv2]; unfold applyRest; rw [if_pos h3]
        subst hv'
        refine (readInt_bad hr4 hd a0 a1 (he.below hb4) hi2 h3).mono ?_
        rintro e w5 ⟨rfl, k5, rfl⟩
        go_wp2_with fail
        refine apply_door (W' := w4.drewN k5) he (hB4.trans ⟨rfl, rfl, rfl, Nat.le_refl _, fun _ _ => rfl⟩) _ ?_ (.inl rfl)
        exact ⟨rfl, rfl⟩
    · have hv' : v = (.empty, 190) := by rw [← hv]; unfold applyF; rw [if_neg (by omega), hi1, if_neg (by simp), if_pos (by rw [hsm]; simpa using h2)]
      subst hv'
      have hq : (n == sm) = false := by simp [h2]
      refine wp_region_dies (S := fun W' => W'.cell? ⟨2, 0, none⟩ = some (.iface 137 (.pointer (some a1)))) (by kernel_rfl) (fun c W' => c = [{ v := errV a1, recovered := false }] ∧ Below (w.heap.size + 2) (applyW w) W') (fun T => T[4]? = some (.pointer (some ⟨w.heap.size, 0, none⟩)) ∧ T[5]? = some (.pointer (some ⟨w.heap.size + 1, 0, none⟩))) (spares_two (by kernel_rfl)) ⟨rfl, rfl⟩ ?hQ hdl3 (fun hS => ?_)
      case hQ =>
        rintro c T W' ⟨rfl, hB'⟩ ⟨h4, h5⟩
        exact apply_door he hB' T ⟨h4, h5⟩ (.inr rfl)
      refine wpAnyH_take (i := 0) (v := ?v23) rfl (by kernel_rfl) (by kernel_rfl) (by kernel_rfl) (fun _ _ _ h => h) (Or.inl ⟨by rfl, ?hy23⟩) (by assumption) ?rest23
      case hy23 => intro w hSw; (try dsimp only at hSw); go_simp; try with_reducible rfl
      case rest23 =>
      try simp only [Act.put, List.setIfInBounds_toArray, List.set_cons_zero, List.set_cons_succ]
      refine wpAnyH_take (i := 2) (v := ?v24) rfl (by kernel_rfl) (by kernel_rfl) (by kernel_rfl) (fun _ _ _ h => h) (Or.inl ⟨by rfl, ?hy24⟩) (by assumption) ?rest24
      case hy24 => intro w hSw; (try dsimp only at hSw); go_simp; try with_reducible rfl
      case rest24 =>
      try simp only [Act.put, List.setIfInBounds_toArray, List.set_cons_zero, List.set_cons_succ]
      refine wpAnyH_take (i := 5) (v := ?v25) rfl (by kernel_rfl) (by kernel_rfl) (by kernel_rfl) (fun _ _ _ h => h) (Or.inl ⟨by rfl, ?hy25⟩) (by assumption) ?rest25
      case hy25 => intro w hSw; (try dsimp only at hSw); go_simp; try with_reducible rfl
      case rest25 =>
      try simp only [Act.put, List.setIfInBounds_toArray, List.set_cons_zero, List.set_cons_succ]
      refine wpAnyH_ready (rs := [1]) (by kernel_rfl) (by simp) ?_
      refine AllReadyH.cons rfl (fun K hK => ?_) AllReadyH.nil
      go_simp
      go_at_call 53
      refine (readInt_ok (w := w3.drew) ⟨hr3.heap⟩ hd a0 a1 ⟨hee3.wire, hee3.delta, hee3.ne, hee3.h0, hee3.h1⟩ hi1).mono ?_
      rintro e w4 ⟨rfl, k, hw4⟩
      have hg4 : w3.grownBy w4 (some (w.heap.size + 2)) := by rw [hw4]; exact gb_trans (gb_drewN w3 1 _) (gb_set _ _ _ _ _)
      clear hw4
      have hB4 : Below (w.heap.size + 2) (applyW w) w4 := hB3.grown hg4 (by omega) (fun k hk => by cases hk; omega)
      have hb4 : Below w.heap.size w w4 := (applyW_below w).trans (hB4.mono (by omega))
      have hdl4 := (he.below hb4).delta
      refine hK.out _ _ (hdl4) (fun hS => ?_)
      clear hK K
      try simp only [Act.put, List.setIfInBounds_toArray, List.set_cons_zero, List.set_cons_succ]
      refine wpAnyH_ready (rs := [3]) (by kernel_rfl) (by simp) ?_
      refine AllReadyH.cons rfl (fun K hK => ?_) AllReadyH.nil
      go_simp
      go_at_call 34
      refine (sum_is hsm (by omega) _ (hn.below hb4)).mono ?_
      rintro e w' ⟨rfl, rfl⟩
      refine hK.out _ _ (hdl4) (fun hS => ?_)
      clear hK K
      try simp only [Act.put, List.setIfInBounds_toArray, List.set_cons_zero, List.set_cons_succ]
      refine wpAnyH_take (i := 4) (v := ?v26) rfl (by kernel_rfl) (by kernel_rfl) (by kernel_rfl) (fun _ _ _ h => h) (Or.inl ⟨by rfl, ?hy26⟩) (by assumption) ?rest26
      case hy26 => intro w hSw; (try dsimp only at hSw); go_simp; try with_reducible rfl
      case rest26 =>
      try simp only [Act.put, List.setIfInBounds_toArray, List.set_cons_zero, List.set_cons_succ]
      refine wpAnyH_ready (rs := [6]) (by kernel_rfl) (by simp) ?_
      refine AllReadyH.cons rfl (fun K hK => ?_) AllReadyH.nil
      go_simp
      go_at_call 51
      refine (must_no _ _ _).mono ?_
      rintro e w' ⟨rfl, rfl⟩
      exact ⟨⟨rfl, hB4⟩, rfl⟩
  · have hv' : v = (.empty, 10) := by rw [← hv]; unfold applyF; rw [if_neg (by omega), hi1, if_pos h1]
    subst hv'
    refine wp_region_dies (S := fun W' => W'.cell? ⟨2, 0, none⟩ = some (.iface 137 (.pointer (some a1)))) (by kernel_rfl) (fun c W' => c = [{ v := errV a0, recovered := false }] ∧ Below (w.heap.size + 2) (applyW w) W') (fun T => T[4]? = some (.pointer (some ⟨w.heap.size, 0, none⟩)) ∧ T[5]? = some (.pointer (some ⟨w.heap.size + 1, 0, none⟩))) (spares_two (by kernel_rfl)) ⟨rfl, rfl⟩ ?hQ hdl3 (fun hS => ?_)
    case hQ =>
      rintro c T W' ⟨rfl, hB'⟩ ⟨h4, h5⟩
      exact apply_door he hB' T ⟨h4, h5⟩ (.inl rfl)
    refine wpAnyH_take (i := 0) (v := ?v27) rfl (by kernel_rfl) (by kernel_rfl) (by kernel_rfl) (fun _ _ _ h => h) (Or.inl ⟨by rfl, ?hy27⟩) (by assumption) ?rest27
    case hy27 => intro w hSw; (try dsimp only at hSw); go_simp; try with_reducible rfl
    case rest27 =>
    try simp only [Act.put, List.setIfInBounds_toArray, List.set_cons_zero, List.set_cons_succ]
    refine wpAnyH_take (i := 2) (v := ?v28) rfl (by kernel_rfl) (by kernel_rfl) (by kernel_rfl) (fun _ _ _ h => h) (Or.inl ⟨by rfl, ?hy28⟩) (by assumption) ?rest28
    case hy28 => intro w hSw; (try dsimp only at hSw); go_simp; try with_reducible rfl
    case rest28 =>
    try simp only [Act.put, List.setIfInBounds_toArray, List.set_cons_zero, List.set_cons_succ]
    refine wpAnyH_take (i := 5) (v := ?v29) rfl (by kernel_rfl) (by kernel_rfl) (by kernel_rfl) (fun _ _ _ h => h) (Or.inl ⟨by rfl, ?hy29⟩) (by assumption) ?rest29
    case hy29 => intro w hSw; (try dsimp only at hSw); go_simp; try with_reducible rfl
    case rest29 =>
    try simp only [Act.put, List.setIfInBounds_toArray, List.set_cons_zero, List.set_cons_succ]
    refine wpAnyH_ready (rs := [1]) (by kernel_rfl) (by simp) ?_
    refine AllReadyH.cons rfl (fun K hK => ?_) AllReadyH.nil
    go_simp
    go_at_call 53
    refine (readInt_bad (w := w3.drew) ⟨hr3.heap⟩ hd a0 a1 ⟨hee3.wire, hee3.delta, hee3.ne, hee3.h0, hee3.h1⟩ hi1 h1).mono ?_
    rintro e w' ⟨rfl, k, rfl⟩
    exact ⟨⟨rfl, hB3.trans ⟨rfl, rfl, rfl, Nat.le_refl _, fun _ _ => rfl⟩⟩, rfl⟩
theorem apply_any (old d : ByteArray) (a0 a1 : Addr) (w : World) (hn : NibCells w) (he : ErrCells a0 a1 w) (hd : d.size ≤ 4611686018427387904) :
    Calls Tryd.prog 43 #[.string old, .string d] w fun e w' => e = .returned (.tuple #[.string (applyF old d).1, .int .i64 (applyF old d).2]) ∧ Below w.heap.size w w' := by
  by_cases h : 8192 < old.size
  · have e : applyF old d = (.empty, 190) := by unfold applyF; rw [if_pos h]
    rw [e]
    exact apply_long old d a0 a1 w he h
  · exact apply_short old d a0 a1 w hn he (by omega) hd
end Go.Proofs.YtkpgadjhcnkadaaDoor
