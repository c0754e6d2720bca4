/- delta.Apply: what it computes. -/
import Derived.Test.YtkpgadjhcnkadaaDoorPureWire
import Derived.Test.YtkpgadjhcnkadaaDoorWalkRead
import Derived.Test.YtkpgadjhcnkadaaDoorBuilder
import Derived.Test.YtkpgadjhcnkadaaDoorErrorsIs
import Derived.Defers
import Derived.Recover
import Derived.RegionTactic
import Derived.BigRegion
import Derived.Deep.RegionWith
import Derived.Deep.QuietTactic
import Derived.BigQuiet
namespace Go.Proofs.YtkpgadjhcnkadaaDoor
open Go.RowKit

theorem quiet_left' {P : Program} {f : FuncId} {args : Array Value} {w : World} {n : Nat} {v : Value}
    (h : Calls P f args (w.drewN n) fun e w' => e = .returned v ∧ w.drewN n = w') : Calls P f args (w.drewN n) fun e w'' => e = .returned v ∧ ∃ m, w'' = w.drewN m :=
  h.mono fun _ _ ⟨he, hm⟩ => ⟨he, n, hm.symm⟩
theorem must_ok (v : Value) (w : World) : Calls Tryd.prog 51 #[.bool true, v] w fun e w' => e = .returned (.tuple #[]) ∧ w = w' := by
  go_enter Tryd.func51, Tryd.ntmps51
  go_wp2
  go_end0
  exact ⟨rfl, rfl⟩
theorem must_no (t : TypeId) (v : Value) (w : World) : Calls Tryd.prog 51 #[.bool false, .iface t v] w fun e w' => e = .panicked [{ v := .iface t v, recovered := false }] ∧ w = w' := by
  go_enter Tryd.func51, Tryd.ntmps51
  go_wp2
  exact ⟨rfl, rfl, rfl⟩
theorem must_yes {c : Bool} (h : c = true) (v : Value) (w : World) : Calls Tryd.prog 51 #[.bool c, v] w fun e w' => e = .returned (.tuple #[]) ∧ w = w' := by subst h; exact must_ok v w
theorem must_nay {c : Bool} (h : c = false) (t : TypeId) (v : Value) (w : World) : Calls Tryd.prog 51 #[.bool c, .iface t v] w fun e w' => e = .panicked [{ v := .iface t v, recovered := false }] ∧ w = w' := by subst h; exact must_no t v w
theorem isEmpty_size (s : ByteArray) : s.toList.isEmpty = decide (s.size = 0) := by
  rw [ByteArray.toList_eq, ← ba_size]
  cases s.data.toList <;> simp
theorem isText_any (s : ByteArray) (w : World) : Calls Tryd.prog 52 #[.string s] w fun e w' => e = .returned (.bool (decide ((s.size : Int) ≤ 8192))) ∧ w = w' := by
  go_enter Tryd.func52, Tryd.ntmps52
  go_wp2
  all_goals (go_ret; exact ⟨by simp_all, rfl⟩)

def errV (a : Addr) : Value := .iface 137 (.pointer (some a))
/-- The reader in block b. -/
structure Reads (b : Nat) (d : ByteArray) (at_ : Int) (w : World) : Prop where
  heap : w.heap[b]? = some (.cells #[.string d, .int .i64 at_] 105 (0, 0))
theorem Reads.c0 {b : Nat} {d : ByteArray} {at_ : Int} {w : World} (h : Reads b d at_ w) : w.cell? ⟨b, 0, none⟩ = some (.string d) := by rw [Lib.cell_of_heap h.heap]; rfl
theorem Reads.c1 {b : Nat} {d : ByteArray} {at_ : Int} {w : World} (h : Reads b d at_ w) : w.cell? ⟨b, 1, none⟩ = some (.int .i64 at_) := by rw [Lib.cell_of_heap h.heap]; rfl
theorem Reads.f1 {b : Nat} {d : ByteArray} {at_ : Int} {w : World} (h : Reads b d at_ w) : w.frozen? ⟨b, 1, none⟩ = false := Lib.frozen_of_heap h.heap 1
theorem Reads.put {b : Nat} {d : ByteArray} {at_ : Int} {w : World} (h : Reads b d at_ w) (k : Nat) (n : Int) : Reads b d n ((w.drewN k).setCell ⟨b, 1, none⟩ (.int .i64 n)) := by
  refine ⟨?_⟩
  simp [World.setCell, Array.getElem?_modify, h.heap]
theorem Reads.lt {b : Nat} {d : ByteArray} {at_ : Int} {w : World} (h : Reads b d at_ w) : b < w.heap.size := lt_of_heap h.heap

set_option maxRecDepth 100000 in
set_option maxHeartbeats 1600000 in
theorem readInt_ok {b : Nat} {d : ByteArray} {at_ n nx : Int} {w : World} (hr : Reads b d at_ w) (hd : d.size ≤ 4611686018427387904) (a0 a1 : Addr) (he : ErrCells a0 a1 w) (h : intAt d at_ = (n, nx, 0)) :
    Calls Tryd.prog 53 #[.pointer (some ⟨b, 0, none⟩)] w fun e w' => e = .returned (.int .i64 n) ∧ ∃ k, w' = (w.drewN k).setCell ⟨b, 1, none⟩ (.int .i64 nx) := by
  have hc0 := hr.c0
  have hc1 := hr.c1
  have hf1 := hr.f1
  have hw := he.wire
  have hi := Lib.hid (int_is h hd)
  clear h hr he
  go_enter Tryd.func53, Tryd.ntmps53
  go_wp2_with fail
  go_quiet ((go_at_call 63; exact quiet_left' (hi.out _)))
  go_wp2_with fail
  refine (must_ok _ _).mono ?_
  rintro e w' ⟨rfl, rfl⟩
  go_wp2_with fail
  go_ret
  exact ⟨rfl, _, rfl⟩
set_option maxRecDepth 100000 in
set_option maxHeartbeats 1600000 in
theorem readInt_bad {b : Nat} {d : ByteArray} {at_ n nx er : Int} {w : World} (hr : Reads b d at_ w) (hd : d.size ≤ 4611686018427387904) (a0 a1 : Addr) (he : ErrCells a0 a1 w) (h : intAt d at_ = (n, nx, er)) (her : er ≠ 0) :
    Calls Tryd.prog 53 #[.pointer (some ⟨b, 0, none⟩)] w fun e w' => e = .panicked [{ v := errV a0, recovered := false }] ∧ ∃ k, w' = w.drewN k := by
  have hc0 := hr.c0
  have hc1 := hr.c1
  have hw := he.wire
  have hi := Lib.hid (int_is h hd)
  have hb : (er == 0) = false := by simpa using her
  clear h hr he
  go_enter Tryd.func53, Tryd.ntmps53
  go_wp2_with fail
  go_quiet ((go_at_call 63; exact quiet_left' (hi.out _)))
  go_wp2_with fail
  refine (must_no _ _ _).mono ?_
  rintro e w' ⟨rfl, rfl⟩
  go_wp2_with fail
  exact ⟨rfl, rfl, _, rfl⟩
set_option maxRecDepth 100000 in
set_option maxHeartbeats 1600000 in
theorem readStr_ok {b : Nat} {d s : ByteArray} {at_ nx : Int} {w : World} (hr : Reads b d at_ w) (hd : d.size ≤ 4611686018427387904) (a0 a1 : Addr) (he : ErrCells a0 a1 w) (h : strAt d at_ = (s, nx, 0)) :
    Calls Tryd.prog 64 #[.pointer (some ⟨b, 0, none⟩)] w fun e w' => e = .returned (.string s) ∧ ∃ k, w' = (w.drewN k).setCell ⟨b, 1, none⟩ (.int .i64 nx) := by
  have hc0 := hr.c0
  have hc1 := hr.c1
  have hf1 := hr.f1
  have hw := he.wire
  have hi := Lib.hid (str_is h hd)
  clear h hr he
  go_enter Tryd.func64, Tryd.ntmps64
  go_wp2_with fail
  go_quiet ((go_at_call 67; exact quiet_left' (hi.out _)))
  go_wp2_with fail
  refine (must_ok _ _).mono ?_
  rintro e w' ⟨rfl, rfl⟩
  go_wp2_with fail
  go_ret
  exact ⟨rfl, _, rfl⟩
set_option maxRecDepth 100000 in
set_option maxHeartbeats 1600000 in
theorem readStr_bad {b : Nat} {d s : ByteArray} {at_ nx er : Int} {w : World} (hr : Reads b d at_ w) (hd : d.size ≤ 4611686018427387904) (a0 a1 : Addr) (he : ErrCells a0 a1 w) (h : strAt d at_ = (s, nx, er)) (her : er ≠ 0) :
    Calls Tryd.prog 64 #[.pointer (some ⟨b, 0, none⟩)] w fun e w' => e = .panicked [{ v := errV a0, recovered := false }] ∧ ∃ k, w' = w.drewN k := by
  have hc0 := hr.c0
  have hc1 := hr.c1
  have hw := he.wire
  have hi := Lib.hid (str_is h hd)
  have hb : (er == 0) = false := by simpa using her
  clear h hr he
  go_enter Tryd.func64, Tryd.ntmps64
  go_wp2_with fail
  go_quiet ((go_at_call 67; exact quiet_left' (hi.out _)))
  go_wp2_with fail
  refine (must_no _ _ _).mono ?_
  rintro e w' ⟨rfl, rfl⟩
  go_wp2_with fail
  exact ⟨rfl, rfl, _, rfl⟩

theorem gb_refl (w : World) (r : Option Nat) : w.grownBy w r := ⟨rfl, rfl, rfl, Nat.le_refl _, fun _ _ _ => rfl⟩
theorem gb_trans {a b c : World} {r : Option Nat} (h : a.grownBy b r) (k : b.grownBy c r) : a.grownBy c r := ⟨k.os.trans h.os, k.tape.trans h.tape, k.output.trans h.output, Nat.le_trans h.size k.size, fun i hi hr => (k.block i (Nat.lt_of_lt_of_le hi h.size) hr).trans (h.block i hi hr)⟩
theorem gb_drewN (w : World) (k : Nat) (r : Option Nat) : w.grownBy (w.drewN k) r := ⟨rfl, rfl, rfl, Nat.le_refl _, fun _ _ _ => rfl⟩
theorem gb_set (w : World) (k b i : Nat) (v : Value) : w.grownBy ((w.drewN k).setCell ⟨b, i, none⟩ v) (some b) :=
  ⟨rfl, rfl, rfl, by simp [World.setCell], fun j _ hj => Below.heap_setCell (w.drewN k) ⟨b, i, none⟩ v j (fun e => hj (by rw [e]))⟩
theorem gb_below {w0 w w' : World} {b : Nat} (h : Below w0.heap.size w0 w) (hb : w0.heap.size ≤ b) (g : w.grownBy w' (some b)) : Below w0.heap.size w0 w' := h.grown g h.size (fun k hk => by cases hk; exact hb)

def errOf (a0 a1 : Addr) (er : Int) : Addr := if er = 10 then a0 else a1
section
variable {b : Nat} {old d : ByteArray} {at_ : Int} {w w0 : World} {a0 a1 : Addr}
set_option maxRecDepth 100000 in
set_option maxHeartbeats 3200000 in
theorem added_ok {s : ByteArray} {nx : Int} (hr : Reads b d at_ w) (hd : d.size ≤ 4611686018427387904) (ho : old.size ≤ 8192) (he : ErrCells a0 a1 w0) (hB : Below w0.heap.size w0 w) (hb : w0.heap.size ≤ b) (h : opAt old d at_ = (s, nx, 0)) :
    Calls Tryd.prog 54 #[.pointer (some ⟨b, 0, none⟩), .string old] w fun e w' => e = .returned (.string s) ∧ w.grownBy w' (some b) ∧ Reads b d nx w' := by
  obtain ⟨n, nx1, e1, hi1⟩ : ∃ n nx1 e1, intAt d at_ = (n, nx1, e1) := ⟨_, _, _, rfl⟩
  by_cases h1 : e1 = 0
  · subst h1
    by_cases h2 : n < 0
    · rw [opAt_neg hi1 h2] at h; simp at h
    · by_cases h3 : n = 0
      · subst h3
        rw [opAt_ins hi1] at h
        obtain ⟨s', nx2, e2, hs⟩ : ∃ s nx2 e2, strAt d nx1 = (s, nx2, e2) := ⟨_, _, _, rfl⟩
        rw [hs] at h
        by_cases h4 : e2 = 0
        · subst h4
          by_cases h5 : s'.size = 0
          · simp [h5] at h
          · simp [h5] at h
            obtain ⟨rfl, rfl⟩ := h
            have c1 := Lib.hid (readInt_ok hr hd a0 a1 (he.below hB) hi1)
            have HS := Lib.hid hs
            clear hs hi1
            go_enter Tryd.func54, Tryd.ntmps54
            go_wp2_with fail
            refine (c1.out).mono ?_
            rintro e w1 ⟨rfl, k1, hw1⟩
            have hg1 : w.grownBy w1 (some b) := by rw [hw1]; exact gb_set _ _ _ _ _
            have hr1 : Reads b d nx1 w1 := by rw [hw1]; exact hr.put _ _
            have hB1 := gb_below hB hb hg1
            have hdl := (he.below hB1).delta
            have Hw1 := Lib.hid hw1
            clear hw1
            have d3 : (decide ((0:Int) ≤ 0)) = true := by decide
            go_wp2_with fail
            refine (must_ok _ _).mono ?_
            rintro e w' ⟨rfl, rfl⟩
            go_wp2_with fail
            have c2 := readStr_ok hr1 hd a0 a1 (he.below hB1) HS.out
            refine c2.mono ?_
            rintro e w2 ⟨rfl, k2, hw2⟩
            have hg2 : w1.grownBy w2 (some b) := by rw [hw2]; exact gb_set _ _ _ _ _
            have hr2 : Reads b d nx2 w2 := by rw [hw2]; exact hr1.put _ _
            have hB2 := gb_below hB1 hb hg2
            have hdl := (he.below hB2).delta
            clear hw2
            go_wp2_with fail
            refine (must_yes (by rw [isEmpty_size]; simp [h5]) _ _).mono ?_
            rintro e w' ⟨rfl, rfl⟩
            go_wp2_with fail
            go_ret
            exact ⟨rfl, gb_trans hg1 hg2, hr2⟩
        · simp [h4] at h
      · rw [opAt_copy hi1 (by omega)] at h
        obtain ⟨off, nx2, e2, hs⟩ : ∃ n nx2 e2, intAt d nx1 = (n, nx2, e2) := ⟨_, _, _, rfl⟩
        rw [hs] at h
        by_cases h4 : e2 = 0
        · subst h4
          by_cases h5 : off < 0 ∨ (old.size : Int) < off ∨ (old.size : Int) - off < n
          · simp [h5] at h
          · simp [h5] at h
            obtain ⟨hs', rfl⟩ := h
            have c1 := Lib.hid (readInt_ok hr hd a0 a1 (he.below hB) hi1)
            have HS := Lib.hid hs
            have Hs' := Lib.hid hs'
            obtain ⟨O, rfl⟩ : ∃ O : Nat, off = O := ⟨off.toNat, by omega⟩
            obtain ⟨N, rfl⟩ : ∃ N : Nat, n = N := ⟨n.toNat, by omega⟩
            clear hs hi1 hs'
            go_enter Tryd.func54, Tryd.ntmps54
            go_wp2_with fail
            refine (c1.out).mono ?_
            rintro e w1 ⟨rfl, k1, hw1⟩
            have hg1 : w.grownBy w1 (some b) := by rw [hw1]; exact gb_set _ _ _ _ _
            have hr1 : Reads b d nx1 w1 := by rw [hw1]; exact hr.put _ _
            have hB1 := gb_below hB hb hg1
            have hdl := (he.below hB1).delta
            clear hw1
            have d1 : decide (0 ≤ (N : Int)) = true := by simp
            have d2 : ((N : Int) == 0) = false := beq_eq_false_iff_ne.2 (by omega)
            go_wp2_with fail
            refine (must_ok _ _).mono ?_
            rintro e w' ⟨rfl, rfl⟩
            go_wp2_with fail
            have c2 := readInt_ok hr1 hd a0 a1 (he.below hB1) HS.out
            refine c2.mono ?_
            rintro e w2 ⟨rfl, k2, hw2⟩
            have hg2 : w1.grownBy w2 (some b) := by rw [hw2]; exact gb_set _ _ _ _ _
            have hr2 : Reads b d nx2 w2 := by rw [hw2]; exact hr1.put _ _
            have hB2 := gb_below hB1 hb hg2
            have hdl := (he.below hB2).delta
            have t1 : decide (0 ≤ (O : Int)) = true := by simp
            have t2 : decide ((O : Int) ≤ old.size) = true := by simp; omega
            have t3 : decide ((N : Int) ≤ (old.size : Int) - O) = true := by simp; omega
            have j1 : (0 : Int) ≤ O := by omega
            have j2 : (O : Int) ≤ (O : Int) + N := by omega
            have j3 : (O : Int) + N ≤ old.size := by omega
            clear hw2
            go_wp2_with fail
            refine (must_ok _ _).mono ?_
            rintro e w' ⟨rfl, rfl⟩
            go_wp2_with fail
            go_ret
            refine ⟨?_, gb_trans hg1 hg2, hr2⟩
            rw [← Hs'.out]
            rfl
        · simp [h4] at h
  · rw [opAt_num hi1 h1] at h; simp at h
set_option maxRecDepth 100000 in
set_option maxHeartbeats 3200000 in
theorem added_bad {s : ByteArray} {nx er : Int} (hr : Reads b d at_ w) (hd : d.size ≤ 4611686018427387904) (ho : old.size ≤ 8192) (he : ErrCells a0 a1 w0) (hB : Below w0.heap.size w0 w) (hb : w0.heap.size ≤ b) (h : opAt old d at_ = (s, nx, er)) (her : er ≠ 0) :
    Calls Tryd.prog 54 #[.pointer (some ⟨b, 0, none⟩), .string old] w fun e w' => (e = .panicked [{ v := errV (errOf a0 a1 er), recovered := false }] ∧ (er = 10 ∨ er = 190)) ∧ w.grownBy w' (some b) := by
  obtain ⟨n, nx1, e1, hi1⟩ : ∃ n nx1 e1, intAt d at_ = (n, nx1, e1) := ⟨_, _, _, rfl⟩
  by_cases h1 : e1 = 0
  · subst h1
    have c1 := Lib.hid (readInt_ok hr hd a0 a1 (he.below hB) hi1)
    by_cases h2 : n < 0
    · rw [opAt_neg hi1 h2] at h
      simp at h
      obtain ⟨-, -, rfl⟩ := h
      clear hi1
      have d1 : decide (0 ≤ n) = false := by simp; omega
      go_enter Tryd.func54, Tryd.ntmps54
      go_wp2_with fail
      refine (c1.out).mono ?_
      rintro e w1 ⟨rfl, k1, hw1⟩
      have hg1 : w.grownBy w1 (some b) := by rw [hw1]; exact gb_set _ _ _ _ _
      have hB1 := gb_below hB hb hg1
      have hdl := (he.below hB1).delta
      clear hw1
      go_wp2_with fail
      refine (must_no _ _ _).mono ?_
      rintro e w' ⟨rfl, rfl⟩
      go_wp2_with fail
      exact ⟨rfl, ⟨rfl, by simp⟩, hg1⟩
    · by_cases h3 : n = 0
      · subst h3
        rw [opAt_ins hi1] at h
        obtain ⟨s', nx2, e2, hs⟩ : ∃ s nx2 e2, strAt d nx1 = (s, nx2, e2) := ⟨_, _, _, rfl⟩
        rw [hs] at h
        by_cases h4 : e2 = 0
        · subst h4
          by_cases h5 : s'.size = 0
          · simp [h5] at h
            obtain ⟨-, -, rfl⟩ := h
            have HS := Lib.hid hs
            clear hs hi1
            have d3 : (decide ((0:Int) ≤ 0)) = true := by decide
            go_enter Tryd.func54, Tryd.ntmps54
            go_wp2_with fail
            refine (c1.out).mono ?_
            rintro e w1 ⟨rfl, k1, hw1⟩
            have hg1 : w.grownBy w1 (some b) := by rw [hw1]; exact gb_set _ _ _ _ _
            have hr1 : Reads b d nx1 w1 := by rw [hw1]; exact hr.put _ _
            have hB1 := gb_below hB hb hg1
            have hdl := (he.below hB1).delta
            clear hw1
            go_wp2_with fail
            refine (must_ok _ _).mono ?_
            rintro e w' ⟨rfl, rfl⟩
            go_wp2_with fail
            have c2 := readStr_ok hr1 hd a0 a1 (he.below hB1) HS.out
            refine c2.mono ?_
            rintro e w2 ⟨rfl, k2, hw2⟩
            have hg2 : w1.grownBy w2 (some b) := by rw [hw2]; exact gb_set _ _ _ _ _
            have hB2 := gb_below hB1 hb hg2
            have hdl := (he.below hB2).delta
            clear hw2
            go_wp2_with fail
            refine (must_nay (by rw [isEmpty_size]; simp [h5]) _ _ _).mono ?_
            rintro e w' ⟨rfl, rfl⟩
            go_wp2_with fail
            exact ⟨rfl, ⟨rfl, by simp⟩, gb_trans hg1 hg2⟩
          · simp [h5] at h; exact absurd h.2.2.symm her
        · simp [h4] at h
          obtain ⟨-, -, rfl⟩ := h
          have HS := Lib.hid hs
          clear hs hi1
          have d3 : (decide ((0:Int) ≤ 0)) = true := by decide
          go_enter Tryd.func54, Tryd.ntmps54
          go_wp2_with fail
          refine (c1.out).mono ?_
          rintro e w1 ⟨rfl, k1, hw1⟩
          have hg1 : w.grownBy w1 (some b) := by rw [hw1]; exact gb_set _ _ _ _ _
          have hr1 : Reads b d nx1 w1 := by rw [hw1]; exact hr.put _ _
          have hB1 := gb_below hB hb hg1
          have hdl := (he.below hB1).delta
          clear hw1
          go_wp2_with fail
          refine (must_ok _ _).mono ?_
          rintro e w' ⟨rfl, rfl⟩
          go_wp2_with fail
          have c2 := readStr_bad hr1 hd a0 a1 (he.below hB1) HS.out h4
          refine c2.mono ?_
          rintro e w2 ⟨rfl, k2, rfl⟩
          go_wp2_with fail
          exact ⟨rfl, ⟨rfl, by simp⟩, gb_trans hg1 (gb_drewN _ _ _)⟩
      · rw [opAt_copy hi1 (by omega)] at h
        obtain ⟨off, nx2, e2, hs⟩ : ∃ n nx2 e2, intAt d nx1 = (n, nx2, e2) := ⟨_, _, _, rfl⟩
        rw [hs] at h
        obtain ⟨N, rfl⟩ : ∃ N : Nat, n = N := ⟨n.toNat, by omega⟩
        have d1 : decide (0 ≤ (N : Int)) = true := by simp
        have d2 : ((N : Int) == 0) = false := beq_eq_false_iff_ne.2 (by omega)
        by_cases h4 : e2 = 0
        · subst h4
          by_cases h5 : off < 0 ∨ (old.size : Int) < off ∨ (old.size : Int) - off < N
          · simp [h5] at h
            obtain ⟨-, -, rfl⟩ := h
            have HS := Lib.hid hs
            clear hs hi1
            go_enter Tryd.func54, Tryd.ntmps54
            go_wp2_with fail
            refine (c1.out).mono ?_
            rintro e w1 ⟨rfl, k1, hw1⟩
            have hg1 : w.grownBy w1 (some b) := by rw [hw1]; exact gb_set _ _ _ _ _
            have hr1 : Reads b d nx1 w1 := by rw [hw1]; exact hr.put _ _
            have hB1 := gb_below hB hb hg1
            have hdl := (he.below hB1).delta
            clear hw1
            go_wp2_with fail
            refine (must_ok _ _).mono ?_
            rintro e w' ⟨rfl, rfl⟩
            go_wp2_with fail
            have c2 := readInt_ok hr1 hd a0 a1 (he.below hB1) HS.out
            refine c2.mono ?_
            rintro e w2 ⟨rfl, k2, hw2⟩
            have hg2 : w1.grownBy w2 (some b) := by rw [hw2]; exact gb_set _ _ _ _ _
            have hB2 := gb_below hB1 hb hg2
            have hdl := (he.below hB2).delta
            clear hw2
            by_cases t1 : 0 ≤ off
            · have u1 : decide (0 ≤ off) = true := by simp [t1]
              by_cases t2 : off ≤ old.size
              · have u2 : decide (off ≤ (old.size : Int)) = true := by simp [t2]
                have u3 : decide ((N : Int) ≤ (old.size : Int) - off) = false := by simp; omega
                go_wp2_with fail
                refine (must_no _ _ _).mono ?_
                rintro e w' ⟨rfl, rfl⟩
                go_wp2_with fail
                exact ⟨rfl, ⟨rfl, by simp⟩, gb_trans hg1 hg2⟩
              · have u2 : decide (off ≤ (old.size : Int)) = false := by simp; omega
                go_wp2_with fail
                refine (must_no _ _ _).mono ?_
                rintro e w' ⟨rfl, rfl⟩
                go_wp2_with fail
                exact ⟨rfl, ⟨rfl, by simp⟩, gb_trans hg1 hg2⟩
            · have u1 : decide (0 ≤ off) = false := by simp; omega
              go_wp2_with fail
              refine (must_no _ _ _).mono ?_
              rintro e w' ⟨rfl, rfl⟩
              go_wp2_with fail
              exact ⟨rfl, ⟨rfl, by simp⟩, gb_trans hg1 hg2⟩
          · simp [h5] at h; exact absurd h.2.2.symm her
        · simp [h4] at h
          obtain ⟨-, -, rfl⟩ := h
          have HS := Lib.hid hs
          clear hs hi1
          go_enter Tryd.func54, Tryd.ntmps54
          go_wp2_with fail
          refine (c1.out).mono ?_
          rintro e w1 ⟨rfl, k1, hw1⟩
          have hg1 : w.grownBy w1 (some b) := by rw [hw1]; exact gb_set _ _ _ _ _
          have hr1 : Reads b d nx1 w1 := by rw [hw1]; exact hr.put _ _
          have hB1 := gb_below hB hb hg1
          have hdl := (he.below hB1).delta
          clear hw1
          go_wp2_with fail
          refine (must_ok _ _).mono ?_
          rintro e w' ⟨rfl, rfl⟩
          go_wp2_with fail
          have c2 := readInt_bad hr1 hd a0 a1 (he.below hB1) HS.out h4
          refine c2.mono ?_
          rintro e w2 ⟨rfl, k2, rfl⟩
          go_wp2_with fail
          exact ⟨rfl, ⟨rfl, by simp⟩, gb_trans hg1 (gb_drewN _ _ _)⟩
  · rw [opAt_num hi1 h1] at h
    simp at h
    obtain ⟨-, -, rfl⟩ := h
    have c1 := Lib.hid (readInt_bad hr hd a0 a1 (he.below hB) hi1 h1)
    clear hi1
    go_enter Tryd.func54, Tryd.ntmps54
    go_wp2_with fail
    refine (c1.out).mono ?_
    rintro e w1 ⟨rfl, k1, rfl⟩
    go_wp2_with fail
    exact ⟨rfl, ⟨rfl, by simp⟩, gb_drewN _ _ _⟩
end
end Go.Proofs.YtkpgadjhcnkadaaDoor