/- copydeskref19.operation, Apply: they compute opAt and applyF. -/
import Derived.Test.YtkpgadjhcnkadaaDoorPureApply
import Derived.Test.YtkpgadjhcnkadaaDoorWalkRef01
namespace Go.Proofs.YtkpgadjhcnkadaaDoor
open Go.RowKit

theorem refInt_is {s : ByteArray} {at_ n nx er : Int} (h : intAt s at_ = (n, nx, er)) (hs : s.size ≤ 4611686018427387904) (w : World) : Calls Tryd.prog 44 #[.string s, .int .i64 at_] w fun e w' => e = .returned (.tuple #[.int .i64 n, .int .i64 nx, .int .i64 er]) ∧ Below w.heap.size w w' := by
  have := refInt_any s at_ w hs; rwa [h] at this
theorem refStr_is {s r : ByteArray} {at_ nx er : Int} (h : strAt s at_ = (r, nx, er)) (hs : s.size ≤ 4611686018427387904) (w : World) : Calls Tryd.prog 59 #[.string s, .int .i64 at_] w fun e w' => e = .returned (.tuple #[.string r, .int .i64 nx, .int .i64 er]) ∧ Below w.heap.size w w' := by
  have := refStr_any s at_ w hs; rwa [h] at this
theorem refSum_is {s : ByteArray} {n : Int} (h : sumB s = n) (hs : s.size ≤ 9223372036854775807) (w : World) : Calls Tryd.prog 29 #[.string s] w fun e w' => e = .returned (.int .i64 n) ∧ w = w' := by
  have := refSum_any s w hs; rwa [h] at this
theorem empty_iff (s : ByteArray) : s.toList.isEmpty = decide (s.size = 0) := by
  rw [ByteArray.toList_eq, ← ba_size]
  cases s.data.toList <;> simp
theorem ret3op {s : ByteArray} {nx er : Int} {p : ByteArray × Int × Int} (h : p = (s, nx, er)) : Ending.returned (.tuple #[.string s, .int .i64 nx, .int .i64 er]) = .returned (.tuple #[.string p.1, .int .i64 p.2.1, .int .i64 p.2.2]) := by rw [h]

set_option maxRecDepth 100000 in
set_option maxHeartbeats 3200000 in
theorem operation_any (old d : ByteArray) (at_ : Int) (w : World) (hd : d.size ≤ 4611686018427387904) (ho : old.size ≤ 8192) :
    Calls Tryd.prog 45 #[.string old, .string d, .int .i64 at_] w fun e w' => e = .returned (.tuple #[.string (opAt old d at_).1, .int .i64 (opAt old d at_).2.1, .int .i64 (opAt old d at_).2.2]) ∧ Below w.heap.size w w' := by
  obtain ⟨n, nx1, e1, hi1⟩ : ∃ A B C, intAt d at_ = (A, B, C) := ⟨_, _, _, rfl⟩
  have c1 := Lib.hid (refInt_is hi1 hd w)
  by_cases h1 : e1 = 0
  · subst h1
    by_cases h2 : n < 0
    · have H := Lib.hid (opAt_neg (old := old) hi1 h2)
      have d2 : decide (n < 0) = true := decide_eq_true h2
      clear hi1
      go_enter Tryd.func45, Tryd.ntmps45
      go_wp2_with fail
      refine (c1.out).mono ?_
      rintro e w1 ⟨rfl, hb1⟩
      go_wp2_with fail
      go_ret3
      exact ⟨ret3op H.out, hb1⟩
    · have d2 : decide (n < 0) = false := decide_eq_false h2
      by_cases h3 : n = 0
      · subst h3
        have H := opAt_ins (old := old) hi1
        obtain ⟨s, nx2, e2, hs⟩ : ∃ A B C, strAt d nx1 = (A, B, C) := ⟨_, _, _, rfl⟩
        rw [hs] at H
        have c2 := Lib.hid (fun W => refStr_is hs hd W)
        by_cases h4 : e2 = 0
        · subst h4
          rw [if_neg (by simp)] at H
          by_cases h5 : s.size = 0
          · rw [if_pos h5] at H
            have HH := Lib.hid H
            have e5 : s.toList.isEmpty = true := by rw [empty_iff]; simp [h5]
            clear hi1 hs H
            go_enter Tryd.func45, Tryd.ntmps45
            go_wp2_with fail
            refine (c1.out).mono ?_
            rintro e w1 ⟨rfl, hb1⟩
            go_wp2_with fail
            refine (c2.out _).mono ?_
            rintro e w2 ⟨rfl, hb2⟩
            go_wp2_with fail
            go_ret3
            exact ⟨ret3op HH.out, Below_then hb1 hb2⟩
          · rw [if_neg h5] at H
            have HH := Lib.hid H
            have e5 : s.toList.isEmpty = false := by rw [empty_iff]; simp [h5]
            clear hi1 hs H
            go_enter Tryd.func45, Tryd.ntmps45
            go_wp2_with fail
            refine (c1.out).mono ?_
            rintro e w1 ⟨rfl, hb1⟩
            go_wp2_with fail
            refine (c2.out _).mono ?_
            rintro e w2 ⟨rfl, hb2⟩
            go_wp2_with fail
            go_ret3
            exact ⟨ret3op HH.out, Below_then hb1 hb2⟩
        · rw [if_pos (by simpa using h4)] at H
          have HH := Lib.hid H
          have e4 : (e2 == 0) = false := by simp [h4]
          have e4' : (e2 != 0) = true := by simp [h4]
          clear hi1 hs H
          go_enter Tryd.func45, Tryd.ntmps45
          go_wp2_with fail
          refine (c1.out).mono ?_
          rintro e w1 ⟨rfl, hb1⟩
          go_wp2_with fail
          refine (c2.out _).mono ?_
          rintro e w2 ⟨rfl, hb2⟩
          go_wp2_with fail
          go_ret3
          exact ⟨ret3op HH.out, Below_then hb1 hb2⟩
      · have e3 : (n == 0) = false := by simp [h3]
        have H := opAt_copy (old := old) hi1 (show 0 < n by omega)
        obtain ⟨off, nx2, e2, hs⟩ : ∃ A B C, intAt d nx1 = (A, B, C) := ⟨_, _, _, rfl⟩
        rw [hs] at H
        have c2 := Lib.hid (fun W => refInt_is hs hd W)
        by_cases h4 : e2 = 0
        · subst h4
          rw [if_neg (by simp)] at H
          by_cases h5 : off < 0
          · rw [if_pos (.inl h5)] at H
            have HH := Lib.hid H
            have e5 : decide (off < 0) = true := decide_eq_true h5
            clear hi1 hs H
            go_enter Tryd.func45, Tryd.ntmps45
            go_wp2_with fail
            refine (c1.out).mono ?_
            rintro e w1 ⟨rfl, hb1⟩
            go_wp2_with fail
            refine (c2.out _).mono ?_
            rintro e w2 ⟨rfl, hb2⟩
            go_wp2_with fail
            go_ret3
            exact ⟨ret3op HH.out, Below_then hb1 hb2⟩
          · have e5 : decide (off < 0) = false := decide_eq_false h5
            by_cases h6 : (old.size : Int) < off
            · rw [if_pos (.inr (.inl h6))] at H
              have HH := Lib.hid H
              have e6 : decide ((old.size : Int) < off) = true := decide_eq_true h6
              clear hi1 hs H
              go_enter Tryd.func45, Tryd.ntmps45
              go_wp2_with fail
              refine (c1.out).mono ?_
              rintro e w1 ⟨rfl, hb1⟩
              go_wp2_with fail
              refine (c2.out _).mono ?_
              rintro e w2 ⟨rfl, hb2⟩
              go_wp2_with fail
              go_ret3
              exact ⟨ret3op HH.out, Below_then hb1 hb2⟩
            · have e6 : decide ((old.size : Int) < off) = false := decide_eq_false h6
              obtain ⟨O, rfl⟩ : ∃ O : Nat, off = O := ⟨off.toNat, by omega⟩
              obtain ⟨M, rfl⟩ : ∃ M : Nat, n = M := ⟨n.toNat, by omega⟩
              by_cases h7 : (old.size : Int) - O < M
              · rw [if_pos (.inr (.inr h7))] at H
                have HH := Lib.hid H
                have e7 : decide ((old.size : Int) - O < M) = true := decide_eq_true h7
                clear hi1 hs H
                go_enter Tryd.func45, Tryd.ntmps45
                go_wp2_with fail
                refine (c1.out).mono ?_
                rintro e w1 ⟨rfl, hb1⟩
                go_wp2_with fail
                refine (c2.out _).mono ?_
                rintro e w2 ⟨rfl, hb2⟩
                go_wp2_with fail
                go_ret3
                exact ⟨ret3op HH.out, Below_then hb1 hb2⟩
              · rw [if_neg (by omega)] at H
                have HH := Lib.hid H
                have e7 : decide ((old.size : Int) - O < M) = false := decide_eq_false h7
                have j1 : (0 : Int) ≤ O := by omega
                have j2 : (O : Int) ≤ (O : Int) + M := by omega
                have j3 : (O : Int) + M ≤ old.size := by omega
                clear hi1 hs H
                go_enter Tryd.func45, Tryd.ntmps45
                go_wp2_with fail
                refine (c1.out).mono ?_
                rintro e w1 ⟨rfl, hb1⟩
                go_wp2_with fail
                refine (c2.out _).mono ?_
                rintro e w2 ⟨rfl, hb2⟩
                go_wp2_with fail
                go_ret3
                refine ⟨ret3op (HH.out.trans ?_), Below_then hb1 hb2⟩
                rfl
        · rw [if_pos (by simpa using h4)] at H
          have HH := Lib.hid H
          have e4 : (e2 == 0) = false := by simp [h4]
          have e4' : (e2 != 0) = true := by simp [h4]
          clear hi1 hs H
          go_enter Tryd.func45, Tryd.ntmps45
          go_wp2_with fail
          refine (c1.out).mono ?_
          rintro e w1 ⟨rfl, hb1⟩
          go_wp2_with fail
          refine (c2.out _).mono ?_
          rintro e w2 ⟨rfl, hb2⟩
          go_wp2_with fail
          go_ret3
          exact ⟨ret3op HH.out, Below_then hb1 hb2⟩
  · have HH := Lib.hid (opAt_num (old := old) hi1 h1)
    have e1 : (e1 == 0) = false := by simp [h1]
    clear hi1
    go_enter Tryd.func45, Tryd.ntmps45
    go_wp2_with fail
    refine (c1.out).mono ?_
    rintro e w1 ⟨rfl, hb1⟩
    go_wp2_with fail
    go_ret3
    exact ⟨ret3op HH.out, hb1⟩
end Go.Proofs.YtkpgadjhcnkadaaDoor
