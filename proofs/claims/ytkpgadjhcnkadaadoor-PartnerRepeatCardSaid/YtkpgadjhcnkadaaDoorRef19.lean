/- copydeskref19.operation, Apply: they compute opAt and applyF. copydeskref19.Apply computes applyF. copydeskref19.number, longest, insertion, Diff: what they compute. -/
import Derived.Test.YtkpgadjhcnkadaaDoorPureWire
import Derived.Test.YtkpgadjhcnkadaaDoorWalkRef01
import Derived.Deep.QuietTactic
import Derived.BigQuiet
namespace Go.Proofs.YtkpgadjhcnkadaaDoor
open Go.RowKit

theorem refInt_is {s : ByteArray} {at_ n nx er : Int} (h : intAt s at_ = (n, nx, er)) (hs : s.size ≤ 4611686018427387904) (w : World) : Calls Tryd.prog 44 #[.string s, .int .i64 at_] w fun e w' => e = .returned (.tuple #[.int .i64 n, .int .i64 nx, .int .i64 er]) ∧ Below w.heap.size w w' := by
  have := refInt_any s at_ w hs; rwa [h] at this
theorem refStr_is {s r : ByteArray} {at_ nx er : Int} (h : strAt s at_ = (r, nx, er)) (hs : s.size ≤ 4611686018427387904) (w : World) : Calls Tryd.prog 59 #[.string s, .int .i64 at_] w fun e w' => e = .returned (.tuple #[.string r, .int .i64 nx, .int .i64 er]) ∧ Below w.heap.size w w' := by
  have := refStr_any s at_ w hs; rwa [h] at this
theorem refSum_is {s : ByteArray} {n : Int} (h : sumB s = n) (hs : s.size ≤ 9223372036854775807) (w : World) : Calls Tryd.prog 29 #[.string s] w fun e w' => e = .returned (.int .i64 n) ∧ w = w' := by
  have := refSum_any s w hs; rwa [h] at this
theorem empty_iff (s : ByteArray) : s.toList.isEmpty = decide (s.size = 0) := by
  rw [ByteArray.toList_eq, ← ba_size]
  cases s.data.toList <;> simp
theorem ret3op {s : ByteArray} {nx er : Int} {p : ByteArray × Int × Int} (h : p = (s, nx, er)) : Ending.returned (.tuple #[.string s, .int .i64 nx, .int .i64 er]) = .returned (.tuple #[.string p.1, .int .i64 p.2.1, .int .i64 p.2.2]) := by rw [h]

set_option maxRecDepth 100000 in
set_option maxHeartbeats 3200000 in
theorem operation_any (old d : ByteArray) (at_ : Int) (w : World) (hd : d.size ≤ 4611686018427387904) (ho : old.size ≤ 8192) :
    Calls Tryd.prog 45 #[.string old, .string d, .int .i64 at_] w fun e w' => e = .returned (.tuple #[.string (opAt old d at_).1, .int .i64 (opAt old d at_).2.1, .int .i64 (opAt old d at_).2.2]) ∧ Below w.heap.size w w' := by
  obtain ⟨n, nx1, e1, hi1⟩ : ∃ A B C, intAt d at_ = (A, B, C) := ⟨_, _, _, rfl⟩
  have c1 := Lib.hid (refInt_is hi1 hd w)
  by_cases h1 : e1 = 0
  · subst h1
    by_cases h2 : n < 0
    · have H := Lib.hid (opAt_neg (old := old) hi1 h2)
      have d2 : decide (n < 0) = true := decide_eq_true h2
      clear hi1
      go_enter Tryd.func45, Tryd.ntmps45
      go_wp2_with fail
      refine (c1.out).mono ?_
      rintro e w1 ⟨rfl, hb1⟩
      go_wp2_with fail
      go_ret3
      exact ⟨ret3op H.out, hb1⟩
    · have d2 : decide (n < 0) = false := decide_eq_false h2
      by_cases h3 : n = 0
      · subst h3
        have H := opAt_ins (old := old) hi1
        obtain ⟨s, nx2, e2, hs⟩ : ∃ A B C, strAt d nx1 = (A, B, C) := ⟨_, _, _, rfl⟩
        rw [hs] at H
        have c2 := Lib.hid (fun W => refStr_is hs hd W)
        by_cases h4 : e2 = 0
        · subst h4
          rw [if_neg (by simp)] at H
          by_cases h5 : s.size = 0
          · rw [if_pos h5] at H
            have HH := Lib.hid H
            have e5 : s.toList.isEmpty = true := by rw [empty_iff]; simp [h5]
            clear hi1 hs H
            go_enter Tryd.func45, Tryd.ntmps45
            go_wp2_with fail
            refine (c1.out).mono ?_
            rintro e w1 ⟨rfl, hb1⟩
            go_wp2_with fail
            refine (c2.out _).mono ?_
            rintro e w2 ⟨rfl, hb2⟩
            go_wp2_with fail
            go_ret3
            exact ⟨ret3op HH.out, Below_then hb1 hb2⟩
          · rw [if_neg h5] at H
            have HH := Lib.hid H
            have e5 : s.toList.isEmpty = false := by rw [empty_iff]; simp [h5]
            clear hi1 hs H
            go_enter Tryd.func45, Tryd.ntmps45
            go_wp2_with fail
            refine (c1.out).mono ?_
            rintro e w1 ⟨rfl, hb1⟩
            go_wp2_with fail
            refine (c2.out _).mono ?_
            rintro e w2 ⟨rfl, hb2⟩
            go_wp2_with fail
            go_ret3
            exact ⟨ret3op HH.out, Below_then hb1 hb2⟩
        · rw [if_pos (by simpa using h4)] at H
          have HH := Lib.hid H
          have e4 : (e2 == 0) = false := by simp [h4]
          have e4' : (e2 != 0) = true := by simp [h4]
          clear hi1 hs H
          go_enter Tryd.func45, Tryd.ntmps45
          go_wp2_with fail
          refine (c1.out).mono ?_
          rintro e w1 ⟨rfl, hb1⟩
          go_wp2_with fail
          refine (c2.out _).mono ?_
          rintro e w2 ⟨rfl, hb2⟩
          go_wp2_with fail
          go_ret3
          exact ⟨ret3op HH.out, Below_then hb1 hb2⟩
      · have e3 : (n == 0) = false := by simp [h3]
        have H := opAt_copy (old := old) hi1 (show 0 < n by omega)
        obtain ⟨off, nx2, e2, hs⟩ : ∃ A B C, intAt d nx1 = (A, B, C) := ⟨_, _, _, rfl⟩
        rw [hs] at H
        have c2 := Lib.hid (fun W => refInt_is hs hd W)
        by_cases h4 : e2 = 0
        · subst h4
          rw [if_neg (by simp)] at H
          by_cases h5 : off < 0
          · rw [if_pos (.inl h5)] at H
            have HH := Lib.hid H
            have e5 : decide (off < 0) = true := decide_eq_true h5
            clear hi1 hs H
            go_enter Tryd.func45, Tryd.ntmps45
            go_wp2_with fail
            refine (c1.out).mono ?_
            rintro e w1 ⟨rfl, hb1⟩
            go_wp2_with fail
            refine (c2.out _).mono ?_
            rintro e w2 ⟨rfl, hb2⟩
            go_wp2_with fail
            go_ret3
            exact ⟨ret3op HH.out, Below_then hb1 hb2⟩
          · have e5 : decide (off < 0) = false := decide_eq_false h5
            by_cases h6 : (old.size : Int) < off
            · rw [if_pos (.inr (.inl h6))] at H
              have HH := Lib.hid H
              have e6 : decide ((old.size : Int) < off) = true := decide_eq_true h6
              clear hi1 hs H
              go_enter Tryd.func45, Tryd.ntmps45
              go_wp2_with fail
              refine (c1.out).mono ?_
              rintro e w1 ⟨rfl, hb1⟩
              go_wp2_with fail
              refine (c2.out _).mono ?_
              rintro e w2 ⟨rfl, hb2⟩
              go_wp2_with fail
              go_ret3
              exact ⟨ret3op HH.out, Below_then hb1 hb2⟩
            · have e6 : decide ((old.size : Int) < off) = false := decide_eq_false h6
              obtain ⟨O, rfl⟩ : ∃ O : Nat, off = O := ⟨off.toNat, by omega⟩
              obtain ⟨M, rfl⟩ : ∃ M : Nat, n = M := ⟨n.toNat, by omega⟩
              by_cases h7 : (old.size : Int) - O < M
              · rw [if_pos (.inr (.inr h7))] at H
                have HH := Lib.hid H
                have e7 : decide ((old.size : Int) - O < M) = true := decide_eq_true h7
                clear hi1 hs H
                go_enter Tryd.func45, Tryd.ntmps45
                go_wp2_with fail
                refine (c1.out).mono ?_
                rintro e w1 ⟨rfl, hb1⟩
                go_wp2_with fail
                refine (c2.out _).mono ?_
                rintro e w2 ⟨rfl, hb2⟩
                go_wp2_with fail
                go_ret3
                exact ⟨ret3op HH.out, Below_then hb1 hb2⟩
              · rw [if_neg (by omega)] at H
                have HH := Lib.hid H
                have e7 : decide ((old.size : Int) - O < M) = false := decide_eq_false h7
                have j1 : (0 : Int) ≤ O := by omega
                have j2 : (O : Int) ≤ (O : Int) + M := by omega
                have j3 : (O : Int) + M ≤ old.size := by omega
                clear hi1 hs H
                go_enter Tryd.func45, Tryd.ntmps45
                go_wp2_with fail
                refine (c1.out).mono ?_
                rintro e w1 ⟨rfl, hb1⟩
                go_wp2_with fail
                refine (c2.out _).mono ?_
                rintro e w2 ⟨rfl, hb2⟩
                go_wp2_with fail
                go_ret3
                refine ⟨ret3op (HH.out.trans ?_), Below_then hb1 hb2⟩
                rfl
        · rw [if_pos (by simpa using h4)] at H
          have HH := Lib.hid H
          have e4 : (e2 == 0) = false := by simp [h4]
          have e4' : (e2 != 0) = true := by simp [h4]
          clear hi1 hs H
          go_enter Tryd.func45, Tryd.ntmps45
          go_wp2_with fail
          refine (c1.out).mono ?_
          rintro e w1 ⟨rfl, hb1⟩
          go_wp2_with fail
          refine (c2.out _).mono ?_
          rintro e w2 ⟨rfl, hb2⟩
          go_wp2_with fail
          go_ret3
          exact ⟨ret3op HH.out, Below_then hb1 hb2⟩
  · have HH := Lib.hid (opAt_num (old := old) hi1 h1)
    have e1 : (e1 == 0) = false := by simp [h1]
    clear hi1
    go_enter Tryd.func45, Tryd.ntmps45
    go_wp2_with fail
    refine (c1.out).mono ?_
    rintro e w1 ⟨rfl, hb1⟩
    go_wp2_with fail
    go_ret3
    exact ⟨ret3op HH.out, hb1⟩
end Go.Proofs.YtkpgadjhcnkadaaDoor
namespace Go.Proofs.YtkpgadjhcnkadaaDoor
open Go.RowKit

theorem strAt_facts' {d t : ByteArray} {a nx : Int} (h : strAt d a = (t, nx, 0)) : a < nx ∧ t.size ≤ 65536 := by
  have f2 := intAt_facts d a
  unfold strAt at h
  split at h
  · rename_i k1; simp at h; exact absurd h.2.2 k1
  · split at h
    · simp at h
    · rename_i k1 k2
      simp at h
      obtain ⟨rfl, rfl⟩ := h
      rcases f2 with f2 | f2
      · refine ⟨by omega, ?_⟩
        simp
        omega
      · omega
theorem opAt_facts' {old d : ByteArray} {a : Int} {s : ByteArray} {nx : Int} (h : opAt old d a = (s, nx, 0)) : a < nx ∧ s.size ≤ 65536 + old.size := by
  obtain ⟨n, nx1, e1, hi1⟩ : ∃ A B C, intAt d a = (A, B, C) := ⟨_, _, _, rfl⟩
  have f1 := intAt_facts d a
  rw [hi1] at f1
  by_cases h1 : e1 = 0
  · subst h1
    simp at f1
    by_cases h2 : n < 0
    · rw [opAt_neg hi1 h2] at h; simp at h
    · by_cases h3 : n = 0
      · subst h3
        rw [opAt_ins hi1] at h
        obtain ⟨t, nx2, e2, hs⟩ : ∃ A B C, strAt d nx1 = (A, B, C) := ⟨_, _, _, rfl⟩
        rw [hs] at h
        by_cases h4 : e2 = 0
        · subst h4
          have f2 := strAt_facts' hs
          by_cases h5 : t.size = 0
          · simp [h5] at h
          · simp [h5] at h
            obtain ⟨rfl, rfl⟩ := h
            exact ⟨by omega, by omega⟩
        · simp [h4] at h
      · rw [opAt_copy hi1 (by omega)] at h
        have f2 := intAt_facts d nx1
        split at h
        · simp at h
        · split at h
          · simp at h
          · rename_i g1 g2
            simp at h
            obtain ⟨rfl, rfl⟩ := h
            simp at g1
            rcases f2 with f2 | f2
            · refine ⟨by omega, ?_⟩
              simp
              omega
            · omega
  · rw [opAt_num hi1 h1] at h; simp at h
theorem ret2op {s : ByteArray} {er : Int} {p : ByteArray × Int} (h : p = (s, er)) : Ending.returned (.tuple #[.string s, .int .i64 er]) = .returned (.tuple #[.string p.1, .int .i64 p.2]) := by rw [h]

set_option maxRecDepth 100000 in
set_option maxHeartbeats 6400000 in
theorem refApply_any (old d : ByteArray) (w : World) (hd : d.size ≤ 4611686018427387904) (hos : old.size ≤ 4611686018427387904) :
    Calls Tryd.prog 38 #[.string old, .string d] w fun e w' => e = .returned (.tuple #[.string (applyF old d).1, .int .i64 (applyF old d).2]) ∧ Below w.heap.size w w' := by
  obtain ⟨v, hv⟩ : ∃ v, applyF old d = v := ⟨_, rfl⟩
  rw [hv]
  by_cases h : 8192 < old.size
  · have H := Lib.hid (show v = (.empty, 190) by rw [← hv]; unfold applyF; rw [if_pos h])
    have t0 : decide ((8192 : Int) < old.size) = true := by simp; omega
    clear hv
    go_enter Tryd.func38, Tryd.ntmps38
    go_wp2_with fail
    go_ret2
    exact ⟨ret2op H.out, Below.refl _ _⟩
  have t0 : decide ((8192 : Int) < old.size) = false := by simp; omega
  obtain ⟨n, nx, e1, hi1⟩ : ∃ n nx e1, intAt d 0 = (n, nx, e1) := ⟨_, _, _, rfl⟩
  obtain ⟨sm, hsm⟩ : ∃ sm, sumB old = sm := ⟨_, rfl⟩
  have c1 := Lib.hid (fun W => refInt_is hi1 hd W)
  have c2 := Lib.hid (fun W => refSum_is hsm (by omega) W)
  by_cases h1 : e1 = 0
  · subst h1
    by_cases h2 : n = sm
    · have hv2 : applyRest old d (intAt d nx) = v := by rw [← hv]; unfold applyF; rw [if_neg h, hi1, if_neg (by simp), if_neg (by rw [hsm]; simpa using h2)]
      have q2 : (n == sm) = true := by simp [h2]
      have q2' : (n != sm) = false := by simp [h2]
      obtain ⟨want, nx2, e2, hi2⟩ : ∃ A B C, intAt d nx = (A, B, C) := ⟨_, _, _, rfl⟩
      rw [hi2] at hv2
      have c3 := Lib.hid (fun W => refInt_is hi2 hd W)
      by_cases h3 : e2 = 0
      · subst h3
        have hfx := intAt_facts d nx
        rw [hi2] at hfx
        have H5 := Lib.hid (show 0 ≤ nx2 ∧ nx2 ≤ d.size by rcases hfx with h | h <;> simp at h; omega)
        have Hv2 := Lib.hid hv2
        clear hv hv2 hi1 hi2 hfx hsm
        go_enter Tryd.func38, Tryd.ntmps38
        go_wp2_with fail
        refine (c1.out _).mono ?_
        rintro e w1 ⟨rfl, hb1⟩
        go_wp2_with fail
        refine (c2.out _).mono ?_
        rintro e w' ⟨rfl, rfl⟩
        go_wp2_with fail
        refine (c3.out _).mono ?_
        rintro e w2 ⟨rfl, hb2⟩
        have hB2 := Below_then hb1 hb2
        go_wp2_with fail
        go_loopw [7, 10, 11, 12, 13] (fun v7 v10 _ _ _ wr => ∃ (j : Nat) (at_ : Int) (O : ByteArray), v7 = .int .i64 at_ ∧ v10 = .string O ∧ O.size ≤ 8192 ∧ Hid (0 ≤ at_ ∧ (d.size : Int) ≤ j + at_) ∧ Hid (applyGo old d j at_ O.data.toList = applyGo old d d.size nx2 []) ∧ Below w.heap.size w wr) (fun v7 _ _ _ _ _ => ((d.size : Int) - intOf v7).toNat)
        case atStart => exact ⟨d.size, nx2, .empty, rfl, rfl, by simp, Lib.hid ⟨H5.out.1, by have := H5.out.1; omega⟩, Lib.hid rfl, hB2⟩
        case round =>
          obtain ⟨j, at_, O, rfl, rfl, hO, Hat, Hgo, hB⟩ := hrel
          by_cases hlt : at_ < d.size
          · have t1 : decide (at_ < (d.size : Int)) = true := decide_eq_true hlt
            obtain ⟨s, nx3, er, hop⟩ : ∃ A B C, opAt old d at_ = (A, B, C) := ⟨_, _, _, rfl⟩
            have c4 := fun W => operation_any old d at_ W hd (by omega)
            simp only [hop] at c4
            have C4 := Lib.hid c4
            have Hop := Lib.hid hop
            clear c4 hop
            by_cases her : er = 0
            · subst her
              have hf := opAt_facts' Hop.out
              have b1 : (O.size : Int) ≤ 8192 := by omega
              have b2 : (s.size : Int) ≤ 4611686018427387904 := by omega
              have b3 : IntKind.i64.wrap ((O.size : Int) + s.size) = (O.size : Int) + s.size := by rw [wrap_i64']; omega
              by_cases hbig : 8192 < O.size + s.size
              · have t9 : decide ((8192 : Int) < (O.size : Int) + s.size) = true := by simp; omega
                have H := Lib.hid (show v = (.empty, 190) by
                  rw [← Hv2.out]; unfold applyRest
                  rw [← Hgo.out, applyGo_long hlt Hat.out.2 Hop.out hbig, if_neg (by simp), if_pos (by simp)])
                go_wp2_with fail
                refine (C4.out _).mono ?_
                rintro e w3 ⟨rfl, hb3⟩
                go_wp2_with fail
                go_ret2
                exact ⟨ret2op H.out, hB.trans (hb3.mono hB.size)⟩
              · have t9 : decide ((8192 : Int) < (O.size : Int) + s.size) = false := by simp; omega
                go_wp2_with fail
                refine (C4.out _).mono ?_
                rintro e w3 ⟨rfl, hb3⟩
                go_wp2_with fail
                go_roundw
                case rel =>
                  obtain ⟨j', hj, hstep⟩ := applyGo_step hlt Hat.out.2 Hop.out hbig
                  exact ⟨j', nx3, O ++ s, rfl, rfl, by rw [ba_append_size]; omega, Lib.hid ⟨by have := Hat.out.1; omega, by have := Hat.out.2; omega⟩, Lib.hid (by rw [ba_append]; exact hstep.symm.trans Hgo.out), hB.trans (hb3.mono hB.size)⟩
                case measure => simp only [intOf]; omega
            · have e4 : (er == 0) = false := by simp [her]
              have e4' : (er != 0) = true := by simp [her]
              have H := Lib.hid (show v = (.empty, er) by
                rw [← Hv2.out]; unfold applyRest
                rw [← Hgo.out, applyGo_bad hlt Hat.out.2 Hop.out her, if_neg (by simp), if_pos her])
              go_wp2_with fail
              refine (C4.out _).mono ?_
              rintro e w3 ⟨rfl, hb3⟩
              go_wp2_with fail
              go_ret2
              exact ⟨ret2op H.out, hB.trans (hb3.mono hB.size)⟩
          · have t1 : decide (at_ < (d.size : Int)) = false := decide_eq_false hlt
            have hgd := applyGo_done (old := old) (k := j) (out := O.data.toList) (show (d.size : Int) ≤ at_ by omega)
            have hv3 := Hv2.out
            unfold applyRest at hv3
            rw [← Hgo.out, hgd, if_neg (by simp), if_neg (by simp)] at hv3
            obtain ⟨so, hso⟩ : ∃ so, sumB O = so := ⟨_, rfl⟩
            have hOO : (⟨O.data.toList.toArray⟩ : ByteArray) = O := by simp
            simp only [hOO, hso] at hv3
            have c5 := Lib.hid (fun W => refSum_is hso (by omega) W)
            clear hgd hso hOO
            by_cases hw8 : so = want
            · have q8 : (so == want) = true := by simp [hw8]
              have q8' : (so != want) = false := by simp [hw8]
              rw [if_neg (by simpa using hw8)] at hv3
              have H := Lib.hid hv3
              clear hv3
              go_wp2_with fail
              refine (c5.out _).mono ?_
              rintro e w' ⟨rfl, rfl⟩
              go_wp2_with fail
              go_ret2
              exact ⟨ret2op H.out.symm, hB⟩
            · have q8 : (so == want) = false := by simp [hw8]
              have q8' : (so != want) = true := by simp [hw8]
              rw [if_pos (by simpa using hw8)] at hv3
              have H := Lib.hid hv3
              clear hv3
              go_wp2_with fail
              refine (c5.out _).mono ?_
              rintro e w' ⟨rfl, rfl⟩
              go_wp2_with fail
              go_ret2
              exact ⟨ret2op H.out.symm, hB⟩
      · have H := Lib.hid (show v = (.empty, 10) by rw [← hv2]; unfold applyRest; rw [if_pos h3])
        have e4 : (e2 == 0) = false := by simp [h3]
        have e4' : (e2 != 0) = true := by simp [h3]
        clear hv hv2 hi1 hi2 hsm
        go_enter Tryd.func38, Tryd.ntmps38
        go_wp2_with fail
        refine (c1.out _).mono ?_
        rintro e w1 ⟨rfl, hb1⟩
        go_wp2_with fail
        refine (c2.out _).mono ?_
        rintro e w' ⟨rfl, rfl⟩
        go_wp2_with fail
        refine (c3.out _).mono ?_
        rintro e w2 ⟨rfl, hb2⟩
        go_wp2_with fail
        go_ret2
        exact ⟨ret2op H.out, Below_then hb1 hb2⟩
    · have H := Lib.hid (show v = (.empty, 190) by rw [← hv]; unfold applyF; rw [if_neg h, hi1, if_neg (by simp), if_pos (by rw [hsm]; simpa using h2)])
      have q2 : (n == sm) = false := by simp [h2]
      have q2' : (n != sm) = true := by simp [h2]
      clear hv hi1 hsm
      go_enter Tryd.func38, Tryd.ntmps38
      go_wp2_with fail
      refine (c1.out _).mono ?_
      rintro e w1 ⟨rfl, hb1⟩
      go_wp2_with fail
      refine (c2.out _).mono ?_
      rintro e w' ⟨rfl, rfl⟩
      go_wp2_with fail
      go_ret2
      exact ⟨ret2op H.out, hb1⟩
  · have H := Lib.hid (show v = (.empty, 10) by rw [← hv]; unfold applyF; rw [if_neg h, hi1, if_pos h1])
    have e4 : (e1 == 0) = false := by simp [h1]
    have e4' : (e1 != 0) = true := by simp [h1]
    clear hv hi1 hsm
    go_enter Tryd.func38, Tryd.ntmps38
    go_wp2_with fail
    refine (c1.out _).mono ?_
    rintro e w1 ⟨rfl, hb1⟩
    go_wp2_with fail
    go_ret2
    exact ⟨ret2op H.out, hb1⟩
end Go.Proofs.YtkpgadjhcnkadaaDoor
namespace Go.Proofs.YtkpgadjhcnkadaaDoor
open Go.RowKit

theorem below_drewN'' {B : Nat} {a w : World} (h : Below B a w) (n : Nat) : Below B a (w.drewN n) := ⟨h.os, h.tape, h.output, h.size, h.block⟩
def lcpL : List UInt8 → List UInt8 → Nat
  | x :: xs, y :: ys => if x = y then lcpL xs ys + 1 else 0
  | _, _ => 0
def lcpB (a b : ByteArray) (i j : Nat) : Nat := lcpL (a.data.toList.drop i) (b.data.toList.drop j)
def bestStep (old next : ByteArray) (p : Nat) (b : Nat × Nat) (off : Nat) : Nat × Nat := if b.1 < lcpB old next off p then (lcpB old next off p, off) else b
/-- The length of the longest piece of next at p that lies in old, and its smallest offset. -/
def longestF (old next : ByteArray) (p : Nat) : Nat × Nat := (List.range old.size).foldl (bestStep old next p) (0, 0)
def numS (n : Int) : ByteArray := ⟨(encInt n).toArray⟩
def insF (s : ByteArray) : ByteArray := if s.size = 0 then .empty else numS 0 ++ (numS s.size ++ s)
theorem lcpL_le : ∀ (a b : List UInt8), lcpL a b ≤ a.length ∧ lcpL a b ≤ b.length
  | [], b => by simp [lcpL]
  | _ :: _, [] => by simp [lcpL]
  | x :: xs, y :: ys => by
    have := lcpL_le xs ys
    unfold lcpL
    split <;> simp <;> omega
theorem lcpB_le (a b : ByteArray) (i j : Nat) : lcpB a b i j ≤ a.size - i ∧ lcpB a b i j ≤ b.size - j := by
  have := lcpL_le (a.data.toList.drop i) (b.data.toList.drop j)
  simp only [List.length_drop, ba_size] at this
  exact this
theorem lcpB_zero (a b : ByteArray) (i j : Nat) (h : a.size ≤ i ∨ b.size ≤ j) : lcpB a b i j = 0 := by
  have := lcpB_le a b i j; omega
theorem lcpB_hit (a b : ByteArray) (i j : Nat) (hi : i < a.size) (hj : j < b.size) (h : a[i] = b[j]) : lcpB a b i j = lcpB a b (i + 1) (j + 1) + 1 := by
  unfold lcpB; rw [drop_cons a i hi, drop_cons b j hj]; simp [lcpL, h]
theorem lcpB_miss (a b : ByteArray) (i j : Nat) (hi : i < a.size) (hj : j < b.size) (h : a[i] ≠ b[j]) : lcpB a b i j = 0 := by
  unfold lcpB; rw [drop_cons a i hi, drop_cons b j hj]; simp [lcpL, h]

set_option maxHeartbeats 400000 in
theorem number_any (n : Int) (w : World) (h1 : -maxInt ≤ n) (h2 : n ≤ maxInt) : Calls Tryd.prog 46 #[.int .i64 n] w fun e w' => e = .returned (.string (numS n)) ∧ Below w.heap.size w w' := by
  have c := refPutInt_any n w
  rw [putInt_val n h1 h2] at c
  have C := Lib.hid c
  clear c
  go_enter Tryd.func46, Tryd.ntmps46
  go_wp2_with fail
  refine (C.out).mono ?_
  rintro e w1 ⟨rfl, hb1⟩
  go_wp2_with fail
  go_ret
  exact ⟨rfl, hb1⟩
theorem numS_size (n : Int) : (numS n).size ≤ 10 := encInt_len n
set_option maxHeartbeats 400000 in
theorem insertion_any (s : ByteArray) (w : World) (hs : s.size ≤ 65536) : Calls Tryd.prog 48 #[.string s] w fun e w' => e = .returned (.string (insF s)) ∧ Below w.heap.size w w' := by
  unfold insF
  by_cases h : s.size = 0
  · rw [if_pos h]
    have e : s.toList.isEmpty = true := by rw [empty_iff]; simp [h]
    go_enter Tryd.func48, Tryd.ntmps48
    go_wp2_with fail
    go_ret
    exact ⟨rfl, Below.refl _ _⟩
  · rw [if_neg h]
    have e : s.toList.isEmpty = false := by rw [empty_iff]; simp [h]
    have c := refPutStr_any s w (by omega)
    rw [putStr_val s hs] at c
    obtain ⟨t, ht⟩ : ∃ t, numS s.size ++ s = t := ⟨_, rfl⟩
    have hts : t.size ≤ 65600 := by rw [← ht, ba_append_size]; have := numS_size s.size; omega
    have c' : Calls Tryd.prog 60 #[.string s] w fun e w' => e = .returned (.tuple #[.string t, .int .i64 0]) ∧ Below w.heap.size w w' := by rw [← ht]; exact c
    rw [ht]
    obtain ⟨z, hz⟩ : ∃ z, numS 0 = z := ⟨_, rfl⟩
    have hzs : z.size ≤ 10 := by rw [← hz]; exact numS_size 0
    have cz := fun W => number_any 0 W (by unfold maxInt; omega) (by unfold maxInt; omega)
    simp only [hz] at cz
    rw [hz]
    have C := Lib.hid c'
    have CZ := Lib.hid cz
    clear c c' cz hz ht
    go_enter Tryd.func48, Tryd.ntmps48
    go_wp2_with fail
    refine (C.out).mono ?_
    rintro e w1 ⟨rfl, hb1⟩
    go_wp2_with fail
    refine (CZ.out _).mono ?_
    rintro e w2 ⟨rfl, hb2⟩
    go_wp2_with fail
    go_ret
    exact ⟨rfl, Below_then hb1 hb2⟩

set_option maxRecDepth 100000 in
set_option maxHeartbeats 3200000 in
theorem longest_any (old next : ByteArray) (p : Nat) (w : World) (ho : old.size ≤ 8192) (hn : next.size ≤ 8192) (hp : p ≤ next.size) :
    Calls Tryd.prog 47 #[.string old, .string next, .int .i64 p] w fun e w' => e = .returned (.tuple #[.int .i64 (longestF old next p).1, .int .i64 (longestF old next p).2]) ∧ Below w.heap.size w w' := by
  go_enter Tryd.func47, Tryd.ntmps47
  go_wp2_with fail
  go_loopw [8, 9, 10, 11] (fun v8 v9 v10 _ wr => ∃ (off : Nat) (b : Nat × Nat), off ≤ old.size ∧ v10 = .int .i64 off ∧ v8 = .int .i64 b.1 ∧ v9 = .int .i64 b.2 ∧ Hid ((List.range off).foldl (bestStep old next p) (0, 0) = b) ∧ Below w.heap.size w wr) (fun _ _ v10 _ _ => old.size - (intOf v10).toNat)
  case atStart => exact ⟨0, (0, 0), by omega, rfl, rfl, rfl, Lib.hid rfl, Below.refl _ _⟩
  case round =>
    obtain ⟨off, ⟨b, ba⟩, ho1, rfl, rfl, rfl, Hb, hB⟩ := hrel
    by_cases hlt : off < old.size
    · have t0 : decide ((off : Int) < old.size) = true := by simp; omega
      go_wp2_with fail
      obtain ⟨wo, rfl⟩ : ∃ wo : World, wo = wr := ⟨_, rfl⟩
      go_loopw [11] (fun v11 wz => ∃ (n : Nat), v11 = .int .i64 n ∧ Hid (lcpB old next (off + n) (p + n) + n = lcpB old next off p) ∧ Below w.heap.size w wz) (fun v11 _ => old.size - (intOf v11).toNat)
      case atStart => exact ⟨0, rfl, Lib.hid (by simp), hB⟩
      case round =>
        obtain ⟨n, rfl, Hn, hBz⟩ := hrel
        have hn1 : n ≤ 8192 := by have := Hn.out; have := lcpB_le old next off p; omega
        obtain ⟨K, hK⟩ : ∃ K, off + n = K := ⟨_, rfl⟩
        obtain ⟨L, hL⟩ : ∃ L, p + n = L := ⟨_, rfl⟩
        have iK : (off : Int) + n = (K : Int) := by omega
        have iL : (p : Int) + n = (L : Int) := by omega
        have HK := Lib.hid hK
        have HL := Lib.hid hL
        by_cases a1 : K < old.size
        · have t1 : decide ((K : Int) < old.size) = true := by simp; omega
          by_cases a2 : L < next.size
          · have t2 : decide ((L : Int) < next.size) = true := by simp; omega
            have j1 : (0 : Int) ≤ K := by omega
            have j2 : (K : Int) < old.size := by omega
            have j3 : (0 : Int) ≤ L := by omega
            have j4 : (L : Int) < next.size := by omega
            by_cases a3 : old[K] = next[L]
            · have t3 : ((old[K].toNat : Int) == (next[L].toNat : Int)) = true := by rw [a3]; simp
              have hz := lcpB_hit old next K L a1 a2 a3
              clear hK hL a3
              go_wp2_with fail
              go_quiet (fail)
              go_wp2_with fail
              go_roundw
              case rel => exact ⟨n + 1, by go_num, Lib.hid (by have := Hn.out; rw [HK.out, HL.out] at this; rw [show off + (n + 1) = K + 1 by have := HK.out; omega, show p + (n + 1) = L + 1 by have := HL.out; omega]; omega), below_drewN'' hBz _⟩
              case measure => simp [intOf]; omega
            · have t3 : ((old[K].toNat : Int) == (next[L].toNat : Int)) = false := by
                rw [beq_eq_false_iff_ne]; intro e; exact a3 (UInt8.toNat_inj.1 (by omega))
              have hz := lcpB_miss old next K L a1 a2 a3
              clear hK hL a3
              have hlen : lcpB old next off p = n := by have := Hn.out; rw [HK.out, HL.out] at this; omega
              have hstep : (List.range (off + 1)).foldl (bestStep old next p) (0, 0) = if b < n then (n, off) else (b, ba) := by
                rw [List.range_succ, List.foldl_append, Hb.out]
                simp only [List.foldl_cons, List.foldl_nil, bestStep, hlen]
              have Hs := Lib.hid hstep
              clear hstep hlen hz
              by_cases hbn : b < n
              · have t8 : decide ((b : Int) < n) = true := by simp; omega
                go_wp2_with fail
                go_quiet (fail)
                go_wp2_with fail
                go_roundw
                case rel => exact ⟨off + 1, (n, off), by omega, by go_num, rfl, rfl, Lib.hid (by rw [Hs.out, if_pos hbn]), below_drewN'' hBz _⟩
                case measure => simp [intOf]; omega
              · have t8 : decide ((b : Int) < n) = false := by simp; omega
                go_wp2_with fail
                go_quiet (fail)
                go_wp2_with fail
                go_roundw
                case rel => exact ⟨off + 1, (b, ba), by omega, by go_num, rfl, rfl, Lib.hid (by rw [Hs.out, if_neg hbn]), below_drewN'' hBz _⟩
                case measure => simp [intOf]; omega
          · have t2 : decide ((L : Int) < next.size) = false := by simp; omega
            have hz := lcpB_zero old next K L (.inr (by omega))
            clear hK hL
            have hlen : lcpB old next off p = n := by have := Hn.out; rw [HK.out, HL.out] at this; omega
            have hstep : (List.range (off + 1)).foldl (bestStep old next p) (0, 0) = if b < n then (n, off) else (b, ba) := by
              rw [List.range_succ, List.foldl_append, Hb.out]
              simp only [List.foldl_cons, List.foldl_nil, bestStep, hlen]
            have Hs := Lib.hid hstep
            clear hstep hlen hz
            by_cases hbn : b < n
            · have t8 : decide ((b : Int) < n) = true := by simp; omega
              go_wp2_with fail
              go_quiet (fail)
              go_wp2_with fail
              go_roundw
              case rel => exact ⟨off + 1, (n, off), by omega, by go_num, rfl, rfl, Lib.hid (by rw [Hs.out, if_pos hbn]), below_drewN'' hBz _⟩
              case measure => simp [intOf]; omega
            · have t8 : decide ((b : Int) < n) = false := by simp; omega
              go_wp2_with fail
              go_quiet (fail)
              go_wp2_with fail
              go_roundw
              case rel => exact ⟨off + 1, (b, ba), by omega, by go_num, rfl, rfl, Lib.hid (by rw [Hs.out, if_neg hbn]), below_drewN'' hBz _⟩
              case measure => simp [intOf]; omega
        · have t1 : decide ((K : Int) < old.size) = false := by simp; omega
          have hz := lcpB_zero old next K L (.inl (by omega))
          clear hK hL
          have hlen : lcpB old next off p = n := by have := Hn.out; rw [HK.out, HL.out] at this; omega
          have hstep : (List.range (off + 1)).foldl (bestStep old next p) (0, 0) = if b < n then (n, off) else (b, ba) := by
            rw [List.range_succ, List.foldl_append, Hb.out]
            simp only [List.foldl_cons, List.foldl_nil, bestStep, hlen]
          have Hs := Lib.hid hstep
          clear hstep hlen hz
          by_cases hbn : b < n
          · have t8 : decide ((b : Int) < n) = true := by simp; omega
            go_wp2_with fail
            go_quiet (fail)
            go_wp2_with fail
            go_roundw
            case rel => exact ⟨off + 1, (n, off), by omega, by go_num, rfl, rfl, Lib.hid (by rw [Hs.out, if_pos hbn]), below_drewN'' hBz _⟩
            case measure => simp [intOf]; omega
          · have t8 : decide ((b : Int) < n) = false := by simp; omega
            go_wp2_with fail
            go_quiet (fail)
            go_wp2_with fail
            go_roundw
            case rel => exact ⟨off + 1, (b, ba), by omega, by go_num, rfl, rfl, Lib.hid (by rw [Hs.out, if_neg hbn]), below_drewN'' hBz _⟩
            case measure => simp [intOf]; omega
    · obtain rfl : off = old.size := by omega
      have t0 : decide ((old.size : Int) < old.size) = false := by simp
      have H : Hid (longestF old next p = (b, ba)) := Hb
      go_wp2_with fail
      go_ret2
      exact ⟨by rw [H.out]; rfl, hB⟩
theorem insF_size (s : ByteArray) : (insF s).size ≤ 20 + s.size := by
  unfold insF
  split
  · simp
  · rw [ba_append_size, ba_append_size]; have := numS_size 0; have := numS_size s.size; omega
theorem longestF_le (old next : ByteArray) (p : Nat) : (longestF old next p).1 ≤ next.size - p ∧ (longestF old next p).2 ≤ old.size := by
  unfold longestF
  have key : ∀ (l : List Nat) (b : Nat × Nat), (∀ x ∈ l, x < old.size) → b.1 ≤ next.size - p ∧ b.2 ≤ old.size → (l.foldl (bestStep old next p) b).1 ≤ next.size - p ∧ (l.foldl (bestStep old next p) b).2 ≤ old.size := by
    intro l
    induction l with
    | nil => intro b _ h; exact h
    | cons x l ih =>
      intro b hl h
      refine ih _ (fun y hy => hl y (List.mem_cons_of_mem _ hy)) ?_
      have h1 := hl x (List.mem_cons_self ..)
      have h2 := lcpB_le old next x p
      unfold bestStep
      split
      · exact ⟨h2.2, by simp only; omega⟩
      · exact h
  exact key _ _ (fun x hx => List.mem_range.1 hx) ⟨Nat.zero_le _, Nat.zero_le _⟩
def diffGo (old next : ByteArray) : Nat → Nat → ByteArray → ByteArray → ByteArray
  | 0, _, fresh, out => out ++ insF fresh
  | k + 1, p, fresh, out =>
    if p < next.size then
      if 8 ≤ (longestF old next p).1 then diffGo old next k (p + (longestF old next p).1) .empty (out ++ insF fresh ++ numS (longestF old next p).1 ++ numS (longestF old next p).2)
      else diffGo old next k (p + 1) (fresh ++ next.extract p (p + 1)) out
    else out ++ insF fresh
def diffF (old next : ByteArray) : ByteArray :=
  if 8192 < old.size ∨ 8192 < next.size then .empty else diffGo old next next.size 0 .empty (numS (sumB old) ++ numS (sumB next))
theorem diffGo_end {old next : ByteArray} {k p : Nat} {f o : ByteArray} (h : next.size ≤ p) : diffGo old next k p f o = o ++ insF f := by
  cases k with
  | zero => rfl
  | succ k => unfold diffGo; rw [if_neg (by omega)]
theorem diffGo_copy {old next : ByteArray} {k p n a : Nat} {f o : ByteArray} (h : p < next.size) (hk : next.size ≤ k + p) (hl : longestF old next p = (n, a)) (hn : 8 ≤ n) : ∃ j, k = j + 1 ∧ diffGo old next k p f o = diffGo old next j (p + n) .empty (o ++ insF f ++ numS n ++ numS a) := by
  cases k with
  | zero => omega
  | succ k => exact ⟨k, rfl, by conv => lhs; unfold diffGo; rw [if_pos h, hl, if_pos hn]⟩
theorem diffGo_fresh {old next : ByteArray} {k p n a : Nat} {f o : ByteArray} (h : p < next.size) (hk : next.size ≤ k + p) (hl : longestF old next p = (n, a)) (hn : ¬ 8 ≤ n) : ∃ j, k = j + 1 ∧ diffGo old next k p f o = diffGo old next j (p + 1) (f ++ next.extract p (p + 1)) o := by
  cases k with
  | zero => omega
  | succ k => exact ⟨k, rfl, by conv => lhs; unfold diffGo; rw [if_pos h, hl, if_neg hn]⟩
theorem sum_maxInt (s : ByteArray) : -maxInt ≤ sumB s ∧ sumB s ≤ maxInt := by have := sumB_range s; unfold maxInt; omega

set_option maxRecDepth 100000 in
set_option maxHeartbeats 6400000 in
theorem refDiff_any (old next : ByteArray) (w : World) (hos : old.size ≤ 4611686018427387904) (hns : next.size ≤ 4611686018427387904) :
    Calls Tryd.prog 39 #[.string old, .string next] w fun e w' => e = .returned (.string (diffF old next)) ∧ Below w.heap.size w w' := by
  obtain ⟨v, hv⟩ : ∃ v, diffF old next = v := ⟨_, rfl⟩
  rw [hv]
  unfold diffF at hv
  by_cases h1 : 8192 < old.size
  · have t0 : decide ((8192 : Int) < old.size) = true := by simp; omega
    rw [if_pos (.inl h1)] at hv
    subst hv
    go_enter Tryd.func39, Tryd.ntmps39
    go_wp2_with fail
    go_ret
    exact ⟨rfl, Below.refl _ _⟩
  have t0 : decide ((8192 : Int) < old.size) = false := by simp; omega
  by_cases h2 : 8192 < next.size
  · have t1 : decide ((8192 : Int) < next.size) = true := by simp; omega
    rw [if_pos (.inr h2)] at hv
    subst hv
    go_enter Tryd.func39, Tryd.ntmps39
    go_wp2_with fail
    go_ret
    exact ⟨rfl, Below.refl _ _⟩
  have t1 : decide ((8192 : Int) < next.size) = false := by simp; omega
  rw [if_neg (by omega)] at hv
  obtain ⟨so, hso⟩ : ∃ so, sumB old = so := ⟨_, rfl⟩
  obtain ⟨sn, hsn⟩ : ∃ sn, sumB next = sn := ⟨_, rfl⟩
  have m1 := sum_maxInt old
  have m2 := sum_maxInt next
  rw [hso] at m1
  rw [hsn] at m2
  obtain ⟨x, hx⟩ : ∃ x, numS so = x := ⟨_, rfl⟩
  obtain ⟨y, hy⟩ : ∃ y, numS sn = y := ⟨_, rfl⟩
  have hxs : x.size ≤ 10 := by rw [← hx]; exact numS_size so
  have hys : y.size ≤ 10 := by rw [← hy]; exact numS_size sn
  have c1 := fun W => number_any so W m1.1 m1.2
  have c2 := fun W => number_any sn W m2.1 m2.2
  have c3 := Lib.hid (fun W => refSum_is hso (by omega) W)
  have c4 := Lib.hid (fun W => refSum_is hsn (by omega) W)
  rw [hso, hsn, hx, hy] at hv
  simp only [hx, hy] at c1 c2
  have C1 := Lib.hid c1
  have C2 := Lib.hid c2
  have HV := Lib.hid hv
  clear c1 c2 hx hy hso hsn hv m1 m2
  go_enter Tryd.func39, Tryd.ntmps39
  go_wp2_with fail
  refine (c3.out _).mono ?_
  rintro e w' ⟨rfl, rfl⟩
  go_wp2_with fail
  refine (C1.out _).mono ?_
  rintro e w1 ⟨rfl, hb1⟩
  go_wp2_with fail
  refine (c4.out _).mono ?_
  rintro e w' ⟨rfl, rfl⟩
  go_wp2_with fail
  refine (C2.out _).mono ?_
  rintro e w2 ⟨rfl, hb2⟩
  have hB2 := Below_then hb1 hb2
  go_wp2_with fail
  go_loopw [5, 6, 7, 8, 9] (fun v5 v6 v7 _ _ wr => ∃ (j p : Nat) (f o : ByteArray), v5 = .string o ∧ v6 = .string f ∧ v7 = .int .i64 p ∧ p ≤ next.size ∧ f.size ≤ p ∧ o.size ≤ 20 + 8300 * p ∧ Hid (next.size ≤ j + p ∧ diffGo old next j p f o = v) ∧ Below w.heap.size w wr) (fun _ _ v7 _ _ _ => next.size - (intOf v7).toNat)
  case atStart => exact ⟨next.size, 0, .empty, x ++ y, rfl, rfl, rfl, by omega, by simp, by rw [ba_append_size]; omega, Lib.hid ⟨by omega, HV.out⟩, hB2⟩
  case round =>
    obtain ⟨j, p, f, o, rfl, rfl, rfl, hp, hf, hos', H, hB⟩ := hrel
    have i1 := insF_size f
    obtain ⟨g, hg⟩ : ∃ g, insF f = g := ⟨_, rfl⟩
    have cg := fun W => insertion_any f W (by omega)
    rw [hg] at i1
    simp only [hg] at cg
    have CG := Lib.hid cg
    have HG := Lib.hid hg
    clear cg hg
    by_cases hlt : p < next.size
    · have t2 : decide ((p : Int) < next.size) = true := by simp; omega
      obtain ⟨⟨n, a⟩, hl⟩ : ∃ q, longestF old next p = q := ⟨_, rfl⟩
      have hle := longestF_le old next p
      rw [hl] at hle
      simp only at hle
      have cl := fun W => longest_any old next p W (by omega) (by omega) hp
      simp only [hl] at cl
      have CL := Lib.hid cl
      have HL := Lib.hid hl
      clear cl hl
      by_cases h8 : 8 ≤ n
      · have t3 : decide ((8 : Int) ≤ n) = true := by simp; omega
        obtain ⟨X, hX⟩ : ∃ X, numS n = X := ⟨_, rfl⟩
        obtain ⟨Y, hY⟩ : ∃ Y, numS a = Y := ⟨_, rfl⟩
        have hXs : X.size ≤ 10 := by rw [← hX]; exact numS_size n
        have hYs : Y.size ≤ 10 := by rw [← hY]; exact numS_size a
        have d1 := fun W => number_any (n : Int) W (by unfold maxInt; omega) (by unfold maxInt; omega)
        have d2 := fun W => number_any (a : Int) W (by unfold maxInt; omega) (by unfold maxInt; omega)
        simp only [hX, hY] at d1 d2
        have D1 := Lib.hid d1
        have D2 := Lib.hid d2
        have HX := Lib.hid hX
        have HY := Lib.hid hY
        clear d1 d2 hX hY
        go_wp2_with fail
        refine (CL.out _).mono ?_
        rintro e w3 ⟨rfl, hb3⟩
        go_wp2_with fail
        refine (CG.out _).mono ?_
        rintro e w4 ⟨rfl, hb4⟩
        go_wp2_with fail
        refine (D1.out _).mono ?_
        rintro e w5 ⟨rfl, hb5⟩
        go_wp2_with fail
        refine (D2.out _).mono ?_
        rintro e w6 ⟨rfl, hb6⟩
        go_wp2_with fail
        go_roundw
        case rel =>
          obtain ⟨j', hj, hs⟩ := diffGo_copy (f := f) (o := o) hlt H.out.1 HL.out h8
          refine ⟨j', p + n, .empty, o ++ g ++ X ++ Y, rfl, rfl, by simp, by omega, by simp, ?_, Lib.hid ⟨by have := H.out.1; omega, ?_⟩, hB.trans ((Below_then (Below_then (Below_then hb3 hb4) hb5) hb6).mono hB.size)⟩
          · rw [ba_append_size, ba_append_size, ba_append_size]; omega
          · rw [← HG.out, ← HX.out, ← HY.out, ← hs]; exact H.out.2
        case measure => simp [intOf]; omega
      · have t3 : decide ((8 : Int) ≤ n) = false := by simp; omega
        have j1 : (0 : Int) ≤ p := by omega
        have j2 : (p : Int) ≤ (p : Int) + 1 := by omega
        have j3 : (p : Int) + 1 ≤ next.size := by omega
        go_wp2_with fail
        refine (CL.out _).mono ?_
        rintro e w3 ⟨rfl, hb3⟩
        go_wp2_with fail
        go_roundw
        case rel =>
          obtain ⟨j', hj, hs⟩ := diffGo_fresh (f := f) (o := o) hlt H.out.1 HL.out h8
          refine ⟨j', p + 1, f ++ next.extract p (p + 1), o, rfl, rfl, by go_num, by omega, ?_, by omega, Lib.hid ⟨by have := H.out.1; omega, ?_⟩, hB.trans (hb3.mono hB.size)⟩
          · rw [ba_append_size]; simp; omega
          · rw [← hs]; exact H.out.2
        case measure => simp [intOf]; omega
    · have t2 : decide ((p : Int) < next.size) = false := by simp; omega
      have he := H.out.2
      rw [diffGo_end (by omega), HG.out] at he
      have HE := Lib.hid he
      clear he
      go_wp2_with fail
      refine (CG.out _).mono ?_
      rintro e w3 ⟨rfl, hb3⟩
      go_wp2_with fail
      go_ret
      exact ⟨by rw [← HE.out]; rfl, hB.trans (hb3.mono hB.size)⟩
end Go.Proofs.YtkpgadjhcnkadaaDoor
