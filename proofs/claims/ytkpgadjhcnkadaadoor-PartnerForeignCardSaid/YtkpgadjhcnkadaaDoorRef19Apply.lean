/- copydeskref19.Apply computes applyF. -/
import Derived.Test.YtkpgadjhcnkadaaDoorRef19
namespace Go.Proofs.YtkpgadjhcnkadaaDoor
open Go.RowKit

theorem strAt_facts' {d t : ByteArray} {a nx : Int} (h : strAt d a = (t, nx, 0)) : a < nx ∧ t.size ≤ 65536 := by
  have f2 := intAt_facts d a
  unfold strAt at h
  split at h
  · rename_i k1; simp at h; exact absurd h.2.2 k1
  · split at h
    · simp at h
    · rename_i k1 k2
      simp at h
      obtain ⟨rfl, rfl⟩ := h
      rcases f2 with f2 | f2
      · refine ⟨by omega, ?_⟩
        simp
        omega
      · omega
theorem opAt_facts' {old d : ByteArray} {a : Int} {s : ByteArray} {nx : Int} (h : opAt old d a = (s, nx, 0)) : a < nx ∧ s.size ≤ 65536 + old.size := by
  obtain ⟨n, nx1, e1, hi1⟩ : ∃ A B C, intAt d a = (A, B, C) := ⟨_, _, _, rfl⟩
  have f1 := intAt_facts d a
  rw [hi1] at f1
  by_cases h1 : e1 = 0
  · subst h1
    simp at f1
    by_cases h2 : n < 0
    · rw [opAt_neg hi1 h2] at h; simp at h
    · by_cases h3 : n = 0
      · subst h3
        rw [opAt_ins hi1] at h
        obtain ⟨t, nx2, e2, hs⟩ : ∃ A B C, strAt d nx1 = (A, B, C) := ⟨_, _, _, rfl⟩
        rw [hs] at h
        by_cases h4 : e2 = 0
        · subst h4
          have f2 := strAt_facts' hs
          by_cases h5 : t.size = 0
          · simp [h5] at h
          · simp [h5] at h
            obtain ⟨rfl, rfl⟩ := h
            exact ⟨by omega, by omega⟩
        · simp [h4] at h
      · rw [opAt_copy hi1 (by omega)] at h
        have f2 := intAt_facts d nx1
        split at h
        · simp at h
        · split at h
          · simp at h
          · rename_i g1 g2
            simp at h
            obtain ⟨rfl, rfl⟩ := h
            simp at g1
            rcases f2 with f2 | f2
            · refine ⟨by omega, ?_⟩
              simp
              omega
            · omega
  · rw [opAt_num hi1 h1] at h; simp at h
theorem ret2op {s : ByteArray} {er : Int} {p : ByteArray × Int} (h : p = (s, er)) : Ending.returned (.tuple #[.string s, .int .i64 er]) = .returned (.tuple #[.string p.1, .int .i64 p.2]) := by rw [h]

set_option maxRecDepth 100000 in
set_option maxHeartbeats 6400000 in
theorem refApply_any (old d : ByteArray) (w : World) (hd : d.size ≤ 4611686018427387904) (hos : old.size ≤ 4611686018427387904) :
    Calls Tryd.prog 38 #[.string old, .string d] w fun e w' => e = .returned (.tuple #[.string (applyF old d).1, .int .i64 (applyF old d).2]) ∧ Below w.heap.size w w' := by
  obtain ⟨v, hv⟩ : ∃ v, applyF old d = v := ⟨_, rfl⟩
  rw [hv]
  by_cases h : 8192 < old.size
  · have H := Lib.hid (show v = (.empty, 190) by rw [← hv]; unfold applyF; rw [if_pos h])
    have t0 : decide ((8192 : Int) < old.size) = true := by simp; omega
    clear hv
    go_enter Tryd.func38, Tryd.ntmps38
    go_wp2_with fail
    go_ret2
    exact ⟨ret2op H.out, Below.refl _ _⟩
  have t0 : decide ((8192 : Int) < old.size) = false := by simp; omega
  obtain ⟨n, nx, e1, hi1⟩ : ∃ n nx e1, intAt d 0 = (n, nx, e1) := ⟨_, _, _, rfl⟩
  obtain ⟨sm, hsm⟩ : ∃ sm, sumB old = sm := ⟨_, rfl⟩
  have c1 := Lib.hid (fun W => refInt_is hi1 hd W)
  have c2 := Lib.hid (fun W => refSum_is hsm (by omega) W)
  by_cases h1 : e1 = 0
  · subst h1
    by_cases h2 : n = sm
    · have hv2 : applyRest old d (intAt d nx) = v := by rw [← hv]; unfold applyF; rw [if_neg h, hi1, if_neg (by simp), if_neg (by rw [hsm]; simpa using h2)]
      have q2 : (n == sm) = true := by simp [h2]
      have q2' : (n != sm) = false := by simp [h2]
      obtain ⟨want, nx2, e2, hi2⟩ : ∃ A B C, intAt d nx = (A, B, C) := ⟨_, _, _, rfl⟩
      rw [hi2] at hv2
      have c3 := Lib.hid (fun W => refInt_is hi2 hd W)
      by_cases h3 : e2 = 0
      · subst h3
        have hfx := intAt_facts d nx
        rw [hi2] at hfx
        have H5 := Lib.hid (show 0 ≤ nx2 ∧ nx2 ≤ d.size by rcases hfx with h | h <;> simp at h; omega)
        have Hv2 := Lib.hid hv2
        clear hv hv2 hi1 hi2 hfx hsm
        go_enter Tryd.func38, Tryd.ntmps38
        go_wp2_with fail
        refine (c1.out _).mono ?_
        rintro e w1 ⟨rfl, hb1⟩
        go_wp2_with fail
        refine (c2.out _).mono ?_
        rintro e w' ⟨rfl, rfl⟩
        go_wp2_with fail
        refine (c3.out _).mono ?_
        rintro e w2 ⟨rfl, hb2⟩
        have hB2 := Below_then hb1 hb2
        go_wp2_with fail
        go_loopw [7, 10, 11, 12, 13] (fun v7 v10 _ _ _ wr => ∃ (j : Nat) (at_ : Int) (O : ByteArray), v7 = .int .i64 at_ ∧ v10 = .string O ∧ O.size ≤ 8192 ∧ Hid (0 ≤ at_ ∧ (d.size : Int) ≤ j + at_) ∧ Hid (applyGo old d j at_ O.data.toList = applyGo old d d.size nx2 []) ∧ Below w.heap.size w wr) (fun v7 _ _ _ _ _ => ((d.size : Int) - intOf v7).toNat)
        case atStart => exact ⟨d.size, nx2, .empty, rfl, rfl, by simp, Lib.hid ⟨H5.out.1, by have := H5.out.1; omega⟩, Lib.hid rfl, hB2⟩
        case round =>
          obtain ⟨j, at_, O, rfl, rfl, hO, Hat, Hgo, hB⟩ := hrel
          by_cases hlt : at_ < d.size
          · have t1 : decide (at_ < (d.size : Int)) = true := decide_eq_true hlt
            obtain ⟨s, nx3, er, hop⟩ : ∃ A B C, opAt old d at_ = (A, B, C) := ⟨_, _, _, rfl⟩
            have c4 := fun W => operation_any old d at_ W hd (by omega)
            simp only [hop] at c4
            have C4 := Lib.hid c4
            have Hop := Lib.hid hop
            clear c4 hop
            by_cases her : er = 0
            · subst her
              have hf := opAt_facts' Hop.out
              have b1 : (O.size : Int) ≤ 8192 := by omega
              have b2 : (s.size : Int) ≤ 4611686018427387904 := by omega
              have b3 : IntKind.i64.wrap ((O.size : Int) + s.size) = (O.size : Int) + s.size := by rw [wrap_i64']; omega
              by_cases hbig : 8192 < O.size + s.size
              · have t9 : decide ((8192 : Int) < (O.size : Int) + s.size) = true := by simp; omega
                have H := Lib.hid (show v = (.empty, 190) by
                  rw [← Hv2.out]; unfold applyRest
                  rw [← Hgo.out, applyGo_long hlt Hat.out.2 Hop.out hbig, if_neg (by simp), if_pos (by simp)])
                go_wp2_with fail
                refine (C4.out _).mono ?_
                rintro e w3 ⟨rfl, hb3⟩
                go_wp2_with fail
                go_ret2
                exact ⟨ret2op H.out, hB.trans (hb3.mono hB.size)⟩
              · have t9 : decide ((8192 : Int) < (O.size : Int) + s.size) = false := by simp; omega
                go_wp2_with fail
                refine (C4.out _).mono ?_
                rintro e w3 ⟨rfl, hb3⟩
                go_wp2_with fail
                go_roundw
                case rel =>
                  obtain ⟨j', hj, hstep⟩ := applyGo_step hlt Hat.out.2 Hop.out hbig
                  exact ⟨j', nx3, O ++ s, rfl, rfl, by rw [ba_append_size]; omega, Lib.hid ⟨by have := Hat.out.1; omega, by have := Hat.out.2; omega⟩, Lib.hid (by rw [ba_append]; exact hstep.symm.trans Hgo.out), hB.trans (hb3.mono hB.size)⟩
                case measure => simp only [intOf]; omega
            · have e4 : (er == 0) = false := by simp [her]
              have e4' : (er != 0) = true := by simp [her]
              have H := Lib.hid (show v = (.empty, er) by
                rw [← Hv2.out]; unfold applyRest
                rw [← Hgo.out, applyGo_bad hlt Hat.out.2 Hop.out her, if_neg (by simp), if_pos her])
              go_wp2_with fail
              refine (C4.out _).mono ?_
              rintro e w3 ⟨rfl, hb3⟩
              go_wp2_with fail
              go_ret2
              exact ⟨ret2op H.out, hB.trans (hb3.mono hB.size)⟩
          · have t1 : decide (at_ < (d.size : Int)) = false := decide_eq_false hlt
            have hgd := applyGo_done (old := old) (k := j) (out := O.data.toList) (show (d.size : Int) ≤ at_ by omega)
            have hv3 := Hv2.out
            unfold applyRest at hv3
            rw [← Hgo.out, hgd, if_neg (by simp), if_neg (by simp)] at hv3
            obtain ⟨so, hso⟩ : ∃ so, sumB O = so := ⟨_, rfl⟩
            have hOO : (⟨O.data.toList.toArray⟩ : ByteArray) = O := by simp
            simp only [hOO, hso] at hv3
            have c5 := Lib.hid (fun W => refSum_is hso (by omega) W)
            clear hgd hso hOO
            by_cases hw8 : so = want
            · have q8 : (so == want) = true := by simp [hw8]
              have q8' : (so != want) = false := by simp [hw8]
              rw [if_neg (by simpa using hw8)] at hv3
              have H := Lib.hid hv3
              clear hv3
              go_wp2_with fail
              refine (c5.out _).mono ?_
              rintro e w' ⟨rfl, rfl⟩
              go_wp2_with fail
              go_ret2
              exact ⟨ret2op H.out.symm, hB⟩
            · have q8 : (so == want) = false := by simp [hw8]
              have q8' : (so != want) = true := by simp [hw8]
              rw [if_pos (by simpa using hw8)] at hv3
              have H := Lib.hid hv3
              clear hv3
              go_wp2_with fail
              refine (c5.out _).mono ?_
              rintro e w' ⟨rfl, rfl⟩
              go_wp2_with fail
              go_ret2
              exact ⟨ret2op H.out.symm, hB⟩
      · have H := Lib.hid (show v = (.empty, 10) by rw [← hv2]; unfold applyRest; rw [if_pos h3])
        have e4 : (e2 == 0) = false := by simp [h3]
        have e4' : (e2 != 0) = true := by simp [h3]
        clear hv hv2 hi1 hi2 hsm
        go_enter Tryd.func38, Tryd.ntmps38
        go_wp2_with fail
        refine (c1.out _).mono ?_
        rintro e w1 ⟨rfl, hb1⟩
        go_wp2_with fail
        refine (c2.out _).mono ?_
        rintro e w' ⟨rfl, rfl⟩
        go_wp2_with fail
        refine (c3.out _).mono ?_
        rintro e w2 ⟨rfl, hb2⟩
        go_wp2_with fail
        go_ret2
        exact ⟨ret2op H.out, Below_then hb1 hb2⟩
    · have H := Lib.hid (show v = (.empty, 190) by rw [← hv]; unfold applyF; rw [if_neg h, hi1, if_neg (by simp), if_pos (by rw [hsm]; simpa using h2)])
      have q2 : (n == sm) = false := by simp [h2]
      have q2' : (n != sm) = true := by simp [h2]
      clear hv hi1 hsm
      go_enter Tryd.func38, Tryd.ntmps38
      go_wp2_with fail
      refine (c1.out _).mono ?_
      rintro e w1 ⟨rfl, hb1⟩
      go_wp2_with fail
      refine (c2.out _).mono ?_
      rintro e w' ⟨rfl, rfl⟩
      go_wp2_with fail
      go_ret2
      exact ⟨ret2op H.out, hb1⟩
  · have H := Lib.hid (show v = (.empty, 10) by rw [← hv]; unfold applyF; rw [if_neg h, hi1, if_pos h1])
    have e4 : (e1 == 0) = false := by simp [h1]
    have e4' : (e1 != 0) = true := by simp [h1]
    clear hv hi1 hsm
    go_enter Tryd.func38, Tryd.ntmps38
    go_wp2_with fail
    refine (c1.out _).mono ?_
    rintro e w1 ⟨rfl, hb1⟩
    go_wp2_with fail
    go_ret2
    exact ⟨ret2op H.out, hb1⟩
end Go.Proofs.YtkpgadjhcnkadaaDoor
