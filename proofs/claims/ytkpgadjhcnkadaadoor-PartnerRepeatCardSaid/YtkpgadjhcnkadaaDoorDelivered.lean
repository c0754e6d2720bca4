/- partner.delivered. -/
import Derived.Test.YtkpgadjhcnkadaaDoorPartner
import Derived.Test.YtkpgadjhcnkadaaDoorApply3
set_option linter.unusedSimpArgs false
set_option linter.unusedVariables false
namespace Go.Proofs.YtkpgadjhcnkadaaDoor
open Go.RowKit

def baseF (h : Held) (m : Msg) : ByteArray := if m.base = 0 then .empty else h.text
def delivF (h : Held) (m : Msg) : ByteArray × Bool :=
  if sumB (baseF h m) ≠ m.base then (.empty, false) else ((applyF (baseF h m) m.data).1, decide ((applyF (baseF h m) m.data).2 = 0) && decide (sumB (applyF (baseF h m) m.data).1 = m.version))
theorem applyF_size (old d : ByteArray) : (applyF old d).1.size ≤ 8192 := by
  have key : ∀ (k : Nat) (a : Int) (out : List UInt8), out.length ≤ 8192 → (applyGo old d k a out).2.length ≤ 8192 := by
    intro k
    induction k with
    | zero => intro a out h; exact h
    | succ k ih =>
      intro a out h
      unfold applyGo
      split
      · split
        · simp
        · split
          · simp
          · refine ih _ _ ?_
            rw [List.length_append, ba_size]; omega
      · exact h
  unfold applyF
  split
  · simp
  · split
    · simp
    · split
      · simp
      · unfold applyRest
        split
        · simp
        · split
          · simp
          · split
            · simp
            · exact key _ _ _ (by simp)
theorem NibCells.drewN {w : World} (h : NibCells w) (k : Nat) : NibCells (w.drewN k) := h
theorem below_drewN3 {B : Nat} {a w : World} (h : Below B a w) (n : Nat) : Below B a (w.drewN n) := ⟨h.os, h.tape, h.output, h.size, h.block⟩
theorem retSB {s : ByteArray} {b : Bool} {p : ByteArray × Bool} (h : p = (s, b)) : Ending.returned (.tuple #[.string s, .bool b]) = .returned (.tuple #[.string p.1, .bool p.2]) := by rw [h]

set_option maxRecDepth 100000 in
set_option maxHeartbeats 3200000 in
theorem delivered_any (h : Held) (m : Msg) (a0 a1 : Addr) (w : World) (hn : NibCells w) (he : ErrCells a0 a1 w) (ht : h.text.size ≤ 4611686018427387904) (hd : m.data.size ≤ 4611686018427387904) :
    Calls Tryd.prog 35 #[heldV h, msgV m] w fun e w' => e = .returned (.tuple #[.string (delivF h m).1, .bool (delivF h m).2]) ∧ Below w.heap.size w w' := by
  obtain ⟨v, hv⟩ : ∃ v, delivF h m = v := ⟨_, rfl⟩
  obtain ⟨B, hBF⟩ : ∃ B, baseF h m = B := ⟨_, rfl⟩
  have hBs : B.size ≤ 4611686018427387904 := by rw [← hBF]; unfold baseF; split; · simp
                                                exact ht
  obtain ⟨sb, hsb⟩ : ∃ x, sumB B = x := ⟨_, rfl⟩
  obtain ⟨⟨t, er⟩, hap⟩ : ∃ x, applyF B m.data = x := ⟨_, rfl⟩
  have hts := applyF_size B m.data
  rw [hap] at hts
  simp only at hts
  obtain ⟨st, hst⟩ : ∃ x, sumB t = x := ⟨_, rfl⟩
  have ca := fun (W : World) (h1 : NibCells W) (h2 : ErrCells a0 a1 W) => apply_any B m.data a0 a1 W h1 h2 hd
  rw [hap] at ca
  have CA := Lib.hid ca
  have CB := Lib.hid (fun (W : World) (h1 : NibCells W) => sum_is hsb (by omega) W h1)
  have CT := Lib.hid (fun (W : World) (h1 : NibCells W) => sum_is hst (by omega) W h1)
  rw [hv]
  unfold delivF at hv
  rw [hBF, hsb, hap] at hv
  simp only [hst] at hv
  have HB : Hid (B = if m.base = 0 then .empty else h.text) := Lib.hid hBF.symm
  have HV := Lib.hid hv
  clear hv hBF hsb hap ca hst
  obtain ⟨sq, tx, hs⟩ := h
  obtain ⟨kd, pa, se, so, ba, ve, da⟩ := m
  simp only at hd ht HB HV
  unfold heldV msgV
  have hmem : ∀ W : World, Below w.heap.size w W → NibCells W ∧ ErrCells a0 a1 W := fun W hB => ⟨hn.below hB, he.below hB⟩
  have HM := Lib.hid hmem
  clear hmem hn he
  go_enter Tryd.func35, Tryd.ntmps35
  by_cases h0 : ba = 0
  · subst h0
    obtain rfl : B = ⟨#[]⟩ := by rw [HB.out]; rfl
    go_wp2_with fail
    obtain ⟨w2, hw2⟩ : ∃ w2, (w.alloc (.cells #[.int .i64 sq, .string tx, .bool hs] 73)).alloc (.cells #[.int .i64 kd, .int .i64 pa, .int .i64 se, .int .i64 so, .int .i64 0, .int .i64 ve, .string da] 33) = w2 := ⟨_, rfl⟩
    have hB2 : Below w.heap.size w w2 := by rw [← hw2]; exact ((Below.refl _ _).alloc (Nat.le_refl _) _).alloc (by simp) _
    have hh := Go.MapKept.heap_alloc (w.alloc (.cells #[.int .i64 sq, .string tx, .bool hs] 73)) (.cells #[.int .i64 kd, .int .i64 pa, .int .i64 se, .int .i64 so, .int .i64 0, .int .i64 ve, .string da] 33)
    rw [World.size_alloc, hw2] at hh
    have g4 : w2.cell? ⟨w.heap.size + 1, 4, none⟩ = some (.int .i64 0) := by rw [Lib.cell_of_heap hh.1]; rfl
    have g5 : w2.cell? ⟨w.heap.size + 1, 5, none⟩ = some (.int .i64 ve) := by rw [Lib.cell_of_heap hh.1]; rfl
    have g6 : w2.cell? ⟨w.heap.size + 1, 6, none⟩ = some (.string da) := by rw [Lib.cell_of_heap hh.1]; rfl
    have hs2 : w2.heap.size = w.heap.size + 2 := by rw [← hw2]; simp
    rw [hw2]
    have Hh := Lib.hid hh.1
    clear hw2 hh
    by_cases h1 : sb = 0
    · have q1 : (sb == 0) = true := by simp [h1]
      have q1' : (sb != 0) = false := by simp [h1]
      have hv := HV.out
      rw [if_neg (by simpa using h1)] at hv
      have HV2 := Lib.hid hv
      clear hv
      go_quiet ((go_at_call 34; exact quiet_left' (CB.out _ ((HM.out _ hB2).1.drewN _))))
      go_wp2_with fail
      refine (CA.out _ (HM.out _ (below_drewN3 hB2 _)).1 (HM.out _ (below_drewN3 hB2 _)).2).mono ?_
      rintro e w3 ⟨rfl, hb3⟩
      have hb3' := hb3.size
      have g5' : w3.cell? ⟨w.heap.size + 1, 5, none⟩ = some (.int .i64 ve) := (hb3.cell (p := ⟨w.heap.size + 1, 5, none⟩) (show w.heap.size + 1 < w2.heap.size by omega)).trans g5
      have hB3 : Below w.heap.size w w3 := (below_drewN3 hB2 _).trans (hb3.mono (show w.heap.size ≤ w2.heap.size by omega))
      clear g4 g5 g6 hb3 hb3'
      by_cases h2 : er = 0
      · have q2 : (er == 0) = true := by simp [h2]
        go_wp2_with fail
        go_quiet ((go_at_call 34; exact quiet_left' (CT.out _ ((HM.out _ hB3).1.drewN _))))
        go_wp2_with fail
        go_ret2
        refine ⟨retSB (HV2.out.symm.trans ?_), below_drewN3 hB3 _⟩
        simp [h2]
        rfl
      · have q2 : (er == 0) = false := by simp [h2]
        go_wp2_with fail
        go_quiet ((go_at_call 34; exact quiet_left' (CT.out _ ((HM.out _ hB3).1.drewN _))))
        go_wp2_with fail
        go_ret2
        exact ⟨retSB (HV2.out.symm.trans (by simp [h2])), below_drewN3 hB3 _⟩
    · have q1 : (sb == 0) = false := by simp [h1]
      have q1' : (sb != 0) = true := by simp [h1]
      have hv := HV.out
      rw [if_pos (by simpa using h1)] at hv
      have HV2 := Lib.hid hv
      clear hv
      go_quiet ((go_at_call 34; exact quiet_left' (CB.out _ ((HM.out _ hB2).1.drewN _))))
      go_wp2_with fail
      go_ret2
      exact ⟨retSB HV2.out.symm, below_drewN3 hB2 _⟩
  · have t0 : (ba == 0) = false := by simp [h0]
    have t0' : (ba != 0) = true := by simp [h0]
    obtain rfl : B = tx := by rw [HB.out, if_neg h0]
    go_wp2_with fail
    obtain ⟨w2, hw2⟩ : ∃ w2, (w.alloc (.cells #[.int .i64 sq, .string B, .bool hs] 73)).alloc (.cells #[.int .i64 kd, .int .i64 pa, .int .i64 se, .int .i64 so, .int .i64 ba, .int .i64 ve, .string da] 33) = w2 := ⟨_, rfl⟩
    have hB2 : Below w.heap.size w w2 := by rw [← hw2]; exact ((Below.refl _ _).alloc (Nat.le_refl _) _).alloc (by simp) _
    have hh := Go.MapKept.heap_alloc (w.alloc (.cells #[.int .i64 sq, .string B, .bool hs] 73)) (.cells #[.int .i64 kd, .int .i64 pa, .int .i64 se, .int .i64 so, .int .i64 ba, .int .i64 ve, .string da] 33)
    rw [World.size_alloc, hw2] at hh
    have g4 : w2.cell? ⟨w.heap.size + 1, 4, none⟩ = some (.int .i64 ba) := by rw [Lib.cell_of_heap hh.1]; rfl
    have g5 : w2.cell? ⟨w.heap.size + 1, 5, none⟩ = some (.int .i64 ve) := by rw [Lib.cell_of_heap hh.1]; rfl
    have g6 : w2.cell? ⟨w.heap.size + 1, 6, none⟩ = some (.string da) := by rw [Lib.cell_of_heap hh.1]; rfl
    have hs2 : w2.heap.size = w.heap.size + 2 := by rw [← hw2]; simp
    rw [hw2]
    have Hh := Lib.hid hh.1
    clear hw2 hh
    by_cases h1 : sb = ba
    · have q1 : (sb == ba) = true := by simp [h1]
      have q1' : (sb != ba) = false := by simp [h1]
      have hv := HV.out
      rw [if_neg (by simpa using h1)] at hv
      have HV2 := Lib.hid hv
      clear hv
      go_quiet ((go_at_call 34; exact quiet_left' (CB.out _ ((HM.out _ hB2).1.drewN _))))
      go_wp2_with fail
      refine (CA.out _ (HM.out _ (below_drewN3 hB2 _)).1 (HM.out _ (below_drewN3 hB2 _)).2).mono ?_
      rintro e w3 ⟨rfl, hb3⟩
      have hb3' := hb3.size
      have g5' : w3.cell? ⟨w.heap.size + 1, 5, none⟩ = some (.int .i64 ve) := (hb3.cell (p := ⟨w.heap.size + 1, 5, none⟩) (show w.heap.size + 1 < w2.heap.size by omega)).trans g5
      have hB3 : Below w.heap.size w w3 := (below_drewN3 hB2 _).trans (hb3.mono (show w.heap.size ≤ w2.heap.size by omega))
      clear g4 g5 g6 hb3 hb3'
      by_cases h2 : er = 0
      · have q2 : (er == 0) = true := by simp [h2]
        go_wp2_with fail
        go_quiet ((go_at_call 34; exact quiet_left' (CT.out _ ((HM.out _ hB3).1.drewN _))))
        go_wp2_with fail
        go_ret2
        refine ⟨retSB (HV2.out.symm.trans ?_), below_drewN3 hB3 _⟩
        simp [h2]
        rfl
      · have q2 : (er == 0) = false := by simp [h2]
        go_wp2_with fail
        go_quiet ((go_at_call 34; exact quiet_left' (CT.out _ ((HM.out _ hB3).1.drewN _))))
        go_wp2_with fail
        go_ret2
        exact ⟨retSB (HV2.out.symm.trans (by simp [h2])), below_drewN3 hB3 _⟩
    · have q1 : (sb == ba) = false := by simp [h1]
      have q1' : (sb != ba) = true := by simp [h1]
      have hv := HV.out
      rw [if_pos (by simpa using h1)] at hv
      have HV2 := Lib.hid hv
      clear hv
      go_quiet ((go_at_call 34; exact quiet_left' (CB.out _ ((HM.out _ hB2).1.drewN _))))
      go_wp2_with fail
      go_ret2
      exact ⟨retSB HV2.out.symm, below_drewN3 hB2 _⟩
end Go.Proofs.YtkpgadjhcnkadaaDoor
