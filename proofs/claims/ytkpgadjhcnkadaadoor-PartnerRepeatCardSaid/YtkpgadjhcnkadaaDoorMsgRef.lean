/- copydeskref20.Valid computes the same test as message.Valid. -/
import Derived.Test.YtkpgadjhcnkadaaDoorMsg
namespace Go.Proofs.YtkpgadjhcnkadaaDoor
open Go.RowKit

theorem isEmpty_size' (s : ByteArray) : s.toList.isEmpty = decide (s.size = 0) := by
  rw [ByteArray.toList_eq, ← ba_size]
  cases s.data.toList <;> simp
theorem withinB_iff (n lo hi : Int) : withinB n lo hi = true ↔ lo ≤ n ∧ n ≤ hi := by unfold withinB; simp
theorem isSumB_iff (n : Int) (any : Bool) : isSumB n any = true ↔ (0 ≤ n ∧ n ≤ 4294967295) ∧ (any = true ∨ n = 0) := by unfold isSumB; rw [Bool.and_eq_true, withinB_iff]; simp
theorem validM_iff (m : Msg) : validM m = true ↔ (ruleF m.kind).2 = true ∧ (1 ≤ m.partner ∧ m.partner ≤ 8) ∧ (1 ≤ m.seq ∧ m.seq ≤ 4611686018427387903) ∧ (1 ≤ m.story ∧ m.story ≤ 64) ∧ ((0 ≤ m.base ∧ m.base ≤ 4294967295) ∧ ((ruleF m.kind).1.1 = true ∨ m.base = 0)) ∧ ((0 ≤ m.version ∧ m.version ≤ 4294967295) ∧ ((ruleF m.kind).1.2.1 = true ∨ m.version = 0)) ∧ (m.data.size : Int) ≤ (ruleF m.kind).1.2.2 := by
  unfold validM
  simp only [Bool.and_eq_true, withinB_iff, isSumB_iff, decide_eq_true_eq]
  exact ⟨fun h => ⟨h.1.1.1.1.1.1, h.1.1.1.1.1.2, h.1.1.1.1.2, h.1.1.1.2, h.1.1.2, h.1.2, h.2⟩, fun h => ⟨⟨⟨⟨⟨⟨h.1, h.2.1⟩, h.2.2.1⟩, h.2.2.2.1⟩, h.2.2.2.2.1⟩, h.2.2.2.2.2.1⟩, h.2.2.2.2.2.2⟩⟩
theorem validM_no (m : Msg) (h : ¬((1 ≤ m.partner ∧ m.partner ≤ 8) ∧ (1 ≤ m.seq ∧ m.seq ≤ 4611686018427387903) ∧ (1 ≤ m.story ∧ m.story ≤ 64) ∧ (0 ≤ m.base ∧ m.base ≤ 4294967295) ∧ (0 ≤ m.version ∧ m.version ≤ 4294967295))) : validM m = false := by
  cases hv : validM m
  · rfl
  · have := (validM_iff m).1 hv
    exact absurd ⟨this.2.1, this.2.2.1, this.2.2.2.1, this.2.2.2.2.1.1, this.2.2.2.2.2.1.1⟩ h

set_option maxRecDepth 100000 in
set_option maxHeartbeats 12000000 in
theorem refValid_any (m : Msg) (w : World) (hs : m.data.size ≤ 4611686018427387904) : Calls Tryd.prog 36 #[msgV m] w fun e w' => e = .returned (.bool (validM m)) ∧ Below w.heap.size w w' := by
  have hB : ∀ o, Below w.heap.size w (w.alloc o) := fun o => (Below.refl _ _).alloc (Nat.le_refl _) _
  obtain ⟨k, p, q, s, b, v, d⟩ := m
  simp only at hs
  unfold msgV
  by_cases h0 : p < 1
  · have d0 : decide (p < 1) = true := decide_eq_true h0
    rw [validM_no _ (by simp only; omega)]
    go_enter Tryd.func36, Tryd.ntmps36
    go_wp2
    go_ret
    exact ⟨rfl, hB _⟩
  have d0 : decide (p < 1) = false := decide_eq_false h0
  by_cases h1 : 8 < p
  · have d1 : decide (8 < p) = true := decide_eq_true h1
    rw [validM_no _ (by simp only; omega)]
    go_enter Tryd.func36, Tryd.ntmps36
    go_wp2
    go_ret
    exact ⟨rfl, hB _⟩
  have d1 : decide (8 < p) = false := decide_eq_false h1
  by_cases h2 : q < 1
  · have d2 : decide (q < 1) = true := decide_eq_true h2
    rw [validM_no _ (by simp only; omega)]
    go_enter Tryd.func36, Tryd.ntmps36
    go_wp2
    go_ret
    exact ⟨rfl, hB _⟩
  have d2 : decide (q < 1) = false := decide_eq_false h2
  by_cases h3 : 4611686018427387903 < q
  · have d3 : decide (4611686018427387903 < q) = true := decide_eq_true h3
    rw [validM_no _ (by simp only; omega)]
    go_enter Tryd.func36, Tryd.ntmps36
    go_wp2
    go_ret
    exact ⟨rfl, hB _⟩
  have d3 : decide (4611686018427387903 < q) = false := decide_eq_false h3
  by_cases h4 : s < 1
  · have d4 : decide (s < 1) = true := decide_eq_true h4
    rw [validM_no _ (by simp only; omega)]
    go_enter Tryd.func36, Tryd.ntmps36
    go_wp2
    go_ret
    exact ⟨rfl, hB _⟩
  have d4 : decide (s < 1) = false := decide_eq_false h4
  by_cases h5 : 64 < s
  · have d5 : decide (64 < s) = true := decide_eq_true h5
    rw [validM_no _ (by simp only; omega)]
    go_enter Tryd.func36, Tryd.ntmps36
    go_wp2
    go_ret
    exact ⟨rfl, hB _⟩
  have d5 : decide (64 < s) = false := decide_eq_false h5
  by_cases h6 : b < 0
  · have d6 : decide (b < 0) = true := decide_eq_true h6
    rw [validM_no _ (by simp only; omega)]
    go_enter Tryd.func36, Tryd.ntmps36
    go_wp2
    go_ret
    exact ⟨rfl, hB _⟩
  have d6 : decide (b < 0) = false := decide_eq_false h6
  by_cases h7 : 4294967295 < b
  · have d7 : decide (4294967295 < b) = true := decide_eq_true h7
    rw [validM_no _ (by simp only; omega)]
    go_enter Tryd.func36, Tryd.ntmps36
    go_wp2
    go_ret
    exact ⟨rfl, hB _⟩
  have d7 : decide (4294967295 < b) = false := decide_eq_false h7
  by_cases h8 : v < 0
  · have d8 : decide (v < 0) = true := decide_eq_true h8
    rw [validM_no _ (by simp only; omega)]
    go_enter Tryd.func36, Tryd.ntmps36
    go_wp2
    go_ret
    exact ⟨rfl, hB _⟩
  have d8 : decide (v < 0) = false := decide_eq_false h8
  by_cases h9 : 4294967295 < v
  · have d9 : decide (4294967295 < v) = true := decide_eq_true h9
    rw [validM_no _ (by simp only; omega)]
    go_enter Tryd.func36, Tryd.ntmps36
    go_wp2
    go_ret
    exact ⟨rfl, hB _⟩
  have d9 : decide (4294967295 < v) = false := decide_eq_false h9
  by_cases k1 : k = 1
  · subst k1
    by_cases hd : (d.size : Int) ≤ 16384
    · have e1 : decide ((d.size : Int) ≤ 16384) = true := decide_eq_true hd
      have hv : validM ⟨1, p, q, s, b, v, d⟩ = true := by
        rw [validM_iff]
        refine ⟨rfl, by simp only; omega, by simp only; omega, by simp only; omega, ⟨by simp only; omega, by simp [ruleF]⟩, ⟨by simp only; omega, by simp [ruleF]⟩, ?_⟩
        show (d.size : Int) ≤ 16384
        omega
      rw [hv]
      go_enter Tryd.func36, Tryd.ntmps36
      go_wp2
      go_ret
      exact ⟨by simp_all, hB _⟩
    · have e1 : decide ((d.size : Int) ≤ 16384) = false := decide_eq_false hd
      have hv : validM ⟨1, p, q, s, b, v, d⟩ = false := by
        cases hv : validM ⟨1, p, q, s, b, v, d⟩
        · rfl
        · have h : (d.size : Int) ≤ 16384 := ((validM_iff _).1 hv).2.2.2.2.2.2
          omega
      rw [hv]
      go_enter Tryd.func36, Tryd.ntmps36
      go_wp2
      go_ret
      exact ⟨by simp_all, hB _⟩
  have f1 : (k == 1) = false := by simp [k1]
  by_cases k2 : k = 2
  · subst k2
    by_cases zb : b = 0
    · subst zb
      by_cases zv : v = 0
      · subst zv
        by_cases z : d.size = 0
        · have e0 : d.toList.isEmpty = true := by rw [isEmpty_size']; simp [z]
          have hv : validM ⟨2, p, q, s, 0, 0, d⟩ = true := by
            rw [validM_iff]
            refine ⟨rfl, by simp only; omega, by simp only; omega, by simp only; omega, ⟨by simp only; omega, by simp [ruleF]⟩, ⟨by simp only; omega, by simp [ruleF]⟩, ?_⟩
            show (d.size : Int) ≤ 0
            omega
          rw [hv]
          go_enter Tryd.func36, Tryd.ntmps36
          go_wp2
          go_ret
          exact ⟨by simp_all, hB _⟩
        · have e0 : d.toList.isEmpty = false := by rw [isEmpty_size']; simp [z]
          have hv : validM ⟨2, p, q, s, 0, 0, d⟩ = false := by
            cases hv : validM ⟨2, p, q, s, 0, 0, d⟩
            · rfl
            · have h : (d.size : Int) ≤ 0 := ((validM_iff _).1 hv).2.2.2.2.2.2
              omega
          rw [hv]
          go_enter Tryd.func36, Tryd.ntmps36
          go_wp2
          go_ret
          exact ⟨by simp_all, hB _⟩
      · have ev : (v == 0) = false := by simp [zv]
        have hv : validM ⟨2, p, q, s, 0, v, d⟩ = false := by
          cases hv : validM ⟨2, p, q, s, 0, v, d⟩
          · rfl
          · have := (validM_iff _).1 hv
            simp [ruleF] at this
            omega
        rw [hv]
        go_enter Tryd.func36, Tryd.ntmps36
        go_wp2
        go_ret
        exact ⟨by simp_all, hB _⟩
    · have eb : (b == 0) = false := by simp [zb]
      have hv : validM ⟨2, p, q, s, b, v, d⟩ = false := by
        cases hv : validM ⟨2, p, q, s, b, v, d⟩
        · rfl
        · have := (validM_iff _).1 hv
          simp [ruleF] at this
          omega
      rw [hv]
      go_enter Tryd.func36, Tryd.ntmps36
      go_wp2
      go_ret
      exact ⟨by simp_all, hB _⟩
  have f2 : (k == 2) = false := by simp [k2]
  by_cases k3 : k = 3
  · subst k3
    by_cases zb : b = 0
    · subst zb
      by_cases z : d.size = 0
      · have e0 : d.toList.isEmpty = true := by rw [isEmpty_size']; simp [z]
        have hv : validM ⟨3, p, q, s, 0, v, d⟩ = true := by
          rw [validM_iff]
          refine ⟨rfl, by simp only; omega, by simp only; omega, by simp only; omega, ⟨by simp only; omega, by simp [ruleF]⟩, ⟨by simp only; omega, by simp [ruleF]⟩, ?_⟩
          show (d.size : Int) ≤ 0
          omega
        rw [hv]
        go_enter Tryd.func36, Tryd.ntmps36
        go_wp2
        go_ret
        exact ⟨by simp_all, hB _⟩
      · have e0 : d.toList.isEmpty = false := by rw [isEmpty_size']; simp [z]
        have hv : validM ⟨3, p, q, s, 0, v, d⟩ = false := by
          cases hv : validM ⟨3, p, q, s, 0, v, d⟩
          · rfl
          · have h : (d.size : Int) ≤ 0 := ((validM_iff _).1 hv).2.2.2.2.2.2
            omega
        rw [hv]
        go_enter Tryd.func36, Tryd.ntmps36
        go_wp2
        go_ret
        exact ⟨by simp_all, hB _⟩
    · have eb : (b == 0) = false := by simp [zb]
      have hv : validM ⟨3, p, q, s, b, v, d⟩ = false := by
        cases hv : validM ⟨3, p, q, s, b, v, d⟩
        · rfl
        · have := (validM_iff _).1 hv
          simp [ruleF] at this
          omega
      rw [hv]
      go_enter Tryd.func36, Tryd.ntmps36
      go_wp2
      go_ret
      exact ⟨by simp_all, hB _⟩
  have f3 : (k == 3) = false := by simp [k3]
  by_cases k4 : k = 4
  · subst k4
    by_cases zv : v = 0
    · subst zv
      by_cases z : d.size = 0
      · have e0 : d.toList.isEmpty = true := by rw [isEmpty_size']; simp [z]
        have hv : validM ⟨4, p, q, s, b, 0, d⟩ = true := by
          rw [validM_iff]
          refine ⟨rfl, by simp only; omega, by simp only; omega, by simp only; omega, ⟨by simp only; omega, by simp [ruleF]⟩, ⟨by simp only; omega, by simp [ruleF]⟩, ?_⟩
          show (d.size : Int) ≤ 0
          omega
        rw [hv]
        go_enter Tryd.func36, Tryd.ntmps36
        go_wp2
        go_ret
        exact ⟨by simp_all, hB _⟩
      · have e0 : d.toList.isEmpty = false := by rw [isEmpty_size']; simp [z]
        have hv : validM ⟨4, p, q, s, b, 0, d⟩ = false := by
          cases hv : validM ⟨4, p, q, s, b, 0, d⟩
          · rfl
          · have h : (d.size : Int) ≤ 0 := ((validM_iff _).1 hv).2.2.2.2.2.2
            omega
        rw [hv]
        go_enter Tryd.func36, Tryd.ntmps36
        go_wp2
        go_ret
        exact ⟨by simp_all, hB _⟩
    · have ev : (v == 0) = false := by simp [zv]
      have hv : validM ⟨4, p, q, s, b, v, d⟩ = false := by
        cases hv : validM ⟨4, p, q, s, b, v, d⟩
        · rfl
        · have := (validM_iff _).1 hv
          simp [ruleF] at this
          omega
      rw [hv]
      go_enter Tryd.func36, Tryd.ntmps36
      go_wp2
      go_ret
      exact ⟨by simp_all, hB _⟩
  have f4 : (k == 4) = false := by simp [k4]
  have hv : validM ⟨k, p, q, s, b, v, d⟩ = false := by
    unfold validM ruleF
    simp [k1, k2, k3, k4]
  rw [hv]
  go_enter Tryd.func36, Tryd.ntmps36
  go_wp2
  go_ret
  exact ⟨rfl, hB _⟩
end Go.Proofs.YtkpgadjhcnkadaaDoor
