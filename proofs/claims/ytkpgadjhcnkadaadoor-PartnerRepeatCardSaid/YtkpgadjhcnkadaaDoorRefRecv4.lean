/- copydeskref22.Receive computes recvR. -/
import Derived.Test.YtkpgadjhcnkadaaDoorRefRecv2
import Derived.Test.YtkpgadjhcnkadaaDoorRefRecv3
set_option linter.unusedSimpArgs false
set_option linter.unusedVariables false
namespace Go.Proofs.YtkpgadjhcnkadaaDoor
open Go.RowKit

theorem refReceive_any {B r : Nat} {id : Int} {E : List Ent} {w : World} (hr : IsR B r id E w) (hBw : B ≤ w.heap.size) (m : Msg) (hd : m.data.size ≤ 4611686018427387904) (hlen : E.length ≤ 1000) (ht : (entryF E m.story).text.size ≤ 4611686018427387904) :
    Calls Tryd.prog 19 #[.pointer (some ⟨r, 0, none⟩), msgV m] w fun e w' => ∃ v, e = .returned v ∧ IsAns w.heap.size w' v (recvR id E m).1 ∧ IsR B r id (recvR id E m).2 w' ∧ w.grownBy w' (some r) := by
  have same : ∀ {o : Option Msg}, (Calls Tryd.prog 19 #[.pointer (some ⟨r, 0, none⟩), msgV m] w fun e w' => ∃ v, e = .returned v ∧ IsAns w.heap.size w' v o ∧ Below w.heap.size w w') →
      Calls Tryd.prog 19 #[.pointer (some ⟨r, 0, none⟩), msgV m] w fun e w' => ∃ v, e = .returned v ∧ IsAns w.heap.size w' v o ∧ IsR B r id E w' ∧ w.grownBy w' (some r) := fun h =>
    h.mono fun e w' ⟨v, h1, h2, h3⟩ => ⟨v, h1, h2, hr.below h3, ⟨h3.os, h3.tape, h3.output, h3.size, fun j hj _ => h3.block j hj⟩⟩
  have out : (Calls Tryd.prog 19 #[.pointer (some ⟨r, 0, none⟩), msgV m] w fun e w' => e = .returned (.slice none 0 0) ∧ Below w.heap.size w w') →
      Calls Tryd.prog 19 #[.pointer (some ⟨r, 0, none⟩), msgV m] w fun e w' => ∃ v, e = .returned v ∧ IsAns w.heap.size w' v none ∧ Below w.heap.size w w' := fun h =>
    h.mono fun e w' ⟨h1, h2⟩ => ⟨_, h1, rfl, h2⟩
  unfold recvR
  by_cases hv : validM m = false
  · rw [if_pos (.inl hv)]
    exact same (out (refRecv_bad hr m hd hlen hv))
  have hv' : validM m = true := by simpa using hv
  by_cases hpa : m.partner = id
  · by_cases hk : m.kind ≠ 1 ∧ m.kind ≠ 2
    · rw [if_pos (.inr (.inr hk))]
      exact same (out (refRecv_kind hr m hd hlen hv' hpa hk))
    · rw [if_neg (fun h => h.elim hv (fun h => h.elim (fun h => h hpa) hk))]
      have hk12 : m.kind = 1 ∨ m.kind = 2 := by omega
      by_cases h1 : m.seq < (entryF E m.story).seq
      · rw [if_pos h1]
        rcases hk12 with hk1 | hk2
        · exact same (refRecv_late1 hr m hd hlen hv' hpa hk1 h1 ht)
        · exact same (refRecv_late2 hr m hd hlen hv' hpa hk2 h1 ht)
      · rw [if_neg h1]
        by_cases h2 : m.seq = (entryF E m.story).seq
        · rw [if_pos h2]
          rcases hk12 with hk1 | hk2
          · exact same (refRecv_same1 hr m hd hlen hv' hpa hk1 h2 ht)
          · exact same (refRecv_same2 hr m hd hlen hv' hpa hk2 h2 ht)
        · rw [if_neg h2]
          by_cases h3 : m.kind = 2
          · rw [if_pos h3]
            exact refRecv_kill hr m hd hlen hBw hv' hpa h3 (by omega) ht
          · rw [if_neg h3]
            have hk1 : m.kind = 1 := by omega
            have hl : (entryF E m.story).seq < m.seq := by omega
            by_cases hz : m.base = 0
            · simp only [if_pos hz]
              obtain ⟨⟨tx, code⟩, hap⟩ : ∃ p, applyF .empty m.data = p := ⟨_, rfl⟩
              simp only [hap]
              have hs0 : sumB ByteArray.empty = m.base := by rw [hz]; kernel_rfl
              by_cases hc : code = 0
              · by_cases hq : sumB tx = m.version
                · rw [if_neg (fun h => h.elim (fun h => h hs0) (fun h => h.elim (fun h => h hc) (fun h => h hq)))]
                  exact refRecv_ok1 hr m hd hlen hBw hv' hpa hk1 hl ht hz hap hc hq
                · rw [if_pos (.inr (.inr hq))]
                  exact same (refRecv_c1 hr m hd hlen hBw hv' hpa hk1 hl ht hz hap hc hq)
              · rw [if_pos (.inr (.inl hc))]
                exact same (refRecv_b1 hr m hd hlen hBw hv' hpa hk1 hl ht hz hap hc)
            · simp only [if_neg hz]
              obtain ⟨⟨tx, code⟩, hap⟩ : ∃ p, applyF (entryF E m.story).text m.data = p := ⟨_, rfl⟩
              simp only [hap]
              by_cases hs0 : sumB (entryF E m.story).text = m.base
              · by_cases hc : code = 0
                · by_cases hq : sumB tx = m.version
                  · rw [if_neg (fun h => h.elim (fun h => h hs0) (fun h => h.elim (fun h => h hc) (fun h => h hq)))]
                    exact refRecv_ok0 hr m hd hlen hBw hv' hpa hk1 hl ht hz hap hs0 hc hq
                  · rw [if_pos (.inr (.inr hq))]
                    exact same (refRecv_c0 hr m hd hlen hBw hv' hpa hk1 hl ht hz hap hs0 hc hq)
                · rw [if_pos (.inr (.inl hc))]
                  exact same (refRecv_b0 hr m hd hlen hBw hv' hpa hk1 hl ht hz hap hs0 hc)
              · rw [if_pos (.inl hs0)]
                exact same (refRecv_a0 hr m hd hlen hBw hv' hpa hk1 hl ht hz hap hs0)
  · rw [if_pos (.inr (.inl hpa))]
    exact same (out (refRecv_other hr m hd hlen hv' hpa))
end Go.Proofs.YtkpgadjhcnkadaaDoor
