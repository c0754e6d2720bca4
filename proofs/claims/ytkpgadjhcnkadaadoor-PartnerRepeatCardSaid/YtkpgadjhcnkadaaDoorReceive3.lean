/- partner.Receive computes recvF; at nil it gives nothing. -/
import Derived.Test.YtkpgadjhcnkadaaDoorReceive2
set_option linter.unusedSimpArgs false
set_option linter.unusedVariables false
namespace Go.Proofs.YtkpgadjhcnkadaaDoor
open Go.RowKit

theorem grown_of_below {w w' : World} (h : Below w.heap.size w w') (b : Option Nat) : w.grownBy w' b := ⟨h.os, h.tape, h.output, h.size, fun j hj _ => h.block j hj⟩
theorem receive_any {p b : Nat} {id : Int} {l : List (Int × Held)} {w : World} (a0 a1 : Addr) (hn : NibCells w) (he : ErrCells a0 a1 w) (hp : IsP p b id l w) (m : Msg) (hd : m.data.size ≤ 4611686018427387904) (ht : (mapAt l m.story).text.size ≤ 4611686018427387904) :
    Calls Tryd.prog 18 #[.pointer (some ⟨p, 0, none⟩), msgV m] w fun e w' => ∃ v, e = .returned v ∧ IsAns w.heap.size w' v (recvF id l m).1 ∧ IsP p b id (recvF id l m).2 w' ∧ w.grownBy w' (some b) := by
  have same : ∀ {o : Option Msg}, (Calls Tryd.prog 18 #[.pointer (some ⟨p, 0, none⟩), msgV m] w fun e w' => ∃ v, e = .returned v ∧ IsAns w.heap.size w' v o ∧ Below w.heap.size w w') →
      Calls Tryd.prog 18 #[.pointer (some ⟨p, 0, none⟩), msgV m] w fun e w' => ∃ v, e = .returned v ∧ IsAns w.heap.size w' v o ∧ IsP p b id l w' ∧ w.grownBy w' (some b) := fun h =>
    h.mono fun e w' ⟨v, h1, h2, h3⟩ => ⟨v, h1, h2, hp.below h3 hp.lt hp.held.lt, grown_of_below h3 _⟩
  have out : (Calls Tryd.prog 18 #[.pointer (some ⟨p, 0, none⟩), msgV m] w fun e w' => e = .returned (.slice none 0 0) ∧ Below w.heap.size w w') →
      Calls Tryd.prog 18 #[.pointer (some ⟨p, 0, none⟩), msgV m] w fun e w' => ∃ v, e = .returned v ∧ IsAns w.heap.size w' v none ∧ Below w.heap.size w w' := fun h =>
    h.mono fun e w' ⟨h1, h2⟩ => ⟨_, h1, rfl, h2⟩
  unfold recvF
  by_cases hv : validM m = false
  · rw [if_pos (.inl hv)]
    exact same (out (receive_bad hp m hd hv))
  have hv' : validM m = true := by simpa using hv
  by_cases hpa : m.partner = id
  · by_cases hk : m.kind ≠ 1 ∧ m.kind ≠ 2
    · rw [if_pos (.inr (.inr hk))]
      exact same (out (receive_kind hp m hd hv' hpa hk))
    · rw [if_neg (fun h => h.elim hv (fun h => h.elim (fun h => h hpa) hk))]
      have hk12 : m.kind = 1 ∨ m.kind = 2 := by omega
      by_cases h1 : m.seq < (mapAt l m.story).seq
      · rw [if_pos h1]
        rcases hk12 with hk1 | hk2
        · exact same (receive_late1 hn hp m hd hv' hpa hk1 ht h1)
        · exact same (receive_late2 hn hp m hd hv' hpa hk2 ht h1)
      · rw [if_neg h1]
        by_cases h2 : m.seq = (mapAt l m.story).seq
        · rw [if_pos h2]
          rcases hk12 with hk1 | hk2
          · exact same (receive_same1 hn hp m hd hv' hpa hk1 ht h2)
          · exact same (receive_same2 hn hp m hd hv' hpa hk2 ht h2)
        · rw [if_neg h2]
          by_cases h3 : m.kind = 2
          · rw [if_pos h3]
            exact receive_kill hn hp m hd hv' hpa h3 ht (by omega)
          · rw [if_neg h3]
            by_cases h4 : (delivF (mapAt l m.story) m).2 = false
            · rw [if_pos h4]
              exact same (receive_notok hn hp m hd hv' hpa (by omega) ht a0 a1 he (by omega) h4)
            · rw [if_neg h4]
              exact receive_ok hn hp m hd hv' hpa (by omega) ht a0 a1 he (by omega) (by simpa using h4)
  · rw [if_pos (.inr (.inl hpa))]
    exact same (out (receive_other hp m hd hv' hpa))
set_option maxRecDepth 100000 in
set_option maxHeartbeats 3200000 in
theorem receive_nil (m : Msg) (w : World) :
    Calls Tryd.prog 18 #[.pointer none, msgV m] w fun e w' => e = .returned (.slice none 0 0) ∧ Below w.heap.size w w' := by
  obtain ⟨w2, hw2⟩ : ∃ w2, (w.alloc (.cells #[.pointer none] 25)).alloc (.cells #[.int .i64 m.kind, .int .i64 m.partner, .int .i64 m.seq, .int .i64 m.story, .int .i64 m.base, .int .i64 m.version, .string m.data] 33) = w2 := ⟨_, rfl⟩
  have hB2 : Below w.heap.size w w2 := by rw [← hw2]; exact ((Below.refl _ _).alloc (Nat.le_refl _) _).alloc (by simp) _
  have h1 := Go.MapKept.heap_alloc w (.cells #[.pointer none] 25)
  have h2 := Go.MapKept.heap_alloc (w.alloc (.cells #[.pointer none] 25)) (.cells #[.int .i64 m.kind, .int .i64 m.partner, .int .i64 m.seq, .int .i64 m.story, .int .i64 m.base, .int .i64 m.version, .string m.data] 33)
  have c1 : w2.cell? ⟨w.heap.size, 0, none⟩ = some (.pointer none) := by rw [← hw2]; exact Lib.cell_of_heap ((h2.2 w.heap.size (by simp)).trans h1.1) 0
  have HW := Lib.hid hw2
  clear hw2 h1 h2
  unfold msgV
  go_enter Tryd.func18, Tryd.ntmps18
  go_wp2_with fail
  rw [HW.out]
  go_quiet (fail)
  go_wp2_with fail
  go_ret
  exact ⟨rfl, hB2.trans ⟨rfl, rfl, rfl, Nat.le_refl _, fun _ _ => rfl⟩⟩
end Go.Proofs.YtkpgadjhcnkadaaDoor
