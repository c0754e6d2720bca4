/- A law over any program: in a region that draws its order the slots that no operation of the region writes hold what they held; so a post at a panic may ask for them. -/
import Derived.Deep.RegionHeld3
namespace Go.Proofs.YtkpgadjhcnkadaaDoor

section
variable {P : Program} {ops : Array Oper} {Q1 Q2 : Exit → Act → World → Prop} {md : Region.Mode} {I : Array Value → Prop}

/-- No operation of the region writes a slot that I speaks of. -/
def Spares (ops : Array Oper) (I : Array Value → Prop) : Prop := ∀ (i : Nat) (o : Oper), ops[i]? = some o → ∀ (d : Tmp), o.dst = some d → ∀ (T : Array Value) (v : Value), I T → I (T.setIfInBounds d v)
theorem Spares.put (h : Spares ops I) {i : Nat} {o : Oper} (ho : ops[i]? = some o) {a : Act} (hI : I a.tmps) (v : Value) : I (a.put o.dst v).tmps := by
  cases hd : o.dst with
  | none => exact hI
  | some d => exact h i o ho d hd _ v hI

theorem wpOp_keep (hs : Spares ops I) (hQ : ∀ c a w, Q1 (.panic c) a w → I a.tmps → Q2 (.panic c) a w) (hO : LetsOut Q1 → LetsOut Q2) {i : Nat} {K : Act → World → Prop} {a : Act} {w : World}
    (hI : I a.tmps) (h : wpOp P ops Q1 i K a w) : wpOp P ops Q2 i (fun a' w' => K a' w' ∧ I a'.tmps) a w := by
  unfold wpOp at *
  split
  · rename_i ho; simp only [ho] at h; exact ⟨h, hI⟩
  · rename_i o ho
    simp only [ho] at h
    split
    · rename_i hw
      simp only [hw, if_true] at h
      rcases h with h | ⟨hasks, hlets⟩
      case inr => exact .inr ⟨hasks, hO hlets⟩
      refine .inl ?_
      unfold Oper.wp at *
      generalize (execOp a.eval o).run P w = r at *
      cases r with
      | ok n w' =>
        cases n <;> simp only [Oper.upon] at h ⊢
        case value u => exact ⟨h, hs.put ho hI u⟩
        case skip => exact ⟨h, hs.put ho hI _⟩
        case defer d => exact ⟨h, hs.put ho (a := { a with defers := d :: a.defers }) hI _⟩
        case enter f args =>
          refine Calls.mono h fun e w'' he => ?_
          cases e with
          | returned u => exact ⟨he, hs.put ho hI u⟩
          | panicked c => exact hQ _ _ _ he hI
          | outgrown => exact hO he
        case row row args => exact Rows.mono h fun u w'' he => ⟨he, hs.put ho hI u⟩
      | halt x w' =>
        cases x <;> simp only [Oper.upon] at h ⊢
        case panic u => exact hQ _ _ _ h hI
    · rename_i hw
      simp only [hw] at h
      exact ⟨h, hs.put ho hI _⟩

theorem wpAny_keep (hs : Spares ops I) (hQ : ∀ c a w, Q1 (.panic c) a w → I a.tmps → Q2 (.panic c) a w) (hN : ∀ a w, Q1 .normal a w → I a.tmps → Q2 .normal a w) (hO : LetsOut Q1 → LetsOut Q2) :
    ∀ (fuel : Nat) (listed : Array Bool) (a : Act) (w : World), I a.tmps → wpAny P md ops Q1 fuel listed a w → wpAny P md ops Q2 fuel listed a w
  | 0, _, _, _, hI, h => ⟨h.1, hN _ _ h.2 hI⟩
  | fuel + 1, _, _, _, hI, h => ⟨fun h0 => hN _ _ (h.1 h0) hI, fun i hi => wpOp_mono (fun a' w' h' => wpAny_keep hs hQ hN hO fuel _ a' w' h'.2 h'.1) (wpOp_keep hs hQ hO hI (h.2 i hi))⟩

/-- The beginning: as wp_region_held_drew, and the slots of I are known at a panic. -/
theorem wp_region_keep {S : World → Prop} {id : Nat} {a : Act} {w : World} (hm : P.follows .mixedOrders = true) (Q1 : Exit → Act → World → Prop) (I : Array Value → Prop) (hs : Spares ops I) (hI : I a.tmps)
    (hQ : ∀ c a w, Q1 (.panic c) a w → I a.tmps → Q2 (.panic c) a w) (hN : ∀ a w, Q1 .normal a w → I a.tmps → Q2 .normal a w) (hO : LetsOut Q1 → LetsOut Q2) (hS : S w.drew)
    (h : S w.drew → wpAnyH P .any ops Q1 S ops.size (Array.replicate ops.size false) a w.drew) : (Code.region id ops true).wp P Q2 a w :=
  wp_region_any hm (wpAny_keep hs hQ hN hO _ _ _ _ hI (wpAny_of_held _ _ _ _ (h hS)))
end
/-- A region whose every order ends in a panic. -/
def Dies (R : List PanicEntry → World → Prop) (D : List Deferred) : Exit → Act → World → Prop
  | .panic c, a, w => R c w ∧ a.defers = D
  | _, _, _ => False
theorem wp_region_dies {P : Program} {ops : Array Oper} {Q2 : Exit → Act → World → Prop} {S : World → Prop} {id : Nat} {a : Act} {w : World} (hm : P.follows .mixedOrders = true) (R : List PanicEntry → World → Prop) (I : Array Value → Prop) (hs : Spares ops I) (hI : I a.tmps)
    (hQ : ∀ c T w, R c w → I T → Q2 (.panic c) { tmps := T, defers := a.defers } w) (hS : S w.drew)
    (h : S w.drew → wpAnyH P .any ops (Dies R a.defers) S ops.size (Array.replicate ops.size false) a w.drew) : (Code.region id ops true).wp P Q2 a w :=
  wp_region_keep hm (Dies R a.defers) I hs hI (fun c a' w' h hI' => by
    obtain ⟨T, D⟩ := a'
    obtain ⟨hR, hD⟩ := h
    simp only at hD
    subst hD
    exact hQ c T w' hR hI') (fun _ _ h => h.elim) (fun ⟨_, _, h⟩ => h.elim) hS h
theorem spares_two {ops : Array Oper} {i j : Nat} {x y : Value} (h : ops.all (fun o => o.dst != some i && o.dst != some j) = true) : Spares ops (fun T => T[i]? = some x ∧ T[j]? = some y) := by
  intro k o ho d hd T v ⟨h1, h2⟩
  have hk : k < ops.size := by
    rcases Nat.lt_or_ge k ops.size with h' | h'
    · exact h'
    · simp [Array.getElem?_eq_none h'] at ho
  have := (Array.all_eq_true.1 h) k hk
  rw [Array.getElem?_eq_getElem hk] at ho
  rw [Option.some.inj ho, hd] at this
  simp at this
  exact ⟨by rw [Array.getElem?_setIfInBounds_ne this.1]; exact h1, by rw [Array.getElem?_setIfInBounds_ne this.2]; exact h2⟩
end Go.Proofs.YtkpgadjhcnkadaaDoor
