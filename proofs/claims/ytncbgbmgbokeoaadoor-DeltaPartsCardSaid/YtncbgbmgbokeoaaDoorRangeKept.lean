/- A range over a function whose iterator keeps a state of its own in cells that it makes itself: XRange's law, where the loop's variable is boxed (the assignment lays a block), and what a round keeps (Kp) is handed on to the iterator. -/
import Derived.RangeFuncNested
import Derived.RangeFuncBound
import Derived.RangeFuncCalls
import Derived.RangeFuncLeaves
import Derived.Shelf.Abstract
import Derived.Shelf.RegionOpen
import Derived.WalkKit
import Derived.OwnWalkIn
import Derived.Test.YtncbgbmgbokeoaaDoorRange
namespace Go.Proofs.YtncbgbmgbokeoaaDoor
open Go.RowKit

/-- How the body of a round ends: off its end alone. -/
def roundsOnK {β : Type} (B : Nat) (Kp : World → World → Prop) (I : β → World → Prop) (s : β) (W : World) : Exit → Act → World → Prop
  | .normal, _, W' => KeepsFrom B W W' ∧ Kp W W' ∧ I s W'
  | _, _, _ => False

/-- I: what holds between two rounds, of the caller's and of the iterator's own memory. 'Mid': the same, and the loop's own book-keeping. The iterator may go from one state to another by steps of its own that keep whatever is no cells. -/
theorem wpIn_rangeFunc_kept {α β : Type} {F : Fence} {n : Nat} {P : Program} {g : Operand} {ps : Array Tmp} {assign body : Code} {Q : Exit → Act → World → Prop} {a : Act} {w : World}
    (hro : F.round = none) (h1 : 1 ≤ n) {gf : Nat} {lb : Array Value} (hg : a.eval g = .func (.func gf) #[] lb) (hFg : F.fn gf) (eg : ∀ args w, (callFunc gf args).run P w = .ok (.enter gf args) w)
    (encs : α → Array Value) (hps : ∀ x, (encs x).size = ps.size) (step : β → α → β) (ok : β → α → Prop) (S : β → Prop)
    (I : β → World → Prop) (Kp : World → World → Prop) (hKp : ∀ W W3 l o o' o₂, w.heap.size ≤ l → l < w.heap.size + 2 → l < W.heap.size → Kp ((W.alloc o₂).putObj l o) W3 → Kp W (W3.putObj l o')) (o₁ : α → Obj) (halloc : ∀ s W o, I s W → I s (W.alloc o)) (hput : ∀ s W l o o', I s W → w.heap.size ≤ l → W.heap[l]? = some o → o.isCells = false → I s (W.putObj l o')) (s0 : β)
    (h0 : ∀ o o', I s0 ((w.alloc o).alloc o')) (a₁ : α → Nat → Act)
    (hassign : ∀ (l : Nat) (x : α) (W : World) (K : Act → World → Prop), K (a₁ x W.heap.size) (W.alloc (o₁ x)) →
      assign.wpIn (F.inRound l) (n - 1 - 1) P (Exit.then K (fun _ _ _ => False)) { tmps := (ps.zip (encs x)).foldl (fun t (p, v) => t.setIfInBounds p v) a.tmps, defers := [] } W)
    (hbody : ∀ (l : Nat) (s : β) (x : α) (W : World) (h : Nat), I s W → ok s x → w.heap.size + 2 ≤ h → h < W.heap.size → W.heap[h]? = some (o₁ x) → body.wpIn (F.inRound l) (n - 1 - 1) P (roundsOnK w.heap.size Kp I (step s x) W) (a₁ x h) W)
    (hiter : ∀ (l : Nat) (W1 : World) (Mid : β → World → Prop), l = w.heap.size + 1 → W1.heap.size = w.heap.size + 2 → (∀ s W, Mid s W → I s W) →
      (∀ s s' A B, Mid s A → I s' B → KeepsFrom w.heap.size A B → Mid s' B) →
      (∀ s x W, Mid s W → ok s x → YieldAt F (n - 1 - 1) P l (encs x) W fun e W' => e = .returned (.bool true) ∧ Mid (step s x) W' ∧ Kp W W') → Mid s0 W1 →
      CallsIn F (n - 1) P gf (#[.func (.yield l) #[] #[]] ++ lb) W1 fun e W' => (∃ v, e = .returned v) ∧ ∃ s, S s ∧ Mid s W')
    (hdone : ∀ (D : Nat) (s : β) (W : World), w.heap.size ≤ D → S s → I s W → W.heap[D]? = some (.deferred (some [])) → Q .normal { a with defers := { target := .collected D, args := #[] } :: a.defers } W) :
    (Code.rangeFunc g ps assign body).wpIn F n P Q a w := by
  refine wpIn_rangeFunc ?_
  intro fn hfn
  rw [hro]
  obtain ⟨rec, hrec⟩ : ∃ rec : LoopState → Option Code → Loop, rec = fun st pe => { state := st, pending := pe, fn, tmps := a.tmps, params := ps, assign, body, defers := w.heap.size } := ⟨_, rfl⟩
  obtain ⟨W1, hW1⟩ : ∃ W1, (w.alloc (.deferred (some []))).alloc (.loop (rec .ready none)) = W1 := ⟨_, rfl⟩
  have hI1 : I s0 W1 := by rw [← hW1]; exact h0 _ _
  have hL1 : W1.heap[w.heap.size + 1]? = some (.loop (rec .ready none)) := by
    rw [← hW1]
    have := World.alloc_heap_new (w.alloc (.deferred (some []))) (.loop (rec .ready none))
    rwa [World.size_alloc] at this
  have hK1 : W1.heap[w.heap.size]? = some (.deferred (some [])) := by
    rw [← hW1]
    exact (Below.heap_alloc _ _ _ (by simp)).trans (World.alloc_heap_new w _)
  refine ⟨w.heap.size + 1, [{ target := .collected w.heap.size, args := #[] }], W1, { target := .fn (.func gf) lb, args := #[.func (.yield (w.heap.size + 1)) #[] #[]] }, W1, gf,
    #[.func (.yield (w.heap.size + 1)) #[] #[]] ++ lb, W1, ?_, ?_, ?_, ?_, fun _ => h1, ?_⟩
  · rw [← hW1, hrec]; exact run_enterLoop_outer _ _ _ _ _
  · simp only [resolve, hg]; simp [go_sem]
  · intro f' hf'; simp [Target.leads] at hf'; subst hf'; exact hFg
  · simp [invoke, go_sem, eg]
  obtain ⟨Mid, hMid⟩ : ∃ Mid : β → World → Prop, Mid = fun s W => I s W ∧ W.heap[w.heap.size + 1]? = some (.loop (rec .ready none)) ∧ W.heap[w.heap.size]? = some (.deferred (some [])) := ⟨_, rfl⟩
  refine (hiter (w.heap.size + 1) W1 Mid rfl (by rw [← hW1]; simp) (fun s W h => by rw [hMid] at h; exact h.1) ?_ ?_ (by rw [hMid]; exact ⟨hI1, hL1, hK1⟩)).mono ?_
  · intro s s' A B h hi hk
    rw [hMid] at h ⊢
    exact ⟨hi, hk.same _ _ (by omega) h.2.1 rfl, hk.same _ _ (Nat.le_refl _) h.2.2 rfl⟩
  · intro s x W h hx
    rw [hMid] at h
    obtain ⟨hi, hl, hk⟩ := h
    have hlt : w.heap.size + 1 < W.heap.size := (Array.getElem?_eq_some_iff.1 hl).1
    have hlA : (W.alloc (o₁ x)).heap[w.heap.size + 1]? = some (.loop (rec .ready none)) := (Below.heap_alloc W _ _ hlt).trans hl
    have hkA : (W.alloc (o₁ x)).heap[w.heap.size]? = some (.deferred (some [])) := (Below.heap_alloc W _ _ (by omega)).trans hk
    have hy := run_yield (P := P) (args := encs x) hl (by rw [hrec]; exact hps x)
    rw [hrec] at hy
    refine ⟨fn, _, assign, body, hy, roundIn_of_wpIn hfn (hassign _ x W _ ⟨_, run_beginRound hlA (by rw [hrec]), ?_⟩)⟩
    have hi2 := hput s (W.alloc (o₁ x)) _ _ (.loop { rec .ready none with state := .busy }) (halloc s W (o₁ x) hi) (by omega) hlA rfl
    refine wpIn_mono (hbody _ s x _ W.heap.size hi2 hx (by omega) (by simp [World.putObj]) ((World.putObj_heap_other (by omega)).trans (World.alloc_heap_new W _))) ?_
    rintro e a3 W3 hp
    cases e with
    | normal =>
      obtain ⟨hk3, hkp3, hi3⟩ := hp
      have hl3 := hk3.same (w.heap.size + 1) _ (by omega) (World.putObj_heap_same (by simp; omega)) rfl
      have hd3 := hk3.same w.heap.size _ (Nat.le_refl _) ((World.putObj_heap_other (by omega)).trans hkA) rfl
      have hend := run_endRound (P := P) none hl3
      refine ⟨_, _, hend, rfl, ?_⟩
      rw [hMid]
      have hlt3 : w.heap.size + 1 < W3.heap.size := (Array.getElem?_eq_some_iff.1 hl3).1
      refine ⟨⟨hput _ W3 _ _ _ hi3 (by omega) hl3 rfl, ?_, (World.putObj_heap_other (by omega)).trans hd3⟩, hKp _ _ _ _ _ _ (by omega) (by omega) hlt hkp3⟩
      rw [World.putObj_heap_same hlt3, hrec]; rfl
    | ret => exact hp.elim
    | exit id => exact hp.elim
    | goto t => exact hp.elim
    | panic ch => exact hp.elim
    | outgrown => exact hp.elim
  · rintro e W2 ⟨⟨v, rfl⟩, s, hS, h⟩
    rw [hMid] at h
    obtain ⟨hi, hl, hk⟩ := h
    have hend := run_endLoop (P := P) hl (by rw [hrec]; simp)
    refine ⟨none, _, by rw [hend, hrec], ?_⟩
    exact hdone _ s _ (Nat.le_refl _) hS (hput _ _ _ _ _ hi (by omega) hl rfl) ((World.putObj_heap_other (by omega)).trans hk)
end Go.Proofs.YtncbgbmgbokeoaaDoor
