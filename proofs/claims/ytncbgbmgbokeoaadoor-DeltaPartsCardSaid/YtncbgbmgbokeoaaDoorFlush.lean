/- delta.ops's flush: what the iterator asks of its rounds, and what flush does. -/
import Derived.Test.YtncbgbmgbokeoaaDoorHeldIn
import Derived.Test.YtncbgbmgbokeoaaDoorWriter
import Derived.Test.YtncbgbmgbokeoaaDoorRangeKept
import Derived.Test.YtncbgbmgbokeoaaDoorDiffPure
import Derived.TacticsInMore
import Derived.LoopNIn
import Derived.LoopIn
import Derived.Maps.AppendAt
import Derived.Sort.BigQuietIn
set_option linter.unusedVariables false
namespace Go.Proofs.YtncbgbmgbokeoaaDoor
open Go.RowKit Go.Shelf

attribute [local go_sem] Oper.semAt_some
attribute [local go_sem ↓] Go.wp_at_zero Go.wp_at_succ

/-- A step of the iterator's own: nothing turns that lay ahead of it, and no block of bytes. -/
structure ItKeep (B0 : Nat) (A B : World) : Prop where
  os : B.os = A.os
  tape : B.tape = A.tape
  output : B.output = A.output
  size : A.heap.size ≤ B.heap.size
  same : ∀ j, j < A.heap.size → j < B0 ∨ BytesAt A j → B.heap[j]? = A.heap[j]?
  others : ∀ (j : Nat) (o : Obj), A.heap[j]? = some o → o.isCells = false → B.heap[j]? = some o
/-- What a round keeps of the iterator's own memory: all but blocks of bytes. -/
def RKeep (B0 : Nat) (A B : World) : Prop := A.heap.size ≤ B.heap.size ∧ ∀ j, B0 ≤ j → j < A.heap.size → ¬ BytesAt A j → B.heap[j]? = A.heap[j]?
theorem RKeep.refl (B0 : Nat) (A : World) : RKeep B0 A A := ⟨Nat.le_refl _, fun _ _ _ _ => rfl⟩
theorem RKeep.trans {B0 : Nat} {x y z : World} (h : RKeep B0 x y) (k : RKeep B0 y z) : RKeep B0 x z :=
  ⟨Nat.le_trans h.1 k.1, fun j h0 hj hn => by
    have e := h.2 j h0 hj hn
    exact (k.2 j h0 (Nat.lt_of_lt_of_le hj h.1) (fun ⟨cs, fz, hc⟩ => hn ⟨cs, fz, e ▸ hc⟩)).trans e⟩
theorem RKeep.cells {B0 : Nat} {w w' : World} (h : RKeep B0 w w') {j : Nat} {cs : Array Value} {T : TypeId} {fz : Nat × Nat} (hc : w.heap[j]? = some (.cells cs T fz)) (hT : T ≠ 5) (hj : B0 ≤ j) : w'.heap[j]? = some (.cells cs T fz) := by
  have hlt : j < w.heap.size := by
    rcases Nat.lt_or_ge j w.heap.size with h' | h'
    · exact h'
    · simp [Array.getElem?_eq_none h'] at hc
  refine (h.2 j hj hlt ?_).trans hc
  rintro ⟨cs', fz', hb⟩
  rw [hc] at hb
  simp only [Option.some.injEq, Obj.cells.injEq] at hb
  exact hT hb.2.1
theorem ItKeep.refl (B0 : Nat) (A : World) : ItKeep B0 A A := ⟨rfl, rfl, rfl, Nat.le_refl _, fun _ _ _ => rfl, fun _ _ h _ => h⟩
theorem ItKeep.trans {B0 : Nat} {x y z : World} (h : ItKeep B0 x y) (k : ItKeep B0 y z) : ItKeep B0 x z :=
  ⟨k.os.trans h.os, k.tape.trans h.tape, k.output.trans h.output, Nat.le_trans h.size k.size, fun j hj hb => by
    have e := h.same j hj hb
    exact (k.same j (Nat.lt_of_lt_of_le hj h.size) (hb.imp id (fun ⟨cs, fz, hc⟩ => ⟨cs, fz, e.trans hc⟩))).trans e,
   fun j o ho hc => k.others j o (h.others j o ho hc) hc⟩
theorem ItKeep.below {B0 : Nat} {A B : World} (h : Below A.heap.size A B) : ItKeep B0 A B :=
  ⟨h.os, h.tape, h.output, h.size, fun j hj _ => h.block j hj, fun j o ho _ => (h.block j (Array.getElem?_eq_some_iff.1 ho).1).trans ho⟩
theorem ItKeep.set {B0 : Nat} (A : World) {j : Nat} {v : Value} {t : TypeId} {cs : Array Value} {fz : Nat × Nat} (h : A.heap[j]? = some (.cells cs t fz)) (ht : t ≠ 5) (hj : B0 ≤ j) : ItKeep B0 A (A.setCell ⟨j, 0, none⟩ v) :=
  ⟨rfl, rfl, rfl, by simp [World.setCell], fun i _ hb => Below.heap_setCell _ _ _ _ (fun e => by
      rcases hb with hb | ⟨cs', fz', hc⟩
      · simp at e; omega
      · rw [e] at hc
        simp only at hc
        rw [h] at hc
        simp only [Option.some.injEq, Obj.cells.injEq] at hc
        exact ht hc.2.1), fun i o ho hc => (KeepsOthers.setCell A _ v).same i o ho hc⟩

theorem RoundIn.depthless {F : Fence} (hd : F.depth = none) {m m' : Nat} {P : Program} {l : Nat} {f : FuncId} {tmps : Array Value} {assign body : Code} {w : World} {R : Ending → World → Prop}
    (h : RoundIn F m P l f tmps assign body w R) : RoundIn F m' P l f tmps assign body w R := ⟨h.1, fun c cs _ => h.2 c cs (fun d hd' => by rw [hd] at hd'; cases hd')⟩
theorem YieldAt.depthless {F : Fence} (hd : F.depth = none) {m m' : Nat} {P : Program} {l : Nat} {args : Array Value} {W : World} {R : Ending → World → Prop} (h : YieldAt F m P l args W R) : YieldAt F m' P l args W R := by
  obtain ⟨fn, tmps, assign, body, hy, hR⟩ := h
  exact ⟨fn, tmps, assign, body, hy, RoundIn.depthless hd hR⟩

/-- What the caller of the iterator promises: J: what holds of the caller's memory when the bytes s are out. -/
structure Rounds (F : Fence) (l B0 ob nb : Nat) (old next : ByteArray) (J : List UInt8 → World → Prop) : Prop where
  kept : ∀ s A B, J s A → ItKeep B0 A B → J s B
  size : ∀ s W, J s W → B0 ≤ W.heap.size
  obox : ∀ s W, J s W → W.heap[ob]? = some (.cells #[.string old] 9 (0, 0))
  nbox : ∀ s W, J s W → W.heap[nb]? = some (.cells #[.string next] 9 (0, 0))
  round : ∀ m s x W, J s W → OpOk x ∧ s.length ≤ 8300 * (3 * next.size + 3) → YieldAt F m Tryd.prog l #[opV x] W fun e W' => e = .returned (.bool true) ∧ J (s ++ (encOp x).data.toList) W' ∧ RKeep B0 W W'

set_option linter.unusedSimpArgs false in
set_option maxRecDepth 100000 in
set_option maxHeartbeats 3200000 in
theorem flush_in (F : Fence) (hd : F.depth = none) (n : Nat) (h : F.fn 38) (hro : F.round = none) (l B0 ob nb fb pb yb : Nat) (old next : ByteArray) (J : List UInt8 → World → Prop) (hR : Rounds F l B0 ob nb old next J)
    (hns : next.size ≤ 8192) (hfb : B0 ≤ fb) (hpb : B0 ≤ pb) (hyb : B0 ≤ yb) (s : List UInt8) (a p : Nat) (W : World) (hJ : J s W) (hap : a ≤ p) (hp : p ≤ next.size) (hs : s.length ≤ 8300 * (3 * next.size + 3))
    (cf : W.heap[fb]? = some (.cells #[.int .i64 a] 3 (0, 0))) (cp : W.heap[pb]? = some (.cells #[.int .i64 p] 3 (0, 0))) (cy : W.heap[yb]? = some (.cells #[.func (.yield l) #[] #[]] 82 (0, 0))) :
    CallsIn F n Tryd.prog 38 #[.pointer (some ⟨fb, 0, none⟩), .pointer (some ⟨pb, 0, none⟩), .pointer (some ⟨yb, 0, none⟩), .pointer (some ⟨nb, 0, none⟩)] W fun e W' => e = .returned (.bool true) ∧ J (s ++ (insF (next.extract a p)).data.toList) W' ∧ RKeep B0 W W' := by
  have cn := hR.nbox s W hJ
  refine callsIn_of_wp Tryd.func38 rfl h ?_ hro
  simp only [Tryd.ntmps38, List.size_toArray, List.length_cons, List.length_nil, Nat.reduceAdd, Nat.reduceSub, Array.replicate_succ, Array.replicate_zero, List.push_toArray, List.append_toArray, List.nil_append, List.cons_append]
  obtain ⟨W0, hW0⟩ : ∃ W0 : World, ({ W with drawn := W.drawn + 1 } : World) = W0 := ⟨_, rfl⟩
  have hJ0 : J s W0 := hR.kept s W W0 hJ (by rw [← hW0]; exact ⟨rfl, rfl, rfl, Nat.le_refl _, fun _ _ _ => rfl, fun _ _ h _ => h⟩)
  have hK0 : RKeep B0 W W0 := by rw [← hW0]; exact ⟨Nat.le_refl _, fun _ _ _ _ => rfl⟩
  have f1 : W0.cell? ⟨fb, 0, none⟩ = some (.int .i64 a) := by rw [← hW0]; exact Lib.cell_of_heap cf 0
  have f2 : W0.cell? ⟨pb, 0, none⟩ = some (.int .i64 p) := by rw [← hW0]; exact Lib.cell_of_heap cp 0
  have f3 : W0.cell? ⟨yb, 0, none⟩ = some (.func (.yield l) #[] #[]) := by rw [← hW0]; exact Lib.cell_of_heap cy 0
  have f4 : W0.cell? ⟨nb, 0, none⟩ = some (.string next) := by rw [← hW0]; exact Lib.cell_of_heap cn 0
  have cf0 : W0.heap[fb]? = some (.cells #[.int .i64 a] 3 (0, 0)) := by rw [← hW0]; exact cf
  have cp0 : W0.heap[pb]? = some (.cells #[.int .i64 p] 3 (0, 0)) := by rw [← hW0]; exact cp
  have cy0 : W0.heap[yb]? = some (.cells #[.func (.yield l) #[] #[]] 82 (0, 0)) := by rw [← hW0]; exact cy
  have hSt : (fun W' : World => W'.cell? ⟨fb, 0, none⟩ = some (.int .i64 a) ∧ W'.cell? ⟨pb, 0, none⟩ = some (.int .i64 p) ∧ W'.cell? ⟨yb, 0, none⟩ = some (.func (.yield l) #[] #[]) ∧ W'.cell? ⟨nb, 0, none⟩ = some (.string next)) W0 := ⟨f1, f2, f3, f4⟩
  by_cases he : a = p
  · subst he
    have ee : ((a : Int) == (a : Int)) = true := by simp
    gi_wp2
    refine wpIn_region_held (S := fun W' : World => W'.cell? ⟨fb, 0, none⟩ = some (.int .i64 a) ∧ W'.cell? ⟨pb, 0, none⟩ = some (.int .i64 a) ∧ W'.cell? ⟨yb, 0, none⟩ = some (.func (.yield l) #[] #[]) ∧ W'.cell? ⟨nb, 0, none⟩ = some (.string next)) (by kernel_rfl) ?_
    rw [hW0]
    clear f1 f2 f3 f4 hW0 hJ cf cp cy cn
    refine wpHeldIn_take (i := 0) (v := ?v1) hro rfl (by kernel_rfl) (by kernel_rfl) (by kernel_rfl) (fun _ _ _ h => h) ⟨Or.inl ⟨by rfl, ?hy1⟩, fun _ => rfl⟩ (by assumption) ?rest1
    case hy1 => intro w hSw; (try dsimp only at hSw); go_simp; try with_reducible rfl
    case rest1 =>
    try simp only [Act.put, List.getElem_toArray, List.getElem_cons_succ, List.getElem_cons_zero, List.setIfInBounds_toArray, List.set_cons_zero, List.set_cons_succ]
    refine wpHeldIn_take (i := 1) (v := ?v2) hro rfl (by kernel_rfl) (by kernel_rfl) (by kernel_rfl) (fun _ _ _ h => h) ⟨Or.inl ⟨by rfl, ?hy2⟩, fun _ => rfl⟩ (by assumption) ?rest2
    case hy2 => intro w hSw; (try dsimp only at hSw); go_simp; try with_reducible rfl
    case rest2 =>
    try simp only [Act.put, List.getElem_toArray, List.getElem_cons_succ, List.getElem_cons_zero, List.setIfInBounds_toArray, List.set_cons_zero, List.set_cons_succ]
    refine wpHeldIn_take (i := 2) (v := ?v3) hro rfl (by kernel_rfl) (by kernel_rfl) (by kernel_rfl) (fun _ _ _ h => h) ⟨Or.inl ⟨by rfl, ?hy3⟩, fun _ => rfl⟩ (by assumption) ?rest3
    case hy3 => intro w hSw; (try dsimp only at hSw); go_simp; try with_reducible rfl
    case rest3 =>
    try simp only [Act.put, List.getElem_toArray, List.getElem_cons_succ, List.getElem_cons_zero, List.setIfInBounds_toArray, List.set_cons_zero, List.set_cons_succ]
    refine wpHeldIn_take (i := 3) (v := ?v4) hro rfl (by kernel_rfl) (by kernel_rfl) (by kernel_rfl) (fun _ _ _ h => h) ⟨Or.inl ⟨by rfl, ?hy4⟩, fun _ => rfl⟩ (by assumption) ?rest4
    case hy4 => intro w hSw; (try dsimp only at hSw); go_simp; try with_reducible rfl
    case rest4 =>
    try simp only [Act.put, List.getElem_toArray, List.getElem_cons_succ, List.getElem_cons_zero, List.setIfInBounds_toArray, List.set_cons_zero, List.set_cons_succ]
    refine wpHeldIn_take (i := 4) (v := undef) hro rfl (by kernel_rfl) (by kernel_rfl) (by kernel_rfl) (fun _ _ _ h => h) ⟨Or.inr ⟨by rfl, rfl⟩, fun _ => rfl⟩ (by assumption) ?rest5
    case rest5 =>
    try simp only [Act.put, List.getElem_toArray, List.getElem_cons_succ, List.getElem_cons_zero, List.setIfInBounds_toArray, List.set_cons_zero, List.set_cons_succ]
    refine wpHeldIn_take (i := 5) (v := undef) hro rfl (by kernel_rfl) (by kernel_rfl) (by kernel_rfl) (fun _ _ _ h => h) ⟨Or.inr ⟨by rfl, rfl⟩, fun _ => rfl⟩ (by assumption) ?rest6
    case rest6 =>
    try simp only [Act.put, List.getElem_toArray, List.getElem_cons_succ, List.getElem_cons_zero, List.setIfInBounds_toArray, List.set_cons_zero, List.set_cons_succ]
    refine wpHeldIn_take (i := 6) (v := undef) hro rfl (by kernel_rfl) (by kernel_rfl) (by kernel_rfl) (fun _ _ _ h => h) ⟨Or.inr ⟨by rfl, rfl⟩, fun _ => rfl⟩ (by assumption) ?rest7
    case rest7 =>
    try simp only [Act.put, List.getElem_toArray, List.getElem_cons_succ, List.getElem_cons_zero, List.setIfInBounds_toArray, List.set_cons_zero, List.set_cons_succ]
    refine wpHeldIn_take (i := 7) (v := undef) hro rfl (by kernel_rfl) (by kernel_rfl) (by kernel_rfl) (fun _ _ _ h => h) ⟨Or.inr ⟨by rfl, rfl⟩, fun _ => rfl⟩ (by assumption) ?rest8
    case rest8 =>
    try simp only [Act.put, List.getElem_toArray, List.getElem_cons_succ, List.getElem_cons_zero, List.setIfInBounds_toArray, List.set_cons_zero, List.set_cons_succ]
    refine wpHeldIn_take (i := 8) (v := undef) hro rfl (by kernel_rfl) (by kernel_rfl) (by kernel_rfl) (fun _ _ _ h => h) ⟨Or.inr ⟨by rfl, rfl⟩, fun _ => rfl⟩ (by assumption) ?rest9
    case rest9 =>
    try simp only [Act.put, List.getElem_toArray, List.getElem_cons_succ, List.getElem_cons_zero, List.setIfInBounds_toArray, List.set_cons_zero, List.set_cons_succ]
    refine wpHeldIn_take (i := 9) (v := undef) hro rfl (by kernel_rfl) (by kernel_rfl) (by kernel_rfl) (fun _ _ _ h => h) ⟨Or.inr ⟨by rfl, rfl⟩, fun _ => rfl⟩ (by assumption) ?rest10
    case rest10 =>
    try simp only [Act.put, List.getElem_toArray, List.getElem_cons_succ, List.getElem_cons_zero, List.setIfInBounds_toArray, List.set_cons_zero, List.set_cons_succ]
    refine wpHeldIn_take (i := 10) (v := undef) hro rfl (by kernel_rfl) (by kernel_rfl) (by kernel_rfl) (fun _ _ _ h => h) ⟨Or.inr ⟨by rfl, rfl⟩, fun _ => rfl⟩ (by assumption) ?rest11
    case rest11 =>
    try simp only [Act.put, List.getElem_toArray, List.getElem_cons_succ, List.getElem_cons_zero, List.setIfInBounds_toArray, List.set_cons_zero, List.set_cons_succ]
    refine wpHeldIn_take (i := 11) (v := ?v12) hro rfl (by kernel_rfl) (by kernel_rfl) (by kernel_rfl) (fun _ _ _ h => h) ⟨Or.inl ⟨by rfl, ?hy12⟩, fun _ => rfl⟩ (by assumption) ?rest12
    case hy12 => intro w hSw; (try dsimp only at hSw); go_simp; try with_reducible rfl
    case rest12 =>
    try simp only [Act.put, List.getElem_toArray, List.getElem_cons_succ, List.getElem_cons_zero, List.setIfInBounds_toArray, List.set_cons_zero, List.set_cons_succ]
    refine wpHeldIn_take (i := 12) (v := ?v13) hro rfl (by kernel_rfl) (by kernel_rfl) (by kernel_rfl) (fun _ _ _ h => h) ⟨Or.inl ⟨by rfl, ?hy13⟩, fun _ => rfl⟩ (by assumption) ?rest13
    case hy13 => intro w hSw; (try dsimp only at hSw); go_simp; try with_reducible rfl
    case rest13 =>
    try simp only [Act.put, List.getElem_toArray, List.getElem_cons_succ, List.getElem_cons_zero, List.setIfInBounds_toArray, List.set_cons_zero, List.set_cons_succ]
    refine wpHeldIn_done (by kernel_rfl) ?_ _
    gi_wp2
    go_ret
    refine ⟨rfl, ?_, hK0⟩
    rw [ba_ex_nil _ _ _ (.inl (Nat.le_refl _))]
    simpa [insF] using hJ0
  · have ee : ((a : Int) == (p : Int)) = false := by simp; omega
    have k1 : (0 : Int) ≤ a := by omega
    have k2 : (a : Int) ≤ p := by omega
    have k3 : (p : Int) ≤ next.size := by omega
    obtain ⟨t, ht⟩ : ∃ t, next.extract a p = t := ⟨_, rfl⟩
    have hts : t.size = p - a := by rw [← ht]; simp; omega
    have hne : t.size ≠ 0 := by omega
    have e1 : next.extract (a : Int).toNat (p : Int).toNat = t := by rw [← ht]; rfl
    have hi : insF t = encOp ⟨0, 0, t⟩ := by unfold insF encOp; rw [if_neg hne, if_neg (by simp)]
    rw [ht, hi]
    obtain ⟨fn, tmps, assign, body, hy, hRd⟩ := hR.round (n - 1) s ⟨0, 0, t⟩ W0 hJ0 ⟨⟨by simp, by simp, by simp; omega⟩, hs⟩
    dsimp only [opV] at hy
    have HI := Lib.hid hi
    clear hi
    gi_wp2
    refine wpIn_region_held (S := fun W' : World => W'.cell? ⟨fb, 0, none⟩ = some (.int .i64 a) ∧ W'.cell? ⟨pb, 0, none⟩ = some (.int .i64 p) ∧ W'.cell? ⟨yb, 0, none⟩ = some (.func (.yield l) #[] #[]) ∧ W'.cell? ⟨nb, 0, none⟩ = some (.string next)) (by kernel_rfl) ?_
    rw [hW0]
    clear f1 f2 f3 f4 hW0 hJ cf cp cy cn
    refine wpHeldIn_take (i := 0) (v := ?v14) hro rfl (by kernel_rfl) (by kernel_rfl) (by kernel_rfl) (fun _ _ _ h => h) ⟨Or.inl ⟨by rfl, ?hy14⟩, fun _ => rfl⟩ (by assumption) ?rest14
    case hy14 => intro w hSw; (try dsimp only at hSw); go_simp; try with_reducible rfl
    case rest14 =>
    try simp only [Act.put, List.getElem_toArray, List.getElem_cons_succ, List.getElem_cons_zero, List.setIfInBounds_toArray, List.set_cons_zero, List.set_cons_succ]
    refine wpHeldIn_take (i := 1) (v := ?v15) hro rfl (by kernel_rfl) (by kernel_rfl) (by kernel_rfl) (fun _ _ _ h => h) ⟨Or.inl ⟨by rfl, ?hy15⟩, fun _ => rfl⟩ (by assumption) ?rest15
    case hy15 => intro w hSw; (try dsimp only at hSw); go_simp; try with_reducible rfl
    case rest15 =>
    try simp only [Act.put, List.getElem_toArray, List.getElem_cons_succ, List.getElem_cons_zero, List.setIfInBounds_toArray, List.set_cons_zero, List.set_cons_succ]
    refine wpHeldIn_take (i := 2) (v := ?v16) hro rfl (by kernel_rfl) (by kernel_rfl) (by kernel_rfl) (fun _ _ _ h => h) ⟨Or.inl ⟨by rfl, ?hy16⟩, fun _ => rfl⟩ (by assumption) ?rest16
    case hy16 => intro w hSw; (try dsimp only at hSw); go_simp; try with_reducible rfl
    case rest16 =>
    try simp only [Act.put, List.getElem_toArray, List.getElem_cons_succ, List.getElem_cons_zero, List.setIfInBounds_toArray, List.set_cons_zero, List.set_cons_succ]
    refine wpHeldIn_take (i := 3) (v := ?v17) hro rfl (by kernel_rfl) (by kernel_rfl) (by kernel_rfl) (fun _ _ _ h => h) ⟨Or.inl ⟨by rfl, ?hy17⟩, fun _ => rfl⟩ (by assumption) ?rest17
    case hy17 => intro w hSw; (try dsimp only at hSw); go_simp; try with_reducible rfl
    case rest17 =>
    try simp only [Act.put, List.getElem_toArray, List.getElem_cons_succ, List.getElem_cons_zero, List.setIfInBounds_toArray, List.set_cons_zero, List.set_cons_succ]
    refine wpHeldIn_take (i := 4) (v := ?v18) hro rfl (by kernel_rfl) (by kernel_rfl) (by kernel_rfl) (fun _ _ _ h => h) ⟨Or.inl ⟨by rfl, ?hy18⟩, fun _ => rfl⟩ (by assumption) ?rest18
    case hy18 => intro w hSw; (try dsimp only at hSw); go_simp; try with_reducible rfl
    case rest18 =>
    try simp only [Act.put, List.getElem_toArray, List.getElem_cons_succ, List.getElem_cons_zero, List.setIfInBounds_toArray, List.set_cons_zero, List.set_cons_succ]
    refine wpHeldIn_take (i := 5) (v := ?v19) hro rfl (by kernel_rfl) (by kernel_rfl) (by kernel_rfl) (fun _ _ _ h => h) ⟨Or.inl ⟨by rfl, ?hy19⟩, fun _ => rfl⟩ (by assumption) ?rest19
    case hy19 => intro w hSw; (try dsimp only at hSw); go_simp; try with_reducible rfl
    case rest19 =>
    try simp only [Act.put, List.getElem_toArray, List.getElem_cons_succ, List.getElem_cons_zero, List.setIfInBounds_toArray, List.set_cons_zero, List.set_cons_succ]
    refine wpHeldIn_take (i := 6) (v := ?v20) hro rfl (by kernel_rfl) (by kernel_rfl) (by kernel_rfl) (fun _ _ _ h => h) ⟨Or.inl ⟨by rfl, ?hy20⟩, fun _ => rfl⟩ (by assumption) ?rest20
    case hy20 => intro w hSw; (try dsimp only at hSw); go_simp; try with_reducible rfl
    case rest20 =>
    try simp only [Act.put, List.getElem_toArray, List.getElem_cons_succ, List.getElem_cons_zero, List.setIfInBounds_toArray, List.set_cons_zero, List.set_cons_succ]
    refine wpHeldIn_take (i := 7) (v := ?v21) hro rfl (by kernel_rfl) (by kernel_rfl) (by kernel_rfl) (fun _ _ _ h => h) ⟨Or.inl ⟨by rfl, ?hy21⟩, fun _ => rfl⟩ (by assumption) ?rest21
    case hy21 => intro w hSw; (try dsimp only at hSw); go_simp; try with_reducible rfl
    case rest21 =>
    try simp only [Act.put, List.getElem_toArray, List.getElem_cons_succ, List.getElem_cons_zero, List.setIfInBounds_toArray, List.set_cons_zero, List.set_cons_succ]
    refine wpHeldIn_take (i := 8) (v := ?v22) hro rfl (by kernel_rfl) (by kernel_rfl) (by kernel_rfl) (fun _ _ _ h => h) ⟨Or.inl ⟨by rfl, ?hy22⟩, fun _ => rfl⟩ (by assumption) ?rest22
    case hy22 => intro w hSw; (try dsimp only at hSw); go_simp; try with_reducible rfl
    case rest22 =>
    try simp only [Act.put, List.getElem_toArray, List.getElem_cons_succ, List.getElem_cons_zero, List.setIfInBounds_toArray, List.set_cons_zero, List.set_cons_succ]
    refine wpHeldIn_take (i := 9) (v := ?v23) hro rfl (by kernel_rfl) (by kernel_rfl) (by kernel_rfl) (fun _ _ _ h => h) ⟨Or.inl ⟨by rfl, ?hy23⟩, fun _ => rfl⟩ (by assumption) ?rest23
    case hy23 => intro w hSw; (try dsimp only at hSw); go_simp; try with_reducible rfl
    case rest23 =>
    try simp only [Act.put, List.getElem_toArray, List.getElem_cons_succ, List.getElem_cons_zero, List.setIfInBounds_toArray, List.set_cons_zero, List.set_cons_succ]
    refine wpHeldIn_one (i := 10) (by kernel_rfl) rfl (fun K hK => ?_)
    go_simp
    refine hRd.mono ?_
    rintro e W3 ⟨rfl, hJ3, hK3⟩
    have g1 := Lib.cell_of_heap (hK3.cells cf0 (by decide) hfb) 0
    have g2 := Lib.cell_of_heap (hK3.cells cp0 (by decide) hpb) 0
    have g3 := Lib.cell_of_heap (hK3.cells cy0 (by decide) hyb) 0
    have g4 := Lib.cell_of_heap (hR.nbox _ _ hJ3) 0
    refine hK.out _ _ ⟨g1, g2, g3, g4⟩ (fun hS => ?_)
    clear hK K
    try simp only [Act.put, List.getElem_toArray, List.getElem_cons_succ, List.getElem_cons_zero, List.setIfInBounds_toArray, List.set_cons_zero, List.set_cons_succ]
    refine wpHeldIn_take (i := 11) (v := ?v24) hro rfl (by kernel_rfl) (by kernel_rfl) (by kernel_rfl) (fun _ _ _ h => h) ⟨Or.inl ⟨by rfl, ?hy24⟩, fun _ => rfl⟩ (by assumption) ?rest24
    case hy24 => intro w hSw; (try dsimp only at hSw); go_simp; try with_reducible rfl
    case rest24 =>
    try simp only [Act.put, List.getElem_toArray, List.getElem_cons_succ, List.getElem_cons_zero, List.setIfInBounds_toArray, List.set_cons_zero, List.set_cons_succ]
    refine wpHeldIn_take (i := 12) (v := ?v25) hro rfl (by kernel_rfl) (by kernel_rfl) (by kernel_rfl) (fun _ _ _ h => h) ⟨Or.inl ⟨by rfl, ?hy25⟩, fun _ => rfl⟩ (by assumption) ?rest25
    case hy25 => intro w hSw; (try dsimp only at hSw); go_simp; try with_reducible rfl
    case rest25 =>
    try simp only [Act.put, List.getElem_toArray, List.getElem_cons_succ, List.getElem_cons_zero, List.setIfInBounds_toArray, List.set_cons_zero, List.set_cons_succ]
    refine wpHeldIn_done (by kernel_rfl) ?_ _
    gi_wp2
    go_ret
    exact ⟨rfl, hJ3, hK0.trans hK3⟩
end Go.Proofs.YtncbgbmgbokeoaaDoor
