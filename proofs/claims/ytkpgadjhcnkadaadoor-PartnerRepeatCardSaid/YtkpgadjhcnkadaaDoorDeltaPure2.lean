/- Plain: pieces of byte strings, common prefixes. An operation of a delta, and its bytes. Plain laws of deltas: what applyF makes of a list of operations; a diff as a list of operations; the round trip; sizes. Plain laws of deltas: a diff as a list of operations; the round trip; another base; the size. -/
import Derived.Test.YtkpgadjhcnkadaaDoorRef19
import Derived.Test.YtkpgadjhcnkadaaDoorPureWire
namespace Go.Proofs.YtkpgadjhcnkadaaDoor

theorem ba_of_list {a b : ByteArray} (h : a.data.toList = b.data.toList) : a = b := by
  cases a; cases b; simp at h; rw [h]
theorem ex_list (s : ByteArray) (i j : Nat) : (s.extract i j).data.toList = (s.data.toList.drop i).take (j - i) := by
  simp [ByteArray.data_extract, Array.toList_extract, List.extract]
theorem lcpL_take : ∀ (k : Nat) (a b : List UInt8), k ≤ a.length → k ≤ b.length → (a.take k = b.take k ↔ k ≤ lcpL a b)
  | 0, a, b, _, _ => by simp
  | k + 1, [], b, h, _ => by simp at h
  | k + 1, _ :: _, [], _, h => by simp at h
  | k + 1, x :: xs, y :: ys, h1, h2 => by
    have ih := lcpL_take k xs ys (by simpa using h1) (by simpa using h2)
    unfold lcpL
    by_cases e : x = y
    · subst e; simp [ih]
    · simp [e]
theorem ba_ex_join (s : ByteArray) (i j k : Nat) (h1 : i ≤ j) (h2 : j ≤ k) : s.extract i j ++ s.extract j k = s.extract i k := by
  apply ba_of_list
  rw [ByteArray.data_append, Array.toList_append, ex_list, ex_list, ex_list]
  have : k - i = (j - i) + (k - j) := by omega
  rw [this, List.take_add, List.drop_drop]
  congr 3
  omega
theorem ba_ex_nil (s : ByteArray) (i j : Nat) (h : j ≤ i ∨ s.size ≤ i) : s.extract i j = .empty := by
  apply ba_of_list
  rw [ex_list]
  rcases h with h | h
  · rw [show j - i = 0 by omega]; rfl
  · rw [List.drop_eq_nil_of_le (by rw [ba_size]; exact h)]; simp
theorem lcpB_ex (a b : ByteArray) (i j : Nat) : lcpB (a.extract i a.size) (b.extract j b.size) 0 0 = lcpB a b i j := by
  have e : ∀ (s : ByteArray) (k : Nat), (s.extract k s.size).data.toList = s.data.toList.drop k := by
    intro s k
    rw [ex_list, List.take_of_length_le]
    rw [List.length_drop, ba_size]; omega
  unfold lcpB
  rw [e, e]; simp
theorem longestF_off (old next : ByteArray) (p : Nat) (h : 0 < (longestF old next p).1) : (longestF old next p).1 = lcpB old next (longestF old next p).2 p := by
  unfold longestF at h ⊢
  have key : ∀ (l : List Nat) (b : Nat × Nat), (0 < b.1 → b.1 = lcpB old next b.2 p) → 0 < (l.foldl (bestStep old next p) b).1 → (l.foldl (bestStep old next p) b).1 = lcpB old next (l.foldl (bestStep old next p) b).2 p := by
    intro l
    induction l with
    | nil => intro b hb h; exact hb h
    | cons x l ih =>
      intro b hb h
      refine ih _ (fun h' => ?_) h
      unfold bestStep at h' ⊢
      split
      · rfl
      · rename_i hn; rw [if_neg hn] at h'; exact hb h'
  exact key _ _ (fun h => absurd h (by simp)) h
end Go.Proofs.YtkpgadjhcnkadaaDoor
namespace Go.Proofs.YtkpgadjhcnkadaaDoor
open Go.RowKit

/-- An operation of a delta. -/
structure Op3 where
  n : Int
  off : Int
  s : ByteArray
def opV (x : Op3) : Value := .agg #[.int .i64 x.n, .int .i64 x.off, .string x.s]
def encOp (x : Op3) : ByteArray := if 0 < x.n then numS x.n ++ numS x.off else numS 0 ++ (numS x.s.size ++ x.s)
structure OpOk (x : Op3) : Prop where
  n : 0 ≤ x.n ∧ x.n ≤ 8192
  off : 0 ≤ x.off ∧ x.off ≤ 8192
  s : x.s.size ≤ 8192
theorem encOp_size {x : Op3} (h : OpOk x) : (encOp x).size ≤ 8300 := by
  unfold encOp
  have := numS_size x.n
  have := numS_size x.off
  have := numS_size 0
  have := numS_size x.s.size
  have := h.s
  split <;> simp only [ba_append_size] <;> omega

end Go.Proofs.YtkpgadjhcnkadaaDoor
set_option linter.unusedVariables false
set_option linter.unusedSimpArgs false
namespace Go.Proofs.YtkpgadjhcnkadaaDoor

def addOf (old : ByteArray) (x : Op3) : ByteArray := if 0 < x.n then old.extract x.off.toNat (x.off + x.n).toNat else x.s
/-- An operation that Apply takes. -/
def goodOp (old : ByteArray) (x : Op3) : Prop := (0 < x.n ∧ 0 ≤ x.off ∧ x.off + x.n ≤ old.size) ∨ (¬ 0 < x.n ∧ x.s.size ≠ 0)
instance (old : ByteArray) (x : Op3) : Decidable (goodOp old x) := by unfold goodOp; infer_instance
def encAll : List Op3 → List UInt8
  | [] => []
  | x :: l => (encOp x).data.toList ++ encAll l
def addAll (old : ByteArray) : List Op3 → List UInt8
  | [] => []
  | x :: l => (addOf old x).data.toList ++ addAll old l
/-- The numbers of an operation can be encoded. -/
structure CanEnc (x : Op3) : Prop where
  n : -maxInt ≤ x.n ∧ x.n ≤ maxInt
  off : -maxInt ≤ x.off ∧ x.off ≤ maxInt
  s : x.s.size ≤ 65536
theorem numS_list (n : Int) : (numS n).data.toList = encInt n := rfl
theorem maxInt_0 : -maxInt ≤ (0 : Int) ∧ (0 : Int) ≤ maxInt := by unfold maxInt; omega
theorem encOp_pos (x : Op3) : 0 < (encOp x).size := by
  unfold encOp
  split
  · rw [ba_append_size]
    have : 0 < (numS x.n).size := encInt_pos x.n
    omega
  · rw [ba_append_size]
    have : 0 < (numS 0).size := encInt_pos 0
    omega
theorem opAt_good {old d : ByteArray} {A : Nat} {x : Op3} {rest : List UInt8} (hx : CanEnc x) (hA : A ≤ d.size) (h : d.data.toList.drop A = (encOp x).data.toList ++ rest) (hg : goodOp old x) (hold : (old.size : Int) ≤ maxInt) :
    opAt old d A = (addOf old x, (A : Int) + (encOp x).size, 0) := by
  unfold encOp at h ⊢
  unfold addOf
  rcases hg with ⟨h1, h2, h3⟩ | ⟨h1, h2⟩
  · rw [if_pos h1] at h ⊢
    rw [if_pos h1]
    rw [ba_append, List.append_assoc] at h
    have e1 := intAt_at d A x.n _ hx.n.1 hx.n.2 hA h
    have hsz : A + (encInt x.n).length ≤ d.size := by
      have := congrArg List.length h
      simp only [List.length_drop, List.length_append, ba_size] at this
      have q : (numS x.n).data.toList.length = (encInt x.n).length := rfl
      simp only [numS_list, ← ba_size] at this
      rw [← ba_size]; rw [← ba_size] at hA; omega
    have h' : d.data.toList.drop (A + (encInt x.n).length) = encInt x.off ++ rest := by
      rw [← List.drop_drop, h]
      exact List.drop_left' rfl
    have e2 := intAt_at d (A + (encInt x.n).length) x.off rest hx.off.1 hx.off.2 hsz h'
    have ec : ((A : Int) + ((encInt x.n).length : Int)) = ((A + (encInt x.n).length : Nat) : Int) := by omega
    rw [ec] at e1
    rw [opAt_copy e1 h1, e2]
    simp only
    rw [if_neg (by simp), if_neg (by omega), ba_append_size]
    congr 2
    have q1 : (numS x.n).size = (encInt x.n).length := rfl
    have q2 : (numS x.off).size = (encInt x.off).length := rfl
    rw [q1, q2]
    omega
  · rw [if_neg h1] at h ⊢
    rw [if_neg h1]
    rw [ba_append, ba_append, List.append_assoc, List.append_assoc] at h
    have e1 := intAt_at d A 0 _ maxInt_0.1 maxInt_0.2 hA h
    have hsz : A + (encInt 0).length ≤ d.size := by
      have := congrArg List.length h
      simp only [List.length_drop, List.length_append, numS_list, ← ba_size] at this
      rw [← ba_size]; rw [← ba_size] at hA; omega
    have h' : d.data.toList.drop (A + (encInt 0).length) = encInt x.s.size ++ (x.s.data.toList ++ rest) := by
      rw [← List.drop_drop, h]
      exact List.drop_left' rfl
    have e2 := strAt_at d x.s (A + (encInt 0).length) rest hx.s hsz h'
    have ec : ((A : Int) + ((encInt 0).length : Int)) = ((A + (encInt 0).length : Nat) : Int) := by omega
    rw [ec] at e1
    rw [opAt_ins e1, e2]
    simp only
    rw [if_neg (by simp), if_neg h2, ba_append_size, ba_append_size]
    congr 2
    have q1 : (numS 0).size = (encInt 0).length := rfl
    have q2 : (numS x.s.size).size = (encInt x.s.size).length := rfl
    rw [q1, q2]
    omega
theorem opAt_ill {old d : ByteArray} {A : Nat} {x : Op3} {rest : List UInt8} (hx : CanEnc x) (hA : A ≤ d.size) (h : d.data.toList.drop A = (encOp x).data.toList ++ rest) (hg : ¬ goodOp old x) (hold : (old.size : Int) ≤ maxInt) :
    opAt old d A = (.empty, 0, 190) := by
  unfold encOp at h
  unfold goodOp at hg
  by_cases h1 : 0 < x.n
  · rw [if_pos h1] at h
    rw [ba_append, List.append_assoc] at h
    have e1 := intAt_at d A x.n _ hx.n.1 hx.n.2 hA h
    have hsz : A + (encInt x.n).length ≤ d.size := by
      have := congrArg List.length h
      simp only [List.length_drop, List.length_append, numS_list, ← ba_size] at this
      rw [← ba_size]; rw [← ba_size] at hA; omega
    have h' : d.data.toList.drop (A + (encInt x.n).length) = encInt x.off ++ rest := by
      rw [← List.drop_drop, h]
      exact List.drop_left' rfl
    have e2 := intAt_at d (A + (encInt x.n).length) x.off rest hx.off.1 hx.off.2 hsz h'
    have ec : ((A : Int) + ((encInt x.n).length : Int)) = ((A + (encInt x.n).length : Nat) : Int) := by omega
    rw [ec] at e1
    rw [opAt_copy e1 h1, e2]
    simp only
    rw [if_neg (by simp), if_pos (by omega)]
  · rw [if_neg h1] at h
    rw [ba_append, ba_append, List.append_assoc, List.append_assoc] at h
    have e1 := intAt_at d A 0 _ maxInt_0.1 maxInt_0.2 hA h
    have hsz : A + (encInt 0).length ≤ d.size := by
      have := congrArg List.length h
      simp only [List.length_drop, List.length_append, numS_list, ← ba_size] at this
      rw [← ba_size]; rw [← ba_size] at hA; omega
    have h' : d.data.toList.drop (A + (encInt 0).length) = encInt x.s.size ++ (x.s.data.toList ++ rest) := by
      rw [← List.drop_drop, h]
      exact List.drop_left' rfl
    have e2 := strAt_at d x.s (A + (encInt 0).length) rest hx.s hsz h'
    have ec : ((A : Int) + ((encInt 0).length : Int)) = ((A + (encInt 0).length : Nat) : Int) := by omega
    rw [ec] at e1
    rw [opAt_ins e1, e2]
    simp only
    rw [if_neg (by simp), if_pos (by omega)]
/-- What Apply's loop makes of a list of operations. -/
theorem applyGo_all (old d : ByteArray) (hold : (old.size : Int) ≤ maxInt) : ∀ (l : List Op3) (k A : Nat) (out : List UInt8), (∀ x ∈ l, CanEnc x) → A ≤ d.size → d.data.toList.drop A = encAll l → d.size ≤ k + A →
    applyGo old d k A out = if (∀ x ∈ l, goodOp old x) ∧ (l = [] ∨ out.length + (addAll old l).length ≤ 8192) then (0, out ++ addAll old l) else (190, []) := by
  intro l
  induction l with
  | nil =>
    intro k A out _ hA h hk
    have : d.size ≤ A := by
      have := congrArg List.length h
      simp only [List.length_drop, ba_size, encAll, List.length_nil] at this
      omega
    rw [applyGo_done (by omega), if_pos (by simp)]
    simp [addAll]
  | cons x l ih =>
    intro k A out hc hA h hk
    have hx := hc x (List.mem_cons_self ..)
    have hpos := encOp_pos x
    have hlen : A + (encOp x).size + (encAll l).length = d.size := by
      have := congrArg List.length h
      simp only [List.length_drop, ba_size, encAll, List.length_append] at this
      omega
    have hlt : (A : Int) < d.size := by omega
    by_cases hg : goodOp old x
    · have ho := opAt_good hx hA h hg hold
      by_cases hl : 8192 < out.length + (addOf old x).size
      · rw [applyGo_long (k := k) (out := out) hlt (by omega) ho hl, if_neg]
        rintro ⟨-, h2⟩
        rcases h2 with h2 | h2
        · cases h2
        · simp only [addAll, List.length_append, ba_size] at h2
          omega
      · obtain ⟨j, hj, hs⟩ := applyGo_step (k := k) (out := out) hlt (by omega) ho hl
        rw [hs]
        have ec : ((A : Int) + ((encOp x).size : Int)) = ((A + (encOp x).size : Nat) : Int) := by omega
        rw [ec, ih j (A + (encOp x).size) _ (fun y hy => hc y (List.mem_cons_of_mem _ hy)) (by omega) (by rw [← List.drop_drop, h]; exact List.drop_left' rfl) (by omega)]
        have e1 : (out ++ (addOf old x).data.toList).length = out.length + (addOf old x).size := by rw [List.length_append, ba_size]
        have e2 : (addAll old (x :: l)).length = (addOf old x).size + (addAll old l).length := by simp only [addAll, List.length_append, ba_size]
        by_cases hr : (∀ y ∈ l, goodOp old y) ∧ (l = [] ∨ (out ++ (addOf old x).data.toList).length + (addAll old l).length ≤ 8192)
        · rw [if_pos hr, if_pos]
          · simp [addAll]
          · refine ⟨fun y hy => ?_, .inr ?_⟩
            · rcases List.mem_cons.1 hy with rfl | hy
              · exact hg
              · exact hr.1 y hy
            · rcases hr.2 with rfl | h3
              · rw [e2]; simp only [addAll, List.length_nil]; omega
              · rw [e2]; omega
        · rw [if_neg hr, if_neg]
          rintro ⟨h1, h2⟩
          refine hr ⟨fun y hy => h1 y (List.mem_cons_of_mem _ hy), .inr ?_⟩
          rcases h2 with h2 | h2
          · cases h2
          · rw [e2] at h2; omega
    · have ho := opAt_ill hx hA h hg hold
      rw [applyGo_bad (k := k) (out := out) hlt (by omega) ho (by decide), if_neg]
      rintro ⟨h1, -⟩
      exact hg (h1 x (List.mem_cons_self ..))
/-- What Apply makes of a delta that is written operation by operation. -/
theorem applyF_ops (old : ByteArray) (so sn : Int) (l : List Op3) (h1 : -maxInt ≤ so ∧ so ≤ maxInt) (h2 : -maxInt ≤ sn ∧ sn ≤ maxInt) (hold : old.size ≤ 8192) (hc : ∀ x ∈ l, CanEnc x) (d : ByteArray) (hd : d.data.toList = encInt so ++ (encInt sn ++ encAll l)) :
    applyF old d = if so ≠ sumB old then (.empty, 190) else if (∀ x ∈ l, goodOp old x) ∧ (addAll old l).length ≤ 8192 ∧ sumB ⟨(addAll old l).toArray⟩ = sn then (⟨(addAll old l).toArray⟩, 0) else (.empty, 190) := by
  have hm : (old.size : Int) ≤ maxInt := by unfold maxInt; omega
  have hsz : d.size = (encInt so).length + ((encInt sn).length + (encAll l).length) := by rw [← ba_size, hd]; simp
  have e1 := intAt_at d 0 so _ h1.1 h1.2 (by omega) (by rw [List.drop_zero]; exact hd)
  have ec : (((0 : Nat) : Int) + ((encInt so).length : Int)) = (((encInt so).length : Nat) : Int) := by omega
  rw [ec] at e1
  have h' : d.data.toList.drop (encInt so).length = encInt sn ++ encAll l := by rw [hd]; exact List.drop_left' rfl
  have e2 := intAt_at d (encInt so).length sn _ h2.1 h2.2 (by omega) h'
  have ec2 : (((encInt so).length : Nat) : Int) + ((encInt sn).length : Int) = (((encInt so).length + (encInt sn).length : Nat) : Int) := by omega
  rw [ec2] at e2
  have e0 : intAt d 0 = (so, ((encInt so).length : Int), 0) := e1
  unfold applyF
  rw [if_neg (by omega), e0]
  simp only
  rw [if_neg (by simp)]
  by_cases hs : so = sumB old
  · rw [if_neg (by simpa using hs), if_neg (by simpa using hs), e2]
    unfold applyRest
    simp only
    rw [if_neg (by simp)]
    have eg := applyGo_all old d hm l d.size ((encInt so).length + (encInt sn).length) [] hc (by omega) (by rw [← List.drop_drop, h']; exact List.drop_left' rfl) (by omega)
    by_cases hg : (∀ x ∈ l, goodOp old x) ∧ (addAll old l).length ≤ 8192
    · rw [if_pos ⟨hg.1, .inr (by simpa using hg.2)⟩, List.nil_append] at eg
      rw [eg]
      simp only
      rw [if_neg (by simp)]
      by_cases hk : sumB ⟨(addAll old l).toArray⟩ = sn
      · rw [if_neg (by simpa using hk), if_pos ⟨hg.1, hg.2, hk⟩]
      · rw [if_pos hk, if_neg (fun h => hk h.2.2)]
    · rw [if_neg (by
        rintro ⟨h1, h2⟩
        refine hg ⟨h1, ?_⟩
        rcases h2 with rfl | h2
        · simp [addAll]
        · simpa using h2)] at eg
      rw [eg]
      simp only
      rw [if_pos (by decide), if_neg (fun h => hg ⟨h.1, h.2.1⟩)]
  · rw [if_pos hs, if_pos hs]
end Go.Proofs.YtkpgadjhcnkadaaDoor
namespace Go.Proofs.YtkpgadjhcnkadaaDoor

theorem encAll_append (a b : List Op3) : encAll (a ++ b) = encAll a ++ encAll b := by
  induction a with
  | nil => rfl
  | cons x a ih => simp [encAll, ih]
theorem addAll_append (old : ByteArray) (a b : List Op3) : addAll old (a ++ b) = addAll old a ++ addAll old b := by
  induction a with
  | nil => rfl
  | cons x a ih => simp [addAll, ih]
def insL (f : ByteArray) : List Op3 := if f.size = 0 then [] else [⟨0, 0, f⟩]
theorem size_zero {f : ByteArray} (h : f.size = 0) : f.data.toList = [] := List.length_eq_zero_iff.1 (by rw [ba_size]; exact h)
theorem insL_enc (f : ByteArray) : encAll (insL f) = (insF f).data.toList := by
  unfold insL insF
  split
  · rfl
  · simp only [encAll, encOp]
    rw [if_neg (by simp)]
    simp
theorem insL_add (old f : ByteArray) : addAll old (insL f) = f.data.toList := by
  unfold insL
  split
  · rename_i h; rw [size_zero h]; rfl
  · simp only [addAll, addOf]
    rw [if_neg (by simp)]
    simp
theorem insL_good (old f : ByteArray) (hf : f.size ≤ 65536) : ∀ x ∈ insL f, goodOp old x ∧ CanEnc x := by
  intro x hx
  unfold insL at hx
  split at hx
  · cases hx
  · rename_i h
    rw [List.mem_singleton] at hx
    subst hx
    exact ⟨.inr ⟨by simp, h⟩, by unfold maxInt; simp, by unfold maxInt; simp, hf⟩
theorem copy_eq {old next : ByteArray} {p n a : Nat} (h : lcpB old next a p = n) : (old.data.toList.drop a).take n = (next.data.toList.drop p).take n := by
  have hle := lcpB_le old next a p
  exact (lcpL_take n _ _ (by rw [List.length_drop, ba_size]; omega) (by rw [List.length_drop, ba_size]; omega)).2 (by unfold lcpB at h; omega)
theorem diffGo_ops (old next : ByteArray) (ho : old.size ≤ 8192) (hn : next.size ≤ 8192) : ∀ (k p : Nat) (f o : ByteArray), p ≤ next.size → next.size ≤ k + p → f.size ≤ p →
    ∃ l : List Op3, (diffGo old next k p f o).data.toList = o.data.toList ++ encAll l ∧ addAll old l = f.data.toList ++ next.data.toList.drop p ∧ ∀ x ∈ l, goodOp old x ∧ CanEnc x := by
  intro k
  induction k with
  | zero =>
    intro p f o hp hk hf
    refine ⟨insL f, by unfold diffGo; rw [ba_append, insL_enc], ?_, insL_good old f (by omega)⟩
    rw [insL_add, List.drop_eq_nil_of_le (by rw [ba_size]; omega), List.append_nil]
  | succ k ih =>
    intro p f o hp hk hf
    by_cases hlt : p < next.size
    · obtain ⟨⟨n, a⟩, hl⟩ : ∃ q, longestF old next p = q := ⟨_, rfl⟩
      have hle := longestF_le old next p
      by_cases h8 : 8 ≤ n
      · have hof := longestF_off old next p (by rw [hl]; simp only; omega)
        rw [hl] at hof hle
        dsimp only at hof hle
        have hlc := lcpB_le old next a p
        obtain ⟨l, h1, h2, h3⟩ := ih (p + n) .empty (o ++ insF f ++ numS n ++ numS a) (by omega) (by omega) (by simp)
        refine ⟨insL f ++ (⟨n, a, .empty⟩ :: l), ?_, ?_, ?_⟩
        · unfold diffGo
          rw [if_pos hlt, hl, if_pos h8, h1, encAll_append, insL_enc]
          simp only [encAll, encOp]
          rw [if_pos (by omega)]
          simp only [ba_append, List.append_assoc]
        · rw [addAll_append, insL_add]
          simp only [addAll, addOf]
          rw [if_pos (by omega), h2]
          have e1 : ((a : Int) + (n : Int)).toNat = a + n := by omega
          rw [Int.toNat_natCast, e1, ex_list, show a + n - a = n by omega, copy_eq hof.symm]
          congr 1
          have e2 : (ByteArray.empty).data.toList = [] := rfl
          rw [e2, List.nil_append, ← List.drop_drop]
          exact List.take_append_drop _ _
        · intro x hx
          rcases List.mem_append.1 hx with hx | hx
          · exact insL_good old f (by omega) x hx
          · rcases List.mem_cons.1 hx with rfl | hx
            · refine ⟨.inl ⟨by simp only; omega, by simp only; omega, by simp only; omega⟩, ?_, ?_, ?_⟩
              · unfold maxInt; simp only; omega
              · unfold maxInt; simp only; omega
              · simp
            · exact h3 x hx
      · obtain ⟨l, h1, h2, h3⟩ := ih (p + 1) (f ++ next.extract p (p + 1)) o (by omega) (by omega) (by rw [ba_append_size]; simp; omega)
        refine ⟨l, ?_, ?_, h3⟩
        · unfold diffGo
          rw [if_pos hlt, hl, if_neg h8, h1]
        · rw [h2, ba_append, ex_list, List.append_assoc, show p + 1 - p = 1 by omega, ← List.drop_drop, List.take_append_drop]
    · obtain ⟨l, h1, h2, h3⟩ : ∃ l : List Op3, (o ++ insF f).data.toList = o.data.toList ++ encAll l ∧ addAll old l = f.data.toList ++ next.data.toList.drop p ∧ ∀ x ∈ l, goodOp old x ∧ CanEnc x :=
        ⟨insL f, by rw [ba_append, insL_enc], by rw [insL_add, List.drop_eq_nil_of_le (by rw [ba_size]; omega), List.append_nil], insL_good old f (by omega)⟩
      exact ⟨l, by rw [diffGo_end (by omega)]; exact h1, h2, h3⟩
theorem diffF_ops (old next : ByteArray) (ho : old.size ≤ 8192) (hn : next.size ≤ 8192) :
    ∃ l : List Op3, (diffF old next).data.toList = encInt (sumB old) ++ (encInt (sumB next) ++ encAll l) ∧ addAll old l = next.data.toList ∧ ∀ x ∈ l, goodOp old x ∧ CanEnc x := by
  obtain ⟨l, h1, h2, h3⟩ := diffGo_ops old next ho hn next.size 0 .empty (numS (sumB old) ++ numS (sumB next)) (by omega) (by omega) (by simp)
  refine ⟨l, ?_, by simpa using h2, h3⟩
  unfold diffF
  rw [if_neg (by omega), h1, ba_append, numS_list, numS_list, List.append_assoc]
theorem mk_list (s : ByteArray) : (⟨s.data.toList.toArray⟩ : ByteArray) = s := by cases s; simp
theorem roundTrip (old next : ByteArray) (ho : old.size ≤ 8192) (hn : next.size ≤ 8192) : applyF old (diffF old next) = (next, 0) := by
  obtain ⟨l, h1, h2, h3⟩ := diffF_ops old next ho hn
  rw [applyF_ops old _ _ l (sum_maxInt old) (sum_maxInt next) ho (fun x hx => (h3 x hx).2) _ h1, if_neg (by simp), if_pos, h2, mk_list]
  refine ⟨fun x hx => (h3 x hx).1, ?_, ?_⟩
  · rw [h2, ba_size]; exact hn
  · rw [h2, mk_list]
theorem otherBase (old other next : ByteArray) (ho : old.size ≤ 8192) (hn : next.size ≤ 8192) (hx : other.size ≤ 8192) :
    (sumB other ≠ sumB old → applyF other (diffF old next) = (.empty, 190)) ∧ ((applyF other (diffF old next)).2 = 0 → sumB (applyF other (diffF old next)).1 = sumB next) := by
  obtain ⟨l, h1, h2, h3⟩ := diffF_ops old next ho hn
  have e := applyF_ops other _ _ l (sum_maxInt old) (sum_maxInt next) hx (fun x hx => (h3 x hx).2) _ h1
  refine ⟨fun h => by rw [e, if_pos (Ne.symm h)], fun h => ?_⟩
  rw [e] at h ⊢
  by_cases hs : sumB old ≠ sumB other
  · rw [if_pos hs] at h; cases h
  · rw [if_neg hs] at h ⊢
    split at h
    · rename_i hg; rw [if_pos hg]; exact hg.2.2
    · cases h
theorem diffF_pos (old next : ByteArray) (ho : old.size ≤ 8192) (hn : next.size ≤ 8192) : 0 < (diffF old next).size := by
  obtain ⟨l, h1, _, _⟩ := diffF_ops old next ho hn
  rw [← ba_size, h1, List.length_append]
  have := encInt_pos (sumB old)
  omega
theorem applyF_none (old : ByteArray) : (applyF old .empty).2 ≠ 0 := by
  unfold applyF
  split
  · decide
  · have e : intAt .empty 0 = (0, 0, 10) := by decide
    rw [e]
    simp only
    rw [if_pos (by decide)]
    decide
theorem applyGo_len (old d : ByteArray) : ∀ (k : Nat) (a : Int) (out : List UInt8), out.length ≤ 8192 → (applyGo old d k a out).2.length ≤ 8192 := by
  intro k
  induction k with
  | zero => intro a out h; exact h
  | succ k ih =>
    intro a out h
    unfold applyGo
    split
    · split
      · simp
      · split
        · simp
        · rename_i h2
          exact ih _ _ (by rw [List.length_append, ba_size]; omega)
    · exact h
theorem applyF_le (old d : ByteArray) : (applyF old d).1.size ≤ 8192 := by
  unfold applyF
  split
  · simp
  · split
    · simp
    · split
      · simp
      · unfold applyRest
        split
        · simp
        · split
          · simp
          · split
            · simp
            · rw [ba_mk_size]
              exact applyGo_len old d _ _ _ (by simp)
theorem zig_nat (n : Nat) : zig (n : Int) = 2 * n := by unfold zig; rw [if_neg (by omega)]; omega
theorem numS_le (n k : Nat) (h : 2 * n < 128 ^ k) (h0 : 0 < k) (hk : k ≤ 10) : (numS (n : Int)).size ≤ k := by
  change (encF 10 (zig n)).length ≤ k
  rw [zig_nat, encF_more k 10 _ h h0 hk]
  exact encF_len _ _
theorem numS_sum (s : ByteArray) : (numS (sumB s)).size ≤ 5 := by
  have h := sumB_range s
  unfold sumB at h ⊢
  refine numS_le _ 5 ?_ (by decide) (by decide)
  show 2 * _ < 34359738368
  omega
theorem numS_8192 (n : Nat) (h : n < 8192) : (numS (n : Int)).size ≤ 2 := by
  refine numS_le n 2 ?_ (by decide) (by decide)
  show 2 * n < 16384
  omega
theorem numS_3 (n : Nat) (h : n ≤ 8192) : (numS (n : Int)).size ≤ 3 := by
  refine numS_le n 3 ?_ (by decide) (by decide)
  show 2 * n < 2097152
  omega
theorem numS_64 (n : Nat) (h : n < 64) : (numS (n : Int)).size ≤ 1 := numS_le n 1 (by omega) (by decide) (by decide)
theorem insF_le (f : ByteArray) (h : f.size ≤ 8192) : (insF f).size ≤ f.size + 4 ∧ (f.size < 8192 → (insF f).size ≤ f.size + 3) ∧ (f.size < 64 → (insF f).size ≤ f.size + 2) := by
  unfold insF
  split
  · refine ⟨by simp, fun _ => by simp, fun _ => by simp⟩
  · simp only [ba_append_size]
    have h0 : (numS 0).size ≤ 1 := numS_64 0 (by omega)
    have h3 := numS_3 f.size h
    refine ⟨by omega, fun h' => ?_, fun h' => ?_⟩
    · have := numS_8192 f.size h'; omega
    · have := numS_64 f.size h'; omega
theorem diffGo_size (old next : ByteArray) (ho : old.size ≤ 8192) (hn : next.size ≤ 8192) : ∀ (k p : Nat) (f o : ByteArray), p ≤ next.size → next.size ≤ k + p → f.size ≤ p →
    (diffGo old next k p f o).size ≤ o.size + (f.size + (next.size - p)) + 4 := by
  intro k
  induction k with
  | zero =>
    intro p f o hp hk hf
    unfold diffGo
    rw [ba_append_size]
    have := (insF_le f (by omega)).1
    omega
  | succ k ih =>
    intro p f o hp hk hf
    by_cases hlt : p < next.size
    · obtain ⟨⟨n, a⟩, hl⟩ : ∃ q, longestF old next p = q := ⟨_, rfl⟩
      have hle := longestF_le old next p
      by_cases h8 : 8 ≤ n
      · have hof := longestF_off old next p (by rw [hl]; simp only; omega)
        rw [hl] at hof hle
        dsimp only at hof hle
        have hlc := lcpB_le old next a p
        have h1 := ih (p + n) .empty (o ++ insF f ++ numS n ++ numS a) (by omega) (by omega) (by simp)
        unfold diffGo
        rw [if_pos hlt, hl, if_pos h8]
        simp only [ba_append_size, ByteArray.size_empty] at h1
        have h2 := (insF_le f (by omega)).2.1 (by omega)
        have h3 : (numS (n : Int)).size + (numS (a : Int)).size ≤ 4 := by
          by_cases hn' : n < 8192
          · have := numS_8192 n hn'
            have := numS_8192 a (by omega)
            omega
          · have := numS_3 n (by omega)
            have := numS_64 a (by omega)
            omega
        simp only
        omega
      · have h1 := ih (p + 1) (f ++ next.extract p (p + 1)) o (by omega) (by omega) (by rw [ba_append_size]; simp; omega)
        unfold diffGo
        rw [if_pos hlt, hl, if_neg h8]
        rw [ba_append_size] at h1
        have : (next.extract p (p + 1)).size = 1 := by simp; omega
        omega
    · rw [diffGo_end (by omega), ba_append_size]
      have := (insF_le f (by omega)).1
      omega
theorem diffF_size (old next : ByteArray) (ho : old.size ≤ 8192) (hn : next.size ≤ 8192) : (diffF old next).size ≤ next.size + 14 := by
  have h := diffGo_size old next ho hn next.size 0 .empty (numS (sumB old) ++ numS (sumB next)) (by omega) (by omega) (by simp)
  unfold diffF
  rw [if_neg (by omega)]
  simp only [ba_append_size, ByteArray.size_empty] at h
  have := numS_sum old
  have := numS_sum next
  omega
end Go.Proofs.YtkpgadjhcnkadaaDoor
