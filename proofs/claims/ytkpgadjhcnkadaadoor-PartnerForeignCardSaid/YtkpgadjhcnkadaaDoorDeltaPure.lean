/- Plain laws of deltas: what applyF makes of a list of operations; a diff as a list of operations; the round trip; sizes. -/
import Derived.Test.YtkpgadjhcnkadaaDoorDiffBase
import Derived.Test.YtkpgadjhcnkadaaDoorPureApply
import Derived.Test.YtkpgadjhcnkadaaDoorOp3
set_option linter.unusedVariables false
set_option linter.unusedSimpArgs false
namespace Go.Proofs.YtkpgadjhcnkadaaDoor

def addOf (old : ByteArray) (x : Op3) : ByteArray := if 0 < x.n then old.extract x.off.toNat (x.off + x.n).toNat else x.s
/-- An operation that Apply takes. -/
def goodOp (old : ByteArray) (x : Op3) : Prop := (0 < x.n ∧ 0 ≤ x.off ∧ x.off + x.n ≤ old.size) ∨ (¬ 0 < x.n ∧ x.s.size ≠ 0)
instance (old : ByteArray) (x : Op3) : Decidable (goodOp old x) := by unfold goodOp; infer_instance
def encAll : List Op3 → List UInt8
  | [] => []
  | x :: l => (encOp x).data.toList ++ encAll l
def addAll (old : ByteArray) : List Op3 → List UInt8
  | [] => []
  | x :: l => (addOf old x).data.toList ++ addAll old l
/-- The numbers of an operation can be encoded. -/
structure CanEnc (x : Op3) : Prop where
  n : -maxInt ≤ x.n ∧ x.n ≤ maxInt
  off : -maxInt ≤ x.off ∧ x.off ≤ maxInt
  s : x.s.size ≤ 65536
theorem numS_list (n : Int) : (numS n).data.toList = encInt n := rfl
theorem maxInt_0 : -maxInt ≤ (0 : Int) ∧ (0 : Int) ≤ maxInt := by unfold maxInt; omega
theorem encOp_pos (x : Op3) : 0 < (encOp x).size := by
  unfold encOp
  split
  · rw [ba_append_size]
    have : 0 < (numS x.n).size := encInt_pos x.n
    omega
  · rw [ba_append_size]
    have : 0 < (numS 0).size := encInt_pos 0
    omega
theorem opAt_good {old d : ByteArray} {A : Nat} {x : Op3} {rest : List UInt8} (hx : CanEnc x) (hA : A ≤ d.size) (h : d.data.toList.drop A = (encOp x).data.toList ++ rest) (hg : goodOp old x) (hold : (old.size : Int) ≤ maxInt) :
    opAt old d A = (addOf old x, (A : Int) + (encOp x).size, 0) := by
  unfold encOp at h ⊢
  unfold addOf
  rcases hg with ⟨h1, h2, h3⟩ | ⟨h1, h2⟩
  · rw [if_pos h1] at h ⊢
    rw [if_pos h1]
    rw [ba_append, List.append_assoc] at h
    have e1 := intAt_at d A x.n _ hx.n.1 hx.n.2 hA h
    have hsz : A + (encInt x.n).length ≤ d.size := by
      have := congrArg List.length h
      simp only [List.length_drop, List.length_append, ba_size] at this
      have q : (numS x.n).data.toList.length = (encInt x.n).length := rfl
      simp only [numS_list, ← ba_size] at this
      rw [← ba_size]; rw [← ba_size] at hA; omega
    have h' : d.data.toList.drop (A + (encInt x.n).length) = encInt x.off ++ rest := by
      rw [← List.drop_drop, h]
      exact List.drop_left' rfl
    have e2 := intAt_at d (A + (encInt x.n).length) x.off rest hx.off.1 hx.off.2 hsz h'
    have ec : ((A : Int) + ((encInt x.n).length : Int)) = ((A + (encInt x.n).length : Nat) : Int) := by omega
    rw [ec] at e1
    rw [opAt_copy e1 h1, e2]
    simp only
    rw [if_neg (by simp), if_neg (by omega), ba_append_size]
    congr 2
    have q1 : (numS x.n).size = (encInt x.n).length := rfl
    have q2 : (numS x.off).size = (encInt x.off).length := rfl
    rw [q1, q2]
    omega
  · rw [if_neg h1] at h ⊢
    rw [if_neg h1]
    rw [ba_append, ba_append, List.append_assoc, List.append_assoc] at h
    have e1 := intAt_at d A 0 _ maxInt_0.1 maxInt_0.2 hA h
    have hsz : A + (encInt 0).length ≤ d.size := by
      have := congrArg List.length h
      simp only [List.length_drop, List.length_append, numS_list, ← ba_size] at this
      rw [← ba_size]; rw [← ba_size] at hA; omega
    have h' : d.data.toList.drop (A + (encInt 0).length) = encInt x.s.size ++ (x.s.data.toList ++ rest) := by
      rw [← List.drop_drop, h]
      exact List.drop_left' rfl
    have e2 := strAt_at d x.s (A + (encInt 0).length) rest hx.s hsz h'
    have ec : ((A : Int) + ((encInt 0).length : Int)) = ((A + (encInt 0).length : Nat) : Int) := by omega
    rw [ec] at e1
    rw [opAt_ins e1, e2]
    simp only
    rw [if_neg (by simp), if_neg h2, ba_append_size, ba_append_size]
    congr 2
    have q1 : (numS 0).size = (encInt 0).length := rfl
    have q2 : (numS x.s.size).size = (encInt x.s.size).length := rfl
    rw [q1, q2]
    omega
theorem opAt_ill {old d : ByteArray} {A : Nat} {x : Op3} {rest : List UInt8} (hx : CanEnc x) (hA : A ≤ d.size) (h : d.data.toList.drop A = (encOp x).data.toList ++ rest) (hg : ¬ goodOp old x) (hold : (old.size : Int) ≤ maxInt) :
    opAt old d A = (.empty, 0, 190) := by
  unfold encOp at h
  unfold goodOp at hg
  by_cases h1 : 0 < x.n
  · rw [if_pos h1] at h
    rw [ba_append, List.append_assoc] at h
    have e1 := intAt_at d A x.n _ hx.n.1 hx.n.2 hA h
    have hsz : A + (encInt x.n).length ≤ d.size := by
      have := congrArg List.length h
      simp only [List.length_drop, List.length_append, numS_list, ← ba_size] at this
      rw [← ba_size]; rw [← ba_size] at hA; omega
    have h' : d.data.toList.drop (A + (encInt x.n).length) = encInt x.off ++ rest := by
      rw [← List.drop_drop, h]
      exact List.drop_left' rfl
    have e2 := intAt_at d (A + (encInt x.n).length) x.off rest hx.off.1 hx.off.2 hsz h'
    have ec : ((A : Int) + ((encInt x.n).length : Int)) = ((A + (encInt x.n).length : Nat) : Int) := by omega
    rw [ec] at e1
    rw [opAt_copy e1 h1, e2]
    simp only
    rw [if_neg (by simp), if_pos (by omega)]
  · rw [if_neg h1] at h
    rw [ba_append, ba_append, List.append_assoc, List.append_assoc] at h
    have e1 := intAt_at d A 0 _ maxInt_0.1 maxInt_0.2 hA h
    have hsz : A + (encInt 0).length ≤ d.size := by
      have := congrArg List.length h
      simp only [List.length_drop, List.length_append, numS_list, ← ba_size] at this
      rw [← ba_size]; rw [← ba_size] at hA; omega
    have h' : d.data.toList.drop (A + (encInt 0).length) = encInt x.s.size ++ (x.s.data.toList ++ rest) := by
      rw [← List.drop_drop, h]
      exact List.drop_left' rfl
    have e2 := strAt_at d x.s (A + (encInt 0).length) rest hx.s hsz h'
    have ec : ((A : Int) + ((encInt 0).length : Int)) = ((A + (encInt 0).length : Nat) : Int) := by omega
    rw [ec] at e1
    rw [opAt_ins e1, e2]
    simp only
    rw [if_neg (by simp), if_pos (by omega)]
/-- What Apply's loop makes of a list of operations. -/
theorem applyGo_all (old d : ByteArray) (hold : (old.size : Int) ≤ maxInt) : ∀ (l : List Op3) (k A : Nat) (out : List UInt8), (∀ x ∈ l, CanEnc x) → A ≤ d.size → d.data.toList.drop A = encAll l → d.size ≤ k + A →
    applyGo old d k A out = if (∀ x ∈ l, goodOp old x) ∧ (l = [] ∨ out.length + (addAll old l).length ≤ 8192) then (0, out ++ addAll old l) else (190, []) := by
  intro l
  induction l with
  | nil =>
    intro k A out _ hA h hk
    have : d.size ≤ A := by
      have := congrArg List.length h
      simp only [List.length_drop, ba_size, encAll, List.length_nil] at this
      omega
    rw [applyGo_done (by omega), if_pos (by simp)]
    simp [addAll]
  | cons x l ih =>
    intro k A out hc hA h hk
    have hx := hc x (List.mem_cons_self ..)
    have hpos := encOp_pos x
    have hlen : A + (encOp x).size + (encAll l).length = d.size := by
      have := congrArg List.length h
      simp only [List.length_drop, ba_size, encAll, List.length_append] at this
      omega
    have hlt : (A : Int) < d.size := by omega
    by_cases hg : goodOp old x
    · have ho := opAt_good hx hA h hg hold
      by_cases hl : 8192 < out.length + (addOf old x).size
      · rw [applyGo_long (k := k) (out := out) hlt (by omega) ho hl, if_neg]
        rintro ⟨-, h2⟩
        rcases h2 with h2 | h2
        · cases h2
        · simp only [addAll, List.length_append, ba_size] at h2
          omega
      · obtain ⟨j, hj, hs⟩ := applyGo_step (k := k) (out := out) hlt (by omega) ho hl
        rw [hs]
        have ec : ((A : Int) + ((encOp x).size : Int)) = ((A + (encOp x).size : Nat) : Int) := by omega
        rw [ec, ih j (A + (encOp x).size) _ (fun y hy => hc y (List.mem_cons_of_mem _ hy)) (by omega) (by rw [← List.drop_drop, h]; exact List.drop_left' rfl) (by omega)]
        have e1 : (out ++ (addOf old x).data.toList).length = out.length + (addOf old x).size := by rw [List.length_append, ba_size]
        have e2 : (addAll old (x :: l)).length = (addOf old x).size + (addAll old l).length := by simp only [addAll, List.length_append, ba_size]
        by_cases hr : (∀ y ∈ l, goodOp old y) ∧ (l = [] ∨ (out ++ (addOf old x).data.toList).length + (addAll old l).length ≤ 8192)
        · rw [if_pos hr, if_pos]
          · simp [addAll]
          · refine ⟨fun y hy => ?_, .inr ?_⟩
            · rcases List.mem_cons.1 hy with rfl | hy
              · exact hg
              · exact hr.1 y hy
            · rcases hr.2 with rfl | h3
              · rw [e2]; simp only [addAll, List.length_nil]; omega
              · rw [e2]; omega
        · rw [if_neg hr, if_neg]
          rintro ⟨h1, h2⟩
          refine hr ⟨fun y hy => h1 y (List.mem_cons_of_mem _ hy), .inr ?_⟩
          rcases h2 with h2 | h2
          · cases h2
          · rw [e2] at h2; omega
    · have ho := opAt_ill hx hA h hg hold
      rw [applyGo_bad (k := k) (out := out) hlt (by omega) ho (by decide), if_neg]
      rintro ⟨h1, -⟩
      exact hg (h1 x (List.mem_cons_self ..))
/-- What Apply makes of a delta that is written operation by operation. -/
theorem applyF_ops (old : ByteArray) (so sn : Int) (l : List Op3) (h1 : -maxInt ≤ so ∧ so ≤ maxInt) (h2 : -maxInt ≤ sn ∧ sn ≤ maxInt) (hold : old.size ≤ 8192) (hc : ∀ x ∈ l, CanEnc x) (d : ByteArray) (hd : d.data.toList = encInt so ++ (encInt sn ++ encAll l)) :
    applyF old d = if so ≠ sumB old then (.empty, 190) else if (∀ x ∈ l, goodOp old x) ∧ (addAll old l).length ≤ 8192 ∧ sumB ⟨(addAll old l).toArray⟩ = sn then (⟨(addAll old l).toArray⟩, 0) else (.empty, 190) := by
  have hm : (old.size : Int) ≤ maxInt := by unfold maxInt; omega
  have hsz : d.size = (encInt so).length + ((encInt sn).length + (encAll l).length) := by rw [← ba_size, hd]; simp
  have e1 := intAt_at d 0 so _ h1.1 h1.2 (by omega) (by rw [List.drop_zero]; exact hd)
  have ec : (((0 : Nat) : Int) + ((encInt so).length : Int)) = (((encInt so).length : Nat) : Int) := by omega
  rw [ec] at e1
  have h' : d.data.toList.drop (encInt so).length = encInt sn ++ encAll l := by rw [hd]; exact List.drop_left' rfl
  have e2 := intAt_at d (encInt so).length sn _ h2.1 h2.2 (by omega) h'
  have ec2 : (((encInt so).length : Nat) : Int) + ((encInt sn).length : Int) = (((encInt so).length + (encInt sn).length : Nat) : Int) := by omega
  rw [ec2] at e2
  have e0 : intAt d 0 = (so, ((encInt so).length : Int), 0) := e1
  unfold applyF
  rw [if_neg (by omega), e0]
  simp only
  rw [if_neg (by simp)]
  by_cases hs : so = sumB old
  · rw [if_neg (by simpa using hs), if_neg (by simpa using hs), e2]
    unfold applyRest
    simp only
    rw [if_neg (by simp)]
    have eg := applyGo_all old d hm l d.size ((encInt so).length + (encInt sn).length) [] hc (by omega) (by rw [← List.drop_drop, h']; exact List.drop_left' rfl) (by omega)
    by_cases hg : (∀ x ∈ l, goodOp old x) ∧ (addAll old l).length ≤ 8192
    · rw [if_pos ⟨hg.1, .inr (by simpa using hg.2)⟩, List.nil_append] at eg
      rw [eg]
      simp only
      rw [if_neg (by simp)]
      by_cases hk : sumB ⟨(addAll old l).toArray⟩ = sn
      · rw [if_neg (by simpa using hk), if_pos ⟨hg.1, hg.2, hk⟩]
      · rw [if_pos hk, if_neg (fun h => hk h.2.2)]
    · rw [if_neg (by
        rintro ⟨h1, h2⟩
        refine hg ⟨h1, ?_⟩
        rcases h2 with rfl | h2
        · simp [addAll]
        · simpa using h2)] at eg
      rw [eg]
      simp only
      rw [if_pos (by decide), if_neg (fun h => hg ⟨h.1, h.2.1⟩)]
  · rw [if_pos hs, if_pos hs]
end Go.Proofs.YtkpgadjhcnkadaaDoor
