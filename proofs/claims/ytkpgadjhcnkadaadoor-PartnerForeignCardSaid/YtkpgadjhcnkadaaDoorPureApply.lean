/- What delta.Apply computes, in plain Lean. -/
import Derived.Test.YtkpgadjhcnkadaaDoorPureWire
namespace Go.Proofs.YtkpgadjhcnkadaaDoor

/-- What one operation of a delta adds, where it ends, and the error (0: none). -/
def opAt (old d : ByteArray) (at_ : Int) : ByteArray × Int × Int :=
  if (intAt d at_).2.2 ≠ 0 then (.empty, 0, 10)
  else if (intAt d at_).1 < 0 then (.empty, 0, 190)
  else if (intAt d at_).1 = 0 then
    if (strAt d (intAt d at_).2.1).2.2 ≠ 0 then (.empty, 0, 10)
    else if (strAt d (intAt d at_).2.1).1.size = 0 then (.empty, 0, 190)
    else ((strAt d (intAt d at_).2.1).1, (strAt d (intAt d at_).2.1).2.1, 0)
  else if (intAt d (intAt d at_).2.1).2.2 ≠ 0 then (.empty, 0, 10)
  else if (intAt d (intAt d at_).2.1).1 < 0 ∨ (old.size : Int) < (intAt d (intAt d at_).2.1).1 ∨ (old.size : Int) - (intAt d (intAt d at_).2.1).1 < (intAt d at_).1 then (.empty, 0, 190)
  else (old.extract (intAt d (intAt d at_).2.1).1.toNat ((intAt d (intAt d at_).2.1).1 + (intAt d at_).1).toNat, (intAt d (intAt d at_).2.1).2.1, 0)
/-- The operations from an offset on; the error, and what is there in all. -/
def applyGo (old d : ByteArray) : Nat → Int → List UInt8 → Int × List UInt8
  | 0, _, out => (0, out)
  | k + 1, at_, out =>
    if at_ < d.size then
      if (opAt old d at_).2.2 ≠ 0 then ((opAt old d at_).2.2, [])
      else if 8192 < out.length + (opAt old d at_).1.size then (190, [])
      else applyGo old d k (opAt old d at_).2.1 (out ++ (opAt old d at_).1.data.toList)
    else (0, out)
/-- What follows the first number. -/
def applyRest (old d : ByteArray) (p : Int × Int × Int) : ByteArray × Int :=
  if p.2.2 ≠ 0 then (.empty, 10)
  else if (applyGo old d d.size p.2.1 []).1 ≠ 0 then (.empty, (applyGo old d d.size p.2.1 []).1)
  else if sumB ⟨(applyGo old d d.size p.2.1 []).2.toArray⟩ ≠ p.1 then (.empty, 190)
  else (⟨(applyGo old d d.size p.2.1 []).2.toArray⟩, 0)
def applyF (old d : ByteArray) : ByteArray × Int :=
  if 8192 < old.size then (.empty, 190)
  else if (intAt d 0).2.2 ≠ 0 then (.empty, 10)
  else if (intAt d 0).1 ≠ sumB old then (.empty, 190)
  else applyRest old d (intAt d (intAt d 0).2.1)
/-! Each way, as an equation. -/
theorem opAt_num {old d : ByteArray} {a n nx e : Int} (h : intAt d a = (n, nx, e)) (he : e ≠ 0) : opAt old d a = (.empty, 0, 10) := by unfold opAt; rw [h, if_pos he]
theorem opAt_neg {old d : ByteArray} {a n nx : Int} (h : intAt d a = (n, nx, 0)) (hn : n < 0) : opAt old d a = (.empty, 0, 190) := by unfold opAt; rw [h, if_neg (by simp), if_pos hn]
theorem opAt_ins {old d : ByteArray} {a nx : Int} (h : intAt d a = (0, nx, 0)) : opAt old d a = if (strAt d nx).2.2 ≠ 0 then (.empty, 0, 10) else if (strAt d nx).1.size = 0 then (.empty, 0, 190) else ((strAt d nx).1, (strAt d nx).2.1, 0) := by
  unfold opAt; rw [h, if_neg (by simp), if_neg (by simp), if_pos rfl]
theorem opAt_copy {old d : ByteArray} {a n nx : Int} (h : intAt d a = (n, nx, 0)) (hn : 0 < n) : opAt old d a = if (intAt d nx).2.2 ≠ 0 then (.empty, 0, 10) else if (intAt d nx).1 < 0 ∨ (old.size : Int) < (intAt d nx).1 ∨ (old.size : Int) - (intAt d nx).1 < n then (.empty, 0, 190) else (old.extract (intAt d nx).1.toNat ((intAt d nx).1 + n).toNat, (intAt d nx).2.1, 0) := by
  unfold opAt; rw [h, if_neg (by simp), if_neg (by simp; omega), if_neg (by simp; omega)]
theorem applyGo_done {old d : ByteArray} {k : Nat} {a : Int} {out : List UInt8} (h : (d.size : Int) ≤ a) : applyGo old d k a out = (0, out) := by
  cases k with
  | zero => rfl
  | succ k => unfold applyGo; rw [if_neg (by omega)]
theorem applyGo_bad {old d : ByteArray} {k : Nat} {a nx er : Int} {s : ByteArray} {out : List UInt8} (h : a < (d.size : Int)) (hk : (d.size : Int) ≤ k + a) (ho : opAt old d a = (s, nx, er)) (he : er ≠ 0) : applyGo old d k a out = (er, []) := by
  cases k with
  | zero => omega
  | succ k => unfold applyGo; rw [if_pos h, ho, if_pos he]
theorem applyGo_long {old d : ByteArray} {k : Nat} {a nx : Int} {s : ByteArray} {out : List UInt8} (h : a < (d.size : Int)) (hk : (d.size : Int) ≤ k + a) (ho : opAt old d a = (s, nx, 0)) (he : 8192 < out.length + s.size) : applyGo old d k a out = (190, []) := by
  cases k with
  | zero => omega
  | succ k => unfold applyGo; rw [if_pos h, ho, if_neg (by simp), if_pos he]
theorem applyGo_step {old d : ByteArray} {k : Nat} {a nx : Int} {s : ByteArray} {out : List UInt8} (h : a < (d.size : Int)) (hk : (d.size : Int) ≤ k + a) (ho : opAt old d a = (s, nx, 0)) (he : ¬ 8192 < out.length + s.size) : ∃ j, k = j + 1 ∧ applyGo old d k a out = applyGo old d j nx (out ++ s.data.toList) := by
  cases k with
  | zero => omega
  | succ k => exact ⟨k, rfl, by conv => lhs; unfold applyGo; rw [if_pos h, ho, if_neg (by simp), if_neg he]⟩
end Go.Proofs.YtkpgadjhcnkadaaDoor
