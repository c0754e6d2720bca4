/- Plain laws of the checksum: it is linear; a burst of at most 32 bits changes it. -/
import Derived.Test.YtlenfhliflchgaaDoorPureWire
namespace Go.Proofs.YtlenfhliflchgaaDoor

theorem bitsN_xor (k x y : Nat) : bitsN k (x ^^^ y) = bitsN k x ^^^ bitsN k y := by
  induction k with
  | zero => rfl
  | succ k ih => rw [bitsN, ih, bit1_xor]; rfl
theorem bitsN_add (j k x : Nat) : bitsN (j + k) x = bitsN j (bitsN k x) := by
  induction j with
  | zero => rw [Nat.zero_add]; rfl
  | succ j ih => rw [Nat.add_right_comm, bitsN, ih]; rfl
theorem bitsN_shift (i x : Nat) : bitsN i (x * 2 ^ i) = x := by
  induction i with
  | zero => simp [bitsN]
  | succ i ih => rw [bitsN_add i 1, show bitsN 1 (x * 2 ^ (i + 1)) = bit1 (x * 2 ^ (i + 1)) from rfl, Nat.pow_succ, ← Nat.mul_assoc, bit1_even, ih]
theorem u8_xor_toNat (a b : UInt8) : (a ^^^ b).toNat = a.toNat ^^^ b.toNat := UInt8.toNat_xor a b
theorem crcStep_xor (x y : Nat) (a b : UInt8) : crcStep (x ^^^ y) (a ^^^ b) = crcStep x a ^^^ crcStep y b := by
  rw [crcStep_bits, crcStep_bits, crcStep_bits, u8_xor_toNat, ← bitsN_xor]
  congr 1
  ac_rfl
theorem crcL_cons (b : UInt8) (l : List UInt8) (r : Nat) : crcL (b :: l) r = crcL l (crcStep r b) := rfl
theorem crcL_xor3 : ∀ (a b c : List UInt8) (r s t : Nat), a.length = b.length → b.length = c.length →
    crcL (List.zipWith (· ^^^ ·) (List.zipWith (· ^^^ ·) a b) c) (r ^^^ s ^^^ t) = crcL a r ^^^ crcL b s ^^^ crcL c t
  | [], [], [], r, s, t, _, _ => rfl
  | a :: as, b :: bs, c :: cs, r, s, t, h1, h2 => by
    simp only [List.zipWith_cons_cons, crcL_cons]
    rw [crcStep_xor, crcStep_xor]
    exact crcL_xor3 as bs cs _ _ _ (by simpa using h1) (by simpa using h2)
theorem sumL_eq (l : List UInt8) : sumL l = 4294967295 ^^^ crcL l 4294967295 := by
  unfold sumL; rw [not32 _ (crcL_lt _ _ (by decide))]
theorem sumL_lt (l : List UInt8) : sumL l < 4294967296 := by unfold sumL; omega
theorem sumL_xor3 (a b c : List UInt8) (h1 : a.length = b.length) (h2 : b.length = c.length) :
    sumL (List.zipWith (· ^^^ ·) (List.zipWith (· ^^^ ·) a b) c) = sumL a ^^^ sumL b ^^^ sumL c := by
  rw [sumL_eq, sumL_eq, sumL_eq, sumL_eq]
  have e : (4294967295 : Nat) = 4294967295 ^^^ 4294967295 ^^^ 4294967295 := by decide
  have h := crcL_xor3 a b c 4294967295 4294967295 4294967295 h1 h2
  rw [← e] at h
  rw [h]
  conv => lhs; rw [e]
  ac_rfl

/-! ### bursts -/
theorem bit1_inj0 (x : Nat) (hx : x < 4294967296) (h : bit1 x = 0) : x = 0 := by
  unfold bit1 at h
  split at h
  · exfalso
    have hb := congrArg (Nat.testBit · 31) h
    simp only [Nat.zero_testBit, Nat.testBit_xor] at hb
    have h1 : (x / 2).testBit 31 = false := Nat.testBit_lt_two_pow (by omega)
    rw [h1] at hb
    revert hb
    decide
  · omega
theorem bitsN_inj0 (k x : Nat) (hx : x < 4294967296) (h : bitsN k x = 0) : x = 0 := by
  induction k with
  | zero => exact h
  | succ k ih => exact ih (bit1_inj0 _ (bitsN_lt k x hx) h)
theorem bitsN_zero (k : Nat) : bitsN k 0 = 0 := by
  induction k with
  | zero => rfl
  | succ k ih => rw [bitsN, ih]; rfl
theorem crcL_reg (l : List UInt8) : ∀ (x y : Nat), crcL l (x ^^^ y) = crcL l x ^^^ bitsN (8 * l.length) y := by
  induction l with
  | nil => intro x y; rfl
  | cons b l ih =>
    intro x y
    rw [crcL_cons, crcL_cons, crcStep_bits, crcStep_bits]
    rw [show x ^^^ y ^^^ b.toNat = (x ^^^ b.toNat) ^^^ y by ac_rfl, bitsN_xor, ih, List.length_cons, show 8 * (l.length + 1) = 8 * l.length + 8 by omega, bitsN_add]
theorem flip_crc : ∀ (l : List UInt8) (k r : Nat), k < 8 * l.length →
    crcL (l.set (k / 8) (l.getD (k / 8) 0 ^^^ UInt8.ofNat (2 ^ (k % 8)))) r = crcL l r ^^^ bitsN (8 * l.length - k) 1
  | [], k, r, h => absurd h (by simp)
  | b :: l, k, r, h => by
    by_cases hk : k < 8
    · rw [show k / 8 = 0 by omega, show k % 8 = k by omega]
      simp only [List.set_cons_zero, List.getD_cons_zero, crcL_cons]
      have hp : 2 ^ k < 256 := Nat.lt_of_lt_of_le (Nat.pow_lt_pow_right (by decide) hk) (by decide)
      rw [crcStep_bits, u8_xor_toNat, ofNat_toNat _ hp, show r ^^^ (b.toNat ^^^ 2 ^ k) = (r ^^^ b.toNat) ^^^ 2 ^ k by ac_rfl, bitsN_xor, crcL_reg, ← crcStep_bits]
      congr 1
      rw [List.length_cons, show 8 * (l.length + 1) - k = 8 * l.length + (8 - k) by omega, bitsN_add]
      congr 1
      rw [show (8 : Nat) = (8 - k) + k by omega, bitsN_add, show 8 - k + k - k = 8 - k by omega]
      congr 1
      have := bitsN_shift k 1
      rwa [Nat.one_mul] at this
    · obtain ⟨j, rfl⟩ : ∃ j, k = j + 8 := ⟨k - 8, by omega⟩
      rw [show (j + 8) / 8 = j / 8 + 1 by omega, show (j + 8) % 8 = j % 8 by omega]
      simp only [List.set_cons_succ, List.getD_cons_succ, crcL_cons]
      rw [flip_crc l j _ (by simp at h; omega), List.length_cons, show 8 * (l.length + 1) - (j + 8) = 8 * l.length - j by omega]
/-- Behind i steps of the loop: the bits of the pattern below i have been flipped. -/
theorem burst_step (l0 l : List UInt8) (T M i from_ r : Nat) (hl : l.length = l0.length) (hT : T = 8 * l0.length) (hi : from_ + i < T)
    (h : crcL l r = crcL l0 r ^^^ bitsN (T - from_) M) :
    crcL (l.set ((from_ + i) / 8) (l.getD ((from_ + i) / 8) 0 ^^^ UInt8.ofNat (2 ^ ((from_ + i) % 8)))) r = crcL l0 r ^^^ bitsN (T - from_) (M ^^^ 2 ^ i) := by
  rw [flip_crc l (from_ + i) r (by omega), h, bitsN_xor, Nat.xor_assoc]
  congr 2
  rw [show T - from_ = (T - from_ - i) + i by omega, bitsN_add _ i, hl, ← hT, show T - (from_ + i) = T - from_ - i by omega]
  congr 1
  have := bitsN_shift i 1
  rw [Nat.one_mul] at this
  exact this.symm
theorem sumL_differs (l0 l : List UInt8) (k M : Nat) (hM : M < 4294967296) (h : crcL l 4294967295 = crcL l0 4294967295 ^^^ bitsN k M) : sumL l = sumL l0 ↔ M = 0 := by
  have h1 := crcL_lt l 4294967295 (by decide)
  have h2 := crcL_lt l0 4294967295 (by decide)
  constructor
  · intro e
    have e2 : crcL l 4294967295 = crcL l0 4294967295 := by unfold sumL at e; omega
    rw [e2] at h
    have h3 : bitsN k M = 0 := by
      have := congrArg (crcL l0 4294967295 ^^^ ·) h
      simp only [← Nat.xor_assoc, Nat.xor_self, Nat.zero_xor] at this
      exact this.symm
    exact bitsN_inj0 k M hM h3
  · rintro rfl
    rw [bitsN_zero, Nat.xor_zero] at h
    unfold sumL; rw [h]
end Go.Proofs.YtlenfhliflchgaaDoor
