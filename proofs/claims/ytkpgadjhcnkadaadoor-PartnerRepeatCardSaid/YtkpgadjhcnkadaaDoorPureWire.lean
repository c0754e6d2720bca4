/- Plain definitions for layer 1 (wire): checksum, encodings of integers and strings, on lists of bytes; no program in sight. What delta.Apply computes, in plain Lean. Plain laws of the checksum: it is linear; a burst of at most 32 bits changes it. -/
namespace Go.Proofs.YtkpgadjhcnkadaaDoor

/-! ### the checksum -/
def nibTab : List Nat := [0x00000000, 0x105EC76F, 0x20BD8EDE, 0x30E349B1, 0x417B1DBC, 0x5125DAD3, 0x61C69362, 0x7198540D, 0x82F63B78, 0x92A8FC17, 0xA24BB5A6, 0xB21572C9, 0xC38D26C4, 0xD3D3E1AB, 0xE330A81A, 0xF36E6F75]
def nibAt (i : Nat) : Nat := nibTab.getD i 0
def nib (r : Nat) : Nat := (r / 16) ^^^ nibAt (r % 16)
def crcStep (r : Nat) (b : UInt8) : Nat := nib (nib (r ^^^ b.toNat))
def crcL (l : List UInt8) (r : Nat) : Nat := l.foldl crcStep r
def sumL (l : List UInt8) : Nat := 4294967295 - crcL l 4294967295
def sumB (s : ByteArray) : Int := (sumL s.data.toList : Nat)

theorem nibTab_lt (i : Nat) : nibAt i < 4294967296 := by
  unfold nibAt
  by_cases h : i < 16
  · have : ∀ j, j < 16 → nibTab.getD j 0 < 4294967296 := by decide
    exact this i h
  · have : nibTab.getD i 0 = 0 := by
      rw [List.getD_eq_getElem?_getD, List.getElem?_eq_none (by simp [nibTab]; omega)]; rfl
    omega
theorem nib_lt (r : Nat) (h : r < 4294967296) : nib r < 4294967296 := Nat.xor_lt_two_pow (n := 32) (by omega) (nibTab_lt _)
theorem crcStep_lt (r : Nat) (b : UInt8) (h : r < 4294967296) : crcStep r b < 4294967296 := nib_lt _ (nib_lt _ (Nat.xor_lt_two_pow (n := 32) h (by have := b.toNat_lt; omega)))
theorem crcL_lt (l : List UInt8) : ∀ (r : Nat), r < 4294967296 → crcL l r < 4294967296 := by
  induction l with
  | nil => intro r h; exact h
  | cons b l ih => intro r h; exact ih _ (crcStep_lt r b h)
theorem crcL_snoc (l : List UInt8) (b : UInt8) (r : Nat) : crcL (l ++ [b]) r = crcStep (crcL l r) b := by simp [crcL]
theorem take_snoc (s : ByteArray) (k : Nat) (h : k < s.size) : s.data.toList.take (k + 1) = s.data.toList.take k ++ [s[k]] := by
  rw [List.take_succ_eq_append_getElem (by simpa using h)]; rfl
theorem not32 (x : Nat) (h : x < 4294967296) : 4294967295 ^^^ x = 4294967295 - x := by
  have := BitVec.toNat_not (x := BitVec.ofNat 32 x)
  rw [← BitVec.xor_allOnes, BitVec.xor_comm, BitVec.toNat_xor, BitVec.toNat_allOnes, BitVec.toNat_ofNat, Nat.mod_eq_of_lt (by omega)] at this
  omega
theorem sumB_range (s : ByteArray) : 0 ≤ sumB s ∧ sumB s < 4294967296 := by
  unfold sumB sumL; omega

/-- One bit of the checksum, as the reference has it. -/
def bit1 (r : Nat) : Nat := if r % 2 = 1 then (r / 2) ^^^ 0x82F63B78 else r / 2
theorem xor_half (x y : Nat) : (x ^^^ y) / 2 = (x / 2) ^^^ (y / 2) := by
  have := @Nat.shiftRight_xor_distrib 1 x y
  simpa [Nat.shiftRight_eq_div_pow] using this
theorem xor_odd (x y : Nat) : (x ^^^ y) % 2 = (x % 2 + y % 2) % 2 := by
  have h := Nat.xor_mod_two_pow (a := x) (b := y) (n := 1)
  simp only [Nat.pow_one] at h
  rw [h]
  rcases Nat.mod_two_eq_zero_or_one x with hx | hx <;> rcases Nat.mod_two_eq_zero_or_one y with hy | hy <;> rw [hx, hy] <;> rfl
theorem bit1_lt (r : Nat) (h : r < 4294967296) : bit1 r < 4294967296 := by
  unfold bit1
  split
  · exact Nat.xor_lt_two_pow (n := 32) (by omega) (by decide)
  · omega
/-- A register of the form (16 q + i), i < 16: four bits shifted out. -/
theorem bit1_xor (x y : Nat) : bit1 (x ^^^ y) = bit1 x ^^^ bit1 y := by
  unfold bit1
  rw [xor_odd, xor_half]
  have hx := Nat.mod_two_eq_zero_or_one x
  have hy := Nat.mod_two_eq_zero_or_one y
  rcases hx with hx | hx <;> rcases hy with hy | hy <;> simp [hx, hy]
  · ac_rfl
  · ac_rfl
  · have e : (x / 2 ^^^ 2197175160) ^^^ (y / 2 ^^^ 2197175160) = (x / 2 ^^^ y / 2) ^^^ (2197175160 ^^^ 2197175160) := by ac_rfl
    rw [e, Nat.xor_self, Nat.xor_zero]
theorem split16 (r : Nat) : r = (r / 16 * 16) ^^^ (r % 16) := by
  have h : r / 16 * 16 ||| r % 16 = r / 16 * 16 ^^^ r % 16 := by
    apply Nat.eq_of_testBit_eq
    intro i
    rw [Nat.testBit_or, Nat.testBit_xor]
    by_cases hi : i < 4
    · have : (r / 16 * 16).testBit i = false := by
        rw [show (16 : Nat) = 2 ^ 4 from rfl, Nat.testBit_mul_two_pow, decide_eq_false (by omega)]; rfl
      simp [this]
    · have : (r % 16).testBit i = false := by
        rw [show (16 : Nat) = 2 ^ 4 from rfl, Nat.testBit_mod_two_pow, decide_eq_false hi]; rfl
      simp [this]
  rw [← h]
  have := Nat.two_pow_add_eq_or_of_lt (i := 4) (b := r % 16) (by omega) (r / 16)
  rw [Nat.mul_comm, show (16 : Nat) = 2 ^ 4 from rfl, ← this]
  omega
theorem bit1_even (q : Nat) : bit1 (q * 2) = q := by unfold bit1; rw [if_neg (by omega)]; omega
theorem nib_bits (r : Nat) : nib r = bit1 (bit1 (bit1 (bit1 r))) := by
  have h16 : ∀ i, i < 16 → bit1 (bit1 (bit1 (bit1 i))) = nibAt i := by decide
  have hq : bit1 (bit1 (bit1 (bit1 (r / 16 * 16)))) = r / 16 := by
    rw [show r / 16 * 16 = (r / 16 * 8) * 2 by omega, bit1_even, show r / 16 * 8 = (r / 16 * 4) * 2 by omega, bit1_even, show r / 16 * 4 = (r / 16 * 2) * 2 by omega, bit1_even, bit1_even]
  conv => rhs; rw [split16 r]
  rw [bit1_xor, bit1_xor, bit1_xor, bit1_xor, hq, h16 _ (Nat.mod_lt _ (by decide))]
  rfl
def bitsN : Nat → Nat → Nat
  | 0, r => r
  | k + 1, r => bit1 (bitsN k r)
theorem bitsN_lt (k r : Nat) (h : r < 4294967296) : bitsN k r < 4294967296 := by
  induction k with
  | zero => exact h
  | succ k ih => exact bit1_lt _ ih
theorem crcStep_bits (r : Nat) (b : UInt8) : crcStep r b = bitsN 8 (r ^^^ b.toNat) := by
  unfold crcStep; rw [nib_bits, nib_bits]; rfl

/-! ### integers -/
def maxInt : Int := 4611686018427387903
def encF : Nat → Nat → List UInt8
  | 0, _ => []
  | k + 1, z => if z < 128 then [UInt8.ofNat z] else UInt8.ofNat (z % 128 + 128) :: encF k (z / 128)
def encU (z : Nat) : List UInt8 := encF 10 z
def zig (n : Int) : Nat := if n < 0 then (-n * 2 - 1).toNat else (n * 2).toNat
def unzig (z : Nat) : Int := if z % 2 = 1 then -((z / 2 : Nat) : Int) - 1 else ((z / 2 : Nat) : Int)
def encInt (n : Int) : List UInt8 := encU (zig n)
/-- The decoder with the number read so far, as the program keeps it. -/
def decF : Nat → List UInt8 → Nat → Nat → Option (Nat × Nat)
  | 0, _, _, _ => none
  | _ + 1, [], _, _ => none
  | k + 1, b :: l, i, z => if 128 ≤ b.toNat then decF k l (i + 1) (z + b.toNat % 128 * 2 ^ (7 * i)) else if b.toNat = 0 ∧ 0 < i then none else some (z + b.toNat % 128 * 2 ^ (7 * i), i + 1)
/-- The same, by itself. -/
def decR : Nat → Bool → List UInt8 → Option (Nat × Nat)
  | 0, _, _ => none
  | _ + 1, _, [] => none
  | k + 1, first, b :: l => if 128 ≤ b.toNat then (decR k false l).map fun p => (b.toNat % 128 + 128 * p.1, p.2 + 1) else if b.toNat = 0 ∧ first = false then none else some (b.toNat, 1)
def big63 : Nat := 9223372036854775807
def intL (l : List UInt8) : Option (Int × Nat) := (decR 9 true l).bind fun p => if p.1 = big63 then none else some (unzig p.1, p.2)
/-- What Int returns: the number, the end, the error. -/
def intAt (s : ByteArray) (at_ : Int) : Int × Int × Int :=
  if at_ < 0 ∨ (s.size : Int) < at_ then (0, 0, 2) else match intL (s.data.toList.drop at_.toNat) with
    | none => (0, 0, 10)
    | some (n, c) => (n, at_ + c, 0)
def putInt (n : Int) : ByteArray × Int := if n < -maxInt ∨ maxInt < n then (ByteArray.empty, 10) else (⟨(encInt n).toArray⟩, 0)
def putStr (s : ByteArray) : ByteArray × Int := if 65536 < s.size then (ByteArray.empty, 10) else (⟨(encInt s.size).toArray⟩ ++ s, 0)
def strAt (s : ByteArray) (at_ : Int) : ByteArray × Int × Int :=
  if (intAt s at_).2.2 ≠ 0 then (ByteArray.empty, 0, (intAt s at_).2.2)
  else if (intAt s at_).1 < 0 ∨ 65536 < (intAt s at_).1 ∨ (s.size : Int) - (intAt s at_).2.1 < (intAt s at_).1 then (ByteArray.empty, 0, 10)
  else (s.extract (intAt s at_).2.1.toNat ((intAt s at_).2.1 + (intAt s at_).1).toNat, (intAt s at_).2.1 + (intAt s at_).1, 0)

theorem decF_R : ∀ (k : Nat) (l : List UInt8) (i z : Nat), decF k l i z = (decR k (decide (i = 0)) l).map fun p => (z + p.1 * 2 ^ (7 * i), i + p.2)
  | 0, _, _, _ => rfl
  | _ + 1, [], _, _ => rfl
  | k + 1, b :: l, i, z => by
    unfold decF decR
    by_cases h : 128 ≤ b.toNat
    · rw [if_pos h, if_pos h, decF_R k l (i + 1)]
      rw [show (decide (i + 1 = 0)) = false by simp]
      cases decR k false l with
      | none => rfl
      | some p =>
        simp only [Option.map_some, Option.some.injEq, Prod.mk.injEq]
        refine ⟨?_, by omega⟩
        rw [show 7 * (i + 1) = 7 * i + 7 by omega, Nat.pow_add, Nat.add_mul, Nat.add_assoc]
        congr 2
        rw [Nat.mul_comm 128, Nat.mul_assoc]
        congr 1
        rw [Nat.mul_comm]
    · rw [if_neg h, if_neg h]
      have e : (b.toNat = 0 ∧ decide (i = 0) = false) ↔ (b.toNat = 0 ∧ 0 < i) := by simp; omega
      by_cases h0 : b.toNat = 0 ∧ 0 < i
      · rw [if_pos h0, if_pos (e.2 h0)]; rfl
      · rw [if_neg h0, if_neg (fun x => h0 (e.1 x))]
        simp [Nat.mod_eq_of_lt (Nat.lt_of_not_le h)]

theorem ofNat_toNat (n : Nat) (h : n < 256) : (UInt8.ofNat n).toNat = n := by simp; omega
theorem encF_len (k z : Nat) : (encF k z).length ≤ k := by
  induction k generalizing z with
  | zero => simp [encF]
  | succ k ih =>
    unfold encF
    split
    · simp
    · have := ih (z / 128); simp; omega
theorem encF_more : ∀ (k m z : Nat), z < 128 ^ k → 0 < k → k ≤ m → encF m z = encF k z
  | 0, _, _, _, h, _ => absurd h (by decide)
  | k + 1, m, z, hz, _, hm => by
    obtain ⟨m, rfl⟩ : ∃ j, m = j + 1 := ⟨m - 1, by omega⟩
    unfold encF
    by_cases h : z < 128
    · rw [if_pos h, if_pos h]
    · rw [if_neg h, if_neg h]
      have hk : 0 < k := by
        rcases Nat.eq_zero_or_pos k with h0 | h0
        · subst h0; simp at hz; omega
        · exact h0
      rw [encF_more k m (z / 128) (by rw [Nat.pow_succ] at hz; omega) hk (by omega)]
theorem encF_pos (k z : Nat) (hk : 0 < k) : 0 < (encF k z).length := by
  obtain ⟨k, rfl⟩ : ∃ j, k = j + 1 := ⟨k - 1, by omega⟩
  unfold encF; split <;> simp
/-- Whatever is encoded is decoded, whatever stands behind it. -/
theorem decR_enc : ∀ (k : Nat) (first : Bool) (z : Nat) (rest : List UInt8) (m : Nat), z < 128 ^ k → 0 < k → k ≤ m → (first = false → z ≠ 0) → decR m first (encF k z ++ rest) = some (z, (encF k z).length)
  | 0, _, _, _, _, _, h, _, _ => absurd h (by decide)
  | k + 1, first, z, rest, m, h, _, hm, hf => by
    obtain ⟨m, rfl⟩ : ∃ j, m = j + 1 := ⟨m - 1, by omega⟩
    unfold encF
    by_cases hz : z < 128
    · rw [if_pos hz]
      simp only [List.cons_append, List.nil_append, decR, ofNat_toNat z (by omega), List.length_singleton]
      rw [if_neg (by omega), if_neg (by rintro ⟨h0, hb⟩; exact hf hb h0)]
    · have hk : 0 < k := by
        rcases Nat.eq_zero_or_pos k with h0 | h0
        · subst h0; simp at h; omega
        · exact h0
      rw [if_neg hz]
      simp only [List.cons_append, decR, ofNat_toNat (z % 128 + 128) (by omega), List.length_cons]
      rw [if_pos (by omega), decR_enc k false (z / 128) rest m (by rw [Nat.pow_succ] at h; omega) hk (by omega) (by omega)]
      simp only [Option.map_some, Option.some.injEq, Prod.mk.injEq, and_true]
      omega
/-- Whatever is decoded is what is encoded for the number. -/
theorem enc_decR : ∀ (m : Nat) (first : Bool) (l : List UInt8) (v c : Nat), decR m first l = some (v, c) → l.take c = encF m v ∧ c = (encF m v).length ∧ v < 128 ^ m ∧ (first = false → v ≠ 0)
  | 0, _, _, _, _, h => by simp [decR] at h
  | _ + 1, _, [], _, _, h => by simp [decR] at h
  | m + 1, first, b :: l, v, c, h => by
    have hb := b.toNat_lt
    unfold decR at h
    by_cases h1 : 128 ≤ b.toNat
    · rw [if_pos h1] at h
      cases hd : decR m false l with
      | none => rw [hd] at h; simp at h
      | some p =>
        obtain ⟨v', c'⟩ := p
        rw [hd] at h
        simp only [Option.map_some, Option.some.injEq, Prod.mk.injEq] at h
        obtain ⟨rfl, rfl⟩ := h
        obtain ⟨h2, h3, h4, h5⟩ := enc_decR m false l v' c' hd
        have hv := h5 rfl
        have e1 : (b.toNat % 128 + 128 * v') % 128 + 128 = b.toNat := by omega
        have e2 : (b.toNat % 128 + 128 * v') / 128 = v' := by omega
        have e3 : ¬ (b.toNat % 128 + 128 * v') < 128 := by omega
        unfold encF
        rw [if_neg e3, e1, e2]
        refine ⟨by rw [List.take_succ_cons, h2, UInt8.ofNat_toNat], by rw [List.length_cons, ← h3], ?_, fun _ => by omega⟩
        rw [Nat.pow_succ]; omega
    · rw [if_neg h1] at h
      by_cases h2 : b.toNat = 0 ∧ first = false
      · rw [if_pos h2] at h; simp at h
      · rw [if_neg h2] at h
        simp only [Option.some.injEq, Prod.mk.injEq] at h
        obtain ⟨rfl, rfl⟩ := h
        unfold encF
        rw [if_pos (by omega)]
        refine ⟨by simp [UInt8.ofNat_toNat], rfl, ?_, fun hf h0 => h2 ⟨h0, hf⟩⟩
        have : 128 ^ 1 ≤ 128 ^ (m + 1) := Nat.pow_le_pow_right (by decide) (by omega)
        omega

theorem zig_unzig (z : Nat) : zig (unzig z) = z := by
  unfold zig unzig; split <;> split <;> omega
theorem unzig_zig (n : Int) : unzig (zig n) = n := by
  unfold zig unzig; split <;> split <;> omega
theorem zig_lt (n : Int) (h1 : -maxInt ≤ n) (h2 : n ≤ maxInt) : zig n < big63 := by
  unfold zig maxInt big63 at *; split <;> omega
theorem pow9 : 128 ^ 9 = big63 + 1 := by decide
theorem encInt_eq (n : Int) (h1 : -maxInt ≤ n) (h2 : n ≤ maxInt) : encInt n = encF 9 (zig n) := by
  have := zig_lt n h1 h2
  exact encF_more 9 10 _ (by rw [pow9]; omega) (by decide) (by decide)
theorem encInt_pos (n : Int) : 0 < (encInt n).length := encF_pos _ _ (by decide)
theorem encInt_len (n : Int) : (encInt n).length ≤ 10 := encF_len _ _
theorem intL_enc (n : Int) (h1 : -maxInt ≤ n) (h2 : n ≤ maxInt) (rest : List UInt8) : intL (encInt n ++ rest) = some (n, (encInt n).length) := by
  have hz := zig_lt n h1 h2
  rw [encInt_eq n h1 h2]
  unfold intL
  rw [decR_enc 9 true (zig n) rest 9 (by rw [pow9]; omega) (by decide) (by decide) (by simp)]
  simp only [Option.bind_some]
  rw [if_neg (by omega), unzig_zig]
theorem enc_intL (l : List UInt8) (n : Int) (c : Nat) (h : intL l = some (n, c)) : -maxInt ≤ n ∧ n ≤ maxInt ∧ l.take c = encInt n ∧ c = (encInt n).length ∧ c ≤ l.length := by
  unfold intL at h
  cases hd : decR 9 true l with
  | none => rw [hd] at h; simp at h
  | some p =>
    obtain ⟨v, c'⟩ := p
    rw [hd] at h
    simp only [Option.bind_some] at h
    by_cases hb : v = big63
    · rw [if_pos hb] at h; simp at h
    · rw [if_neg hb] at h
      simp only [Option.some.injEq, Prod.mk.injEq] at h
      obtain ⟨rfl, rfl⟩ := h
      obtain ⟨h2, h3, h4, _⟩ := enc_decR 9 true l v c' hd
      rw [pow9] at h4
      have r1 : -maxInt ≤ unzig v := by unfold unzig maxInt; unfold big63 at *; split <;> omega
      have r2 : unzig v ≤ maxInt := by unfold unzig maxInt; unfold big63 at *; split <;> omega
      have e := encInt_eq (unzig v) r1 r2
      rw [zig_unzig] at e
      refine ⟨r1, r2, by rw [h2, e], by rw [h3, e], ?_⟩
      have : (l.take c').length = c' := by rw [h2, ← h3]
      rw [List.length_take] at this
      omega

/-! ### embedded encodings -/
theorem ba_append (a b : ByteArray) : (a ++ b).data.toList = a.data.toList ++ b.data.toList := by simp
theorem ba_size (a : ByteArray) : a.data.toList.length = a.size := rfl
theorem ba_ext {a b : ByteArray} (h : a.data.toList = b.data.toList) : a = b := by
  cases a; cases b; simp at h; subst h; rfl
theorem ba_mk (l : List UInt8) : (⟨l.toArray⟩ : ByteArray).data.toList = l := rfl
theorem ba_mk_size (l : List UInt8) : (⟨l.toArray⟩ : ByteArray).size = l.length := rfl
theorem ba_append_size (a b : ByteArray) : (a ++ b).size = a.size + b.size := by simp
theorem ba_extract (s : ByteArray) (a b : Nat) : (s.extract a b).data.toList = (s.data.toList.drop a).take (b - a) := by simp
theorem intAt_at (s : ByteArray) (A : Nat) (n : Int) (rest : List UInt8) (h1 : -maxInt ≤ n) (h2 : n ≤ maxInt) (hA : A ≤ s.size) (h : s.data.toList.drop A = encInt n ++ rest) : intAt s A = (n, (A : Int) + (encInt n).length, 0) := by
  unfold intAt
  rw [if_neg (by omega), Int.toNat_natCast, h, intL_enc n h1 h2]
theorem intAt_emb (p q : ByteArray) (n : Int) (h1 : -maxInt ≤ n) (h2 : n ≤ maxInt) : intAt (p ++ ⟨(encInt n).toArray⟩ ++ q) p.size = (n, (p.size : Int) + (encInt n).length, 0) := by
  refine intAt_at _ _ n q.data.toList h1 h2 (by simp; omega) ?_
  rw [ba_append, ba_append, ← ba_size, List.append_assoc, List.drop_append, List.drop_length, Nat.sub_self]
  rfl
theorem strAt_at (s t : ByteArray) (A : Nat) (rest : List UInt8) (ht : t.size ≤ 65536) (hA : A ≤ s.size) (h : s.data.toList.drop A = encInt t.size ++ (t.data.toList ++ rest)) : strAt s A = (t, (A : Int) + ((encInt t.size).length + t.size : Nat), 0) := by
  have hi := intAt_at s A t.size _ (by unfold maxInt; omega) (by unfold maxInt; omega) hA h
  have hlen := congrArg List.length h
  simp only [List.length_drop, List.length_append, ba_size] at hlen
  unfold strAt
  rw [hi]
  simp only
  rw [if_neg (by decide), if_neg (by omega)]
  have e : s.extract ((A : Int) + (encInt t.size).length).toNat ((A : Int) + (encInt t.size).length + t.size).toNat = t := by
    apply ba_ext
    rw [show ((A : Int) + (encInt t.size).length).toNat = A + (encInt t.size).length by omega, show ((A : Int) + (encInt t.size).length + t.size).toNat = A + (encInt t.size).length + t.size by omega, ba_extract, ← List.drop_drop, h]
    rw [List.drop_append, List.drop_length, Nat.sub_self, List.drop_zero, List.nil_append, show A + (encInt t.size).length + t.size - (A + (encInt t.size).length) = t.data.toList.length by rw [ba_size]; omega, List.take_left']
    rfl
  rw [e]
  simp only [Prod.mk.injEq, true_and, and_true]
  omega
theorem putStr_val (t : ByteArray) (h : t.size ≤ 65536) : putStr t = (⟨(encInt t.size).toArray⟩ ++ t, 0) := by unfold putStr; rw [if_neg (by omega)]
theorem putInt_val (n : Int) (h1 : -maxInt ≤ n) (h2 : n ≤ maxInt) : putInt n = (⟨(encInt n).toArray⟩, 0) := by unfold putInt; rw [if_neg (by omega)]
theorem strAt_emb (p q t : ByteArray) (ht : t.size ≤ 65536) : strAt (p ++ (⟨(encInt t.size).toArray⟩ ++ t) ++ q) p.size = (t, (p.size : Int) + ((encInt t.size).length + t.size : Nat), 0) := by
  refine strAt_at _ t _ q.data.toList ht (by simp; omega) ?_
  rw [ba_append, ba_append, ba_append, ← ba_size p, List.append_assoc, List.drop_append, List.drop_length, Nat.sub_self]
  simp
end Go.Proofs.YtkpgadjhcnkadaaDoor
namespace Go.Proofs.YtkpgadjhcnkadaaDoor

/-- What one operation of a delta adds, where it ends, and the error (0: none). -/
def opAt (old d : ByteArray) (at_ : Int) : ByteArray × Int × Int :=
  if (intAt d at_).2.2 ≠ 0 then (.empty, 0, 10)
  else if (intAt d at_).1 < 0 then (.empty, 0, 190)
  else if (intAt d at_).1 = 0 then
    if (strAt d (intAt d at_).2.1).2.2 ≠ 0 then (.empty, 0, 10)
    else if (strAt d (intAt d at_).2.1).1.size = 0 then (.empty, 0, 190)
    else ((strAt d (intAt d at_).2.1).1, (strAt d (intAt d at_).2.1).2.1, 0)
  else if (intAt d (intAt d at_).2.1).2.2 ≠ 0 then (.empty, 0, 10)
  else if (intAt d (intAt d at_).2.1).1 < 0 ∨ (old.size : Int) < (intAt d (intAt d at_).2.1).1 ∨ (old.size : Int) - (intAt d (intAt d at_).2.1).1 < (intAt d at_).1 then (.empty, 0, 190)
  else (old.extract (intAt d (intAt d at_).2.1).1.toNat ((intAt d (intAt d at_).2.1).1 + (intAt d at_).1).toNat, (intAt d (intAt d at_).2.1).2.1, 0)
/-- The operations from an offset on; the error, and what is there in all. -/
def applyGo (old d : ByteArray) : Nat → Int → List UInt8 → Int × List UInt8
  | 0, _, out => (0, out)
  | k + 1, at_, out =>
    if at_ < d.size then
      if (opAt old d at_).2.2 ≠ 0 then ((opAt old d at_).2.2, [])
      else if 8192 < out.length + (opAt old d at_).1.size then (190, [])
      else applyGo old d k (opAt old d at_).2.1 (out ++ (opAt old d at_).1.data.toList)
    else (0, out)
/-- What follows the first number. -/
def applyRest (old d : ByteArray) (p : Int × Int × Int) : ByteArray × Int :=
  if p.2.2 ≠ 0 then (.empty, 10)
  else if (applyGo old d d.size p.2.1 []).1 ≠ 0 then (.empty, (applyGo old d d.size p.2.1 []).1)
  else if sumB ⟨(applyGo old d d.size p.2.1 []).2.toArray⟩ ≠ p.1 then (.empty, 190)
  else (⟨(applyGo old d d.size p.2.1 []).2.toArray⟩, 0)
def applyF (old d : ByteArray) : ByteArray × Int :=
  if 8192 < old.size then (.empty, 190)
  else if (intAt d 0).2.2 ≠ 0 then (.empty, 10)
  else if (intAt d 0).1 ≠ sumB old then (.empty, 190)
  else applyRest old d (intAt d (intAt d 0).2.1)
/-! Each way, as an equation. -/
theorem opAt_num {old d : ByteArray} {a n nx e : Int} (h : intAt d a = (n, nx, e)) (he : e ≠ 0) : opAt old d a = (.empty, 0, 10) := by unfold opAt; rw [h, if_pos he]
theorem opAt_neg {old d : ByteArray} {a n nx : Int} (h : intAt d a = (n, nx, 0)) (hn : n < 0) : opAt old d a = (.empty, 0, 190) := by unfold opAt; rw [h, if_neg (by simp), if_pos hn]
theorem opAt_ins {old d : ByteArray} {a nx : Int} (h : intAt d a = (0, nx, 0)) : opAt old d a = if (strAt d nx).2.2 ≠ 0 then (.empty, 0, 10) else if (strAt d nx).1.size = 0 then (.empty, 0, 190) else ((strAt d nx).1, (strAt d nx).2.1, 0) := by
  unfold opAt; rw [h, if_neg (by simp), if_neg (by simp), if_pos rfl]
theorem opAt_copy {old d : ByteArray} {a n nx : Int} (h : intAt d a = (n, nx, 0)) (hn : 0 < n) : opAt old d a = if (intAt d nx).2.2 ≠ 0 then (.empty, 0, 10) else if (intAt d nx).1 < 0 ∨ (old.size : Int) < (intAt d nx).1 ∨ (old.size : Int) - (intAt d nx).1 < n then (.empty, 0, 190) else (old.extract (intAt d nx).1.toNat ((intAt d nx).1 + n).toNat, (intAt d nx).2.1, 0) := by
  unfold opAt; rw [h, if_neg (by simp), if_neg (by simp; omega), if_neg (by simp; omega)]
theorem applyGo_done {old d : ByteArray} {k : Nat} {a : Int} {out : List UInt8} (h : (d.size : Int) ≤ a) : applyGo old d k a out = (0, out) := by
  cases k with
  | zero => rfl
  | succ k => unfold applyGo; rw [if_neg (by omega)]
theorem applyGo_bad {old d : ByteArray} {k : Nat} {a nx er : Int} {s : ByteArray} {out : List UInt8} (h : a < (d.size : Int)) (hk : (d.size : Int) ≤ k + a) (ho : opAt old d a = (s, nx, er)) (he : er ≠ 0) : applyGo old d k a out = (er, []) := by
  cases k with
  | zero => omega
  | succ k => unfold applyGo; rw [if_pos h, ho, if_pos he]
theorem applyGo_long {old d : ByteArray} {k : Nat} {a nx : Int} {s : ByteArray} {out : List UInt8} (h : a < (d.size : Int)) (hk : (d.size : Int) ≤ k + a) (ho : opAt old d a = (s, nx, 0)) (he : 8192 < out.length + s.size) : applyGo old d k a out = (190, []) := by
  cases k with
  | zero => omega
  | succ k => unfold applyGo; rw [if_pos h, ho, if_neg (by simp), if_pos he]
theorem applyGo_step {old d : ByteArray} {k : Nat} {a nx : Int} {s : ByteArray} {out : List UInt8} (h : a < (d.size : Int)) (hk : (d.size : Int) ≤ k + a) (ho : opAt old d a = (s, nx, 0)) (he : ¬ 8192 < out.length + s.size) : ∃ j, k = j + 1 ∧ applyGo old d k a out = applyGo old d j nx (out ++ s.data.toList) := by
  cases k with
  | zero => omega
  | succ k => exact ⟨k, rfl, by conv => lhs; unfold applyGo; rw [if_pos h, ho, if_neg (by simp), if_neg he]⟩
end Go.Proofs.YtkpgadjhcnkadaaDoor
namespace Go.Proofs.YtkpgadjhcnkadaaDoor

theorem bitsN_xor (k x y : Nat) : bitsN k (x ^^^ y) = bitsN k x ^^^ bitsN k y := by
  induction k with
  | zero => rfl
  | succ k ih => rw [bitsN, ih, bit1_xor]; rfl
theorem bitsN_add (j k x : Nat) : bitsN (j + k) x = bitsN j (bitsN k x) := by
  induction j with
  | zero => rw [Nat.zero_add]; rfl
  | succ j ih => rw [Nat.add_right_comm, bitsN, ih]; rfl
theorem bitsN_shift (i x : Nat) : bitsN i (x * 2 ^ i) = x := by
  induction i with
  | zero => simp [bitsN]
  | succ i ih => rw [bitsN_add i 1, show bitsN 1 (x * 2 ^ (i + 1)) = bit1 (x * 2 ^ (i + 1)) from rfl, Nat.pow_succ, ← Nat.mul_assoc, bit1_even, ih]
theorem u8_xor_toNat (a b : UInt8) : (a ^^^ b).toNat = a.toNat ^^^ b.toNat := UInt8.toNat_xor a b
theorem crcStep_xor (x y : Nat) (a b : UInt8) : crcStep (x ^^^ y) (a ^^^ b) = crcStep x a ^^^ crcStep y b := by
  rw [crcStep_bits, crcStep_bits, crcStep_bits, u8_xor_toNat, ← bitsN_xor]
  congr 1
  ac_rfl
theorem crcL_cons (b : UInt8) (l : List UInt8) (r : Nat) : crcL (b :: l) r = crcL l (crcStep r b) := rfl
theorem crcL_xor3 : ∀ (a b c : List UInt8) (r s t : Nat), a.length = b.length → b.length = c.length →
    crcL (List.zipWith (· ^^^ ·) (List.zipWith (· ^^^ ·) a b) c) (r ^^^ s ^^^ t) = crcL a r ^^^ crcL b s ^^^ crcL c t
  | [], [], [], r, s, t, _, _ => rfl
  | a :: as, b :: bs, c :: cs, r, s, t, h1, h2 => by
    simp only [List.zipWith_cons_cons, crcL_cons]
    rw [crcStep_xor, crcStep_xor]
    exact crcL_xor3 as bs cs _ _ _ (by simpa using h1) (by simpa using h2)
theorem sumL_eq (l : List UInt8) : sumL l = 4294967295 ^^^ crcL l 4294967295 := by
  unfold sumL; rw [not32 _ (crcL_lt _ _ (by decide))]
theorem sumL_lt (l : List UInt8) : sumL l < 4294967296 := by unfold sumL; omega
theorem sumL_xor3 (a b c : List UInt8) (h1 : a.length = b.length) (h2 : b.length = c.length) :
    sumL (List.zipWith (· ^^^ ·) (List.zipWith (· ^^^ ·) a b) c) = sumL a ^^^ sumL b ^^^ sumL c := by
  rw [sumL_eq, sumL_eq, sumL_eq, sumL_eq]
  have e : (4294967295 : Nat) = 4294967295 ^^^ 4294967295 ^^^ 4294967295 := by decide
  have h := crcL_xor3 a b c 4294967295 4294967295 4294967295 h1 h2
  rw [← e] at h
  rw [h]
  conv => lhs; rw [e]
  ac_rfl

/-! ### bursts -/
theorem bit1_inj0 (x : Nat) (hx : x < 4294967296) (h : bit1 x = 0) : x = 0 := by
  unfold bit1 at h
  split at h
  · exfalso
    have hb := congrArg (Nat.testBit · 31) h
    simp only [Nat.zero_testBit, Nat.testBit_xor] at hb
    have h1 : (x / 2).testBit 31 = false := Nat.testBit_lt_two_pow (by omega)
    rw [h1] at hb
    revert hb
    decide
  · omega
theorem bitsN_inj0 (k x : Nat) (hx : x < 4294967296) (h : bitsN k x = 0) : x = 0 := by
  induction k with
  | zero => exact h
  | succ k ih => exact ih (bit1_inj0 _ (bitsN_lt k x hx) h)
theorem bitsN_zero (k : Nat) : bitsN k 0 = 0 := by
  induction k with
  | zero => rfl
  | succ k ih => rw [bitsN, ih]; rfl
theorem crcL_reg (l : List UInt8) : ∀ (x y : Nat), crcL l (x ^^^ y) = crcL l x ^^^ bitsN (8 * l.length) y := by
  induction l with
  | nil => intro x y; rfl
  | cons b l ih =>
    intro x y
    rw [crcL_cons, crcL_cons, crcStep_bits, crcStep_bits]
    rw [show x ^^^ y ^^^ b.toNat = (x ^^^ b.toNat) ^^^ y by ac_rfl, bitsN_xor, ih, List.length_cons, show 8 * (l.length + 1) = 8 * l.length + 8 by omega, bitsN_add]
theorem flip_crc : ∀ (l : List UInt8) (k r : Nat), k < 8 * l.length →
    crcL (l.set (k / 8) (l.getD (k / 8) 0 ^^^ UInt8.ofNat (2 ^ (k % 8)))) r = crcL l r ^^^ bitsN (8 * l.length - k) 1
  | [], k, r, h => absurd h (by simp)
  | b :: l, k, r, h => by
    by_cases hk : k < 8
    · rw [show k / 8 = 0 by omega, show k % 8 = k by omega]
      simp only [List.set_cons_zero, List.getD_cons_zero, crcL_cons]
      have hp : 2 ^ k < 256 := Nat.lt_of_lt_of_le (Nat.pow_lt_pow_right (by decide) hk) (by decide)
      rw [crcStep_bits, u8_xor_toNat, ofNat_toNat _ hp, show r ^^^ (b.toNat ^^^ 2 ^ k) = (r ^^^ b.toNat) ^^^ 2 ^ k by ac_rfl, bitsN_xor, crcL_reg, ← crcStep_bits]
      congr 1
      rw [List.length_cons, show 8 * (l.length + 1) - k = 8 * l.length + (8 - k) by omega, bitsN_add]
      congr 1
      rw [show (8 : Nat) = (8 - k) + k by omega, bitsN_add, show 8 - k + k - k = 8 - k by omega]
      congr 1
      have := bitsN_shift k 1
      rwa [Nat.one_mul] at this
    · obtain ⟨j, rfl⟩ : ∃ j, k = j + 8 := ⟨k - 8, by omega⟩
      rw [show (j + 8) / 8 = j / 8 + 1 by omega, show (j + 8) % 8 = j % 8 by omega]
      simp only [List.set_cons_succ, List.getD_cons_succ, crcL_cons]
      rw [flip_crc l j _ (by simp at h; omega), List.length_cons, show 8 * (l.length + 1) - (j + 8) = 8 * l.length - j by omega]
/-- Behind i steps of the loop: the bits of the pattern below i have been flipped. -/
theorem burst_step (l0 l : List UInt8) (T M i from_ r : Nat) (hl : l.length = l0.length) (hT : T = 8 * l0.length) (hi : from_ + i < T)
    (h : crcL l r = crcL l0 r ^^^ bitsN (T - from_) M) :
    crcL (l.set ((from_ + i) / 8) (l.getD ((from_ + i) / 8) 0 ^^^ UInt8.ofNat (2 ^ ((from_ + i) % 8)))) r = crcL l0 r ^^^ bitsN (T - from_) (M ^^^ 2 ^ i) := by
  rw [flip_crc l (from_ + i) r (by omega), h, bitsN_xor, Nat.xor_assoc]
  congr 2
  rw [show T - from_ = (T - from_ - i) + i by omega, bitsN_add _ i, hl, ← hT, show T - (from_ + i) = T - from_ - i by omega]
  congr 1
  have := bitsN_shift i 1
  rw [Nat.one_mul] at this
  exact this.symm
theorem sumL_differs (l0 l : List UInt8) (k M : Nat) (hM : M < 4294967296) (h : crcL l 4294967295 = crcL l0 4294967295 ^^^ bitsN k M) : sumL l = sumL l0 ↔ M = 0 := by
  have h1 := crcL_lt l 4294967295 (by decide)
  have h2 := crcL_lt l0 4294967295 (by decide)
  constructor
  · intro e
    have e2 : crcL l 4294967295 = crcL l0 4294967295 := by unfold sumL at e; omega
    rw [e2] at h
    have h3 : bitsN k M = 0 := by
      have := congrArg (crcL l0 4294967295 ^^^ ·) h
      simp only [← Nat.xor_assoc, Nat.xor_self, Nat.zero_xor] at this
      exact this.symm
    exact bitsN_inj0 k M hM h3
  · rintro rfl
    rw [bitsN_zero, Nat.xor_zero] at h
    unfold sumL; rw [h]
end Go.Proofs.YtkpgadjhcnkadaaDoor
