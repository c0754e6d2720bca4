/- wire.Sum, wire.Int, wire.String: what they compute. -/
import Derived.Test.YtkpgadjhcnkadaaDoorBase
import Derived.WalkSpells
import Derived.WalkLawsBesides
namespace Go.Proofs.YtkpgadjhcnkadaaDoor
open Go.RowKit

/-- The table of the checksum lies in block 0, as the program's text lays it. -/
def NibCells (w : World) : Prop := ∀ i, i < 16 → w.cell? ⟨0, i, none⟩ = some (.int .u32 (nibAt i : Nat))

set_option maxHeartbeats 400000 in
theorem sum_any (s : ByteArray) (w : World) (hs : s.size ≤ 9223372036854775807) (hn : NibCells w) :
    Calls Tryd.prog 34 #[.string s] w fun e w' => e = .returned (.int .i64 (sumB s)) ∧ w = w' := by
  have Hn := Lib.hid hn
  clear hn
  go_enter Tryd.func34, Tryd.ntmps34
  go_wp2
  go_loop [3, 4, 7] (fun r _ j => ∃ k x : Nat, k ≤ s.size ∧ j = .int .i64 k ∧ r = .int .u32 x ∧ Hid (x = crcL (s.data.toList.take k) 4294967295)) (fun _ _ j => s.size - (intOf j).toNat)
  case atStart => exact ⟨0, 4294967295, Nat.zero_le _, rfl, rfl, Lib.hid rfl⟩
  case round =>
    obtain ⟨k, x, hk, rfl, rfl, hx⟩ := hrel
    have hxlt : x < 4294967296 := by rw [hx.out]; exact crcL_lt _ _ (by decide)
    by_cases hlt : k < s.size
    · have hb : s[k].toNat < 256 := s[k].toNat_lt
      obtain ⟨x1, hx1⟩ : ∃ x1, x ^^^ s[k].toNat = x1 := ⟨_, rfl⟩
      have hx1lt : x1 < 4294967296 := by rw [← hx1]; exact Nat.xor_lt_two_pow (n := 32) hxlt (by omega)
      obtain ⟨x2, hx2⟩ : ∃ x2, nib x1 = x2 := ⟨_, rfl⟩
      have hx2lt : x2 < 4294967296 := by rw [← hx2]; exact nib_lt _ hx1lt
      obtain ⟨x3, hx3⟩ : ∃ x3, nib x2 = x3 := ⟨_, rfl⟩
      have e1 : bits BinOp.xor IntKind.u32 (x : Int) (s[k].toNat : Int) = (x1 : Int) := by
        rw [u32_xor_nat _ _ hxlt (by omega), hx1]
      have e2 : ∀ y : Nat, y < 4294967296 → bits BinOp.and IntKind.u32 (y : Int) 15 = ((y % 16 : Nat) : Int) := fun y hy => by
        have := u32_and_nat y 15 hy (by decide); rw [show (15 : Int) = ((15 : Nat) : Int) from rfl, this, Nat.and_two_pow_sub_one_eq_mod y 4]
      have e2a := e2 x1 hx1lt
      have e2b := e2 x2 hx2lt
      clear e2
      have c1 := Hn.out (x1 % 16) (by omega)
      have c2 := Hn.out (x2 % 16) (by omega)
      have e3 : bits BinOp.xor IntKind.u32 ((x1 : Int) / 16) ((nibAt (x1 % 16) : Nat) : Int) = (x2 : Int) := by
        rw [show (x1 : Int) / 16 = ((x1 / 16 : Nat) : Int) by omega, u32_xor_nat _ _ (by omega) (nibTab_lt _), ← hx2]; rfl
      have e4 : bits BinOp.xor IntKind.u32 ((x2 : Int) / 16) ((nibAt (x2 % 16) : Nat) : Int) = (x3 : Int) := by
        rw [show (x2 : Int) / 16 = ((x2 / 16 : Nat) : Int) by omega, u32_xor_nat _ _ (by omega) (nibTab_lt _), ← hx3]; rfl
      have hnew : Hid (x3 = crcL (s.data.toList.take (k + 1)) 4294967295) := Lib.hid (by
        rw [take_snoc s k hlt, crcL_snoc, ← hx.out, ← hx3, ← hx2, ← hx1]; rfl)
      clear hx1 hx2 hx3
      go_wp2
      go_round
      case rel => exact ⟨k + 1, x3, by omega, by go_num, rfl, hnew⟩
      case measure => simp [intOf]; omega
    · have e : wrap64 (bits BinOp.xor IntKind.u32 IntKind.u32.max (x : Int)) = ((4294967295 - x : Nat) : Int) := by
        rw [show IntKind.u32.max = ((4294967295 : Nat) : Int) by decide, u32_xor_nat _ _ (by decide) hxlt, not32 x hxlt]
        unfold wrap64; omega
      have hfin : ((4294967295 - x : Nat) : Int) = sumB s := by
        rw [hx.out, List.take_of_length_le (by simp; omega)]; rfl
      have He := Lib.hid (e.trans hfin)
      clear e hfin
      go_wp2
      go_ret
      exact ⟨congrArg (fun z => Ending.returned (.int .i64 z)) He.out, rfl⟩

/-! ### Int -/
theorem decF_intL (l : List UInt8) : decF 9 l 0 0 = decR 9 true l := by
  rw [decF_R]
  cases h : decR 9 true l <;> simp [h]
theorem intAt_none (s : ByteArray) (A : Nat) (h : A ≤ s.size) (hd : decF 9 (s.data.toList.drop A) 0 0 = none) : intAt s A = (0, 0, 10) := by
  unfold intAt
  rw [if_neg (by omega), Int.toNat_natCast]
  unfold intL
  rw [← decF_intL, hd]
  rfl
theorem intAt_big (s : ByteArray) (A c : Nat) (h : A ≤ s.size) (hd : decF 9 (s.data.toList.drop A) 0 0 = some (big63, c)) : intAt s A = (0, 0, 10) := by
  unfold intAt
  rw [if_neg (by omega), Int.toNat_natCast]
  unfold intL
  rw [← decF_intL, hd]
  simp
theorem intAt_some (s : ByteArray) (A z c : Nat) (h : A ≤ s.size) (hd : decF 9 (s.data.toList.drop A) 0 0 = some (z, c)) (hz : z ≠ big63) : intAt s A = (unzig z, (A : Int) + c, 0) := by
  unfold intAt
  rw [if_neg (by omega), Int.toNat_natCast]
  unfold intL
  rw [← decF_intL, hd]
  simp [hz]
theorem drop_cons (s : ByteArray) (k : Nat) (h : k < s.size) : s.data.toList.drop k = s[k] :: s.data.toList.drop (k + 1) := by
  rw [List.drop_eq_getElem_cons (by simpa using h)]; rfl

theorem ret3_of {a b c : Int} {p : Int × Int × Int} (h : p = (a, b, c)) : Ending.returned (.tuple #[.int .i64 a, .int .i64 b, .int .i64 c]) = .returned (.tuple #[.int .i64 p.1, .int .i64 p.2.1, .int .i64 p.2.2]) := by rw [h]
theorem int_zero {s : ByteArray} {A k z1 m : Nat} {b : UInt8} {l : List UInt8} (hA : A ≤ s.size) (HD : Hid ((if 128 ≤ b.toNat then decF m l (k + 1) z1 else if b.toNat = 0 ∧ 0 < k then none else some (z1, k + 1)) = decF 9 (s.data.toList.drop A) 0 0))
    (_h1 : b.toNat < 128) (h2 : b.toNat = 0) (h3 : 0 < k) : intAt s A = (0, 0, 10) := by
  have h := HD.out
  rw [if_neg (by omega), if_pos ⟨h2, h3⟩] at h
  exact intAt_none s A hA h.symm
theorem int_big {s : ByteArray} {A k z1 m : Nat} {b : UInt8} {l : List UInt8} (hA : A ≤ s.size) (HD : Hid ((if 128 ≤ b.toNat then decF m l (k + 1) z1 else if b.toNat = 0 ∧ 0 < k then none else some (z1, k + 1)) = decF 9 (s.data.toList.drop A) 0 0))
    (Hb : Hid (unzig z1 < -4611686018427387903 ↔ z1 = big63)) (h1 : b.toNat < 128) (h2 : b.toNat = 0 → k = 0) (h3 : unzig z1 < -4611686018427387903) : intAt s A = (0, 0, 10) := by
  have h := HD.out
  rw [if_neg (by omega), if_neg (by omega)] at h
  rw [Hb.out.1 h3] at h
  exact intAt_big s A _ hA h.symm
theorem int_ok {s : ByteArray} {A k z1 m : Nat} {b : UInt8} {l : List UInt8} (hA : A ≤ s.size) (HD : Hid ((if 128 ≤ b.toNat then decF m l (k + 1) z1 else if b.toNat = 0 ∧ 0 < k then none else some (z1, k + 1)) = decF 9 (s.data.toList.drop A) 0 0))
    (Hb : Hid (unzig z1 < -4611686018427387903 ↔ z1 = big63)) (h1 : b.toNat < 128) (h2 : b.toNat = 0 → k = 0) (h3 : -4611686018427387903 ≤ unzig z1) : intAt s A = (unzig z1, (A : Int) + k + 1, 0) := by
  have h := HD.out
  rw [if_neg (by omega), if_neg (by omega)] at h
  rw [intAt_some s A z1 (k + 1) hA h.symm (fun e => by have := Hb.out.2 e; omega)]
  simp only [Prod.mk.injEq, true_and, and_true]
  omega
theorem or_add (z y j : Nat) (h : z < 2 ^ j) : z ||| y * 2 ^ j = z + y * 2 ^ j := by
  have := Nat.two_pow_add_eq_or_of_lt h y
  rw [Nat.or_comm, Nat.mul_comm y, ← this]; omega
theorem ofInt64 (a : Nat) (ha : a < 9223372036854775808) : (BitVec.ofInt 64 (a : Int)).toNat = a := by
  rw [BitVec.ofInt_natCast, BitVec.toNat_ofNat]; exact Nat.mod_eq_of_lt (by omega)
theorem wrap_i64' (n : Int) : IntKind.i64.wrap n = (n + 9223372036854775808) % 18446744073709551616 - 9223372036854775808 := by
  simp [IntKind.wrap, IntKind.bits, IntKind.signed]
  omega
theorem xor_unzig (z : Nat) (h : z < 9223372036854775808) : bits BinOp.xor IntKind.i64 ((z : Int) / 2) (-((z : Int) % 2)) = unzig z := by
  have e : (z : Int) / 2 = ((z / 2 : Nat) : Int) := by omega
  unfold unzig
  by_cases h2 : z % 2 = 1
  · rw [if_pos h2, e, show -((z : Int) % 2) = -1 by omega]
    show IntKind.i64.wrap ((BitVec.ofInt 64 ((z / 2 : Nat) : Int) ^^^ BitVec.ofInt 64 (-1)).toNat : Int) = _
    rw [show BitVec.ofInt 64 (-1) = BitVec.allOnes 64 by decide, BitVec.xor_allOnes, BitVec.toNat_not, ofInt64 _ (by omega), wrap_i64']
    omega
  · rw [if_neg h2, e, show -((z : Int) % 2) = 0 by omega]
    show IntKind.i64.wrap ((BitVec.ofInt 64 ((z / 2 : Nat) : Int) ^^^ BitVec.ofInt 64 0).toNat : Int) = _
    rw [show BitVec.ofInt 64 0 = 0#64 by decide, BitVec.xor_zero, ofInt64 _ (by omega), wrap_i64']
    omega
theorem pow_step (z y k : Nat) (hz : z < 2 ^ (7 * k)) (hy : y < 128) : z + y * 2 ^ (7 * k) < 2 ^ (7 * (k + 1)) := by
  rw [show 7 * (k + 1) = 7 * k + 7 by omega, Nat.pow_add]
  have : y * 2 ^ (7 * k) ≤ 127 * 2 ^ (7 * k) := Nat.mul_le_mul_right _ (by omega)
  omega
theorem pow_63 (k : Nat) (h : k ≤ 9) : 2 ^ (7 * k) ≤ 9223372036854775808 := by
  have := Nat.pow_le_pow_right (n := 2) (by decide) (show 7 * k ≤ 63 by omega)
  simpa using this
theorem unzig_big (z : Nat) (h : z < 9223372036854775808) : unzig z < -4611686018427387903 ↔ z = big63 := by
  unfold unzig big63; split <;> omega

set_option maxRecDepth 100000 in
set_option maxHeartbeats 800000 in
theorem int_any (s : ByteArray) (at_ : Int) (w : World) (hs : s.size ≤ 4611686018427387904) :
    Calls Tryd.prog 63 #[.string s, .int .i64 at_] w fun e w' => e = .returned (.tuple #[.int .i64 (intAt s at_).1, .int .i64 (intAt s at_).2.1, .int .i64 (intAt s at_).2.2]) ∧ w = w' := by
  by_cases h0 : at_ < 0
  · have d1 : decide (at_ < 0) = true := by simpa using h0
    go_enter Tryd.func63, Tryd.ntmps63
    go_wp2
    go_ret3
    refine ⟨?_, rfl⟩
    unfold intAt; rw [if_pos (by omega)]; rfl
  obtain ⟨A, rfl⟩ := Int.eq_ofNat_of_zero_le (by omega : 0 ≤ at_)
  have d1 : decide ((A : Int) < 0) = false := by simp
  by_cases h1 : s.size < A
  · have d2 : decide (s.size < A) = true := by simpa using h1
    go_enter Tryd.func63, Tryd.ntmps63
    go_wp2
    go_ret3
    refine ⟨?_, rfl⟩
    unfold intAt; rw [if_pos (by omega)]; rfl
  have d2 : decide (s.size < A) = false := by simpa using h1
  go_enter Tryd.func63, Tryd.ntmps63
  go_wp2
  go_loop [7, 8, 9, 10, 19] (fun v7 _ _ _ v19 => ∃ k z : Nat, k ≤ 9 ∧ v19 = .int .i64 k ∧ v7 = .int .u64 z ∧ Hid (z < 2 ^ (7 * k) ∧ decF (9 - k) (s.data.toList.drop (A + k)) k z = decF 9 (s.data.toList.drop A) 0 0)) (fun _ _ _ _ v19 => 9 - (intOf v19).toNat)
  case atStart => exact ⟨0, 0, by omega, rfl, rfl, Lib.hid ⟨by simp, rfl⟩⟩
  case round =>
    obtain ⟨k, z, hk, rfl, rfl, hz⟩ := hrel
    by_cases hk9 : k < 9
    · by_cases hlt : A + k < s.size
      · have hb : s[A + k].toNat < 256 := s[A + k].toNat_lt
        obtain ⟨b, hbb⟩ : ∃ b : UInt8, s[A + k] = b := ⟨_, rfl⟩
        have hdr := drop_cons s (A + k) hlt
        rw [hbb] at hdr hb
        obtain ⟨y, hy⟩ : ∃ y, b.toNat % 128 = y := ⟨_, rfl⟩
        have hylt : y < 128 := by omega
        obtain ⟨z1, hz1⟩ : ∃ z1, z + y * 2 ^ (7 * k) = z1 := ⟨_, rfl⟩
        have hz1k : z1 < 2 ^ (7 * (k + 1)) := by rw [← hz1]; exact pow_step z y k hz.out.1 hylt
        have hz1lt : z1 < 9223372036854775808 := Nat.lt_of_lt_of_le hz1k (pow_63 (k + 1) (by omega))
        have hxlt : y * 2 ^ (7 * k) < 9223372036854775808 := by omega
        have e1 : bits BinOp.and IntKind.u8 (b.toNat : Int) 127 = (y : Int) := by
          rw [show (127 : Int) = ((127 : Nat) : Int) from rfl, u8_and_nat _ _ hb (by decide), Nat.and_two_pow_sub_one_eq_mod _ 7, ← hy]
        have e2 : IntKind.u64.wrap ((y : Int) * 2 ^ (7 * k)) = ((y * 2 ^ (7 * k) : Nat) : Int) := by
          rw [wrap_u64', show (y : Int) * 2 ^ (7 * k) = ((y * 2 ^ (7 * k) : Nat) : Int) by simp]; omega
        obtain ⟨x, hx⟩ : ∃ x, y * 2 ^ (7 * k) = x := ⟨_, rfl⟩
        rw [hx] at e2 hxlt
        have e3 : bits BinOp.or IntKind.u64 (z : Int) (x : Int) = (z1 : Int) := by
          rw [u64_or_nat _ _ (by omega) (by omega), ← hx, or_add z y _ hz.out.1, hz1]
        have e4 : bits BinOp.and IntKind.u64 (z1 : Int) 1 = (z1 : Int) % 2 := by
          rw [show (1 : Int) = ((1 : Nat) : Int) from rfl, u64_and_nat _ _ (by omega) (by decide), Nat.and_one_is_mod]; omega
        have e5 := xor_unzig z1 hz1lt
        obtain ⟨m, hm⟩ : ∃ m, 9 - k = m + 1 := ⟨8 - k, by omega⟩
        have hD := hz.out.2
        rw [hm, hdr] at hD
        conv at hD => lhs; unfold decF
        rw [hy, hz1] at hD
        have HD := Lib.hid hD
        have Hm := Lib.hid hm
        have Hbig := Lib.hid (unzig_big z1 hz1lt)
        clear hD hm hz1 hx hy hdr
        go_wp2
        · go_round
          case rel =>
            refine ⟨k + 1, z1, by omega, by go_num, rfl, Lib.hid ⟨hz1k, ?_⟩⟩
            have h := HD.out
            rw [if_pos (by omega)] at h
            rw [show 9 - (k + 1) = m by have := Hm.out; omega]
            exact h
          case measure => simp [intOf]; omega
        · have h3 : unzig z1 < -4611686018427387903 := by assumption
          have hr := int_big (s := s) (A := A) (by omega) HD Hbig (by omega) (fun _ => by omega) h3
          go_ret3
          exact ⟨ret3_of hr, rfl⟩
        · have h3 : -4611686018427387903 ≤ unzig z1 := by assumption
          have hk0 : k = 0 := by assumption
          have hr := int_ok (s := s) (A := A) (by omega) HD Hbig (by omega) (fun _ => by omega) h3
          go_ret3
          refine ⟨ret3_of ?_, rfl⟩
          rw [hr]; subst hk0; simp
        · have hr := int_zero (s := s) (A := A) (by omega) HD (by omega) (by omega) (by omega)
          go_ret3
          exact ⟨ret3_of hr, rfl⟩
        · have h3 : unzig z1 < -4611686018427387903 := by assumption
          have hr := int_big (s := s) (A := A) (by omega) HD Hbig (by omega) (fun _ => by omega) h3
          go_ret3
          exact ⟨ret3_of hr, rfl⟩
        · have h3 : -4611686018427387903 ≤ unzig z1 := by assumption
          have hr := int_ok (s := s) (A := A) (by omega) HD Hbig (by omega) (fun _ => by omega) h3
          go_ret3
          exact ⟨ret3_of hr, rfl⟩
      · have hn : Hid (intAt s A = (0, 0, 10)) := Lib.hid (by
          refine intAt_none s A (by omega) ?_
          rw [← hz.out.2, List.drop_eq_nil_of_le (by simp; omega)]
          cases 9 - k <;> rfl)
        go_wp2
        go_ret3
        exact ⟨ret3_of hn.out, rfl⟩
    · have hn : Hid (intAt s A = (0, 0, 10)) := Lib.hid (by
        refine intAt_none s A (by omega) ?_
        rw [← hz.out.2, show 9 - k = 0 by omega]
        rfl)
      go_wp2
      go_ret3
      exact ⟨ret3_of hn.out, rfl⟩

/-! ### PutString, String -/
theorem ret2_str {a : ByteArray} {b : Int} {p : ByteArray × Int} (h : p = (a, b)) : Ending.returned (.tuple #[.string a, .int .i64 b]) = .returned (.tuple #[.string p.1, .int .i64 p.2]) := by rw [h]

theorem intAt_facts (s : ByteArray) (at_ : Int) : ((intAt s at_).2.2 = 0 ∧ 0 ≤ at_ ∧ at_ < (intAt s at_).2.1 ∧ (intAt s at_).2.1 ≤ s.size ∧ -maxInt ≤ (intAt s at_).1 ∧ (intAt s at_).1 ≤ maxInt) ∨
    (((intAt s at_).2.2 = 2 ∨ (intAt s at_).2.2 = 10) ∧ (intAt s at_).1 = 0 ∧ (intAt s at_).2.1 = 0) := by
  unfold intAt
  by_cases h : at_ < 0 ∨ (s.size : Int) < at_
  · rw [if_pos h]; exact .inr ⟨.inl rfl, rfl, rfl⟩
  · rw [if_neg h]
    cases hd : intL (s.data.toList.drop at_.toNat) with
    | none => exact .inr ⟨.inr rfl, rfl, rfl⟩
    | some p =>
      obtain ⟨n, c⟩ := p
      obtain ⟨h1, h2, h3, h4, h5⟩ := enc_intL _ n c hd
      have hc := encInt_pos n
      rw [List.length_drop] at h5
      have hsz : s.data.toList.length = s.size := rfl
      rw [hsz] at h5
      refine .inl ⟨rfl, by omega, ?_, ?_, h1, h2⟩
      · show at_ < at_ + c; omega
      · show at_ + c ≤ s.size; omega
theorem ret3_str {a : ByteArray} {b c : Int} {p : ByteArray × Int × Int} (h : p = (a, b, c)) : Ending.returned (.tuple #[.string a, .int .i64 b, .int .i64 c]) = .returned (.tuple #[.string p.1, .int .i64 p.2.1, .int .i64 p.2.2]) := by rw [h]
set_option maxHeartbeats 800000 in
theorem str_any (s : ByteArray) (at_ : Int) (w : World) (hs : s.size ≤ 4611686018427387904) :
    Calls Tryd.prog 67 #[.string s, .int .i64 at_] w fun e w' => e = .returned (.tuple #[.string (strAt s at_).1, .int .i64 (strAt s at_).2.1, .int .i64 (strAt s at_).2.2]) ∧ w = w' := by
  obtain ⟨p, hp⟩ : ∃ p, intAt s at_ = p := ⟨_, rfl⟩
  obtain ⟨n, nx, er⟩ := p
  have hf := intAt_facts s at_
  rw [hp] at hf
  dsimp only at hf
  have hi := int_any s at_ w hs
  rw [hp] at hi
  dsimp only at hi
  have Hi := Lib.hid hi
  have Hp := Lib.hid hp
  clear hi hp
  rcases hf with ⟨h0, h1, h2, h3, h4, h5⟩ | ⟨h0, rfl, rfl⟩
  · subst h0
    by_cases hn : n < 0 ∨ 65536 < n ∨ (s.size : Int) - nx < n
    · have hr : strAt s at_ = (ByteArray.empty, 0, 10) := by
        unfold strAt; rw [Hp.out]; simp only; rw [if_neg (by decide), if_pos hn]
      have Hr := Lib.hid hr
      clear hr
      unfold maxInt at h4 h5
      go_enter Tryd.func67, Tryd.ntmps67
      go_wp2_with (go_at_call 63; refine Hi.out.mono ?_; rintro e w' ⟨rfl, rfl⟩)
      all_goals (go_ret3; exact ⟨ret3_str Hr.out, rfl⟩)
    · obtain ⟨a, rfl⟩ := Int.eq_ofNat_of_zero_le (by omega : 0 ≤ nx)
      obtain ⟨m, rfl⟩ := Int.eq_ofNat_of_zero_le (by omega : 0 ≤ n)
      have hr : strAt s at_ = (s.extract a (a + m), (a : Int) + m, 0) := by
        unfold strAt; rw [Hp.out]; simp only; rw [if_neg (by decide), if_neg hn, Int.toNat_natCast]
        rw [show ((a : Int) + m).toNat = a + m by omega]
      have Hr := Lib.hid hr
      clear hr
      unfold maxInt at h4 h5
      have hn1 : (m : Int) ≤ 65536 := by omega
      have hn2 : (m : Int) ≤ (s.size : Int) - a := by omega
      clear hn
      go_enter Tryd.func67, Tryd.ntmps67
      go_wp2_with (go_at_call 63; refine Hi.out.mono ?_; rintro e w' ⟨rfl, rfl⟩)
      go_ret3
      exact ⟨ret3_str Hr.out, rfl⟩
  · have hr : strAt s at_ = (ByteArray.empty, 0, er) := by
      unfold strAt; rw [Hp.out]; simp only; rw [if_pos (by omega)]
    have Hr := Lib.hid hr
    clear hr
    have d1 : (er == 0) = false := beq_eq_false_iff_ne.2 (by omega)
    have d2 : (er != 0) = true := bne_iff_ne.2 (by omega)
    go_enter Tryd.func67, Tryd.ntmps67
    go_wp2_with (go_at_call 63; refine Hi.out.mono ?_; rintro e w' ⟨rfl, rfl⟩)
    go_ret3
    exact ⟨ret3_str Hr.out, rfl⟩

/-! ### the same at a known result -/
theorem int_is {s : ByteArray} {at_ n nx er : Int} (h : intAt s at_ = (n, nx, er)) (hs : s.size ≤ 4611686018427387904) (w : World) : Calls Tryd.prog 63 #[.string s, .int .i64 at_] w fun e w' => e = .returned (.tuple #[.int .i64 n, .int .i64 nx, .int .i64 er]) ∧ w = w' := by
  have := int_any s at_ w hs; rwa [h] at this
theorem str_is {s r : ByteArray} {at_ nx er : Int} (h : strAt s at_ = (r, nx, er)) (hs : s.size ≤ 4611686018427387904) (w : World) : Calls Tryd.prog 67 #[.string s, .int .i64 at_] w fun e w' => e = .returned (.tuple #[.string r, .int .i64 nx, .int .i64 er]) ∧ w = w' := by
  have := str_any s at_ w hs; rwa [h] at this
theorem sum_is {s : ByteArray} {n : Int} (h : sumB s = n) (hs : s.size ≤ 9223372036854775807) (w : World) (hn : NibCells w) : Calls Tryd.prog 34 #[.string s] w fun e w' => e = .returned (.int .i64 n) ∧ w = w' := by
  have := sum_any s w hs hn; rwa [h] at this
theorem NibCells.below {w w' : World} (h : NibCells w) (hb : Below w.heap.size w w') : NibCells w' := fun i hi => (hb.cell (p := ⟨0, i, none⟩) (World.block_lt_of_cell? w _ (h i hi))).trans (h i hi)
theorem NibCells.pos {w : World} (h : NibCells w) : 0 < w.heap.size := World.block_lt_of_cell? w _ (h 0 (by decide))
theorem Below_then {w w1 w2 : World} (h : Below w.heap.size w w1) (k : Below w1.heap.size w1 w2) : Below w.heap.size w w2 := h.trans (k.mono h.size)

/-! ### min and max of numbers -/
def mnI (x y : Int) : Int := if y < x then y else x
def mxI (x y : Int) : Int := if x < y then y else x
theorem min2_i (k k' : IntKind) (x y : Int) : Builtin.min2 (.int k x) (.int k' y) = pure (.int k (mnI x y)) := by simp only [Builtin.min2, mnI]
theorem max2_i (k k' : IntKind) (x y : Int) : Builtin.max2 (.int k x) (.int k' y) = pure (.int k (mxI x y)) := by simp only [Builtin.max2, gt_iff_lt, mxI]
theorem max_two_i (ats : Array TypeId) (ty : TypeId) (a b : Value) : Builtin.max_ ats ty #[a, b] = (Builtin.max2 a b >>= fun s => pure s) := by simp only [Builtin.max_, List.foldlM_cons, List.foldlM_nil]
theorem min_two_i (ats : Array TypeId) (ty : TypeId) (a b : Value) : Builtin.min_ ats ty #[a, b] = (Builtin.min2 a b >>= fun s => pure s) := by simp only [Builtin.min_, List.foldlM_cons, List.foldlM_nil]
theorem min_three_i (ats : Array TypeId) (ty : TypeId) (a b c : Value) : Builtin.min_ ats ty #[a, b, c] = (Builtin.min2 a b >>= fun s => Builtin.min2 s c >>= fun s => pure s) := by simp only [Builtin.min_, List.foldlM_cons, List.foldlM_nil]
theorem min_four_i (ats : Array TypeId) (ty : TypeId) (a b c d : Value) : Builtin.min_ ats ty #[a, b, c, d] = (Builtin.min2 a b >>= fun s => Builtin.min2 s c >>= fun s => Builtin.min2 s d >>= fun s => pure s) := by simp only [Builtin.min_, List.foldlM_cons, List.foldlM_nil]
theorem mnI_nat (a b : Nat) : mnI (a : Int) (b : Int) = ((min a b : Nat) : Int) := by unfold mnI; split <;> omega
theorem mxI_nat (a b : Nat) : mxI (a : Int) (b : Int) = ((max a b : Nat) : Int) := by unfold mxI; split <;> omega
/-- A string's length and a bound. -/
theorem cut_len (s : ByteArray) (b : Int) (hb : 0 ≤ b) : ∃ n : Nat, mnI (s.size : Int) b = (n : Int) ∧ n ≤ s.size ∧ (n : Int) ≤ b ∧ n = min s.size b.toNat :=
  ⟨min s.size b.toNat, by unfold mnI; split <;> omega, Nat.min_le_left _ _, by omega, rfl⟩
end Go.Proofs.YtkpgadjhcnkadaaDoor
