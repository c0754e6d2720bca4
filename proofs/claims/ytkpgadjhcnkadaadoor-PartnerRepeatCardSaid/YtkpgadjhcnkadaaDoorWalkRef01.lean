/- The reference implementation of layer 1 (copydeskref01): it computes the same functions. -/
import Derived.Test.YtkpgadjhcnkadaaDoorWalkRead
import Derived.Lib.Strings
namespace Go.Proofs.YtkpgadjhcnkadaaDoor
open Go.RowKit

set_option maxHeartbeats 400000 in
theorem zigzag_any (n : Int) (w : World) (h1 : -maxInt ≤ n) (h2 : n ≤ maxInt) :
    Calls Tryd.prog 66 #[.int .i64 n] w fun e w' => e = .returned (.int .u64 ((zig n : Nat) : Int)) ∧ w = w' := by
  unfold maxInt at h1 h2
  by_cases h : n < 0
  · have d : decide (n < 0) = true := by simpa using h
    have e1 : ((zig n : Nat) : Int) = -n * 2 - 1 := by unfold zig; rw [if_pos h]; omega
    have E := Lib.hid e1
    clear e1
    go_enter Tryd.func66, Tryd.ntmps66
    go_wp2
    go_ret
    exact ⟨congrArg (fun z => Ending.returned (.int .u64 z)) E.out.symm, rfl⟩
  · have d : decide (n < 0) = false := by simpa using h
    have e1 : ((zig n : Nat) : Int) = n * 2 := by unfold zig; rw [if_neg h]; omega
    have E := Lib.hid e1
    clear e1
    go_enter Tryd.func66, Tryd.ntmps66
    go_wp2
    go_ret
    exact ⟨congrArg (fun z => Ending.returned (.int .u64 z)) E.out.symm, rfl⟩

theorem encLeft_step (z0 z : Nat) (l : List UInt8) (h : l.length < 10) (hz : ¬ z < 128) (h1 : l ++ encF (10 - l.length) z = encF 10 z0) (h2 : z < 128 ^ (10 - l.length)) :
    (l ++ [UInt8.ofNat (z % 128 + 128)]).length < 10 ∧ (l ++ [UInt8.ofNat (z % 128 + 128)]) ++ encF (10 - (l ++ [UInt8.ofNat (z % 128 + 128)]).length) (z / 128) = encF 10 z0 ∧ z / 128 < 128 ^ (10 - (l ++ [UInt8.ofNat (z % 128 + 128)]).length) := by
  obtain ⟨k, hk⟩ : ∃ k, 10 - l.length = k + 1 := ⟨9 - l.length, by omega⟩
  rw [hk] at h1 h2
  have hk0 : 0 < k := by
    rcases Nat.eq_zero_or_pos k with h0 | h0
    · subst h0; simp at h2; omega
    · exact h0
  have e : 10 - (l ++ [UInt8.ofNat (z % 128 + 128)]).length = k := by simp; omega
  refine ⟨by simp; omega, ?_, by rw [e]; rw [Nat.pow_succ] at h2; omega⟩
  rw [e, ← h1, show encF (k + 1) z = UInt8.ofNat (z % 128 + 128) :: encF k (z / 128) by rw [encF, if_neg hz]]
  simp
theorem encLeft_last (z0 z : Nat) (l : List UInt8) (h : l.length < 10) (hz : z < 128) (h1 : l ++ encF (10 - l.length) z = encF 10 z0) : l ++ [UInt8.ofNat z] = encF 10 z0 := by
  obtain ⟨k, hk⟩ : ∃ k, 10 - l.length = k + 1 := ⟨9 - l.length, by omega⟩
  rw [hk, encF, if_pos hz] at h1
  exact h1

set_option maxHeartbeats 800000 in
theorem refPutInt_in (n : Int) (w : World) (h1 : -maxInt ≤ n) (h2 : n ≤ maxInt) :
    Calls Tryd.prog 58 #[.int .i64 n] w fun e w' => e = .returned (.tuple #[.string ⟨(encInt n).toArray⟩, .int .i64 0]) ∧ Below w.heap.size w w' := by
  obtain ⟨i0, hi, hz0, hz1, hz2⟩ := info_parts info_u8
  have d1 : decide (n < -4611686018427387903) = false := by unfold maxInt at h1; simp; omega
  have d2 : decide ((4611686018427387903 : Int) < n) = false := by unfold maxInt at h2; simp; omega
  have hzl := zig_lt n h1 h2
  unfold big63 at hzl
  obtain ⟨z0, hz⟩ : ∃ z0, zig n = z0 := ⟨_, rfl⟩
  have hzz := zigzag_any n w h1 h2
  rw [hz] at hzz hzl
  have Hz := Lib.hid hz
  have Hzz := Lib.hid hzz
  clear hz hzz
  go_enter Tryd.func58, Tryd.ntmps58
  go_wp2_with (go_at_call 66; refine Hzz.out.mono ?_; rintro e w' ⟨rfl, rfl⟩)
  go_loopw [4, 5] (fun v4 v5 wr => ∃ (l : List UInt8) (z : Nat), v4 = .int .u64 z ∧ z < 9223372036854775808 ∧ l.length < 10 ∧ wr.ownsRow w.heap.size 5 1 v5 l.length (l.map byteV) ∧ Hid (l ++ encF (10 - l.length) z = encF 10 z0 ∧ z < 128 ^ (10 - l.length)) ∧ Below w.heap.size w wr) (fun v4 _ _ => (intOf v4).toNat)
  case atStart => exact ⟨[], z0, rfl, by omega, by simp, World.ownsRow_nil _ _ _ _, Lib.hid ⟨rfl, by simp only [List.length_nil]; omega⟩, Below.refl _ _⟩
  case round =>
    obtain ⟨l, z, rfl, hzlt, hl, hown, hid, hB⟩ := hrel
    by_cases hlast : z < 128
    · have d : decide ((128 : Int) ≤ z) = false := by simp; omega
      go_wp2_with (at_builtin; refine wpList_append_own _ rfl _ _ 108 rfl w.heap.size 5 i0 (.int .u8 0) 1 1 Tryd.underlying108 hi hz0 hz1 hz2 rfl (by decide) _ _ _ rfl (hown.alloc _) ⟨wr.heap.size, 0, none⟩ 1 1 [.int .u8 z] rfl rfl (cell_one_new _ _ _) (by simp [Value.oneCell']) (by unfold maxLen; omega) (by omega) (by have := hB.size; simp; omega) ?_; intro v' w1 hown' hgrow _; have hcv := own_to_string (P := Tryd.prog) (l := l ++ [UInt8.ofNat z]) (src := 108) (dst := 9) Tryd.underlying108 Tryd.underlying5 Tryd.underlying9 (by simpa [byteV, Nat.mod_eq_of_lt (show z < 256 by omega)] using hown'))
      go_ret2
      refine ⟨?_, ?_⟩
      · have := encLeft_last z0 z l hl hlast hid.out.1
        rw [← Hz.out] at this
        exact congrArg (fun x : List UInt8 => Ending.returned (.tuple #[.string ⟨x.toArray⟩, .int .i64 0])) this
      · exact (hB.alloc hB.size _).grown hgrow (by have := hB.size; simp; omega) (fun k e => (hown.lt k e).1)
    · have d : decide ((128 : Int) ≤ z) = true := by simp; omega
      go_wp2_with (at_builtin; refine wpList_append_own _ rfl _ _ 108 rfl w.heap.size 5 i0 (.int .u8 0) 1 1 Tryd.underlying108 hi hz0 hz1 hz2 rfl (by decide) _ _ _ rfl (hown.alloc _) ⟨wr.heap.size, 0, none⟩ 1 1 [.int .u8 ((z : Int) % 128 + 128)] rfl rfl (cell_one_new _ _ _) (by simp [Value.oneCell']) (by unfold maxLen; omega) (by omega) (by have := hB.size; simp; omega) ?_; intro v' w1 hown' hgrow _)
      go_roundw
      case rel =>
        obtain ⟨a1, a2, a3⟩ := encLeft_step z0 z l hl hlast hid.out.1 hid.out.2
        refine ⟨l ++ [UInt8.ofNat (z % 128 + 128)], z / 128, by simp, by omega, a1, ?_, Lib.hid ⟨a2, a3⟩, (hB.alloc hB.size _).grown hgrow (by have := hB.size; simp; omega) (fun k e => (hown.lt k e).1)⟩
        have e : ((UInt8.ofNat (z % 128 + 128)).toNat : Int) = (z : Int) % 128 + 128 := by rw [ofNat_toNat _ (by omega)]; omega
        have hx : l.map byteV ++ [Value.int .u8 ((z : Int) % 128 + 128)] = (l ++ [UInt8.ofNat (z % 128 + 128)]).map byteV := by
          rw [List.map_append]; simp only [List.map_cons, List.map_nil, byteV, e]
        rw [List.length_append, ← hx]
        exact hown'
      case measure => simp [intOf]; omega

set_option maxHeartbeats 400000 in
theorem refPutInt_out (n : Int) (w : World) (h : n < -maxInt ∨ maxInt < n) :
    Calls Tryd.prog 58 #[.int .i64 n] w fun e w' => e = .returned (.tuple #[.string ByteArray.empty, .int .i64 10]) ∧ w = w' := by
  rcases h with h | h
  · have d1 : decide (n < -4611686018427387903) = true := by unfold maxInt at h; simp; omega
    go_enter Tryd.func58, Tryd.ntmps58
    go_wp2
    go_ret2
    exact ⟨rfl, rfl⟩
  · have d1 : decide (n < -4611686018427387903) = false := by unfold maxInt at h; simp; omega
    have d2 : decide ((4611686018427387903 : Int) < n) = true := by unfold maxInt at h; simp; omega
    go_enter Tryd.func58, Tryd.ntmps58
    go_wp2
    go_ret2
    exact ⟨rfl, rfl⟩
theorem refPutInt_any (n : Int) (w : World) :
    Calls Tryd.prog 58 #[.int .i64 n] w fun e w' => e = .returned (.tuple #[.string (putInt n).1, .int .i64 (putInt n).2]) ∧ Below w.heap.size w w' := by
  by_cases h : n < -maxInt ∨ maxInt < n
  · refine (refPutInt_out n w h).mono fun e w' ⟨he, hw⟩ => ?_
    subst hw
    refine ⟨?_, Below.refl _ _⟩
    rw [he]; unfold putInt; rw [if_pos h]
  · refine (refPutInt_in n w (by omega) (by omega)).mono fun e w' ⟨he, hw⟩ => ⟨?_, hw⟩
    rw [he]; unfold putInt; rw [if_neg h]

set_option maxHeartbeats 400000 in
theorem refPutStr_any (s : ByteArray) (w : World) (hs : s.size ≤ 140737488351232) :
    Calls Tryd.prog 60 #[.string s] w fun e w' => e = .returned (.tuple #[.string (putStr s).1, .int .i64 (putStr s).2]) ∧ Below w.heap.size w w' := by
  by_cases h : 65536 < s.size
  · have d1 : decide (65536 < s.size) = true := decide_eq_true h
    go_enter Tryd.func60, Tryd.ntmps60
    go_wp2
    go_ret2
    refine ⟨ret2_str ?_, Below.refl _ _⟩
    unfold putStr; rw [if_pos h]; rfl
  · have d1 : decide (65536 < s.size) = false := decide_eq_false h
    have hl := encInt_len s.size
    have hp : putInt s.size = (⟨(encInt s.size).toArray⟩, 0) := by unfold putInt maxInt; rw [if_neg (by omega)]
    have Hp := Lib.hid hp
    clear hp
    obtain ⟨p, hpp⟩ : ∃ p, (putInt s.size).1 = p := ⟨_, rfl⟩
    have hpl : p.size ≤ 10 := by rw [← hpp, Hp.out]; exact hl
    have Hpp := Lib.hid hpp
    go_enter Tryd.func60, Tryd.ntmps60
    go_wp2_with (go_at_call 58; refine (refPutInt_any _ _).mono ?_; rintro e w' ⟨rfl, hb⟩)
    go_ret2
    refine ⟨ret2_str ?_, hb⟩
    rw [← Hpp.out, Hp.out]
    unfold putStr; rw [if_neg h]

set_option maxHeartbeats 800000 in
theorem refSum_any (s : ByteArray) (w : World) (hs : s.size ≤ 9223372036854775807) :
    Calls Tryd.prog 29 #[.string s] w fun e w' => e = .returned (.int .i64 (sumB s)) ∧ w = w' := by
  go_enter Tryd.func29, Tryd.ntmps29
  go_wp2
  go_loop [3, 4, 5, 6] (fun r i _ _ => ∃ k x : Nat, k ≤ s.size ∧ i = .int .i64 k ∧ r = .int .u32 x ∧ Hid (x = crcL (s.data.toList.take k) 4294967295)) (fun _ i _ _ => s.size - (intOf i).toNat)
  case atStart => exact ⟨0, 4294967295, Nat.zero_le _, rfl, rfl, Lib.hid rfl⟩
  case round =>
    obtain ⟨k, x, hk, rfl, rfl, hx⟩ := hrel
    have hxlt : x < 4294967296 := by rw [hx.out]; exact crcL_lt _ _ (by decide)
    by_cases hlt : k < s.size
    · have hb : s[k].toNat < 256 := s[k].toNat_lt
      obtain ⟨x1, hx1⟩ : ∃ x1, x ^^^ s[k].toNat = x1 := ⟨_, rfl⟩
      have hx1lt : x1 < 4294967296 := by rw [← hx1]; exact Nat.xor_lt_two_pow (n := 32) hxlt (by omega)
      have e1 : bits BinOp.xor IntKind.u32 (x : Int) (s[k].toNat : Int) = (x1 : Int) := by
        rw [u32_xor_nat _ _ hxlt (by omega), hx1]
      have hnew : Hid (bitsN 8 x1 = crcL (s.data.toList.take (k + 1)) 4294967295) := Lib.hid (by
        rw [take_snoc s k hlt, crcL_snoc, ← hx.out, crcStep_bits, hx1])
      clear hx1
      go_wp2
      go_loop [3, 5, 6] (fun r j _ => ∃ m y : Nat, m ≤ 8 ∧ j = .int .i64 m ∧ r = .int .u32 y ∧ Hid (y = bitsN m x1)) (fun _ j _ => 8 - (intOf j).toNat)
      case atStart => exact ⟨0, x1, by omega, rfl, rfl, Lib.hid rfl⟩
      case round =>
        obtain ⟨m, y, hm, rfl, rfl, hy⟩ := hrel
        have hylt : y < 4294967296 := by rw [hy.out]; exact bitsN_lt _ _ hx1lt
        by_cases hm8 : m < 8
        · by_cases hodd : y % 2 = 1
          · have d : (((y : Int) % 2) == 1) = true := beq_iff_eq.2 (by omega)
            have e2 : bits BinOp.xor IntKind.u32 ((y : Int) / 2) 2197175160 = (((y / 2) ^^^ 2197175160 : Nat) : Int) := by
              rw [show (y : Int) / 2 = ((y / 2 : Nat) : Int) by omega, show (2197175160 : Int) = ((2197175160 : Nat) : Int) from rfl, u32_xor_nat _ _ (by omega) (by decide)]
            obtain ⟨y1, hy1⟩ : ∃ y1, (y / 2) ^^^ 2197175160 = y1 := ⟨_, rfl⟩
            rw [hy1] at e2
            have hy2 : Hid (y1 = bitsN (m + 1) x1) := Lib.hid (by rw [bitsN, ← hy.out, bit1, if_pos hodd, hy1])
            clear hy1
            go_wp2
            go_round
            case rel => exact ⟨m + 1, y1, by omega, by go_num, rfl, hy2⟩
            case measure => simp [intOf]; omega
          · have d : (((y : Int) % 2) == 1) = false := beq_eq_false_iff_ne.2 (by omega)
            have hy2 : Hid (y / 2 = bitsN (m + 1) x1) := Lib.hid (by rw [bitsN, ← hy.out, bit1, if_neg hodd])
            go_wp2
            go_round
            case rel => exact ⟨m + 1, y / 2, by omega, by go_num, by simp, hy2⟩
            case measure => simp [intOf]; omega
        · have hm' : m = 8 := by omega
          have hy2 : Hid (y = crcL (s.data.toList.take (k + 1)) 4294967295) := Lib.hid (by rw [hy.out, hm']; exact hnew.out)
          clear hm'
          go_wp2
          go_round
          case rel => exact ⟨k + 1, y, by omega, by go_num, rfl, hy2⟩
          case measure => simp [intOf]; omega
    · have e : wrap64 (bits BinOp.xor IntKind.u32 IntKind.u32.max (x : Int)) = ((4294967295 - x : Nat) : Int) := by
        rw [show IntKind.u32.max = ((4294967295 : Nat) : Int) by decide, u32_xor_nat _ _ (by decide) hxlt, not32 x hxlt]
        unfold wrap64; omega
      have hfin : ((4294967295 - x : Nat) : Int) = sumB s := by
        rw [hx.out, List.take_of_length_le (by simp; omega)]; rfl
      have He := Lib.hid (e.trans hfin)
      clear e hfin
      go_wp2
      go_ret
      exact ⟨congrArg (fun z => Ending.returned (.int .i64 z)) He.out, rfl⟩

theorem toList_mk (l : List UInt8) : (⟨l.toArray⟩ : ByteArray).toList = l := by rw [ByteArray.toList_eq]
theorem piece_eq (s : ByteArray) (A k : Nat) : (s.extract A (A + k + 1)).toList = (s.data.toList.drop A).take (k + 1) := by
  rw [Lib.extract_toList, show A + k + 1 - A = k + 1 by omega]
theorem refInt_same {s t : ByteArray} {A k : Nat} {n : Int} (hA : A ≤ s.size) (hn : -maxInt ≤ n ∧ n ≤ maxInt) (hk : A + k < s.size) (ht : ⟨(encInt n).toArray⟩ = t) (h : (!t.toList == (s.extract A (A + k + 1)).toList) = false) :
    intAt s A = (n, (A : Int) + k + 1, 0) := by
  rw [← ht, toList_mk, piece_eq] at h
  have e : encInt n = (s.data.toList.drop A).take (k + 1) := by simpa using h
  have hl := intL_enc n hn.1 hn.2 ((s.data.toList.drop A).drop (k + 1))
  rw [e, List.take_append_drop] at hl
  unfold intAt
  rw [if_neg (by omega), Int.toNat_natCast, hl]
  have hsz : s.data.toList.length = s.size := rfl
  simp only [Prod.mk.injEq, true_and, and_true, List.length_take, List.length_drop, hsz]
  omega
theorem refInt_differs {s t : ByteArray} {A k z1 m : Nat} {b : UInt8} {l : List UInt8} (hA : A ≤ s.size) (HD : Hid ((if 128 ≤ b.toNat then decF m l (k + 1) z1 else if b.toNat = 0 ∧ 0 < k then none else some (z1, k + 1)) = decF 9 (s.data.toList.drop A) 0 0))
    (h1 : b.toNat < 128) (hz : z1 ≠ big63) (ht : ⟨(encInt (unzig z1)).toArray⟩ = t) (h : (!t.toList == (s.extract A (A + k + 1)).toList) = true) : intAt s A = (0, 0, 10) := by
  by_cases hb0 : b.toNat = 0 ∧ 0 < k
  · exact int_zero (s := s) (A := A) hA HD h1 hb0.1 hb0.2
  · exfalso
    have hd := HD.out
    rw [if_neg (by omega), if_neg hb0, decF_intL] at hd
    have hl : intL (s.data.toList.drop A) = some (unzig z1, k + 1) := by
      unfold intL; rw [← hd]; simp [hz]
    obtain ⟨_, _, h4, _, _⟩ := enc_intL _ _ _ hl
    rw [← ht, toList_mk, piece_eq, h4] at h
    simp at h

set_option maxRecDepth 100000 in
set_option maxHeartbeats 1000000 in
theorem refInt_any (s : ByteArray) (at_ : Int) (w : World) (hs : s.size ≤ 4611686018427387904) :
    Calls Tryd.prog 44 #[.string s, .int .i64 at_] w fun e w' => e = .returned (.tuple #[.int .i64 (intAt s at_).1, .int .i64 (intAt s at_).2.1, .int .i64 (intAt s at_).2.2]) ∧ Below w.heap.size w w' := by
  by_cases h0 : at_ < 0
  · have d1 : decide (at_ < 0) = true := by simpa using h0
    go_enter Tryd.func44, Tryd.ntmps44
    go_wp2
    go_ret3
    refine ⟨?_, Below.refl _ _⟩
    unfold intAt; rw [if_pos (by omega)]; rfl
  obtain ⟨A, rfl⟩ := Int.eq_ofNat_of_zero_le (by omega : 0 ≤ at_)
  have d1 : decide ((A : Int) < 0) = false := by simp
  by_cases h1 : s.size < A
  · have d2 : decide (s.size < A) = true := by simpa using h1
    go_enter Tryd.func44, Tryd.ntmps44
    go_wp2
    go_ret3
    refine ⟨?_, Below.refl _ _⟩
    unfold intAt; rw [if_pos (by omega)]; rfl
  have d2 : decide (s.size < A) = false := by simpa using h1
  go_enter Tryd.func44, Tryd.ntmps44
  go_wp2
  go_loop [7, 8, 9, 10, 11, 12] (fun v7 v8 _ _ _ _ => ∃ k z : Nat, k ≤ 9 ∧ v8 = .int .i64 k ∧ v7 = .int .u64 z ∧ Hid (z < 2 ^ (7 * k) ∧ decF (9 - k) (s.data.toList.drop (A + k)) k z = decF 9 (s.data.toList.drop A) 0 0)) (fun _ v8 _ _ _ _ => 9 - (intOf v8).toNat)
  case atStart => exact ⟨0, 0, by omega, rfl, rfl, Lib.hid ⟨by simp, rfl⟩⟩
  case round =>
    obtain ⟨k, z, hk, rfl, rfl, hz⟩ := hrel
    by_cases hk9 : k < 9
    · have dk : decide ((k : Int) < 9) = true := by simp; omega
      by_cases hlt : A + k < s.size
      · have hb : s[A + k].toNat < 256 := s[A + k].toNat_lt
        obtain ⟨b, hbb⟩ : ∃ b : UInt8, s[A + k] = b := ⟨_, rfl⟩
        have hdr := drop_cons s (A + k) hlt
        rw [hbb] at hdr hb
        obtain ⟨y, hy⟩ : ∃ y, b.toNat % 128 = y := ⟨_, rfl⟩
        have hylt : y < 128 := by omega
        obtain ⟨z1, hz1⟩ : ∃ z1, z + y * 2 ^ (7 * k) = z1 := ⟨_, rfl⟩
        have hz1k : z1 < 2 ^ (7 * (k + 1)) := by rw [← hz1]; exact pow_step z y k hz.out.1 hylt
        have hz1lt : z1 < 9223372036854775808 := Nat.lt_of_lt_of_le hz1k (pow_63 (k + 1) (by omega))
        have hxlt : y * 2 ^ (7 * k) < 9223372036854775808 := by omega
        have e1 : (b.toNat : Int) % 128 = (y : Int) := by omega
        have e2 : IntKind.u64.wrap ((y : Int) * 2 ^ (7 * k)) = ((y * 2 ^ (7 * k) : Nat) : Int) := by
          rw [wrap_u64', show (y : Int) * 2 ^ (7 * k) = ((y * 2 ^ (7 * k) : Nat) : Int) by simp]; omega
        obtain ⟨x, hx⟩ : ∃ x, y * 2 ^ (7 * k) = x := ⟨_, rfl⟩
        rw [hx] at e2 hxlt hz1
        have e3 : (z : Int) + (x : Int) = (z1 : Int) := by omega
        obtain ⟨m, hm⟩ : ∃ m, 9 - k = m + 1 := ⟨8 - k, by omega⟩
        have hD := hz.out.2
        rw [hm, hdr] at hD
        conv at hD => lhs; unfold decF
        rw [hy, hx, hz1] at hD
        have HD := Lib.hid hD
        have Hm := Lib.hid hm
        have Hbig := Lib.hid (unzig_big z1 hz1lt)
        clear hD hm hx hy hdr hz1
        by_cases hbig : z1 = big63
        · have hc := refPutInt_any (unzig z1) w
          rw [show putInt (unzig z1) = (ByteArray.empty, 10) by rw [hbig]; rfl] at hc
          have Hc := Lib.hid hc
          have Hz1 := Lib.hid hbig
          clear hc hbig
          go_wp2_with fail
          · go_round
            case rel =>
              refine ⟨k + 1, z1, by omega, by go_num, rfl, Lib.hid ⟨hz1k, ?_⟩⟩
              have h := HD.out
              rw [if_pos (by omega)] at h
              rw [show 9 - (k + 1) = m by have := Hm.out; omega]
              exact h
            case measure => simp [intOf]; omega
          all_goals (have hb1 : b.toNat < 128 := by omega)
          · rw [show -((z1 : Int) / 2) - 1 = unzig z1 by rw [Hz1.out]; rfl]
            refine Hc.out.mono ?_
            rintro e w' ⟨rfl, hb⟩
            have hr : Hid (intAt s A = (0, 0, 10)) := Lib.hid (by
              by_cases hb0 : b.toNat = 0 ∧ 0 < k
              · exact int_zero (s := s) (A := A) (by omega) HD hb1 hb0.1 hb0.2
              · exact int_big (s := s) (A := A) (by omega) HD Hbig hb1 (by omega) (Hbig.out.2 Hz1.out))
            go_wp2
            go_ret3
            exact ⟨ret3_of hr.out, hb⟩
          · exfalso
            have : (((z1 : Int) % 2) == 1) = false := by assumption
            rw [Hz1.out] at this
            cases this
        · have hun : -maxInt ≤ unzig z1 ∧ unzig z1 ≤ maxInt := by
            unfold unzig maxInt; unfold big63 at hbig; split <;> omega
          have hc := refPutInt_any (unzig z1) w
          rw [show putInt (unzig z1) = (⟨(encInt (unzig z1)).toArray⟩, 0) by unfold putInt; rw [if_neg (by omega)]] at hc
          obtain ⟨t, ht⟩ : ∃ t : ByteArray, ⟨(encInt (unzig z1)).toArray⟩ = t := ⟨_, rfl⟩
          rw [ht] at hc
          have Hc := Lib.hid hc
          have Ht := Lib.hid ht
          have Hun := Lib.hid hun
          clear hc ht hun
          go_wp2_with fail
          · go_round
            case rel =>
              refine ⟨k + 1, z1, by omega, by go_num, rfl, Lib.hid ⟨hz1k, ?_⟩⟩
              have h := HD.out
              rw [if_pos (by omega)] at h
              rw [show 9 - (k + 1) = m by have := Hm.out; omega]
              exact h
            case measure => simp [intOf]; omega
          all_goals (have hb1 : b.toNat < 128 := by omega)
          · have ho : (((z1 : Int) % 2) == 1) = true := by assumption
            rw [show -((z1 : Int) / 2) - 1 = unzig z1 by have := beq_iff_eq.1 ho; unfold unzig; rw [if_pos (by omega)]; omega]
            refine Hc.out.mono ?_
            rintro e w' ⟨rfl, hb⟩
            go_wp2
            · have hd : (!t.toList == (s.extract A (A + k + 1)).toList) = true := by assumption
              have hr := Lib.hid (refInt_differs (s := s) (A := A) (by omega) HD hb1 hbig Ht.out hd)
              clear hd
              go_ret3
              exact ⟨ret3_of hr.out, hb⟩
            · have hd : (!t.toList == (s.extract A (A + k + 1)).toList) = false := by assumption
              have hr := Lib.hid (refInt_same (s := s) (A := A) (by omega) Hun.out hlt Ht.out hd)
              clear hd
              go_ret3
              exact ⟨ret3_of hr.out, hb⟩
          · have ho : (((z1 : Int) % 2) == 1) = false := by assumption
            rw [show ((z1 : Int) / 2) = unzig z1 by have := beq_eq_false_iff_ne.1 ho; unfold unzig; rw [if_neg (by omega)]; omega]
            refine Hc.out.mono ?_
            rintro e w' ⟨rfl, hb⟩
            go_wp2
            · have hd : (!t.toList == (s.extract A (A + k + 1)).toList) = true := by assumption
              have hr := Lib.hid (refInt_differs (s := s) (A := A) (by omega) HD hb1 hbig Ht.out hd)
              clear hd
              go_ret3
              exact ⟨ret3_of hr.out, hb⟩
            · have hd : (!t.toList == (s.extract A (A + k + 1)).toList) = false := by assumption
              have hr := Lib.hid (refInt_same (s := s) (A := A) (by omega) Hun.out hlt Ht.out hd)
              clear hd
              go_ret3
              exact ⟨ret3_of hr.out, hb⟩
      · have hn : Hid (intAt s A = (0, 0, 10)) := Lib.hid (by
          refine intAt_none s A (by omega) ?_
          rw [← hz.out.2, List.drop_eq_nil_of_le (by simp; omega)]
          cases 9 - k <;> rfl)
        have dl : decide ((A : Int) + k < s.size) = false := by simp; omega
        go_wp2
        go_ret3
        exact ⟨ret3_of hn.out, Below.refl _ _⟩
    · have hn : Hid (intAt s A = (0, 0, 10)) := Lib.hid (by
        refine intAt_none s A (by omega) ?_
        rw [← hz.out.2, show 9 - k = 0 by omega]
        rfl)
      have dk : decide ((k : Int) < 9) = false := by simp; omega
      go_wp2
      go_ret3
      exact ⟨ret3_of hn.out, Below.refl _ _⟩

set_option maxHeartbeats 800000 in
theorem refStr_any (s : ByteArray) (at_ : Int) (w : World) (hs : s.size ≤ 4611686018427387904) :
    Calls Tryd.prog 59 #[.string s, .int .i64 at_] w fun e w' => e = .returned (.tuple #[.string (strAt s at_).1, .int .i64 (strAt s at_).2.1, .int .i64 (strAt s at_).2.2]) ∧ Below w.heap.size w w' := by
  obtain ⟨p, hp⟩ : ∃ p, intAt s at_ = p := ⟨_, rfl⟩
  obtain ⟨n, nx, er⟩ := p
  have hf := intAt_facts s at_
  rw [hp] at hf
  dsimp only at hf
  have hi := refInt_any s at_ w hs
  rw [hp] at hi
  dsimp only at hi
  have Hi := Lib.hid hi
  have Hp := Lib.hid hp
  clear hi hp
  rcases hf with ⟨h0, h1, h2, h3, h4, h5⟩ | ⟨h0, rfl, rfl⟩
  · subst h0
    by_cases hn : n < 0 ∨ 65536 < n ∨ (s.size : Int) - nx < n
    · have hr : strAt s at_ = (ByteArray.empty, 0, 10) := by
        unfold strAt; rw [Hp.out]; simp only; rw [if_neg (by decide), if_pos hn]
      have Hr := Lib.hid hr
      clear hr
      unfold maxInt at h4 h5
      go_enter Tryd.func59, Tryd.ntmps59
      go_wp2_with (go_at_call 44; refine Hi.out.mono ?_; rintro e w' ⟨rfl, hb⟩)
      all_goals (go_ret3; exact ⟨ret3_str Hr.out, hb⟩)
    · obtain ⟨a, rfl⟩ := Int.eq_ofNat_of_zero_le (by omega : 0 ≤ nx)
      obtain ⟨m, rfl⟩ := Int.eq_ofNat_of_zero_le (by omega : 0 ≤ n)
      have hr : strAt s at_ = (s.extract a (a + m), (a : Int) + m, 0) := by
        unfold strAt; rw [Hp.out]; simp only; rw [if_neg (by decide), if_neg hn, Int.toNat_natCast]
        rw [show ((a : Int) + m).toNat = a + m by omega]
      have Hr := Lib.hid hr
      clear hr
      unfold maxInt at h4 h5
      have hn1 : (m : Int) ≤ 65536 := by omega
      have hn2 : (m : Int) ≤ (s.size : Int) - a := by omega
      clear hn
      go_enter Tryd.func59, Tryd.ntmps59
      go_wp2_with (go_at_call 44; refine Hi.out.mono ?_; rintro e w' ⟨rfl, hb⟩)
      go_ret3
      exact ⟨ret3_str Hr.out, hb⟩
  · have hr : strAt s at_ = (ByteArray.empty, 0, er) := by
      unfold strAt; rw [Hp.out]; simp only; rw [if_pos (by omega)]
    have Hr := Lib.hid hr
    clear hr
    have d1 : (er == 0) = false := beq_eq_false_iff_ne.2 (by omega)
    have d2 : (er != 0) = true := bne_iff_ne.2 (by omega)
    go_enter Tryd.func59, Tryd.ntmps59
    go_wp2_with (go_at_call 44; refine Hi.out.mono ?_; rintro e w' ⟨rfl, hb⟩)
    go_ret3
    exact ⟨ret3_str Hr.out, hb⟩
end Go.Proofs.YtkpgadjhcnkadaaDoor
