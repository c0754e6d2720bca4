/- WireSumAffine: the walk. -/
import Derived.Test.YtlenfhliflchgaaDoorLaw01Base
import Derived.Test.YtlenfhliflchgaaDoorPureCrc
import Derived.Test.YtlenfhliflchgaaDoorBlk
import Derived.RegionTactic
import Derived.BigRegion
import Derived.Deep.OwnRows
import Derived.Deep.QuietTactic
import Derived.BigQuiet
namespace Go.Proofs.YtlenfhliflchgaaDoor
open Go.RowKit

theorem info_u8' : (Tryd.prog.info? 5).map (fun i => (i.zero, i.size, i.bytes)) = some (some (.int .u8 0), 1, 1) := by kernel_rfl
theorem NibCells.drewN {w : World} (h : NibCells w) (k : Nat) : NibCells (w.drewN k) := h

theorem quiet_left {P : Program} {f : FuncId} {args : Array Value} {w : World} {n : Nat} {v : Value}
    (h : Calls P f args (w.drewN n) fun e w' => e = .returned v ∧ w.drewN n = w') : Calls P f args (w.drewN n) fun e w'' => e = .returned v ∧ ∃ m, w'' = w.drewN m :=
  h.mono fun _ _ ⟨he, hm⟩ => ⟨he, n, hm.symm⟩
theorem ofInt_i64 (a : Nat) (ha : a < 9223372036854775808) : (BitVec.ofInt 64 (a : Int)).toNat = a := ofInt64 a ha
theorem i64_xor_nat (a b : Nat) (ha : a < 9223372036854775808) (hb : b < 9223372036854775808) : bits .xor .i64 (a : Int) (b : Int) = ((a ^^^ b : Nat) : Int) := by
  have hx : a ^^^ b < 2 ^ 63 := Nat.xor_lt_two_pow (by omega) (by omega)
  show IntKind.i64.wrap ((BitVec.ofInt 64 (a : Int) ^^^ BitVec.ofInt 64 (b : Int)).toNat : Int) = _
  rw [BitVec.toNat_xor, ofInt_i64 a ha, ofInt_i64 b hb, wrap_i64']
  omega
theorem blk_set (l : List UInt8) (i : Nat) (x : UInt8) : (l.map byteV).toArray.setIfInBounds i (byteV x) = ((l.set i x).map byteV).toArray := by
  simp [List.map_set]
theorem below_drewN' {B : Nat} {a w : World} (h : Below B a w) (n : Nat) : Below B a (w.drewN n) := ⟨h.os, h.tape, h.output, h.size, h.block⟩

attribute [local go_sem] min2_i min_four_i
set_option maxRecDepth 100000 in
set_option maxHeartbeats 3200000 in
theorem affine_walk (a b c : ByteArray) (w : World) (hn : NibCells w) 
    (_ha : a.size ≤ 140737488351232) (_hb : b.size ≤ 140737488351232) (_hc : c.size ≤ 140737488351232) :
    Calls Tryd.prog 9 #[.string a, .string b, .string c] w fun e w' => e = .returned (.bool true) ∧ Below w.heap.size w w' := by
  have Hn := Lib.hid hn
  clear hn
  obtain ⟨n, hmn⟩ : ∃ n : Nat, mnI (mnI (mnI (a.size : Int) (b.size : Int)) (c.size : Int)) 200 = (n : Int) := ⟨(mnI (mnI (mnI (a.size : Int) (b.size : Int)) (c.size : Int)) 200).toNat, by unfold mnI; split <;> split <;> split <;> omega⟩
  have hna : n ≤ a.size := by unfold mnI at hmn; split at hmn <;> split at hmn <;> split at hmn <;> omega
  have hnb : n ≤ b.size := by unfold mnI at hmn; split at hmn <;> split at hmn <;> split at hmn <;> omega
  have hnc : n ≤ c.size := by unfold mnI at hmn; split at hmn <;> split at hmn <;> split at hmn <;> omega
  have hn200 : n ≤ 200 := by unfold mnI at hmn; split at hmn <;> split at hmn <;> split at hmn <;> omega
  have hmk := fun W : World => run_make_row' (P := Tryd.prog) 38 5 (.int .u8 0) 1 Tryd.underlying38 info_u8' rfl .i64 .i64 n (by omega) (by omega) W
  go_enter Tryd.func9, Tryd.ntmps9
  go_wp2_with fail
  refine (sane01_any _ Hn.out).mono ?_
  rintro e w1 ⟨rfl, hb1⟩
  go_wp2_with fail
  obtain ⟨w2, hw2⟩ : ∃ w2, w1.alloc (.cells (madeCells #[.int .u8 0] n) 5) = w2 := ⟨_, rfl⟩
  have hB2 : Below w.heap.size w w2 := by rw [← hw2]; exact hb1.alloc hb1.size _
  have hk0 : Blk w2 w1.heap.size 5 ((List.replicate n (0 : UInt8)).map byteV).toArray := by
    rw [← hw2]
    have e : madeCells #[Value.int .u8 0] n = ((List.replicate n (0 : UInt8)).map byteV).toArray := by
      rw [List.map_replicate]
      apply Array.ext
      · simp [madeCells, byteV]
      · intro j h1 h2; simp [madeCells, byteV, Nat.mod_one]
    rw [e]
    exact Blk.new _ _ _
  have hg : w.heap.size ≤ w1.heap.size := hb1.size
  rw [hw2]
  clear hw2 hb1 hmn hmk
  go_loopw [10] (fun v10 wr => ∃ (i : Nat) (l : List UInt8), i ≤ n ∧ v10 = .int .i64 i ∧ l.length = n ∧ Blk wr w1.heap.size 5 (l.map byteV).toArray ∧ Hid (l.take i = (List.zipWith (· ^^^ ·) (List.zipWith (· ^^^ ·) a.data.toList b.data.toList) c.data.toList).take i) ∧ Below w.heap.size w wr) (fun v10 _ => n - (intOf v10).toNat)
  case atStart => exact ⟨0, _, by omega, rfl, by simp, hk0, Lib.hid (by simp), hB2⟩
  case round =>
    obtain ⟨i, l, hi, rfl, hl, hk, hx, hB⟩ := hrel
    by_cases hlt : i < n
    · have ha := a[i].toNat_lt
      have hb := b[i].toNat_lt
      have hc := c[i].toNat_lt
      obtain ⟨x, hxx⟩ : ∃ x : UInt8, a[i] ^^^ b[i] ^^^ c[i] = x := ⟨_, rfl⟩
      have e1 : bits BinOp.xor IntKind.u8 (a[i].toNat : Int) (b[i].toNat : Int) = ((a[i] ^^^ b[i]).toNat : Int) := by
        rw [u8_xor_nat _ _ (by omega) (by omega), u8_xor_toNat]
      have hab := (a[i] ^^^ b[i]).toNat_lt
      have e2 : bits BinOp.xor IntKind.u8 ((a[i] ^^^ b[i]).toNat : Int) (c[i].toNat : Int) = (x.toNat : Int) := by
        rw [u8_xor_nat _ _ (by omega) (by omega), ← u8_xor_toNat, hxx]
      have e3 : bits BinOp.xor IntKind.u8 (bits BinOp.xor IntKind.u8 (a[i].toNat : Int) (b[i].toNat : Int)) (c[i].toNat : Int) = (x.toNat : Int) := by rw [e1, e2]
      have hcell : wr.cell? ⟨w1.heap.size, i, none⟩ = some (byteV (l.getD i 0)) := by
        rw [hk.cell]; simp [hl, hlt]
      have hfr := hk.frozen i
      have j0 : (0 : Int) ≤ i := by omega
      have j1 : (i : Int) < n := by omega
      have j2 : (i : Int) < a.size := by omega
      have j3 : (i : Int) < b.size := by omega
      have j4 : (i : Int) < c.size := by omega
      have Hx2 := Lib.hid hxx
      clear hxx e1 e2 hab
      go_wp2_with fail
      go_region
      go_wp2_with fail
      go_roundw
      case rel =>
        refine ⟨i + 1, l.set i x, by omega, by go_num, by simp [hl], ?_, Lib.hid ?_, (hB.setCell (p := ⟨w1.heap.size, i, none⟩) hg _).drew⟩
        · have := (hk.set_ i (byteV x)).drew
          rw [blk_set] at this
          exact this
        · have hz : i < (List.zipWith (· ^^^ ·) (List.zipWith (· ^^^ ·) a.data.toList b.data.toList) c.data.toList).length := by
            simp only [List.length_zipWith, ba_size]; omega
          rw [List.take_succ_eq_append_getElem (by simp; omega), List.take_succ_eq_append_getElem hz, List.take_set_of_le (by omega), hx.out]
          congr 2
          simp only [List.getElem_set_self, List.getElem_zipWith]
          exact Hx2.out.symm
      case measure => simp [intOf]; omega
    · obtain rfl : i = n := by omega
      have hle : l = List.zipWith (· ^^^ ·) (List.zipWith (· ^^^ ·) (a.extract 0 i).data.toList (b.extract 0 i).data.toList) (c.extract 0 i).data.toList := by
        have := hx.out
        rw [List.take_of_length_le (by omega), List.take_zipWith, List.take_zipWith] at this
        rw [ba_extract, ba_extract, ba_extract]
        simpa using this
      have hsum := sumL_xor3 (a.extract 0 i).data.toList (b.extract 0 i).data.toList (c.extract 0 i).data.toList (by simp; omega) (by simp; omega)
      rw [← hle] at hsum
      have s1 := sumL_lt (a.extract 0 i).data.toList
      have s2 := sumL_lt (b.extract 0 i).data.toList
      have s3 := sumL_lt (c.extract 0 i).data.toList
      have s4 := sumL_lt l
      have hx2 : bits BinOp.xor IntKind.i64 (bits BinOp.xor IntKind.i64 (sumB (a.extract 0 i)) (sumB (b.extract 0 i))) (sumB (c.extract 0 i)) = sumB ⟨l.toArray⟩ := by
        have hq : sumL (a.extract 0 i).data.toList ^^^ sumL (b.extract 0 i).data.toList < 2 ^ 32 := Nat.xor_lt_two_pow (by omega) (by omega)
        unfold sumB
        rw [i64_xor_nat _ _ (by omega) (by omega), i64_xor_nat _ _ (by omega) (by omega), ← hsum]
      obtain ⟨L, hL⟩ : ∃ L : ByteArray, ⟨l.toArray⟩ = L := ⟨_, rfl⟩
      have hLs : L.size ≤ 200 := by rw [← hL, ba_mk_size]; omega
      have hcv : ∀ k : Nat, (convert 38 9 (.slice (some ⟨w1.heap.size, 0, none⟩) i i)).run Tryd.prog (wr.drewN k) = .ok (.string L) (wr.drewN k) := fun k => by
        rw [← hL]
        have h := run_convert_bytes_back (P := Tryd.prog) (wr.drewN k) 38 9 5 ⟨w1.heap.size, 0, none⟩ i l Tryd.underlying38 Tryd.underlying5 Tryd.underlying9 (fun j hj => by
          have ha : (⟨w1.heap.size, 0, none⟩ : Addr).add j = ⟨w1.heap.size, j, none⟩ := by unfold Addr.add; split <;> simp_all
          rw [ha, (hk.drewN k).cell]
          simp [hj, byteV])
        rwa [hl] at h
      rw [hL] at hx2
      have Hn2 : Hid (∀ k, NibCells (wr.drewN k)) := Lib.hid (fun k => (Hn.out.below hB).drewN k)
      have ze1 : (a.extract 0 i).size ≤ 200 := by simp; omega
      have ze2 : (b.extract 0 i).size ≤ 200 := by simp; omega
      have ze3 : (c.extract 0 i).size ≤ 200 := by simp; omega
      clear hsum s1 s2 s3 s4 hle hx hl hL
      have j1 : (0 : Int) ≤ i := by omega
      have j2 : (i : Int) ≤ a.size := by omega
      have j3 : (i : Int) ≤ b.size := by omega
      have j4 : (i : Int) ≤ c.size := by omega
      go_wp2_with fail
      go_quiet ((go_at_call 21; exact quiet_left (sum_any _ _ (by omega) (Hn2.out _))))
      go_wp2_with fail
      go_ret
      exact ⟨rfl, below_drewN' hB _⟩
end Go.Proofs.YtlenfhliflchgaaDoor
