/- WireSequence: the walk. -/
import Derived.Test.YtlenfhliflchgaaDoorLaw01Base
import Derived.Test.YtlenfhliflchgaaDoorRowKit
import Derived.RegionTactic
import Derived.BigRegion
import Derived.Deep.RegionHeld3
import Derived.Deep.QuietTactic
import Derived.BigQuiet
namespace Go.Proofs.YtlenfhliflchgaaDoor
open Go.RowKit

def enc1 (p : Int × ByteArray) : List UInt8 := encInt p.1 ++ (encInt p.2.size ++ p.2.data.toList)
def seqL (l : List (Int × ByteArray)) : List UInt8 := l.flatMap enc1
theorem seqL_snoc (l : List (Int × ByteArray)) (p : Int × ByteArray) : seqL (l ++ [p]) = seqL l ++ enc1 p := by simp [seqL]
theorem seqL_split (l : List (Int × ByteArray)) (k : Nat) (h : k < l.length) : seqL l = seqL (l.take k) ++ (enc1 l[k] ++ seqL (l.drop (k + 1))) := by
  have e : l = l.take k ++ (l[k] :: l.drop (k + 1)) := by rw [← List.drop_eq_getElem_cons h, List.take_append_drop]
  have f : (l.take k ++ (l[k] :: l.drop (k + 1))).flatMap enc1 = seqL (l.take k) ++ (enc1 l[k] ++ seqL (l.drop (k + 1))) := by unfold seqL; rw [List.flatMap_append, List.flatMap_cons]
  rw [← f]
  exact congrArg seqL e
theorem seq_read (S : ByteArray) (l : List (Int × ByteArray)) (k : Nat) (h : k < l.length) (hS : S.data.toList = seqL l) (n : Int) (u : ByteArray) (hp : l[k] = (n, u)) (h1 : -maxInt ≤ n) (h2 : n ≤ maxInt) (hu : u.size ≤ 65536) (A : Nat) (hA : (seqL (l.take k)).length = A) :
    ∃ B C : Nat, (seqL (l.take (k + 1))).length = C ∧ B ≤ S.size ∧ C ≤ S.size ∧ intAt S A = (n, (B : Int), 0) ∧ strAt S B = (u, (C : Int), 0) := by
  have hs := seqL_split l k h
  rw [← hS, hp] at hs
  have hlen := congrArg List.length hs
  have ee : enc1 (n, u) = encInt n ++ (encInt u.size ++ u.data.toList) := rfl
  rw [List.length_append, List.length_append, ee, List.length_append, List.length_append, ba_size, ba_size, hA] at hlen
  have hd : S.data.toList.drop A = encInt n ++ (encInt u.size ++ (u.data.toList ++ seqL (l.drop (k + 1)))) := by
    rw [hs, ← hA, List.drop_left, ee, List.append_assoc, List.append_assoc]
  have hd2 : S.data.toList.drop (A + (encInt n).length) = encInt u.size ++ (u.data.toList ++ seqL (l.drop (k + 1))) := by
    rw [← List.drop_drop, hd, List.drop_left]
  refine ⟨A + (encInt n).length, A + (encInt n).length + ((encInt u.size).length + u.size), ?_, by omega, by omega, ?_, ?_⟩
  · rw [List.take_succ_eq_append_getElem h, seqL_snoc, hp, List.length_append, hA, ee, List.length_append, List.length_append, ba_size]; omega
  · rw [intAt_at S A n _ h1 h2 (by omega) hd]; simp
  · rw [strAt_at S u _ _ hu (by omega) hd2]; simp
theorem seq_end (S : ByteArray) (A : Nat) (h : S.size = A) : intAt S A = (0, 0, 10) := by
  refine intAt_none S A (by omega) ?_
  rw [List.drop_eq_nil_of_le (by rw [ba_size]; omega)]
  rfl
theorem seqL_len (l : List (Int × ByteArray)) (h : ∀ p ∈ l, p.2.size ≤ 100) : (seqL l).length ≤ 120 * l.length := by
  induction l with
  | nil => simp [seqL]
  | cons p l ih =>
    have h1 := ih (fun q hq => h q (List.mem_cons_of_mem _ hq))
    have h2 := h p (List.mem_cons_self ..)
    have h3 := encInt_len p.1
    have h4 := encInt_len p.2.size
    have e : seqL (p :: l) = enc1 p ++ seqL l := rfl
    rw [e, List.length_append, List.length_cons]
    unfold enc1
    rw [List.length_append, List.length_append, ba_size]
    omega
def seqItems (zs : List Int) (ts : List ByteArray) (n : Nat) : List (Int × ByteArray) := (List.range n).map fun i => (numFrom (zs.getD i 0), (ts.getD i ByteArray.empty).extract 0 (min (ts.getD i ByteArray.empty).size 100))
theorem seqItems_at (zs : List Int) (ts : List ByteArray) (n i : Nat) (h : i < n) : (seqItems zs ts n)[i]'(by simpa [seqItems] using h) = (numFrom (zs.getD i 0), (ts.getD i ByteArray.empty).extract 0 (min (ts.getD i ByteArray.empty).size 100)) := by simp [seqItems]
theorem seqItems_take (zs : List Int) (ts : List ByteArray) (n i : Nat) (h : i < n) : (seqItems zs ts n).take (i + 1) = (seqItems zs ts n).take i ++ [(numFrom (zs.getD i 0), (ts.getD i ByteArray.empty).extract 0 (min (ts.getD i ByteArray.empty).size 100))] := by
  rw [List.take_succ_eq_append_getElem (by simpa [seqItems] using h), seqItems_at zs ts n i h]
theorem seqItems_small (zs : List Int) (ts : List ByteArray) (n : Nat) : ∀ p ∈ seqItems zs ts n, p.2.size ≤ 100 := by
  intro p hp
  simp only [seqItems, List.mem_map] at hp
  obtain ⟨i, _, rfl⟩ := hp
  simp; omega

attribute [local go_sem] min2_i min_two_i min_three_i
set_option maxRecDepth 100000 in
set_option maxHeartbeats 3200000 in
theorem seq_walk (A : Option Addr) (l c : Nat) (zs : List Int) (A' : Option Addr) (l' c' : Nat) (ts : List ByteArray) (w : World) (hn : NibCells w) (hI : IntsIn w A l zs) (hS : StrsIn w A' l' ts) :
    Calls Tryd.prog 6 #[.slice A l c, .slice A' l' c'] w fun e w' => e = .returned (.bool true) ∧ Below w.heap.size w w' := by
  have Hn := Lib.hid hn
  clear hn
  obtain ⟨hzl, hlm, hzc, hzr⟩ := hI
  obtain ⟨htl, hlm', htc, htr⟩ := hS
  unfold maxLen at hlm hlm' htr
  obtain ⟨n, hmn⟩ : ∃ n : Nat, mnI (mnI (l : Int) (l' : Int)) 20 = (n : Int) := ⟨(mnI (mnI (l : Int) (l' : Int)) 20).toNat, by unfold mnI; split <;> split <;> omega⟩
  have hnl : n ≤ l := by unfold mnI at hmn; split at hmn <;> split at hmn <;> omega
  have hnl' : n ≤ l' := by unfold mnI at hmn; split at hmn <;> split at hmn <;> omega
  have hn20 : n ≤ 20 := by unfold mnI at hmn; split at hmn <;> split at hmn <;> omega
  have Hzc := Lib.hid hzc
  have Htc := Lib.hid htc
  have Hzr := Lib.hid hzr
  have Htr := Lib.hid htr
  clear hzc htc hzr htr
  go_enter Tryd.func6, Tryd.ntmps6
  go_wp2_with fail
  refine (sane01_any _ Hn.out).mono ?_
  rintro e w1 ⟨rfl, hb1⟩
  go_wp2_with fail
  clear hmn
  go_loopw [7, 8, 9, 10, 11, 12] (fun v7 v8 _ _ _ _ wr => ∃ (i : Nat) (S : ByteArray), i ≤ n ∧ v8 = .int .i64 i ∧ v7 = .string S ∧ Hid (S.data.toList = seqL ((seqItems zs ts n).take i)) ∧ Below w.heap.size w wr) (fun _ v8 _ _ _ _ _ => n - (intOf v8).toNat)
  case atStart => exact ⟨0, ByteArray.empty, by omega, rfl, rfl, Lib.hid (by simp [seqL]), hb1⟩
  case round =>
    obtain ⟨i, S, hi, rfl, rfl, hSl, hB⟩ := hrel
    by_cases hlt : i < n
    · obtain ⟨b, off, hA, hbl, hcl⟩ := Hzc.out (by omega)
      obtain ⟨b', off', hA', hbl', hcl'⟩ := Htc.out (by omega)
      subst hA hA'
      obtain ⟨z, hz⟩ : ∃ z, zs.getD i 0 = z := ⟨_, rfl⟩
      obtain ⟨t, ht⟩ : ∃ t, ts.getD i ByteArray.empty = t := ⟨_, rfl⟩
      have hzr := Hzr.out z (by rw [← hz, List.getD_eq_getElem?_getD, List.getElem?_eq_getElem (by omega)]; exact List.getElem_mem _)
      have htr := Htr.out t (by rw [← ht, List.getD_eq_getElem?_getD, List.getElem?_eq_getElem (by omega)]; exact List.getElem_mem _)
      have hcz : wr.cell? ⟨b, off + i, none⟩ = some (.int .i64 z) := by rw [← hz]; exact (hB.cell (p := ⟨b, off + i, none⟩) hbl).trans (hcl i (by omega))
      have hct : wr.cell? ⟨b', off' + i, none⟩ = some (.string t) := by rw [← ht]; exact (hB.cell (p := ⟨b', off' + i, none⟩) hbl').trans (hcl' i (by omega))
      have HZ := Lib.hid hz
      have HT := Lib.hid ht
      have Hbl := Lib.hid hbl
      have Hbl' := Lib.hid hbl'
      have j0 : (0 : Int) ≤ i := by omega
      have j1 : (i : Int) < l := by omega
      have j2 : (i : Int) < l' := by omega
      have HSl := hSl
      have slen : S.size ≤ 2400 := by
        have h1 := seqL_len ((seqItems zs ts n).take i) (fun p hp => seqItems_small zs ts n p (List.mem_of_mem_take hp))
        have h2 : ((seqItems zs ts n).take i).length ≤ 20 := by simp [seqItems]; omega
        rw [← hSl.out, ba_size] at h1
        omega
      clear hz ht hcl hcl' hbl hbl'
      have hnr := numFrom_range z
      obtain ⟨nf, hnf⟩ : ∃ nf, numFrom z = nf := ⟨_, rfl⟩
      have cnf := fun W : World => numFrom_any z W hzr.1 hzr.2
      simp only [hnf] at cnf
      rw [hnf] at hnr
      have n1 : -maxInt ≤ nf := by unfold maxInt; omega
      have n2 : nf ≤ maxInt := by unfold maxInt; omega
      have cpi := fun W : World => putInt_is (putInt_val nf n1 n2) W
      obtain ⟨a, ha⟩ : ∃ a : ByteArray, ⟨(encInt nf).toArray⟩ = a := ⟨_, rfl⟩
      have sa : a.size ≤ 10 := by rw [← ha]; exact encInt_len nf
      simp only [ha] at cpi
      obtain ⟨T, hT, hT1, hT2, hT3⟩ := cut_len t 100 (by decide)
      obtain ⟨u, hu⟩ : ∃ u, t.extract 0 T = u := ⟨_, rfl⟩
      have su : u.size ≤ 100 := by rw [← hu]; simp; omega
      have cps := fun W : World => putStr_is (putStr_val u (by omega)) (by omega) W
      obtain ⟨q, hq⟩ : ∃ q : ByteArray, ⟨(encInt u.size).toArray⟩ ++ u = q := ⟨_, rfl⟩
      have sq : q.size ≤ 110 := by
        have := encInt_len u.size
        rw [← hq, ba_append_size]
        have e : (⟨(encInt u.size).toArray⟩ : ByteArray).size = (encInt u.size).length := rfl
        omega
      simp only [hq] at cps
      rw [← hu] at cps
      have Hcnf := Lib.hid cnf
      have Hcpi := Lib.hid cpi
      have Hcps := Lib.hid cps
      have HN := Lib.hid hnf
      have HA := Lib.hid ha
      have HU := Lib.hid hu
      have HQ := Lib.hid hq
      have HT3 := Lib.hid hT3
      clear cnf cpi cps hnf ha hu hq hT3
      have j3 : (0 : Int) ≤ T := by omega
      have j4 : (T : Int) ≤ t.size := by omega
      go_wp2_with fail
      refine (Hcnf.out _).mono ?_
      rintro e w2 ⟨rfl, hb2⟩
      go_wp2_with fail
      refine (Hcpi.out _).mono ?_
      rintro e w3 ⟨rfl, hb3⟩
      have hb23 := Below_then hb2 hb3
      have hct3 : w3.cell? ⟨b', off' + i, none⟩ = some (.string t) := (hb23.cell (p := ⟨b', off' + i, none⟩) (Nat.lt_of_lt_of_le Hbl'.out hB.size)).trans hct
      clear hcz hct
      go_wp2_with fail
      go_region_held3 (fun W' => W'.cell? ⟨b', off' + i, none⟩ = some (.string t)) (first | go_keep | (rw [hb4.cell (p := ⟨b', off' + i, none⟩) (Nat.lt_of_lt_of_le Hbl'.out (Nat.le_trans hB.size hb23.size))]; assumption))
        ((go_at_call 19; refine (Hcps.out _).mono ?_; rintro e w4 ⟨rfl, hb4⟩))
      have hb4' := hB.trans ((Below_then hb23.drew hb4).mono hB.size)
      go_wp2_with fail
      go_roundw
      case rel =>
        refine ⟨i + 1, S ++ a ++ q, by omega, by go_num, by simp, Lib.hid ?_, hb4'⟩
        rw [seqItems_take zs ts n i (by omega), seqL_snoc, ba_append, ba_append, hSl.out, ← HA.out, ← HQ.out, ba_append, ba_mk, ba_mk, HZ.out, HT.out, HN.out, List.append_assoc]
        have e : t.extract 0 (min t.size 100) = u := by rw [← HU.out, HT3.out]; rfl
        rw [e]
        rfl
      case measure => simp [intOf]; omega
    · obtain rfl : i = n := by omega
      go_wp2_with fail
      have hSa : S.data.toList = seqL (seqItems zs ts i) := by
        rw [hSl.out, List.take_of_length_le (by simp [seqItems])]
      have hSs : S.size ≤ 2400 := by
        have h1 := seqL_len (seqItems zs ts i) (seqItems_small zs ts i)
        have h2 : (seqItems zs ts i).length = i := by simp [seqItems]
        rw [← hSa, ba_size] at h1
        omega
      have HSa := Lib.hid hSa
      clear hSa hSl
      go_loopw [13, 14, 15, 16, 17, 18, 19, 20] (fun v13 v14 _ _ _ _ _ _ wz => ∃ (j A : Nat), j ≤ i ∧ v14 = .int .i64 j ∧ v13 = .int .i64 A ∧ Hid ((seqL ((seqItems zs ts i).take j)).length = A) ∧ Below w.heap.size w wz) (fun _ v14 _ _ _ _ _ _ _ => i - (intOf v14).toNat)
      case atStart => exact ⟨0, 0, by omega, rfl, rfl, Lib.hid (by simp [seqL]), hB⟩
      case round =>
        obtain ⟨j, A, hj, rfl, rfl, hAl, hB⟩ := hrel
        by_cases hlt : j < i
        · obtain ⟨b, off, hA, hbl, hcl⟩ := Hzc.out (by omega)
          obtain ⟨b', off', hA', hbl', hcl'⟩ := Htc.out (by omega)
          subst hA hA'
          obtain ⟨z, hz⟩ : ∃ z, zs.getD j 0 = z := ⟨_, rfl⟩
          obtain ⟨t, ht⟩ : ∃ t, ts.getD j ByteArray.empty = t := ⟨_, rfl⟩
          have hzr := Hzr.out z (by rw [← hz, List.getD_eq_getElem?_getD, List.getElem?_eq_getElem (by omega)]; exact List.getElem_mem _)
          have htr := Htr.out t (by rw [← ht, List.getD_eq_getElem?_getD, List.getElem?_eq_getElem (by omega)]; exact List.getElem_mem _)
          have hcz : wr.cell? ⟨b, off + j, none⟩ = some (.int .i64 z) := by rw [← hz]; exact (hB.cell (p := ⟨b, off + j, none⟩) hbl).trans (hcl j (by omega))
          have hct : wr.cell? ⟨b', off' + j, none⟩ = some (.string t) := by rw [← ht]; exact (hB.cell (p := ⟨b', off' + j, none⟩) hbl').trans (hcl' j (by omega))
          have Hbl := Lib.hid hbl
          have Hbl' := Lib.hid hbl'
          have j0 : (0 : Int) ≤ j := by omega
          have j1 : (j : Int) < l := by omega
          have j2 : (j : Int) < l' := by omega
          clear hcl hcl' hbl hbl'
          have hnr := numFrom_range z
          obtain ⟨nf, hnf⟩ : ∃ nf, numFrom z = nf := ⟨_, rfl⟩
          have cnf := fun W : World => numFrom_any z W hzr.1 hzr.2
          simp only [hnf] at cnf
          rw [hnf] at hnr
          have n1 : -maxInt ≤ nf := by unfold maxInt; omega
          have n2 : nf ≤ maxInt := by unfold maxInt; omega
          obtain ⟨T, hT, hT1, hT2, hT3⟩ := cut_len t 100 (by decide)
          obtain ⟨u, hu⟩ : ∃ u, t.extract 0 T = u := ⟨_, rfl⟩
          have su : u.size ≤ 100 := by rw [← hu]; simp; omega
          obtain ⟨B, C, hC, hBs, hCs, hv1, hv2⟩ := seq_read S (seqItems zs ts i) j (by simp [seqItems]; omega) HSa.out nf u (by rw [seqItems_at zs ts i j hlt, hz, ht, hnf, ← hu, hT3]; rfl) n1 n2 (by omega) A hAl.out
          have c1 := Lib.hid (int_is hv1 (by omega))
          have c2 := Lib.hid (str_is hv2 (by omega))
          have Hcnf := Lib.hid cnf
          have HC := Lib.hid hC
          clear cnf hnf hv1 hv2 hC hz ht hT3
          have j3 : (0 : Int) ≤ T := by omega
          have j4 : (T : Int) ≤ t.size := by omega
          have hu2 : t.extract 0 T = u := hu
          clear hu
          go_wp2_with fail
          refine (c1.out _).mono ?_
          rintro e w' ⟨rfl, rfl⟩
          go_wp2_with fail
          refine (c2.out _).mono ?_
          rintro e w' ⟨rfl, rfl⟩
          go_wp2_with fail
          go_region_held3 (fun W' => W'.cell? ⟨b', off' + j, none⟩ = some (.string t) ∧ W'.cell? ⟨b, off + j, none⟩ = some (.int .i64 z)) (first | go_keep | (rw [hb4.cell (p := ⟨b', off' + j, none⟩) (Nat.lt_of_lt_of_le Hbl'.out hB.size), hb4.cell (p := ⟨b, off + j, none⟩) (Nat.lt_of_lt_of_le Hbl.out hB.size)]; assumption))
            ((go_at_call 11; refine (Hcnf.out _).mono ?_; rintro e w4 ⟨rfl, hb4⟩))
          go_wp2_with fail
          go_roundw
          case rel => exact ⟨j + 1, C, by omega, by go_num, rfl, HC, (hB.drew).trans (hb4.mono hB.size)⟩
          case measure => simp [intOf]; omega
        · obtain rfl : j = i := by omega
          have hA2 : S.size = A := by rw [← hAl.out, List.take_of_length_le (by simp [seqItems]), ← HSa.out, ba_size]
          have c1 := Lib.hid (int_is (seq_end S A hA2) (by omega))
          go_wp2_with fail
          refine (c1.out _).mono ?_
          rintro e w' ⟨rfl, rfl⟩
          go_wp2_with fail
          go_ret
          refine ⟨?_, hB⟩
          simp
end Go.Proofs.YtlenfhliflchgaaDoor
