/- WireRoundTrip: the walk. -/
import Derived.Test.YtlenfhliflchgaaDoorLaw01Base
namespace Go.Proofs.YtlenfhliflchgaaDoor
open Go.RowKit

attribute [local go_sem] min2_i min_two_i
set_option maxRecDepth 100000 in
set_option maxHeartbeats 1600000 in
theorem roundTrip_walk (c : Int) (t p q : ByteArray) (w : World) (hn : NibCells w) (hc1 : -9223372036854775808 ≤ c) (hc2 : c ≤ 9223372036854775807)
    (_ht : t.size ≤ 140737488351232) (_hp : p.size ≤ maxLen) (_hq : q.size ≤ maxLen) :
    Calls Tryd.prog 4 #[.int .i64 c, .string t, .agg #[.string p, .string q]] w fun e w' => e = .returned (.bool true) ∧ Below w.heap.size w w' := by
  have Hn := Lib.hid hn
  clear hn
  go_enter Tryd.func4, Tryd.ntmps4
  go_wp2_with fail
  refine (sane01_any _ (Hn.out.below ((Below.refl _ _).alloc (Nat.le_refl _) _))).mono ?_
  rintro e w1 ⟨rfl, hb1⟩
  go_wp2_with fail
  refine (numFrom_any _ _ (by omega) (by omega)).mono ?_
  rintro e w2 ⟨rfl, hb2⟩
  have hc0 : w2.cell? ⟨w.heap.size, 0, none⟩ = some (.string p) := (hb2.cell (p := ⟨w.heap.size, 0, none⟩) (show w.heap.size < w1.heap.size by have := hb1.size; simp at this; omega)).trans ((hb1.cell (p := ⟨w.heap.size, 0, none⟩) (by simp)).trans (by simp))
  have hc1' : w2.cell? ⟨w.heap.size, 1, none⟩ = some (.string q) := (hb2.cell (p := ⟨w.heap.size, 1, none⟩) (show w.heap.size < w1.heap.size by have := hb1.size; simp at this; omega)).trans ((hb1.cell (p := ⟨w.heap.size, 1, none⟩) (by simp)).trans (by simp))
  obtain ⟨P, hP, hP1, hP2, hP3⟩ := cut_len p 200 (by decide)
  obtain ⟨Q, hQ, hQ1, hQ2, hQ3⟩ := cut_len q 200 (by decide)
  obtain ⟨T, hT, hT1, hT2, hT3⟩ := cut_len t 200 (by decide)
  clear hP3 hQ3 hT3
  go_wp2_with fail
  have hnr := numFrom_range c
  obtain ⟨n, hnn⟩ : ∃ n, numFrom c = n := ⟨_, rfl⟩
  rw [hnn] at hnr ⊢
  obtain ⟨p', hp'⟩ : ∃ p', p.extract 0 P = p' := ⟨_, rfl⟩
  obtain ⟨q', hq'⟩ : ∃ q', q.extract 0 Q = q' := ⟨_, rfl⟩
  obtain ⟨t', ht'⟩ : ∃ t', t.extract 0 T = t' := ⟨_, rfl⟩
  have sp : p'.size = P := by rw [← hp']; simp; omega
  have sq : q'.size = Q := by rw [← hq']; simp; omega
  have st : t'.size = T := by rw [← ht']; simp; omega
  rw [hp', hq', ht']
  clear hp' hq' ht' hnn hc0 hc1' hP hQ hT
  have sp2 : p'.size ≤ 200 := by omega
  have sq2 : q'.size ≤ 200 := by omega
  have st2 : t'.size ≤ 200 := by omega
  clear sp sq st
  have hm1 : -maxInt ≤ n := by unfold maxInt; omega
  have hm2 : n ≤ maxInt := by unfold maxInt; omega
  obtain ⟨a, ha⟩ : ∃ a : ByteArray, ⟨(encInt n).toArray⟩ = a := ⟨_, rfl⟩
  obtain ⟨b, hb⟩ : ∃ b : ByteArray, ⟨(encInt t'.size).toArray⟩ ++ t' = b := ⟨_, rfl⟩
  have sa : a.size = (encInt n).length := by rw [← ha]; rfl
  have sb : b.size = (encInt t'.size).length + t'.size := by rw [← hb, ba_append_size]; rfl
  have sa2 : a.size ≤ 10 := by rw [sa]; exact encInt_len n
  have sb2 : b.size ≤ 210 := by have := encInt_len t'.size; omega
  have v1 := putInt_val n hm1 hm2
  have v2 := putStr_val t' (by omega)
  have v3 := intAt_emb p' q' n hm1 hm2
  have v4 := strAt_emb p' q' t' (by omega)
  rw [ha, ← sa] at v3
  rw [hb, ← sb] at v4
  rw [ha] at v1
  rw [hb] at v2
  have c1 := Lib.hid (putInt_is v1)
  have c2 := Lib.hid (putStr_is v2 (by omega))
  have c3 := Lib.hid (int_is v3 (by rw [ba_append_size, ba_append_size]; omega))
  have c4 := Lib.hid (str_is v4 (by rw [ba_append_size, ba_append_size]; omega))
  clear v1 v2 v3 v4 ha hb sa sb
  refine (c1.out _).mono ?_
  rintro e w3 ⟨rfl, hb3⟩
  go_wp2_with fail
  refine (c2.out _).mono ?_
  rintro e w4 ⟨rfl, hb4⟩
  go_wp2_with fail
  refine (c3.out _).mono ?_
  rintro e w' ⟨rfl, rfl⟩
  go_wp2_with fail
  refine (c4.out _).mono ?_
  rintro e w' ⟨rfl, rfl⟩
  go_wp2_with fail
  go_ret
  exact ⟨rfl, Below_then (Below_then (Below_then (((Below.refl _ _).alloc (Nat.le_refl _) _).trans (hb1.mono (by simp))) hb2) hb3) hb4⟩
end Go.Proofs.YtlenfhliflchgaaDoor
