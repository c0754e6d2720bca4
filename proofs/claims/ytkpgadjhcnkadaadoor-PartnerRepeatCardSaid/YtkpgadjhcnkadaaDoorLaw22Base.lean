/- The helpers of the statements of layer 22: pick, Words, Deliver, Kill. -/
import Derived.Test.YtkpgadjhcnkadaaDoorMsg
import Derived.Test.YtkpgadjhcnkadaaDoorRef19
namespace Go.Proofs.YtkpgadjhcnkadaaDoor
open Go.RowKit

def pickI (c n : Int) : Int := (if c < 0 then -(c + 1) else c) % n
theorem pickI_range (c n : Int) (h : 1 ≤ n) : 0 ≤ pickI c n ∧ pickI c n < n := ⟨Int.emod_nonneg _ (by omega), Int.emod_lt_of_pos _ (by omega)⟩
set_option maxHeartbeats 400000 in
theorem pick22_any (c n : Int) (w : World) (hc1 : -9223372036854775808 ≤ c) (hc2 : c ≤ 9223372036854775807) (hn : 1 ≤ n) (hn2 : n ≤ 9223372036854775807) :
    Calls Tryd.prog 13 #[.int .i64 c, .int .i64 n] w fun e w' => e = .returned (.int .i64 (pickI c n)) ∧ w = w' := by
  by_cases h : c < 0
  · have d : decide (c < 0) = true := by simpa using h
    have e : Hid (pickI c n = -((c + 1).tmod n)) := Lib.hid (by unfold pickI; rw [if_pos h, ← Int.neg_tmod, Int.tmod_eq_emod_of_nonneg (by omega)])
    go_enter Tryd.func13, Tryd.ntmps13
    go_wp2
    go_ret
    exact ⟨congrArg (fun z => Ending.returned (.int .i64 z)) e.out.symm, rfl⟩
  · have d : decide (c < 0) = false := by simpa using h
    have e : Hid (pickI c n = c % n) := Lib.hid (by unfold pickI; rw [if_neg h])
    go_enter Tryd.func13, Tryd.ntmps13
    go_wp2
    go_ret
    exact ⟨congrArg (fun z => Ending.returned (.int .i64 z)) e.out.symm, rfl⟩

def wordTab : List ByteArray := [⟨#[84, 104, 101, 32, 99, 111, 117, 110, 99, 105, 108, 32, 118, 111, 116, 101, 100, 32, 111, 110, 32, 116, 104, 101, 32, 98, 117, 100, 103, 101, 116, 46, 32]⟩, ⟨#[82, 97, 105, 110, 32, 105, 115, 32, 101, 120, 112, 101, 99, 116, 101, 100, 32, 105, 110, 32, 116, 104, 101, 32, 110, 111, 114, 116, 104, 46, 32]⟩, ⟨#[84, 104, 101, 32, 109, 117, 115, 101, 117, 109, 32, 111, 112, 101, 110, 115, 32, 97, 103, 97, 105, 110, 46, 32]⟩, ⟨#[84, 119, 111, 32, 98, 114, 105, 100, 103, 101, 115, 32, 97, 114, 101, 32, 99, 108, 111, 115, 101, 100, 46, 32]⟩, ⟨#[]⟩]
def wordAt (j : Nat) : ByteArray := wordTab.getD j .empty
theorem wordAt_size (j : Nat) : (wordAt j).size ≤ 33 := by
  rcases Nat.lt_or_ge j 5 with h | h
  · have : ∀ i, i < 5 → (wordAt i).size ≤ 33 := by decide
    exact this j h
  · unfold wordAt
    rw [List.getD_eq_getElem?_getD, List.getElem?_eq_none (by simpa [wordTab] using h)]
    decide
/-- i more pieces, from the number k. -/
def wordsGo : Nat → Nat → ByteArray → ByteArray
  | 0, _, s => s
  | i + 1, k, s => wordsGo i (k / 5) (s ++ wordAt (k % 5))
def wordsF (c : Int) : ByteArray := wordsGo 4 (pickI c 625).toNat .empty
theorem wordsGo_size : ∀ (i k : Nat) (s : ByteArray), (wordsGo i k s).size ≤ s.size + 33 * i
  | 0, _, s => by simp [wordsGo]
  | i + 1, k, s => by
    have h := wordsGo_size i (k / 5) (s ++ wordAt (k % 5))
    have := wordAt_size (k % 5)
    rw [ba_append_size] at h
    unfold wordsGo
    omega
theorem wordsF_size (c : Int) : (wordsF c).size ≤ 132 := by
  have := wordsGo_size 4 (pickI c 625).toNat .empty
  simpa [wordsF] using this

set_option maxRecDepth 100000 in
set_option maxHeartbeats 3200000 in
theorem words_any (c : Int) (w : World) (hc1 : -9223372036854775808 ≤ c) (hc2 : c ≤ 9223372036854775807) :
    Calls Tryd.prog 27 #[.int .i64 c] w fun e w' => e = .returned (.string (wordsF c)) ∧ Below w.heap.size w w' := by
  obtain ⟨v, hv⟩ : ∃ v, wordsF c = v := ⟨_, rfl⟩
  rw [hv]
  have hr := pickI_range c 625 (by decide)
  obtain ⟨k, hk⟩ : ∃ k : Nat, pickI c 625 = k := ⟨(pickI c 625).toNat, by omega⟩
  unfold wordsF at hv
  rw [hk, Int.toNat_natCast] at hv
  have HV := Lib.hid hv
  have cp := fun W => pick22_any c 625 W hc1 hc2 (by decide) (by decide)
  simp only [hk] at cp
  have CP := Lib.hid cp
  have hk1 : k ≤ 1000 := by omega
  clear cp hk hv hr
  go_enter Tryd.func27, Tryd.ntmps27
  go_wp2_with fail
  refine (CP.out _).mono ?_
  rintro e w' ⟨rfl, rfl⟩
  go_wp2_with fail
  obtain ⟨W, hW⟩ : ∃ W, w.alloc (.cells #[.string ⟨#[84, 104, 101, 32, 99, 111, 117, 110, 99, 105, 108, 32, 118, 111, 116, 101, 100, 32, 111, 110, 32, 116, 104, 101, 32, 98, 117, 100, 103, 101, 116, 46, 32]⟩, .string ⟨#[82, 97, 105, 110, 32, 105, 115, 32, 101, 120, 112, 101, 99, 116, 101, 100, 32, 105, 110, 32, 116, 104, 101, 32, 110, 111, 114, 116, 104, 46, 32]⟩, .string ⟨#[84, 104, 101, 32, 109, 117, 115, 101, 117, 109, 32, 111, 112, 101, 110, 115, 32, 97, 103, 97, 105, 110, 46, 32]⟩, .string ⟨#[84, 119, 111, 32, 98, 114, 105, 100, 103, 101, 115, 32, 97, 114, 101, 32, 99, 108, 111, 115, 101, 100, 46, 32]⟩, .string ⟨#[]⟩] 9) = W := ⟨_, rfl⟩
  have hB : Below w.heap.size w W := by rw [← hW]; exact (Below.refl _ _).alloc (Nat.le_refl _) _
  have hc : ∀ j, j < 5 → W.cell? ⟨w.heap.size, j, none⟩ = some (.string (wordAt j)) := by
    intro j hj
    rw [← hW]
    refine cell_new_at _ _ _ _ _ ?_
    have : j = 0 ∨ j = 1 ∨ j = 2 ∨ j = 3 ∨ j = 4 := by omega
    rcases this with rfl | rfl | rfl | rfl | rfl <;> rfl
  rw [hW]
  have HC := Lib.hid hc
  clear hW hc
  go_loopw [0, 4, 5] (fun v0 v4 v5 wr => ∃ (i n : Nat) (S : ByteArray), i ≤ 4 ∧ v5 = .int .i64 i ∧ v0 = .int .i64 n ∧ n ≤ 1000 ∧ v4 = .string S ∧ S.size ≤ 33 * i ∧ Hid (wordsGo (4 - i) n S = v) ∧ wr = W) (fun _ _ v5 _ => 4 - (intOf v5).toNat)
  case atStart => exact ⟨0, k, .empty, by omega, rfl, rfl, by omega, rfl, by simp, HV, rfl⟩
  case round =>
    obtain ⟨i, n, S, hi, rfl, rfl, hn, rfl, hS, H, rfl⟩ := hrel
    by_cases hlt : i < 4
    · have t0 : decide ((i : Int) < 4) = true := by simp; omega
      obtain ⟨J, hJ⟩ : ∃ J, n % 5 = J := ⟨_, rfl⟩
      obtain ⟨Q, hQ⟩ : ∃ Q, n / 5 = Q := ⟨_, rfl⟩
      have eJ : (n : Int) % 5 = (J : Int) := by omega
      have eQ : (n : Int) / 5 = (Q : Int) := by omega
      have hJ5 : J < 5 := by omega
      have hQ5 : Q ≤ 1000 := by omega
      have j1 : (0 : Int) ≤ J := by omega
      have j2 : (J : Int) < 5 := by omega
      have hcell := HC.out J hJ5
      obtain ⟨x, hx⟩ : ∃ x, wordAt J = x := ⟨_, rfl⟩
      have hxs : x.size ≤ 33 := by rw [← hx]; exact wordAt_size J
      rw [hx] at hcell
      have HX := Lib.hid hx
      have HJ := Lib.hid hJ
      have HQ := Lib.hid hQ
      clear hx hJ hQ
      go_wp2_with fail
      go_roundw
      case rel =>
        refine ⟨i + 1, Q, S ++ x, by omega, by go_num, by go_num, by have := HQ.out; omega, rfl, by rw [ba_append_size]; omega, Lib.hid ?_, trivial⟩
        have h := H.out
        rw [show 4 - i = (4 - (i + 1)) + 1 by omega] at h
        unfold wordsGo at h
        rw [HJ.out, HQ.out, HX.out] at h
        exact h
      case measure => simp [intOf]; omega
    · obtain rfl : i = 4 := by omega
      have h := H.out
      simp only [Nat.sub_self, wordsGo] at h
      subst h
      go_wp2_with fail
      go_ret
      exact ⟨rfl, hB⟩

set_option maxRecDepth 100000 in
set_option maxHeartbeats 1600000 in
theorem kill_any (id seq story : Int) (w : World) :
    Calls Tryd.prog 26 #[.int .i64 id, .int .i64 seq, .int .i64 story] w fun e w' => e = .returned (msgV ⟨2, id, seq, story, 0, 0, .empty⟩) ∧ Below w.heap.size w w' := by
  go_enter Tryd.func26, Tryd.ntmps26
  go_wp2_with fail
  exact bodyPost_ret (by simp [results, Tryd.results26, go_sem]; rfl) rfl ⟨rfl, (Below.refl _ _).alloc (Nat.le_refl _) _⟩
/-- The delivery of next against base. -/
def deliverM (id seq story : Int) (base next : ByteArray) : Msg := ⟨1, id, seq, story, sumB base, sumB next, diffF base next⟩
set_option maxRecDepth 100000 in
set_option maxHeartbeats 1600000 in
theorem deliver_any (id seq story : Int) (base next : ByteArray) (w : World) (hb : base.size ≤ 4611686018427387904) (hn : next.size ≤ 4611686018427387904) :
    Calls Tryd.prog 24 #[.int .i64 id, .int .i64 seq, .int .i64 story, .string base, .string next] w fun e w' => e = .returned (msgV (deliverM id seq story base next)) ∧ Below w.heap.size w w' := by
  obtain ⟨sb, hsb⟩ : ∃ x, sumB base = x := ⟨_, rfl⟩
  obtain ⟨sn, hsn⟩ : ∃ x, sumB next = x := ⟨_, rfl⟩
  obtain ⟨D, hD⟩ : ∃ x, diffF base next = x := ⟨_, rfl⟩
  unfold deliverM
  have c1 := Lib.hid (fun W => refSum_is hsb (by omega) W)
  have c2 := Lib.hid (fun W => refSum_is hsn (by omega) W)
  have c3 := fun W => refDiff_any base next W hb hn
  rw [hD] at c3
  have C3 := Lib.hid c3
  rw [hsb, hsn, hD]
  clear hsb hsn hD c3
  go_enter Tryd.func24, Tryd.ntmps24
  go_wp2_with fail
  obtain ⟨w0, hw0⟩ : ∃ w0, w.alloc (.cells #[.int .i64 0, .int .i64 0, .int .i64 0, .int .i64 0, .int .i64 0, .int .i64 0, .string ⟨#[]⟩] 33) = w0 := ⟨_, rfl⟩
  rw [hw0]
  refine (c1.out _).mono ?_
  rintro e w' ⟨rfl, rfl⟩
  go_wp2_with fail
  refine (c2.out _).mono ?_
  rintro e w' ⟨rfl, rfl⟩
  go_wp2_with fail
  refine (C3.out _).mono ?_
  rintro e w1 ⟨rfl, hb1⟩
  have hh : w1.heap[w.heap.size]? = some (.cells #[.int .i64 0, .int .i64 0, .int .i64 0, .int .i64 0, .int .i64 0, .int .i64 0, .string ⟨#[]⟩] 33 (0, 0)) := by
    rw [hb1.block _ (by rw [← hw0]; simp), ← hw0]
    unfold World.alloc; simp
  have hB1 : Below w.heap.size w w1 := by
    have h0 : Below w.heap.size w w0 := by rw [← hw0]; exact (Below.refl _ _).alloc (Nat.le_refl _) _
    exact h0.trans (hb1.mono h0.size)
  clear hw0 hb1
  have c0 : w1.cell? ⟨w.heap.size, 0, none⟩ = some (.int .i64 0) := by rw [Lib.cell_of_heap hh]; rfl
  have z0 : w1.frozen? ⟨w.heap.size, 0, none⟩ = false := Lib.frozen_of_heap hh 0
  have c1 : w1.cell? ⟨w.heap.size, 1, none⟩ = some (.int .i64 0) := by rw [Lib.cell_of_heap hh]; rfl
  have z1 : w1.frozen? ⟨w.heap.size, 1, none⟩ = false := Lib.frozen_of_heap hh 1
  have c2 : w1.cell? ⟨w.heap.size, 2, none⟩ = some (.int .i64 0) := by rw [Lib.cell_of_heap hh]; rfl
  have z2 : w1.frozen? ⟨w.heap.size, 2, none⟩ = false := Lib.frozen_of_heap hh 2
  have c3 : w1.cell? ⟨w.heap.size, 3, none⟩ = some (.int .i64 0) := by rw [Lib.cell_of_heap hh]; rfl
  have z3 : w1.frozen? ⟨w.heap.size, 3, none⟩ = false := Lib.frozen_of_heap hh 3
  have c4 : w1.cell? ⟨w.heap.size, 4, none⟩ = some (.int .i64 0) := by rw [Lib.cell_of_heap hh]; rfl
  have z4 : w1.frozen? ⟨w.heap.size, 4, none⟩ = false := Lib.frozen_of_heap hh 4
  have c5 : w1.cell? ⟨w.heap.size, 5, none⟩ = some (.int .i64 0) := by rw [Lib.cell_of_heap hh]; rfl
  have z5 : w1.frozen? ⟨w.heap.size, 5, none⟩ = false := Lib.frozen_of_heap hh 5
  have c6 : w1.cell? ⟨w.heap.size, 6, none⟩ = some (.string ⟨#[]⟩) := by rw [Lib.cell_of_heap hh]; rfl
  have z6 : w1.frozen? ⟨w.heap.size, 6, none⟩ = false := Lib.frozen_of_heap hh 6
  clear hh
  go_wp2_with fail
  refine bodyPost_ret (v := msgV ⟨1, id, seq, story, sb, sn, D⟩) ?_ rfl ⟨rfl, ?_⟩
  · simp [results, Tryd.results24, go_sem, c0, c1, c2, c3, c4, c5, c6, msgV]
  · exact (((((((hB1.setCell (p := ⟨w.heap.size, 0, none⟩) (Nat.le_refl _) _).setCell (p := ⟨w.heap.size, 1, none⟩) (Nat.le_refl _) _).setCell (p := ⟨w.heap.size, 2, none⟩) (Nat.le_refl _) _).setCell (p := ⟨w.heap.size, 3, none⟩) (Nat.le_refl _) _).setCell (p := ⟨w.heap.size, 4, none⟩) (Nat.le_refl _) _).setCell (p := ⟨w.heap.size, 5, none⟩) (Nat.le_refl _) _).setCell (p := ⟨w.heap.size, 6, none⟩) (Nat.le_refl _) _)
end Go.Proofs.YtkpgadjhcnkadaaDoor
