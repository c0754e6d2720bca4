/- The fixed calls of the statements of layer 22. -/
import Derived.Test.YtkpgadjhcnkadaaDoorLaw22Base
import Derived.Test.YtkpgadjhcnkadaaDoorReceive3
import Derived.Test.YtkpgadjhcnkadaaDoorItems
import Derived.Test.YtkpgadjhcnkadaaDoorDeltaPure2
set_option linter.unusedSimpArgs false
set_option linter.unusedVariables false
namespace Go.Proofs.YtkpgadjhcnkadaaDoor
open Go.RowKit

def abcT : ByteArray := ⟨#[97, 98, 99]⟩
def abcD : ByteArray := ⟨#[0, 238, 254, 217, 228, 6, 0, 6, 97, 98, 99]⟩
def saneM : Msg := ⟨1, 2, 3, 7, 0, 910901175, abcD⟩
def saneB : Msg := ⟨1, 2, 4, 7, 5, 0, abcD⟩
def saneK : Msg := ⟨2, 2, 4, 7, 0, 0, .empty⟩
def saneL1 : List (Int × Held) := [(7, ⟨3, abcT, true⟩)]
def saneL2 : List (Int × Held) := [(7, ⟨4, .empty, false⟩)]
theorem sane_deliver : deliverM 2 3 7 ⟨#[]⟩ abcT = saneM := by kernel_rfl
theorem sane_msg : msgV saneM = .agg #[.int .i64 1, .int .i64 2, .int .i64 3, .int .i64 7, .int .i64 0, .int .i64 910901175, .string abcD] := rfl
theorem sane_sum : sumB abcT = 910901175 := by kernel_rfl
theorem sane_1 : recvF 2 [] saneM = (some (ackM 2 3 7 910901175), saneL1) := by kernel_rfl
theorem sane_2 : recvF 2 saneL1 saneM = (some (ackM 2 3 7 910901175), saneL1) := by kernel_rfl
theorem sane_3 : recvF 2 saneL1 saneB = (some (rejM 2 4 7 910901175), saneL1) := by kernel_rfl
theorem sane_4 : recvF 2 saneL1 saneK = (some (ackM 2 4 7 0), saneL2) := by kernel_rfl
theorem sane_5 : recvF 2 saneL2 saneM = (some (rejM 2 4 7 0), saneL2) := by kernel_rfl
theorem sane_6 : itemsF saneL2 = [] := by kernel_rfl
theorem lt_heap {w : World} {i : Nat} {o : Obj} (h : w.heap[i]? = some o) : i < w.heap.size := by
  rcases Nat.lt_or_ge i w.heap.size with h' | h'
  · exact h'
  · simp [Array.getElem?_eq_none h'] at h
theorem same_new {B : Nat} {v : Value} {a : Msg} {w : World} (h : IsAns B w v (some a)) :
    Calls Tryd.prog 17 #[v, .slice (some ⟨w.heap.size, 0, none⟩) 1 1] (w.alloc (.cells (msgCells a) 33)) fun e w' => e = .returned (.bool true) ∧ Below w.heap.size w w' := by
  have hal := (Below.refl w.heap.size w).alloc (Nat.le_refl _) (.cells (msgCells a) 33)
  obtain ⟨g, h1, h2, h3⟩ := h
  have h4 : IsAns B (w.alloc (.cells (msgCells a) 33)) v (some a) := ⟨g, h1, h2, (hal.block g (lt_heap h3)).trans h3⟩
  exact (same_any (B2 := 0) h4 ⟨_, Nat.zero_le _, rfl, World.alloc_heap_new w _⟩).mono fun e w' ⟨he, hb⟩ => ⟨he, hal.trans (hb.mono hal.size)⟩
/-- Receive, in a call that began at block B0: the partner's map is the call's own. -/
theorem recv_at {B0 p b : Nat} {id : Int} {l : List (Int × Held)} {w0 w : World} {a0 a1 : Addr} (hB : Below B0 w0 w) (hsz : B0 ≤ w.heap.size) (hn : NibCells w) (he : ErrCells a0 a1 w) (hp : IsP p b id l w) (hb : B0 ≤ b) (m : Msg) (hd : m.data.size ≤ 4611686018427387904) (ht : (mapAt l m.story).text.size ≤ 4611686018427387904) {o : Option Msg} {l' : List (Int × Held)} (hr : recvF id l m = (o, l')) :
    Calls Tryd.prog 18 #[.pointer (some ⟨p, 0, none⟩), msgV m] w fun e w' => ∃ v, e = .returned v ∧ IsAns w.heap.size w' v o ∧ IsP p b id l' w' ∧ Below B0 w0 w' ∧ w.grownBy w' (some b) :=
  (receive_any a0 a1 hn he hp m hd ht).mono fun e w' ⟨v, h1, h2, h3, h4⟩ => by
    rw [hr] at h2 h3
    exact ⟨v, h1, h2, h3, hB.grown h4 hsz (fun k hk => by cases hk; exact hb), h4⟩

set_option maxRecDepth 100000 in
set_option maxHeartbeats 6400000 in
theorem sane22_any (a0 a1 : Addr) (w : World) (hn : NibCells w) (he : ErrCells a0 a1 w) :
    Calls Tryd.prog 12 #[] w fun e w' => e = .returned (.bool true) ∧ Below w.heap.size w w' := by
  have hN := Lib.hid hn
  have hE := Lib.hid he
  have CD := fun W => deliver_any 2 3 7 ⟨#[]⟩ abcT W (by decide) (by decide)
  rw [sane_deliver] at CD
  have CDh := Lib.hid CD
  have CSum := Lib.hid (fun W => refSum_is sane_sum (by decide) W)
  clear hn he CD
  go_enter Tryd.func12, Tryd.ntmps12
  go_wp2_with fail
  refine (new_in 2 w (by decide) (by decide)).mono ?_
  rintro e w1 ⟨rfl, hp1, hB1, hs1⟩
  go_wp2_with fail
  refine (new_out 9 w1 (.inr (by decide))).mono ?_
  rintro e _ ⟨rfl, rfl⟩
  go_wp2_with fail
  refine (CDh.out _).mono ?_
  rintro e w2 ⟨rfl, hb2⟩
  have hB2 := Below_then hB1 hb2
  have hp2 := hp1.below hb2 hp1.lt hp1.held.lt
  rw [sane_msg]
  go_wp2_with fail
  obtain ⟨q, hq⟩ : ∃ q, w2.heap.size = q := ⟨_, rfl⟩
  obtain ⟨w3, hw3⟩ : ∃ w3, w2.alloc (.cells #[.int .i64 1, .int .i64 2, .int .i64 3, .int .i64 7, .int .i64 0, .int .i64 910901175, .string abcD] 33) = w3 := ⟨_, rfl⟩
  have hb3 : Below w2.heap.size w2 w3 := by rw [← hw3]; exact (Below.refl _ _).alloc (Nat.le_refl _) _
  have hB3 := Below_then hB2 hb3
  have hp3 := hp2.below hb3 hp2.lt hp2.held.lt
  have m3 : w3.heap[q]? = some (.cells #[.int .i64 1, .int .i64 2, .int .i64 3, .int .i64 7, .int .i64 0, .int .i64 910901175, .string abcD] 33 (0, 0)) := by rw [← hw3, ← hq]; exact World.alloc_heap_new w2 _
  have hqlt : q < w3.heap.size := by rw [← hw3, ← hq]; simp
  have hql : w1.heap.size ≤ q := by rw [← hq]; exact hb2.size
  rw [hw3, hq]
  clear hw3 hq
  have k3_0 : w3.cell? ⟨q, 0, none⟩ = some (.int .i64 1) := Lib.cell_of_heap m3 0
  have k3_1 : w3.cell? ⟨q, 1, none⟩ = some (.int .i64 2) := Lib.cell_of_heap m3 1
  have k3_2 : w3.cell? ⟨q, 2, none⟩ = some (.int .i64 3) := Lib.cell_of_heap m3 2
  have k3_3 : w3.cell? ⟨q, 3, none⟩ = some (.int .i64 7) := Lib.cell_of_heap m3 3
  have k3_4 : w3.cell? ⟨q, 4, none⟩ = some (.int .i64 0) := Lib.cell_of_heap m3 4
  have k3_5 : w3.cell? ⟨q, 5, none⟩ = some (.int .i64 910901175) := Lib.cell_of_heap m3 5
  have k3_6 : w3.cell? ⟨q, 6, none⟩ = some (.string abcD) := Lib.cell_of_heap m3 6
  refine (CSum.out _).mono ?_
  rintro e _ ⟨rfl, rfl⟩
  go_wp2_with fail
  obtain ⟨g, hg⟩ : ∃ g, w3.heap.size = g := ⟨_, rfl⟩
  obtain ⟨w4, hw4⟩ : ∃ w4, w3.alloc (.cells #[.int .i64 3, .int .i64 2, .int .i64 3, .int .i64 7, .int .i64 0, .int .i64 910901175, .string ⟨#[]⟩] 33) = w4 := ⟨_, rfl⟩
  rw [hw4, hg]
  have hb4 : Below w3.heap.size w3 w4 := by rw [← hw4]; exact (Below.refl _ _).alloc (Nat.le_refl _) _
  have hB4 := Below_then hB3 hb4
  have hp4 := hp3.below hb4 hp3.lt hp3.held.lt
  have m4 : w4.heap[q]? = some (.cells #[.int .i64 1, .int .i64 2, .int .i64 3, .int .i64 7, .int .i64 0, .int .i64 910901175, .string abcD] 33 (0, 0)) := (hb4.block q hqlt).trans m3
  have g4 : w4.heap[g]? = some (.cells (msgCells (ackM 2 3 7 910901175)) 33 (0, 0)) := by rw [← hw4, ← hg]; exact World.alloc_heap_new w3 _
  have hgl : g < w4.heap.size := by rw [← hw4, ← hg]; simp
  have hg2 : w.heap.size + 2 ≤ g := by have := hb3.size; have := hb2.size; omega
  have hq2 : w.heap.size + 2 ≤ q := by omega
  clear hw4 hg
  refine (recv_at (w0 := w) hB4 hB4.size (hN.out.below hB4) (hE.out.below hB4) hp4 (Nat.le_refl _) saneM (by decide) (by decide) sane_1).mono ?_
  rintro e w5 ⟨v5, rfl, ha5, hp5, hB5, hg5⟩
  have m5 : w5.heap[q]? = some (.cells #[.int .i64 1, .int .i64 2, .int .i64 3, .int .i64 7, .int .i64 0, .int .i64 910901175, .string abcD] 33 (0, 0)) := (hg5.block q (lt_heap m4) (fun e => by cases e; omega)).trans m4
  have g5 : w5.heap[g]? = some (.cells (msgCells (ackM 2 3 7 910901175)) 33 (0, 0)) := (hg5.block g (lt_heap g4) (fun e => by cases e; omega)).trans g4
  go_wp2_with fail
  refine (same_any (B2 := 0) ha5 ⟨g, Nat.zero_le _, rfl, g5⟩).mono ?_
  rintro e w6 ⟨rfl, hb6⟩
  have hB6 := Below_then hB5 hb6
  have hp6 := hp5.below hb6 hp5.lt hp5.held.lt
  have m6 := (hb6.block q (lt_heap m5)).trans m5
  have g6 := (hb6.block g (lt_heap g5)).trans g5
  have k6_0 : w6.cell? ⟨q, 0, none⟩ = some (.int .i64 1) := Lib.cell_of_heap m6 0
  have k6_1 : w6.cell? ⟨q, 1, none⟩ = some (.int .i64 2) := Lib.cell_of_heap m6 1
  have k6_2 : w6.cell? ⟨q, 2, none⟩ = some (.int .i64 3) := Lib.cell_of_heap m6 2
  have k6_3 : w6.cell? ⟨q, 3, none⟩ = some (.int .i64 7) := Lib.cell_of_heap m6 3
  have k6_4 : w6.cell? ⟨q, 4, none⟩ = some (.int .i64 0) := Lib.cell_of_heap m6 4
  have k6_5 : w6.cell? ⟨q, 5, none⟩ = some (.int .i64 910901175) := Lib.cell_of_heap m6 5
  have k6_6 : w6.cell? ⟨q, 6, none⟩ = some (.string abcD) := Lib.cell_of_heap m6 6
  go_wp2_with fail
  refine (recv_at (w0 := w) hB6 hB6.size (hN.out.below hB6) (hE.out.below hB6) hp6 (Nat.le_refl _) saneM (by decide) (by decide) sane_2).mono ?_
  rintro e w7 ⟨v7, rfl, ha7, hp7, hB7, hg7⟩
  have m7 : w7.heap[q]? = some (.cells #[.int .i64 1, .int .i64 2, .int .i64 3, .int .i64 7, .int .i64 0, .int .i64 910901175, .string abcD] 33 (0, 0)) := (hg7.block q (lt_heap m6) (fun e => by cases e; omega)).trans m6
  have g7 : w7.heap[g]? = some (.cells (msgCells (ackM 2 3 7 910901175)) 33 (0, 0)) := (hg7.block g (lt_heap g6) (fun e => by cases e; omega)).trans g6
  go_wp2_with fail
  refine (same_any (B2 := 0) ha7 ⟨g, Nat.zero_le _, rfl, g7⟩).mono ?_
  rintro e w8 ⟨rfl, hb8⟩
  have hB8 := Below_then hB7 hb8
  have hp8 := hp7.below hb8 hp7.lt hp7.held.lt
  have m8 := (hb8.block q (lt_heap m7)).trans m7
  go_wp2_with fail
  have ct8 := text_any hp8 7
  rw [show mapAt saneL1 7 = ⟨3, abcT, true⟩ from rfl] at ct8
  dsimp only at ct8
  refine ct8.mono ?_
  rintro e w9 ⟨rfl, hb9⟩
  have hB9 := Below_then hB8 hb9
  have hp9 := hp8.below hb9 hp8.lt hp8.held.lt
  have m9 := (hb9.block q (lt_heap m8)).trans m8
  have k9_0 : w9.cell? ⟨q, 0, none⟩ = some (.int .i64 1) := Lib.cell_of_heap m9 0
  have k9_1 : w9.cell? ⟨q, 1, none⟩ = some (.int .i64 2) := Lib.cell_of_heap m9 1
  have k9_2 : w9.cell? ⟨q, 2, none⟩ = some (.int .i64 3) := Lib.cell_of_heap m9 2
  have k9_3 : w9.cell? ⟨q, 3, none⟩ = some (.int .i64 7) := Lib.cell_of_heap m9 3
  have k9_4 : w9.cell? ⟨q, 4, none⟩ = some (.int .i64 0) := Lib.cell_of_heap m9 4
  have k9_5 : w9.cell? ⟨q, 5, none⟩ = some (.int .i64 910901175) := Lib.cell_of_heap m9 5
  have k9_6 : w9.cell? ⟨q, 6, none⟩ = some (.string abcD) := Lib.cell_of_heap m9 6
  go_wp2_with fail
  refine (recv_at (w0 := w) hB9 hB9.size (hN.out.below hB9) (hE.out.below hB9) hp9 (Nat.le_refl _) saneB (by decide) (by decide) sane_3).mono ?_
  rintro e w10 ⟨v10, rfl, ha10, hp10, hB10, hg10⟩
  have m10 : w10.heap[q]? = some (.cells #[.int .i64 1, .int .i64 2, .int .i64 3, .int .i64 7, .int .i64 0, .int .i64 910901175, .string abcD] 33 (0, 0)) := (hg10.block q (lt_heap m9) (fun e => by cases e; omega)).trans m9
  go_wp2_with fail
  refine (same_new ha10).mono ?_
  rintro e w11 ⟨rfl, hb11⟩
  have hB11 := Below_then hB10 hb11
  have hp11 := hp10.below hb11 hp10.lt hp10.held.lt
  have m11 := (hb11.block q (lt_heap m10)).trans m10
  go_wp2_with fail
  refine (kill_any 2 4 7 _).mono ?_
  rintro e w12 ⟨rfl, hb12⟩
  have hB12 := Below_then hB11 hb12
  have hp12 := hp11.below hb12 hp11.lt hp11.held.lt
  have m12 := (hb12.block q (lt_heap m11)).trans m11
  go_wp2_with fail
  refine (recv_at (w0 := w) hB12 hB12.size (hN.out.below hB12) (hE.out.below hB12) hp12 (Nat.le_refl _) saneK (by decide) (by decide) sane_4).mono ?_
  rintro e w13 ⟨v13, rfl, ha13, hp13, hB13, hg13⟩
  have m13 : w13.heap[q]? = some (.cells #[.int .i64 1, .int .i64 2, .int .i64 3, .int .i64 7, .int .i64 0, .int .i64 910901175, .string abcD] 33 (0, 0)) := (hg13.block q (lt_heap m12) (fun e => by cases e; omega)).trans m12
  go_wp2_with fail
  refine (same_new ha13).mono ?_
  rintro e w14 ⟨rfl, hb14⟩
  have hB14 := Below_then hB13 hb14
  have hp14 := hp13.below hb14 hp13.lt hp13.held.lt
  have m14 := (hb14.block q (lt_heap m13)).trans m13
  have k14_0 : w14.cell? ⟨q, 0, none⟩ = some (.int .i64 1) := Lib.cell_of_heap m14 0
  have k14_1 : w14.cell? ⟨q, 1, none⟩ = some (.int .i64 2) := Lib.cell_of_heap m14 1
  have k14_2 : w14.cell? ⟨q, 2, none⟩ = some (.int .i64 3) := Lib.cell_of_heap m14 2
  have k14_3 : w14.cell? ⟨q, 3, none⟩ = some (.int .i64 7) := Lib.cell_of_heap m14 3
  have k14_4 : w14.cell? ⟨q, 4, none⟩ = some (.int .i64 0) := Lib.cell_of_heap m14 4
  have k14_5 : w14.cell? ⟨q, 5, none⟩ = some (.int .i64 910901175) := Lib.cell_of_heap m14 5
  have k14_6 : w14.cell? ⟨q, 6, none⟩ = some (.string abcD) := Lib.cell_of_heap m14 6
  go_wp2_with fail
  refine (recv_at (w0 := w) hB14 hB14.size (hN.out.below hB14) (hE.out.below hB14) hp14 (Nat.le_refl _) saneM (by decide) (by decide) sane_5).mono ?_
  rintro e w15 ⟨v15, rfl, ha15, hp15, hB15, hg15⟩
  have m15 : w15.heap[q]? = some (.cells #[.int .i64 1, .int .i64 2, .int .i64 3, .int .i64 7, .int .i64 0, .int .i64 910901175, .string abcD] 33 (0, 0)) := (hg15.block q (lt_heap m14) (fun e => by cases e; omega)).trans m14
  go_wp2_with fail
  refine (same_new ha15).mono ?_
  rintro e w16 ⟨rfl, hb16⟩
  have hB16 := Below_then hB15 hb16
  have hp16 := hp15.below hb16 hp15.lt hp15.held.lt
  have m16 := (hb16.block q (lt_heap m15)).trans m15
  go_wp2_with fail
  have ct16 := text_any hp16 7
  rw [show mapAt saneL2 7 = ⟨4, .empty, false⟩ from rfl] at ct16
  dsimp only at ct16
  refine ct16.mono ?_
  rintro e w17 ⟨rfl, hb17⟩
  have hB17 := Below_then hB16 hb17
  have hp17 := hp16.below hb17 hp16.lt hp16.held.lt
  have m17 := (hb17.block q (lt_heap m16)).trans m16
  have hab : (abcT.toList == [97, 98, 99]) = true := by decide +kernel
  go_wp2_with fail
  refine (items_any hp17).mono ?_
  rintro e w18 ⟨v18, rfl, hi18, hb18⟩
  rw [sane_6] at hi18
  obtain ⟨ao, cap, rfl⟩ := items_form hi18
  have hB18 := Below_then hB17 hb18
  simp only [List.length_nil]
  go_wp2_with fail
  go_ret
  exact ⟨rfl, hB18⟩
end Go.Proofs.YtkpgadjhcnkadaaDoor
