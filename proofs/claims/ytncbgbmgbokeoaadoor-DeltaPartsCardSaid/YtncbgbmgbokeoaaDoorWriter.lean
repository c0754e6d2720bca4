/- delta.writer: int and op. -/
import Derived.Test.YtncbgbmgbokeoaaDoorBuilderNB
import Derived.Test.YtncbgbmgbokeoaaDoorRef19Diff
import Derived.Test.YtncbgbmgbokeoaaDoorWalkWire
namespace Go.Proofs.YtncbgbmgbokeoaaDoor
open Go.RowKit Go.Shelf

/-- An operation of a delta. -/
structure Op3 where
  n : Int
  off : Int
  s : ByteArray
def opV (x : Op3) : Value := .agg #[.int .i64 x.n, .int .i64 x.off, .string x.s]
def encOp (x : Op3) : ByteArray := if 0 < x.n then numS x.n ++ numS x.off else numS 0 ++ (numS x.s.size ++ x.s)
structure OpOk (x : Op3) : Prop where
  n : 0 ≤ x.n ∧ x.n ≤ 8192
  off : 0 ≤ x.off ∧ x.off ≤ 8192
  s : x.s.size ≤ 8192
theorem encOp_size {x : Op3} (h : OpOk x) : (encOp x).size ≤ 8300 := by
  unfold encOp
  have := numS_size x.n
  have := numS_size x.off
  have := numS_size 0
  have := numS_size x.s.size
  have := h.s
  split <;> simp only [ba_append_size] <;> omega

theorem putInt_numS (n : Int) (w : World) (h1 : -maxInt ≤ n) (h2 : n ≤ maxInt) : Calls Tryd.prog 14 #[.int .i64 n] w fun e w' => e = .returned (.tuple #[.string (numS n), .int .i64 0]) ∧ Below w.heap.size w w' := by
  have := putInt_any n w
  rw [putInt_val n h1 h2] at this
  exact this
theorem putStr_numS (s : ByteArray) (w : World) (h : s.size ≤ 65536) : Calls Tryd.prog 15 #[.string s] w fun e w' => e = .returned (.tuple #[.string (numS s.size ++ s), .int .i64 0]) ∧ Below w.heap.size w w' := by
  have := putStr_any s w (by omega)
  rw [putStr_val s h] at this
  exact this

set_option maxHeartbeats 1000000 in
theorem writerInt_any (B b : Nat) (l : List UInt8) (n : Int) (w : World) (h : BuiltF 50 B b l w) (h1 : -maxInt ≤ n) (h2 : n ≤ maxInt) (hlen : l.length ≤ 140737488350000) (hBw : B ≤ w.heap.size) :
    Calls Tryd.prog 20 #[.pointer (some ⟨b, 0, none⟩), .int .i64 n] w fun e w' => e = .returned (.tuple #[]) ∧ BuiltF 50 B b (l ++ (numS n).data.toList) w' ∧ Below B w w' ∧ NBut b w w' := by
  obtain ⟨s, hs⟩ : ∃ s, numS n = s := ⟨_, rfl⟩
  have hss : s.size ≤ 10 := by rw [← hs]; exact numS_size n
  have c := putInt_numS n w h1 h2
  rw [hs] at c ⊢
  have C := Lib.hid c
  clear c hs
  go_enter Tryd.func20, Tryd.ntmps20
  go_wp2_with fail
  refine (C.out).mono ?_
  rintro e w1 ⟨rfl, hb1⟩
  have hw1 : BuiltF 50 B b l w1 := h.stays (fun j hj _ => hb1.block j hj)
  go_wp2_with fail
  refine (builderWrite_nb writerT B b l s w1 hw1 (by omega) (Nat.le_trans hBw hb1.size)).mono ?_
  rintro e w2 ⟨rfl, hw2, hb2, hn2⟩
  go_wp2_with fail
  go_end0
  exact ⟨rfl, hw2, (hb1.mono hBw).trans hb2, (NBut.below hb1).trans hn2⟩

set_option maxHeartbeats 1600000 in
set_option maxRecDepth 100000 in
theorem writerOp_any (B b : Nat) (l : List UInt8) (x : Op3) (w : World) (h : BuiltF 50 B b l w) (hx : OpOk x) (hlen : l.length ≤ 140737488340000) (hBw : B ≤ w.heap.size) (hbw : b < w.heap.size) :
    Calls Tryd.prog 22 #[.pointer (some ⟨b, 0, none⟩), opV x] w fun e w' => e = .returned (.tuple #[]) ∧ BuiltF 50 B b (l ++ (encOp x).data.toList) w' ∧ Below B w w' ∧ NBut b w w' := by
  obtain ⟨n, off, s⟩ := x
  obtain ⟨⟨n1, n2⟩, ⟨o1, o2⟩, hs⟩ := hx
  dsimp only at n1 n2 o1 o2 hs
  unfold opV encOp
  dsimp only
  obtain ⟨L, hL⟩ : ∃ L : Nat, l.length = L := ⟨_, rfl⟩
  obtain ⟨wA, hA⟩ : ∃ wA, w.alloc (.cells #[.int .i64 n, .int .i64 off, .string s] 56) = wA := ⟨_, rfl⟩
  have hBA : Below w.heap.size w wA := by rw [← hA]; exact (Below.refl _ _).alloc (Nat.le_refl _) _
  have hbA : wA.heap[w.heap.size]? = some (.cells #[.int .i64 n, .int .i64 off, .string s] 56 (0, 0)) := by rw [← hA]; exact World.alloc_heap_new w _
  have hAl : w.heap.size < wA.heap.size := by rw [← hA]; simp
  have hw0 : BuiltF 50 B b l wA := h.stays (fun j hj _ => hBA.block j hj)
  have zs : (numS n).size ≤ 10 := numS_size n
  have i1 : (numS n).data.toList.length ≤ 10 := by rw [ba_size]; exact zs
  have c1 := fun W (hb : BuiltF 50 B b l W) hBW => writerInt_any B b l n W hb (by unfold maxInt; omega) (by unfold maxInt; omega) (by omega) hBW
  have C1 := Lib.hid c1
  have a0 : wA.cell? ⟨w.heap.size, 0, none⟩ = some (.int .i64 n) := by rw [Lib.cell_of_heap hbA]; rfl
  by_cases hn : 0 < n
  · have t0 : decide (0 < n) = true := by simpa using hn
    rw [if_pos hn]
    have c2 := fun W (hb : BuiltF 50 B b (l ++ (numS n).data.toList) W) hBW => writerInt_any B b (l ++ (numS n).data.toList) off W hb (by unfold maxInt; omega) (by unfold maxInt; omega) (by rw [List.length_append]; omega) hBW
    have C2 := Lib.hid c2
    clear c1 c2
    go_enter Tryd.func22, Tryd.ntmps22
    go_wp2_with fail
    refine (C1.out wA hw0 (Nat.le_trans hBw hBA.size)).mono ?_
    rintro e w1 ⟨rfl, hw1, hb1, hn1⟩
    have hB1 := hn1.cells hbA (by decide) (by omega)
    have a1 : w1.cell? ⟨w.heap.size, 0, none⟩ = some (.int .i64 n) := by rw [Lib.cell_of_heap hB1]; rfl
    have a2 : w1.cell? ⟨w.heap.size, 1, none⟩ = some (.int .i64 off) := by rw [Lib.cell_of_heap hB1]; rfl
    go_wp2_with fail
    refine (C2.out w1 hw1 (by have := hBA.size; have := hb1.size; omega)).mono ?_
    rintro e w2 ⟨rfl, hw2, hb2, hn2⟩
    go_wp2_with fail
    refine bodyPost_ret (results_none rfl _ _ _) rfl ?_
    refine ⟨rfl, ?_, (hBA.mono hBw).trans (hb1.trans hb2), (NBut.below hBA).trans (hn1.trans hn2)⟩
    simpa using hw2
  · have t0 : decide (0 < n) = false := by simpa using hn
    obtain rfl : n = 0 := by omega
    rw [if_neg hn]
    have c2 := fun W => putStr_numS s W (by omega)
    obtain ⟨y, hy⟩ : ∃ y, numS s.size ++ s = y := ⟨_, rfl⟩
    have hys : y.size ≤ 8300 := by rw [← hy, ba_append_size]; have := numS_size s.size; omega
    simp only [hy] at c2
    have C2 := Lib.hid c2
    have HY := Lib.hid hy
    clear c1 c2
    rw [hy]
    clear hy
    have c3 := fun W (hb : BuiltF 50 B b (l ++ (numS 0).data.toList) W) hBW => builderWrite_nb writerT B b (l ++ (numS 0).data.toList) y W hb (by rw [List.length_append]; omega) hBW
    have C3 := Lib.hid c3
    clear c3
    go_enter Tryd.func22, Tryd.ntmps22
    go_wp2_with fail
    refine (C1.out wA hw0 (Nat.le_trans hBw hBA.size)).mono ?_
    rintro e w1 ⟨rfl, hw1, hb1, hn1⟩
    have hB1 := hn1.cells hbA (by decide) (by omega)
    have a1 : w1.cell? ⟨w.heap.size, 0, none⟩ = some (.int .i64 0) := by rw [Lib.cell_of_heap hB1]; rfl
    have a2 : w1.cell? ⟨w.heap.size, 2, none⟩ = some (.string s) := by rw [Lib.cell_of_heap hB1]; rfl
    go_wp2_with fail
    refine (C2.out w1).mono ?_
    rintro e w2 ⟨rfl, hb2⟩
    have hw2 := hw1.stays (fun j hj _ => hb2.block j hj)
    go_wp2_with fail
    have hBw2 : B ≤ w2.heap.size := by have := hBA.size; have := hb1.size; have := hb2.size; omega
    refine (C3.out w2 hw2 hBw2).mono ?_
    rintro e w3 ⟨rfl, hw3, hb3, hn3⟩
    go_wp2_with fail
    go_end0
    refine ⟨rfl, ?_, (hBA.mono hBw).trans (hb1.trans ((hb2.mono (by have := hBA.size; have := hb1.size; omega)).trans hb3)), (NBut.below hBA).trans (hn1.trans ((NBut.below hb2).trans hn3))⟩
    simpa using hw3
end Go.Proofs.YtncbgbmgbokeoaaDoor
