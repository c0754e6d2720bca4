/- wire.groups, its iterator and wire.PutInt: what they compute. -/
import Derived.Test.YtncbgbmgbokeoaaDoorBase
import Derived.Test.YtncbgbmgbokeoaaDoorRange
import Derived.TacticsInMore
import Derived.LoopNIn
import Derived.LoopIn
import Derived.Maps.AppendAt
import Derived.Lib.Hide
import Derived.Laws.BitsAllLaws
import Derived.Laws.IdiomStrings
namespace Go.Proofs.YtncbgbmgbokeoaaDoor
open Go.RowKit Go.Shelf

attribute [local go_sem] Oper.semAt_some

/-- Between two yields: what has been put out, and the number that the iterator still holds. -/
structure PutSt (w : World) (zb ob : Nat) (s : List UInt8 × Nat) (W : World) : Prop where
  z : Boxed W zb 66 (.int .u64 (s.2 : Int))
  out : ∃ v, Boxed W ob 46 v ∧ W.ownsRow w.heap.size 5 1 v s.1.length (s.1.map byteV)
  zlt : s.2 < 18446744073709551616
  B : Below w.heap.size w W
def putOk (s : List UInt8 × Nat) (x : UInt8 × Bool) : Prop := x = (UInt8.ofNat (s.2 % 128), decide (s.2 < 128)) ∧ s.1.length < 10
def putStep (s : List UInt8 × Nat) (x : UInt8 × Bool) : List UInt8 × Nat := (s.1 ++ [if x.2 then x.1 else UInt8.ofNat (x.1.toNat + 128)], s.2)
def putLeft (z0 : Nat) (s : List UInt8 × Nat) : Prop := s.1.length < 10 ∧ s.1 ++ encF (10 - s.1.length) s.2 = encF 10 z0 ∧ s.2 < 128 ^ (10 - s.1.length)

theorem groups_in (F : Fence) (n : Nat) (h : F.fn 28) (hro : F.round = none) (z : Int) (w : World) :
    CallsIn F n Tryd.prog 28 #[.int .u64 z] w fun e w' => e = .returned (.func (.func 42) #[] #[.pointer (some ⟨w.heap.size, 0, none⟩)]) ∧ w' = w.alloc (.cells #[.int .u64 z] 66) := by
  refine callsIn_of_wp Tryd.func28 rfl h ?_ hro
  simp only [Tryd.ntmps28, List.size_toArray, List.length_cons, List.length_nil, Nat.reduceAdd, Nat.reduceSub, Array.replicate_succ, Array.replicate_zero, List.push_toArray, List.append_toArray, List.nil_append, List.cons_append]
  gi_wp2
  go_ret
  exact ⟨rfl, rfl⟩

set_option maxRecDepth 100000 in
set_option maxHeartbeats 1000000 in
theorem groupsIter_in (F : Fence) (n : Nat) (h : F.fn 42) (hro : F.round = none) (hn : 1 ≤ n) (w : World) (B zb ob l : Nat) (z0 : Nat) (W1 : World) (hzw : w.heap.size ≤ zb) (hob : zb ≠ ob)
    (Mid : List UInt8 × Nat → World → Prop) (hM : ∀ s W, Mid s W → PutSt w zb ob s W) (hG : ∀ s s' X Y, Mid s X → PutSt w zb ob s' Y → KeepsFrom B X Y → Mid s' Y)
    (hY : ∀ s x W, Mid s W → putOk s x → YieldAt F (n - 1) Tryd.prog l #[.int .u8 x.1.toNat, .bool x.2] W fun e W' => e = .returned (.bool true) ∧ Mid (putStep s x) W')
    (hz0 : z0 < 128 ^ 10) (h0 : Mid ([], z0) W1) :
    CallsIn F n Tryd.prog 42 #[.func (.yield l) #[] #[], .pointer (some ⟨zb, 0, none⟩)] W1 fun e W' => (∃ v, e = .returned v) ∧ ∃ s, s.1 = encF 10 z0 ∧ Mid s W' := by
  refine callsIn_of_wp Tryd.func42 rfl h ?_ hro
  simp only [Tryd.ntmps42, List.size_toArray, List.length_cons, List.length_nil, Nat.reduceAdd, Nat.reduceSub, Array.replicate_succ, Array.replicate_zero, List.push_toArray, List.append_toArray, List.nil_append, List.cons_append]
  gi_wp2
  gi_loopw [3] (fun _ wr => ∃ s, Mid s wr ∧ putLeft z0 s) (fun _ wr => (intOf ((wr.cell? ⟨zb, 0, none⟩).getD undef)).toNat)
  case atStart => exact ⟨([], z0), h0, by simp, by simp, hz0⟩
  case round =>
    obtain ⟨⟨l1, z⟩, hm, hl1, hl2, hl3⟩ := hrel
    have hP := hM _ _ hm
    have hzc := hP.z.cell
    have hzf := hP.z.frozen
    have hzlt := hP.zlt
    dsimp only at hzc hzlt hl1 hl2 hl3
    obtain ⟨k, hk⟩ : ∃ k, 10 - l1.length = k + 1 := ⟨9 - l1.length, by omega⟩
    have e1 : bits BinOp.and IntKind.u64 (z : Int) 127 = ((z % 128 : Nat) : Int) := by
      rw [show (127 : Int) = ((127 : Nat) : Int) from rfl, u64_and_nat z 127 hzlt (by decide), Nat.and_two_pow_sub_one_eq_mod z 7]
    rw [hk] at hl2 hl3
    have Hl2 := Lib.hid hl2
    have Hk := Lib.hid hk
    clear hl2 hk
    by_cases hlast : z < 128
    · obtain ⟨fn, tmps, assign, body, hy, hR⟩ := hY (l1, z) (UInt8.ofNat (z % 128), decide (z < 128)) wr hm ⟨rfl, hl1⟩
      have ez : ((UInt8.ofNat (z % 128)).toNat : Int) = (z : Int) % 128 := by rw [ofNat_toNat _ (by omega)]; omega
      have hd : decide ((z : Int) < 128) = true := by simp; omega
      simp only [ez, decide_eq_true hlast] at hy
      clear ez
      gi_wp2
      refine hR.mono ?_
      rintro e W3 ⟨rfl, hm3⟩
      gi_wp2
      refine bodyPost_ret (results_none rfl _ _ _) rfl ?_
      refine ⟨⟨_, rfl⟩, _, ?_, hm3⟩
      have := Hl2.out
      simp only [putStep, hlast, decide_true, if_true, ← this]
      unfold encF
      rw [if_pos hlast, Nat.mod_eq_of_lt hlast]
    · obtain ⟨fn, tmps, assign, body, hy, hR⟩ := hY (l1, z) (UInt8.ofNat (z % 128), decide (z < 128)) wr hm ⟨rfl, hl1⟩
      have ez : ((UInt8.ofNat (z % 128)).toNat : Int) = (z : Int) % 128 := by rw [ofNat_toNat _ (by omega)]; omega
      have hd : decide ((z : Int) < 128) = false := by simp; omega
      simp only [ez, decide_eq_false hlast] at hy
      clear ez
      gi_wp2
      refine hR.mono ?_
      rintro e W3 ⟨rfl, hm3⟩
      have hP3 := hM _ _ hm3
      have hzc3 := hP3.z.cell
      have hzf3 := hP3.z.frozen
      simp only [putStep] at hzc3
      gi_wp2
      have hnext : PutSt w zb ob (l1 ++ [UInt8.ofNat (z % 128 + 128)], z / 128) (W3.setCell ⟨zb, 0, none⟩ (.int .u64 ((z : Int) / 128))) := by
        have e : putStep (l1, z) (UInt8.ofNat (z % 128), decide (z < 128)) = (l1 ++ [UInt8.ofNat (z % 128 + 128)], z) := by
          simp [putStep, hlast, ofNat_toNat (z % 128) (by omega)]
        rw [e] at hP3
        refine ⟨by have := hP3.z.set (.int .u64 ((z : Int) / 128)); simpa using this, ?_, by simp only; omega, hP3.B.setCell hzw _⟩
        obtain ⟨v, hv, hr⟩ := hP3.out
        exact ⟨v, hv.kept (grownBy_setCell' _ _ _) (by simpa using Ne.symm hob), hr.kept (grownBy_setCell' _ _ _) (.inr (hP3.z.not_row (by decide) hr).symm)⟩
      refine ⟨⟨_, hG _ _ _ _ hm3 hnext ((KeepsOthers.setCell _ _ _).from _), ?_⟩, ?_⟩
      · have h1 := Hl2.out
        have h2 := Hk.out
        have hk0 : 0 < k := by
          rcases Nat.eq_zero_or_pos k with h0 | h0
          · subst h0; simp at hl3; omega
          · exact h0
        have e : 10 - (l1 ++ [UInt8.ofNat (z % 128 + 128)]).length = k := by simp; omega
        refine ⟨by simp; omega, ?_, by rw [e]; rw [Nat.pow_succ] at hl3; simp only; omega⟩
        rw [e, ← h1]
        simp only [List.append_assoc]
        rw [show encF (k + 1) z = UInt8.ofNat (z % 128 + 128) :: encF k (z / 128) by rw [encF, if_neg hlast]]
        rfl
      · rw [hnext.z.cell, hzc]
        simp [intOf]
        omega


set_option maxRecDepth 100000 in
set_option maxHeartbeats 1000000 in
theorem putInt_in (n : Int) (w : World) (h1 : -maxInt ≤ n) (h2 : n ≤ maxInt) :
    CallsIn Fence.wide 5 Tryd.prog 14 #[.int .i64 n] w fun e w' => e = .returned (.tuple #[.string ⟨(encInt n).toArray⟩, .int .i64 0]) ∧ Below w.heap.size w w' := by
  obtain ⟨i0, hi, hz0, hz1, hz2⟩ := info_parts info_u8
  have d1 : decide (n < -4611686018427387903) = false := by unfold maxInt at h1; simp; omega
  have d2 : decide ((4611686018427387903 : Int) < n) = false := by unfold maxInt at h2; simp; omega
  refine callsIn_of_wp_marks Tryd.func14 rfl trivial ?_ rfl
  simp only [Tryd.ntmps14, List.size_toArray, List.length_cons, List.length_nil, Nat.reduceAdd, Nat.reduceSub, Array.replicate_succ, Array.replicate_zero, List.push_toArray, List.append_toArray, List.nil_append, List.cons_append]
  have ez := zig_bits n h1 h2
  gi_wp2_with (refine ⟨trivial, ?_⟩; gi_at_call 28; refine (groups_in Fence.wide 4 trivial rfl _ _).mono ?_; rintro e w' ⟨rfl, rfl⟩)
  have bO := Boxed.new w 46 (.slice none 0 0)
  have bZ := Boxed.new (w.alloc (.cells #[.slice none 0 0] 46)) 66 (.int .u64 ((zig n : Nat) : Int))
  rw [World.size_alloc] at bZ
  have hB0 : Below w.heap.size w ((w.alloc (.cells #[.slice none 0 0] 46)).alloc (.cells #[.int .u64 ((zig n : Nat) : Int)] 66)) := ((Below.refl _ w).alloc (Nat.le_refl _) _).alloc (by simp) _
  have hz := zig_lt n h1 h2
  unfold big63 at hz
  refine wpIn_rangeFunc_state (α := UInt8 × Bool) (β := List UInt8 × Nat) rfl (by decide) (gf := 42) (lb := #[.pointer (some ⟨w.heap.size + 1, 0, none⟩)]) rfl trivial (enters_of Tryd.func42 (by kernel_rfl) rfl)
    (fun x => #[.int .u8 x.1.toNat, .bool x.2]) (fun _ => rfl) putStep putOk (fun s => s.1 = encF 10 (zig n)) (PutSt w (w.heap.size + 1) w.heap.size) ?put ([], zig n)
    (fun o o' => ⟨(bZ.alloc o).alloc o', ⟨_, ((bO.alloc _).alloc o).alloc o', World.ownsRow_nil _ _ _ _⟩, by simp only; omega, (hB0.alloc (by simp; omega) o).alloc (by simp; omega) o'⟩)
    (fun x => { tmps := #[.int .i64 n, undef, .string ⟨#[]⟩, .int .i64 0, .pointer (some ⟨w.heap.size, 0, none⟩), .int .u8 x.1.toNat, .bool x.2, .int .i64 n, .bool false, .bool false, .int .i64 n, .bool false, .bool false, .int .i64 n, .int .u64 (IntKind.u64.wrap n), .int .u64 (IntKind.u64.wrap (IntKind.u64.wrap n * 2)), .int .i64 n, .int .i64 (n / 9223372036854775808), .int .u64 (IntKind.u64.wrap (n / 9223372036854775808)), .int .u64 ((zig n : Nat) : Int), .func (.func 42) #[] #[.pointer (some ⟨w.heap.size + 1, 0, none⟩)], .int .u8 x.1.toNat, .bool x.2, undef, undef, undef, undef, undef, undef, undef, undef, undef, undef], defers := [] })
    ?assign ?body ?iter ?done
  case put =>
    rintro s W l o o' ⟨hz, ⟨v, hv, hr⟩, hlt, hB⟩ hl ho hc
    have hk := grownBy_putObj' W l o'
    have hne : ∀ (b : Nat) (t : TypeId) (u : Value), Boxed W b t u → some b ≠ some l := fun b t u hb e => by
      cases e
      rw [show W.heap[l]? = _ from hb] at ho; cases ho; cases hc
    refine ⟨hz.kept hk (hne _ _ _ hz), ⟨v, hv.kept hk (hne _ _ _ hv), ownsRow_putObj hr _ ho hc⟩, hlt, ?_⟩
    exact hB.grown hk hB.size (fun k e => by cases e; simp at hl; omega)
  case assign =>
    intro l x W K hK
    gi_wp2
    exact hK
  case body =>
    rintro l ⟨l1, z⟩ ⟨b, last⟩ W hP ⟨he, hlen⟩
    obtain ⟨hz, ⟨v, hv, hr⟩, hlt, hB⟩ := hP
    dsimp only at hlen hz hr hlt
    have hc := hv.cell
    have hx : b = UInt8.ofNat (z % 128) ∧ last = decide (z < 128) := by simpa using he
    have hb128 : b.toNat < 128 := by rw [hx.1, ofNat_toNat _ (by omega)]; omega
    clear he hx
    cases last with
    | true =>
      gi_wp2_with (gi_at_builtin; refine wpListIn_append_own _ rfl _ _ 46 rfl w.heap.size 5 i0 (.int .u8 0) 1 1 Tryd.underlying46 hi hz0 hz1 hz2 rfl (by decide) _ _ _ rfl (hr.alloc _) ⟨W.heap.size, 0, none⟩ 1 1 [.int .u8 b.toNat] rfl rfl (cell_one_new _ _ _) (by simp [Value.oneCell']) (by unfold maxLen; omega) (by omega) (by have := hB.size; simp; omega) ?_; intro v' w1 hown' hgrow _; obtain ⟨g', cap', rfl⟩ := ownsRow_succ hown'; obtain ⟨hv1, hv2, hr2, hk2, hb2⟩ := hv.appended (by decide) hr hB.size (Nat.le_refl _) hown' hgrow; have hc1 := hv1.cell; have hf1 := hv1.frozen)
      exact ⟨hk2.from _, ⟨boxed_keptBy hz hv hr (by decide) (by decide) hgrow, ⟨_, hv2, by simpa [putStep, byteV] using hr2⟩, hlt, hB.trans hb2⟩⟩
    | false =>
      obtain ⟨c, hc'⟩ : ∃ c : UInt8, UInt8.ofNat (b.toNat + 128) = c := ⟨_, rfl⟩
      have eb : bits BinOp.or IntKind.u8 (b.toNat : Int) 128 = (c.toNat : Int) := by
        rw [← hc', ofNat_toNat _ (by omega), show (128 : Int) = ((128 : Nat) : Int) from rfl, u8_or_nat _ _ (by omega) (by decide)]
        have := Nat.two_pow_add_eq_or_of_lt (i := 7) (b := b.toNat) (by omega) 1
        rw [Nat.or_comm, show 128 = 2 ^ 7 * 1 from rfl, ← this]
        omega
      have Hc := Lib.hid hc'
      clear hc'
      gi_wp2_with (gi_at_builtin; refine wpListIn_append_own _ rfl _ _ 46 rfl w.heap.size 5 i0 (.int .u8 0) 1 1 Tryd.underlying46 hi hz0 hz1 hz2 rfl (by decide) _ _ _ rfl (hr.alloc _) ⟨W.heap.size, 0, none⟩ 1 1 [.int .u8 c.toNat] rfl rfl (cell_one_new _ _ _) (by simp [Value.oneCell']) (by unfold maxLen; omega) (by omega) (by have := hB.size; simp; omega) ?_; intro v' w1 hown' hgrow _; obtain ⟨g', cap', rfl⟩ := ownsRow_succ hown'; obtain ⟨hv1, hv2, hr2, hk2, hb2⟩ := hv.appended (by decide) hr hB.size (Nat.le_refl _) hown' hgrow; have hc1 := hv1.cell; have hf1 := hv1.frozen)
      exact ⟨hk2.from _, ⟨boxed_keptBy hz hv hr (by decide) (by decide) hgrow, ⟨_, hv2, by simpa [putStep, byteV, Hc.out] using hr2⟩, hlt, hB.trans hb2⟩⟩
  case iter =>
    intro l W1 Mid hl hM hG hY hm0
    refine (groupsIter_in Fence.wide 4 trivial rfl (by decide) w _ (w.heap.size + 1) w.heap.size l (zig n) W1 (by omega) (by omega) Mid hM hG hY (by omega) hm0).mono ?_
    rintro e W' ⟨hv, s, hs, hm⟩
    exact ⟨hv, s, hs, hm⟩
  case done =>
    rintro D ⟨l1, z⟩ W hD hS ⟨_, ⟨v, hv, hr⟩, _, hB⟩ hK
    dsimp only at hS hr
    have hc := hv.cell
    have hcv := own_to_string (P := Tryd.prog) (src := 46) (dst := 9) Tryd.underlying46 Tryd.underlying5 Tryd.underlying9 hr
    gi_wp2
    refine ⟨by simp, .inl ⟨_, _, rfl, run_takeDeferred hK, ?_⟩⟩
    refine ⟨_, results_tmp2 rfl _ _ _, ?_, ?_⟩
    · rfl
    · exact hB.trans (belowK_b (w := w) (Nat.le_refl _) W D _ _ (by simp at hD; omega) hK rfl rfl)

set_option maxHeartbeats 400000 in
theorem putInt_out (n : Int) (w : World) (h : n < -maxInt ∨ maxInt < n) :
    Calls Tryd.prog 14 #[.int .i64 n] w fun e w' => e = .returned (.tuple #[.string ByteArray.empty, .int .i64 10]) ∧ w = w' := by
  rcases h with h | h
  · have d1 : decide (n < -4611686018427387903) = true := by unfold maxInt at h; simp; omega
    go_enter Tryd.func14, Tryd.ntmps14
    go_wp2
    go_ret2
    exact ⟨rfl, rfl⟩
  · have d1 : decide (n < -4611686018427387903) = false := by unfold maxInt at h; simp; omega
    have d2 : decide ((4611686018427387903 : Int) < n) = true := by unfold maxInt at h; simp; omega
    go_enter Tryd.func14, Tryd.ntmps14
    go_wp2
    go_ret2
    exact ⟨rfl, rfl⟩

/-- wire.PutInt, at every number. -/
theorem putInt_any (n : Int) (w : World) :
    Calls Tryd.prog 14 #[.int .i64 n] w fun e w' => e = .returned (.tuple #[.string (putInt n).1, .int .i64 (putInt n).2]) ∧ Below w.heap.size w w' := by
  by_cases h : n < -maxInt ∨ maxInt < n
  · refine (putInt_out n w h).mono fun e w' ⟨he, hw⟩ => ?_
    subst hw
    refine ⟨?_, Below.refl _ _⟩
    rw [he]; unfold putInt; rw [if_pos h]
  · refine (callsIn_wide.1 (putInt_in n w (by omega) (by omega))).mono fun e w' ⟨he, hw⟩ => ⟨?_, hw⟩
    rw [he]; unfold putInt; rw [if_neg h]
end Go.Proofs.YtncbgbmgbokeoaaDoor
