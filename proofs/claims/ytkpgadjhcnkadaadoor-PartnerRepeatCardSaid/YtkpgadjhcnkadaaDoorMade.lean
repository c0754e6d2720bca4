/- The partner and the reference's partner behind a list of messages: the plain laws. copydesklaw22.made: both partners behind the messages that the integers determine. -/
import Derived.Test.YtkpgadjhcnkadaaDoorBuild
import Derived.Test.YtkpgadjhcnkadaaDoorDelivered
import Derived.Test.YtkpgadjhcnkadaaDoorRefRecv4
import Derived.Test.YtkpgadjhcnkadaaDoorLaw22Sane
set_option linter.unusedSimpArgs false
set_option linter.unusedVariables false
namespace Go.Proofs.YtkpgadjhcnkadaaDoor
open Go.RowKit

theorem keepGo_len (x : Ent) : ∀ (E : List Ent) (d : Bool), (keepGo x E d).length ≤ E.length + (if d then 0 else 1)
  | [], d => by cases d <;> simp [keepGo]
  | p :: E, d => by
    have h := keepGo_len x E (d || decide (x.story ≤ p.story))
    unfold keepGo
    simp only [List.length_append, List.length_cons]
    cases d
    · by_cases hx : x.story ≤ p.story
      · simp only [hx, decide_true, Bool.or_true, if_true, and_self, List.length_singleton] at h ⊢
        split <;> simp <;> omega
      · simp only [hx, decide_false, Bool.or_false, Bool.false_eq_true, if_false, and_false, List.length_nil] at h ⊢
        split <;> simp <;> omega
    · simp only [Bool.true_or, Bool.true_eq_false, false_and, if_false, if_true, List.length_nil] at h ⊢
      split <;> simp <;> omega
theorem recvR_len (id : Int) (E : List Ent) (m : Msg) : (recvR id E m).2.length ≤ E.length + 1 := by
  have hk : ∀ x, (keepF E x).length ≤ E.length + 1 := fun x => by have := keepGo_len x E false; simpa [keepF] using this
  unfold recvR
  repeat' split
  all_goals first | exact hk _ | exact Nat.le_succ _
theorem recvF_txt {id : Int} {L : List (Int × Held)} (h : ∀ k, (mapAt L k).text.size ≤ 8192) (m : Msg) (k : Int) : (mapAt (recvF id L m).2 k).text.size ≤ 8192 := by
  have hd : (delivF (mapAt L m.story) m).1.size ≤ 8192 := by
    unfold delivF
    split
    · simp
    · exact applyF_size _ _
  unfold recvF
  repeat' split
  all_goals first
    | exact h k
    | (simp only [mapAt_put]; split <;> first | exact hd | exact h k | exact Nat.zero_le _)
/-- What the two partners hold behind at most n messages. -/
structure Good (L : List (Int × Held)) (E : List Ent) (n : Nat) : Prop where
  rel : Rel L E
  len : E.length ≤ n
  txt : ∀ k, (mapAt L k).text.size ≤ 8192
theorem Good.nil : Good [] [] 0 := ⟨Rel.nil, by simp, fun k => by simp [mapAt, noHeld]⟩
theorem Good.ent {L : List (Int × Held)} {E : List Ent} {n : Nat} (h : Good L E n) (k : Int) : (entryF E k).text.size ≤ 8192 := by
  have := h.txt k
  rw [h.rel.1 k] at this
  exact this
theorem Good.step {L : List (Int × Held)} {E : List Ent} {n : Nat} (h : Good L E n) (id : Int) (m : Msg) : Good (recvF id L m).2 (recvR id E m).2 (n + 1) :=
  ⟨(h.rel.recv id m).2, Nat.le_trans (recvR_len id E m) (by have := h.len; omega), recvF_txt h.txt m⟩
theorem buildF_data {L : List (Int × Held)} {E : List Ent} {n : Nat} (h : Good L E n) (id : Int) (x : Six) : (buildF id E x).data.size ≤ 8206 := by
  have hd : ∀ seq story base next, base.size ≤ 8192 → next.size ≤ 132 → (deliverM id seq story base next).data.size ≤ 8206 := fun seq story base next h1 h2 => by
    have := diffF_size base next h1 (by omega)
    unfold deliverM
    dsimp only
    omega
  have hw := fun c => wordsF_size c
  have hA : ∀ m seq story next c x5, m.data.size ≤ 8206 → next.size ≤ 132 → (buildA m id seq story next c x5).data.size ≤ 8206 := fun m seq story next c x5 hm hn => by
    unfold buildA
    repeat' split
    · exact hd _ _ _ _ (Nat.zero_le _) hn
    · exact hd _ _ _ _ (by have := hw x5; omega) hn
    · exact hm
    · exact hm
    · simp; omega
    · exact hm
  have hB : ∀ m seq story c x5, m.data.size ≤ 8206 → (buildB m id seq story c x5).data.size ≤ 8206 := fun m seq story c x5 hm => by
    unfold buildB
    repeat' split
    all_goals first | exact hm | exact Nat.zero_le _
  unfold buildF
  exact hB _ _ _ _ _ (hA _ _ _ _ _ _ (hd _ _ _ _ (h.ent _) (hw _)) (hw _))
/-- Both partners behind one message more. -/
def partF (id : Int) (s : List (Int × Held) × List Ent) (x : Six) : List (Int × Held) × List Ent := ((recvF id s.1 (buildF id s.2 x)).2, (recvR id s.2 (buildF id s.2 x)).2)
def madeF (id : Int) (xs : List Six) : List (Int × Held) × List Ent := xs.foldl (partF id) ([], [])
theorem madeF_good (id : Int) (xs : List Six) : Good (madeF id xs).1 (madeF id xs).2 xs.length := by
  have key : ∀ (xs : List Six) (s : List (Int × Held) × List Ent) (n : Nat), Good s.1 s.2 n → Good (xs.foldl (partF id) s).1 (xs.foldl (partF id) s).2 (n + xs.length) := by
    intro xs
    induction xs with
    | nil => intro s n h; exact h
    | cons x xs ih =>
      intro s n h
      have := ih (partF id s x) (n + 1) (h.step id _)
      rw [List.foldl_cons, List.length_cons, show n + (xs.length + 1) = n + 1 + xs.length by omega]
      exact this
  have := key xs ([], []) 0 Good.nil
  simpa [madeF] using this
theorem madeF_snoc (id : Int) (xs : List Six) (x : Six) : madeF id (xs ++ [x]) = partF id (madeF id xs) x := by simp [madeF]
end Go.Proofs.YtkpgadjhcnkadaaDoor
set_option linter.unusedSimpArgs false
set_option linter.unusedVariables false
namespace Go.Proofs.YtkpgadjhcnkadaaDoor
open Go.RowKit

/-- What a slice of six integers each holds. -/
def SixIn (W : World) (A : Option Addr) (l : Nat) (zs : List Six) : Prop :=
  zs.length = l ∧ l ≤ maxLen ∧ (0 < l → ∃ b off, A = some ⟨b, off, none⟩ ∧ b < W.heap.size ∧ ∀ i, i < l → ∃ z, zs[i]? = some z ∧ W.cell? ⟨b, off + i * 6, none⟩ = some (.int .i64 z.x0) ∧ W.cell? ⟨b, off + i * 6 + 1, none⟩ = some (.int .i64 z.x1) ∧ W.cell? ⟨b, off + i * 6 + 2, none⟩ = some (.int .i64 z.x2) ∧
    W.cell? ⟨b, off + i * 6 + 3, none⟩ = some (.int .i64 z.x3) ∧ W.cell? ⟨b, off + i * 6 + 4, none⟩ = some (.int .i64 z.x4) ∧ W.cell? ⟨b, off + i * 6 + 5, none⟩ = some (.int .i64 z.x5)) ∧ ∀ z ∈ zs, z.Ok
theorem SixIn.below {W W' : World} {A : Option Addr} {l : Nat} {zs : List Six} (h : SixIn W A l zs) (hb : Below W.heap.size W W') : SixIn W' A l zs := by
  obtain ⟨h1, h2, h3, h4⟩ := h
  refine ⟨h1, h2, fun h0 => ?_, h4⟩
  obtain ⟨b, off, rfl, hlt, hc⟩ := h3 h0
  refine ⟨b, off, rfl, Nat.lt_of_lt_of_le hlt hb.size, fun i hi => ?_⟩
  obtain ⟨z, hz, c0, c1, c2, c3, c4, c5⟩ := hc i hi
  exact ⟨z, hz, (hb.cell (p := ⟨b, off + i * 6, none⟩) hlt).trans c0, (hb.cell (p := ⟨b, off + i * 6 + 1, none⟩) hlt).trans c1, (hb.cell (p := ⟨b, off + i * 6 + 2, none⟩) hlt).trans c2, (hb.cell (p := ⟨b, off + i * 6 + 3, none⟩) hlt).trans c3, (hb.cell (p := ⟨b, off + i * 6 + 4, none⟩) hlt).trans c4, (hb.cell (p := ⟨b, off + i * 6 + 5, none⟩) hlt).trans c5⟩
/-- Both partners in the memory of a call that began at block B. -/
structure PairAt (B p b r : Nat) (id : Int) (L : List (Int × Held)) (E : List Ent) (W : World) : Prop where
  p : IsP p b id L W
  r : IsR B r id E W
  ge : B ≤ b
  size : B ≤ W.heap.size
theorem IsP.map {p b : Nat} {id : Int} {L : List (Int × Held)} {W : World} (h : IsP p b id L W) : ∃ es c, W.heap[b]? = some (.map es c) := by
  obtain ⟨es, c, h1, _⟩ := h.held
  exact ⟨es, c, h1⟩
theorem IsR.grown_map {B r b : Nat} {id : Int} {E : List Ent} {W W' : World} (h : IsR B r id E W) (hm : ∃ es c, W.heap[b]? = some (.map es c)) (hg : W.grownBy W' (some b)) : IsR B r id E W' := by
  obtain ⟨es, c, hb⟩ := hm
  obtain ⟨v, hrb, hrow⟩ := h.row
  refine ⟨h.ge, v, ?_, hrow.kept hg ?_⟩
  · rw [hg.block r h.lt (fun e => by cases e; rw [hrb] at hb; cases hb)]
    exact hrb
  · rcases hrow.2 with ⟨h1, _⟩ | ⟨g, cap, cur, h1, h2, h3, _⟩
    · exact Or.inl (by rw [h1]; rfl)
    · refine Or.inr (fun e => ?_)
      rw [h1] at e
      simp only [Value.ownBlock, Option.some.injEq] at e
      rw [e, hb] at h3
      cases h3
theorem IsP.grown_r {B p b r : Nat} {id : Int} {L : List (Int × Held)} {E : List Ent} {W W' : World} (h : IsP p b id L W) (hr : IsR B r id E W) (hg : W.grownBy W' (some r)) : IsP p b id L W' := by
  obtain ⟨v, hrb, _⟩ := hr.row
  obtain ⟨es, c, hb, hes⟩ := h.held
  refine ⟨?_, es, c, ?_, hes⟩
  · rw [hg.block p h.lt (fun e => by
      cases e
      have := h.heap
      rw [hrb] at this
      simp only [Option.some.injEq, Obj.cells.injEq] at this
      exact absurd this.2.1 (by decide))]
    exact h.heap
  · rw [hg.block b (lt_of_heap hb) (fun e => by cases e; rw [hrb] at hb; cases hb)]
    exact hb
theorem PairAt.below {B p b r : Nat} {id : Int} {L : List (Int × Held)} {E : List Ent} {W W' : World} (h : PairAt B p b r id L E W) (hb : Below W.heap.size W W') : PairAt B p b r id L E W' :=
  ⟨h.p.below hb h.p.lt h.p.held.lt, h.r.below hb, h.ge, Nat.le_trans h.size hb.size⟩
theorem PairAt.drewN {B p b r : Nat} {id : Int} {L : List (Int × Held)} {E : List Ent} {W : World} (h : PairAt B p b r id L E W) (k : Nat) : PairAt B p b r id L E (W.drewN k) := ⟨⟨h.p.heap, h.p.held⟩, h.r.drewN k, h.ge, h.size⟩
/-- The program's partner receives. -/
theorem PairAt.recvP {B p b r : Nat} {id : Int} {L : List (Int × Held)} {E : List Ent} {w0 W : World} {a0 a1 : Addr} (h : PairAt B p b r id L E W) (hB : Below B w0 W) (hn : NibCells W) (he : ErrCells a0 a1 W) (m : Msg) (hd : m.data.size ≤ 8206) (ht : ∀ k, (mapAt L k).text.size ≤ 8192) :
    Calls Tryd.prog 18 #[.pointer (some ⟨p, 0, none⟩), msgV m] W fun e w' => ∃ v, e = .returned v ∧ IsAns W.heap.size w' v (recvF id L m).1 ∧ PairAt B p b r id (recvF id L m).2 E w' ∧ Below B w0 w' ∧ W.grownBy w' (some b) :=
  (receive_any a0 a1 hn he h.p m (by omega) (by have := ht m.story; omega)).mono fun e w' ⟨v, h1, h2, h3, h4⟩ =>
    ⟨v, h1, h2, ⟨h3, h.r.grown_map h.p.map h4, h.ge, Nat.le_trans h.size h4.size⟩, hB.grown h4 h.size (fun k hk => by cases hk; exact h.ge), h4⟩
/-- The reference's partner receives. -/
theorem PairAt.recvR {B p b r : Nat} {id : Int} {L : List (Int × Held)} {E : List Ent} {w0 W : World} (h : PairAt B p b r id L E W) (hB : Below B w0 W) (m : Msg) (hd : m.data.size ≤ 8206) (hlen : E.length ≤ 1000) (ht : ∀ k, (entryF E k).text.size ≤ 8192) :
    Calls Tryd.prog 19 #[.pointer (some ⟨r, 0, none⟩), msgV m] W fun e w' => ∃ v, e = .returned v ∧ IsAns W.heap.size w' v (Proofs.YtkpgadjhcnkadaaDoor.recvR id E m).1 ∧ PairAt B p b r id L (Proofs.YtkpgadjhcnkadaaDoor.recvR id E m).2 w' ∧ Below B w0 w' ∧ W.grownBy w' (some r) :=
  (refReceive_any h.r h.size m (by omega) hlen (by have := ht m.story; omega)).mono fun e w' ⟨v, h1, h2, h3, h4⟩ =>
    ⟨v, h1, h2, ⟨h.p.grown_r h.r h4, h3, h.ge, Nat.le_trans h.size h4.size⟩, hB.grown h4 h.size (fun k hk => by cases hk; exact h.r.ge), h4⟩

set_option maxRecDepth 100000 in
set_option maxHeartbeats 6400000 in
theorem made_any (a : Int) (A : Option Addr) (l c : Nat) (zs : List Six) (a0 a1 : Addr) (W : World) (hn : NibCells W) (he : ErrCells a0 a1 W) (h1 : -9223372036854775808 ≤ a) (h2 : a ≤ 9223372036854775807) (hz : SixIn W A l zs) :
    Calls Tryd.prog 25 #[.int .i64 a, .slice A l c] W fun e W' => ∃ p b r, e = .returned (.tuple #[.pointer (some ⟨p, 0, none⟩), .pointer (some ⟨r, 0, none⟩)]) ∧ PairAt W.heap.size p b r (1 + pickI a 8) (madeF (1 + pickI a 8) (zs.take 24)).1 (madeF (1 + pickI a 8) (zs.take 24)).2 W' ∧ Below W.heap.size W W' := by
  obtain ⟨hzl, hlm, hcell, hzs⟩ := hz
  have hlm' : l ≤ 9223372036854775807 := by unfold maxLen at hlm; omega
  have hpr := pickI_range a 8 (by decide)
  obtain ⟨d, hd⟩ : ∃ d, pickI a 8 = d := ⟨_, rfl⟩
  rw [hd] at hpr ⊢
  have cp := fun W => pick22_any a 8 W h1 h2 (by decide) (by decide)
  rw [hd] at cp
  have CP := Lib.hid cp
  have l0 : 0 ≤ d := hpr.1
  have l1 : d < 8 := hpr.2
  have hN := Lib.hid hn
  have hE := Lib.hid he
  have HZL := Lib.hid hzl
  clear hd cp hpr hn he hzl hlm
  go_enter Tryd.func25, Tryd.ntmps25
  go_wp2_with fail
  refine (CP.out _).mono ?_
  rintro e _ ⟨rfl, rfl⟩
  go_wp2_with fail
  refine (new_in (1 + d) _ (by omega) (by omega)).mono ?_
  rintro e w1 ⟨rfl, hp1, hB1, hs1⟩
  go_wp2_with fail
  refine (refNew_in (1 + d) _ (by omega) (by omega)).mono ?_
  rintro e w2 ⟨rfl, hr2, hb2⟩
  have hB2 := Below_then hB1 hb2
  have hP2 : PairAt W.heap.size (W.heap.size + 1) W.heap.size w1.heap.size (1 + d) [] [] w2 := ⟨hp1.below hb2 hp1.lt hp1.held.lt, hr2 _ hB1.size, Nat.le_refl _, hB2.size⟩
  obtain ⟨r, hr⟩ : ∃ r, w1.heap.size = r := ⟨_, rfl⟩
  obtain ⟨p, hp⟩ : ∃ p, W.heap.size + 1 = p := ⟨_, rfl⟩
  rw [hr, hp] at hP2
  rw [hr, hp]
  have HP2 := Lib.hid hP2
  clear hP2 hp1 hr2 hr hp hs1 hB1 hb2
  go_wp2_with fail
  go_loopw [10] (fun v10 wr => ∃ i : Nat, v10 = .int .i64 i ∧ i ≤ l ∧ i ≤ 24 ∧ Hid (PairAt W.heap.size p W.heap.size r (1 + d) (madeF (1 + d) (zs.take i)).1 (madeF (1 + d) (zs.take i)).2 wr) ∧ Below W.heap.size W wr) (fun v10 _ => l - (intOf v10).toNat)
  case atStart => exact ⟨0, rfl, by omega, by omega, HP2, hB2⟩
  case round =>
    obtain ⟨i, rfl, hil, hi24, HS, hB⟩ := hrel
    by_cases hlt : i < l
    · have t0 : decide ((i : Int) < l) = true := by simp; omega
      by_cases h24 : i < 24
      · have t1 : decide ((i : Int) < 24) = true := by simp; omega
        obtain ⟨b, off, rfl, hbl, hc⟩ := hcell (by omega)
        obtain ⟨z, hzi, c0, c1, c2, c3, c4, c5⟩ := hc i hlt
        have hok : z.Ok := hzs z (by rw [List.getElem?_eq_some_iff] at hzi; obtain ⟨hh, rfl⟩ := hzi; exact List.getElem_mem _)
        have x0 := (hB.cell (p := ⟨b, off + i * 6, none⟩) hbl).trans c0
        have x1 := (hB.cell (p := ⟨b, off + i * 6 + 1, none⟩) hbl).trans c1
        have x2 := (hB.cell (p := ⟨b, off + i * 6 + 2, none⟩) hbl).trans c2
        have x3 := (hB.cell (p := ⟨b, off + i * 6 + 3, none⟩) hbl).trans c3
        have x4 := (hB.cell (p := ⟨b, off + i * 6 + 4, none⟩) hbl).trans c4
        have x5 := (hB.cell (p := ⟨b, off + i * 6 + 5, none⟩) hbl).trans c5
        have k1 : (0 : Int) ≤ i := by omega
        have k2 : (i : Int) < l := by omega
        have hgood := madeF_good (1 + d) (zs.take i)
        have hnext : madeF (1 + d) (zs.take (i + 1)) = partF (1 + d) (madeF (1 + d) (zs.take i)) z := by
          rw [List.take_add_one, hzi, Option.toList_some, madeF_snoc]
        obtain ⟨⟨L, E⟩, hLE⟩ : ∃ s, madeF (1 + d) (zs.take i) = s := ⟨_, rfl⟩
        rw [hLE] at hgood hnext HS
        dsimp only at hgood HS
        have hlenE : E.length ≤ 1000 := by have := hgood.len; rw [List.length_take] at this; omega
        obtain ⟨m, hm⟩ : ∃ m, buildF (1 + d) E z = m := ⟨_, rfl⟩
        have hmd : m.data.size ≤ 8206 := by rw [← hm]; exact buildF_data hgood (1 + d) z
        unfold partF at hnext
        dsimp only at hnext
        rw [hm] at hnext
        have HNX := Lib.hid hnext
        have HG := Lib.hid hgood
        have cb := fun W' (h : IsR W.heap.size r (1 + d) E W') => build_any h z hok hlenE (HG.out.ent)
        simp only [hm] at cb
        have CB := Lib.hid cb
        clear hLE hnext hgood hm cb hok hzi c0 c1 c2 c3 c4 c5
        go_wp2_with fail
        refine (CB.out _ HS.out.r).mono ?_
        rintro e w3 ⟨rfl, hb3⟩
        have hB3 := Below_then hB hb3
        have hP3 := HS.out.below hb3
        rw [show msgV m = .agg #[.int .i64 m.kind, .int .i64 m.partner, .int .i64 m.seq, .int .i64 m.story, .int .i64 m.base, .int .i64 m.version, .string m.data] from rfl]
        obtain ⟨w4, hw4⟩ : ∃ w4, w3.alloc (.cells #[.int .i64 m.kind, .int .i64 m.partner, .int .i64 m.seq, .int .i64 m.story, .int .i64 m.base, .int .i64 m.version, .string m.data] 33) = w4 := ⟨_, rfl⟩
        have hb4 : Below w3.heap.size w3 w4 := by rw [← hw4]; exact (Below.refl _ _).alloc (Nat.le_refl _) _
        have hB4 := Below_then hB3 hb4
        have hP4 := hP3.below hb4
        have m4 : w4.heap[w3.heap.size]? = some (.cells (msgCells m) 33 (0, 0)) := by rw [← hw4]; exact World.alloc_heap_new w3 _
        obtain ⟨y0, y1, y2, y3, y4, y5, y6⟩ := cells7 m4
        have HP4 := Lib.hid hP4
        have M4 := Lib.hid m4
        have hq3 := hP3.p.held.lt
        clear hP3 hP4 m4 x0 x1 x2 x3 x4 x5
        go_wp2_with fail
        refine (HP4.out.recvP (a0 := a0) (a1 := a1) hB4 (hN.out.below hB4) (hE.out.below hB4) m hmd HG.out.txt).mono ?_
        rintro e w5 ⟨v5, rfl, _, hP5, hB5, hg5⟩
        have m5 := (hg5.block w3.heap.size (lt_of_heap M4.out) (fun e => by have := Option.some.inj e; omega)).trans M4.out
        clear y0 y1 y2 y3 y4 y5 y6
        obtain ⟨y0, y1, y2, y3, y4, y5, y6⟩ := cells7 m5
        have HP5 := Lib.hid hP5
        clear hP5 m5 hg5
        go_wp2_with fail
        refine (HP5.out.recvR hB5 m hmd hlenE HG.out.ent).mono ?_
        rintro e w6 ⟨v6, rfl, _, hP6, hB6, hg6⟩
        have HP6 := Lib.hid hP6
        clear hP6 hg6
        go_wp2_with fail
        go_roundw
        case rel => exact ⟨i + 1, by go_num, by omega, by omega, by rw [HNX.out]; exact HP6, hB6⟩
        case measure => simp [intOf]; omega
      · have t1 : decide ((i : Int) < 24) = false := by simp; omega
        have HI := Lib.hid (show i = 24 by omega)
        go_wp2_with fail
        go_ret2
        exact ⟨p, W.heap.size, r, rfl, by have h := HS.out; rw [HI.out] at h; exact h, hB⟩
    · have HI := Lib.hid (show i = l by omega)
      have t0 : decide ((i : Int) < l) = false := by simp; omega
      go_wp2_with fail
      go_ret2
      exact ⟨p, W.heap.size, r, rfl, by have h := HS.out; rw [HI.out, List.take_of_length_le (by rw [HZL.out]; exact Nat.le_refl _)] at h; rw [List.take_of_length_le (by rw [HZL.out]; have := HI.out; omega)]; exact h, hB⟩
end Go.Proofs.YtkpgadjhcnkadaaDoor
