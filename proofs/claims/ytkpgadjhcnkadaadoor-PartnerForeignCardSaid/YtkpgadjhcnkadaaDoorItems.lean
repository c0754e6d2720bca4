/- partner.Items computes itemsF. -/
import Derived.Test.YtkpgadjhcnkadaaDoorPartner
import Derived.Test.YtkpgadjhcnkadaaDoorPartnerPure
import Derived.Deep.AppendLies
import Derived.OwnWalk
set_option linter.unusedSimpArgs false
set_option linter.unusedVariables false
namespace Go.Proofs.YtkpgadjhcnkadaaDoor
open Go.RowKit

def itemCells (x : Int × ByteArray) : List Value := [.int .i64 x.1, .string x.2]
/-- The slice v of items, of the call's own from block B on. -/
def IsItems (B : Nat) (w : World) (v : Value) (L : List (Int × ByteArray)) : Prop := w.ownsRow B 67 2 v L.length (L.flatMap itemCells)
theorem info_item : (Tryd.prog.info? 67).map (fun i => (i.zero, i.size, i.bytes)) = some (some (.agg #[.int .i64 0, .string .empty]), 2, 24) := by kernel_rfl
/-- The items of the first n stories. -/
def itemsTo (l : List (Int × Held)) (n : Nat) : List (Int × ByteArray) := (List.range n).filterMap fun (i : Nat) => if (mapAt l ((i : Int) + 1)).has then some ((i : Int) + 1, (mapAt l ((i : Int) + 1)).text) else none
theorem itemsTo_succ (l : List (Int × Held)) (n : Nat) : itemsTo l (n + 1) = itemsTo l n ++ (if (mapAt l ((n : Int) + 1)).has then [((n : Int) + 1, (mapAt l ((n : Int) + 1)).text)] else []) := by
  unfold itemsTo
  rw [List.range_succ, List.filterMap_append]
  congr 1
  cases h : (mapAt l ((n : Int) + 1)).has <;> simp [h]
theorem itemsTo_len (l : List (Int × Held)) (n : Nat) : (itemsTo l n).length ≤ n := by
  unfold itemsTo
  exact Nat.le_trans (List.length_filterMap_le _ _) (by simp)

theorem own_or (u : Value) : u.ownBlock = Option.none ∨ u.ownBlock ≠ Option.none := by cases u.ownBlock <;> simp

set_option maxRecDepth 100000 in
set_option maxHeartbeats 3200000 in
theorem items_any {p b : Nat} {id : Int} {l : List (Int × Held)} {w : World} (hp : IsP p b id l w) :
    Calls Tryd.prog 21 #[.pointer (some ⟨p, 0, none⟩)] w fun e w' => ∃ v, e = .returned v ∧ IsItems w.heap.size w' v (itemsF l) ∧ Below w.heap.size w w' := by
  obtain ⟨i0, hi, hz0, hz1, hz2⟩ := info_parts info_item
  have hplt := hp.lt
  have hblt := hp.held.lt
  have HP := Lib.hid hp
  clear hp
  go_enter Tryd.func21, Tryd.ntmps21
  go_wp2_with fail
  go_loopw [3, 7] (fun v3 v7 wr => ∃ (n : Nat), v7 = .int .i64 n ∧ n ≤ 64 ∧ wr.ownsRow w.heap.size 67 2 v3 (itemsTo l n).length ((itemsTo l n).flatMap itemCells) ∧ Below w.heap.size w wr) (fun _ v7 _ => 64 - (intOf v7).toNat)
  case atStart => exact ⟨0, rfl, by omega, World.ownsRow_nil _ _ _ _, Below.refl _ _⟩
  case round =>
    obtain ⟨n, rfl, hn, hrow, hB⟩ := hrel
    have hlen := itemsTo_len l n
    by_cases hlt : n < 64
    · have t0 : decide ((n : Int) < 64) = true := by simp; omega
      obtain ⟨h, hh⟩ : ∃ h, mapAt l ((n : Int) + 1) = h := ⟨_, rfl⟩
      have ct := text_any (HP.out.below hB hplt hblt) ((n : Int) + 1)
      have hsu := itemsTo_succ l n
      rw [hh] at ct hsu
      have CT := Lib.hid ct
      have HSU := Lib.hid hsu
      clear ct hsu hh
      cases hhas : h.has with
      | false =>
        have hs := HSU.out
        rw [hhas] at hs
        simp only [Bool.false_eq_true, if_false, List.append_nil] at hs
        have HS := Lib.hid hs
        clear hs
        go_wp2_with fail
        refine (CT.out).mono ?_
        rintro e w2 ⟨rfl, hb2⟩
        rw [hhas]
        go_wp2_with fail
        go_roundw
        case rel => exact ⟨n + 1, by go_num, by omega, by rw [HS.out]; exact hrow.kept (row := Option.none) ⟨hb2.os, hb2.tape, hb2.output, hb2.size, fun j hj _ => hb2.block j hj⟩ (own_or _), hB.trans (hb2.mono hB.size)⟩
        case measure => simp [intOf]; omega
      | true =>
        have hs := HSU.out
        rw [hhas] at hs
        simp only [if_true] at hs
        have HS := Lib.hid hs
        clear hs
        go_wp2_with fail
        refine (CT.out).mono ?_
        rintro e w2 ⟨rfl, hb2⟩
        rw [hhas]
        have hrow2 := hrow.kept (row := Option.none) (w' := w2) ⟨hb2.os, hb2.tape, hb2.output, hb2.size, fun j hj _ => hb2.block j hj⟩ (own_or _)
        have hB2 := hB.trans (hb2.mono hB.size)
        have hsz2 := hB2.size
        go_wp2_with (at_builtin; refine wpList_append_lies _ rfl _ _ 40 rfl w.heap.size 67 i0 _ 2 24 Tryd.underlying40 hi hz0 hz1 hz2 rfl (by decide) _ _ _ rfl (hrow2.alloc _) ⟨w2.heap.size, 0, none⟩ 1 1 [.int .i64 ((n : Int) + 1), .string h.text] rfl rfl (World.news_of_block (World.alloc_heap_new w2 _)) (by simp [Value.oneCell']) (by omega) (by unfold maxLen; omega) (by omega) (by simp; omega) (w2.heap.size + 1) (by simp) ?_; intro g cap w3 hown' hgrow hloc hglt)
        go_roundw
        case rel =>
          refine ⟨n + 1, by go_num, by omega, ?_, ?_⟩
          · rw [HS.out]
            simpa [itemCells] using hown'
          · exact (hB2.alloc hB2.size _).grown hgrow (by simp; omega) (fun k hk => (hrow2.lt k hk).1)
        case measure => simp [intOf]; omega
    · obtain rfl : n = 64 := by omega
      have t0 : decide ((64 : Int) < 64) = false := by decide
      go_wp2_with fail
      go_ret
      exact ⟨_, rfl, hrow, hB⟩
end Go.Proofs.YtkpgadjhcnkadaaDoor
