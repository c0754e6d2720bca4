/- The two closures of partner.Receive: ack and reject. partner.Receive as a plain function. -/
import Derived.Test.YtkpgadjhcnkadaaDoorDelivered
import Derived.RegionTactic
import Derived.BigRegion
import Derived.Deep.RegionHeld3
set_option linter.unusedSimpArgs false
set_option linter.unusedVariables false
namespace Go.Proofs.YtkpgadjhcnkadaaDoor
open Go.RowKit

def msgCells (m : Msg) : Array Value := #[.int .i64 m.kind, .int .i64 m.partner, .int .i64 m.seq, .int .i64 m.story, .int .i64 m.base, .int .i64 m.version, .string m.data]
/-- The list of answers v is empty or holds the one message. -/
def IsAns (B : Nat) (w : World) (v : Value) (o : Option Msg) : Prop :=
  match o with
  | none => v = .slice none 0 0
  | some a => ∃ g, B ≤ g ∧ v = .slice (some ⟨g, 0, none⟩) 1 1 ∧ w.heap[g]? = some (.cells (msgCells a) 33 (0, 0))
def ackM (id seq story version : Int) : Msg := ⟨3, id, seq, story, 0, version, .empty⟩
def rejM (id seq story base : Int) : Msg := ⟨4, id, seq, story, base, 0, .empty⟩
set_option maxRecDepth 100000 in
set_option maxHeartbeats 3200000 in
theorem ack_any (ver id seq story : Int) (p c2 c3 : Nat) (w : World) (h2 : w.cell? ⟨c2, 0, none⟩ = some (.pointer (some ⟨p, 0, none⟩))) (hi : w.cell? ⟨p, 0, none⟩ = some (.int .i64 id)) (hq : w.cell? ⟨c3, 2, none⟩ = some (.int .i64 seq)) (hs : w.cell? ⟨c3, 3, none⟩ = some (.int .i64 story)) :
    Calls Tryd.prog 32 #[.int .i64 ver, .pointer (some ⟨c2, 0, none⟩), .pointer (some ⟨c3, 0, none⟩)] w fun e w' => ∃ v, e = .returned v ∧ IsAns w.heap.size w' v (some (ackM id seq story ver)) ∧ Below w.heap.size w w' := by
  go_enter Tryd.func32, Tryd.ntmps32
  go_wp2_with fail
  go_region
  go_wp2_with fail
  go_ret
  refine ⟨_, rfl, ⟨w.heap.size, Nat.le_refl _, rfl, ?_⟩, ⟨rfl, rfl, rfl, by simp, fun j hj => Below.heap_alloc _ _ _ hj⟩⟩
  exact (Go.MapKept.heap_alloc w _).1
set_option maxRecDepth 100000 in
set_option maxHeartbeats 3200000 in
theorem reject_any (rseq id story : Int) (tx : ByteArray) (p c2 c3 c5 : Nat) (w : World) (hn : NibCells w) (ht : tx.size ≤ 4611686018427387904) (h2 : w.cell? ⟨c2, 0, none⟩ = some (.pointer (some ⟨p, 0, none⟩))) (hi : w.cell? ⟨p, 0, none⟩ = some (.int .i64 id)) (hs : w.cell? ⟨c3, 3, none⟩ = some (.int .i64 story)) (hx : w.cell? ⟨c5, 1, none⟩ = some (.string tx)) :
    Calls Tryd.prog 33 #[.int .i64 rseq, .pointer (some ⟨c2, 0, none⟩), .pointer (some ⟨c3, 0, none⟩), .pointer (some ⟨c5, 0, none⟩)] w fun e w' => ∃ v, e = .returned v ∧ IsAns w.heap.size w' v (some (rejM id rseq story (sumB tx))) ∧ Below w.heap.size w w' := by
  obtain ⟨sx, hsx⟩ : ∃ x, sumB tx = x := ⟨_, rfl⟩
  have CS := Lib.hid (fun (W : World) (h1 : NibCells W) => sum_is hsx (by omega) W h1)
  rw [hsx]
  have Hn := Lib.hid hn
  clear hsx hn
  go_enter Tryd.func33, Tryd.ntmps33
  go_wp2_with fail
  go_region_held3 (fun W' => W'.cell? ⟨c2, 0, none⟩ = some (.pointer (some ⟨p, 0, none⟩)) ∧ W'.cell? ⟨p, 0, none⟩ = some (.int .i64 id) ∧ W'.cell? ⟨c3, 3, none⟩ = some (.int .i64 story) ∧ W'.cell? ⟨c5, 1, none⟩ = some (.string tx)) (first | go_keep)
    (first | (go_at_call 34; refine (CS.out _ (show NibCells w.drew from Hn.out)).mono ?_; rintro e w' ⟨rfl, rfl⟩))
  go_wp2_with fail
  go_ret
  refine ⟨_, rfl, ⟨w.heap.size, Nat.le_refl _, rfl, ?_⟩, ⟨rfl, rfl, rfl, by simp, fun j hj => Below.heap_alloc _ _ _ hj⟩⟩
  exact (Go.MapKept.heap_alloc w _).1
end Go.Proofs.YtkpgadjhcnkadaaDoor
set_option linter.unusedSimpArgs false
set_option linter.unusedVariables false
namespace Go.Proofs.YtkpgadjhcnkadaaDoor
open Go.RowKit

def recvF (id : Int) (l : List (Int × Held)) (m : Msg) : Option Msg × List (Int × Held) :=
  if validM m = false ∨ m.partner ≠ id ∨ (m.kind ≠ 1 ∧ m.kind ≠ 2) then (none, l)
  else if m.seq < (mapAt l m.story).seq then (some (rejM id (mapAt l m.story).seq m.story (sumB (mapAt l m.story).text)), l)
  else if m.seq = (mapAt l m.story).seq then (some (ackM id m.seq m.story (sumB (mapAt l m.story).text)), l)
  else if m.kind = 2 then (some (ackM id m.seq m.story 0), mapPut l m.story ⟨m.seq, .empty, false⟩)
  else if (delivF (mapAt l m.story) m).2 = false then (some (rejM id m.seq m.story (sumB (mapAt l m.story).text)), l)
  else (some (ackM id m.seq m.story m.version), mapPut l m.story ⟨m.seq, (delivF (mapAt l m.story) m).1, true⟩)
end Go.Proofs.YtkpgadjhcnkadaaDoor
