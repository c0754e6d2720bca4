/-
  NARROWER THAN 'FOR EVERY INPUT', by the rows' own cells (each row's printed sentence says how): PartnerMatchesReference: laid · PartnerNew: laid · PartnerRepeat: laid · PartnerLastWins: laid · PartnerDelta: laid · PartnerReject: laid · PartnerForeign: laid · PartnerIndependent: laid · PartnerItems: laid.
  DERIVED. THE GIVEN ROWS OF THIS SEAT. 9 by the template 'for every input the law returns true; each argument reads behind the call as it read before'; 0 by the template 'total and deterministic' (their statements: YtkpgadjhcnkadaaDoorTotals.lean).
  GIVEN WITH THE SEED: the statements are not yours to turn. If you find one false, say at which input.
  Laid BY PROGRAM, IN A SANDBOX (cutbox-rows.mjs): the forced cells as the released guide's own fill.sh prints them over the translation 15e74cf03341bcdf… (all of the seat's roots in one cut). By AI agents, Wed Nov 11 2026. No macro, syntax, notation, axiom, sorry.
-/
import Derived.Test.YtkpgadjhcnkadaaDoorChecked
import GoSem.Claim
import GoSem.ClaimJoined
import GoSem.ClaimMapViews
import Derived.JoinedTies
import Derived.KernelRfl
namespace Go.Proofs.YtkpgadjhcnkadaaDoor
/- THE CELL 'sum', in the pinned program and in every row, IS THE sha256 OF THE DUMP (.gsa) THAT YtkpgadjhcnkadaaDoorProg.lean LOADS. Nothing in Lean hashes anything: it is a label: what it is worth is what the hold of that sum in a sandbox is worth. -/
noncomputable def Tryd.pinned : Pinned := { name := "ytkpgadjhcnkadaadoor", sum := "15e74cf03341bcdfa59ea8137b92c4d7a71da62ed5ddc7c143af8799a72a5ef2", checked := Tryd.checked }
namespace Rows
def none {H : Type} : Left H := { results := [], args := [] }

/- WHAT THE LISTED PACKAGE-LEVEL VARIABLES READ AS WHEN THE CALL BEGINS. Each datum BY PROGRAM (the guide's laid-datum.mjs) off the statement by which the dump's own 'gosem.cut.vars' lays the variable. In a bare row this is a premise. The card (YtkpgadjhcnkadaaDoorCards.lean) ties it to the program's text. -/
def laid_copydesk_wire_nibbles {H : Type} : DataW H := .agg [.lit (.int .u32 0), .lit (.int .u32 274646895), .lit (.int .u32 549293790), .lit (.int .u32 820201905), .lit (.int .u32 1098587580), .lit (.int .u32 1361435347), .lit (.int .u32 1640403810), .lit (.int .u32 1905808397), .lit (.int .u32 2197175160), .lit (.int .u32 2460548119), .lit (.int .u32 2722870694), .lit (.int .u32 2987750089), .lit (.int .u32 3280807620), .lit (.int .u32 3553878443), .lit (.int .u32 3811616794), .lit (.int .u32 4084100981)]
def laid_copydesk_delta_errWire {H : Type} : DataW H := .iface "*errors.errorString" (.ptr (.agg [.lit (.string [109, 97, 108, 102, 111, 114, 109, 101, 100])]))
def laid_copydesk_delta_errDelta {H : Type} : DataW H := .iface "*errors.errorString" (.ptr (.agg [.lit (.string [110, 111, 116, 32, 102, 111, 114, 32, 116, 104, 105, 115, 32, 116, 101, 120, 116])]))

/-- 'copydesklaw22.PartnerMatchesReference': WHATEVER THE INPUT: true; the input reads as it did. -/
def partnerMatchesReferenceSpec : ChangeSpec := { name := "partnerMatchesReference", fn := fun _ => fun
  | [d1, d2] => { results := [.lit (.bool true)], args := [d1, d2] }
  | _ => none }
def partnerMatchesReferenceRow : OpenClaim := { program := "ytkpgadjhcnkadaadoor", sum := "15e74cf03341bcdfa59ea8137b92c4d7a71da62ed5ddc7c143af8799a72a5ef2", func := "copydesk/copydesklaw22.PartnerMatchesReference", spec := "partnerMatchesReference", inPlace := ["internal/reflectlite.TypeOf", "internal/abi.NoEscape"], unfollowed := true, recurses := true, named := ["copydesk/wire.nibbles", "copydesk/delta.errDelta", "copydesk/delta.errWire"], apart := false, laid := [("copydesk/wire.nibbles", laid_copydesk_wire_nibbles), ("copydesk/delta.errWire", laid_copydesk_delta_errWire), ("copydesk/delta.errDelta", laid_copydesk_delta_errDelta)] }
def PartnerMatchesReferenceSaid : Prop := partnerMatchesReferenceRow.holds Tryd.pinned (OpenSpec.ofChange partnerMatchesReferenceSpec)

/-- ITS FALSE NEIGHBOUR: 'it returns false'. Refute it at one input. -/
def partnerMatchesReferenceWrong : ChangeSpec := { name := "partnerMatchesReference", fn := fun _ => fun
  | [d1, d2] => { results := [.lit (.bool false)], args := [d1, d2] }
  | _ => none }
def PartnerMatchesReferenceWrongFalsely : Prop := partnerMatchesReferenceRow.holds Tryd.pinned (OpenSpec.ofChange partnerMatchesReferenceWrong)

/-- 'copydesklaw22.PartnerNew': WHATEVER THE INPUT: true; the input reads as it did. -/
def partnerNewSpec : ChangeSpec := { name := "partnerNew", fn := fun _ => fun
  | [d] => { results := [.lit (.bool true)], args := [d] }
  | _ => none }
def partnerNewRow : OpenClaim := { program := "ytkpgadjhcnkadaadoor", sum := "15e74cf03341bcdfa59ea8137b92c4d7a71da62ed5ddc7c143af8799a72a5ef2", func := "copydesk/copydesklaw22.PartnerNew", spec := "partnerNew", inPlace := ["internal/reflectlite.TypeOf", "internal/abi.NoEscape"], unfollowed := true, recurses := true, named := ["copydesk/wire.nibbles", "copydesk/delta.errDelta", "copydesk/delta.errWire"], apart := false, laid := [("copydesk/wire.nibbles", laid_copydesk_wire_nibbles), ("copydesk/delta.errWire", laid_copydesk_delta_errWire), ("copydesk/delta.errDelta", laid_copydesk_delta_errDelta)] }
def PartnerNewSaid : Prop := partnerNewRow.holds Tryd.pinned (OpenSpec.ofChange partnerNewSpec)

/-- ITS FALSE NEIGHBOUR: 'it returns false'. Refute it at one input. -/
def partnerNewWrong : ChangeSpec := { name := "partnerNew", fn := fun _ => fun
  | [d] => { results := [.lit (.bool false)], args := [d] }
  | _ => none }
def PartnerNewWrongFalsely : Prop := partnerNewRow.holds Tryd.pinned (OpenSpec.ofChange partnerNewWrong)

/-- 'copydesklaw22.PartnerRepeat': WHATEVER THE INPUT: true; the input reads as it did. -/
def partnerRepeatSpec : ChangeSpec := { name := "partnerRepeat", fn := fun _ => fun
  | [d1, d2, d3] => { results := [.lit (.bool true)], args := [d1, d2, d3] }
  | _ => none }
def partnerRepeatRow : OpenClaim := { program := "ytkpgadjhcnkadaadoor", sum := "15e74cf03341bcdfa59ea8137b92c4d7a71da62ed5ddc7c143af8799a72a5ef2", func := "copydesk/copydesklaw22.PartnerRepeat", spec := "partnerRepeat", inPlace := ["internal/reflectlite.TypeOf", "internal/abi.NoEscape"], unfollowed := true, recurses := true, named := ["copydesk/wire.nibbles", "copydesk/delta.errDelta", "copydesk/delta.errWire"], apart := false, laid := [("copydesk/wire.nibbles", laid_copydesk_wire_nibbles), ("copydesk/delta.errWire", laid_copydesk_delta_errWire), ("copydesk/delta.errDelta", laid_copydesk_delta_errDelta)] }
def PartnerRepeatSaid : Prop := partnerRepeatRow.holds Tryd.pinned (OpenSpec.ofChange partnerRepeatSpec)

/-- ITS FALSE NEIGHBOUR: 'it returns false'. Refute it at one input. -/
def partnerRepeatWrong : ChangeSpec := { name := "partnerRepeat", fn := fun _ => fun
  | [d1, d2, d3] => { results := [.lit (.bool false)], args := [d1, d2, d3] }
  | _ => none }
def PartnerRepeatWrongFalsely : Prop := partnerRepeatRow.holds Tryd.pinned (OpenSpec.ofChange partnerRepeatWrong)

/-- 'copydesklaw22.PartnerLastWins': WHATEVER THE INPUT: true; the input reads as it did. -/
def partnerLastWinsSpec : ChangeSpec := { name := "partnerLastWins", fn := fun _ => fun
  | [d1, d2] => { results := [.lit (.bool true)], args := [d1, d2] }
  | _ => none }
def partnerLastWinsRow : OpenClaim := { program := "ytkpgadjhcnkadaadoor", sum := "15e74cf03341bcdfa59ea8137b92c4d7a71da62ed5ddc7c143af8799a72a5ef2", func := "copydesk/copydesklaw22.PartnerLastWins", spec := "partnerLastWins", inPlace := ["internal/reflectlite.TypeOf", "internal/abi.NoEscape"], unfollowed := true, recurses := true, named := ["copydesk/wire.nibbles", "copydesk/delta.errDelta", "copydesk/delta.errWire"], apart := false, laid := [("copydesk/wire.nibbles", laid_copydesk_wire_nibbles), ("copydesk/delta.errWire", laid_copydesk_delta_errWire), ("copydesk/delta.errDelta", laid_copydesk_delta_errDelta)] }
def PartnerLastWinsSaid : Prop := partnerLastWinsRow.holds Tryd.pinned (OpenSpec.ofChange partnerLastWinsSpec)

/-- ITS FALSE NEIGHBOUR: 'it returns false'. Refute it at one input. -/
def partnerLastWinsWrong : ChangeSpec := { name := "partnerLastWins", fn := fun _ => fun
  | [d1, d2] => { results := [.lit (.bool false)], args := [d1, d2] }
  | _ => none }
def PartnerLastWinsWrongFalsely : Prop := partnerLastWinsRow.holds Tryd.pinned (OpenSpec.ofChange partnerLastWinsWrong)

/-- 'copydesklaw22.PartnerDelta': WHATEVER THE INPUT: true; the input reads as it did. -/
def partnerDeltaSpec : ChangeSpec := { name := "partnerDelta", fn := fun _ => fun
  | [d1, d2, d3] => { results := [.lit (.bool true)], args := [d1, d2, d3] }
  | _ => none }
def partnerDeltaRow : OpenClaim := { program := "ytkpgadjhcnkadaadoor", sum := "15e74cf03341bcdfa59ea8137b92c4d7a71da62ed5ddc7c143af8799a72a5ef2", func := "copydesk/copydesklaw22.PartnerDelta", spec := "partnerDelta", inPlace := ["internal/reflectlite.TypeOf", "internal/abi.NoEscape"], unfollowed := true, recurses := true, named := ["copydesk/wire.nibbles", "copydesk/delta.errDelta", "copydesk/delta.errWire"], apart := false, laid := [("copydesk/wire.nibbles", laid_copydesk_wire_nibbles), ("copydesk/delta.errWire", laid_copydesk_delta_errWire), ("copydesk/delta.errDelta", laid_copydesk_delta_errDelta)] }
def PartnerDeltaSaid : Prop := partnerDeltaRow.holds Tryd.pinned (OpenSpec.ofChange partnerDeltaSpec)

/-- ITS FALSE NEIGHBOUR: 'it returns false'. Refute it at one input. -/
def partnerDeltaWrong : ChangeSpec := { name := "partnerDelta", fn := fun _ => fun
  | [d1, d2, d3] => { results := [.lit (.bool false)], args := [d1, d2, d3] }
  | _ => none }
def PartnerDeltaWrongFalsely : Prop := partnerDeltaRow.holds Tryd.pinned (OpenSpec.ofChange partnerDeltaWrong)

/-- 'copydesklaw22.PartnerReject': WHATEVER THE INPUT: true; the input reads as it did. -/
def partnerRejectSpec : ChangeSpec := { name := "partnerReject", fn := fun _ => fun
  | [d1, d2, d3] => { results := [.lit (.bool true)], args := [d1, d2, d3] }
  | _ => none }
def partnerRejectRow : OpenClaim := { program := "ytkpgadjhcnkadaadoor", sum := "15e74cf03341bcdfa59ea8137b92c4d7a71da62ed5ddc7c143af8799a72a5ef2", func := "copydesk/copydesklaw22.PartnerReject", spec := "partnerReject", inPlace := ["internal/reflectlite.TypeOf", "internal/abi.NoEscape"], unfollowed := true, recurses := true, named := ["copydesk/wire.nibbles", "copydesk/delta.errDelta", "copydesk/delta.errWire"], apart := false, laid := [("copydesk/wire.nibbles", laid_copydesk_wire_nibbles), ("copydesk/delta.errWire", laid_copydesk_delta_errWire), ("copydesk/delta.errDelta", laid_copydesk_delta_errDelta)] }
def PartnerRejectSaid : Prop := partnerRejectRow.holds Tryd.pinned (OpenSpec.ofChange partnerRejectSpec)

/-- ITS FALSE NEIGHBOUR: 'it returns false'. Refute it at one input. -/
def partnerRejectWrong : ChangeSpec := { name := "partnerReject", fn := fun _ => fun
  | [d1, d2, d3] => { results := [.lit (.bool false)], args := [d1, d2, d3] }
  | _ => none }
def PartnerRejectWrongFalsely : Prop := partnerRejectRow.holds Tryd.pinned (OpenSpec.ofChange partnerRejectWrong)

/-- 'copydesklaw22.PartnerForeign': WHATEVER THE INPUT: true; the input reads as it did. -/
def partnerForeignSpec : ChangeSpec := { name := "partnerForeign", fn := fun _ => fun
  | [d1, d2, d3] => { results := [.lit (.bool true)], args := [d1, d2, d3] }
  | _ => none }
def partnerForeignRow : OpenClaim := { program := "ytkpgadjhcnkadaadoor", sum := "15e74cf03341bcdfa59ea8137b92c4d7a71da62ed5ddc7c143af8799a72a5ef2", func := "copydesk/copydesklaw22.PartnerForeign", spec := "partnerForeign", inPlace := ["internal/reflectlite.TypeOf", "internal/abi.NoEscape"], unfollowed := true, recurses := true, named := ["copydesk/wire.nibbles", "copydesk/delta.errDelta", "copydesk/delta.errWire"], apart := false, laid := [("copydesk/wire.nibbles", laid_copydesk_wire_nibbles), ("copydesk/delta.errWire", laid_copydesk_delta_errWire), ("copydesk/delta.errDelta", laid_copydesk_delta_errDelta)] }
def PartnerForeignSaid : Prop := partnerForeignRow.holds Tryd.pinned (OpenSpec.ofChange partnerForeignSpec)

/-- ITS FALSE NEIGHBOUR: 'it returns false'. Refute it at one input. -/
def partnerForeignWrong : ChangeSpec := { name := "partnerForeign", fn := fun _ => fun
  | [d1, d2, d3] => { results := [.lit (.bool false)], args := [d1, d2, d3] }
  | _ => none }
def PartnerForeignWrongFalsely : Prop := partnerForeignRow.holds Tryd.pinned (OpenSpec.ofChange partnerForeignWrong)

/-- 'copydesklaw22.PartnerIndependent': WHATEVER THE INPUT: true; the input reads as it did. -/
def partnerIndependentSpec : ChangeSpec := { name := "partnerIndependent", fn := fun _ => fun
  | [d1, d2, d3] => { results := [.lit (.bool true)], args := [d1, d2, d3] }
  | _ => none }
def partnerIndependentRow : OpenClaim := { program := "ytkpgadjhcnkadaadoor", sum := "15e74cf03341bcdfa59ea8137b92c4d7a71da62ed5ddc7c143af8799a72a5ef2", func := "copydesk/copydesklaw22.PartnerIndependent", spec := "partnerIndependent", inPlace := ["internal/reflectlite.TypeOf", "internal/abi.NoEscape"], unfollowed := true, recurses := true, named := ["copydesk/wire.nibbles", "copydesk/delta.errDelta", "copydesk/delta.errWire"], apart := false, laid := [("copydesk/wire.nibbles", laid_copydesk_wire_nibbles), ("copydesk/delta.errWire", laid_copydesk_delta_errWire), ("copydesk/delta.errDelta", laid_copydesk_delta_errDelta)] }
def PartnerIndependentSaid : Prop := partnerIndependentRow.holds Tryd.pinned (OpenSpec.ofChange partnerIndependentSpec)

/-- ITS FALSE NEIGHBOUR: 'it returns false'. Refute it at one input. -/
def partnerIndependentWrong : ChangeSpec := { name := "partnerIndependent", fn := fun _ => fun
  | [d1, d2, d3] => { results := [.lit (.bool false)], args := [d1, d2, d3] }
  | _ => none }
def PartnerIndependentWrongFalsely : Prop := partnerIndependentRow.holds Tryd.pinned (OpenSpec.ofChange partnerIndependentWrong)

/-- 'copydesklaw22.PartnerItems': WHATEVER THE INPUT: true; the input reads as it did. -/
def partnerItemsSpec : ChangeSpec := { name := "partnerItems", fn := fun _ => fun
  | [d1, d2] => { results := [.lit (.bool true)], args := [d1, d2] }
  | _ => none }
def partnerItemsRow : OpenClaim := { program := "ytkpgadjhcnkadaadoor", sum := "15e74cf03341bcdfa59ea8137b92c4d7a71da62ed5ddc7c143af8799a72a5ef2", func := "copydesk/copydesklaw22.PartnerItems", spec := "partnerItems", inPlace := ["internal/reflectlite.TypeOf", "internal/abi.NoEscape"], unfollowed := true, recurses := true, named := ["copydesk/wire.nibbles", "copydesk/delta.errDelta", "copydesk/delta.errWire"], apart := false, laid := [("copydesk/wire.nibbles", laid_copydesk_wire_nibbles), ("copydesk/delta.errWire", laid_copydesk_delta_errWire), ("copydesk/delta.errDelta", laid_copydesk_delta_errDelta)] }
def PartnerItemsSaid : Prop := partnerItemsRow.holds Tryd.pinned (OpenSpec.ofChange partnerItemsSpec)

/-- ITS FALSE NEIGHBOUR: 'it returns false'. Refute it at one input. -/
def partnerItemsWrong : ChangeSpec := { name := "partnerItems", fn := fun _ => fun
  | [d1, d2] => { results := [.lit (.bool false)], args := [d1, d2] }
  | _ => none }
def PartnerItemsWrongFalsely : Prop := partnerItemsRow.holds Tryd.pinned (OpenSpec.ofChange partnerItemsWrong)

/- THE SECOND FORM. 'bulk': how many values and letters a reading holds, each counted each time it is reached (what is shared counts as often as it is met; a slice's spare places count too). A statement '..UptoSaid' is the law's where the arguments, and the package variables that the reading takes, are together of bulk at most 1048576: NARROWER than '..Said'. Prove '..Said' where nothing that the law and all that it calls make is longer than what came in: it says more and counts as full. Else prove '..UptoSaid'. A law counts once. -/
mutual
def uptoBulk {H : Type} : DataW H → Nat
  | .lit (.string bytes) => bytes.length + 1
  | .lit _ => 1
  | .nil => 1
  | .ptr d => uptoBulk d + 1
  | .slice elems spare => uptoBulkAll elems + uptoBulkAll spare + 1
  | .agg parts => uptoBulkAll parts + 1
  | .iface _ d => uptoBulk d + 1
  | .map entries => uptoBulkEntries entries + 1
  | .held _ => 1
def uptoBulkAll {H : Type} : List (DataW H) → Nat
  | [] => 0
  | d :: r => uptoBulk d + uptoBulkAll r
def uptoBulkEntries {H : Type} : List (Lit × DataW H) → Nat
  | [] => 0
  | x :: r => uptoBulkEntry x + uptoBulkEntries r
def uptoBulkEntry {H : Type} : Lit × DataW H → Nat
  | (.string bytes, d) => bytes.length + uptoBulk d + 1
  | (_, d) => uptoBulk d + 1
 end
def uptoSmall : (H : Type) → List (DataW H) → Bool := fun _ ds => decide (uptoBulkAll ds ≤ 1048576)
def OpenSpec.upto (s : _root_.Go.ChangeSpec) : _root_.Go.OpenSpec := { _root_.Go.OpenSpec.ofChange s with cond := some uptoSmall }

/-- 'copydesklaw22.PartnerMatchesReference', WHERE WHAT IT READS IS OF BULK AT MOST 1048576: true; the input reads as it did. -/
def partnerMatchesReferenceUptoRow : OpenClaim := { program := "ytkpgadjhcnkadaadoor", sum := "15e74cf03341bcdfa59ea8137b92c4d7a71da62ed5ddc7c143af8799a72a5ef2", func := "copydesk/copydesklaw22.PartnerMatchesReference", spec := "partnerMatchesReference", inPlace := ["internal/reflectlite.TypeOf", "internal/abi.NoEscape"], unfollowed := true, recurses := true, named := ["copydesk/wire.nibbles", "copydesk/delta.errDelta", "copydesk/delta.errWire"], apart := false, laid := [("copydesk/wire.nibbles", laid_copydesk_wire_nibbles), ("copydesk/delta.errWire", laid_copydesk_delta_errWire), ("copydesk/delta.errDelta", laid_copydesk_delta_errDelta)], narrowed := true }
def PartnerMatchesReferenceUptoSaid : Prop := partnerMatchesReferenceUptoRow.holds Tryd.pinned (OpenSpec.upto partnerMatchesReferenceSpec)

/-- 'copydesklaw22.PartnerNew', WHERE WHAT IT READS IS OF BULK AT MOST 1048576: true; the input reads as it did. -/
def partnerNewUptoRow : OpenClaim := { program := "ytkpgadjhcnkadaadoor", sum := "15e74cf03341bcdfa59ea8137b92c4d7a71da62ed5ddc7c143af8799a72a5ef2", func := "copydesk/copydesklaw22.PartnerNew", spec := "partnerNew", inPlace := ["internal/reflectlite.TypeOf", "internal/abi.NoEscape"], unfollowed := true, recurses := true, named := ["copydesk/wire.nibbles", "copydesk/delta.errDelta", "copydesk/delta.errWire"], apart := false, laid := [("copydesk/wire.nibbles", laid_copydesk_wire_nibbles), ("copydesk/delta.errWire", laid_copydesk_delta_errWire), ("copydesk/delta.errDelta", laid_copydesk_delta_errDelta)], narrowed := true }
def PartnerNewUptoSaid : Prop := partnerNewUptoRow.holds Tryd.pinned (OpenSpec.upto partnerNewSpec)

/-- 'copydesklaw22.PartnerRepeat', WHERE WHAT IT READS IS OF BULK AT MOST 1048576: true; the input reads as it did. -/
def partnerRepeatUptoRow : OpenClaim := { program := "ytkpgadjhcnkadaadoor", sum := "15e74cf03341bcdfa59ea8137b92c4d7a71da62ed5ddc7c143af8799a72a5ef2", func := "copydesk/copydesklaw22.PartnerRepeat", spec := "partnerRepeat", inPlace := ["internal/reflectlite.TypeOf", "internal/abi.NoEscape"], unfollowed := true, recurses := true, named := ["copydesk/wire.nibbles", "copydesk/delta.errDelta", "copydesk/delta.errWire"], apart := false, laid := [("copydesk/wire.nibbles", laid_copydesk_wire_nibbles), ("copydesk/delta.errWire", laid_copydesk_delta_errWire), ("copydesk/delta.errDelta", laid_copydesk_delta_errDelta)], narrowed := true }
def PartnerRepeatUptoSaid : Prop := partnerRepeatUptoRow.holds Tryd.pinned (OpenSpec.upto partnerRepeatSpec)

/-- 'copydesklaw22.PartnerLastWins', WHERE WHAT IT READS IS OF BULK AT MOST 1048576: true; the input reads as it did. -/
def partnerLastWinsUptoRow : OpenClaim := { program := "ytkpgadjhcnkadaadoor", sum := "15e74cf03341bcdfa59ea8137b92c4d7a71da62ed5ddc7c143af8799a72a5ef2", func := "copydesk/copydesklaw22.PartnerLastWins", spec := "partnerLastWins", inPlace := ["internal/reflectlite.TypeOf", "internal/abi.NoEscape"], unfollowed := true, recurses := true, named := ["copydesk/wire.nibbles", "copydesk/delta.errDelta", "copydesk/delta.errWire"], apart := false, laid := [("copydesk/wire.nibbles", laid_copydesk_wire_nibbles), ("copydesk/delta.errWire", laid_copydesk_delta_errWire), ("copydesk/delta.errDelta", laid_copydesk_delta_errDelta)], narrowed := true }
def PartnerLastWinsUptoSaid : Prop := partnerLastWinsUptoRow.holds Tryd.pinned (OpenSpec.upto partnerLastWinsSpec)

/-- 'copydesklaw22.PartnerDelta', WHERE WHAT IT READS IS OF BULK AT MOST 1048576: true; the input reads as it did. -/
def partnerDeltaUptoRow : OpenClaim := { program := "ytkpgadjhcnkadaadoor", sum := "15e74cf03341bcdfa59ea8137b92c4d7a71da62ed5ddc7c143af8799a72a5ef2", func := "copydesk/copydesklaw22.PartnerDelta", spec := "partnerDelta", inPlace := ["internal/reflectlite.TypeOf", "internal/abi.NoEscape"], unfollowed := true, recurses := true, named := ["copydesk/wire.nibbles", "copydesk/delta.errDelta", "copydesk/delta.errWire"], apart := false, laid := [("copydesk/wire.nibbles", laid_copydesk_wire_nibbles), ("copydesk/delta.errWire", laid_copydesk_delta_errWire), ("copydesk/delta.errDelta", laid_copydesk_delta_errDelta)], narrowed := true }
def PartnerDeltaUptoSaid : Prop := partnerDeltaUptoRow.holds Tryd.pinned (OpenSpec.upto partnerDeltaSpec)

/-- 'copydesklaw22.PartnerReject', WHERE WHAT IT READS IS OF BULK AT MOST 1048576: true; the input reads as it did. -/
def partnerRejectUptoRow : OpenClaim := { program := "ytkpgadjhcnkadaadoor", sum := "15e74cf03341bcdfa59ea8137b92c4d7a71da62ed5ddc7c143af8799a72a5ef2", func := "copydesk/copydesklaw22.PartnerReject", spec := "partnerReject", inPlace := ["internal/reflectlite.TypeOf", "internal/abi.NoEscape"], unfollowed := true, recurses := true, named := ["copydesk/wire.nibbles", "copydesk/delta.errDelta", "copydesk/delta.errWire"], apart := false, laid := [("copydesk/wire.nibbles", laid_copydesk_wire_nibbles), ("copydesk/delta.errWire", laid_copydesk_delta_errWire), ("copydesk/delta.errDelta", laid_copydesk_delta_errDelta)], narrowed := true }
def PartnerRejectUptoSaid : Prop := partnerRejectUptoRow.holds Tryd.pinned (OpenSpec.upto partnerRejectSpec)

/-- 'copydesklaw22.PartnerForeign', WHERE WHAT IT READS IS OF BULK AT MOST 1048576: true; the input reads as it did. -/
def partnerForeignUptoRow : OpenClaim := { program := "ytkpgadjhcnkadaadoor", sum := "15e74cf03341bcdfa59ea8137b92c4d7a71da62ed5ddc7c143af8799a72a5ef2", func := "copydesk/copydesklaw22.PartnerForeign", spec := "partnerForeign", inPlace := ["internal/reflectlite.TypeOf", "internal/abi.NoEscape"], unfollowed := true, recurses := true, named := ["copydesk/wire.nibbles", "copydesk/delta.errDelta", "copydesk/delta.errWire"], apart := false, laid := [("copydesk/wire.nibbles", laid_copydesk_wire_nibbles), ("copydesk/delta.errWire", laid_copydesk_delta_errWire), ("copydesk/delta.errDelta", laid_copydesk_delta_errDelta)], narrowed := true }
def PartnerForeignUptoSaid : Prop := partnerForeignUptoRow.holds Tryd.pinned (OpenSpec.upto partnerForeignSpec)

/-- 'copydesklaw22.PartnerIndependent', WHERE WHAT IT READS IS OF BULK AT MOST 1048576: true; the input reads as it did. -/
def partnerIndependentUptoRow : OpenClaim := { program := "ytkpgadjhcnkadaadoor", sum := "15e74cf03341bcdfa59ea8137b92c4d7a71da62ed5ddc7c143af8799a72a5ef2", func := "copydesk/copydesklaw22.PartnerIndependent", spec := "partnerIndependent", inPlace := ["internal/reflectlite.TypeOf", "internal/abi.NoEscape"], unfollowed := true, recurses := true, named := ["copydesk/wire.nibbles", "copydesk/delta.errDelta", "copydesk/delta.errWire"], apart := false, laid := [("copydesk/wire.nibbles", laid_copydesk_wire_nibbles), ("copydesk/delta.errWire", laid_copydesk_delta_errWire), ("copydesk/delta.errDelta", laid_copydesk_delta_errDelta)], narrowed := true }
def PartnerIndependentUptoSaid : Prop := partnerIndependentUptoRow.holds Tryd.pinned (OpenSpec.upto partnerIndependentSpec)

/-- 'copydesklaw22.PartnerItems', WHERE WHAT IT READS IS OF BULK AT MOST 1048576: true; the input reads as it did. -/
def partnerItemsUptoRow : OpenClaim := { program := "ytkpgadjhcnkadaadoor", sum := "15e74cf03341bcdfa59ea8137b92c4d7a71da62ed5ddc7c143af8799a72a5ef2", func := "copydesk/copydesklaw22.PartnerItems", spec := "partnerItems", inPlace := ["internal/reflectlite.TypeOf", "internal/abi.NoEscape"], unfollowed := true, recurses := true, named := ["copydesk/wire.nibbles", "copydesk/delta.errDelta", "copydesk/delta.errWire"], apart := false, laid := [("copydesk/wire.nibbles", laid_copydesk_wire_nibbles), ("copydesk/delta.errWire", laid_copydesk_delta_errWire), ("copydesk/delta.errDelta", laid_copydesk_delta_errDelta)], narrowed := true }
def PartnerItemsUptoSaid : Prop := partnerItemsUptoRow.holds Tryd.pinned (OpenSpec.upto partnerItemsSpec)

end Rows
end Go.Proofs.YtkpgadjhcnkadaaDoor
