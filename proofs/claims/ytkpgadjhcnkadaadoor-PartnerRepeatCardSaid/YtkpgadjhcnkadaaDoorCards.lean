/-
  DERIVED. GIVEN WITH THE SEED: THE CARDS: each row of YtkpgadjhcnkadaaDoorRows.lean that lists a variable, with what it lists TIED to the program's text (the seventh form; the later family's looks); each row that meets fmt, with fmt's text TOLD by the authors' own Lean function (tested against real Go, not proved from fmt's source: count such statements apart). THE CARD IS WHAT COUNTS. Prove the row's statement (the work); the ties are given (YtkpgadjhcnkadaaDoorTie.lean); close each card by the builder's one call (the guide's Derived/Test/ToyasCard.lean, 'card_holds'). Laid BY PROGRAM, IN A SANDBOX (cutbox-door.mjs). By AI agents, Wed Nov 11 2026. No macro, syntax, notation, axiom, sorry.
-/
import Derived.Test.YtkpgadjhcnkadaaDoorRows
import GoSem.ClaimSeven
namespace Go.Proofs.YtkpgadjhcnkadaaDoor
namespace Rows

/-- THE TIED CARD OF 'copydesklaw22.PartnerMatchesReference'. -/
def partnerMatchesReferenceCard : Claim7 := { stood := { row := partnerMatchesReferenceRow, standIns := [], harness := (true, "87ffce17bbce0a021f911cdb35fa71b7ad1293e94b3988a0322e2aa7eb7c46de"), looks := true }, kinds := [], alts := [], laidByText := true, laidKinds := [.data, .sentinel, .sentinel], laidTests := true, laidLooks := .later }
def PartnerMatchesReferenceCardSaid : Prop := Claim7.holds Tryd.pinned (.plain (OpenSpec.ofChange partnerMatchesReferenceSpec)) partnerMatchesReferenceCard

/-- THE TIED CARD OF 'copydesklaw22.PartnerNew'. -/
def partnerNewCard : Claim7 := { stood := { row := partnerNewRow, standIns := [], harness := (true, "87ffce17bbce0a021f911cdb35fa71b7ad1293e94b3988a0322e2aa7eb7c46de"), looks := true }, kinds := [], alts := [], laidByText := true, laidKinds := [.data, .sentinel, .sentinel], laidTests := true, laidLooks := .later }
def PartnerNewCardSaid : Prop := Claim7.holds Tryd.pinned (.plain (OpenSpec.ofChange partnerNewSpec)) partnerNewCard

/-- THE TIED CARD OF 'copydesklaw22.PartnerRepeat'. -/
def partnerRepeatCard : Claim7 := { stood := { row := partnerRepeatRow, standIns := [], harness := (true, "87ffce17bbce0a021f911cdb35fa71b7ad1293e94b3988a0322e2aa7eb7c46de"), looks := true }, kinds := [], alts := [], laidByText := true, laidKinds := [.data, .sentinel, .sentinel], laidTests := true, laidLooks := .later }
def PartnerRepeatCardSaid : Prop := Claim7.holds Tryd.pinned (.plain (OpenSpec.ofChange partnerRepeatSpec)) partnerRepeatCard

/-- THE TIED CARD OF 'copydesklaw22.PartnerLastWins'. -/
def partnerLastWinsCard : Claim7 := { stood := { row := partnerLastWinsRow, standIns := [], harness := (true, "87ffce17bbce0a021f911cdb35fa71b7ad1293e94b3988a0322e2aa7eb7c46de"), looks := true }, kinds := [], alts := [], laidByText := true, laidKinds := [.data, .sentinel, .sentinel], laidTests := true, laidLooks := .later }
def PartnerLastWinsCardSaid : Prop := Claim7.holds Tryd.pinned (.plain (OpenSpec.ofChange partnerLastWinsSpec)) partnerLastWinsCard

/-- THE TIED CARD OF 'copydesklaw22.PartnerDelta'. -/
def partnerDeltaCard : Claim7 := { stood := { row := partnerDeltaRow, standIns := [], harness := (true, "87ffce17bbce0a021f911cdb35fa71b7ad1293e94b3988a0322e2aa7eb7c46de"), looks := true }, kinds := [], alts := [], laidByText := true, laidKinds := [.data, .sentinel, .sentinel], laidTests := true, laidLooks := .later }
def PartnerDeltaCardSaid : Prop := Claim7.holds Tryd.pinned (.plain (OpenSpec.ofChange partnerDeltaSpec)) partnerDeltaCard

/-- THE TIED CARD OF 'copydesklaw22.PartnerReject'. -/
def partnerRejectCard : Claim7 := { stood := { row := partnerRejectRow, standIns := [], harness := (true, "87ffce17bbce0a021f911cdb35fa71b7ad1293e94b3988a0322e2aa7eb7c46de"), looks := true }, kinds := [], alts := [], laidByText := true, laidKinds := [.data, .sentinel, .sentinel], laidTests := true, laidLooks := .later }
def PartnerRejectCardSaid : Prop := Claim7.holds Tryd.pinned (.plain (OpenSpec.ofChange partnerRejectSpec)) partnerRejectCard

/-- THE TIED CARD OF 'copydesklaw22.PartnerForeign'. -/
def partnerForeignCard : Claim7 := { stood := { row := partnerForeignRow, standIns := [], harness := (true, "87ffce17bbce0a021f911cdb35fa71b7ad1293e94b3988a0322e2aa7eb7c46de"), looks := true }, kinds := [], alts := [], laidByText := true, laidKinds := [.data, .sentinel, .sentinel], laidTests := true, laidLooks := .later }
def PartnerForeignCardSaid : Prop := Claim7.holds Tryd.pinned (.plain (OpenSpec.ofChange partnerForeignSpec)) partnerForeignCard

/-- THE TIED CARD OF 'copydesklaw22.PartnerIndependent'. -/
def partnerIndependentCard : Claim7 := { stood := { row := partnerIndependentRow, standIns := [], harness := (true, "87ffce17bbce0a021f911cdb35fa71b7ad1293e94b3988a0322e2aa7eb7c46de"), looks := true }, kinds := [], alts := [], laidByText := true, laidKinds := [.data, .sentinel, .sentinel], laidTests := true, laidLooks := .later }
def PartnerIndependentCardSaid : Prop := Claim7.holds Tryd.pinned (.plain (OpenSpec.ofChange partnerIndependentSpec)) partnerIndependentCard

/-- THE TIED CARD OF 'copydesklaw22.PartnerItems'. -/
def partnerItemsCard : Claim7 := { stood := { row := partnerItemsRow, standIns := [], harness := (true, "87ffce17bbce0a021f911cdb35fa71b7ad1293e94b3988a0322e2aa7eb7c46de"), looks := true }, kinds := [], alts := [], laidByText := true, laidKinds := [.data, .sentinel, .sentinel], laidTests := true, laidLooks := .later }
def PartnerItemsCardSaid : Prop := Claim7.holds Tryd.pinned (.plain (OpenSpec.ofChange partnerItemsSpec)) partnerItemsCard

/-- THE SECOND FORM's CARD OF 'copydesklaw22.PartnerMatchesReference'. -/
def partnerMatchesReferenceUptoCard : Claim7 := { stood := { row := partnerMatchesReferenceUptoRow, standIns := [], harness := (true, "87ffce17bbce0a021f911cdb35fa71b7ad1293e94b3988a0322e2aa7eb7c46de"), looks := true }, kinds := [], alts := [], laidByText := true, laidKinds := [.data, .sentinel, .sentinel], laidTests := true, laidLooks := .later }
def PartnerMatchesReferenceUptoCardSaid : Prop := Claim7.holds Tryd.pinned (.plain (OpenSpec.upto partnerMatchesReferenceSpec)) partnerMatchesReferenceUptoCard

/-- THE SECOND FORM's CARD OF 'copydesklaw22.PartnerNew'. -/
def partnerNewUptoCard : Claim7 := { stood := { row := partnerNewUptoRow, standIns := [], harness := (true, "87ffce17bbce0a021f911cdb35fa71b7ad1293e94b3988a0322e2aa7eb7c46de"), looks := true }, kinds := [], alts := [], laidByText := true, laidKinds := [.data, .sentinel, .sentinel], laidTests := true, laidLooks := .later }
def PartnerNewUptoCardSaid : Prop := Claim7.holds Tryd.pinned (.plain (OpenSpec.upto partnerNewSpec)) partnerNewUptoCard

/-- THE SECOND FORM's CARD OF 'copydesklaw22.PartnerRepeat'. -/
def partnerRepeatUptoCard : Claim7 := { stood := { row := partnerRepeatUptoRow, standIns := [], harness := (true, "87ffce17bbce0a021f911cdb35fa71b7ad1293e94b3988a0322e2aa7eb7c46de"), looks := true }, kinds := [], alts := [], laidByText := true, laidKinds := [.data, .sentinel, .sentinel], laidTests := true, laidLooks := .later }
def PartnerRepeatUptoCardSaid : Prop := Claim7.holds Tryd.pinned (.plain (OpenSpec.upto partnerRepeatSpec)) partnerRepeatUptoCard

/-- THE SECOND FORM's CARD OF 'copydesklaw22.PartnerLastWins'. -/
def partnerLastWinsUptoCard : Claim7 := { stood := { row := partnerLastWinsUptoRow, standIns := [], harness := (true, "87ffce17bbce0a021f911cdb35fa71b7ad1293e94b3988a0322e2aa7eb7c46de"), looks := true }, kinds := [], alts := [], laidByText := true, laidKinds := [.data, .sentinel, .sentinel], laidTests := true, laidLooks := .later }
def PartnerLastWinsUptoCardSaid : Prop := Claim7.holds Tryd.pinned (.plain (OpenSpec.upto partnerLastWinsSpec)) partnerLastWinsUptoCard

/-- THE SECOND FORM's CARD OF 'copydesklaw22.PartnerDelta'. -/
def partnerDeltaUptoCard : Claim7 := { stood := { row := partnerDeltaUptoRow, standIns := [], harness := (true, "87ffce17bbce0a021f911cdb35fa71b7ad1293e94b3988a0322e2aa7eb7c46de"), looks := true }, kinds := [], alts := [], laidByText := true, laidKinds := [.data, .sentinel, .sentinel], laidTests := true, laidLooks := .later }
def PartnerDeltaUptoCardSaid : Prop := Claim7.holds Tryd.pinned (.plain (OpenSpec.upto partnerDeltaSpec)) partnerDeltaUptoCard

/-- THE SECOND FORM's CARD OF 'copydesklaw22.PartnerReject'. -/
def partnerRejectUptoCard : Claim7 := { stood := { row := partnerRejectUptoRow, standIns := [], harness := (true, "87ffce17bbce0a021f911cdb35fa71b7ad1293e94b3988a0322e2aa7eb7c46de"), looks := true }, kinds := [], alts := [], laidByText := true, laidKinds := [.data, .sentinel, .sentinel], laidTests := true, laidLooks := .later }
def PartnerRejectUptoCardSaid : Prop := Claim7.holds Tryd.pinned (.plain (OpenSpec.upto partnerRejectSpec)) partnerRejectUptoCard

/-- THE SECOND FORM's CARD OF 'copydesklaw22.PartnerForeign'. -/
def partnerForeignUptoCard : Claim7 := { stood := { row := partnerForeignUptoRow, standIns := [], harness := (true, "87ffce17bbce0a021f911cdb35fa71b7ad1293e94b3988a0322e2aa7eb7c46de"), looks := true }, kinds := [], alts := [], laidByText := true, laidKinds := [.data, .sentinel, .sentinel], laidTests := true, laidLooks := .later }
def PartnerForeignUptoCardSaid : Prop := Claim7.holds Tryd.pinned (.plain (OpenSpec.upto partnerForeignSpec)) partnerForeignUptoCard

/-- THE SECOND FORM's CARD OF 'copydesklaw22.PartnerIndependent'. -/
def partnerIndependentUptoCard : Claim7 := { stood := { row := partnerIndependentUptoRow, standIns := [], harness := (true, "87ffce17bbce0a021f911cdb35fa71b7ad1293e94b3988a0322e2aa7eb7c46de"), looks := true }, kinds := [], alts := [], laidByText := true, laidKinds := [.data, .sentinel, .sentinel], laidTests := true, laidLooks := .later }
def PartnerIndependentUptoCardSaid : Prop := Claim7.holds Tryd.pinned (.plain (OpenSpec.upto partnerIndependentSpec)) partnerIndependentUptoCard

/-- THE SECOND FORM's CARD OF 'copydesklaw22.PartnerItems'. -/
def partnerItemsUptoCard : Claim7 := { stood := { row := partnerItemsUptoRow, standIns := [], harness := (true, "87ffce17bbce0a021f911cdb35fa71b7ad1293e94b3988a0322e2aa7eb7c46de"), looks := true }, kinds := [], alts := [], laidByText := true, laidKinds := [.data, .sentinel, .sentinel], laidTests := true, laidLooks := .later }
def PartnerItemsUptoCardSaid : Prop := Claim7.holds Tryd.pinned (.plain (OpenSpec.upto partnerItemsSpec)) partnerItemsUptoCard
end Rows
end Go.Proofs.YtkpgadjhcnkadaaDoor
