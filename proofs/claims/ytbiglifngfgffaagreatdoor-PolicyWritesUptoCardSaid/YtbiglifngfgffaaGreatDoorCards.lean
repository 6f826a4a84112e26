/-
  DERIVED. GIVEN WITH THE SEED: THE CARDS: each row of YtbiglifngfgffaaGreatDoorRows.lean that lists a variable, with what it lists TIED to the program's text (the seventh form; the later family's looks); each row that meets fmt, with fmt's text TOLD by the authors' own Lean function (tested against real Go, not proved from fmt's source: count such statements apart). THE CARD IS WHAT COUNTS. Prove the row's statement (the work); the ties are given (YtbiglifngfgffaaGreatDoorTie.lean); close each card by the builder's one call (the guide's Derived/Test/ToyasCard.lean, 'card_holds'). Laid BY PROGRAM, IN A SANDBOX (cutbox-door.mjs). By AI agents, Wed Nov 11 2026. No macro, syntax, notation, axiom, sorry.
-/
import Derived.Test.YtbiglifngfgffaaGreatDoorRows
import GoSem.ClaimSeven
namespace Go.Proofs.YtbiglifngfgffaaGreatDoor
namespace Rows

/-- THE TIED CARD OF 'isthmuslaw19.PolicyBack'. -/
def policyBackCard : Claim7 := { stood := { row := policyBackRow, standIns := [], harness := (true, "765946d4f61b4ca660c469c904bf712d1aef573e91d55ce27875cba5cfdcba8d"), looks := true }, kinds := [], alts := [], laidByText := true, laidKinds := [.data, .data, .data, .data, .sentinel, .sentinel, .pinned], laidTests := true, laidLooks := .later }
def PolicyBackCardSaid : Prop := Claim7.holds Tryz.pinned (.plain (OpenSpec.ofChange policyBackSpec)) policyBackCard

/-- THE TIED CARD OF 'isthmuslaw19.PolicyPlaces'. -/
def policyPlacesCard : Claim7 := { stood := { row := policyPlacesRow, standIns := [], harness := (true, "765946d4f61b4ca660c469c904bf712d1aef573e91d55ce27875cba5cfdcba8d"), looks := true }, kinds := [], alts := [], laidByText := true, laidKinds := [.data, .data, .data, .data, .sentinel, .sentinel, .pinned], laidTests := true, laidLooks := .later }
def PolicyPlacesCardSaid : Prop := Claim7.holds Tryz.pinned (.plain (OpenSpec.ofChange policyPlacesSpec)) policyPlacesCard

/-- THE TIED CARD OF 'isthmuslaw19.PolicyRemarks'. -/
def policyRemarksCard : Claim7 := { stood := { row := policyRemarksRow, standIns := [], harness := (true, "765946d4f61b4ca660c469c904bf712d1aef573e91d55ce27875cba5cfdcba8d"), looks := true }, kinds := [], alts := [], laidByText := true, laidKinds := [.data, .data, .data, .data, .sentinel, .sentinel, .pinned], laidTests := true, laidLooks := .later }
def PolicyRemarksCardSaid : Prop := Claim7.holds Tryz.pinned (.plain (OpenSpec.ofChange policyRemarksSpec)) policyRemarksCard

/-- THE TIED CARD OF 'isthmuslaw19.PolicyWrites'. -/
def policyWritesCard : Claim7 := { stood := { row := policyWritesRow, standIns := [], harness := (true, "765946d4f61b4ca660c469c904bf712d1aef573e91d55ce27875cba5cfdcba8d"), looks := true }, kinds := [], alts := [], laidByText := true, laidKinds := [.data, .data, .data, .data, .sentinel, .sentinel, .pinned], laidTests := true, laidLooks := .later }
def PolicyWritesCardSaid : Prop := Claim7.holds Tryz.pinned (.plain (OpenSpec.ofChange policyWritesSpec)) policyWritesCard

/-- THE SECOND FORM's CARD OF 'isthmuslaw19.PolicyBack'. -/
def policyBackUptoCard : Claim7 := { stood := { row := policyBackUptoRow, standIns := [], harness := (true, "765946d4f61b4ca660c469c904bf712d1aef573e91d55ce27875cba5cfdcba8d"), looks := true }, kinds := [], alts := [], laidByText := true, laidKinds := [.data, .data, .data, .data, .sentinel, .sentinel, .pinned], laidTests := true, laidLooks := .later }
def PolicyBackUptoCardSaid : Prop := Claim7.holds Tryz.pinned (.plain (OpenSpec.upto policyBackSpec)) policyBackUptoCard

/-- THE SECOND FORM's CARD OF 'isthmuslaw19.PolicyPlaces'. -/
def policyPlacesUptoCard : Claim7 := { stood := { row := policyPlacesUptoRow, standIns := [], harness := (true, "765946d4f61b4ca660c469c904bf712d1aef573e91d55ce27875cba5cfdcba8d"), looks := true }, kinds := [], alts := [], laidByText := true, laidKinds := [.data, .data, .data, .data, .sentinel, .sentinel, .pinned], laidTests := true, laidLooks := .later }
def PolicyPlacesUptoCardSaid : Prop := Claim7.holds Tryz.pinned (.plain (OpenSpec.upto policyPlacesSpec)) policyPlacesUptoCard

/-- THE SECOND FORM's CARD OF 'isthmuslaw19.PolicyRemarks'. -/
def policyRemarksUptoCard : Claim7 := { stood := { row := policyRemarksUptoRow, standIns := [], harness := (true, "765946d4f61b4ca660c469c904bf712d1aef573e91d55ce27875cba5cfdcba8d"), looks := true }, kinds := [], alts := [], laidByText := true, laidKinds := [.data, .data, .data, .data, .sentinel, .sentinel, .pinned], laidTests := true, laidLooks := .later }
def PolicyRemarksUptoCardSaid : Prop := Claim7.holds Tryz.pinned (.plain (OpenSpec.upto policyRemarksSpec)) policyRemarksUptoCard

/-- THE SECOND FORM's CARD OF 'isthmuslaw19.PolicyWrites'. -/
def policyWritesUptoCard : Claim7 := { stood := { row := policyWritesUptoRow, standIns := [], harness := (true, "765946d4f61b4ca660c469c904bf712d1aef573e91d55ce27875cba5cfdcba8d"), looks := true }, kinds := [], alts := [], laidByText := true, laidKinds := [.data, .data, .data, .data, .sentinel, .sentinel, .pinned], laidTests := true, laidLooks := .later }
def PolicyWritesUptoCardSaid : Prop := Claim7.holds Tryz.pinned (.plain (OpenSpec.upto policyWritesSpec)) policyWritesUptoCard
end Rows
end Go.Proofs.YtbiglifngfgffaaGreatDoor
