/-
  DERIVED. GIVEN WITH THE SEED: THE CARDS: each row of YtkjaajcpbldjoaaGreatDoorRows.lean that lists a variable, with what it lists TIED to the program's text (the seventh form; the later family's looks); each row that meets fmt, with fmt's text TOLD by the authors' own Lean function (tested against real Go, not proved from fmt's source: count such statements apart). THE CARD IS WHAT COUNTS. Prove the row's statement (the work); the ties are given (YtkjaajcpbldjoaaGreatDoorTie.lean); close each card by the builder's one call (the guide's Derived/Test/ToyasCard.lean, 'card_holds'). Laid BY PROGRAM, IN A SANDBOX (cutbox-door.mjs). By AI agents, Wed Nov 11 2026. No macro, syntax, notation, axiom, sorry.
-/
import Derived.Test.YtkjaajcpbldjoaaGreatDoorRows
import GoSem.ClaimSeven
namespace Go.Proofs.YtkjaajcpbldjoaaGreatDoor
namespace Rows

/-- THE TIED CARD OF 'isthmuslaw22.NetmapBack'. -/
def netmapBackCard : Claim7 := { stood := { row := netmapBackRow, standIns := [], harness := (true, "77b7ff4e373834766f406ea09969ee5d2e312f7029ce7f777ee1682f2f7e6e0e"), looks := true }, kinds := [], alts := [], laidByText := true, laidKinds := [.data, .data, .data, .data, .sentinel, .sentinel, .data, .pinned], laidTests := true, laidLooks := .later }
def NetmapBackCardSaid : Prop := Claim7.holds Tryz.pinned (.plain (OpenSpec.ofChange netmapBackSpec)) netmapBackCard

/-- THE SECOND FORM's CARD OF 'isthmuslaw22.NetmapBack'. -/
def netmapBackUptoCard : Claim7 := { stood := { row := netmapBackUptoRow, standIns := [], harness := (true, "77b7ff4e373834766f406ea09969ee5d2e312f7029ce7f777ee1682f2f7e6e0e"), looks := true }, kinds := [], alts := [], laidByText := true, laidKinds := [.data, .data, .data, .data, .sentinel, .sentinel, .data, .pinned], laidTests := true, laidLooks := .later }
def NetmapBackUptoCardSaid : Prop := Claim7.holds Tryz.pinned (.plain (OpenSpec.upto netmapBackSpec)) netmapBackUptoCard
end Rows
end Go.Proofs.YtkjaajcpbldjoaaGreatDoor
