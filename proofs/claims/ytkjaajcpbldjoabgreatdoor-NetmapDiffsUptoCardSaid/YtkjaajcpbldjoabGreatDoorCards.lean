/-
  DERIVED. GIVEN WITH THE SEED: THE CARDS: each row of YtkjaajcpbldjoabGreatDoorRows.lean that lists a variable, with what it lists TIED to the program's text (the seventh form; the later family's looks); each row that meets fmt, with fmt's text TOLD by the authors' own Lean function (tested against real Go, not proved from fmt's source: count such statements apart). THE CARD IS WHAT COUNTS. Prove the row's statement (the work); the ties are given (YtkjaajcpbldjoabGreatDoorTie.lean); close each card by the builder's one call (the guide's Derived/Test/ToyasCard.lean, 'card_holds'). Laid BY PROGRAM, IN A SANDBOX (cutbox-door.mjs). By AI agents, Wed Nov 11 2026. No macro, syntax, notation, axiom, sorry.
-/
import Derived.Test.YtkjaajcpbldjoabGreatDoorRows
import GoSem.ClaimSeven
namespace Go.Proofs.YtkjaajcpbldjoabGreatDoor
namespace Rows

/-- THE TIED CARD OF 'isthmuslaw22.NetmapDiffs'. -/
def netmapDiffsCard : Claim7 := { stood := { row := netmapDiffsRow, standIns := [], harness := (true, "31db553d4b9b0f2c29219200abb6b1e4ee345a36942dd5a2198528949063cc95"), looks := true }, kinds := [], alts := [], laidByText := true, laidKinds := [.data, .data, .data, .data, .sentinel, .sentinel, .data, .pinned], laidTests := true, laidLooks := .later }
def NetmapDiffsCardSaid : Prop := Claim7.holds Tryz.pinned (.plain (OpenSpec.ofChange netmapDiffsSpec)) netmapDiffsCard

/-- THE SECOND FORM's CARD OF 'isthmuslaw22.NetmapDiffs'. -/
def netmapDiffsUptoCard : Claim7 := { stood := { row := netmapDiffsUptoRow, standIns := [], harness := (true, "31db553d4b9b0f2c29219200abb6b1e4ee345a36942dd5a2198528949063cc95"), looks := true }, kinds := [], alts := [], laidByText := true, laidKinds := [.data, .data, .data, .data, .sentinel, .sentinel, .data, .pinned], laidTests := true, laidLooks := .later }
def NetmapDiffsUptoCardSaid : Prop := Claim7.holds Tryz.pinned (.plain (OpenSpec.upto netmapDiffsSpec)) netmapDiffsUptoCard
end Rows
end Go.Proofs.YtkjaajcpbldjoabGreatDoor
