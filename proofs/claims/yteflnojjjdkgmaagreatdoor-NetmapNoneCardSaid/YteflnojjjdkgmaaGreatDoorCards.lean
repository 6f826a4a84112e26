/-
  DERIVED. GIVEN WITH THE SEED: THE CARDS: each row of YteflnojjjdkgmaaGreatDoorRows.lean that lists a variable, with what it lists TIED to the program's text (the seventh form; the later family's looks); each row that meets fmt, with fmt's text TOLD by the authors' own Lean function (tested against real Go, not proved from fmt's source: count such statements apart). THE CARD IS WHAT COUNTS. Prove the row's statement (the work); the ties are given (YteflnojjjdkgmaaGreatDoorTie.lean); close each card by the builder's one call (the guide's Derived/Test/ToyasCard.lean, 'card_holds'). Laid BY PROGRAM, IN A SANDBOX (cutbox-door.mjs). By AI agents, Wed Nov 11 2026. No macro, syntax, notation, axiom, sorry.
-/
import Derived.Test.YteflnojjjdkgmaaGreatDoorRows
import GoSem.ClaimSeven
namespace Go.Proofs.YteflnojjjdkgmaaGreatDoor
namespace Rows

/-- THE TIED CARD OF 'isthmuslaw22.NetmapNone'. -/
def netmapNoneCard : Claim7 := { stood := { row := netmapNoneRow, standIns := [], harness := (true, "adcff814d17cc362b7e9c17012b3c802dadbcecc7b83e04031ceb758e83c8da2"), looks := true }, kinds := [], alts := [], laidByText := true, laidKinds := [.data, .data, .data, .data, .sentinel, .sentinel, .data, .data, .pinned], laidTests := true, laidLooks := .later }
def NetmapNoneCardSaid : Prop := Claim7.holds Tryz.pinned (.plain (OpenSpec.ofChange netmapNoneSpec)) netmapNoneCard

/-- THE SECOND FORM's CARD OF 'isthmuslaw22.NetmapNone'. -/
def netmapNoneUptoCard : Claim7 := { stood := { row := netmapNoneUptoRow, standIns := [], harness := (true, "adcff814d17cc362b7e9c17012b3c802dadbcecc7b83e04031ceb758e83c8da2"), looks := true }, kinds := [], alts := [], laidByText := true, laidKinds := [.data, .data, .data, .data, .sentinel, .sentinel, .data, .data, .pinned], laidTests := true, laidLooks := .later }
def NetmapNoneUptoCardSaid : Prop := Claim7.holds Tryz.pinned (.plain (OpenSpec.upto netmapNoneSpec)) netmapNoneUptoCard
end Rows
end Go.Proofs.YteflnojjjdkgmaaGreatDoor
