/-
  DERIVED. GIVEN WITH THE SEED: THE CARDS: each row of YthglckoikjfjkaaGreatDoorRows.lean that lists a variable, with what it lists TIED to the program's text (the seventh form; the later family's looks); each row that meets fmt, with fmt's text TOLD by the authors' own Lean function (tested against real Go, not proved from fmt's source: count such statements apart). THE CARD IS WHAT COUNTS. Prove the row's statement (the work); the ties are given (YthglckoikjfjkaaGreatDoorTie.lean); close each card by the builder's one call (the guide's Derived/Test/ToyasCard.lean, 'card_holds'). Laid BY PROGRAM, IN A SANDBOX (cutbox-door.mjs). By AI agents, Wed Nov 11 2026. No macro, syntax, notation, axiom, sorry.
-/
import Derived.Test.YthglckoikjfjkaaGreatDoorRows
import GoSem.ClaimSeven
namespace Go.Proofs.YthglckoikjfjkaaGreatDoor
namespace Rows

/-- THE TIED CARD OF 'isthmuslaw20.RulesAgree'. -/
def rulesAgreeCard : Claim7 := { stood := { row := rulesAgreeRow, standIns := [], harness := (true, "8025eff63c938184656c90e3c34d701bf541a7d932b3dedab1c569025341928a"), looks := true }, kinds := [], alts := [], laidByText := true, laidKinds := [.data, .data, .data, .data, .sentinel, .sentinel, .pinned], laidTests := true, laidLooks := .later }
def RulesAgreeCardSaid : Prop := Claim7.holds Tryz.pinned (.plain (OpenSpec.ofChange rulesAgreeSpec)) rulesAgreeCard

/-- THE TIED CARD OF 'isthmuslaw20.RulesOrder'. -/
def rulesOrderCard : Claim7 := { stood := { row := rulesOrderRow, standIns := [], harness := (true, "8025eff63c938184656c90e3c34d701bf541a7d932b3dedab1c569025341928a"), looks := true }, kinds := [], alts := [], laidByText := true, laidKinds := [.data, .data, .data, .data, .sentinel, .sentinel, .pinned], laidTests := true, laidLooks := .later }
def RulesOrderCardSaid : Prop := Claim7.holds Tryz.pinned (.plain (OpenSpec.ofChange rulesOrderSpec)) rulesOrderCard

/-- THE SECOND FORM's CARD OF 'isthmuslaw20.RulesAgree'. -/
def rulesAgreeUptoCard : Claim7 := { stood := { row := rulesAgreeUptoRow, standIns := [], harness := (true, "8025eff63c938184656c90e3c34d701bf541a7d932b3dedab1c569025341928a"), looks := true }, kinds := [], alts := [], laidByText := true, laidKinds := [.data, .data, .data, .data, .sentinel, .sentinel, .pinned], laidTests := true, laidLooks := .later }
def RulesAgreeUptoCardSaid : Prop := Claim7.holds Tryz.pinned (.plain (OpenSpec.upto rulesAgreeSpec)) rulesAgreeUptoCard

/-- THE SECOND FORM's CARD OF 'isthmuslaw20.RulesOrder'. -/
def rulesOrderUptoCard : Claim7 := { stood := { row := rulesOrderUptoRow, standIns := [], harness := (true, "8025eff63c938184656c90e3c34d701bf541a7d932b3dedab1c569025341928a"), looks := true }, kinds := [], alts := [], laidByText := true, laidKinds := [.data, .data, .data, .data, .sentinel, .sentinel, .pinned], laidTests := true, laidLooks := .later }
def RulesOrderUptoCardSaid : Prop := Claim7.holds Tryz.pinned (.plain (OpenSpec.upto rulesOrderSpec)) rulesOrderUptoCard
end Rows
end Go.Proofs.YthglckoikjfjkaaGreatDoor
