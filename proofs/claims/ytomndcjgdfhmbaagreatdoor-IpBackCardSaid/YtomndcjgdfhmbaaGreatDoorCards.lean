/-
  DERIVED. GIVEN WITH THE SEED: THE CARDS: each row of YtomndcjgdfhmbaaGreatDoorRows.lean that lists a variable, with what it lists TIED to the program's text (the seventh form; the later family's looks); each row that meets fmt, with fmt's text TOLD by the authors' own Lean function (tested against real Go, not proved from fmt's source: count such statements apart). THE CARD IS WHAT COUNTS. Prove the row's statement (the work); the ties are given (YtomndcjgdfhmbaaGreatDoorTie.lean); close each card by the builder's one call (the guide's Derived/Test/ToyasCard.lean, 'card_holds'). Laid BY PROGRAM, IN A SANDBOX (cutbox-door.mjs). By AI agents, Wed Nov 11 2026. No macro, syntax, notation, axiom, sorry.
-/
import Derived.Test.YtomndcjgdfhmbaaGreatDoorRows
import GoSem.ClaimSeven
namespace Go.Proofs.YtomndcjgdfhmbaaGreatDoor
namespace Rows

/-- THE TIED CARD OF 'isthmuslaw13.IpWrites'. -/
def ipWritesCard : Claim7 := { stood := { row := ipWritesRow, standIns := [], harness := (true, "48d2b8008f3e9e3b43b49875255f592b45563fb027fef8c3ff5757e29f52dd51"), looks := true }, kinds := [], alts := [], laidByText := true, laidKinds := [.data, .data, .data, .data, .sentinel, .sentinel, .pinned], laidTests := true, laidLooks := .later }
def IpWritesCardSaid : Prop := Claim7.holds Tryz.pinned (.plain (OpenSpec.ofChange ipWritesSpec)) ipWritesCard

/-- THE TIED CARD OF 'isthmuslaw13.IpReads'. -/
def ipReadsCard : Claim7 := { stood := { row := ipReadsRow, standIns := [], harness := (true, "48d2b8008f3e9e3b43b49875255f592b45563fb027fef8c3ff5757e29f52dd51"), looks := true }, kinds := [], alts := [], laidByText := true, laidKinds := [.data, .data, .data, .data, .sentinel, .sentinel, .pinned], laidTests := true, laidLooks := .later }
def IpReadsCardSaid : Prop := Claim7.holds Tryz.pinned (.plain (OpenSpec.ofChange ipReadsSpec)) ipReadsCard

/-- THE TIED CARD OF 'isthmuslaw13.IpBack'. -/
def ipBackCard : Claim7 := { stood := { row := ipBackRow, standIns := [], harness := (true, "48d2b8008f3e9e3b43b49875255f592b45563fb027fef8c3ff5757e29f52dd51"), looks := true }, kinds := [], alts := [], laidByText := true, laidKinds := [.data, .data, .data, .data, .sentinel, .sentinel, .pinned], laidTests := true, laidLooks := .later }
def IpBackCardSaid : Prop := Claim7.holds Tryz.pinned (.plain (OpenSpec.ofChange ipBackSpec)) ipBackCard

/-- THE TIED CARD OF 'isthmuslaw13.IpSums'. -/
def ipSumsCard : Claim7 := { stood := { row := ipSumsRow, standIns := [], harness := (true, "48d2b8008f3e9e3b43b49875255f592b45563fb027fef8c3ff5757e29f52dd51"), looks := true }, kinds := [], alts := [], laidByText := true, laidKinds := [.data, .data, .data, .data, .sentinel, .sentinel, .pinned], laidTests := true, laidLooks := .later }
def IpSumsCardSaid : Prop := Claim7.holds Tryz.pinned (.plain (OpenSpec.ofChange ipSumsSpec)) ipSumsCard

/-- THE TIED CARD OF 'isthmuslaw13.IpTells'. -/
def ipTellsCard : Claim7 := { stood := { row := ipTellsRow, standIns := [], harness := (true, "48d2b8008f3e9e3b43b49875255f592b45563fb027fef8c3ff5757e29f52dd51"), looks := true }, kinds := [], alts := [], laidByText := true, laidKinds := [.data, .data, .data, .data, .sentinel, .sentinel, .pinned], laidTests := true, laidLooks := .later }
def IpTellsCardSaid : Prop := Claim7.holds Tryz.pinned (.plain (OpenSpec.ofChange ipTellsSpec)) ipTellsCard

/-- THE TIED CARD OF 'isthmuslaw13.IpHolds'. -/
def ipHoldsCard : Claim7 := { stood := { row := ipHoldsRow, standIns := [], harness := (true, "48d2b8008f3e9e3b43b49875255f592b45563fb027fef8c3ff5757e29f52dd51"), looks := true }, kinds := [], alts := [], laidByText := true, laidKinds := [.data, .data, .data, .data, .sentinel, .sentinel, .pinned], laidTests := true, laidLooks := .later }
def IpHoldsCardSaid : Prop := Claim7.holds Tryz.pinned (.plain (OpenSpec.ofChange ipHoldsSpec)) ipHoldsCard

/-- THE SECOND FORM's CARD OF 'isthmuslaw13.IpWrites'. -/
def ipWritesUptoCard : Claim7 := { stood := { row := ipWritesUptoRow, standIns := [], harness := (true, "48d2b8008f3e9e3b43b49875255f592b45563fb027fef8c3ff5757e29f52dd51"), looks := true }, kinds := [], alts := [], laidByText := true, laidKinds := [.data, .data, .data, .data, .sentinel, .sentinel, .pinned], laidTests := true, laidLooks := .later }
def IpWritesUptoCardSaid : Prop := Claim7.holds Tryz.pinned (.plain (OpenSpec.upto ipWritesSpec)) ipWritesUptoCard

/-- THE SECOND FORM's CARD OF 'isthmuslaw13.IpReads'. -/
def ipReadsUptoCard : Claim7 := { stood := { row := ipReadsUptoRow, standIns := [], harness := (true, "48d2b8008f3e9e3b43b49875255f592b45563fb027fef8c3ff5757e29f52dd51"), looks := true }, kinds := [], alts := [], laidByText := true, laidKinds := [.data, .data, .data, .data, .sentinel, .sentinel, .pinned], laidTests := true, laidLooks := .later }
def IpReadsUptoCardSaid : Prop := Claim7.holds Tryz.pinned (.plain (OpenSpec.upto ipReadsSpec)) ipReadsUptoCard

/-- THE SECOND FORM's CARD OF 'isthmuslaw13.IpBack'. -/
def ipBackUptoCard : Claim7 := { stood := { row := ipBackUptoRow, standIns := [], harness := (true, "48d2b8008f3e9e3b43b49875255f592b45563fb027fef8c3ff5757e29f52dd51"), looks := true }, kinds := [], alts := [], laidByText := true, laidKinds := [.data, .data, .data, .data, .sentinel, .sentinel, .pinned], laidTests := true, laidLooks := .later }
def IpBackUptoCardSaid : Prop := Claim7.holds Tryz.pinned (.plain (OpenSpec.upto ipBackSpec)) ipBackUptoCard

/-- THE SECOND FORM's CARD OF 'isthmuslaw13.IpSums'. -/
def ipSumsUptoCard : Claim7 := { stood := { row := ipSumsUptoRow, standIns := [], harness := (true, "48d2b8008f3e9e3b43b49875255f592b45563fb027fef8c3ff5757e29f52dd51"), looks := true }, kinds := [], alts := [], laidByText := true, laidKinds := [.data, .data, .data, .data, .sentinel, .sentinel, .pinned], laidTests := true, laidLooks := .later }
def IpSumsUptoCardSaid : Prop := Claim7.holds Tryz.pinned (.plain (OpenSpec.upto ipSumsSpec)) ipSumsUptoCard

/-- THE SECOND FORM's CARD OF 'isthmuslaw13.IpTells'. -/
def ipTellsUptoCard : Claim7 := { stood := { row := ipTellsUptoRow, standIns := [], harness := (true, "48d2b8008f3e9e3b43b49875255f592b45563fb027fef8c3ff5757e29f52dd51"), looks := true }, kinds := [], alts := [], laidByText := true, laidKinds := [.data, .data, .data, .data, .sentinel, .sentinel, .pinned], laidTests := true, laidLooks := .later }
def IpTellsUptoCardSaid : Prop := Claim7.holds Tryz.pinned (.plain (OpenSpec.upto ipTellsSpec)) ipTellsUptoCard

/-- THE SECOND FORM's CARD OF 'isthmuslaw13.IpHolds'. -/
def ipHoldsUptoCard : Claim7 := { stood := { row := ipHoldsUptoRow, standIns := [], harness := (true, "48d2b8008f3e9e3b43b49875255f592b45563fb027fef8c3ff5757e29f52dd51"), looks := true }, kinds := [], alts := [], laidByText := true, laidKinds := [.data, .data, .data, .data, .sentinel, .sentinel, .pinned], laidTests := true, laidLooks := .later }
def IpHoldsUptoCardSaid : Prop := Claim7.holds Tryz.pinned (.plain (OpenSpec.upto ipHoldsSpec)) ipHoldsUptoCard
end Rows
end Go.Proofs.YtomndcjgdfhmbaaGreatDoor
