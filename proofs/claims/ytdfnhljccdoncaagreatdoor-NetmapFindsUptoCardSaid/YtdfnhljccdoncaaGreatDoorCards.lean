/-
  DERIVED. GIVEN WITH THE SEED: THE CARDS: each row of YtdfnhljccdoncaaGreatDoorRows.lean that lists a variable, with what it lists TIED to the program's text (the seventh form; the later family's looks); each row that meets fmt, with fmt's text TOLD by the authors' own Lean function (tested against real Go, not proved from fmt's source: count such statements apart). THE CARD IS WHAT COUNTS. Prove the row's statement (the work); the ties are given (YtdfnhljccdoncaaGreatDoorTie.lean); close each card by the builder's one call (the guide's Derived/Test/ToyasCard.lean, 'card_holds'). Laid BY PROGRAM, IN A SANDBOX (cutbox-door.mjs). By AI agents, Wed Nov 11 2026. No macro, syntax, notation, axiom, sorry.
-/
import Derived.Test.YtdfnhljccdoncaaGreatDoorRows
import GoSem.ClaimSeven
namespace Go.Proofs.YtdfnhljccdoncaaGreatDoor
namespace Rows

/-- THE TIED CARD OF 'isthmuslaw22.NetmapMakes'. -/
def netmapMakesCard : Claim7 := { stood := { row := netmapMakesRow, standIns := [], harness := (true, "0f32481d1fff28832fd141eda7792af9bcb8556974367147ae21d35b9a8a9d6a"), looks := true }, kinds := [], alts := [], laidByText := true, laidKinds := [.data, .data, .data, .data, .sentinel, .sentinel, .data, .pinned], laidTests := true, laidLooks := .later }
def NetmapMakesCardSaid : Prop := Claim7.holds Tryz.pinned (.plain (OpenSpec.ofChange netmapMakesSpec)) netmapMakesCard

/-- THE TIED CARD OF 'isthmuslaw22.NetmapFinds'. -/
def netmapFindsCard : Claim7 := { stood := { row := netmapFindsRow, standIns := [], harness := (true, "0f32481d1fff28832fd141eda7792af9bcb8556974367147ae21d35b9a8a9d6a"), looks := true }, kinds := [], alts := [], laidByText := true, laidKinds := [.data, .data, .data, .data, .sentinel, .sentinel, .data, .pinned], laidTests := true, laidLooks := .later }
def NetmapFindsCardSaid : Prop := Claim7.holds Tryz.pinned (.plain (OpenSpec.ofChange netmapFindsSpec)) netmapFindsCard

/-- THE TIED CARD OF 'isthmuslaw22.NetmapBack'. -/
def netmapBackCard : Claim7 := { stood := { row := netmapBackRow, standIns := [], harness := (true, "0f32481d1fff28832fd141eda7792af9bcb8556974367147ae21d35b9a8a9d6a"), looks := true }, kinds := [], alts := [], laidByText := true, laidKinds := [.data, .data, .data, .data, .sentinel, .sentinel, .data, .pinned], laidTests := true, laidLooks := .later }
def NetmapBackCardSaid : Prop := Claim7.holds Tryz.pinned (.plain (OpenSpec.ofChange netmapBackSpec)) netmapBackCard

/-- THE TIED CARD OF 'isthmuslaw22.NetmapDiffs'. -/
def netmapDiffsCard : Claim7 := { stood := { row := netmapDiffsRow, standIns := [], harness := (true, "0f32481d1fff28832fd141eda7792af9bcb8556974367147ae21d35b9a8a9d6a"), looks := true }, kinds := [], alts := [], laidByText := true, laidKinds := [.data, .data, .data, .data, .sentinel, .sentinel, .data, .pinned], laidTests := true, laidLooks := .later }
def NetmapDiffsCardSaid : Prop := Claim7.holds Tryz.pinned (.plain (OpenSpec.ofChange netmapDiffsSpec)) netmapDiffsCard

/-- THE TIED CARD OF 'isthmuslaw22.NetmapCodes'. -/
def netmapCodesCard : Claim7 := { stood := { row := netmapCodesRow, standIns := [], harness := (true, "0f32481d1fff28832fd141eda7792af9bcb8556974367147ae21d35b9a8a9d6a"), looks := true }, kinds := [], alts := [], laidByText := true, laidKinds := [.data, .data, .data, .data, .sentinel, .sentinel, .data, .pinned], laidTests := true, laidLooks := .later }
def NetmapCodesCardSaid : Prop := Claim7.holds Tryz.pinned (.plain (OpenSpec.ofChange netmapCodesSpec)) netmapCodesCard

/-- THE SECOND FORM's CARD OF 'isthmuslaw22.NetmapMakes'. -/
def netmapMakesUptoCard : Claim7 := { stood := { row := netmapMakesUptoRow, standIns := [], harness := (true, "0f32481d1fff28832fd141eda7792af9bcb8556974367147ae21d35b9a8a9d6a"), looks := true }, kinds := [], alts := [], laidByText := true, laidKinds := [.data, .data, .data, .data, .sentinel, .sentinel, .data, .pinned], laidTests := true, laidLooks := .later }
def NetmapMakesUptoCardSaid : Prop := Claim7.holds Tryz.pinned (.plain (OpenSpec.upto netmapMakesSpec)) netmapMakesUptoCard

/-- THE SECOND FORM's CARD OF 'isthmuslaw22.NetmapFinds'. -/
def netmapFindsUptoCard : Claim7 := { stood := { row := netmapFindsUptoRow, standIns := [], harness := (true, "0f32481d1fff28832fd141eda7792af9bcb8556974367147ae21d35b9a8a9d6a"), looks := true }, kinds := [], alts := [], laidByText := true, laidKinds := [.data, .data, .data, .data, .sentinel, .sentinel, .data, .pinned], laidTests := true, laidLooks := .later }
def NetmapFindsUptoCardSaid : Prop := Claim7.holds Tryz.pinned (.plain (OpenSpec.upto netmapFindsSpec)) netmapFindsUptoCard

/-- THE SECOND FORM's CARD OF 'isthmuslaw22.NetmapBack'. -/
def netmapBackUptoCard : Claim7 := { stood := { row := netmapBackUptoRow, standIns := [], harness := (true, "0f32481d1fff28832fd141eda7792af9bcb8556974367147ae21d35b9a8a9d6a"), looks := true }, kinds := [], alts := [], laidByText := true, laidKinds := [.data, .data, .data, .data, .sentinel, .sentinel, .data, .pinned], laidTests := true, laidLooks := .later }
def NetmapBackUptoCardSaid : Prop := Claim7.holds Tryz.pinned (.plain (OpenSpec.upto netmapBackSpec)) netmapBackUptoCard

/-- THE SECOND FORM's CARD OF 'isthmuslaw22.NetmapDiffs'. -/
def netmapDiffsUptoCard : Claim7 := { stood := { row := netmapDiffsUptoRow, standIns := [], harness := (true, "0f32481d1fff28832fd141eda7792af9bcb8556974367147ae21d35b9a8a9d6a"), looks := true }, kinds := [], alts := [], laidByText := true, laidKinds := [.data, .data, .data, .data, .sentinel, .sentinel, .data, .pinned], laidTests := true, laidLooks := .later }
def NetmapDiffsUptoCardSaid : Prop := Claim7.holds Tryz.pinned (.plain (OpenSpec.upto netmapDiffsSpec)) netmapDiffsUptoCard

/-- THE SECOND FORM's CARD OF 'isthmuslaw22.NetmapCodes'. -/
def netmapCodesUptoCard : Claim7 := { stood := { row := netmapCodesUptoRow, standIns := [], harness := (true, "0f32481d1fff28832fd141eda7792af9bcb8556974367147ae21d35b9a8a9d6a"), looks := true }, kinds := [], alts := [], laidByText := true, laidKinds := [.data, .data, .data, .data, .sentinel, .sentinel, .data, .pinned], laidTests := true, laidLooks := .later }
def NetmapCodesUptoCardSaid : Prop := Claim7.holds Tryz.pinned (.plain (OpenSpec.upto netmapCodesSpec)) netmapCodesUptoCard
end Rows
end Go.Proofs.YtdfnhljccdoncaaGreatDoor
