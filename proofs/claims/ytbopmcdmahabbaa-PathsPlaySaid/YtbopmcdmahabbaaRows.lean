/-
  No cell of these rows narrows 'for every input' (looked for: loops, veiled, ifaces, maps, wideKeys, modest, calm, conditions, laid).
  DERIVED. THE GIVEN ROWS OF THIS SEAT. 4 by the template 'for every input the law returns true; each argument reads behind the call as it read before'; 0 by the template 'total and deterministic' (their statements: YtbopmcdmahabbaaTotals.lean).
  GIVEN WITH THE SEED: the statements are not yours to turn. If you find one false, say at which input.
  Laid BY PROGRAM, IN A SANDBOX (cutbox-rows.mjs): the forced cells as the released guide's own fill.sh prints them over the translation 7eac67b8a2b52b92… (all of the seat's roots in one cut). By AI agents, Wed Nov 11 2026. No macro, syntax, notation, axiom, sorry.
-/
import Derived.Test.YtbopmcdmahabbaaChecked
import GoSem.Claim
import GoSem.ClaimJoined
import GoSem.ClaimMapViews
import Derived.JoinedTies
import Derived.KernelRfl
namespace Go.Proofs.Ytbopmcdmahabbaa
/- THE CELL 'sum', in the pinned program and in every row, IS THE sha256 OF THE DUMP (.gsa) THAT YtbopmcdmahabbaaProg.lean LOADS. Nothing in Lean hashes anything: it is a label: what it is worth is what the hold of that sum in a sandbox is worth. -/
noncomputable def Try.pinned : Pinned := { name := "ytbopmcdmahabbaa", sum := "7eac67b8a2b52b92881f6136c1c81a1f1d10d2dc0b81c5a3bc4e0fca7e0c0354", checked := Try.checked }
namespace Rows
def none {H : Type} : Left H := { results := [], args := [] }

/-- 'isthmuslaw25.PathsLosses': WHATEVER THE INPUT: true; the input reads as it did. -/
def pathsLossesSpec : ChangeSpec := { name := "pathsLosses", fn := fun _ => fun
  | [d1, d2] => { results := [.lit (.bool true)], args := [d1, d2] }
  | _ => none }
def pathsLossesRow : OpenClaim := { program := "ytbopmcdmahabbaa", sum := "7eac67b8a2b52b92881f6136c1c81a1f1d10d2dc0b81c5a3bc4e0fca7e0c0354", func := "isthmus/isthmuslaw25.PathsLosses", spec := "pathsLosses", inPlace := ["math.Float64bits", "math.Float64frombits"], unfollowed := true, recurses := true, apart := false }
def PathsLossesSaid : Prop := pathsLossesRow.holds Try.pinned (OpenSpec.ofChange pathsLossesSpec)

/-- ITS FALSE NEIGHBOUR: 'it returns false'. Refute it at one input. -/
def pathsLossesWrong : ChangeSpec := { name := "pathsLosses", fn := fun _ => fun
  | [d1, d2] => { results := [.lit (.bool false)], args := [d1, d2] }
  | _ => none }
def PathsLossesWrongFalsely : Prop := pathsLossesRow.holds Try.pinned (OpenSpec.ofChange pathsLossesWrong)

/-- 'isthmuslaw25.PathsBest': WHATEVER THE INPUT: true; the input reads as it did. -/
def pathsBestSpec : ChangeSpec := { name := "pathsBest", fn := fun _ => fun
  | [d1, d2, d3] => { results := [.lit (.bool true)], args := [d1, d2, d3] }
  | _ => none }
def pathsBestRow : OpenClaim := { program := "ytbopmcdmahabbaa", sum := "7eac67b8a2b52b92881f6136c1c81a1f1d10d2dc0b81c5a3bc4e0fca7e0c0354", func := "isthmus/isthmuslaw25.PathsBest", spec := "pathsBest", inPlace := ["math.Float64bits", "math.Float64frombits"], unfollowed := true, recurses := true, apart := false }
def PathsBestSaid : Prop := pathsBestRow.holds Try.pinned (OpenSpec.ofChange pathsBestSpec)

/-- ITS FALSE NEIGHBOUR: 'it returns false'. Refute it at one input. -/
def pathsBestWrong : ChangeSpec := { name := "pathsBest", fn := fun _ => fun
  | [d1, d2, d3] => { results := [.lit (.bool false)], args := [d1, d2, d3] }
  | _ => none }
def PathsBestWrongFalsely : Prop := pathsBestRow.holds Try.pinned (OpenSpec.ofChange pathsBestWrong)

/-- 'isthmuslaw25.PathsPlay': WHATEVER THE INPUT: true; the input reads as it did. -/
def pathsPlaySpec : ChangeSpec := { name := "pathsPlay", fn := fun _ => fun
  | [d1, d2] => { results := [.lit (.bool true)], args := [d1, d2] }
  | _ => none }
def pathsPlayRow : OpenClaim := { program := "ytbopmcdmahabbaa", sum := "7eac67b8a2b52b92881f6136c1c81a1f1d10d2dc0b81c5a3bc4e0fca7e0c0354", func := "isthmus/isthmuslaw25.PathsPlay", spec := "pathsPlay", inPlace := ["math.Float64bits", "math.Float64frombits"], unfollowed := true, recurses := true, apart := false }
def PathsPlaySaid : Prop := pathsPlayRow.holds Try.pinned (OpenSpec.ofChange pathsPlaySpec)

/-- ITS FALSE NEIGHBOUR: 'it returns false'. Refute it at one input. -/
def pathsPlayWrong : ChangeSpec := { name := "pathsPlay", fn := fun _ => fun
  | [d1, d2] => { results := [.lit (.bool false)], args := [d1, d2] }
  | _ => none }
def PathsPlayWrongFalsely : Prop := pathsPlayRow.holds Try.pinned (OpenSpec.ofChange pathsPlayWrong)

/-- 'isthmuslaw25.PathsNil': WHATEVER THE INPUT: true; the input reads as it did. -/
def pathsNilSpec : ChangeSpec := { name := "pathsNil", fn := fun _ => fun
  | [d1, d2] => { results := [.lit (.bool true)], args := [d1, d2] }
  | _ => none }
def pathsNilRow : OpenClaim := { program := "ytbopmcdmahabbaa", sum := "7eac67b8a2b52b92881f6136c1c81a1f1d10d2dc0b81c5a3bc4e0fca7e0c0354", func := "isthmus/isthmuslaw25.PathsNil", spec := "pathsNil", inPlace := ["math.Float64bits", "math.Float64frombits"], unfollowed := true, recurses := true, apart := false }
def PathsNilSaid : Prop := pathsNilRow.holds Try.pinned (OpenSpec.ofChange pathsNilSpec)

/-- ITS FALSE NEIGHBOUR: 'it returns false'. Refute it at one input. -/
def pathsNilWrong : ChangeSpec := { name := "pathsNil", fn := fun _ => fun
  | [d1, d2] => { results := [.lit (.bool false)], args := [d1, d2] }
  | _ => none }
def PathsNilWrongFalsely : Prop := pathsNilRow.holds Try.pinned (OpenSpec.ofChange pathsNilWrong)

/- THE SECOND FORM. 'bulk': how many values and letters a reading holds, each counted each time it is reached (what is shared counts as often as it is met; a slice's spare places count too). A statement '..UptoSaid' is the law's where the arguments, and the package variables that the reading takes, are together of bulk at most 1048576: NARROWER than '..Said'. Prove '..Said' where nothing that the law and all that it calls make is longer than what came in: it says more and counts as full. Else prove '..UptoSaid'. A law counts once. -/
mutual
def uptoBulk {H : Type} : DataW H → Nat
  | .lit (.string bytes) => bytes.length + 1
  | .lit _ => 1
  | .nil => 1
  | .ptr d => uptoBulk d + 1
  | .slice elems spare => uptoBulkAll elems + uptoBulkAll spare + 1
  | .agg parts => uptoBulkAll parts + 1
  | .iface _ d => uptoBulk d + 1
  | .map entries => uptoBulkEntries entries + 1
  | .held _ => 1
def uptoBulkAll {H : Type} : List (DataW H) → Nat
  | [] => 0
  | d :: r => uptoBulk d + uptoBulkAll r
def uptoBulkEntries {H : Type} : List (Lit × DataW H) → Nat
  | [] => 0
  | x :: r => uptoBulkEntry x + uptoBulkEntries r
def uptoBulkEntry {H : Type} : Lit × DataW H → Nat
  | (.string bytes, d) => bytes.length + uptoBulk d + 1
  | (_, d) => uptoBulk d + 1
 end
def uptoSmall : (H : Type) → List (DataW H) → Bool := fun _ ds => decide (uptoBulkAll ds ≤ 1048576)
def OpenSpec.upto (s : _root_.Go.ChangeSpec) : _root_.Go.OpenSpec := { _root_.Go.OpenSpec.ofChange s with cond := some uptoSmall }

/-- 'isthmuslaw25.PathsLosses', WHERE WHAT IT READS IS OF BULK AT MOST 1048576: true; the input reads as it did. -/
def pathsLossesUptoRow : OpenClaim := { program := "ytbopmcdmahabbaa", sum := "7eac67b8a2b52b92881f6136c1c81a1f1d10d2dc0b81c5a3bc4e0fca7e0c0354", func := "isthmus/isthmuslaw25.PathsLosses", spec := "pathsLosses", inPlace := ["math.Float64bits", "math.Float64frombits"], unfollowed := true, recurses := true, apart := false, narrowed := true }
def PathsLossesUptoSaid : Prop := pathsLossesUptoRow.holds Try.pinned (OpenSpec.upto pathsLossesSpec)

/-- 'isthmuslaw25.PathsBest', WHERE WHAT IT READS IS OF BULK AT MOST 1048576: true; the input reads as it did. -/
def pathsBestUptoRow : OpenClaim := { program := "ytbopmcdmahabbaa", sum := "7eac67b8a2b52b92881f6136c1c81a1f1d10d2dc0b81c5a3bc4e0fca7e0c0354", func := "isthmus/isthmuslaw25.PathsBest", spec := "pathsBest", inPlace := ["math.Float64bits", "math.Float64frombits"], unfollowed := true, recurses := true, apart := false, narrowed := true }
def PathsBestUptoSaid : Prop := pathsBestUptoRow.holds Try.pinned (OpenSpec.upto pathsBestSpec)

/-- 'isthmuslaw25.PathsPlay', WHERE WHAT IT READS IS OF BULK AT MOST 1048576: true; the input reads as it did. -/
def pathsPlayUptoRow : OpenClaim := { program := "ytbopmcdmahabbaa", sum := "7eac67b8a2b52b92881f6136c1c81a1f1d10d2dc0b81c5a3bc4e0fca7e0c0354", func := "isthmus/isthmuslaw25.PathsPlay", spec := "pathsPlay", inPlace := ["math.Float64bits", "math.Float64frombits"], unfollowed := true, recurses := true, apart := false, narrowed := true }
def PathsPlayUptoSaid : Prop := pathsPlayUptoRow.holds Try.pinned (OpenSpec.upto pathsPlaySpec)

/-- 'isthmuslaw25.PathsNil', WHERE WHAT IT READS IS OF BULK AT MOST 1048576: true; the input reads as it did. -/
def pathsNilUptoRow : OpenClaim := { program := "ytbopmcdmahabbaa", sum := "7eac67b8a2b52b92881f6136c1c81a1f1d10d2dc0b81c5a3bc4e0fca7e0c0354", func := "isthmus/isthmuslaw25.PathsNil", spec := "pathsNil", inPlace := ["math.Float64bits", "math.Float64frombits"], unfollowed := true, recurses := true, apart := false, narrowed := true }
def PathsNilUptoSaid : Prop := pathsNilUptoRow.holds Try.pinned (OpenSpec.upto pathsNilSpec)

end Rows
end Go.Proofs.Ytbopmcdmahabbaa
