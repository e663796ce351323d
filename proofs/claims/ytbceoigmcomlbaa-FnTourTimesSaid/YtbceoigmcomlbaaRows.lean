/-
  No cell of these rows narrows 'for every input' (looked for: loops, veiled, ifaces, maps, wideKeys, modest, calm, conditions, laid).
  DERIVED. THE GIVEN ROWS OF THIS SEAT. 9 by the template 'for every input the law returns true; each argument reads behind the call as it read before'; 0 by the template 'total and deterministic' (their statements: YtbceoigmcomlbaaTotals.lean).
  GIVEN WITH THE SEED: the statements are not yours to turn. If you find one false, say at which input.
  Laid BY PROGRAM, IN A SANDBOX (cutbox-rows.mjs): the forced cells as the released guide's own fill.sh prints them over the translation 90f257996e9a8219… (all of the seat's roots in one cut). By AI agents, Wed Nov 11 2026. No macro, syntax, notation, axiom, sorry.
-/
import Derived.Test.YtbceoigmcomlbaaChecked
import GoSem.Claim
import GoSem.ClaimJoined
import GoSem.ClaimMapViews
import Derived.JoinedTies
import Derived.KernelRfl
namespace Go.Proofs.Ytbceoigmcomlbaa
/- THE CELL 'sum', in the pinned program and in every row, IS THE sha256 OF THE DUMP (.gsa) THAT YtbceoigmcomlbaaProg.lean LOADS. Nothing in Lean hashes anything: it is a label: what it is worth is what the hold of that sum in a sandbox is worth. -/
noncomputable def Try.pinned : Pinned := { name := "ytbceoigmcomlbaa", sum := "90f257996e9a82195aff81c8163bd20e6337faa2d133a16c321bd7e7003b39cd", checked := Try.checked }
namespace Rows
def none {H : Type} : Left H := { results := [], args := [] }

/-- 'laws.FnTourTimes': WHATEVER THE INPUT: true; the input reads as it did. -/
def fnTourTimesSpec : ChangeSpec := { name := "fnTourTimes", fn := fun _ => fun
  | [d] => { results := [.lit (.bool true)], args := [d] }
  | _ => none }
def fnTourTimesRow : OpenClaim := { program := "ytbceoigmcomlbaa", sum := "90f257996e9a82195aff81c8163bd20e6337faa2d133a16c321bd7e7003b39cd", func := "loop.example/dynamicbridges/laws.FnTourTimes", spec := "fnTourTimes", unfollowed := true, recurses := true, apart := false }
def FnTourTimesSaid : Prop := fnTourTimesRow.holds Try.pinned (OpenSpec.ofChange fnTourTimesSpec)

/-- ITS FALSE NEIGHBOUR: 'it returns false'. Refute it at one input. -/
def fnTourTimesWrong : ChangeSpec := { name := "fnTourTimes", fn := fun _ => fun
  | [d] => { results := [.lit (.bool false)], args := [d] }
  | _ => none }
def FnTourTimesWrongFalsely : Prop := fnTourTimesRow.holds Try.pinned (OpenSpec.ofChange fnTourTimesWrong)

/-- 'laws.FnSplitTour': WHATEVER THE INPUT: true; the input reads as it did. -/
def fnSplitTourSpec : ChangeSpec := { name := "fnSplitTour", fn := fun _ => fun
  | [d] => { results := [.lit (.bool true)], args := [d] }
  | _ => none }
def fnSplitTourRow : OpenClaim := { program := "ytbceoigmcomlbaa", sum := "90f257996e9a82195aff81c8163bd20e6337faa2d133a16c321bd7e7003b39cd", func := "loop.example/dynamicbridges/laws.FnSplitTour", spec := "fnSplitTour", unfollowed := true, recurses := true, apart := false }
def FnSplitTourSaid : Prop := fnSplitTourRow.holds Try.pinned (OpenSpec.ofChange fnSplitTourSpec)

/-- ITS FALSE NEIGHBOUR: 'it returns false'. Refute it at one input. -/
def fnSplitTourWrong : ChangeSpec := { name := "fnSplitTour", fn := fun _ => fun
  | [d] => { results := [.lit (.bool false)], args := [d] }
  | _ => none }
def FnSplitTourWrongFalsely : Prop := fnSplitTourRow.holds Try.pinned (OpenSpec.ofChange fnSplitTourWrong)

/-- 'laws.FnLinkTours': WHATEVER THE INPUT: true; the input reads as it did. -/
def fnLinkToursSpec : ChangeSpec := { name := "fnLinkTours", fn := fun _ => fun
  | [d] => { results := [.lit (.bool true)], args := [d] }
  | _ => none }
def fnLinkToursRow : OpenClaim := { program := "ytbceoigmcomlbaa", sum := "90f257996e9a82195aff81c8163bd20e6337faa2d133a16c321bd7e7003b39cd", func := "loop.example/dynamicbridges/laws.FnLinkTours", spec := "fnLinkTours", unfollowed := true, recurses := true, apart := false }
def FnLinkToursSaid : Prop := fnLinkToursRow.holds Try.pinned (OpenSpec.ofChange fnLinkToursSpec)

/-- ITS FALSE NEIGHBOUR: 'it returns false'. Refute it at one input. -/
def fnLinkToursWrong : ChangeSpec := { name := "fnLinkTours", fn := fun _ => fun
  | [d] => { results := [.lit (.bool false)], args := [d] }
  | _ => none }
def FnLinkToursWrongFalsely : Prop := fnLinkToursRow.holds Try.pinned (OpenSpec.ofChange fnLinkToursWrong)

/-- 'laws.FnLinkRoots': WHATEVER THE INPUT: true; the input reads as it did. -/
def fnLinkRootsSpec : ChangeSpec := { name := "fnLinkRoots", fn := fun _ => fun
  | [d] => { results := [.lit (.bool true)], args := [d] }
  | _ => none }
def fnLinkRootsRow : OpenClaim := { program := "ytbceoigmcomlbaa", sum := "90f257996e9a82195aff81c8163bd20e6337faa2d133a16c321bd7e7003b39cd", func := "loop.example/dynamicbridges/laws.FnLinkRoots", spec := "fnLinkRoots", unfollowed := true, recurses := true, apart := false }
def FnLinkRootsSaid : Prop := fnLinkRootsRow.holds Try.pinned (OpenSpec.ofChange fnLinkRootsSpec)

/-- ITS FALSE NEIGHBOUR: 'it returns false'. Refute it at one input. -/
def fnLinkRootsWrong : ChangeSpec := { name := "fnLinkRoots", fn := fun _ => fun
  | [d] => { results := [.lit (.bool false)], args := [d] }
  | _ => none }
def FnLinkRootsWrongFalsely : Prop := fnLinkRootsRow.holds Try.pinned (OpenSpec.ofChange fnLinkRootsWrong)

/-- 'laws.FnTourDepths': WHATEVER THE INPUT: true; the input reads as it did. -/
def fnTourDepthsSpec : ChangeSpec := { name := "fnTourDepths", fn := fun _ => fun
  | [d] => { results := [.lit (.bool true)], args := [d] }
  | _ => none }
def fnTourDepthsRow : OpenClaim := { program := "ytbceoigmcomlbaa", sum := "90f257996e9a82195aff81c8163bd20e6337faa2d133a16c321bd7e7003b39cd", func := "loop.example/dynamicbridges/laws.FnTourDepths", spec := "fnTourDepths", unfollowed := true, recurses := true, apart := false }
def FnTourDepthsSaid : Prop := fnTourDepthsRow.holds Try.pinned (OpenSpec.ofChange fnTourDepthsSpec)

/-- ITS FALSE NEIGHBOUR: 'it returns false'. Refute it at one input. -/
def fnTourDepthsWrong : ChangeSpec := { name := "fnTourDepths", fn := fun _ => fun
  | [d] => { results := [.lit (.bool false)], args := [d] }
  | _ => none }
def FnTourDepthsWrongFalsely : Prop := fnTourDepthsRow.holds Try.pinned (OpenSpec.ofChange fnTourDepthsWrong)

/-- 'laws.FnTourBelow': WHATEVER THE INPUT: true; the input reads as it did. -/
def fnTourBelowSpec : ChangeSpec := { name := "fnTourBelow", fn := fun _ => fun
  | [d] => { results := [.lit (.bool true)], args := [d] }
  | _ => none }
def fnTourBelowRow : OpenClaim := { program := "ytbceoigmcomlbaa", sum := "90f257996e9a82195aff81c8163bd20e6337faa2d133a16c321bd7e7003b39cd", func := "loop.example/dynamicbridges/laws.FnTourBelow", spec := "fnTourBelow", unfollowed := true, recurses := true, apart := false }
def FnTourBelowSaid : Prop := fnTourBelowRow.holds Try.pinned (OpenSpec.ofChange fnTourBelowSpec)

/-- ITS FALSE NEIGHBOUR: 'it returns false'. Refute it at one input. -/
def fnTourBelowWrong : ChangeSpec := { name := "fnTourBelow", fn := fun _ => fun
  | [d] => { results := [.lit (.bool false)], args := [d] }
  | _ => none }
def FnTourBelowWrongFalsely : Prop := fnTourBelowRow.holds Try.pinned (OpenSpec.ofChange fnTourBelowWrong)

/-- 'laws.FnTurnBelow': WHATEVER THE INPUT: true; the input reads as it did. -/
def fnTurnBelowSpec : ChangeSpec := { name := "fnTurnBelow", fn := fun _ => fun
  | [d] => { results := [.lit (.bool true)], args := [d] }
  | _ => none }
def fnTurnBelowRow : OpenClaim := { program := "ytbceoigmcomlbaa", sum := "90f257996e9a82195aff81c8163bd20e6337faa2d133a16c321bd7e7003b39cd", func := "loop.example/dynamicbridges/laws.FnTurnBelow", spec := "fnTurnBelow", unfollowed := true, recurses := true, apart := false }
def FnTurnBelowSaid : Prop := fnTurnBelowRow.holds Try.pinned (OpenSpec.ofChange fnTurnBelowSpec)

/-- ITS FALSE NEIGHBOUR: 'it returns false'. Refute it at one input. -/
def fnTurnBelowWrong : ChangeSpec := { name := "fnTurnBelow", fn := fun _ => fun
  | [d] => { results := [.lit (.bool false)], args := [d] }
  | _ => none }
def FnTurnBelowWrongFalsely : Prop := fnTurnBelowRow.holds Try.pinned (OpenSpec.ofChange fnTurnBelowWrong)

/-- 'laws.FnSplitNodes': WHATEVER THE INPUT: true; the input reads as it did. -/
def fnSplitNodesSpec : ChangeSpec := { name := "fnSplitNodes", fn := fun _ => fun
  | [d] => { results := [.lit (.bool true)], args := [d] }
  | _ => none }
def fnSplitNodesRow : OpenClaim := { program := "ytbceoigmcomlbaa", sum := "90f257996e9a82195aff81c8163bd20e6337faa2d133a16c321bd7e7003b39cd", func := "loop.example/dynamicbridges/laws.FnSplitNodes", spec := "fnSplitNodes", unfollowed := true, recurses := true, apart := false }
def FnSplitNodesSaid : Prop := fnSplitNodesRow.holds Try.pinned (OpenSpec.ofChange fnSplitNodesSpec)

/-- ITS FALSE NEIGHBOUR: 'it returns false'. Refute it at one input. -/
def fnSplitNodesWrong : ChangeSpec := { name := "fnSplitNodes", fn := fun _ => fun
  | [d] => { results := [.lit (.bool false)], args := [d] }
  | _ => none }
def FnSplitNodesWrongFalsely : Prop := fnSplitNodesRow.holds Try.pinned (OpenSpec.ofChange fnSplitNodesWrong)

/-- 'laws.FnTurnTour': WHATEVER THE INPUT: true; the input reads as it did. -/
def fnTurnTourSpec : ChangeSpec := { name := "fnTurnTour", fn := fun _ => fun
  | [d] => { results := [.lit (.bool true)], args := [d] }
  | _ => none }
def fnTurnTourRow : OpenClaim := { program := "ytbceoigmcomlbaa", sum := "90f257996e9a82195aff81c8163bd20e6337faa2d133a16c321bd7e7003b39cd", func := "loop.example/dynamicbridges/laws.FnTurnTour", spec := "fnTurnTour", unfollowed := true, recurses := true, apart := false }
def FnTurnTourSaid : Prop := fnTurnTourRow.holds Try.pinned (OpenSpec.ofChange fnTurnTourSpec)

/-- ITS FALSE NEIGHBOUR: 'it returns false'. Refute it at one input. -/
def fnTurnTourWrong : ChangeSpec := { name := "fnTurnTour", fn := fun _ => fun
  | [d] => { results := [.lit (.bool false)], args := [d] }
  | _ => none }
def FnTurnTourWrongFalsely : Prop := fnTurnTourRow.holds Try.pinned (OpenSpec.ofChange fnTurnTourWrong)

/- THE SECOND FORM. 'bulk': how many values and letters a reading holds, each counted each time it is reached (what is shared counts as often as it is met; a slice's spare places count too). A statement '..UptoSaid' is the law's where the arguments, and the package variables that the reading takes, are together of bulk at most 1048576: NARROWER than '..Said'. Prove '..Said' where nothing that the law and all that it calls make is longer than what came in: it says more and counts as full. Else prove '..UptoSaid'. A law counts once. -/
mutual
def uptoBulk {H : Type} : DataW H → Nat
  | .lit (.string bytes) => bytes.length + 1
  | .lit _ => 1
  | .nil => 1
  | .ptr d => uptoBulk d + 1
  | .slice elems spare => uptoBulkAll elems + uptoBulkAll spare + 1
  | .agg parts => uptoBulkAll parts + 1
  | .iface _ d => uptoBulk d + 1
  | .map entries => uptoBulkEntries entries + 1
  | .held _ => 1
def uptoBulkAll {H : Type} : List (DataW H) → Nat
  | [] => 0
  | d :: r => uptoBulk d + uptoBulkAll r
def uptoBulkEntries {H : Type} : List (Lit × DataW H) → Nat
  | [] => 0
  | x :: r => uptoBulkEntry x + uptoBulkEntries r
def uptoBulkEntry {H : Type} : Lit × DataW H → Nat
  | (.string bytes, d) => bytes.length + uptoBulk d + 1
  | (_, d) => uptoBulk d + 1
 end
def uptoSmall : (H : Type) → List (DataW H) → Bool := fun _ ds => decide (uptoBulkAll ds ≤ 1048576)
def OpenSpec.upto (s : _root_.Go.ChangeSpec) : _root_.Go.OpenSpec := { _root_.Go.OpenSpec.ofChange s with cond := some uptoSmall }

/-- 'laws.FnTourTimes', WHERE WHAT IT READS IS OF BULK AT MOST 1048576: true; the input reads as it did. -/
def fnTourTimesUptoRow : OpenClaim := { program := "ytbceoigmcomlbaa", sum := "90f257996e9a82195aff81c8163bd20e6337faa2d133a16c321bd7e7003b39cd", func := "loop.example/dynamicbridges/laws.FnTourTimes", spec := "fnTourTimes", unfollowed := true, recurses := true, apart := false, narrowed := true }
def FnTourTimesUptoSaid : Prop := fnTourTimesUptoRow.holds Try.pinned (OpenSpec.upto fnTourTimesSpec)

/-- 'laws.FnSplitTour', WHERE WHAT IT READS IS OF BULK AT MOST 1048576: true; the input reads as it did. -/
def fnSplitTourUptoRow : OpenClaim := { program := "ytbceoigmcomlbaa", sum := "90f257996e9a82195aff81c8163bd20e6337faa2d133a16c321bd7e7003b39cd", func := "loop.example/dynamicbridges/laws.FnSplitTour", spec := "fnSplitTour", unfollowed := true, recurses := true, apart := false, narrowed := true }
def FnSplitTourUptoSaid : Prop := fnSplitTourUptoRow.holds Try.pinned (OpenSpec.upto fnSplitTourSpec)

/-- 'laws.FnLinkTours', WHERE WHAT IT READS IS OF BULK AT MOST 1048576: true; the input reads as it did. -/
def fnLinkToursUptoRow : OpenClaim := { program := "ytbceoigmcomlbaa", sum := "90f257996e9a82195aff81c8163bd20e6337faa2d133a16c321bd7e7003b39cd", func := "loop.example/dynamicbridges/laws.FnLinkTours", spec := "fnLinkTours", unfollowed := true, recurses := true, apart := false, narrowed := true }
def FnLinkToursUptoSaid : Prop := fnLinkToursUptoRow.holds Try.pinned (OpenSpec.upto fnLinkToursSpec)

/-- 'laws.FnLinkRoots', WHERE WHAT IT READS IS OF BULK AT MOST 1048576: true; the input reads as it did. -/
def fnLinkRootsUptoRow : OpenClaim := { program := "ytbceoigmcomlbaa", sum := "90f257996e9a82195aff81c8163bd20e6337faa2d133a16c321bd7e7003b39cd", func := "loop.example/dynamicbridges/laws.FnLinkRoots", spec := "fnLinkRoots", unfollowed := true, recurses := true, apart := false, narrowed := true }
def FnLinkRootsUptoSaid : Prop := fnLinkRootsUptoRow.holds Try.pinned (OpenSpec.upto fnLinkRootsSpec)

/-- 'laws.FnTourDepths', WHERE WHAT IT READS IS OF BULK AT MOST 1048576: true; the input reads as it did. -/
def fnTourDepthsUptoRow : OpenClaim := { program := "ytbceoigmcomlbaa", sum := "90f257996e9a82195aff81c8163bd20e6337faa2d133a16c321bd7e7003b39cd", func := "loop.example/dynamicbridges/laws.FnTourDepths", spec := "fnTourDepths", unfollowed := true, recurses := true, apart := false, narrowed := true }
def FnTourDepthsUptoSaid : Prop := fnTourDepthsUptoRow.holds Try.pinned (OpenSpec.upto fnTourDepthsSpec)

/-- 'laws.FnTourBelow', WHERE WHAT IT READS IS OF BULK AT MOST 1048576: true; the input reads as it did. -/
def fnTourBelowUptoRow : OpenClaim := { program := "ytbceoigmcomlbaa", sum := "90f257996e9a82195aff81c8163bd20e6337faa2d133a16c321bd7e7003b39cd", func := "loop.example/dynamicbridges/laws.FnTourBelow", spec := "fnTourBelow", unfollowed := true, recurses := true, apart := false, narrowed := true }
def FnTourBelowUptoSaid : Prop := fnTourBelowUptoRow.holds Try.pinned (OpenSpec.upto fnTourBelowSpec)

/-- 'laws.FnTurnBelow', WHERE WHAT IT READS IS OF BULK AT MOST 1048576: true; the input reads as it did. -/
def fnTurnBelowUptoRow : OpenClaim := { program := "ytbceoigmcomlbaa", sum := "90f257996e9a82195aff81c8163bd20e6337faa2d133a16c321bd7e7003b39cd", func := "loop.example/dynamicbridges/laws.FnTurnBelow", spec := "fnTurnBelow", unfollowed := true, recurses := true, apart := false, narrowed := true }
def FnTurnBelowUptoSaid : Prop := fnTurnBelowUptoRow.holds Try.pinned (OpenSpec.upto fnTurnBelowSpec)

/-- 'laws.FnSplitNodes', WHERE WHAT IT READS IS OF BULK AT MOST 1048576: true; the input reads as it did. -/
def fnSplitNodesUptoRow : OpenClaim := { program := "ytbceoigmcomlbaa", sum := "90f257996e9a82195aff81c8163bd20e6337faa2d133a16c321bd7e7003b39cd", func := "loop.example/dynamicbridges/laws.FnSplitNodes", spec := "fnSplitNodes", unfollowed := true, recurses := true, apart := false, narrowed := true }
def FnSplitNodesUptoSaid : Prop := fnSplitNodesUptoRow.holds Try.pinned (OpenSpec.upto fnSplitNodesSpec)

/-- 'laws.FnTurnTour', WHERE WHAT IT READS IS OF BULK AT MOST 1048576: true; the input reads as it did. -/
def fnTurnTourUptoRow : OpenClaim := { program := "ytbceoigmcomlbaa", sum := "90f257996e9a82195aff81c8163bd20e6337faa2d133a16c321bd7e7003b39cd", func := "loop.example/dynamicbridges/laws.FnTurnTour", spec := "fnTurnTour", unfollowed := true, recurses := true, apart := false, narrowed := true }
def FnTurnTourUptoSaid : Prop := fnTurnTourUptoRow.holds Try.pinned (OpenSpec.upto fnTurnTourSpec)

end Rows
end Go.Proofs.Ytbceoigmcomlbaa
