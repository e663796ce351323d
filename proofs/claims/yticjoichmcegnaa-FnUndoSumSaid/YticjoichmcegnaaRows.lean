/-
  No cell of these rows narrows 'for every input' (looked for: loops, veiled, ifaces, maps, wideKeys, modest, calm, conditions, laid).
  DERIVED. THE GIVEN ROWS OF THIS SEAT. 12 by the template 'for every input the law returns true; each argument reads behind the call as it read before'; 0 by the template 'total and deterministic' (their statements: YticjoichmcegnaaTotals.lean).
  GIVEN WITH THE SEED: the statements are not yours to turn. If you find one false, say at which input.
  Laid BY PROGRAM, IN A SANDBOX (cutbox-rows.mjs): the forced cells as the released guide's own fill.sh prints them over the translation 2bf061dcd01f4831… (all of the seat's roots in one cut). By AI agents, Wed Nov 11 2026. No macro, syntax, notation, axiom, sorry.
-/
import Derived.Test.YticjoichmcegnaaChecked
import GoSem.Claim
import GoSem.ClaimJoined
import GoSem.ClaimMapViews
import Derived.JoinedTies
import Derived.KernelRfl
namespace Go.Proofs.Yticjoichmcegnaa
/- THE CELL 'sum', in the pinned program and in every row, IS THE sha256 OF THE DUMP (.gsa) THAT YticjoichmcegnaaProg.lean LOADS. Nothing in Lean hashes anything: it is a label: what it is worth is what the hold of that sum in a sandbox is worth. -/
noncomputable def Try.pinned : Pinned := { name := "yticjoichmcegnaa", sum := "2bf061dcd01f4831584c6c9a8f841de9761563114933d75515761d033bff493a", checked := Try.checked }
namespace Rows
def none {H : Type} : Left H := { results := [], args := [] }

/-- 'laws.FnGraphParts': WHATEVER THE INPUT: true; the input reads as it did. -/
def fnGraphPartsSpec : ChangeSpec := { name := "fnGraphParts", fn := fun _ => fun
  | [d] => { results := [.lit (.bool true)], args := [d] }
  | _ => none }
def fnGraphPartsRow : OpenClaim := { program := "yticjoichmcegnaa", sum := "2bf061dcd01f4831584c6c9a8f841de9761563114933d75515761d033bff493a", func := "loop.example/dynamicbridges/laws.FnGraphParts", spec := "fnGraphParts", unfollowed := true, recurses := true, apart := false }
def FnGraphPartsSaid : Prop := fnGraphPartsRow.holds Try.pinned (OpenSpec.ofChange fnGraphPartsSpec)

/-- ITS FALSE NEIGHBOUR: 'it returns false'. Refute it at one input. -/
def fnGraphPartsWrong : ChangeSpec := { name := "fnGraphParts", fn := fun _ => fun
  | [d] => { results := [.lit (.bool false)], args := [d] }
  | _ => none }
def FnGraphPartsWrongFalsely : Prop := fnGraphPartsRow.holds Try.pinned (OpenSpec.ofChange fnGraphPartsWrong)

/-- 'laws.FnSetsShallow': WHATEVER THE INPUT: true; the input reads as it did. -/
def fnSetsShallowSpec : ChangeSpec := { name := "fnSetsShallow", fn := fun _ => fun
  | [d] => { results := [.lit (.bool true)], args := [d] }
  | _ => none }
def fnSetsShallowRow : OpenClaim := { program := "yticjoichmcegnaa", sum := "2bf061dcd01f4831584c6c9a8f841de9761563114933d75515761d033bff493a", func := "loop.example/dynamicbridges/laws.FnSetsShallow", spec := "fnSetsShallow", apart := false }
def FnSetsShallowSaid : Prop := fnSetsShallowRow.holds Try.pinned (OpenSpec.ofChange fnSetsShallowSpec)

/-- ITS FALSE NEIGHBOUR: 'it returns false'. Refute it at one input. -/
def fnSetsShallowWrong : ChangeSpec := { name := "fnSetsShallow", fn := fun _ => fun
  | [d] => { results := [.lit (.bool false)], args := [d] }
  | _ => none }
def FnSetsShallowWrongFalsely : Prop := fnSetsShallowRow.holds Try.pinned (OpenSpec.ofChange fnSetsShallowWrong)

/-- 'laws.FnExactSetsValid': WHATEVER THE INPUT: true; the input reads as it did. -/
def fnExactSetsValidSpec : ChangeSpec := { name := "fnExactSetsValid", fn := fun _ => fun
  | [d] => { results := [.lit (.bool true)], args := [d] }
  | _ => none }
def fnExactSetsValidRow : OpenClaim := { program := "yticjoichmcegnaa", sum := "2bf061dcd01f4831584c6c9a8f841de9761563114933d75515761d033bff493a", func := "loop.example/dynamicbridges/laws.FnExactSetsValid", spec := "fnExactSetsValid", apart := false }
def FnExactSetsValidSaid : Prop := fnExactSetsValidRow.holds Try.pinned (OpenSpec.ofChange fnExactSetsValidSpec)

/-- ITS FALSE NEIGHBOUR: 'it returns false'. Refute it at one input. -/
def fnExactSetsValidWrong : ChangeSpec := { name := "fnExactSetsValid", fn := fun _ => fun
  | [d] => { results := [.lit (.bool false)], args := [d] }
  | _ => none }
def FnExactSetsValidWrongFalsely : Prop := fnExactSetsValidRow.holds Try.pinned (OpenSpec.ofChange fnExactSetsValidWrong)

/-- 'laws.FnUndoSets': WHATEVER THE INPUT: true; the input reads as it did. -/
def fnUndoSetsSpec : ChangeSpec := { name := "fnUndoSets", fn := fun _ => fun
  | [d] => { results := [.lit (.bool true)], args := [d] }
  | _ => none }
def fnUndoSetsRow : OpenClaim := { program := "yticjoichmcegnaa", sum := "2bf061dcd01f4831584c6c9a8f841de9761563114933d75515761d033bff493a", func := "loop.example/dynamicbridges/laws.FnUndoSets", spec := "fnUndoSets", apart := false }
def FnUndoSetsSaid : Prop := fnUndoSetsRow.holds Try.pinned (OpenSpec.ofChange fnUndoSetsSpec)

/-- ITS FALSE NEIGHBOUR: 'it returns false'. Refute it at one input. -/
def fnUndoSetsWrong : ChangeSpec := { name := "fnUndoSets", fn := fun _ => fun
  | [d] => { results := [.lit (.bool false)], args := [d] }
  | _ => none }
def FnUndoSetsWrongFalsely : Prop := fnUndoSetsRow.holds Try.pinned (OpenSpec.ofChange fnUndoSetsWrong)

/-- 'laws.FnUndoSum': WHATEVER THE INPUT: true; the input reads as it did. -/
def fnUndoSumSpec : ChangeSpec := { name := "fnUndoSum", fn := fun _ => fun
  | [d] => { results := [.lit (.bool true)], args := [d] }
  | _ => none }
def fnUndoSumRow : OpenClaim := { program := "yticjoichmcegnaa", sum := "2bf061dcd01f4831584c6c9a8f841de9761563114933d75515761d033bff493a", func := "loop.example/dynamicbridges/laws.FnUndoSum", spec := "fnUndoSum", apart := false }
def FnUndoSumSaid : Prop := fnUndoSumRow.holds Try.pinned (OpenSpec.ofChange fnUndoSumSpec)

/-- ITS FALSE NEIGHBOUR: 'it returns false'. Refute it at one input. -/
def fnUndoSumWrong : ChangeSpec := { name := "fnUndoSum", fn := fun _ => fun
  | [d] => { results := [.lit (.bool false)], args := [d] }
  | _ => none }
def FnUndoSumWrongFalsely : Prop := fnUndoSumRow.holds Try.pinned (OpenSpec.ofChange fnUndoSumWrong)

/-- 'laws.FnExactSameBlock': WHATEVER THE INPUT: true; the input reads as it did. -/
def fnExactSameBlockSpec : ChangeSpec := { name := "fnExactSameBlock", fn := fun _ => fun
  | [d1, d2, d3] => { results := [.lit (.bool true)], args := [d1, d2, d3] }
  | _ => none }
def fnExactSameBlockRow : OpenClaim := { program := "yticjoichmcegnaa", sum := "2bf061dcd01f4831584c6c9a8f841de9761563114933d75515761d033bff493a", func := "loop.example/dynamicbridges/laws.FnExactSameBlock", spec := "fnExactSameBlock", unfollowed := true, recurses := true, apart := false }
def FnExactSameBlockSaid : Prop := fnExactSameBlockRow.holds Try.pinned (OpenSpec.ofChange fnExactSameBlockSpec)

/-- ITS FALSE NEIGHBOUR: 'it returns false'. Refute it at one input. -/
def fnExactSameBlockWrong : ChangeSpec := { name := "fnExactSameBlock", fn := fun _ => fun
  | [d1, d2, d3] => { results := [.lit (.bool false)], args := [d1, d2, d3] }
  | _ => none }
def FnExactSameBlockWrongFalsely : Prop := fnExactSameBlockRow.holds Try.pinned (OpenSpec.ofChange fnExactSameBlockWrong)

/-- 'laws.FnExactUndoSets': WHATEVER THE INPUT: true; the input reads as it did. -/
def fnExactUndoSetsSpec : ChangeSpec := { name := "fnExactUndoSets", fn := fun _ => fun
  | [d1, d2] => { results := [.lit (.bool true)], args := [d1, d2] }
  | _ => none }
def fnExactUndoSetsRow : OpenClaim := { program := "yticjoichmcegnaa", sum := "2bf061dcd01f4831584c6c9a8f841de9761563114933d75515761d033bff493a", func := "loop.example/dynamicbridges/laws.FnExactUndoSets", spec := "fnExactUndoSets", apart := false }
def FnExactUndoSetsSaid : Prop := fnExactUndoSetsRow.holds Try.pinned (OpenSpec.ofChange fnExactUndoSetsSpec)

/-- ITS FALSE NEIGHBOUR: 'it returns false'. Refute it at one input. -/
def fnExactUndoSetsWrong : ChangeSpec := { name := "fnExactUndoSets", fn := fun _ => fun
  | [d1, d2] => { results := [.lit (.bool false)], args := [d1, d2] }
  | _ => none }
def FnExactUndoSetsWrongFalsely : Prop := fnExactUndoSetsRow.holds Try.pinned (OpenSpec.ofChange fnExactUndoSetsWrong)

/-- 'laws.FnNewLevels': WHATEVER THE INPUT: true; the input reads as it did. -/
def fnNewLevelsSpec : ChangeSpec := { name := "fnNewLevels", fn := fun _ => fun
  | [d] => { results := [.lit (.bool true)], args := [d] }
  | _ => none }
def fnNewLevelsRow : OpenClaim := { program := "yticjoichmcegnaa", sum := "2bf061dcd01f4831584c6c9a8f841de9761563114933d75515761d033bff493a", func := "loop.example/dynamicbridges/laws.FnNewLevels", spec := "fnNewLevels", inPlace := ["slices.overlaps[loop.example/dynamicbridges/impl.Edge]", "slices.overlaps[int]", "slices.overlaps[bool]"], unfollowed := true, recurses := true, apart := false }
def FnNewLevelsSaid : Prop := fnNewLevelsRow.holds Try.pinned (OpenSpec.ofChange fnNewLevelsSpec)

/-- ITS FALSE NEIGHBOUR: 'it returns false'. Refute it at one input. -/
def fnNewLevelsWrong : ChangeSpec := { name := "fnNewLevels", fn := fun _ => fun
  | [d] => { results := [.lit (.bool false)], args := [d] }
  | _ => none }
def FnNewLevelsWrongFalsely : Prop := fnNewLevelsRow.holds Try.pinned (OpenSpec.ofChange fnNewLevelsWrong)

/-- 'laws.FnBlocksOrder': WHATEVER THE INPUT: true; the input reads as it did. -/
def fnBlocksOrderSpec : ChangeSpec := { name := "fnBlocksOrder", fn := fun _ => fun
  | [d] => { results := [.lit (.bool true)], args := [d] }
  | _ => none }
def fnBlocksOrderRow : OpenClaim := { program := "yticjoichmcegnaa", sum := "2bf061dcd01f4831584c6c9a8f841de9761563114933d75515761d033bff493a", func := "loop.example/dynamicbridges/laws.FnBlocksOrder", spec := "fnBlocksOrder", unfollowed := true, recurses := true, apart := false }
def FnBlocksOrderSaid : Prop := fnBlocksOrderRow.holds Try.pinned (OpenSpec.ofChange fnBlocksOrderSpec)

/-- ITS FALSE NEIGHBOUR: 'it returns false'. Refute it at one input. -/
def fnBlocksOrderWrong : ChangeSpec := { name := "fnBlocksOrder", fn := fun _ => fun
  | [d] => { results := [.lit (.bool false)], args := [d] }
  | _ => none }
def FnBlocksOrderWrongFalsely : Prop := fnBlocksOrderRow.holds Try.pinned (OpenSpec.ofChange fnBlocksOrderWrong)

/-- 'laws.FnSameBlock': WHATEVER THE INPUT: true; the input reads as it did. -/
def fnSameBlockSpec : ChangeSpec := { name := "fnSameBlock", fn := fun _ => fun
  | [d] => { results := [.lit (.bool true)], args := [d] }
  | _ => none }
def fnSameBlockRow : OpenClaim := { program := "yticjoichmcegnaa", sum := "2bf061dcd01f4831584c6c9a8f841de9761563114933d75515761d033bff493a", func := "loop.example/dynamicbridges/laws.FnSameBlock", spec := "fnSameBlock", unfollowed := true, recurses := true, apart := false }
def FnSameBlockSaid : Prop := fnSameBlockRow.holds Try.pinned (OpenSpec.ofChange fnSameBlockSpec)

/-- ITS FALSE NEIGHBOUR: 'it returns false'. Refute it at one input. -/
def fnSameBlockWrong : ChangeSpec := { name := "fnSameBlock", fn := fun _ => fun
  | [d] => { results := [.lit (.bool false)], args := [d] }
  | _ => none }
def FnSameBlockWrongFalsely : Prop := fnSameBlockRow.holds Try.pinned (OpenSpec.ofChange fnSameBlockWrong)

/-- 'laws.FnExactBlocksOf': WHATEVER THE INPUT: true; the input reads as it did. -/
def fnExactBlocksOfSpec : ChangeSpec := { name := "fnExactBlocksOf", fn := fun _ => fun
  | [d] => { results := [.lit (.bool true)], args := [d] }
  | _ => none }
def fnExactBlocksOfRow : OpenClaim := { program := "yticjoichmcegnaa", sum := "2bf061dcd01f4831584c6c9a8f841de9761563114933d75515761d033bff493a", func := "loop.example/dynamicbridges/laws.FnExactBlocksOf", spec := "fnExactBlocksOf", unfollowed := true, recurses := true, apart := false }
def FnExactBlocksOfSaid : Prop := fnExactBlocksOfRow.holds Try.pinned (OpenSpec.ofChange fnExactBlocksOfSpec)

/-- ITS FALSE NEIGHBOUR: 'it returns false'. Refute it at one input. -/
def fnExactBlocksOfWrong : ChangeSpec := { name := "fnExactBlocksOf", fn := fun _ => fun
  | [d] => { results := [.lit (.bool false)], args := [d] }
  | _ => none }
def FnExactBlocksOfWrongFalsely : Prop := fnExactBlocksOfRow.holds Try.pinned (OpenSpec.ofChange fnExactBlocksOfWrong)

/-- 'laws.FnBlockBridge': WHATEVER THE INPUT: true; the input reads as it did. -/
def fnBlockBridgeSpec : ChangeSpec := { name := "fnBlockBridge", fn := fun _ => fun
  | [d] => { results := [.lit (.bool true)], args := [d] }
  | _ => none }
def fnBlockBridgeRow : OpenClaim := { program := "yticjoichmcegnaa", sum := "2bf061dcd01f4831584c6c9a8f841de9761563114933d75515761d033bff493a", func := "loop.example/dynamicbridges/laws.FnBlockBridge", spec := "fnBlockBridge", unfollowed := true, recurses := true, apart := false }
def FnBlockBridgeSaid : Prop := fnBlockBridgeRow.holds Try.pinned (OpenSpec.ofChange fnBlockBridgeSpec)

/-- ITS FALSE NEIGHBOUR: 'it returns false'. Refute it at one input. -/
def fnBlockBridgeWrong : ChangeSpec := { name := "fnBlockBridge", fn := fun _ => fun
  | [d] => { results := [.lit (.bool false)], args := [d] }
  | _ => none }
def FnBlockBridgeWrongFalsely : Prop := fnBlockBridgeRow.holds Try.pinned (OpenSpec.ofChange fnBlockBridgeWrong)

/- THE SECOND FORM. 'bulk': how many values and letters a reading holds, each counted each time it is reached (what is shared counts as often as it is met; a slice's spare places count too). A statement '..UptoSaid' is the law's where the arguments, and the package variables that the reading takes, are together of bulk at most 1048576: NARROWER than '..Said'. Prove '..Said' where nothing that the law and all that it calls make is longer than what came in: it says more and counts as full. Else prove '..UptoSaid'. A law counts once. -/
mutual
def uptoBulk {H : Type} : DataW H → Nat
  | .lit (.string bytes) => bytes.length + 1
  | .lit _ => 1
  | .nil => 1
  | .ptr d => uptoBulk d + 1
  | .slice elems spare => uptoBulkAll elems + uptoBulkAll spare + 1
  | .agg parts => uptoBulkAll parts + 1
  | .iface _ d => uptoBulk d + 1
  | .map entries => uptoBulkEntries entries + 1
  | .held _ => 1
def uptoBulkAll {H : Type} : List (DataW H) → Nat
  | [] => 0
  | d :: r => uptoBulk d + uptoBulkAll r
def uptoBulkEntries {H : Type} : List (Lit × DataW H) → Nat
  | [] => 0
  | x :: r => uptoBulkEntry x + uptoBulkEntries r
def uptoBulkEntry {H : Type} : Lit × DataW H → Nat
  | (.string bytes, d) => bytes.length + uptoBulk d + 1
  | (_, d) => uptoBulk d + 1
 end
def uptoSmall : (H : Type) → List (DataW H) → Bool := fun _ ds => decide (uptoBulkAll ds ≤ 1048576)
def OpenSpec.upto (s : _root_.Go.ChangeSpec) : _root_.Go.OpenSpec := { _root_.Go.OpenSpec.ofChange s with cond := some uptoSmall }

/-- 'laws.FnGraphParts', WHERE WHAT IT READS IS OF BULK AT MOST 1048576: true; the input reads as it did. -/
def fnGraphPartsUptoRow : OpenClaim := { program := "yticjoichmcegnaa", sum := "2bf061dcd01f4831584c6c9a8f841de9761563114933d75515761d033bff493a", func := "loop.example/dynamicbridges/laws.FnGraphParts", spec := "fnGraphParts", unfollowed := true, recurses := true, apart := false, narrowed := true }
def FnGraphPartsUptoSaid : Prop := fnGraphPartsUptoRow.holds Try.pinned (OpenSpec.upto fnGraphPartsSpec)

/-- 'laws.FnSetsShallow', WHERE WHAT IT READS IS OF BULK AT MOST 1048576: true; the input reads as it did. -/
def fnSetsShallowUptoRow : OpenClaim := { program := "yticjoichmcegnaa", sum := "2bf061dcd01f4831584c6c9a8f841de9761563114933d75515761d033bff493a", func := "loop.example/dynamicbridges/laws.FnSetsShallow", spec := "fnSetsShallow", apart := false, narrowed := true }
def FnSetsShallowUptoSaid : Prop := fnSetsShallowUptoRow.holds Try.pinned (OpenSpec.upto fnSetsShallowSpec)

/-- 'laws.FnExactSetsValid', WHERE WHAT IT READS IS OF BULK AT MOST 1048576: true; the input reads as it did. -/
def fnExactSetsValidUptoRow : OpenClaim := { program := "yticjoichmcegnaa", sum := "2bf061dcd01f4831584c6c9a8f841de9761563114933d75515761d033bff493a", func := "loop.example/dynamicbridges/laws.FnExactSetsValid", spec := "fnExactSetsValid", apart := false, narrowed := true }
def FnExactSetsValidUptoSaid : Prop := fnExactSetsValidUptoRow.holds Try.pinned (OpenSpec.upto fnExactSetsValidSpec)

/-- 'laws.FnUndoSets', WHERE WHAT IT READS IS OF BULK AT MOST 1048576: true; the input reads as it did. -/
def fnUndoSetsUptoRow : OpenClaim := { program := "yticjoichmcegnaa", sum := "2bf061dcd01f4831584c6c9a8f841de9761563114933d75515761d033bff493a", func := "loop.example/dynamicbridges/laws.FnUndoSets", spec := "fnUndoSets", apart := false, narrowed := true }
def FnUndoSetsUptoSaid : Prop := fnUndoSetsUptoRow.holds Try.pinned (OpenSpec.upto fnUndoSetsSpec)

/-- 'laws.FnUndoSum', WHERE WHAT IT READS IS OF BULK AT MOST 1048576: true; the input reads as it did. -/
def fnUndoSumUptoRow : OpenClaim := { program := "yticjoichmcegnaa", sum := "2bf061dcd01f4831584c6c9a8f841de9761563114933d75515761d033bff493a", func := "loop.example/dynamicbridges/laws.FnUndoSum", spec := "fnUndoSum", apart := false, narrowed := true }
def FnUndoSumUptoSaid : Prop := fnUndoSumUptoRow.holds Try.pinned (OpenSpec.upto fnUndoSumSpec)

/-- 'laws.FnExactSameBlock', WHERE WHAT IT READS IS OF BULK AT MOST 1048576: true; the input reads as it did. -/
def fnExactSameBlockUptoRow : OpenClaim := { program := "yticjoichmcegnaa", sum := "2bf061dcd01f4831584c6c9a8f841de9761563114933d75515761d033bff493a", func := "loop.example/dynamicbridges/laws.FnExactSameBlock", spec := "fnExactSameBlock", unfollowed := true, recurses := true, apart := false, narrowed := true }
def FnExactSameBlockUptoSaid : Prop := fnExactSameBlockUptoRow.holds Try.pinned (OpenSpec.upto fnExactSameBlockSpec)

/-- 'laws.FnExactUndoSets', WHERE WHAT IT READS IS OF BULK AT MOST 1048576: true; the input reads as it did. -/
def fnExactUndoSetsUptoRow : OpenClaim := { program := "yticjoichmcegnaa", sum := "2bf061dcd01f4831584c6c9a8f841de9761563114933d75515761d033bff493a", func := "loop.example/dynamicbridges/laws.FnExactUndoSets", spec := "fnExactUndoSets", apart := false, narrowed := true }
def FnExactUndoSetsUptoSaid : Prop := fnExactUndoSetsUptoRow.holds Try.pinned (OpenSpec.upto fnExactUndoSetsSpec)

/-- 'laws.FnNewLevels', WHERE WHAT IT READS IS OF BULK AT MOST 1048576: true; the input reads as it did. -/
def fnNewLevelsUptoRow : OpenClaim := { program := "yticjoichmcegnaa", sum := "2bf061dcd01f4831584c6c9a8f841de9761563114933d75515761d033bff493a", func := "loop.example/dynamicbridges/laws.FnNewLevels", spec := "fnNewLevels", inPlace := ["slices.overlaps[loop.example/dynamicbridges/impl.Edge]", "slices.overlaps[int]", "slices.overlaps[bool]"], unfollowed := true, recurses := true, apart := false, narrowed := true }
def FnNewLevelsUptoSaid : Prop := fnNewLevelsUptoRow.holds Try.pinned (OpenSpec.upto fnNewLevelsSpec)

/-- 'laws.FnBlocksOrder', WHERE WHAT IT READS IS OF BULK AT MOST 1048576: true; the input reads as it did. -/
def fnBlocksOrderUptoRow : OpenClaim := { program := "yticjoichmcegnaa", sum := "2bf061dcd01f4831584c6c9a8f841de9761563114933d75515761d033bff493a", func := "loop.example/dynamicbridges/laws.FnBlocksOrder", spec := "fnBlocksOrder", unfollowed := true, recurses := true, apart := false, narrowed := true }
def FnBlocksOrderUptoSaid : Prop := fnBlocksOrderUptoRow.holds Try.pinned (OpenSpec.upto fnBlocksOrderSpec)

/-- 'laws.FnSameBlock', WHERE WHAT IT READS IS OF BULK AT MOST 1048576: true; the input reads as it did. -/
def fnSameBlockUptoRow : OpenClaim := { program := "yticjoichmcegnaa", sum := "2bf061dcd01f4831584c6c9a8f841de9761563114933d75515761d033bff493a", func := "loop.example/dynamicbridges/laws.FnSameBlock", spec := "fnSameBlock", unfollowed := true, recurses := true, apart := false, narrowed := true }
def FnSameBlockUptoSaid : Prop := fnSameBlockUptoRow.holds Try.pinned (OpenSpec.upto fnSameBlockSpec)

/-- 'laws.FnExactBlocksOf', WHERE WHAT IT READS IS OF BULK AT MOST 1048576: true; the input reads as it did. -/
def fnExactBlocksOfUptoRow : OpenClaim := { program := "yticjoichmcegnaa", sum := "2bf061dcd01f4831584c6c9a8f841de9761563114933d75515761d033bff493a", func := "loop.example/dynamicbridges/laws.FnExactBlocksOf", spec := "fnExactBlocksOf", unfollowed := true, recurses := true, apart := false, narrowed := true }
def FnExactBlocksOfUptoSaid : Prop := fnExactBlocksOfUptoRow.holds Try.pinned (OpenSpec.upto fnExactBlocksOfSpec)

/-- 'laws.FnBlockBridge', WHERE WHAT IT READS IS OF BULK AT MOST 1048576: true; the input reads as it did. -/
def fnBlockBridgeUptoRow : OpenClaim := { program := "yticjoichmcegnaa", sum := "2bf061dcd01f4831584c6c9a8f841de9761563114933d75515761d033bff493a", func := "loop.example/dynamicbridges/laws.FnBlockBridge", spec := "fnBlockBridge", unfollowed := true, recurses := true, apart := false, narrowed := true }
def FnBlockBridgeUptoSaid : Prop := fnBlockBridgeUptoRow.holds Try.pinned (OpenSpec.upto fnBlockBridgeSpec)

end Rows
end Go.Proofs.Yticjoichmcegnaa
