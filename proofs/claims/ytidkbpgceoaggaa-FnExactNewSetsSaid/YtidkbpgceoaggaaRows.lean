/-
  No cell of these rows narrows 'for every input' (looked for: loops, veiled, ifaces, maps, wideKeys, modest, calm, conditions, laid).
  DERIVED. THE GIVEN ROWS OF THIS SEAT. 12 by the template 'for every input the law returns true; each argument reads behind the call as it read before'; 0 by the template 'total and deterministic' (their statements: YtidkbpgceoaggaaTotals.lean).
  GIVEN WITH THE SEED: the statements are not yours to turn. If you find one false, say at which input.
  Laid BY PROGRAM, IN A SANDBOX (cutbox-rows.mjs): the forced cells as the released guide's own fill.sh prints them over the translation 9faf197a8052ff8b… (all of the seat's roots in one cut). By AI agents, Wed Nov 11 2026. No macro, syntax, notation, axiom, sorry.
-/
import Derived.Test.YtidkbpgceoaggaaChecked
import GoSem.Claim
import GoSem.ClaimJoined
import GoSem.ClaimMapViews
import Derived.JoinedTies
import Derived.KernelRfl
namespace Go.Proofs.Ytidkbpgceoaggaa
/- THE CELL 'sum', in the pinned program and in every row, IS THE sha256 OF THE DUMP (.gsa) THAT YtidkbpgceoaggaaProg.lean LOADS. Nothing in Lean hashes anything: it is a label: what it is worth is what the hold of that sum in a sandbox is worth. -/
noncomputable def Try.pinned : Pinned := { name := "ytidkbpgceoaggaa", sum := "9faf197a8052ff8bdad4062ea9ccc4a9db9b2e74c1fcfbfc9b0bae5a0bc159de", checked := Try.checked }
namespace Rows
def none {H : Type} : Left H := { results := [], args := [] }

/-- 'laws.FnExactConstants': WHATEVER THE INPUT: true; the input reads as it did. -/
def fnExactConstantsSpec : ChangeSpec := { name := "fnExactConstants", fn := fun _ => fun
  | [] => { results := [.lit (.bool true)], args := [] }
  | _ => none }
def fnExactConstantsRow : OpenClaim := { program := "ytidkbpgceoaggaa", sum := "9faf197a8052ff8bdad4062ea9ccc4a9db9b2e74c1fcfbfc9b0bae5a0bc159de", func := "loop.example/dynamicbridges/laws.FnExactConstants", spec := "fnExactConstants", apart := false }
def FnExactConstantsSaid : Prop := fnExactConstantsRow.holds Try.pinned (OpenSpec.ofChange fnExactConstantsSpec)

/-- ITS FALSE NEIGHBOUR: 'it returns false'. Refute it at one input. -/
def fnExactConstantsWrong : ChangeSpec := { name := "fnExactConstants", fn := fun _ => fun
  | [] => { results := [.lit (.bool false)], args := [] }
  | _ => none }
def FnExactConstantsWrongFalsely : Prop := fnExactConstantsRow.holds Try.pinned (OpenSpec.ofChange fnExactConstantsWrong)

/-- 'laws.FnExactEdgeOf': WHATEVER THE INPUT: true; the input reads as it did. -/
def fnExactEdgeOfSpec : ChangeSpec := { name := "fnExactEdgeOf", fn := fun _ => fun
  | [d1, d2] => { results := [.lit (.bool true)], args := [d1, d2] }
  | _ => none }
def fnExactEdgeOfRow : OpenClaim := { program := "ytidkbpgceoaggaa", sum := "9faf197a8052ff8bdad4062ea9ccc4a9db9b2e74c1fcfbfc9b0bae5a0bc159de", func := "loop.example/dynamicbridges/laws.FnExactEdgeOf", spec := "fnExactEdgeOf", apart := false }
def FnExactEdgeOfSaid : Prop := fnExactEdgeOfRow.holds Try.pinned (OpenSpec.ofChange fnExactEdgeOfSpec)

/-- ITS FALSE NEIGHBOUR: 'it returns false'. Refute it at one input. -/
def fnExactEdgeOfWrong : ChangeSpec := { name := "fnExactEdgeOf", fn := fun _ => fun
  | [d1, d2] => { results := [.lit (.bool false)], args := [d1, d2] }
  | _ => none }
def FnExactEdgeOfWrongFalsely : Prop := fnExactEdgeOfRow.holds Try.pinned (OpenSpec.ofChange fnExactEdgeOfWrong)

/-- 'laws.FnEdgeOf': WHATEVER THE INPUT: true; the input reads as it did. -/
def fnEdgeOfSpec : ChangeSpec := { name := "fnEdgeOf", fn := fun _ => fun
  | [d] => { results := [.lit (.bool true)], args := [d] }
  | _ => none }
def fnEdgeOfRow : OpenClaim := { program := "ytidkbpgceoaggaa", sum := "9faf197a8052ff8bdad4062ea9ccc4a9db9b2e74c1fcfbfc9b0bae5a0bc159de", func := "loop.example/dynamicbridges/laws.FnEdgeOf", spec := "fnEdgeOf", apart := false }
def FnEdgeOfSaid : Prop := fnEdgeOfRow.holds Try.pinned (OpenSpec.ofChange fnEdgeOfSpec)

/-- ITS FALSE NEIGHBOUR: 'it returns false'. Refute it at one input. -/
def fnEdgeOfWrong : ChangeSpec := { name := "fnEdgeOf", fn := fun _ => fun
  | [d] => { results := [.lit (.bool false)], args := [d] }
  | _ => none }
def FnEdgeOfWrongFalsely : Prop := fnEdgeOfRow.holds Try.pinned (OpenSpec.ofChange fnEdgeOfWrong)

/-- 'laws.FnExactGraphSame': WHATEVER THE INPUT: true; the input reads as it did. -/
def fnExactGraphSameSpec : ChangeSpec := { name := "fnExactGraphSame", fn := fun _ => fun
  | [d1, d2] => { results := [.lit (.bool true)], args := [d1, d2] }
  | _ => none }
def fnExactGraphSameRow : OpenClaim := { program := "ytidkbpgceoaggaa", sum := "9faf197a8052ff8bdad4062ea9ccc4a9db9b2e74c1fcfbfc9b0bae5a0bc159de", func := "loop.example/dynamicbridges/laws.FnExactGraphSame", spec := "fnExactGraphSame", apart := false }
def FnExactGraphSameSaid : Prop := fnExactGraphSameRow.holds Try.pinned (OpenSpec.ofChange fnExactGraphSameSpec)

/-- ITS FALSE NEIGHBOUR: 'it returns false'. Refute it at one input. -/
def fnExactGraphSameWrong : ChangeSpec := { name := "fnExactGraphSame", fn := fun _ => fun
  | [d1, d2] => { results := [.lit (.bool false)], args := [d1, d2] }
  | _ => none }
def FnExactGraphSameWrongFalsely : Prop := fnExactGraphSameRow.holds Try.pinned (OpenSpec.ofChange fnExactGraphSameWrong)

/-- 'laws.FnExactGraphValid': WHATEVER THE INPUT: true; the input reads as it did. -/
def fnExactGraphValidSpec : ChangeSpec := { name := "fnExactGraphValid", fn := fun _ => fun
  | [d] => { results := [.lit (.bool true)], args := [d] }
  | _ => none }
def fnExactGraphValidRow : OpenClaim := { program := "ytidkbpgceoaggaa", sum := "9faf197a8052ff8bdad4062ea9ccc4a9db9b2e74c1fcfbfc9b0bae5a0bc159de", func := "loop.example/dynamicbridges/laws.FnExactGraphValid", spec := "fnExactGraphValid", apart := false }
def FnExactGraphValidSaid : Prop := fnExactGraphValidRow.holds Try.pinned (OpenSpec.ofChange fnExactGraphValidSpec)

/-- ITS FALSE NEIGHBOUR: 'it returns false'. Refute it at one input. -/
def fnExactGraphValidWrong : ChangeSpec := { name := "fnExactGraphValid", fn := fun _ => fun
  | [d] => { results := [.lit (.bool false)], args := [d] }
  | _ => none }
def FnExactGraphValidWrongFalsely : Prop := fnExactGraphValidRow.holds Try.pinned (OpenSpec.ofChange fnExactGraphValidWrong)

/-- 'laws.FnExactHasEdge': WHATEVER THE INPUT: true; the input reads as it did. -/
def fnExactHasEdgeSpec : ChangeSpec := { name := "fnExactHasEdge", fn := fun _ => fun
  | [d1, d2] => { results := [.lit (.bool true)], args := [d1, d2] }
  | _ => none }
def fnExactHasEdgeRow : OpenClaim := { program := "ytidkbpgceoaggaa", sum := "9faf197a8052ff8bdad4062ea9ccc4a9db9b2e74c1fcfbfc9b0bae5a0bc159de", func := "loop.example/dynamicbridges/laws.FnExactHasEdge", spec := "fnExactHasEdge", apart := false }
def FnExactHasEdgeSaid : Prop := fnExactHasEdgeRow.holds Try.pinned (OpenSpec.ofChange fnExactHasEdgeSpec)

/-- ITS FALSE NEIGHBOUR: 'it returns false'. Refute it at one input. -/
def fnExactHasEdgeWrong : ChangeSpec := { name := "fnExactHasEdge", fn := fun _ => fun
  | [d1, d2] => { results := [.lit (.bool false)], args := [d1, d2] }
  | _ => none }
def FnExactHasEdgeWrongFalsely : Prop := fnExactHasEdgeRow.holds Try.pinned (OpenSpec.ofChange fnExactHasEdgeWrong)

/-- 'laws.FnExactNewLevels': WHATEVER THE INPUT: true; the input reads as it did. -/
def fnExactNewLevelsSpec : ChangeSpec := { name := "fnExactNewLevels", fn := fun _ => fun
  | [d] => { results := [.lit (.bool true)], args := [d] }
  | _ => none }
def fnExactNewLevelsRow : OpenClaim := { program := "ytidkbpgceoaggaa", sum := "9faf197a8052ff8bdad4062ea9ccc4a9db9b2e74c1fcfbfc9b0bae5a0bc159de", func := "loop.example/dynamicbridges/laws.FnExactNewLevels", spec := "fnExactNewLevels", apart := false }
def FnExactNewLevelsSaid : Prop := fnExactNewLevelsRow.holds Try.pinned (OpenSpec.ofChange fnExactNewLevelsSpec)

/-- ITS FALSE NEIGHBOUR: 'it returns false'. Refute it at one input. -/
def fnExactNewLevelsWrong : ChangeSpec := { name := "fnExactNewLevels", fn := fun _ => fun
  | [d] => { results := [.lit (.bool false)], args := [d] }
  | _ => none }
def FnExactNewLevelsWrongFalsely : Prop := fnExactNewLevelsRow.holds Try.pinned (OpenSpec.ofChange fnExactNewLevelsWrong)

/-- 'laws.FnExactNewSets': WHATEVER THE INPUT: true; the input reads as it did. -/
def fnExactNewSetsSpec : ChangeSpec := { name := "fnExactNewSets", fn := fun _ => fun
  | [d] => { results := [.lit (.bool true)], args := [d] }
  | _ => none }
def fnExactNewSetsRow : OpenClaim := { program := "ytidkbpgceoaggaa", sum := "9faf197a8052ff8bdad4062ea9ccc4a9db9b2e74c1fcfbfc9b0bae5a0bc159de", func := "loop.example/dynamicbridges/laws.FnExactNewSets", spec := "fnExactNewSets", apart := false }
def FnExactNewSetsSaid : Prop := fnExactNewSetsRow.holds Try.pinned (OpenSpec.ofChange fnExactNewSetsSpec)

/-- ITS FALSE NEIGHBOUR: 'it returns false'. Refute it at one input. -/
def fnExactNewSetsWrong : ChangeSpec := { name := "fnExactNewSets", fn := fun _ => fun
  | [d] => { results := [.lit (.bool false)], args := [d] }
  | _ => none }
def FnExactNewSetsWrongFalsely : Prop := fnExactNewSetsRow.holds Try.pinned (OpenSpec.ofChange fnExactNewSetsWrong)

/-- 'laws.FnHasEdge': WHATEVER THE INPUT: true; the input reads as it did. -/
def fnHasEdgeSpec : ChangeSpec := { name := "fnHasEdge", fn := fun _ => fun
  | [d] => { results := [.lit (.bool true)], args := [d] }
  | _ => none }
def fnHasEdgeRow : OpenClaim := { program := "ytidkbpgceoaggaa", sum := "9faf197a8052ff8bdad4062ea9ccc4a9db9b2e74c1fcfbfc9b0bae5a0bc159de", func := "loop.example/dynamicbridges/laws.FnHasEdge", spec := "fnHasEdge", apart := false }
def FnHasEdgeSaid : Prop := fnHasEdgeRow.holds Try.pinned (OpenSpec.ofChange fnHasEdgeSpec)

/-- ITS FALSE NEIGHBOUR: 'it returns false'. Refute it at one input. -/
def fnHasEdgeWrong : ChangeSpec := { name := "fnHasEdge", fn := fun _ => fun
  | [d] => { results := [.lit (.bool false)], args := [d] }
  | _ => none }
def FnHasEdgeWrongFalsely : Prop := fnHasEdgeRow.holds Try.pinned (OpenSpec.ofChange fnHasEdgeWrong)

/-- 'laws.FnExactPartCount': WHATEVER THE INPUT: true; the input reads as it did. -/
def fnExactPartCountSpec : ChangeSpec := { name := "fnExactPartCount", fn := fun _ => fun
  | [d] => { results := [.lit (.bool true)], args := [d] }
  | _ => none }
def fnExactPartCountRow : OpenClaim := { program := "ytidkbpgceoaggaa", sum := "9faf197a8052ff8bdad4062ea9ccc4a9db9b2e74c1fcfbfc9b0bae5a0bc159de", func := "loop.example/dynamicbridges/laws.FnExactPartCount", spec := "fnExactPartCount", apart := false }
def FnExactPartCountSaid : Prop := fnExactPartCountRow.holds Try.pinned (OpenSpec.ofChange fnExactPartCountSpec)

/-- ITS FALSE NEIGHBOUR: 'it returns false'. Refute it at one input. -/
def fnExactPartCountWrong : ChangeSpec := { name := "fnExactPartCount", fn := fun _ => fun
  | [d] => { results := [.lit (.bool false)], args := [d] }
  | _ => none }
def FnExactPartCountWrongFalsely : Prop := fnExactPartCountRow.holds Try.pinned (OpenSpec.ofChange fnExactPartCountWrong)

/-- 'laws.FnExactPartsOf': WHATEVER THE INPUT: true; the input reads as it did. -/
def fnExactPartsOfSpec : ChangeSpec := { name := "fnExactPartsOf", fn := fun _ => fun
  | [d] => { results := [.lit (.bool true)], args := [d] }
  | _ => none }
def fnExactPartsOfRow : OpenClaim := { program := "ytidkbpgceoaggaa", sum := "9faf197a8052ff8bdad4062ea9ccc4a9db9b2e74c1fcfbfc9b0bae5a0bc159de", func := "loop.example/dynamicbridges/laws.FnExactPartsOf", spec := "fnExactPartsOf", apart := false }
def FnExactPartsOfSaid : Prop := fnExactPartsOfRow.holds Try.pinned (OpenSpec.ofChange fnExactPartsOfSpec)

/-- ITS FALSE NEIGHBOUR: 'it returns false'. Refute it at one input. -/
def fnExactPartsOfWrong : ChangeSpec := { name := "fnExactPartsOf", fn := fun _ => fun
  | [d] => { results := [.lit (.bool false)], args := [d] }
  | _ => none }
def FnExactPartsOfWrongFalsely : Prop := fnExactPartsOfRow.holds Try.pinned (OpenSpec.ofChange fnExactPartsOfWrong)

/-- 'laws.FnGraphParts': WHATEVER THE INPUT: true; the input reads as it did. -/
def fnGraphPartsSpec : ChangeSpec := { name := "fnGraphParts", fn := fun _ => fun
  | [d] => { results := [.lit (.bool true)], args := [d] }
  | _ => none }
def fnGraphPartsRow : OpenClaim := { program := "ytidkbpgceoaggaa", sum := "9faf197a8052ff8bdad4062ea9ccc4a9db9b2e74c1fcfbfc9b0bae5a0bc159de", func := "loop.example/dynamicbridges/laws.FnGraphParts", spec := "fnGraphParts", unfollowed := true, recurses := true, apart := false }
def FnGraphPartsSaid : Prop := fnGraphPartsRow.holds Try.pinned (OpenSpec.ofChange fnGraphPartsSpec)

/-- ITS FALSE NEIGHBOUR: 'it returns false'. Refute it at one input. -/
def fnGraphPartsWrong : ChangeSpec := { name := "fnGraphParts", fn := fun _ => fun
  | [d] => { results := [.lit (.bool false)], args := [d] }
  | _ => none }
def FnGraphPartsWrongFalsely : Prop := fnGraphPartsRow.holds Try.pinned (OpenSpec.ofChange fnGraphPartsWrong)

/- THE SECOND FORM. 'bulk': how many values and letters a reading holds, each counted each time it is reached (what is shared counts as often as it is met; a slice's spare places count too). A statement '..UptoSaid' is the law's where the arguments, and the package variables that the reading takes, are together of bulk at most 1048576: NARROWER than '..Said'. Prove '..Said' where nothing that the law and all that it calls make is longer than what came in: it says more and counts as full. Else prove '..UptoSaid'. A law counts once. -/
mutual
def uptoBulk {H : Type} : DataW H → Nat
  | .lit (.string bytes) => bytes.length + 1
  | .lit _ => 1
  | .nil => 1
  | .ptr d => uptoBulk d + 1
  | .slice elems spare => uptoBulkAll elems + uptoBulkAll spare + 1
  | .agg parts => uptoBulkAll parts + 1
  | .iface _ d => uptoBulk d + 1
  | .map entries => uptoBulkEntries entries + 1
  | .held _ => 1
def uptoBulkAll {H : Type} : List (DataW H) → Nat
  | [] => 0
  | d :: r => uptoBulk d + uptoBulkAll r
def uptoBulkEntries {H : Type} : List (Lit × DataW H) → Nat
  | [] => 0
  | x :: r => uptoBulkEntry x + uptoBulkEntries r
def uptoBulkEntry {H : Type} : Lit × DataW H → Nat
  | (.string bytes, d) => bytes.length + uptoBulk d + 1
  | (_, d) => uptoBulk d + 1
 end
def uptoSmall : (H : Type) → List (DataW H) → Bool := fun _ ds => decide (uptoBulkAll ds ≤ 1048576)
def OpenSpec.upto (s : _root_.Go.ChangeSpec) : _root_.Go.OpenSpec := { _root_.Go.OpenSpec.ofChange s with cond := some uptoSmall }

/-- 'laws.FnExactConstants', WHERE WHAT IT READS IS OF BULK AT MOST 1048576: true; the input reads as it did. -/
def fnExactConstantsUptoRow : OpenClaim := { program := "ytidkbpgceoaggaa", sum := "9faf197a8052ff8bdad4062ea9ccc4a9db9b2e74c1fcfbfc9b0bae5a0bc159de", func := "loop.example/dynamicbridges/laws.FnExactConstants", spec := "fnExactConstants", apart := false, narrowed := true }
def FnExactConstantsUptoSaid : Prop := fnExactConstantsUptoRow.holds Try.pinned (OpenSpec.upto fnExactConstantsSpec)

/-- 'laws.FnExactEdgeOf', WHERE WHAT IT READS IS OF BULK AT MOST 1048576: true; the input reads as it did. -/
def fnExactEdgeOfUptoRow : OpenClaim := { program := "ytidkbpgceoaggaa", sum := "9faf197a8052ff8bdad4062ea9ccc4a9db9b2e74c1fcfbfc9b0bae5a0bc159de", func := "loop.example/dynamicbridges/laws.FnExactEdgeOf", spec := "fnExactEdgeOf", apart := false, narrowed := true }
def FnExactEdgeOfUptoSaid : Prop := fnExactEdgeOfUptoRow.holds Try.pinned (OpenSpec.upto fnExactEdgeOfSpec)

/-- 'laws.FnEdgeOf', WHERE WHAT IT READS IS OF BULK AT MOST 1048576: true; the input reads as it did. -/
def fnEdgeOfUptoRow : OpenClaim := { program := "ytidkbpgceoaggaa", sum := "9faf197a8052ff8bdad4062ea9ccc4a9db9b2e74c1fcfbfc9b0bae5a0bc159de", func := "loop.example/dynamicbridges/laws.FnEdgeOf", spec := "fnEdgeOf", apart := false, narrowed := true }
def FnEdgeOfUptoSaid : Prop := fnEdgeOfUptoRow.holds Try.pinned (OpenSpec.upto fnEdgeOfSpec)

/-- 'laws.FnExactGraphSame', WHERE WHAT IT READS IS OF BULK AT MOST 1048576: true; the input reads as it did. -/
def fnExactGraphSameUptoRow : OpenClaim := { program := "ytidkbpgceoaggaa", sum := "9faf197a8052ff8bdad4062ea9ccc4a9db9b2e74c1fcfbfc9b0bae5a0bc159de", func := "loop.example/dynamicbridges/laws.FnExactGraphSame", spec := "fnExactGraphSame", apart := false, narrowed := true }
def FnExactGraphSameUptoSaid : Prop := fnExactGraphSameUptoRow.holds Try.pinned (OpenSpec.upto fnExactGraphSameSpec)

/-- 'laws.FnExactGraphValid', WHERE WHAT IT READS IS OF BULK AT MOST 1048576: true; the input reads as it did. -/
def fnExactGraphValidUptoRow : OpenClaim := { program := "ytidkbpgceoaggaa", sum := "9faf197a8052ff8bdad4062ea9ccc4a9db9b2e74c1fcfbfc9b0bae5a0bc159de", func := "loop.example/dynamicbridges/laws.FnExactGraphValid", spec := "fnExactGraphValid", apart := false, narrowed := true }
def FnExactGraphValidUptoSaid : Prop := fnExactGraphValidUptoRow.holds Try.pinned (OpenSpec.upto fnExactGraphValidSpec)

/-- 'laws.FnExactHasEdge', WHERE WHAT IT READS IS OF BULK AT MOST 1048576: true; the input reads as it did. -/
def fnExactHasEdgeUptoRow : OpenClaim := { program := "ytidkbpgceoaggaa", sum := "9faf197a8052ff8bdad4062ea9ccc4a9db9b2e74c1fcfbfc9b0bae5a0bc159de", func := "loop.example/dynamicbridges/laws.FnExactHasEdge", spec := "fnExactHasEdge", apart := false, narrowed := true }
def FnExactHasEdgeUptoSaid : Prop := fnExactHasEdgeUptoRow.holds Try.pinned (OpenSpec.upto fnExactHasEdgeSpec)

/-- 'laws.FnExactNewLevels', WHERE WHAT IT READS IS OF BULK AT MOST 1048576: true; the input reads as it did. -/
def fnExactNewLevelsUptoRow : OpenClaim := { program := "ytidkbpgceoaggaa", sum := "9faf197a8052ff8bdad4062ea9ccc4a9db9b2e74c1fcfbfc9b0bae5a0bc159de", func := "loop.example/dynamicbridges/laws.FnExactNewLevels", spec := "fnExactNewLevels", apart := false, narrowed := true }
def FnExactNewLevelsUptoSaid : Prop := fnExactNewLevelsUptoRow.holds Try.pinned (OpenSpec.upto fnExactNewLevelsSpec)

/-- 'laws.FnExactNewSets', WHERE WHAT IT READS IS OF BULK AT MOST 1048576: true; the input reads as it did. -/
def fnExactNewSetsUptoRow : OpenClaim := { program := "ytidkbpgceoaggaa", sum := "9faf197a8052ff8bdad4062ea9ccc4a9db9b2e74c1fcfbfc9b0bae5a0bc159de", func := "loop.example/dynamicbridges/laws.FnExactNewSets", spec := "fnExactNewSets", apart := false, narrowed := true }
def FnExactNewSetsUptoSaid : Prop := fnExactNewSetsUptoRow.holds Try.pinned (OpenSpec.upto fnExactNewSetsSpec)

/-- 'laws.FnHasEdge', WHERE WHAT IT READS IS OF BULK AT MOST 1048576: true; the input reads as it did. -/
def fnHasEdgeUptoRow : OpenClaim := { program := "ytidkbpgceoaggaa", sum := "9faf197a8052ff8bdad4062ea9ccc4a9db9b2e74c1fcfbfc9b0bae5a0bc159de", func := "loop.example/dynamicbridges/laws.FnHasEdge", spec := "fnHasEdge", apart := false, narrowed := true }
def FnHasEdgeUptoSaid : Prop := fnHasEdgeUptoRow.holds Try.pinned (OpenSpec.upto fnHasEdgeSpec)

/-- 'laws.FnExactPartCount', WHERE WHAT IT READS IS OF BULK AT MOST 1048576: true; the input reads as it did. -/
def fnExactPartCountUptoRow : OpenClaim := { program := "ytidkbpgceoaggaa", sum := "9faf197a8052ff8bdad4062ea9ccc4a9db9b2e74c1fcfbfc9b0bae5a0bc159de", func := "loop.example/dynamicbridges/laws.FnExactPartCount", spec := "fnExactPartCount", apart := false, narrowed := true }
def FnExactPartCountUptoSaid : Prop := fnExactPartCountUptoRow.holds Try.pinned (OpenSpec.upto fnExactPartCountSpec)

/-- 'laws.FnExactPartsOf', WHERE WHAT IT READS IS OF BULK AT MOST 1048576: true; the input reads as it did. -/
def fnExactPartsOfUptoRow : OpenClaim := { program := "ytidkbpgceoaggaa", sum := "9faf197a8052ff8bdad4062ea9ccc4a9db9b2e74c1fcfbfc9b0bae5a0bc159de", func := "loop.example/dynamicbridges/laws.FnExactPartsOf", spec := "fnExactPartsOf", apart := false, narrowed := true }
def FnExactPartsOfUptoSaid : Prop := fnExactPartsOfUptoRow.holds Try.pinned (OpenSpec.upto fnExactPartsOfSpec)

/-- 'laws.FnGraphParts', WHERE WHAT IT READS IS OF BULK AT MOST 1048576: true; the input reads as it did. -/
def fnGraphPartsUptoRow : OpenClaim := { program := "ytidkbpgceoaggaa", sum := "9faf197a8052ff8bdad4062ea9ccc4a9db9b2e74c1fcfbfc9b0bae5a0bc159de", func := "loop.example/dynamicbridges/laws.FnGraphParts", spec := "fnGraphParts", unfollowed := true, recurses := true, apart := false, narrowed := true }
def FnGraphPartsUptoSaid : Prop := fnGraphPartsUptoRow.holds Try.pinned (OpenSpec.upto fnGraphPartsSpec)

end Rows
end Go.Proofs.Ytidkbpgceoaggaa
