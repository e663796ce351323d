/-
  No cell of these rows narrows 'for every input' (looked for: loops, veiled, ifaces, maps, wideKeys, modest, calm, conditions, laid).
  DERIVED. THE GIVEN ROWS OF THIS SEAT. 6 by the template 'for every input the law returns true; each argument reads behind the call as it read before'; 0 by the template 'total and deterministic' (their statements: YtjchabeiaajgiaaTotals.lean).
  GIVEN WITH THE SEED: the statements are not yours to turn. If you find one false, say at which input.
  Laid BY PROGRAM, IN A SANDBOX (cutbox-rows.mjs): the forced cells as the released guide's own fill.sh prints them over the translation e80570e43785d3f6… (all of the seat's roots in one cut). By AI agents, Wed Nov 11 2026. No macro, syntax, notation, axiom, sorry.
-/
import Derived.Test.YtjchabeiaajgiaaChecked
import GoSem.Claim
import GoSem.ClaimJoined
import GoSem.ClaimMapViews
import Derived.JoinedTies
import Derived.KernelRfl
namespace Go.Proofs.Ytjchabeiaajgiaa
/- THE CELL 'sum', in the pinned program and in every row, IS THE sha256 OF THE DUMP (.gsa) THAT YtjchabeiaajgiaaProg.lean LOADS. Nothing in Lean hashes anything: it is a label: what it is worth is what the hold of that sum in a sandbox is worth. -/
noncomputable def Try.pinned : Pinned := { name := "ytjchabeiaajgiaa", sum := "e80570e43785d3f672e85559f932684cb64c6e3aed1c1eadb0ce138990b8f0df", checked := Try.checked }
namespace Rows
def none {H : Type} : Left H := { results := [], args := [] }

/-- 'laws.FnNewLevels': WHATEVER THE INPUT: true; the input reads as it did. -/
def fnNewLevelsSpec : ChangeSpec := { name := "fnNewLevels", fn := fun _ => fun
  | [d] => { results := [.lit (.bool true)], args := [d] }
  | _ => none }
def fnNewLevelsRow : OpenClaim := { program := "ytjchabeiaajgiaa", sum := "e80570e43785d3f672e85559f932684cb64c6e3aed1c1eadb0ce138990b8f0df", func := "loop.example/dynamicbridges/laws.FnNewLevels", spec := "fnNewLevels", inPlace := ["slices.overlaps[loop.example/dynamicbridges/impl.Edge]", "slices.overlaps[int]", "slices.overlaps[bool]"], unfollowed := true, recurses := true, apart := false }
def FnNewLevelsSaid : Prop := fnNewLevelsRow.holds Try.pinned (OpenSpec.ofChange fnNewLevelsSpec)

/-- ITS FALSE NEIGHBOUR: 'it returns false'. Refute it at one input. -/
def fnNewLevelsWrong : ChangeSpec := { name := "fnNewLevels", fn := fun _ => fun
  | [d] => { results := [.lit (.bool false)], args := [d] }
  | _ => none }
def FnNewLevelsWrongFalsely : Prop := fnNewLevelsRow.holds Try.pinned (OpenSpec.ofChange fnNewLevelsWrong)

/-- 'laws.FnExactSearchOf': WHATEVER THE INPUT: true; the input reads as it did. -/
def fnExactSearchOfSpec : ChangeSpec := { name := "fnExactSearchOf", fn := fun _ => fun
  | [d] => { results := [.lit (.bool true)], args := [d] }
  | _ => none }
def fnExactSearchOfRow : OpenClaim := { program := "ytjchabeiaajgiaa", sum := "e80570e43785d3f672e85559f932684cb64c6e3aed1c1eadb0ce138990b8f0df", func := "loop.example/dynamicbridges/laws.FnExactSearchOf", spec := "fnExactSearchOf", recurses := true, apart := false }
def FnExactSearchOfSaid : Prop := fnExactSearchOfRow.holds Try.pinned (OpenSpec.ofChange fnExactSearchOfSpec)

/-- ITS FALSE NEIGHBOUR: 'it returns false'. Refute it at one input. -/
def fnExactSearchOfWrong : ChangeSpec := { name := "fnExactSearchOf", fn := fun _ => fun
  | [d] => { results := [.lit (.bool false)], args := [d] }
  | _ => none }
def FnExactSearchOfWrongFalsely : Prop := fnExactSearchOfRow.holds Try.pinned (OpenSpec.ofChange fnExactSearchOfWrong)

/-- 'laws.FnSearchOf': WHATEVER THE INPUT: true; the input reads as it did. -/
def fnSearchOfSpec : ChangeSpec := { name := "fnSearchOf", fn := fun _ => fun
  | [d] => { results := [.lit (.bool true)], args := [d] }
  | _ => none }
def fnSearchOfRow : OpenClaim := { program := "ytjchabeiaajgiaa", sum := "e80570e43785d3f672e85559f932684cb64c6e3aed1c1eadb0ce138990b8f0df", func := "loop.example/dynamicbridges/laws.FnSearchOf", spec := "fnSearchOf", recurses := true, apart := false }
def FnSearchOfSaid : Prop := fnSearchOfRow.holds Try.pinned (OpenSpec.ofChange fnSearchOfSpec)

/-- ITS FALSE NEIGHBOUR: 'it returns false'. Refute it at one input. -/
def fnSearchOfWrong : ChangeSpec := { name := "fnSearchOf", fn := fun _ => fun
  | [d] => { results := [.lit (.bool false)], args := [d] }
  | _ => none }
def FnSearchOfWrongFalsely : Prop := fnSearchOfRow.holds Try.pinned (OpenSpec.ofChange fnSearchOfWrong)

/-- 'laws.FnBridgesOf': WHATEVER THE INPUT: true; the input reads as it did. -/
def fnBridgesOfSpec : ChangeSpec := { name := "fnBridgesOf", fn := fun _ => fun
  | [d] => { results := [.lit (.bool true)], args := [d] }
  | _ => none }
def fnBridgesOfRow : OpenClaim := { program := "ytjchabeiaajgiaa", sum := "e80570e43785d3f672e85559f932684cb64c6e3aed1c1eadb0ce138990b8f0df", func := "loop.example/dynamicbridges/laws.FnBridgesOf", spec := "fnBridgesOf", unfollowed := true, recurses := true, apart := false }
def FnBridgesOfSaid : Prop := fnBridgesOfRow.holds Try.pinned (OpenSpec.ofChange fnBridgesOfSpec)

/-- ITS FALSE NEIGHBOUR: 'it returns false'. Refute it at one input. -/
def fnBridgesOfWrong : ChangeSpec := { name := "fnBridgesOf", fn := fun _ => fun
  | [d] => { results := [.lit (.bool false)], args := [d] }
  | _ => none }
def FnBridgesOfWrongFalsely : Prop := fnBridgesOfRow.holds Try.pinned (OpenSpec.ofChange fnBridgesOfWrong)

/-- 'laws.FnExactBridgeTree': WHATEVER THE INPUT: true; the input reads as it did. -/
def fnExactBridgeTreeSpec : ChangeSpec := { name := "fnExactBridgeTree", fn := fun _ => fun
  | [d] => { results := [.lit (.bool true)], args := [d] }
  | _ => none }
def fnExactBridgeTreeRow : OpenClaim := { program := "ytjchabeiaajgiaa", sum := "e80570e43785d3f672e85559f932684cb64c6e3aed1c1eadb0ce138990b8f0df", func := "loop.example/dynamicbridges/laws.FnExactBridgeTree", spec := "fnExactBridgeTree", unfollowed := true, recurses := true, apart := false }
def FnExactBridgeTreeSaid : Prop := fnExactBridgeTreeRow.holds Try.pinned (OpenSpec.ofChange fnExactBridgeTreeSpec)

/-- ITS FALSE NEIGHBOUR: 'it returns false'. Refute it at one input. -/
def fnExactBridgeTreeWrong : ChangeSpec := { name := "fnExactBridgeTree", fn := fun _ => fun
  | [d] => { results := [.lit (.bool false)], args := [d] }
  | _ => none }
def FnExactBridgeTreeWrongFalsely : Prop := fnExactBridgeTreeRow.holds Try.pinned (OpenSpec.ofChange fnExactBridgeTreeWrong)

/-- 'laws.FnLeafBlocks': WHATEVER THE INPUT: true; the input reads as it did. -/
def fnLeafBlocksSpec : ChangeSpec := { name := "fnLeafBlocks", fn := fun _ => fun
  | [d] => { results := [.lit (.bool true)], args := [d] }
  | _ => none }
def fnLeafBlocksRow : OpenClaim := { program := "ytjchabeiaajgiaa", sum := "e80570e43785d3f672e85559f932684cb64c6e3aed1c1eadb0ce138990b8f0df", func := "loop.example/dynamicbridges/laws.FnLeafBlocks", spec := "fnLeafBlocks", unfollowed := true, recurses := true, apart := false }
def FnLeafBlocksSaid : Prop := fnLeafBlocksRow.holds Try.pinned (OpenSpec.ofChange fnLeafBlocksSpec)

/-- ITS FALSE NEIGHBOUR: 'it returns false'. Refute it at one input. -/
def fnLeafBlocksWrong : ChangeSpec := { name := "fnLeafBlocks", fn := fun _ => fun
  | [d] => { results := [.lit (.bool false)], args := [d] }
  | _ => none }
def FnLeafBlocksWrongFalsely : Prop := fnLeafBlocksRow.holds Try.pinned (OpenSpec.ofChange fnLeafBlocksWrong)

/- THE SECOND FORM. 'bulk': how many values and letters a reading holds, each counted each time it is reached (what is shared counts as often as it is met; a slice's spare places count too). A statement '..UptoSaid' is the law's where the arguments, and the package variables that the reading takes, are together of bulk at most 1048576: NARROWER than '..Said'. Prove '..Said' where nothing that the law and all that it calls make is longer than what came in: it says more and counts as full. Else prove '..UptoSaid'. A law counts once. -/
mutual
def uptoBulk {H : Type} : DataW H → Nat
  | .lit (.string bytes) => bytes.length + 1
  | .lit _ => 1
  | .nil => 1
  | .ptr d => uptoBulk d + 1
  | .slice elems spare => uptoBulkAll elems + uptoBulkAll spare + 1
  | .agg parts => uptoBulkAll parts + 1
  | .iface _ d => uptoBulk d + 1
  | .map entries => uptoBulkEntries entries + 1
  | .held _ => 1
def uptoBulkAll {H : Type} : List (DataW H) → Nat
  | [] => 0
  | d :: r => uptoBulk d + uptoBulkAll r
def uptoBulkEntries {H : Type} : List (Lit × DataW H) → Nat
  | [] => 0
  | x :: r => uptoBulkEntry x + uptoBulkEntries r
def uptoBulkEntry {H : Type} : Lit × DataW H → Nat
  | (.string bytes, d) => bytes.length + uptoBulk d + 1
  | (_, d) => uptoBulk d + 1
 end
def uptoSmall : (H : Type) → List (DataW H) → Bool := fun _ ds => decide (uptoBulkAll ds ≤ 1048576)
def OpenSpec.upto (s : _root_.Go.ChangeSpec) : _root_.Go.OpenSpec := { _root_.Go.OpenSpec.ofChange s with cond := some uptoSmall }

/-- 'laws.FnNewLevels', WHERE WHAT IT READS IS OF BULK AT MOST 1048576: true; the input reads as it did. -/
def fnNewLevelsUptoRow : OpenClaim := { program := "ytjchabeiaajgiaa", sum := "e80570e43785d3f672e85559f932684cb64c6e3aed1c1eadb0ce138990b8f0df", func := "loop.example/dynamicbridges/laws.FnNewLevels", spec := "fnNewLevels", inPlace := ["slices.overlaps[loop.example/dynamicbridges/impl.Edge]", "slices.overlaps[int]", "slices.overlaps[bool]"], unfollowed := true, recurses := true, apart := false, narrowed := true }
def FnNewLevelsUptoSaid : Prop := fnNewLevelsUptoRow.holds Try.pinned (OpenSpec.upto fnNewLevelsSpec)

/-- 'laws.FnExactSearchOf', WHERE WHAT IT READS IS OF BULK AT MOST 1048576: true; the input reads as it did. -/
def fnExactSearchOfUptoRow : OpenClaim := { program := "ytjchabeiaajgiaa", sum := "e80570e43785d3f672e85559f932684cb64c6e3aed1c1eadb0ce138990b8f0df", func := "loop.example/dynamicbridges/laws.FnExactSearchOf", spec := "fnExactSearchOf", recurses := true, apart := false, narrowed := true }
def FnExactSearchOfUptoSaid : Prop := fnExactSearchOfUptoRow.holds Try.pinned (OpenSpec.upto fnExactSearchOfSpec)

/-- 'laws.FnSearchOf', WHERE WHAT IT READS IS OF BULK AT MOST 1048576: true; the input reads as it did. -/
def fnSearchOfUptoRow : OpenClaim := { program := "ytjchabeiaajgiaa", sum := "e80570e43785d3f672e85559f932684cb64c6e3aed1c1eadb0ce138990b8f0df", func := "loop.example/dynamicbridges/laws.FnSearchOf", spec := "fnSearchOf", recurses := true, apart := false, narrowed := true }
def FnSearchOfUptoSaid : Prop := fnSearchOfUptoRow.holds Try.pinned (OpenSpec.upto fnSearchOfSpec)

/-- 'laws.FnBridgesOf', WHERE WHAT IT READS IS OF BULK AT MOST 1048576: true; the input reads as it did. -/
def fnBridgesOfUptoRow : OpenClaim := { program := "ytjchabeiaajgiaa", sum := "e80570e43785d3f672e85559f932684cb64c6e3aed1c1eadb0ce138990b8f0df", func := "loop.example/dynamicbridges/laws.FnBridgesOf", spec := "fnBridgesOf", unfollowed := true, recurses := true, apart := false, narrowed := true }
def FnBridgesOfUptoSaid : Prop := fnBridgesOfUptoRow.holds Try.pinned (OpenSpec.upto fnBridgesOfSpec)

/-- 'laws.FnExactBridgeTree', WHERE WHAT IT READS IS OF BULK AT MOST 1048576: true; the input reads as it did. -/
def fnExactBridgeTreeUptoRow : OpenClaim := { program := "ytjchabeiaajgiaa", sum := "e80570e43785d3f672e85559f932684cb64c6e3aed1c1eadb0ce138990b8f0df", func := "loop.example/dynamicbridges/laws.FnExactBridgeTree", spec := "fnExactBridgeTree", unfollowed := true, recurses := true, apart := false, narrowed := true }
def FnExactBridgeTreeUptoSaid : Prop := fnExactBridgeTreeUptoRow.holds Try.pinned (OpenSpec.upto fnExactBridgeTreeSpec)

/-- 'laws.FnLeafBlocks', WHERE WHAT IT READS IS OF BULK AT MOST 1048576: true; the input reads as it did. -/
def fnLeafBlocksUptoRow : OpenClaim := { program := "ytjchabeiaajgiaa", sum := "e80570e43785d3f672e85559f932684cb64c6e3aed1c1eadb0ce138990b8f0df", func := "loop.example/dynamicbridges/laws.FnLeafBlocks", spec := "fnLeafBlocks", unfollowed := true, recurses := true, apart := false, narrowed := true }
def FnLeafBlocksUptoSaid : Prop := fnLeafBlocksUptoRow.holds Try.pinned (OpenSpec.upto fnLeafBlocksSpec)

end Rows
end Go.Proofs.Ytjchabeiaajgiaa
