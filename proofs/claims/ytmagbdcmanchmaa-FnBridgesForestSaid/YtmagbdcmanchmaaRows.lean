/-
  No cell of these rows narrows 'for every input' (looked for: loops, veiled, ifaces, maps, wideKeys, modest, calm, conditions, laid).
  DERIVED. THE GIVEN ROWS OF THIS SEAT. 12 by the template 'for every input the law returns true; each argument reads behind the call as it read before'; 0 by the template 'total and deterministic' (their statements: YtmagbdcmanchmaaTotals.lean).
  GIVEN WITH THE SEED: the statements are not yours to turn. If you find one false, say at which input.
  Laid BY PROGRAM, IN A SANDBOX (cutbox-rows.mjs): the forced cells as the released guide's own fill.sh prints them over the translation 97c1ea5c22972721… (all of the seat's roots in one cut). By AI agents, Wed Nov 11 2026. No macro, syntax, notation, axiom, sorry.
-/
import Derived.Test.YtmagbdcmanchmaaChecked
import GoSem.Claim
import GoSem.ClaimJoined
import GoSem.ClaimMapViews
import Derived.JoinedTies
import Derived.KernelRfl
namespace Go.Proofs.Ytmagbdcmanchmaa
/- THE CELL 'sum', in the pinned program and in every row, IS THE sha256 OF THE DUMP (.gsa) THAT YtmagbdcmanchmaaProg.lean LOADS. Nothing in Lean hashes anything: it is a label: what it is worth is what the hold of that sum in a sandbox is worth. -/
noncomputable def Try.pinned : Pinned := { name := "ytmagbdcmanchmaa", sum := "97c1ea5c2297272173ff32d1d428bd39e831b8cfaa3283591ef2aa04a817a35c", checked := Try.checked }
namespace Rows
def none {H : Type} : Left H := { results := [], args := [] }

/-- 'laws.FnExactForestOf': WHATEVER THE INPUT: true; the input reads as it did. -/
def fnExactForestOfSpec : ChangeSpec := { name := "fnExactForestOf", fn := fun _ => fun
  | [d] => { results := [.lit (.bool true)], args := [d] }
  | _ => none }
def fnExactForestOfRow : OpenClaim := { program := "ytmagbdcmanchmaa", sum := "97c1ea5c2297272173ff32d1d428bd39e831b8cfaa3283591ef2aa04a817a35c", func := "loop.example/dynamicbridges/laws.FnExactForestOf", spec := "fnExactForestOf", apart := false }
def FnExactForestOfSaid : Prop := fnExactForestOfRow.holds Try.pinned (OpenSpec.ofChange fnExactForestOfSpec)

/-- ITS FALSE NEIGHBOUR: 'it returns false'. Refute it at one input. -/
def fnExactForestOfWrong : ChangeSpec := { name := "fnExactForestOf", fn := fun _ => fun
  | [d] => { results := [.lit (.bool false)], args := [d] }
  | _ => none }
def FnExactForestOfWrongFalsely : Prop := fnExactForestOfRow.holds Try.pinned (OpenSpec.ofChange fnExactForestOfWrong)

/-- 'laws.FnExactCutEdge': WHATEVER THE INPUT: true; the input reads as it did. -/
def fnExactCutEdgeSpec : ChangeSpec := { name := "fnExactCutEdge", fn := fun _ => fun
  | [d1, d2] => { results := [.lit (.bool true)], args := [d1, d2] }
  | _ => none }
def fnExactCutEdgeRow : OpenClaim := { program := "ytmagbdcmanchmaa", sum := "97c1ea5c2297272173ff32d1d428bd39e831b8cfaa3283591ef2aa04a817a35c", func := "loop.example/dynamicbridges/laws.FnExactCutEdge", spec := "fnExactCutEdge", unfollowed := true, recurses := true, apart := false }
def FnExactCutEdgeSaid : Prop := fnExactCutEdgeRow.holds Try.pinned (OpenSpec.ofChange fnExactCutEdgeSpec)

/-- ITS FALSE NEIGHBOUR: 'it returns false'. Refute it at one input. -/
def fnExactCutEdgeWrong : ChangeSpec := { name := "fnExactCutEdge", fn := fun _ => fun
  | [d1, d2] => { results := [.lit (.bool false)], args := [d1, d2] }
  | _ => none }
def FnExactCutEdgeWrongFalsely : Prop := fnExactCutEdgeRow.holds Try.pinned (OpenSpec.ofChange fnExactCutEdgeWrong)

/-- 'laws.FnExactIsBridge': WHATEVER THE INPUT: true; the input reads as it did. -/
def fnExactIsBridgeSpec : ChangeSpec := { name := "fnExactIsBridge", fn := fun _ => fun
  | [d1, d2] => { results := [.lit (.bool true)], args := [d1, d2] }
  | _ => none }
def fnExactIsBridgeRow : OpenClaim := { program := "ytmagbdcmanchmaa", sum := "97c1ea5c2297272173ff32d1d428bd39e831b8cfaa3283591ef2aa04a817a35c", func := "loop.example/dynamicbridges/laws.FnExactIsBridge", spec := "fnExactIsBridge", unfollowed := true, recurses := true, apart := false }
def FnExactIsBridgeSaid : Prop := fnExactIsBridgeRow.holds Try.pinned (OpenSpec.ofChange fnExactIsBridgeSpec)

/-- ITS FALSE NEIGHBOUR: 'it returns false'. Refute it at one input. -/
def fnExactIsBridgeWrong : ChangeSpec := { name := "fnExactIsBridge", fn := fun _ => fun
  | [d1, d2] => { results := [.lit (.bool false)], args := [d1, d2] }
  | _ => none }
def FnExactIsBridgeWrongFalsely : Prop := fnExactIsBridgeRow.holds Try.pinned (OpenSpec.ofChange fnExactIsBridgeWrong)

/-- 'laws.FnExactBridgesOf': WHATEVER THE INPUT: true; the input reads as it did. -/
def fnExactBridgesOfSpec : ChangeSpec := { name := "fnExactBridgesOf", fn := fun _ => fun
  | [d] => { results := [.lit (.bool true)], args := [d] }
  | _ => none }
def fnExactBridgesOfRow : OpenClaim := { program := "ytmagbdcmanchmaa", sum := "97c1ea5c2297272173ff32d1d428bd39e831b8cfaa3283591ef2aa04a817a35c", func := "loop.example/dynamicbridges/laws.FnExactBridgesOf", spec := "fnExactBridgesOf", unfollowed := true, recurses := true, apart := false }
def FnExactBridgesOfSaid : Prop := fnExactBridgesOfRow.holds Try.pinned (OpenSpec.ofChange fnExactBridgesOfSpec)

/-- ITS FALSE NEIGHBOUR: 'it returns false'. Refute it at one input. -/
def fnExactBridgesOfWrong : ChangeSpec := { name := "fnExactBridgesOf", fn := fun _ => fun
  | [d] => { results := [.lit (.bool false)], args := [d] }
  | _ => none }
def FnExactBridgesOfWrongFalsely : Prop := fnExactBridgesOfRow.holds Try.pinned (OpenSpec.ofChange fnExactBridgesOfWrong)

/-- 'laws.FnPartsMore': WHATEVER THE INPUT: true; the input reads as it did. -/
def fnPartsMoreSpec : ChangeSpec := { name := "fnPartsMore", fn := fun _ => fun
  | [d] => { results := [.lit (.bool true)], args := [d] }
  | _ => none }
def fnPartsMoreRow : OpenClaim := { program := "ytmagbdcmanchmaa", sum := "97c1ea5c2297272173ff32d1d428bd39e831b8cfaa3283591ef2aa04a817a35c", func := "loop.example/dynamicbridges/laws.FnPartsMore", spec := "fnPartsMore", unfollowed := true, recurses := true, apart := false }
def FnPartsMoreSaid : Prop := fnPartsMoreRow.holds Try.pinned (OpenSpec.ofChange fnPartsMoreSpec)

/-- ITS FALSE NEIGHBOUR: 'it returns false'. Refute it at one input. -/
def fnPartsMoreWrong : ChangeSpec := { name := "fnPartsMore", fn := fun _ => fun
  | [d] => { results := [.lit (.bool false)], args := [d] }
  | _ => none }
def FnPartsMoreWrongFalsely : Prop := fnPartsMoreRow.holds Try.pinned (OpenSpec.ofChange fnPartsMoreWrong)

/-- 'laws.FnExactSafeParts': WHATEVER THE INPUT: true; the input reads as it did. -/
def fnExactSafePartsSpec : ChangeSpec := { name := "fnExactSafeParts", fn := fun _ => fun
  | [d] => { results := [.lit (.bool true)], args := [d] }
  | _ => none }
def fnExactSafePartsRow : OpenClaim := { program := "ytmagbdcmanchmaa", sum := "97c1ea5c2297272173ff32d1d428bd39e831b8cfaa3283591ef2aa04a817a35c", func := "loop.example/dynamicbridges/laws.FnExactSafeParts", spec := "fnExactSafeParts", unfollowed := true, recurses := true, apart := false }
def FnExactSafePartsSaid : Prop := fnExactSafePartsRow.holds Try.pinned (OpenSpec.ofChange fnExactSafePartsSpec)

/-- ITS FALSE NEIGHBOUR: 'it returns false'. Refute it at one input. -/
def fnExactSafePartsWrong : ChangeSpec := { name := "fnExactSafeParts", fn := fun _ => fun
  | [d] => { results := [.lit (.bool false)], args := [d] }
  | _ => none }
def FnExactSafePartsWrongFalsely : Prop := fnExactSafePartsRow.holds Try.pinned (OpenSpec.ofChange fnExactSafePartsWrong)

/-- 'laws.FnBridgesForest': WHATEVER THE INPUT: true; the input reads as it did. -/
def fnBridgesForestSpec : ChangeSpec := { name := "fnBridgesForest", fn := fun _ => fun
  | [d] => { results := [.lit (.bool true)], args := [d] }
  | _ => none }
def fnBridgesForestRow : OpenClaim := { program := "ytmagbdcmanchmaa", sum := "97c1ea5c2297272173ff32d1d428bd39e831b8cfaa3283591ef2aa04a817a35c", func := "loop.example/dynamicbridges/laws.FnBridgesForest", spec := "fnBridgesForest", unfollowed := true, recurses := true, apart := false }
def FnBridgesForestSaid : Prop := fnBridgesForestRow.holds Try.pinned (OpenSpec.ofChange fnBridgesForestSpec)

/-- ITS FALSE NEIGHBOUR: 'it returns false'. Refute it at one input. -/
def fnBridgesForestWrong : ChangeSpec := { name := "fnBridgesForest", fn := fun _ => fun
  | [d] => { results := [.lit (.bool false)], args := [d] }
  | _ => none }
def FnBridgesForestWrongFalsely : Prop := fnBridgesForestRow.holds Try.pinned (OpenSpec.ofChange fnBridgesForestWrong)

/-- 'laws.FnPutOrder': WHATEVER THE INPUT: true; the input reads as it did. -/
def fnPutOrderSpec : ChangeSpec := { name := "fnPutOrder", fn := fun _ => fun
  | [d1, d2] => { results := [.lit (.bool true)], args := [d1, d2] }
  | _ => none }
def fnPutOrderRow : OpenClaim := { program := "ytmagbdcmanchmaa", sum := "97c1ea5c2297272173ff32d1d428bd39e831b8cfaa3283591ef2aa04a817a35c", func := "loop.example/dynamicbridges/laws.FnPutOrder", spec := "fnPutOrder", inPlace := ["slices.overlaps[loop.example/dynamicbridges/impl.Edge]"], unfollowed := true, recurses := true, apart := false }
def FnPutOrderSaid : Prop := fnPutOrderRow.holds Try.pinned (OpenSpec.ofChange fnPutOrderSpec)

/-- ITS FALSE NEIGHBOUR: 'it returns false'. Refute it at one input. -/
def fnPutOrderWrong : ChangeSpec := { name := "fnPutOrder", fn := fun _ => fun
  | [d1, d2] => { results := [.lit (.bool false)], args := [d1, d2] }
  | _ => none }
def FnPutOrderWrongFalsely : Prop := fnPutOrderRow.holds Try.pinned (OpenSpec.ofChange fnPutOrderWrong)

/-- 'laws.FnExactPutEdge': WHATEVER THE INPUT: true; the input reads as it did. -/
def fnExactPutEdgeSpec : ChangeSpec := { name := "fnExactPutEdge", fn := fun _ => fun
  | [d1, d2] => { results := [.lit (.bool true)], args := [d1, d2] }
  | _ => none }
def fnExactPutEdgeRow : OpenClaim := { program := "ytmagbdcmanchmaa", sum := "97c1ea5c2297272173ff32d1d428bd39e831b8cfaa3283591ef2aa04a817a35c", func := "loop.example/dynamicbridges/laws.FnExactPutEdge", spec := "fnExactPutEdge", inPlace := ["slices.overlaps[loop.example/dynamicbridges/impl.Edge]"], unfollowed := true, recurses := true, apart := false }
def FnExactPutEdgeSaid : Prop := fnExactPutEdgeRow.holds Try.pinned (OpenSpec.ofChange fnExactPutEdgeSpec)

/-- ITS FALSE NEIGHBOUR: 'it returns false'. Refute it at one input. -/
def fnExactPutEdgeWrong : ChangeSpec := { name := "fnExactPutEdge", fn := fun _ => fun
  | [d1, d2] => { results := [.lit (.bool false)], args := [d1, d2] }
  | _ => none }
def FnExactPutEdgeWrongFalsely : Prop := fnExactPutEdgeRow.holds Try.pinned (OpenSpec.ofChange fnExactPutEdgeWrong)

/-- 'laws.FnPutCut': WHATEVER THE INPUT: true; the input reads as it did. -/
def fnPutCutSpec : ChangeSpec := { name := "fnPutCut", fn := fun _ => fun
  | [d] => { results := [.lit (.bool true)], args := [d] }
  | _ => none }
def fnPutCutRow : OpenClaim := { program := "ytmagbdcmanchmaa", sum := "97c1ea5c2297272173ff32d1d428bd39e831b8cfaa3283591ef2aa04a817a35c", func := "loop.example/dynamicbridges/laws.FnPutCut", spec := "fnPutCut", inPlace := ["slices.overlaps[loop.example/dynamicbridges/impl.Edge]"], unfollowed := true, recurses := true, apart := false }
def FnPutCutSaid : Prop := fnPutCutRow.holds Try.pinned (OpenSpec.ofChange fnPutCutSpec)

/-- ITS FALSE NEIGHBOUR: 'it returns false'. Refute it at one input. -/
def fnPutCutWrong : ChangeSpec := { name := "fnPutCut", fn := fun _ => fun
  | [d] => { results := [.lit (.bool false)], args := [d] }
  | _ => none }
def FnPutCutWrongFalsely : Prop := fnPutCutRow.holds Try.pinned (OpenSpec.ofChange fnPutCutWrong)

/-- 'laws.FnCutPut': WHATEVER THE INPUT: true; the input reads as it did. -/
def fnCutPutSpec : ChangeSpec := { name := "fnCutPut", fn := fun _ => fun
  | [d] => { results := [.lit (.bool true)], args := [d] }
  | _ => none }
def fnCutPutRow : OpenClaim := { program := "ytmagbdcmanchmaa", sum := "97c1ea5c2297272173ff32d1d428bd39e831b8cfaa3283591ef2aa04a817a35c", func := "loop.example/dynamicbridges/laws.FnCutPut", spec := "fnCutPut", inPlace := ["slices.overlaps[loop.example/dynamicbridges/impl.Edge]"], unfollowed := true, recurses := true, apart := false }
def FnCutPutSaid : Prop := fnCutPutRow.holds Try.pinned (OpenSpec.ofChange fnCutPutSpec)

/-- ITS FALSE NEIGHBOUR: 'it returns false'. Refute it at one input. -/
def fnCutPutWrong : ChangeSpec := { name := "fnCutPut", fn := fun _ => fun
  | [d] => { results := [.lit (.bool false)], args := [d] }
  | _ => none }
def FnCutPutWrongFalsely : Prop := fnCutPutRow.holds Try.pinned (OpenSpec.ofChange fnCutPutWrong)

/-- 'laws.FnHasEdge': WHATEVER THE INPUT: true; the input reads as it did. -/
def fnHasEdgeSpec : ChangeSpec := { name := "fnHasEdge", fn := fun _ => fun
  | [d] => { results := [.lit (.bool true)], args := [d] }
  | _ => none }
def fnHasEdgeRow : OpenClaim := { program := "ytmagbdcmanchmaa", sum := "97c1ea5c2297272173ff32d1d428bd39e831b8cfaa3283591ef2aa04a817a35c", func := "loop.example/dynamicbridges/laws.FnHasEdge", spec := "fnHasEdge", apart := false }
def FnHasEdgeSaid : Prop := fnHasEdgeRow.holds Try.pinned (OpenSpec.ofChange fnHasEdgeSpec)

/-- ITS FALSE NEIGHBOUR: 'it returns false'. Refute it at one input. -/
def fnHasEdgeWrong : ChangeSpec := { name := "fnHasEdge", fn := fun _ => fun
  | [d] => { results := [.lit (.bool false)], args := [d] }
  | _ => none }
def FnHasEdgeWrongFalsely : Prop := fnHasEdgeRow.holds Try.pinned (OpenSpec.ofChange fnHasEdgeWrong)

/- THE SECOND FORM. 'bulk': how many values and letters a reading holds, each counted each time it is reached (what is shared counts as often as it is met; a slice's spare places count too). A statement '..UptoSaid' is the law's where the arguments, and the package variables that the reading takes, are together of bulk at most 1048576: NARROWER than '..Said'. Prove '..Said' where nothing that the law and all that it calls make is longer than what came in: it says more and counts as full. Else prove '..UptoSaid'. A law counts once. -/
mutual
def uptoBulk {H : Type} : DataW H → Nat
  | .lit (.string bytes) => bytes.length + 1
  | .lit _ => 1
  | .nil => 1
  | .ptr d => uptoBulk d + 1
  | .slice elems spare => uptoBulkAll elems + uptoBulkAll spare + 1
  | .agg parts => uptoBulkAll parts + 1
  | .iface _ d => uptoBulk d + 1
  | .map entries => uptoBulkEntries entries + 1
  | .held _ => 1
def uptoBulkAll {H : Type} : List (DataW H) → Nat
  | [] => 0
  | d :: r => uptoBulk d + uptoBulkAll r
def uptoBulkEntries {H : Type} : List (Lit × DataW H) → Nat
  | [] => 0
  | x :: r => uptoBulkEntry x + uptoBulkEntries r
def uptoBulkEntry {H : Type} : Lit × DataW H → Nat
  | (.string bytes, d) => bytes.length + uptoBulk d + 1
  | (_, d) => uptoBulk d + 1
 end
def uptoSmall : (H : Type) → List (DataW H) → Bool := fun _ ds => decide (uptoBulkAll ds ≤ 1048576)
def OpenSpec.upto (s : _root_.Go.ChangeSpec) : _root_.Go.OpenSpec := { _root_.Go.OpenSpec.ofChange s with cond := some uptoSmall }

/-- 'laws.FnExactForestOf', WHERE WHAT IT READS IS OF BULK AT MOST 1048576: true; the input reads as it did. -/
def fnExactForestOfUptoRow : OpenClaim := { program := "ytmagbdcmanchmaa", sum := "97c1ea5c2297272173ff32d1d428bd39e831b8cfaa3283591ef2aa04a817a35c", func := "loop.example/dynamicbridges/laws.FnExactForestOf", spec := "fnExactForestOf", apart := false, narrowed := true }
def FnExactForestOfUptoSaid : Prop := fnExactForestOfUptoRow.holds Try.pinned (OpenSpec.upto fnExactForestOfSpec)

/-- 'laws.FnExactCutEdge', WHERE WHAT IT READS IS OF BULK AT MOST 1048576: true; the input reads as it did. -/
def fnExactCutEdgeUptoRow : OpenClaim := { program := "ytmagbdcmanchmaa", sum := "97c1ea5c2297272173ff32d1d428bd39e831b8cfaa3283591ef2aa04a817a35c", func := "loop.example/dynamicbridges/laws.FnExactCutEdge", spec := "fnExactCutEdge", unfollowed := true, recurses := true, apart := false, narrowed := true }
def FnExactCutEdgeUptoSaid : Prop := fnExactCutEdgeUptoRow.holds Try.pinned (OpenSpec.upto fnExactCutEdgeSpec)

/-- 'laws.FnExactIsBridge', WHERE WHAT IT READS IS OF BULK AT MOST 1048576: true; the input reads as it did. -/
def fnExactIsBridgeUptoRow : OpenClaim := { program := "ytmagbdcmanchmaa", sum := "97c1ea5c2297272173ff32d1d428bd39e831b8cfaa3283591ef2aa04a817a35c", func := "loop.example/dynamicbridges/laws.FnExactIsBridge", spec := "fnExactIsBridge", unfollowed := true, recurses := true, apart := false, narrowed := true }
def FnExactIsBridgeUptoSaid : Prop := fnExactIsBridgeUptoRow.holds Try.pinned (OpenSpec.upto fnExactIsBridgeSpec)

/-- 'laws.FnExactBridgesOf', WHERE WHAT IT READS IS OF BULK AT MOST 1048576: true; the input reads as it did. -/
def fnExactBridgesOfUptoRow : OpenClaim := { program := "ytmagbdcmanchmaa", sum := "97c1ea5c2297272173ff32d1d428bd39e831b8cfaa3283591ef2aa04a817a35c", func := "loop.example/dynamicbridges/laws.FnExactBridgesOf", spec := "fnExactBridgesOf", unfollowed := true, recurses := true, apart := false, narrowed := true }
def FnExactBridgesOfUptoSaid : Prop := fnExactBridgesOfUptoRow.holds Try.pinned (OpenSpec.upto fnExactBridgesOfSpec)

/-- 'laws.FnPartsMore', WHERE WHAT IT READS IS OF BULK AT MOST 1048576: true; the input reads as it did. -/
def fnPartsMoreUptoRow : OpenClaim := { program := "ytmagbdcmanchmaa", sum := "97c1ea5c2297272173ff32d1d428bd39e831b8cfaa3283591ef2aa04a817a35c", func := "loop.example/dynamicbridges/laws.FnPartsMore", spec := "fnPartsMore", unfollowed := true, recurses := true, apart := false, narrowed := true }
def FnPartsMoreUptoSaid : Prop := fnPartsMoreUptoRow.holds Try.pinned (OpenSpec.upto fnPartsMoreSpec)

/-- 'laws.FnExactSafeParts', WHERE WHAT IT READS IS OF BULK AT MOST 1048576: true; the input reads as it did. -/
def fnExactSafePartsUptoRow : OpenClaim := { program := "ytmagbdcmanchmaa", sum := "97c1ea5c2297272173ff32d1d428bd39e831b8cfaa3283591ef2aa04a817a35c", func := "loop.example/dynamicbridges/laws.FnExactSafeParts", spec := "fnExactSafeParts", unfollowed := true, recurses := true, apart := false, narrowed := true }
def FnExactSafePartsUptoSaid : Prop := fnExactSafePartsUptoRow.holds Try.pinned (OpenSpec.upto fnExactSafePartsSpec)

/-- 'laws.FnBridgesForest', WHERE WHAT IT READS IS OF BULK AT MOST 1048576: true; the input reads as it did. -/
def fnBridgesForestUptoRow : OpenClaim := { program := "ytmagbdcmanchmaa", sum := "97c1ea5c2297272173ff32d1d428bd39e831b8cfaa3283591ef2aa04a817a35c", func := "loop.example/dynamicbridges/laws.FnBridgesForest", spec := "fnBridgesForest", unfollowed := true, recurses := true, apart := false, narrowed := true }
def FnBridgesForestUptoSaid : Prop := fnBridgesForestUptoRow.holds Try.pinned (OpenSpec.upto fnBridgesForestSpec)

/-- 'laws.FnPutOrder', WHERE WHAT IT READS IS OF BULK AT MOST 1048576: true; the input reads as it did. -/
def fnPutOrderUptoRow : OpenClaim := { program := "ytmagbdcmanchmaa", sum := "97c1ea5c2297272173ff32d1d428bd39e831b8cfaa3283591ef2aa04a817a35c", func := "loop.example/dynamicbridges/laws.FnPutOrder", spec := "fnPutOrder", inPlace := ["slices.overlaps[loop.example/dynamicbridges/impl.Edge]"], unfollowed := true, recurses := true, apart := false, narrowed := true }
def FnPutOrderUptoSaid : Prop := fnPutOrderUptoRow.holds Try.pinned (OpenSpec.upto fnPutOrderSpec)

/-- 'laws.FnExactPutEdge', WHERE WHAT IT READS IS OF BULK AT MOST 1048576: true; the input reads as it did. -/
def fnExactPutEdgeUptoRow : OpenClaim := { program := "ytmagbdcmanchmaa", sum := "97c1ea5c2297272173ff32d1d428bd39e831b8cfaa3283591ef2aa04a817a35c", func := "loop.example/dynamicbridges/laws.FnExactPutEdge", spec := "fnExactPutEdge", inPlace := ["slices.overlaps[loop.example/dynamicbridges/impl.Edge]"], unfollowed := true, recurses := true, apart := false, narrowed := true }
def FnExactPutEdgeUptoSaid : Prop := fnExactPutEdgeUptoRow.holds Try.pinned (OpenSpec.upto fnExactPutEdgeSpec)

/-- 'laws.FnPutCut', WHERE WHAT IT READS IS OF BULK AT MOST 1048576: true; the input reads as it did. -/
def fnPutCutUptoRow : OpenClaim := { program := "ytmagbdcmanchmaa", sum := "97c1ea5c2297272173ff32d1d428bd39e831b8cfaa3283591ef2aa04a817a35c", func := "loop.example/dynamicbridges/laws.FnPutCut", spec := "fnPutCut", inPlace := ["slices.overlaps[loop.example/dynamicbridges/impl.Edge]"], unfollowed := true, recurses := true, apart := false, narrowed := true }
def FnPutCutUptoSaid : Prop := fnPutCutUptoRow.holds Try.pinned (OpenSpec.upto fnPutCutSpec)

/-- 'laws.FnCutPut', WHERE WHAT IT READS IS OF BULK AT MOST 1048576: true; the input reads as it did. -/
def fnCutPutUptoRow : OpenClaim := { program := "ytmagbdcmanchmaa", sum := "97c1ea5c2297272173ff32d1d428bd39e831b8cfaa3283591ef2aa04a817a35c", func := "loop.example/dynamicbridges/laws.FnCutPut", spec := "fnCutPut", inPlace := ["slices.overlaps[loop.example/dynamicbridges/impl.Edge]"], unfollowed := true, recurses := true, apart := false, narrowed := true }
def FnCutPutUptoSaid : Prop := fnCutPutUptoRow.holds Try.pinned (OpenSpec.upto fnCutPutSpec)

/-- 'laws.FnHasEdge', WHERE WHAT IT READS IS OF BULK AT MOST 1048576: true; the input reads as it did. -/
def fnHasEdgeUptoRow : OpenClaim := { program := "ytmagbdcmanchmaa", sum := "97c1ea5c2297272173ff32d1d428bd39e831b8cfaa3283591ef2aa04a817a35c", func := "loop.example/dynamicbridges/laws.FnHasEdge", spec := "fnHasEdge", apart := false, narrowed := true }
def FnHasEdgeUptoSaid : Prop := fnHasEdgeUptoRow.holds Try.pinned (OpenSpec.upto fnHasEdgeSpec)

end Rows
end Go.Proofs.Ytmagbdcmanchmaa
