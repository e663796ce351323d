/-
  No cell of these rows narrows 'for every input' (looked for: loops, veiled, ifaces, maps, wideKeys, modest, calm, conditions, laid).
  DERIVED. THE GIVEN ROWS OF THIS SEAT. 7 by the template 'for every input the law returns true; each argument reads behind the call as it read before'; 0 by the template 'total and deterministic' (their statements: YtnnfbndalcnjiaaTotals.lean).
  GIVEN WITH THE SEED: the statements are not yours to turn. If you find one false, say at which input.
  Laid BY PROGRAM, IN A SANDBOX (cutbox-rows.mjs): the forced cells as the released guide's own fill.sh prints them over the translation afff1205be20c0ce… (all of the seat's roots in one cut). By AI agents, Wed Nov 11 2026. No macro, syntax, notation, axiom, sorry.
-/
import Derived.Test.YtnnfbndalcnjiaaChecked
import GoSem.Claim
import GoSem.ClaimJoined
import GoSem.ClaimMapViews
import Derived.JoinedTies
import Derived.KernelRfl
namespace Go.Proofs.Ytnnfbndalcnjiaa
/- THE CELL 'sum', in the pinned program and in every row, IS THE sha256 OF THE DUMP (.gsa) THAT YtnnfbndalcnjiaaProg.lean LOADS. Nothing in Lean hashes anything: it is a label: what it is worth is what the hold of that sum in a sandbox is worth. -/
noncomputable def Try.pinned : Pinned := { name := "ytnnfbndalcnjiaa", sum := "afff1205be20c0ce334334106a1c8fdf8791e33ea1aa710e859a90d8c2e1e529", checked := Try.checked }
namespace Rows
def none {H : Type} : Left H := { results := [], args := [] }

/-- 'laws.FnExactTourValid': WHATEVER THE INPUT: true; the input reads as it did. -/
def fnExactTourValidSpec : ChangeSpec := { name := "fnExactTourValid", fn := fun _ => fun
  | [d] => { results := [.lit (.bool true)], args := [d] }
  | _ => none }
def fnExactTourValidRow : OpenClaim := { program := "ytnnfbndalcnjiaa", sum := "afff1205be20c0ce334334106a1c8fdf8791e33ea1aa710e859a90d8c2e1e529", func := "loop.example/dynamicbridges/laws.FnExactTourValid", spec := "fnExactTourValid", unfollowed := true, recurses := true, apart := false }
def FnExactTourValidSaid : Prop := fnExactTourValidRow.holds Try.pinned (OpenSpec.ofChange fnExactTourValidSpec)

/-- ITS FALSE NEIGHBOUR: 'it returns false'. Refute it at one input. -/
def fnExactTourValidWrong : ChangeSpec := { name := "fnExactTourValid", fn := fun _ => fun
  | [d] => { results := [.lit (.bool false)], args := [d] }
  | _ => none }
def FnExactTourValidWrongFalsely : Prop := fnExactTourValidRow.holds Try.pinned (OpenSpec.ofChange fnExactTourValidWrong)

/-- 'laws.FnExactTourBelow': WHATEVER THE INPUT: true; the input reads as it did. -/
def fnExactTourBelowSpec : ChangeSpec := { name := "fnExactTourBelow", fn := fun _ => fun
  | [d1, d2] => { results := [.lit (.bool true)], args := [d1, d2] }
  | _ => none }
def fnExactTourBelowRow : OpenClaim := { program := "ytnnfbndalcnjiaa", sum := "afff1205be20c0ce334334106a1c8fdf8791e33ea1aa710e859a90d8c2e1e529", func := "loop.example/dynamicbridges/laws.FnExactTourBelow", spec := "fnExactTourBelow", unfollowed := true, recurses := true, apart := false }
def FnExactTourBelowSaid : Prop := fnExactTourBelowRow.holds Try.pinned (OpenSpec.ofChange fnExactTourBelowSpec)

/-- ITS FALSE NEIGHBOUR: 'it returns false'. Refute it at one input. -/
def fnExactTourBelowWrong : ChangeSpec := { name := "fnExactTourBelow", fn := fun _ => fun
  | [d1, d2] => { results := [.lit (.bool false)], args := [d1, d2] }
  | _ => none }
def FnExactTourBelowWrongFalsely : Prop := fnExactTourBelowRow.holds Try.pinned (OpenSpec.ofChange fnExactTourBelowWrong)

/-- 'laws.FnExactTourDepths': WHATEVER THE INPUT: true; the input reads as it did. -/
def fnExactTourDepthsSpec : ChangeSpec := { name := "fnExactTourDepths", fn := fun _ => fun
  | [d] => { results := [.lit (.bool true)], args := [d] }
  | _ => none }
def fnExactTourDepthsRow : OpenClaim := { program := "ytnnfbndalcnjiaa", sum := "afff1205be20c0ce334334106a1c8fdf8791e33ea1aa710e859a90d8c2e1e529", func := "loop.example/dynamicbridges/laws.FnExactTourDepths", spec := "fnExactTourDepths", unfollowed := true, recurses := true, apart := false }
def FnExactTourDepthsSaid : Prop := fnExactTourDepthsRow.holds Try.pinned (OpenSpec.ofChange fnExactTourDepthsSpec)

/-- ITS FALSE NEIGHBOUR: 'it returns false'. Refute it at one input. -/
def fnExactTourDepthsWrong : ChangeSpec := { name := "fnExactTourDepths", fn := fun _ => fun
  | [d] => { results := [.lit (.bool false)], args := [d] }
  | _ => none }
def FnExactTourDepthsWrongFalsely : Prop := fnExactTourDepthsRow.holds Try.pinned (OpenSpec.ofChange fnExactTourDepthsWrong)

/-- 'laws.FnExactTourEdges': WHATEVER THE INPUT: true; the input reads as it did. -/
def fnExactTourEdgesSpec : ChangeSpec := { name := "fnExactTourEdges", fn := fun _ => fun
  | [d] => { results := [.lit (.bool true)], args := [d] }
  | _ => none }
def fnExactTourEdgesRow : OpenClaim := { program := "ytnnfbndalcnjiaa", sum := "afff1205be20c0ce334334106a1c8fdf8791e33ea1aa710e859a90d8c2e1e529", func := "loop.example/dynamicbridges/laws.FnExactTourEdges", spec := "fnExactTourEdges", unfollowed := true, recurses := true, apart := false }
def FnExactTourEdgesSaid : Prop := fnExactTourEdgesRow.holds Try.pinned (OpenSpec.ofChange fnExactTourEdgesSpec)

/-- ITS FALSE NEIGHBOUR: 'it returns false'. Refute it at one input. -/
def fnExactTourEdgesWrong : ChangeSpec := { name := "fnExactTourEdges", fn := fun _ => fun
  | [d] => { results := [.lit (.bool false)], args := [d] }
  | _ => none }
def FnExactTourEdgesWrongFalsely : Prop := fnExactTourEdgesRow.holds Try.pinned (OpenSpec.ofChange fnExactTourEdgesWrong)

/-- 'laws.FnExactTurnTour': WHATEVER THE INPUT: true; the input reads as it did. -/
def fnExactTurnTourSpec : ChangeSpec := { name := "fnExactTurnTour", fn := fun _ => fun
  | [d1, d2] => { results := [.lit (.bool true)], args := [d1, d2] }
  | _ => none }
def fnExactTurnTourRow : OpenClaim := { program := "ytnnfbndalcnjiaa", sum := "afff1205be20c0ce334334106a1c8fdf8791e33ea1aa710e859a90d8c2e1e529", func := "loop.example/dynamicbridges/laws.FnExactTurnTour", spec := "fnExactTurnTour", unfollowed := true, recurses := true, apart := false }
def FnExactTurnTourSaid : Prop := fnExactTurnTourRow.holds Try.pinned (OpenSpec.ofChange fnExactTurnTourSpec)

/-- ITS FALSE NEIGHBOUR: 'it returns false'. Refute it at one input. -/
def fnExactTurnTourWrong : ChangeSpec := { name := "fnExactTurnTour", fn := fun _ => fun
  | [d1, d2] => { results := [.lit (.bool false)], args := [d1, d2] }
  | _ => none }
def FnExactTurnTourWrongFalsely : Prop := fnExactTurnTourRow.holds Try.pinned (OpenSpec.ofChange fnExactTurnTourWrong)

/-- 'laws.FnExactSplitTour': WHATEVER THE INPUT: true; the input reads as it did. -/
def fnExactSplitTourSpec : ChangeSpec := { name := "fnExactSplitTour", fn := fun _ => fun
  | [d1, d2] => { results := [.lit (.bool true)], args := [d1, d2] }
  | _ => none }
def fnExactSplitTourRow : OpenClaim := { program := "ytnnfbndalcnjiaa", sum := "afff1205be20c0ce334334106a1c8fdf8791e33ea1aa710e859a90d8c2e1e529", func := "loop.example/dynamicbridges/laws.FnExactSplitTour", spec := "fnExactSplitTour", unfollowed := true, recurses := true, apart := false }
def FnExactSplitTourSaid : Prop := fnExactSplitTourRow.holds Try.pinned (OpenSpec.ofChange fnExactSplitTourSpec)

/-- ITS FALSE NEIGHBOUR: 'it returns false'. Refute it at one input. -/
def fnExactSplitTourWrong : ChangeSpec := { name := "fnExactSplitTour", fn := fun _ => fun
  | [d1, d2] => { results := [.lit (.bool false)], args := [d1, d2] }
  | _ => none }
def FnExactSplitTourWrongFalsely : Prop := fnExactSplitTourRow.holds Try.pinned (OpenSpec.ofChange fnExactSplitTourWrong)

/-- 'laws.FnExactLinkTours': WHATEVER THE INPUT: true; the input reads as it did. -/
def fnExactLinkToursSpec : ChangeSpec := { name := "fnExactLinkTours", fn := fun _ => fun
  | [d1, d2, d3, d4] => { results := [.lit (.bool true)], args := [d1, d2, d3, d4] }
  | _ => none }
def fnExactLinkToursRow : OpenClaim := { program := "ytnnfbndalcnjiaa", sum := "afff1205be20c0ce334334106a1c8fdf8791e33ea1aa710e859a90d8c2e1e529", func := "loop.example/dynamicbridges/laws.FnExactLinkTours", spec := "fnExactLinkTours", unfollowed := true, recurses := true, apart := false }
def FnExactLinkToursSaid : Prop := fnExactLinkToursRow.holds Try.pinned (OpenSpec.ofChange fnExactLinkToursSpec)

/-- ITS FALSE NEIGHBOUR: 'it returns false'. Refute it at one input. -/
def fnExactLinkToursWrong : ChangeSpec := { name := "fnExactLinkTours", fn := fun _ => fun
  | [d1, d2, d3, d4] => { results := [.lit (.bool false)], args := [d1, d2, d3, d4] }
  | _ => none }
def FnExactLinkToursWrongFalsely : Prop := fnExactLinkToursRow.holds Try.pinned (OpenSpec.ofChange fnExactLinkToursWrong)

/- THE SECOND FORM. 'bulk': how many values and letters a reading holds, each counted each time it is reached (what is shared counts as often as it is met; a slice's spare places count too). A statement '..UptoSaid' is the law's where the arguments, and the package variables that the reading takes, are together of bulk at most 1048576: NARROWER than '..Said'. Prove '..Said' where nothing that the law and all that it calls make is longer than what came in: it says more and counts as full. Else prove '..UptoSaid'. A law counts once. -/
mutual
def uptoBulk {H : Type} : DataW H → Nat
  | .lit (.string bytes) => bytes.length + 1
  | .lit _ => 1
  | .nil => 1
  | .ptr d => uptoBulk d + 1
  | .slice elems spare => uptoBulkAll elems + uptoBulkAll spare + 1
  | .agg parts => uptoBulkAll parts + 1
  | .iface _ d => uptoBulk d + 1
  | .map entries => uptoBulkEntries entries + 1
  | .held _ => 1
def uptoBulkAll {H : Type} : List (DataW H) → Nat
  | [] => 0
  | d :: r => uptoBulk d + uptoBulkAll r
def uptoBulkEntries {H : Type} : List (Lit × DataW H) → Nat
  | [] => 0
  | x :: r => uptoBulkEntry x + uptoBulkEntries r
def uptoBulkEntry {H : Type} : Lit × DataW H → Nat
  | (.string bytes, d) => bytes.length + uptoBulk d + 1
  | (_, d) => uptoBulk d + 1
 end
def uptoSmall : (H : Type) → List (DataW H) → Bool := fun _ ds => decide (uptoBulkAll ds ≤ 1048576)
def OpenSpec.upto (s : _root_.Go.ChangeSpec) : _root_.Go.OpenSpec := { _root_.Go.OpenSpec.ofChange s with cond := some uptoSmall }

/-- 'laws.FnExactTourValid', WHERE WHAT IT READS IS OF BULK AT MOST 1048576: true; the input reads as it did. -/
def fnExactTourValidUptoRow : OpenClaim := { program := "ytnnfbndalcnjiaa", sum := "afff1205be20c0ce334334106a1c8fdf8791e33ea1aa710e859a90d8c2e1e529", func := "loop.example/dynamicbridges/laws.FnExactTourValid", spec := "fnExactTourValid", unfollowed := true, recurses := true, apart := false, narrowed := true }
def FnExactTourValidUptoSaid : Prop := fnExactTourValidUptoRow.holds Try.pinned (OpenSpec.upto fnExactTourValidSpec)

/-- 'laws.FnExactTourBelow', WHERE WHAT IT READS IS OF BULK AT MOST 1048576: true; the input reads as it did. -/
def fnExactTourBelowUptoRow : OpenClaim := { program := "ytnnfbndalcnjiaa", sum := "afff1205be20c0ce334334106a1c8fdf8791e33ea1aa710e859a90d8c2e1e529", func := "loop.example/dynamicbridges/laws.FnExactTourBelow", spec := "fnExactTourBelow", unfollowed := true, recurses := true, apart := false, narrowed := true }
def FnExactTourBelowUptoSaid : Prop := fnExactTourBelowUptoRow.holds Try.pinned (OpenSpec.upto fnExactTourBelowSpec)

/-- 'laws.FnExactTourDepths', WHERE WHAT IT READS IS OF BULK AT MOST 1048576: true; the input reads as it did. -/
def fnExactTourDepthsUptoRow : OpenClaim := { program := "ytnnfbndalcnjiaa", sum := "afff1205be20c0ce334334106a1c8fdf8791e33ea1aa710e859a90d8c2e1e529", func := "loop.example/dynamicbridges/laws.FnExactTourDepths", spec := "fnExactTourDepths", unfollowed := true, recurses := true, apart := false, narrowed := true }
def FnExactTourDepthsUptoSaid : Prop := fnExactTourDepthsUptoRow.holds Try.pinned (OpenSpec.upto fnExactTourDepthsSpec)

/-- 'laws.FnExactTourEdges', WHERE WHAT IT READS IS OF BULK AT MOST 1048576: true; the input reads as it did. -/
def fnExactTourEdgesUptoRow : OpenClaim := { program := "ytnnfbndalcnjiaa", sum := "afff1205be20c0ce334334106a1c8fdf8791e33ea1aa710e859a90d8c2e1e529", func := "loop.example/dynamicbridges/laws.FnExactTourEdges", spec := "fnExactTourEdges", unfollowed := true, recurses := true, apart := false, narrowed := true }
def FnExactTourEdgesUptoSaid : Prop := fnExactTourEdgesUptoRow.holds Try.pinned (OpenSpec.upto fnExactTourEdgesSpec)

/-- 'laws.FnExactTurnTour', WHERE WHAT IT READS IS OF BULK AT MOST 1048576: true; the input reads as it did. -/
def fnExactTurnTourUptoRow : OpenClaim := { program := "ytnnfbndalcnjiaa", sum := "afff1205be20c0ce334334106a1c8fdf8791e33ea1aa710e859a90d8c2e1e529", func := "loop.example/dynamicbridges/laws.FnExactTurnTour", spec := "fnExactTurnTour", unfollowed := true, recurses := true, apart := false, narrowed := true }
def FnExactTurnTourUptoSaid : Prop := fnExactTurnTourUptoRow.holds Try.pinned (OpenSpec.upto fnExactTurnTourSpec)

/-- 'laws.FnExactSplitTour', WHERE WHAT IT READS IS OF BULK AT MOST 1048576: true; the input reads as it did. -/
def fnExactSplitTourUptoRow : OpenClaim := { program := "ytnnfbndalcnjiaa", sum := "afff1205be20c0ce334334106a1c8fdf8791e33ea1aa710e859a90d8c2e1e529", func := "loop.example/dynamicbridges/laws.FnExactSplitTour", spec := "fnExactSplitTour", unfollowed := true, recurses := true, apart := false, narrowed := true }
def FnExactSplitTourUptoSaid : Prop := fnExactSplitTourUptoRow.holds Try.pinned (OpenSpec.upto fnExactSplitTourSpec)

/-- 'laws.FnExactLinkTours', WHERE WHAT IT READS IS OF BULK AT MOST 1048576: true; the input reads as it did. -/
def fnExactLinkToursUptoRow : OpenClaim := { program := "ytnnfbndalcnjiaa", sum := "afff1205be20c0ce334334106a1c8fdf8791e33ea1aa710e859a90d8c2e1e529", func := "loop.example/dynamicbridges/laws.FnExactLinkTours", spec := "fnExactLinkTours", unfollowed := true, recurses := true, apart := false, narrowed := true }
def FnExactLinkToursUptoSaid : Prop := fnExactLinkToursUptoRow.holds Try.pinned (OpenSpec.upto fnExactLinkToursSpec)

end Rows
end Go.Proofs.Ytnnfbndalcnjiaa
