/-
  DERIVED. GIVEN WITH THE SEED: THE CARDS: each row of YtafhojiialmbcaaDoorRows.lean that lists a variable, with what it lists TIED to the program's text (the seventh form; the later family's looks); each row that meets fmt, with fmt's text TOLD by the authors' own Lean function (tested against real Go, not proved from fmt's source: count such statements apart). THE CARD IS WHAT COUNTS. Prove the row's statement (the work); the ties are given (YtafhojiialmbcaaDoorTie.lean); close each card by the builder's one call (the guide's Derived/Test/ToyasCard.lean, 'card_holds'). Laid BY PROGRAM, IN A SANDBOX (cutbox-door.mjs). By AI agents, Wed Nov 11 2026. No macro, syntax, notation, axiom, sorry.
-/
import Derived.Test.YtafhojiialmbcaaDoorRows
import GoSem.ClaimSeven
namespace Go.Proofs.YtafhojiialmbcaaDoor
namespace Rows

/-- THE TIED CARD OF 'laws.FnExactFormatGraph'. -/
def fnExactFormatGraphCard : Claim7 := { stood := { row := fnExactFormatGraphRow, standIns := [], harness := (true, "4bbb0b0a7ef78052b5618e1af14b5ddbbe1e74090ea3d55f3b5cf4c549b0af68"), looks := true }, kinds := [], alts := [], laidByText := true, laidKinds := [.data, .data, .data], laidTests := true, laidLooks := .later }
def FnExactFormatGraphCardSaid : Prop := Claim7.holds Tryd.pinned (.plain (OpenSpec.ofChange fnExactFormatGraphSpec)) fnExactFormatGraphCard

/-- THE TIED CARD OF 'laws.FnGraphSame'. -/
def fnGraphSameCard : Claim7 := { stood := { row := fnGraphSameRow, standIns := [], harness := (true, "4bbb0b0a7ef78052b5618e1af14b5ddbbe1e74090ea3d55f3b5cf4c549b0af68"), looks := true }, kinds := [], alts := [], laidByText := true, laidKinds := [.data, .data, .data], laidTests := true, laidLooks := .later }
def FnGraphSameCardSaid : Prop := Claim7.holds Tryd.pinned (.plain (OpenSpec.ofChange fnGraphSameSpec)) fnGraphSameCard

/-- THE TIED CARD OF 'laws.FnExactParseGraph'. -/
def fnExactParseGraphCard : Claim7 := { stood := { row := fnExactParseGraphRow, standIns := [], harness := (true, "4bbb0b0a7ef78052b5618e1af14b5ddbbe1e74090ea3d55f3b5cf4c549b0af68"), looks := true }, kinds := [], alts := [], laidByText := true, laidKinds := [.data, .data, .data, .data, .sentinel, .sentinel, .pinned], laidTests := true, laidLooks := .later }
def FnExactParseGraphCardSaid : Prop := Claim7.holds Tryd.pinned (.plain (OpenSpec.ofChange fnExactParseGraphSpec)) fnExactParseGraphCard

/-- THE TIED CARD OF 'laws.FnGraphText'. -/
def fnGraphTextCard : Claim7 := { stood := { row := fnGraphTextRow, standIns := [], harness := (true, "4bbb0b0a7ef78052b5618e1af14b5ddbbe1e74090ea3d55f3b5cf4c549b0af68"), looks := true }, kinds := [], alts := [], laidByText := true, laidKinds := [.data, .data, .data, .data, .sentinel, .sentinel, .pinned], laidTests := true, laidLooks := .later }
def FnGraphTextCardSaid : Prop := Claim7.holds Tryd.pinned (.plain (OpenSpec.ofChange fnGraphTextSpec)) fnGraphTextCard

/-- THE SECOND FORM's CARD OF 'laws.FnExactFormatGraph'. -/
def fnExactFormatGraphUptoCard : Claim7 := { stood := { row := fnExactFormatGraphUptoRow, standIns := [], harness := (true, "4bbb0b0a7ef78052b5618e1af14b5ddbbe1e74090ea3d55f3b5cf4c549b0af68"), looks := true }, kinds := [], alts := [], laidByText := true, laidKinds := [.data, .data, .data], laidTests := true, laidLooks := .later }
def FnExactFormatGraphUptoCardSaid : Prop := Claim7.holds Tryd.pinned (.plain (OpenSpec.upto fnExactFormatGraphSpec)) fnExactFormatGraphUptoCard

/-- THE SECOND FORM's CARD OF 'laws.FnGraphSame'. -/
def fnGraphSameUptoCard : Claim7 := { stood := { row := fnGraphSameUptoRow, standIns := [], harness := (true, "4bbb0b0a7ef78052b5618e1af14b5ddbbe1e74090ea3d55f3b5cf4c549b0af68"), looks := true }, kinds := [], alts := [], laidByText := true, laidKinds := [.data, .data, .data], laidTests := true, laidLooks := .later }
def FnGraphSameUptoCardSaid : Prop := Claim7.holds Tryd.pinned (.plain (OpenSpec.upto fnGraphSameSpec)) fnGraphSameUptoCard

/-- THE SECOND FORM's CARD OF 'laws.FnExactParseGraph'. -/
def fnExactParseGraphUptoCard : Claim7 := { stood := { row := fnExactParseGraphUptoRow, standIns := [], harness := (true, "4bbb0b0a7ef78052b5618e1af14b5ddbbe1e74090ea3d55f3b5cf4c549b0af68"), looks := true }, kinds := [], alts := [], laidByText := true, laidKinds := [.data, .data, .data, .data, .sentinel, .sentinel, .pinned], laidTests := true, laidLooks := .later }
def FnExactParseGraphUptoCardSaid : Prop := Claim7.holds Tryd.pinned (.plain (OpenSpec.upto fnExactParseGraphSpec)) fnExactParseGraphUptoCard

/-- THE SECOND FORM's CARD OF 'laws.FnGraphText'. -/
def fnGraphTextUptoCard : Claim7 := { stood := { row := fnGraphTextUptoRow, standIns := [], harness := (true, "4bbb0b0a7ef78052b5618e1af14b5ddbbe1e74090ea3d55f3b5cf4c549b0af68"), looks := true }, kinds := [], alts := [], laidByText := true, laidKinds := [.data, .data, .data, .data, .sentinel, .sentinel, .pinned], laidTests := true, laidLooks := .later }
def FnGraphTextUptoCardSaid : Prop := Claim7.holds Tryd.pinned (.plain (OpenSpec.upto fnGraphTextSpec)) fnGraphTextUptoCard
end Rows
end Go.Proofs.YtafhojiialmbcaaDoor
