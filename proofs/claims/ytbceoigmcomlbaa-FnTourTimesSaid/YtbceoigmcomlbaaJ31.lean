import Derived.Test.YtbceoigmcomlbaaJ30
import Derived.Test.YtbceoigmcomlbaaJ13
import Derived.Deep.RegionHeld3
import Derived.Shelf.Abstract
/- Contracts: a graph without some edges (without), without one (cut); CutEdge of both sides; is an edge a bridge. -/
namespace Go.Proofs.Ytbceoigmcomlbaa
open Go.RowKit

theorem outE_filter (es : Es) (e : Int × Int) : (es.filter fun f => !decide (f = e)) = outE es e := by
  unfold outE
  congr 1
  funext f
  simp

end Go.Proofs.Ytbceoigmcomlbaa

/- Contracts: CutEdge of both sides. -/
namespace Go.Proofs.Ytbceoigmcomlbaa
open Go.RowKit

open Classical in
/-- what CutEdge returns -/
noncomputable def cutN (n : Int) (es : Es) (e : Int × Int) : Int := if HasB n es e.1 e.2 then n else 0
open Classical in
noncomputable def cutL (n : Int) (es : Es) (e : Int × Int) : Es := if HasB n es e.1 e.2 then outE es e else []
theorem cutL_len (n : Int) (es : Es) (e : Int × Int) : (cutL n es e).length ≤ es.length := by
  unfold cutL; split
  · exact outE_len es e
  · simp

/-- the call returns a graph, its row its own, and whether it is one -/
def RetGB (t : TypeId) (n : Int) (es : Es) (b : Bool) (w : World) (e : Ending) (w' : World) : Prop :=
  ∃ A c, e = .returned (.tuple #[.agg #[V n, .slice A es.length c], .bool b]) ∧ OwnE w' w.heap.size t A c es ∧ Nx w w'

end Go.Proofs.Ytbceoigmcomlbaa

/- Contracts: is an edge a bridge (isBridge, l4Bridge, IsBridge); the bridges (edgesBy, BridgesOf; l4Bridges, BridgesOf). -/
namespace Go.Proofs.Ytbceoigmcomlbaa
open Go.RowKit

end Go.Proofs.Ytbceoigmcomlbaa
