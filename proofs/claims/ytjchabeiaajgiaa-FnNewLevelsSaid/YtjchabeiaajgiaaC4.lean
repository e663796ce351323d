/- Contracts: CutEdge of both sides. -/
import Derived.Test.YtjchabeiaajgiaaC3
namespace Go.Proofs.Ytjchabeiaajgiaa
open Go.RowKit

open Classical in
/-- what CutEdge returns -/
noncomputable def cutN (n : Int) (es : Es) (e : Int × Int) : Int := if HasB n es e.1 e.2 then n else 0
open Classical in
noncomputable def cutL (n : Int) (es : Es) (e : Int × Int) : Es := if HasB n es e.1 e.2 then outE es e else []
theorem cutL_len (n : Int) (es : Es) (e : Int × Int) : (cutL n es e).length ≤ es.length := by
  unfold cutL; split
  · exact outE_len es e
  · simp

/-- the call returns a graph, its row its own, and whether it is one -/
def RetGB (t : TypeId) (n : Int) (es : Es) (b : Bool) (w : World) (e : Ending) (w' : World) : Prop :=
  ∃ A c, e = .returned (.tuple #[.agg #[V n, .slice A es.length c], .bool b]) ∧ OwnE w' w.heap.size t A c es ∧ Nx w w'

end Go.Proofs.Ytjchabeiaajgiaa
