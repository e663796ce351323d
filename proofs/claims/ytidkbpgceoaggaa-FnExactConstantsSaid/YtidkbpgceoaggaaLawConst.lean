/- FnExactConstants: the walk. -/
import Derived.Test.YtidkbpgceoaggaaProg
import Derived.Test.YtidkbpgceoaggaaK
namespace Go.Proofs.Ytidkbpgceoaggaa
open Go.RowKit
theorem fnExactConstants_walk (w : World) : Calls Try.prog 3 #[] w (RetV (.bool true) w) := by
  go_enter Try.func3, Try.ntmps3
  go_wp2
  go_ret
  exact RetV.bool rfl (by repeat (first | exact Nx.refl _ | assumption | apply Nx.alloc | apply Nx.drew | apply Nx.drewN | (refine Nx.setCell ?_ (by first | (simp; done) | (simp; omega) | omega) _) | refine Nx.trans ?_ (by assumption)))
end Go.Proofs.Ytidkbpgceoaggaa
