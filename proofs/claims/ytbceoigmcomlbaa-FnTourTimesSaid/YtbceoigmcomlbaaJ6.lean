import Derived.Test.YtbceoigmcomlbaaProg
import Derived.Test.YtbceoigmcomlbaaJ1
/- Contracts: l1Edge, eqEdge. -/
namespace Go.Proofs.Ytbceoigmcomlbaa
open Go.RowKit

theorem l1Edge_c (x y : Int) (w : World) : Calls Try.prog 52 #[V x, V y] w (RetV (Ed (min x y) (max x y)) w) := by
  by_cases h1 : x < y
  · go_enter Try.func52, Try.ntmps52
    go_wp2
    refine bodyPost_ret (v := Ed x y) (by simp [results, Try.f52, go_sem, *]) rfl ?_
    refine RetV.mk ?_ (by repeat (first | exact Nx.refl _ | assumption | apply Nx.alloc | apply Nx.drew | apply Nx.drewN | (refine Nx.setCell ?_ (by first | (simp; done) | (simp; omega) | omega) _) | refine Nx.trans ?_ (by assumption)))
    rw [show min x y = x by omega, show max x y = y by omega]
  · go_enter Try.func52, Try.ntmps52
    go_wp2
    refine bodyPost_ret (v := Ed y x) (by simp [results, Try.f52, go_sem, *]) rfl ?_
    refine RetV.mk ?_ (by repeat (first | exact Nx.refl _ | assumption | apply Nx.alloc | apply Nx.drew | apply Nx.drewN | (refine Nx.setCell ?_ (by first | (simp; done) | (simp; omega) | omega) _) | refine Nx.trans ?_ (by assumption)))
    rw [show min x y = y by omega, show max x y = x by omega]

end Go.Proofs.Ytbceoigmcomlbaa
