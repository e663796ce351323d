/- Contracts: l1Edge, eqEdge. -/
import Derived.Test.YtekepbcmjfdcjaaDoorProg
import Derived.Test.YtekepbcmjfdcjaaDoorK
namespace Go.Proofs.YtekepbcmjfdcjaaDoor
open Go.RowKit

theorem l1Edge_c (x y : Int) (w : World) : Calls Tryd.prog 50 #[V x, V y] w (RetV (Ed (min x y) (max x y)) w) := by
  by_cases h1 : x < y
  · go_enter Tryd.func50, Tryd.ntmps50
    go_wp2
    refine bodyPost_ret (v := Ed x y) (by simp [results, Tryd.f50, go_sem, *]) rfl ?_
    refine RetV.mk ?_ (by repeat (first | exact Nx.refl _ | assumption | apply Nx.alloc | apply Nx.drew | apply Nx.drewN | (refine Nx.setCell ?_ (by first | (simp; done) | (simp; omega) | omega) _) | refine Nx.trans ?_ (by assumption)))
    rw [show min x y = x by omega, show max x y = y by omega]
  · go_enter Tryd.func50, Tryd.ntmps50
    go_wp2
    refine bodyPost_ret (v := Ed y x) (by simp [results, Tryd.f50, go_sem, *]) rfl ?_
    refine RetV.mk ?_ (by repeat (first | exact Nx.refl _ | assumption | apply Nx.alloc | apply Nx.drew | apply Nx.drewN | (refine Nx.setCell ?_ (by first | (simp; done) | (simp; omega) | omega) _) | refine Nx.trans ?_ (by assumption)))
    rw [show min x y = y by omega, show max x y = x by omega]

theorem eqEdge_c (a1 a2 b1 b2 : Int) (w : World) : Calls Tryd.prog 41 #[Ed a1 a2, Ed b1 b2] w (RetV (.bool (decide (a1 = b1 ∧ a2 = b2))) w) := by
  go_enter Tryd.func41, Tryd.ntmps41
  go_wp2
  all_goals go_ret
  all_goals exact RetV.bool (by simp_all) (by repeat (first | exact Nx.refl _ | assumption | apply Nx.alloc | apply Nx.drew | apply Nx.drewN | (refine Nx.setCell ?_ (by first | (simp; done) | (simp; omega) | omega) _) | refine Nx.trans ?_ (by assumption)))

end Go.Proofs.YtekepbcmjfdcjaaDoor
