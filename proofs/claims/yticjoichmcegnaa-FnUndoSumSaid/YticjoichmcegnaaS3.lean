/- FnExactNewSets: the walk. -/
import Derived.Test.YticjoichmcegnaaS2
namespace Go.Proofs.Yticjoichmcegnaa
open Go.RowKit

theorem eqSets_n (A B C A' B' C' : Option Addr) (ca cb cc ca' cb' cc' n1 n2 n3 n1' n2' n3' : Nat) (xs ys xs' ys' : List Int) (zs zs' : List (Int × Int)) (w : World) (hA : IntsAt w A xs) (hB : IntsAt w B ys) (hC : EdgesAt w C zs) (hA' : IntsAt w A' xs') (hB' : IntsAt w B' ys') (hC' : EdgesAt w C' zs')
    (e1 : xs.length = n1) (e2 : ys.length = n2) (e3 : zs.length = n3) (e1' : xs'.length = n1') (e2' : ys'.length = n2') (e3' : zs'.length = n3')
    (h1 : n1 ≤ 1048576) (h2 : n2 ≤ 1048576) (h3 : n3 ≤ 1048576) (h1' : n1' ≤ 1048576) (h2' : n2' ≤ 1048576) (h3' : n3' ≤ 1048576) :
    Calls Try.prog 25 #[St A n1 ca B n2 cb C n3 cc, St A' n1' ca' B' n2' cb' C' n3' cc'] w (RetV (.bool (decide (xs = xs' ∧ ys = ys' ∧ zs = zs'))) w) := by
  subst e1 e2 e3 e1' e2' e3'
  exact eqSets_c A B C A' B' C' ca cb cc ca' cb' cc' xs ys xs' ys' zs zs' w hA hB hC hA' hB' hC' h1 h2 h3 h1' h2' h3'
theorem niE (w : World) : EdgesAt w none [] := fun h => by simp at h
theorem niI (w : World) : IntsAt w none [] := fun h => by simp at h

/-- the sets of n elements are the sets of n elements -/
theorem eqReps_c (A B A' B' : Option Addr) (ca cb ca' cb' n : Nat) (w : World) (hn : n ≤ 16) (hA : IntsAt w A (reps n (-1))) (hB : IntsAt w B (reps n 1)) (hA' : IntsAt w A' (reps n (-1))) (hB' : IntsAt w B' (reps n 1)) :
    Calls Try.prog 25 #[St A n ca B n cb none 0 0, St A' n ca' B' n cb' none 0 0] w (RetV (.bool true) w) := by
  have h := eqSets_n A B none A' B' none ca cb 0 ca' cb' 0 n n 0 n n 0 (reps n (-1)) (reps n 1) (reps n (-1)) (reps n 1) [] [] w hA hB (niE w) hA' hB' (niE w) (reps_length _ _) (reps_length _ _) rfl (reps_length _ _) (reps_length _ _) rfl (by omega) (by omega) (by omega) (by omega) (by omega) (by omega)
  simpa using h

end Go.Proofs.Yticjoichmcegnaa
