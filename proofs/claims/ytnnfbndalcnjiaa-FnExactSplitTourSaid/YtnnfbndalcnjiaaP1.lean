/- Contracts: the labels of the program (parts) and of the reference (l2Labels). -/
import Derived.Test.YtnnfbndalcnjiaaG3
import Derived.Test.YtnnfbndalcnjiaaL
import Derived.RegionTactic
import Derived.BigRegion
namespace Go.Proofs.Ytnnfbndalcnjiaa
open Go.RowKit

theorem relax_nat (M : List Int) (x y : Nat) : relax1 M ((x : Int), (y : Int)) = (M.set x (min (lk M x) (lk M y))).set y (min (lk M x) (lk M y)) := by
  simp [relax1, up]
theorem foldl_relax_length : ∀ (l : Es) (L : List Int), (l.foldl relax1 L).length = L.length
  | [], _ => rfl
  | e :: l, L => by rw [List.foldl_cons, foldl_relax_length l, relax1_length]
theorem idL_length (n : Nat) : (idL n).length = n := by simp [idL]
theorem idL_succ (n : Nat) : idL (n + 1) = idL n ++ [(n : Int)] := by simp [idL, List.range_succ]

end Go.Proofs.Ytnnfbndalcnjiaa
