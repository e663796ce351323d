import Derived.Test.YtbceoigmcomlbaaJ5
import Derived.Test.YtbceoigmcomlbaaJ6
import Derived.Test.YtbceoigmcomlbaaJ2
import Derived.RegionTactic
import Derived.BigRegion
/- Contracts: sizes, copies and comparisons that the exact laws use, over graphs; l1Find. -/
namespace Go.Proofs.Ytbceoigmcomlbaa
open Go.RowKit

/-- what is left of a size -/
def szL (n : Nat) (left : Int) : Int := if left - n < 0 then -1 else left - n
theorem szL_ok {n : Nat} {left : Int} (h : ¬ szL n left < 0) : (n : Int) ≤ left ∧ 0 ≤ szL n left ∧ szL n left ≤ left := by
  unfold szL at *
  split at h
  · omega
  · rename_i h1; rw [if_neg h1]; omega
/-- the call returns a row of edges of its own -/
def RetE (t : TypeId) (es : List (Int × Int)) (w : World) (e : Ending) (w' : World) : Prop :=
  ∃ A c, e = .returned (.slice A es.length c) ∧ OwnE w' w.heap.size t A c es ∧ Nx w w'
/-- .. of numbers -/
def RetI (t : TypeId) (xs : List Int) (w : World) (e : Ending) (w' : World) : Prop :=
  ∃ A c, e = .returned (.slice A xs.length c) ∧ OwnI w' w.heap.size t A c xs ∧ Nx w w'

theorem infoE : (Try.prog.info? 30).map (fun i => (i.zero, i.size, i.bytes)) = some (some (.agg #[.int .i64 0, .int .i64 0]), 2, 16) := by kernel_rfl
theorem infoI : (Try.prog.info? 3).map (fun i => (i.zero, i.size, i.bytes)) = some (some (.int .i64 0), 1, 8) := by kernel_rfl

/-- the call returns a graph, its row its own -/
def RetG (t : TypeId) (n : Int) (es : List (Int × Int)) (w : World) (e : Ending) (w' : World) : Prop :=
  ∃ A c, e = .returned (.agg #[V n, .slice A es.length c]) ∧ OwnE w' w.heap.size t A c es ∧ Nx w w'

theorem pref_ne {α : Type} {xs ys : List α} {k : Nat} {a b : α} (ha : xs[k]? = some a) (hb : ys[k]? = some b) (h : a ≠ b) : xs ≠ ys := fun e => by
  subst e; rw [ha] at hb; injection hb with hb; exact h hb
theorem pref_step {α : Type} {xs ys : List α} {k : Nat} {a : α} (hp : ∀ j, j < k → xs[j]? = ys[j]?) (ha : xs[k]? = some a) (hb : ys[k]? = some a) : ∀ j, j < k + 1 → xs[j]? = ys[j]? := fun j hj => by
  rcases Nat.lt_succ_iff_lt_or_eq.1 hj with h | rfl
  · exact hp j h
  · rw [ha, hb]

end Go.Proofs.Ytbceoigmcomlbaa

/- Contracts: the labels of the program (parts) and of the reference (l2Labels). -/
namespace Go.Proofs.Ytbceoigmcomlbaa
open Go.RowKit

theorem relax_nat (M : List Int) (x y : Nat) : relax1 M ((x : Int), (y : Int)) = (M.set x (min (lk M x) (lk M y))).set y (min (lk M x) (lk M y)) := by
  simp [relax1, up]
theorem foldl_relax_length : ∀ (l : Es) (L : List Int), (l.foldl relax1 L).length = L.length
  | [], _ => rfl
  | e :: l, L => by rw [List.foldl_cons, foldl_relax_length l, relax1_length]
theorem idL_length (n : Nat) : (idL n).length = n := by simp [idL]
theorem idL_succ (n : Nat) : idL (n + 1) = idL n ++ [(n : Int)] := by simp [idL, List.range_succ]

end Go.Proofs.Ytbceoigmcomlbaa
