import Derived.Test.YtbceoigmcomlbaaJ4
/- Contracts: what a valid graph is; GraphValid of the reference and of the program. -/
namespace Go.Proofs.Ytbceoigmcomlbaa
open Go.RowKit

/-- edge j of a row stands as it must in a graph of n nodes -/
def okAt (n : Int) (es : List (Int × Int)) (j : Nat) : Prop :=
  ∀ e, es[j]? = some e → 0 ≤ e.1 ∧ e.1 < e.2 ∧ e.2 < n ∧ ∀ d, 0 < j → es[j - 1]? = some d → ltE d e
/-- a valid graph -/
def Valid (n : Int) (es : List (Int × Int)) : Prop := 1 ≤ n ∧ n ≤ 16 ∧ es.length ≤ 40 ∧ ∀ j, j < es.length → okAt n es j
noncomputable instance (n : Int) (es : List (Int × Int)) : Decidable (Valid n es) := Classical.propDecidable _

theorem valid_fix {n : Int} {es : List (Int × Int)} (h : ¬ (1 ≤ n ∧ n ≤ 16 ∧ es.length ≤ 40)) : decide (Valid n es) = false := by
  simp only [decide_eq_false_iff_not]; exact fun hv => h ⟨hv.1, hv.2.1, hv.2.2.1⟩

theorem valid_no {n : Int} {es : List (Int × Int)} {k : Nat} {e : Int × Int} (he : es[k]? = some e)
    (h : ¬ (0 ≤ e.1 ∧ e.1 < e.2 ∧ e.2 < n ∧ ∀ d, 0 < k → es[k - 1]? = some d → ltE d e)) : decide (Valid n es) = false := by
  simp only [decide_eq_false_iff_not]
  exact fun hv => h (hv.2.2.2 k ((List.getElem?_eq_some_iff.1 he).1) e he)
theorem valid_snoc {n : Int} {es : List (Int × Int)} {k : Nat} {e : Int × Int} (hok : ∀ j, j < k → okAt n es j) (he : es[k]? = some e)
    (h : 0 ≤ e.1 ∧ e.1 < e.2 ∧ e.2 < n ∧ ∀ d, 0 < k → es[k - 1]? = some d → ltE d e) : ∀ j, j < k + 1 → okAt n es j := fun j hj => by
  rcases Nat.lt_succ_iff_lt_or_eq.1 hj with h' | rfl
  · exact hok j h'
  · intro e' he'
    rw [he] at he'; injection he' with he'; subst he'
    exact h

end Go.Proofs.Ytbceoigmcomlbaa
