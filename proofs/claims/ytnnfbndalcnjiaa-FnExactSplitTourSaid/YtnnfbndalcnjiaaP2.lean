/- Contract: the labels of the reference (l2Labels). -/
import Derived.Test.YtnnfbndalcnjiaaP1
import Derived.Test.YtnnfbndalcnjiaaL2
namespace Go.Proofs.Ytnnfbndalcnjiaa
open Go.RowKit

/-- what the reference knows behind some edges of a round that began at L -/
def Turned (n : Nat) (es : Es) (L M : List Int) (l : Es) (b : Bool) : Prop :=
  Lab0 n es M ∧ (b = false → M = L ∧ ∀ e ∈ l, lk L e.1 = lk L e.2) ∧ (b = true → sumN M < sumN L)
theorem Turned.start {n : Nat} {es : Es} {L : List Int} (h : Lab0 n es L) : Turned n es L L [] false := ⟨h, fun _ => ⟨rfl, by simp⟩, by simp⟩
theorem Turned.same {n : Nat} {es : Es} {L M : List Int} {l : Es} {b : Bool} {e : Int × Int} (h : Turned n es L M l b) (he : lk M e.1 = lk M e.2) : Turned n es L M (l ++ [e]) b := by
  refine ⟨h.1, fun hb => ?_, h.2.2⟩
  obtain ⟨rfl, h2⟩ := h.2.1 hb
  refine ⟨rfl, fun x hx => ?_⟩
  rcases List.mem_append.1 hx with hx | hx
  · exact h2 x hx
  · simp at hx; subst hx; exact he
theorem Turned.turn {n : Nat} {es : Es} {L M M' : List Int} {l : Es} {b : Bool} {e : Int × Int} (h : Turned n es L M l b) (hM : Lab0 n es M') (hs : sumN M' < sumN M) : Turned n es L M' (l ++ [e]) true := by
  refine ⟨hM, by simp, fun _ => ?_⟩
  cases b with
  | false => obtain ⟨rfl, _⟩ := h.2.1 rfl; exact hs
  | true => have := h.2.2 rfl; omega

end Go.Proofs.Ytnnfbndalcnjiaa
