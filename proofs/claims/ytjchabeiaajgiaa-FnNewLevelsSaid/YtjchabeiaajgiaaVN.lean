/- Plain: the edges of a valid graph are in order, each once. -/
import Derived.Test.YtjchabeiaajgiaaP3
namespace Go.Proofs.Ytjchabeiaajgiaa
set_option linter.unusedVariables false set_option linter.unusedSimpArgs false

theorem Valid.srtJ {n : Int} {es : Es} (h : Valid n es) : ∀ (i j : Nat) (a b : Int × Int), i < j → es[i]? = some a → es[j]? = some b → ltE a b := by
  intro i j a b hij
  induction j generalizing b with
  | zero => omega
  | succ j ih =>
    intro ha hb
    have hj1 : j + 1 < es.length := (List.getElem?_eq_some_iff.1 hb).1
    obtain ⟨d, hd⟩ : ∃ d, es[j]? = some d := ⟨_, List.getElem?_eq_getElem (by omega)⟩
    have hok := h.2.2.2 (j + 1) hj1
    unfold okAt at hok
    have h2 : ltE d b := by
      have := hok
      simp [hb, hd] at this
      exact this.2.2.2
    rcases Nat.lt_succ_iff_lt_or_eq.1 hij with hlt | rfl
    · have h1 := ih d hlt ha hd
      unfold ltE at *
      omega
    · rw [ha] at hd; injection hd with hd; rw [hd]; exact h2
theorem Valid.prwJ {n : Int} {es : Es} (h : Valid n es) : es.Pairwise ltE := List.pairwise_iff_getElem.2 fun i j hi hj hij => h.srtJ i j _ _ hij (List.getElem?_eq_getElem hi) (List.getElem?_eq_getElem hj)
theorem Valid.nodupJ {n : Int} {es : Es} (h : Valid n es) : es.Nodup := h.prwJ.imp fun {a b} hab e => by subst e; unfold ltE at hab; omega
theorem Valid.endsJ {n : Int} {es : Es} (h : Valid n es) : ∀ e ∈ es, 0 ≤ e.1 ∧ e.1 < e.2 ∧ e.2 < (n.toNat : Int) := fun e he => by
  have := h.pair he; have := h.nat; omega
end Go.Proofs.Ytjchabeiaajgiaa
