/- Contracts: PutEdge of both sides. -/
import Derived.Test.YtjchabeiaajgiaaI2
import Derived.Test.YtjchabeiaajgiaaC4
import Derived.Test.YtjchabeiaajgiaaD1
import Derived.Test.YtjchabeiaajgiaaZ
import Derived.Deep.Cut
namespace Go.Proofs.Ytjchabeiaajgiaa
open Go.RowKit set_option linter.unusedVariables false set_option linter.unusedSimpArgs false

theorem ltE_total {a b : Int × Int} (h : a ≠ b) : ltE a b ∨ ltE b a := by
  obtain ⟨a1, a2⟩ := a
  obtain ⟨b1, b2⟩ := b
  simp only [ltE]
  have : ¬ (a1 = b1 ∧ a2 = b2) := fun e => h (by rw [e.1, e.2])
  omega
theorem ltE_asymm {a b : Int × Int} (h : ltE a b) : ¬ ltE b a := by unfold ltE at *; omega
theorem putL_ins : ∀ (es : Es) (e : Int × Int), e ∉ es → putL es e = insL es (locE es e) e
  | [], e, _ => by simp [putL, insL, locE]
  | x :: xs, e, h => by
    have hx : x ≠ e := fun h2 => h (by simp [h2])
    have hxs : e ∉ xs := fun h2 => h (by simp [h2])
    have ih := putL_ins xs e hxs
    unfold putL
    by_cases hl : ltE e x
    · have hn : ¬ ltE x e := ltE_asymm hl
      have : locE (x :: xs) e = 0 := by unfold locE; simp [List.findIdx_cons, hn]
      rw [if_pos hl, this]
      simp [insL]
    · have hn : ltE x e := (ltE_total hx).resolve_right hl
      have : locE (x :: xs) e = locE xs e + 1 := by unfold locE; simp [List.findIdx_cons, hn]
      rw [if_neg hl, this, ih]
      simp [insL]
theorem Valid.sorted {n : Int} {es : Es} (h : Valid n es) : ∀ (i j : Nat) (a b : Int × Int), i < j → es[i]? = some a → es[j]? = some b → ltE a b := by
  intro i j
  induction j with
  | zero => intro a b hij; omega
  | succ j ih =>
    intro a b hij ha hb
    have hj : j + 1 < es.length := (List.getElem?_eq_some_iff.1 hb).1
    have hd : es[j]? = some es[j] := List.getElem?_eq_getElem (by omega)
    have h1 := (h.2.2.2 (j + 1) hj b hb).2.2.2 es[j] (by omega) (by simp)
    rcases Nat.lt_succ_iff_lt_or_eq.1 hij with h2 | rfl
    · exact ltE_trans (ih a es[j] h2 ha hd) h1
    · rw [hd] at ha; injection ha with ha; subst ha; exact h1

/-- can the edge be put? -/
def PutP (n : Int) (es : Es) (e : Int × Int) : Prop := Valid n es ∧ e ∉ es ∧ Valid n (putL es e)
noncomputable instance (n : Int) (es : Es) (e : Int × Int) : Decidable (PutP n es e) := Classical.propDecidable _
/-- what PutEdge returns -/
noncomputable def putN (n : Int) (es : Es) (e : Int × Int) : Int := if PutP n es e then n else 0
noncomputable def putE (n : Int) (es : Es) (e : Int × Int) : Es := if PutP n es e then putL es e else []
noncomputable def putB (n : Int) (es : Es) (e : Int × Int) : Bool := decide (PutP n es e)
theorem putE_len (n : Int) (es : Es) (e : Int × Int) : (putE n es e).length ≤ 40 := by
  unfold putE; split
  · rename_i h; exact h.2.2.2.2.1
  · simp
theorem put_no {n : Int} {es : Es} {e : Int × Int} (h : ¬ PutP n es e) : putN n es e = 0 ∧ putE n es e = [] ∧ putB n es e = false := ⟨if_neg h, if_neg h, by simp [putB, h]⟩
theorem put_yes {n : Int} {es : Es} {e : Int × Int} (h : PutP n es e) : putN n es e = n ∧ putE n es e = putL es e ∧ putB n es e = true := ⟨if_pos h, if_pos h, by simp [putB, h]⟩

end Go.Proofs.Ytjchabeiaajgiaa
