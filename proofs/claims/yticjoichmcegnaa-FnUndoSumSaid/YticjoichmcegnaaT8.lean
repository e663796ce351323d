/- Plain law: what the reference's SetsValid does with a step is what the program does with it. No program in sight. -/
import Derived.Test.YticjoichmcegnaaT1
import Derived.Test.YticjoichmcegnaaT6
namespace Go.Proofs.Yticjoichmcegnaa
open Go.RowKit set_option linter.unusedVariables false set_option linter.unusedSimpArgs false

/-- two sets put together, by their roots -/
def unS (s : SS) (a b : Int) : SS :=
  if a = b then ⟨s.P, s.Z, s.T ++ [(-1, a)]⟩
  else if lk s.Z a < lk s.Z b ∨ (lk s.Z a = lk s.Z b ∧ b < a) then ⟨up s.P a b, up s.Z b (lk s.Z b + lk s.Z a), s.T ++ [(a, b)]⟩
  else ⟨up s.P b a, up s.Z a (lk s.Z a + lk s.Z b), s.T ++ [(b, a)]⟩
/-- the element that a step is about -/
def elt (t : Int × Int) : Int := if t.1 < 0 then t.2 else t.1

theorem step_yes {n : Nat} {s : SS} (h : Inv n s) {c r : Int} (hk : stOk s.P s.Z s.T.length (c, r) = true) :
    0 ≤ elt (c, r) ∧ elt (c, r) < n ∧ 0 ≤ r ∧ r < n ∧ lk s.P r = -1 ∧ ∀ ra, Up s.P (elt (c, r)) ra → unS s ra r = stS s (c, r) := by
  obtain ⟨hm, hr, hc⟩ := stOk_parts hk
  simp only at hr hc
  obtain ⟨r0, r1, r2⟩ := isRt_iff.1 hr
  rw [h.lp] at r1
  have hst : stS s (c, r) = ⟨stP s.P (c, r), stZ s.Z (c, r), s.T ++ [(c, r)]⟩ := by unfold stS; rw [if_pos hk]
  rcases hc with rfl | ⟨hne, hcr, hab⟩
  · have he : elt (-1, r) = r := by simp [elt]
    rw [he]
    refine ⟨r0, r1, r0, r1, r2, fun ra hra => ?_⟩
    obtain rfl := hra.only (.root r2)
    rw [hst]
    unfold unS
    simp [stP, stZ]
  · obtain ⟨c0, c1, c2⟩ := isRt_iff.1 hcr
    rw [h.lp] at c1
    have he : elt (c, r) = c := by simp [elt]; omega
    rw [he]
    refine ⟨c0, c1, r0, r1, r2, fun ra hra => ?_⟩
    obtain rfl := hra.only (.root c2)
    rw [hst]
    have hc1 : ¬ ra = -1 := by omega
    have hab' : lk s.Z ra < lk s.Z r ∨ (lk s.Z ra = lk s.Z r ∧ r < ra) := by
      unfold isAb at hab
      simp at hab
      rcases hab with h | ⟨h1, h2⟩
      · exact .inl h
      · exact .inr ⟨h1.symm, h2⟩
    unfold unS
    rw [if_neg hne, if_pos hab']
    simp [stP, stZ, hc1]
theorem snoc_inj {α : Type} {l : List α} {a b : α} (h : l ++ [a] = l ++ [b]) : a = b := by simpa using h
theorem step_no {n : Nat} {s : SS} (h : Inv n s) {c r : Int} (h100 : s.T.length ≠ 100) (hk : stOk s.P s.Z s.T.length (c, r) = false) (hr0 : 0 ≤ r) (hr1 : r < n) (hr2 : lk s.P r = -1) (ra : Int) (hra : Up s.P (elt (c, r)) ra) (he0 : 0 ≤ elt (c, r)) (he1 : elt (c, r) < n) :
    (unS s ra r).T ≠ s.T ++ [(c, r)] := by
  intro heq
  have hrt : isRt s.P r = true := isRt_iff.2 ⟨hr0, by rw [h.lp]; exact hr1, hr2⟩
  have no : ∀ {b : Bool}, (decide (c = -1) || (decide (c ≠ r) && isRt s.P c && isAb s.Z r c)) = true → False := fun {b} hh => by
    have : stOk s.P s.Z s.T.length (c, r) = true := by
      unfold stOk
      simp only [hrt, Bool.and_true]
      simp only [Bool.and_eq_true, decide_eq_true_eq]
      exact ⟨h100, hh⟩
    rw [this] at hk; cases hk
  by_cases hc : c < 0
  · have he : elt (c, r) = r := by simp [elt, hc]
    rw [he] at hra
    obtain rfl := hra.only (.root hr2)
    unfold unS at heq
    rw [if_pos rfl] at heq
    have := snoc_inj heq
    simp at this
    exact no (b := true) (by simp [← this])
  · have he : elt (c, r) = c := by simp [elt, hc]
    rw [he] at hra he0 he1
    unfold unS at heq
    by_cases e1 : ra = r
    · rw [if_pos e1] at heq
      have := snoc_inj heq
      simp at this
      omega
    · rw [if_neg e1] at heq
      split at heq
      · rename_i hab
        have h2 := snoc_inj heq
        simp at h2
        subst h2
        refine no (b := true) ?_
        have hrc : isRt s.P ra = true := isRt_iff.2 ⟨he0, by rw [h.lp]; exact he1, hra.end_⟩
        have hab2 : isAb s.Z r ra = true := by
          unfold isAb
          simp
          rcases hab with h | ⟨h1, h2⟩
          · exact .inl h
          · exact .inr ⟨h1.symm, h2⟩
        simp [hrc, hab2, e1]
      · have h2 := snoc_inj heq
        simp at h2
        exact e1 h2.2
end Go.Proofs.Yticjoichmcegnaa
