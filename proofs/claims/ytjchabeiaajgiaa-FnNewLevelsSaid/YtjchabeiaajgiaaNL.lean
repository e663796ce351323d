/- Plain law: the neighbours of a node, as both find them. No program in sight. -/
import Derived.Test.YtjchabeiaajgiaaY1
import Derived.Test.YtjchabeiaajgiaaG2
namespace Go.Proofs.Ytjchabeiaajgiaa
set_option linter.unusedVariables false set_option linter.unusedSimpArgs false

/-- the neighbours of a node, ascending -/
def nextL (n : Nat) (es : Es) (v : Int) : List Int := ((List.range n).map Int.ofNat).filter fun y => decide (y ≠ v) && decide ((min y v, max y v) ∈ es)
/-- as the program gathers them -/
def gatherL (es : Es) (v : Int) : List Int := es.flatMap fun e => if e.1 = v then [e.2] else if e.2 = v then [e.1] else []
theorem sorted_ext : ∀ (xs ys : List Int), xs.Pairwise (· < ·) → ys.Pairwise (· < ·) → (∀ x, x ∈ xs ↔ x ∈ ys) → xs = ys
  | [], [], _, _, _ => rfl
  | [], y :: ys, _, _, h => by have := (h y).2 (by simp); simp at this
  | x :: xs, [], _, _, h => by have := (h x).1 (by simp); simp at this
  | x :: xs, y :: ys, hx, hy, h => by
    rw [List.pairwise_cons] at hx hy
    have e : x = y := by
      rcases List.mem_cons.1 ((h x).1 (by simp)) with e | e
      · exact e
      · rcases List.mem_cons.1 ((h y).2 (by simp)) with f | f
        · exact f.symm
        · have := hy.1 x e; have := hx.1 y f; omega
    subst e
    have : xs = ys := sorted_ext xs ys hx.2 hy.2 fun z => by
      constructor
      · intro hz
        rcases List.mem_cons.1 ((h z).1 (by simp [hz])) with e | e
        · subst e; exact absurd (hx.1 z hz) (by omega)
        · exact e
      · intro hz
        rcases List.mem_cons.1 ((h z).2 (by simp [hz])) with e | e
        · subst e; exact absurd (hy.1 z hz) (by omega)
        · exact e
    rw [this]
theorem nextL_sorted (n : Nat) (es : Es) (v : Int) : (nextL n es v).Pairwise (· < ·) := by
  unfold nextL
  refine List.Pairwise.filter _ ?_
  rw [List.pairwise_map]
  refine List.pairwise_iff_getElem.2 fun i j hi hj hij => ?_
  simp
  omega
theorem mem_nextL {n : Nat} {es : Es} {v y : Int} : y ∈ nextL n es v ↔ 0 ≤ y ∧ y < n ∧ y ≠ v ∧ (min y v, max y v) ∈ es := by
  unfold nextL
  simp only [List.mem_filter, List.mem_map, List.mem_range, Bool.and_eq_true, decide_eq_true_eq]
  constructor
  · rintro ⟨⟨k, hk, rfl⟩, h1, h2⟩
    exact ⟨Int.natCast_nonneg _, by show ((k : Nat) : Int) < n; omega, h1, h2⟩
  · rintro ⟨h0, h1, h2, h3⟩
    exact ⟨⟨y.toNat, by omega, by show ((y.toNat : Nat) : Int) = y; omega⟩, h2, h3⟩
theorem mem_gatherL {es : Es} {v y : Int} : y ∈ gatherL es v ↔ ∃ e ∈ es, (e.1 = v ∧ e.2 = y) ∨ (e.1 ≠ v ∧ e.2 = v ∧ e.1 = y) := by
  unfold gatherL
  simp only [List.mem_flatMap]
  constructor
  · rintro ⟨e, he, h⟩
    refine ⟨e, he, ?_⟩
    split at h
    · rename_i h1; simp at h; exact .inl ⟨h1, h.symm⟩
    · split at h
      · rename_i h1 h2; simp at h; exact .inr ⟨h1, h2, h.symm⟩
      · simp at h
  · rintro ⟨e, he, h⟩
    refine ⟨e, he, ?_⟩
    rcases h with ⟨h1, h2⟩ | ⟨h1, h2, h3⟩
    · rw [if_pos h1]; simp [h2]
    · rw [if_neg h1, if_pos h2]; simp [h3]
theorem gatherL_nodup : ∀ (es : Es), es.Nodup → (∀ e ∈ es, e.1 < e.2) → ∀ v, (gatherL es v).Nodup
  | [], _, _, v => by simp [gatherL]
  | e :: es, hn, ho, v => by
    rw [List.nodup_cons] at hn
    have ih := gatherL_nodup es hn.2 (fun f hf => ho f (by simp [hf])) v
    have hne : ∀ f ∈ es, f ≠ e := fun f hf h => hn.1 (h ▸ hf)
    have h1 : gatherL (e :: es) v = (if e.1 = v then [e.2] else if e.2 = v then [e.1] else []) ++ gatherL es v := rfl
    rw [h1]
    have oe := ho e (by simp)
    have key : ∀ y, ((e.1 = v ∧ e.2 = y) ∨ (e.1 ≠ v ∧ e.2 = v ∧ e.1 = y)) → y ∉ gatherL es v := fun y hy hm => by
      obtain ⟨f, hf, h⟩ := mem_gatherL.1 hm
      have of := ho f (by simp [hf])
      apply hne f hf
      apply Prod.ext <;> omega
    split
    · rename_i h2
      simp only [List.cons_append, List.nil_append, List.nodup_cons]
      exact ⟨key _ (.inl ⟨h2, rfl⟩), ih⟩
    · split
      · rename_i h2 h3
        simp only [List.cons_append, List.nil_append, List.nodup_cons]
        exact ⟨key _ (.inr ⟨h2, h3, rfl⟩), ih⟩
      · simpa using ih
theorem gather_next {n : Nat} {es : Es} (hn : es.Nodup) (ho : ∀ e ∈ es, 0 ≤ e.1 ∧ e.1 < e.2 ∧ e.2 < n) (v y : Int) : y ∈ gatherL es v ↔ y ∈ nextL n es v := by
  rw [mem_gatherL, mem_nextL]
  constructor
  · rintro ⟨e, he, h⟩
    have := ho e he
    have e1 : e = (min y v, max y v) := by apply Prod.ext <;> simp <;> omega
    exact ⟨by omega, by omega, by omega, e1 ▸ he⟩
  · rintro ⟨h0, h1, h2, h3⟩
    refine ⟨_, h3, ?_⟩
    simp only
    omega
theorem strict_of {xs : List Int} (h : xs.Pairwise (· ≤ ·)) (hn : xs.Nodup) : xs.Pairwise (· < ·) :=
  (h.and hn).imp fun {a b} h => by have := h.1; have := h.2; omega
end Go.Proofs.Ytjchabeiaajgiaa
