/- Plain law: a turn of an edge, as the reference makes it; the sum of the labels goes down. -/
import Derived.Test.YtjchabeiaajgiaaL
namespace Go.Proofs.Ytjchabeiaajgiaa

def sumN (L : List Int) : Nat := (L.map Int.toNat).sum
theorem sumN_set : ∀ (L : List Int) (i : Nat) (h : i < L.length) (v : Int), sumN (L.set i v) + L[i].toNat = sumN L + v.toNat
  | [], i, h, _ => by simp at h
  | a :: L, 0, _, v => by simp [sumN]; omega
  | a :: L, i + 1, h, v => by
    have := sumN_set L i (by simpa using h) v
    simp [sumN] at this ⊢
    omega
theorem up_self {L : List Int} {x : Int} (h0 : 0 ≤ x) (h : x < L.length) : up L x (lk L x) = L := by
  unfold up lk
  apply List.ext_getElem?
  intro j
  rw [List.getElem?_set]
  split
  · rename_i hj; subst hj; simp [show x.toNat < L.length by omega]
  · rfl
theorem sumN_up {L : List Int} {x v : Int} (h0 : 0 ≤ x) (h : x < L.length) (h1 : 0 ≤ v) (h2 : v < lk L x) : sumN (up L x v) < sumN L := by
  have := sumN_set L x.toNat (by omega) v
  unfold lk at h2
  rw [List.getElem?_eq_getElem (by omega)] at h2
  simp at h2
  unfold up
  omega
theorem relax_lt {n : Nat} {L : List Int} {e : Int × Int} (hl : L.length = n) (he : 0 ≤ e.1 ∧ e.1 < n ∧ 0 ≤ e.2 ∧ e.2 < n) (h : lk L e.1 < lk L e.2) : relax1 L e = up L e.2 (lk L e.1) := by
  unfold relax1
  rw [Int.min_eq_left (by omega), up_self he.1 (by omega)]
theorem relax_gt {n : Nat} {L : List Int} {e : Int × Int} (hl : L.length = n) (he : 0 ≤ e.1 ∧ e.1 < n ∧ 0 ≤ e.2 ∧ e.2 < n) (hne : e.1 ≠ e.2) (h : lk L e.2 < lk L e.1) : relax1 L e = up L e.1 (lk L e.2) := by
  unfold relax1
  rw [Int.min_eq_right (by omega)]
  have h1 : lk (up L e.1 (lk L e.2)) e.2 = lk L e.2 := lk_up_ne he.1 he.2.2.1 hne
  have h2 : (up L e.1 (lk L e.2)).length = L.length := up_length _ _ _
  have h3 := up_self (L := up L e.1 (lk L e.2)) he.2.2.1 (by omega)
  rw [h1] at h3
  exact h3
theorem relax_eq {n : Nat} {L : List Int} {e : Int × Int} (hl : L.length = n) (he : 0 ≤ e.1 ∧ e.1 < n ∧ 0 ≤ e.2 ∧ e.2 < n) (h : lk L e.1 = lk L e.2) : relax1 L e = L := by
  unfold relax1
  rw [← h, Int.min_self, up_self he.1 (by omega)]
  rw [h]; exact up_self he.2.2.1 (by omega)
end Go.Proofs.Ytjchabeiaajgiaa
