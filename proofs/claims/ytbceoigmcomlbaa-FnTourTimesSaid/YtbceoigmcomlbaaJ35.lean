import Derived.Test.YtbceoigmcomlbaaJ7
import Derived.Test.YtbceoigmcomlbaaJ9
/- Contracts: PartsOf of the program. -/
namespace Go.Proofs.Ytbceoigmcomlbaa
open Go.RowKit

theorem Valid.pair {n : Int} {es : List (Int × Int)} (h : Valid n es) {e : Int × Int} (he : e ∈ es) : 0 ≤ e.1 ∧ e.1 < e.2 ∧ e.2 < n := by
  obtain ⟨j, hj, rfl⟩ := List.getElem_of_mem he
  have := h.2.2.2 j hj es[j] (List.getElem?_eq_getElem hj)
  exact ⟨this.1, this.2.1, this.2.2.1⟩
theorem Valid.inR {n : Int} {es : List (Int × Int)} (h : Valid n es) : InR n.toNat es := fun e he => by
  have := h.pair he
  have := h.1
  omega
theorem Valid.apart {n : Int} {es : List (Int × Int)} (h : Valid n es) : ∀ e ∈ es, e.1 ≠ e.2 := fun e he => by have := h.pair he; omega
theorem Valid.nat {n : Int} {es : List (Int × Int)} (h : Valid n es) : ((n.toNat : Nat) : Int) = n := by have := h.1; omega

open Classical in
/-- what PartsOf returns -/
noncomputable def partsOf (n : Int) (es : List (Int × Int)) : List Int := if Valid n es then labels n.toNat es else []
theorem partsOf_yes {n : Int} {es : List (Int × Int)} (h : Valid n es) : partsOf n es = labels n.toNat es := if_pos h
theorem partsOf_no {n : Int} {es : List (Int × Int)} (h : ¬ Valid n es) : partsOf n es = [] := if_neg h
theorem partsOf_length (n : Int) (es : List (Int × Int)) : (partsOf n es).length ≤ 16 := by
  by_cases h : Valid n es
  · rw [partsOf_yes h, labels_length h.inR]; have := h.2.1; omega
  · rw [partsOf_no h]; simp

end Go.Proofs.Ytbceoigmcomlbaa

/- Contract: PartCount of the program. -/
namespace Go.Proofs.Ytbceoigmcomlbaa
open Go.RowKit

/-- how many of the first k entries stand at their own place -/
def cntTo (L : List Int) (k : Nat) : Nat := (List.range k).countP fun (i : Nat) => L[i]? == some (i : Int)
theorem cntTo_succ (L : List Int) (k : Nat) : cntTo L (k + 1) = cntTo L k + if L[k]? == some (k : Int) then 1 else 0 := by
  unfold cntTo
  rw [List.range_succ, List.countP_append]
  simp [List.countP_cons]
theorem cntTo_le (L : List Int) (k : Nat) : cntTo L k ≤ k := by
  have := List.countP_le_length (p := fun (i : Nat) => L[i]? == some (i : Int)) (l := List.range k)
  simpa [cntTo] using this
/-- what PartCount returns -/
noncomputable def partCnt (n : Int) (es : List (Int × Int)) : Nat := cntTo (partsOf n es) (partsOf n es).length

end Go.Proofs.Ytbceoigmcomlbaa
