/- Contract: PartCount of the program. -/
import Derived.Test.YticjoichmcegnaaP3
import Derived.Test.YticjoichmcegnaaH
namespace Go.Proofs.Yticjoichmcegnaa
open Go.RowKit

/-- how many of the first k entries stand at their own place -/
def cntTo (L : List Int) (k : Nat) : Nat := (List.range k).countP fun (i : Nat) => L[i]? == some (i : Int)
theorem cntTo_succ (L : List Int) (k : Nat) : cntTo L (k + 1) = cntTo L k + if L[k]? == some (k : Int) then 1 else 0 := by
  unfold cntTo
  rw [List.range_succ, List.countP_append]
  simp [List.countP_cons]
theorem cntTo_le (L : List Int) (k : Nat) : cntTo L k ≤ k := by
  have := List.countP_le_length (p := fun (i : Nat) => L[i]? == some (i : Int)) (l := List.range k)
  simpa [cntTo] using this
/-- what PartCount returns -/
noncomputable def partCnt (n : Int) (es : List (Int × Int)) : Nat := cntTo (partsOf n es) (partsOf n es).length

end Go.Proofs.Yticjoichmcegnaa
