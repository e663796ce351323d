/- Contract: PartCount of the program. -/
import Derived.Test.YtjchabeiaajgiaaP3
import Derived.Test.YtjchabeiaajgiaaH
namespace Go.Proofs.Ytjchabeiaajgiaa
open Go.RowKit

/-- how many of the first k entries stand at their own place -/
def cntTo (L : List Int) (k : Nat) : Nat := (List.range k).countP fun (i : Nat) => L[i]? == some (i : Int)
theorem cntTo_succ (L : List Int) (k : Nat) : cntTo L (k + 1) = cntTo L k + if L[k]? == some (k : Int) then 1 else 0 := by
  unfold cntTo
  rw [List.range_succ, List.countP_append]
  simp [List.countP_cons]
theorem cntTo_le (L : List Int) (k : Nat) : cntTo L k ≤ k := by
  have := List.countP_le_length (p := fun (i : Nat) => L[i]? == some (i : Int)) (l := List.range k)
  simpa [cntTo] using this
/-- what PartCount returns -/
noncomputable def partCnt (n : Int) (es : List (Int × Int)) : Nat := cntTo (partsOf n es) (partsOf n es).length

set_option maxRecDepth 100000 in
set_option maxHeartbeats 1000000 in
theorem iPartCount_c (n : Int) (A : Option Addr) (c : Nat) (es : List (Int × Int)) (w : World) (hx : EdgesAt w A es) (hl : es.length ≤ 1048576) :
    Calls Try.prog 30 #[.agg #[V n, .slice A es.length c]] w (RetV (V (partCnt n es)) w) := by
  have hL := partsOf_length n es
  go_enter Try.func30, Try.ntmps30
  go_wp2_with fail
  refine (iPartsOf_c n A c es _ (hx.nx (by repeat (first | exact Nx.refl _ | assumption | apply Nx.alloc | apply Nx.drew | apply Nx.drewN | (refine Nx.setCell ?_ (by first | (simp; done) | (simp; omega) | omega) _) | refine Nx.trans ?_ (by assumption)))) hl).mono ?_
  rintro e w1 ⟨A', c', rfl, ho, hn1⟩
  have hn : Nx w w1 := (by repeat (first | exact Nx.refl _ | assumption | apply Nx.alloc | apply Nx.drew | apply Nx.drewN | (refine Nx.setCell ?_ (by first | (simp; done) | (simp; omega) | omega) _) | refine Nx.trans ?_ (by assumption)))
  have hi := ho.intsAt
  have hpc : partCnt n es = cntTo (partsOf n es) (partsOf n es).length := rfl
  generalize partsOf n es = L at *
  have Hpc := Lib.hid hpc
  clear ho hn1 hx hpc
  go_wp2
  go_loopg [3, 9] L.length (fun gk cv i wr => ∃ (j : Nat), j + gk = L.length ∧ i = .int .i64 j ∧ cv = V (cntTo L j) ∧ Nx w1 wr)
  case atStart => exact ⟨0, by omega, rfl, by simp [cntTo], Nx.refl _⟩
  case round =>
    obtain ⟨j, hj, rfl, rfl, hn2⟩ := hrel
    have hle := cntTo_le L j
    by_cases hlt : j < L.length
    · have hs := cntTo_succ L j
      have hLj : L[j]? = some L[j] := List.getElem?_eq_getElem hlt
      obtain ⟨b, off, rfl, hb, hc⟩ := hi.rd hLj
      have h1 := hn2.cell hb hc
      rw [hLj] at hs
      generalize L[j] = p at *
      have Hs := Lib.hid hs
      clear hi hc hs hLj
      generalize cntTo L j = m at *
      by_cases e1 : ((j : Int) == p) = true
      · go_wp2
        go_roundg (gk - 1)
        case measure => omega
        case rel => exact ⟨j + 1, by omega, by go_num, by rw [Hs.out]; simp at e1; simp [e1], (by repeat (first | exact Nx.refl _ | assumption | apply Nx.alloc | apply Nx.drew | apply Nx.drewN | (refine Nx.setCell ?_ (by first | (simp; done) | (simp; omega) | omega) _) | refine Nx.trans ?_ (by assumption)))⟩
      · have e1 : ((j : Int) == p) = false := by simpa using e1
        go_wp2
        go_roundg (gk - 1)
        case measure => omega
        case rel => exact ⟨j + 1, by omega, by go_num, by rw [Hs.out]; simp at e1; simp [Ne.symm e1], (by repeat (first | exact Nx.refl _ | assumption | apply Nx.alloc | apply Nx.drew | apply Nx.drewN | (refine Nx.setCell ?_ (by first | (simp; done) | (simp; omega) | omega) _) | refine Nx.trans ?_ (by assumption)))⟩
    · go_wp2
      go_ret
      have hjl : j = L.length := by omega
      exact RetV.int (by rw [Hpc.out, hjl]) (by repeat (first | exact Nx.refl _ | assumption | apply Nx.alloc | apply Nx.drew | apply Nx.drewN | (refine Nx.setCell ?_ (by first | (simp; done) | (simp; omega) | omega) _) | refine Nx.trans ?_ (by assumption)))
end Go.Proofs.Ytjchabeiaajgiaa
