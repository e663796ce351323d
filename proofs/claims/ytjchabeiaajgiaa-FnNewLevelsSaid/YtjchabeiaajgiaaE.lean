/- Contracts: EdgeOf of the reference and of the program. -/
import Derived.Test.YtjchabeiaajgiaaE0
namespace Go.Proofs.Ytjchabeiaajgiaa
open Go.RowKit

theorem isNode_c (x : Int) (w : World) : Calls Try.prog 58 #[V x] w (RetS (.bool (decide (0 ≤ x ∧ x < 16))) w) := by
  by_cases h1 : 0 ≤ x <;> by_cases h2 : x < 16 <;>
  · go_enter Try.func58, Try.ntmps58
    go_wp2
    go_ret
    exact RetS.bool (by simp [h1, h2])

/-- are these two different nodes? -/
def okE (x y : Int) : Prop := 0 ≤ x ∧ x < 16 ∧ 0 ≤ y ∧ y < 16 ∧ x ≠ y
instance (x y : Int) : Decidable (okE x y) := by unfold okE; infer_instance
def eofA (x y : Int) : Int := if okE x y then min x y else 0
def eofB (x y : Int) : Int := if okE x y then max x y else 0
abbrev eofV (x y : Int) : Value := .tuple #[Ed (eofA x y) (eofB x y), .bool (decide (okE x y))]
theorem eof_no {x y : Int} (h : ¬ okE x y) : eofV x y = .tuple #[Ed 0 0, .bool false] := by simp [eofV, eofA, eofB, h]
theorem eof_yes {x y : Int} (h : okE x y) : eofV x y = .tuple #[Ed (min x y) (max x y), .bool true] := by simp [eofV, eofA, eofB, h]

set_option maxHeartbeats 1000000 in
theorem iEdgeOf_c (x y : Int) (w : World) : Calls Try.prog 14 #[V x, V y] w (RetV (eofV x y) w) := by
  by_cases h : okE x y
  · rw [eof_yes h]
    obtain ⟨h1, h2, h3, h4, h5⟩ := h
    have h6 : (x == y) = false := by simpa using h5
    have h7 : decide (0 ≤ x ∧ x < 16) = true := by simp; omega
    have h8 : decide (0 ≤ y ∧ y < 16) = true := by simp; omega
    rcases Int.lt_or_gt_of_ne h5 with h9 | h9
    · rw [show min x y = x by omega, show max x y = y by omega]
      go_enter Try.func14, Try.ntmps14
      go_wp2_with (first | (go_at_call 58; go_must (refine (isNode_c _ _).mono ?_; rintro e w_ ⟨rfl, rfl⟩)))
      refine bodyPost_ret (v := .tuple #[Ed x y, .bool true]) (by simp [results, Try.f14, go_sem, *]) rfl ?_
      exact RetV.mk rfl (by repeat (first | exact Nx.refl _ | assumption | apply Nx.alloc | apply Nx.drew | apply Nx.drewN | (refine Nx.setCell ?_ (by first | (simp; done) | (simp; omega) | omega) _) | refine Nx.trans ?_ (by assumption)))
    · rw [show min x y = y by omega, show max x y = x by omega]
      go_enter Try.func14, Try.ntmps14
      go_wp2_with (first | (go_at_call 58; go_must (refine (isNode_c _ _).mono ?_; rintro e w_ ⟨rfl, rfl⟩)))
      refine bodyPost_ret (v := .tuple #[Ed y x, .bool true]) (by simp [results, Try.f14, go_sem, *]) rfl ?_
      exact RetV.mk rfl (by repeat (first | exact Nx.refl _ | assumption | apply Nx.alloc | apply Nx.drew | apply Nx.drewN | (refine Nx.setCell ?_ (by first | (simp; done) | (simp; omega) | omega) _) | refine Nx.trans ?_ (by assumption)))
  · rw [eof_no h]
    by_cases h6 : (x == y) = true
    · go_enter Try.func14, Try.ntmps14
      go_wp2_with (first | (go_at_call 58; go_must (refine (isNode_c _ _).mono ?_; rintro e w_ ⟨rfl, rfl⟩)))
      refine bodyPost_ret (v := .tuple #[Ed 0 0, .bool false]) (by simp [results, Try.f14, go_sem, *]) rfl ?_
      exact RetV.mk rfl (by repeat (first | exact Nx.refl _ | assumption | apply Nx.alloc | apply Nx.drew | apply Nx.drewN | (refine Nx.setCell ?_ (by first | (simp; done) | (simp; omega) | omega) _) | refine Nx.trans ?_ (by assumption)))
    · have h6 : (x == y) = false := by simpa using h6
      by_cases h7 : decide (0 ≤ x ∧ x < 16) = true
      · have h8 : decide (0 ≤ y ∧ y < 16) = false := by
          simp at h6 h7 ⊢; intro a; exact Int.not_lt.mp fun b => h ⟨h7.1, h7.2, a, b, h6⟩
        go_enter Try.func14, Try.ntmps14
        go_wp2_with (first | (go_at_call 58; go_must (refine (isNode_c _ _).mono ?_; rintro e w_ ⟨rfl, rfl⟩)))
        refine bodyPost_ret (v := .tuple #[Ed 0 0, .bool false]) (by simp [results, Try.f14, go_sem, *]) rfl ?_
        exact RetV.mk rfl (by repeat (first | exact Nx.refl _ | assumption | apply Nx.alloc | apply Nx.drew | apply Nx.drewN | (refine Nx.setCell ?_ (by first | (simp; done) | (simp; omega) | omega) _) | refine Nx.trans ?_ (by assumption)))
      · have h7 : decide (0 ≤ x ∧ x < 16) = false := by simpa using h7
        go_enter Try.func14, Try.ntmps14
        go_wp2_with (first | (go_at_call 58; go_must (refine (isNode_c _ _).mono ?_; rintro e w_ ⟨rfl, rfl⟩)))
        refine bodyPost_ret (v := .tuple #[Ed 0 0, .bool false]) (by simp [results, Try.f14, go_sem, *]) rfl ?_
        exact RetV.mk rfl (by repeat (first | exact Nx.refl _ | assumption | apply Nx.alloc | apply Nx.drew | apply Nx.drewN | (refine Nx.setCell ?_ (by first | (simp; done) | (simp; omega) | omega) _) | refine Nx.trans ?_ (by assumption)))
end Go.Proofs.Ytjchabeiaajgiaa
