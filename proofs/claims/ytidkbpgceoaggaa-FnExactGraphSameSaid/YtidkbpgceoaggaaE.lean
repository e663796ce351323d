/- Contracts: EdgeOf of the reference and of the program, and what they call. -/
import Derived.Test.YtidkbpgceoaggaaProg
import Derived.Test.YtidkbpgceoaggaaK
namespace Go.Proofs.Ytidkbpgceoaggaa
open Go.RowKit

theorem isNode_c (x : Int) (w : World) : Calls Try.prog 51 #[V x] w (RetS (.bool (decide (0 ≤ x ∧ x < 16))) w) := by
  by_cases h1 : 0 ≤ x <;> by_cases h2 : x < 16 <;>
  · go_enter Try.func51, Try.ntmps51
    go_wp2
    go_ret
    exact RetS.bool (by simp [h1, h2])

theorem l1Edge_c (x y : Int) (w : World) : Calls Try.prog 50 #[V x, V y] w (RetV (Ed (min x y) (max x y)) w) := by
  by_cases h1 : x < y
  · go_enter Try.func50, Try.ntmps50
    go_wp2
    refine bodyPost_ret (v := Ed x y) (by simp [results, Try.f50, go_sem, *]) rfl ?_
    refine RetV.mk ?_ (by repeat (first | exact Nx.refl _ | assumption | apply Nx.alloc | apply Nx.drew | apply Nx.drewN | (refine Nx.setCell ?_ (by first | (simp; done) | (simp; omega) | omega) _) | refine Nx.trans ?_ (by assumption)))
    rw [show min x y = x by omega, show max x y = y by omega]
  · go_enter Try.func50, Try.ntmps50
    go_wp2
    refine bodyPost_ret (v := Ed y x) (by simp [results, Try.f50, go_sem, *]) rfl ?_
    refine RetV.mk ?_ (by repeat (first | exact Nx.refl _ | assumption | apply Nx.alloc | apply Nx.drew | apply Nx.drewN | (refine Nx.setCell ?_ (by first | (simp; done) | (simp; omega) | omega) _) | refine Nx.trans ?_ (by assumption)))
    rw [show min x y = y by omega, show max x y = x by omega]

theorem eqEdge_c (a1 a2 b1 b2 : Int) (w : World) : Calls Try.prog 17 #[Ed a1 a2, Ed b1 b2] w (RetV (.bool (decide (a1 = b1 ∧ a2 = b2))) w) := by
  go_enter Try.func17, Try.ntmps17
  go_wp2
  all_goals go_ret
  all_goals exact RetV.bool (by simp_all) (by repeat (first | exact Nx.refl _ | assumption | apply Nx.alloc | apply Nx.drew | apply Nx.drewN | (refine Nx.setCell ?_ (by first | (simp; done) | (simp; omega) | omega) _) | refine Nx.trans ?_ (by assumption)))

/-- are these two different nodes? -/
def okE (x y : Int) : Prop := 0 ≤ x ∧ x < 16 ∧ 0 ≤ y ∧ y < 16 ∧ x ≠ y
instance (x y : Int) : Decidable (okE x y) := by unfold okE; infer_instance
def eofA (x y : Int) : Int := if okE x y then min x y else 0
def eofB (x y : Int) : Int := if okE x y then max x y else 0
abbrev eofV (x y : Int) : Value := .tuple #[Ed (eofA x y) (eofB x y), .bool (decide (okE x y))]
theorem eof_no {x y : Int} (h : ¬ okE x y) : eofV x y = .tuple #[Ed 0 0, .bool false] := by simp [eofV, eofA, eofB, h]
theorem eof_yes {x y : Int} (h : okE x y) : eofV x y = .tuple #[Ed (min x y) (max x y), .bool true] := by simp [eofV, eofA, eofB, h]

set_option maxHeartbeats 1000000 in
theorem sEdgeOf_c (x y : Int) (w : World) : Calls Try.prog 15 #[V x, V y] w (RetV (eofV x y) w) := by
  by_cases h : okE x y
  · rw [eof_yes h]
    obtain ⟨h1, h2, h3, h4, h5⟩ := h
    have h6 : (x == y) = false := by simpa using h5
    go_enter Try.func15, Try.ntmps15
    go_wp2_with (go_at_call 50; go_must (refine (l1Edge_c x y _).mono ?_; rintro e w1 ⟨rfl, hn1⟩; obtain ⟨hc1, hf1, hz1⟩ := hn1.rules))
    refine bodyPost_ret (v := .tuple #[Ed (min x y) (max x y), .bool true]) (by simp [results, Try.f15, go_sem, *]) rfl ?_
    exact RetV.mk rfl (by repeat (first | exact Nx.refl _ | assumption | apply Nx.alloc | apply Nx.drew | apply Nx.drewN | (refine Nx.setCell ?_ (by first | (simp; done) | (simp; omega) | omega) _) | refine Nx.trans ?_ (by assumption)))
  · rw [eof_no h]
    go_enter Try.func15, Try.ntmps15
    go_wp2_with (go_at_call 50; exfalso; apply h; refine ⟨?_, ?_, ?_, ?_, ?_⟩ <;> simp_all <;> done)
    all_goals refine bodyPost_ret (v := .tuple #[Ed 0 0, .bool false]) (by simp [results, Try.f15, go_sem, *]) rfl ?_
    all_goals exact RetV.mk rfl (by repeat (first | exact Nx.refl _ | assumption | apply Nx.alloc | apply Nx.drew | apply Nx.drewN | (refine Nx.setCell ?_ (by first | (simp; done) | (simp; omega) | omega) _) | refine Nx.trans ?_ (by assumption)))

set_option maxHeartbeats 1000000 in
theorem iEdgeOf_c (x y : Int) (w : World) : Calls Try.prog 16 #[V x, V y] w (RetV (eofV x y) w) := by
  by_cases h : okE x y
  · rw [eof_yes h]
    obtain ⟨h1, h2, h3, h4, h5⟩ := h
    have h6 : (x == y) = false := by simpa using h5
    have h7 : decide (0 ≤ x ∧ x < 16) = true := by simp; omega
    have h8 : decide (0 ≤ y ∧ y < 16) = true := by simp; omega
    rcases Int.lt_or_gt_of_ne h5 with h9 | h9
    · rw [show min x y = x by omega, show max x y = y by omega]
      go_enter Try.func16, Try.ntmps16
      go_wp2_with (first | (go_at_call 51; go_must (refine (isNode_c _ _).mono ?_; rintro e w_ ⟨rfl, rfl⟩)))
      refine bodyPost_ret (v := .tuple #[Ed x y, .bool true]) (by simp [results, Try.f16, go_sem, *]) rfl ?_
      exact RetV.mk rfl (by repeat (first | exact Nx.refl _ | assumption | apply Nx.alloc | apply Nx.drew | apply Nx.drewN | (refine Nx.setCell ?_ (by first | (simp; done) | (simp; omega) | omega) _) | refine Nx.trans ?_ (by assumption)))
    · rw [show min x y = y by omega, show max x y = x by omega]
      go_enter Try.func16, Try.ntmps16
      go_wp2_with (first | (go_at_call 51; go_must (refine (isNode_c _ _).mono ?_; rintro e w_ ⟨rfl, rfl⟩)))
      refine bodyPost_ret (v := .tuple #[Ed y x, .bool true]) (by simp [results, Try.f16, go_sem, *]) rfl ?_
      exact RetV.mk rfl (by repeat (first | exact Nx.refl _ | assumption | apply Nx.alloc | apply Nx.drew | apply Nx.drewN | (refine Nx.setCell ?_ (by first | (simp; done) | (simp; omega) | omega) _) | refine Nx.trans ?_ (by assumption)))
  · rw [eof_no h]
    by_cases h6 : (x == y) = true
    · go_enter Try.func16, Try.ntmps16
      go_wp2_with (first | (go_at_call 51; go_must (refine (isNode_c _ _).mono ?_; rintro e w_ ⟨rfl, rfl⟩)))
      refine bodyPost_ret (v := .tuple #[Ed 0 0, .bool false]) (by simp [results, Try.f16, go_sem, *]) rfl ?_
      exact RetV.mk rfl (by repeat (first | exact Nx.refl _ | assumption | apply Nx.alloc | apply Nx.drew | apply Nx.drewN | (refine Nx.setCell ?_ (by first | (simp; done) | (simp; omega) | omega) _) | refine Nx.trans ?_ (by assumption)))
    · have h6 : (x == y) = false := by simpa using h6
      by_cases h7 : decide (0 ≤ x ∧ x < 16) = true
      · have h8 : decide (0 ≤ y ∧ y < 16) = false := by
          simp at h6 h7 ⊢; intro a; exact Int.not_lt.mp fun b => h ⟨h7.1, h7.2, a, b, h6⟩
        go_enter Try.func16, Try.ntmps16
        go_wp2_with (first | (go_at_call 51; go_must (refine (isNode_c _ _).mono ?_; rintro e w_ ⟨rfl, rfl⟩)))
        refine bodyPost_ret (v := .tuple #[Ed 0 0, .bool false]) (by simp [results, Try.f16, go_sem, *]) rfl ?_
        exact RetV.mk rfl (by repeat (first | exact Nx.refl _ | assumption | apply Nx.alloc | apply Nx.drew | apply Nx.drewN | (refine Nx.setCell ?_ (by first | (simp; done) | (simp; omega) | omega) _) | refine Nx.trans ?_ (by assumption)))
      · have h7 : decide (0 ≤ x ∧ x < 16) = false := by simpa using h7
        go_enter Try.func16, Try.ntmps16
        go_wp2_with (first | (go_at_call 51; go_must (refine (isNode_c _ _).mono ?_; rintro e w_ ⟨rfl, rfl⟩)))
        refine bodyPost_ret (v := .tuple #[Ed 0 0, .bool false]) (by simp [results, Try.f16, go_sem, *]) rfl ?_
        exact RetV.mk rfl (by repeat (first | exact Nx.refl _ | assumption | apply Nx.alloc | apply Nx.drew | apply Nx.drewN | (refine Nx.setCell ?_ (by first | (simp; done) | (simp; omega) | omega) _) | refine Nx.trans ?_ (by assumption)))
end Go.Proofs.Ytidkbpgceoaggaa
