/- Contracts: the order of edges, what a valid graph is; GraphValid of the reference and of the program. -/
import Derived.Test.YtekepbcmjfdcjaaDoorProg
import Derived.Test.YtekepbcmjfdcjaaDoorK
namespace Go.Proofs.YtekepbcmjfdcjaaDoor
open Go.RowKit

/-- the order of edges -/
def ltE (a b : Int × Int) : Prop := a.1 < b.1 ∨ a.1 = b.1 ∧ a.2 < b.2
instance (a b : Int × Int) : Decidable (ltE a b) := by unfold ltE; infer_instance
def cmpI (x y : Int) : Int := if x < y then -1 else if y < x then 1 else 0
def cmpE (a b : Int × Int) : Int := if a.1 < b.1 then -1 else if b.1 < a.1 then 1 else if a.2 < b.2 then -1 else if b.2 < a.2 then 1 else 0
def orI (x y : Int) : Int := if x ≠ 0 then x else y
theorem cmpE_or (a b : Int × Int) : cmpE a b = orI (cmpI a.1 b.1) (cmpI a.2 b.2) := by
  unfold cmpE cmpI orI
  split <;> (try split) <;> simp_all
theorem cmpE_lt (a b : Int × Int) : cmpE a b < 0 ↔ ltE a b := by
  unfold cmpE ltE
  by_cases h1 : a.1 < b.1 <;> by_cases h2 : b.1 < a.1 <;> by_cases h3 : a.2 < b.2 <;> by_cases h4 : b.2 < a.2 <;> simp [h1, h2, h3, h4] <;> omega

theorem l1Less_c (a1 a2 b1 b2 : Int) (w : World) : Calls Tryd.prog 32 #[Ed a1 a2, Ed b1 b2] w (RetV (.bool (decide (ltE (a1, a2) (b1, b2)))) w) := by
  by_cases h1 : a1 < b1
  · have e : decide (ltE (a1, a2) (b1, b2)) = true := by simp [ltE, h1]
    rw [e]
    go_enter Tryd.func32, Tryd.ntmps32
    go_wp2
    go_ret
    exact RetV.bool rfl (by repeat (first | exact Nx.refl _ | assumption | apply Nx.alloc | apply Nx.drew | apply Nx.drewN | (refine Nx.setCell ?_ (by first | (simp; done) | (simp; omega) | omega) _) | refine Nx.trans ?_ (by assumption)))
  · by_cases h2 : (a1 == b1) = true
    · have e : decide (ltE (a1, a2) (b1, b2)) = decide (a2 < b2) := by simp at h2; simp [ltE, h2]
      rw [e]
      go_enter Tryd.func32, Tryd.ntmps32
      go_wp2
      go_ret
      exact RetV.bool rfl (by repeat (first | exact Nx.refl _ | assumption | apply Nx.alloc | apply Nx.drew | apply Nx.drewN | (refine Nx.setCell ?_ (by first | (simp; done) | (simp; omega) | omega) _) | refine Nx.trans ?_ (by assumption)))
    · have h2 : (a1 == b1) = false := by simpa using h2
      have e : decide (ltE (a1, a2) (b1, b2)) = false := by simp at h2; simp [ltE, h1, h2]
      rw [e]
      go_enter Tryd.func32, Tryd.ntmps32
      go_wp2
      go_ret
      exact RetV.bool rfl (by repeat (first | exact Nx.refl _ | assumption | apply Nx.alloc | apply Nx.drew | apply Nx.drewN | (refine Nx.setCell ?_ (by first | (simp; done) | (simp; omega) | omega) _) | refine Nx.trans ?_ (by assumption)))

theorem cmpCompare_c (x y : Int) (w : World) : Calls Tryd.prog 45 #[V x, V y] w (RetS (V (cmpI x y)) w) := by
  by_cases h1 : x < y
  · rw [show cmpI x y = -1 by simp [cmpI, h1]]
    go_enter Tryd.func45, Tryd.ntmps45
    go_wp2
    go_ret
    exact RetS.int rfl
  · by_cases h2 : y < x
    · rw [show cmpI x y = 1 by simp [cmpI, h1, h2]]
      go_enter Tryd.func45, Tryd.ntmps45
      go_wp2
      go_ret
      exact RetS.int rfl
    · rw [show cmpI x y = 0 by simp [cmpI, h1, h2]]
      go_enter Tryd.func45, Tryd.ntmps45
      go_wp2
      go_ret
      exact RetS.int rfl

theorem RetS.same {P : Program} {f : FuncId} {args : Array Value} {v : Value} {w : World} (h : Calls P f args w (RetS v w)) : Calls P f args w fun e w' => e = .returned v ∧ w' = w :=
  h.mono fun _ _ ⟨a, b⟩ => ⟨a, b.symm⟩

theorem cmpOr_c (b o : Nat) (x y : Int) (w : World) (h0 : w.cell? ⟨b, o, none⟩ = some (V x)) (h1 : w.cell? ⟨b, o + 1, none⟩ = some (V y)) :
    Calls Tryd.prog 44 #[.slice (some ⟨b, o, none⟩) 2 2] w (RetS (V (orI x y)) w) := by
  by_cases hx : (x != 0) = true
  · rw [show orI x y = x by simp at hx; simp [orI, hx]]
    go_enter Tryd.func44, Tryd.ntmps44
    go_wp2
    refine wp_loop_rounds 1 ?_
    rw [rounds_succ]
    go_wp2
    go_ret
    exact RetS.int rfl
  · have hx : (x != 0) = false := by simpa using hx
    rw [show orI x y = y by simp at hx; simp [orI, hx]]
    by_cases hy : (y != 0) = true
    · go_enter Tryd.func44, Tryd.ntmps44
      go_wp2
      refine wp_loop_rounds 2 ?_
      rw [rounds_succ]
      go_wp2
      rw [rounds_succ]
      go_wp2
      go_ret
      exact RetS.int rfl
    · have hy : (y != 0) = false := by simpa using hy
      have hy0 : y = 0 := by simpa using hy
      subst hy0
      go_enter Tryd.func44, Tryd.ntmps44
      go_wp2
      refine wp_loop_rounds 3 ?_
      rw [rounds_succ]
      go_wp2
      rw [rounds_succ]
      go_wp2
      rw [rounds_succ]
      go_wp2
      go_ret
      exact RetS.int rfl

set_option maxRecDepth 100000 in
theorem compareEdges_c (a1 a2 b1 b2 : Int) (w : World) : Calls Tryd.prog 29 #[Ed a1 a2, Ed b1 b2] w (RetV (V (cmpE (a1, a2) (b1, b2))) w) := by
  go_enter Tryd.func29, Tryd.ntmps29
  go_wp2
  generalize hW : (w.alloc _).alloc _ = W
  have g0 : W.cell? ⟨w.heap.size, 0, none⟩ = some (V a1) := by subst hW; go_simp
  have g1 : W.cell? ⟨w.heap.size, 1, none⟩ = some (V a2) := by subst hW; go_simp
  have g2 : W.cell? ⟨w.heap.size + 1, 0, none⟩ = some (V b1) := by subst hW; go_simp
  have g3 : W.cell? ⟨w.heap.size + 1, 1, none⟩ = some (V b2) := by subst hW; go_simp
  have gn : Nx w W := by subst hW; exact (by repeat (first | exact Nx.refl _ | assumption | apply Nx.alloc | apply Nx.drew | apply Nx.drewN | (refine Nx.setCell ?_ (by first | (simp; done) | (simp; omega) | omega) _) | refine Nx.trans ?_ (by assumption)))
  clear hW
  refine wp_region_still_tail 10 (by kernel_rfl) (by kernel_rfl) ?_
  simp only [List.take_succ_cons, List.take_zero, List.drop_succ_cons, List.drop_zero]
  repeat still_step
  still_call (RetS.same (cmpCompare_c _ _ _))
  repeat still_step
  still_call (RetS.same (cmpCompare_c _ _ _))
  try refine wpStill_nil ?_
  change wpList _ _ _ _ _ W.drew
  generalize hW : W.drew = W2
  have gn2 : Nx w W2 := by subst hW; exact gn.drew
  clear hW g0 g1 g2 g3 gn
  go_wp2_with fail
  refine (cmpOr_c _ 0 (cmpI a1 b1) (cmpI a2 b2) _ (by go_simp) (by go_simp)).mono ?_
  rintro e w_ ⟨rfl, rfl⟩
  go_wp2
  go_ret
  exact RetV.int (by rw [cmpE_or]) (by repeat (first | exact Nx.refl _ | assumption | apply Nx.alloc | apply Nx.drew | apply Nx.drewN | (refine Nx.setCell ?_ (by first | (simp; done) | (simp; omega) | omega) _) | refine Nx.trans ?_ (by assumption)))

end Go.Proofs.YtekepbcmjfdcjaaDoor
