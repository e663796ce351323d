/- FnExactBridgeTree: the walk (printed by lawgen.py). -/
import Derived.Test.YtjchabeiaajgiaaBU
import Derived.Test.YtjchabeiaajgiaaH
import Derived.Test.YtjchabeiaajgiaaG4
import Derived.Deep.RegionHeld3
import Derived.Deep.Cut
namespace Go.Proofs.Ytjchabeiaajgiaa
open Go.RowKit set_option linter.unusedVariables false set_option linter.unusedSimpArgs false
set_option maxRecDepth 100000 in
set_option maxHeartbeats 8000000 in
theorem fnExactBridgeTree_walk (w : World) (n0 : Int) (_ : Fits n0) (A0 : Option Addr) (c0 : Nat) (es0 : List (Int × Int)) (_ : es0.length ≤ c0) (hm0 : Hid (es0.length ≤ 9223372036854775807)) (hx0 : EdgesAt w A0 es0) (_ : ∀ n ∈ es0, FitsE n) : Calls Try.prog 7 #[.agg #[V n0, .slice A0 es0.length c0]] w (RetV (.bool true) w) := by
  by_cases hs0 : szL es0.length (1048576) < 0
  · skip
    go_enter Try.func7, Try.ntmps7
    go_wp2_with fail
    refine (szGraph_c n0 A0 es0.length c0 (1048576) _ (by omega) (by omega) hm0.out).mono ?_
    rintro e w1 ⟨rfl, hn1⟩
    obtain ⟨hc1, hf1, hz1⟩ := hn1.rules
    have hzw1 : w.heap.size ≤ w1.heap.size := by have h := hn1.size; first | omega | (simp at h; omega)
    have hz1_0 : w.heap.size < w1.heap.size := (by have h := hn1.size; first | omega | (simp at h; done) | (simp at h; omega))
    go_wp2
    go_ret
    exact RetV.bool rfl (by repeat (first | exact Nx.refl _ | assumption | apply Nx.alloc | apply Nx.drew | apply Nx.drewN | (refine Nx.setCell ?_ (by first | (simp; done) | (simp; omega) | omega) _) | refine Nx.trans ?_ (by assumption)))
  · have hq0 := szL_ok hs0
    have hq0_0 : 0 ≤ szL es0.length (1048576) := hq0.2.1
    have hq0_1 : szL es0.length (1048576) ≤ 1048576 := by omega
    have hq0_2 : es0.length ≤ 1048576 := by omega
    clear hq0
    go_enter Try.func7, Try.ntmps7
    go_wp2_with fail
    refine (szGraph_c n0 A0 es0.length c0 (1048576) _ (by omega) (by omega) hm0.out).mono ?_
    rintro e w1 ⟨rfl, hn1⟩
    obtain ⟨hc1, hf1, hz1⟩ := hn1.rules
    have hzw1 : w.heap.size ≤ w1.heap.size := by have h := hn1.size; first | omega | (simp at h; omega)
    have hz1_0 : w.heap.size < w1.heap.size := (by have h := hn1.size; first | omega | (simp at h; done) | (simp at h; omega))
    go_wp2_with fail
    refine (toGraph_c n0 A0 c0 es0 _ (hx0.nx (by repeat (first | exact Nx.refl _ | assumption | apply Nx.alloc | apply Nx.drew | apply Nx.drewN | (refine Nx.setCell ?_ (by first | (simp; done) | (simp; omega) | omega) _) | refine Nx.trans ?_ (by assumption)))) (by omega)).mono ?_
    rintro e w2 ⟨B2, d2, rfl, ho2, hn2⟩
    obtain ⟨hc2, hf2, hz2⟩ := hn2.rules
    have hzw2 : w1.heap.size ≤ w2.heap.size := by have h := hn2.size; first | omega | (simp at h; omega)
    have hz2_0 : w.heap.size < w2.heap.size := (by have h := hn2.size; first | omega | (simp at h; done) | (simp at h; omega))
    have ho2m := ho2.mono (base' := w1.heap.size) (by first | exact Nat.le_refl _ | omega | (simp; done) | (simp; omega))
    go_wp2_with fail
    refine (sBridgeTree_c n0 B2 d2 es0 _ ((ho2m.nx (by repeat (first | exact Nx.refl _ | assumption | apply Nx.alloc | apply Nx.drew | apply Nx.drewN | (refine Nx.setCell ?_ (by first | (simp; done) | (simp; omega) | omega) _) | refine Nx.trans ?_ (by assumption)))).edgesAt) (by omega)).mono ?_
    rintro e w3 ⟨B3, d3, rfl, ho3, hn3⟩
    obtain ⟨hc3, hf3, hz3⟩ := hn3.rules
    have hzw3 : w2.heap.size ≤ w3.heap.size := by have h := hn3.size; first | omega | (simp at h; omega)
    have hz3_0 : w.heap.size < w3.heap.size := (by have h := hn3.size; first | omega | (simp at h; done) | (simp at h; omega))
    have ho3m := ho3.mono (base' := w2.heap.size) (by first | exact Nat.le_refl _ | omega | (simp; done) | (simp; omega))
    go_wp2_with fail
    refine (toGraph_c n0 A0 c0 es0 _ (hx0.nx (by repeat (first | exact Nx.refl _ | assumption | apply Nx.alloc | apply Nx.drew | apply Nx.drewN | (refine Nx.setCell ?_ (by first | (simp; done) | (simp; omega) | omega) _) | refine Nx.trans ?_ (by assumption)))) (by omega)).mono ?_
    rintro e w4 ⟨B4, d4, rfl, ho4, hn4⟩
    obtain ⟨hc4, hf4, hz4⟩ := hn4.rules
    have hzw4 : w3.heap.size ≤ w4.heap.size := by have h := hn4.size; first | omega | (simp at h; omega)
    have hz4_0 : w.heap.size < w4.heap.size := (by have h := hn4.size; first | omega | (simp at h; done) | (simp at h; omega))
    have ho4m := ho4.mono (base' := w3.heap.size) (by first | exact Nat.le_refl _ | omega | (simp; done) | (simp; omega))
    go_wp2_with fail
    refine (iBridgeTree_c n0 B4 d4 es0 _ ((ho4m.nx (by repeat (first | exact Nx.refl _ | assumption | apply Nx.alloc | apply Nx.drew | apply Nx.drewN | (refine Nx.setCell ?_ (by first | (simp; done) | (simp; omega) | omega) _) | refine Nx.trans ?_ (by assumption)))).edgesAt) (by omega)).mono ?_
    rintro e w5 ⟨B5, d5, rfl, ho5, hn5⟩
    obtain ⟨hc5, hf5, hz5⟩ := hn5.rules
    have hzw5 : w4.heap.size ≤ w5.heap.size := by have h := hn5.size; first | omega | (simp at h; omega)
    have hz5_0 : w.heap.size < w5.heap.size := (by have h := hn5.size; first | omega | (simp at h; done) | (simp at h; omega))
    have hz5_1 : w4.heap.size < w5.heap.size := (by have h := hn5.size; first | omega | (simp at h; done) | (simp at h; omega))
    have ho5m := ho5.mono (base' := w4.heap.size + 1) (by first | exact Nat.le_refl _ | omega | (simp; done) | (simp; omega))
    go_wp2_with fail
    refine (eqEdgeS_c B5 B3 d5 d3 (treeOf n0 es0) (treeOf n0 es0) _ ((ho5m.nx (by repeat (first | exact Nx.refl _ | assumption | apply Nx.alloc | apply Nx.drew | apply Nx.drewN | (refine Nx.setCell ?_ (by first | (simp; done) | (simp; omega) | omega) _) | refine Nx.trans ?_ (by assumption)))).edgesAt) ((ho3m.nx (by repeat (first | exact Nx.refl _ | assumption | apply Nx.alloc | apply Nx.drew | apply Nx.drewN | (refine Nx.setCell ?_ (by first | (simp; done) | (simp; omega) | omega) _) | refine Nx.trans ?_ (by assumption)))).edgesAt) (Nat.le_trans (treeOf_length n0 es0) (by omega)) (Nat.le_trans (treeOf_length n0 es0) (by omega))).mono ?_
    rintro e w6 ⟨rfl, hn6⟩
    obtain ⟨hc6, hf6, hz6⟩ := hn6.rules
    have hzw6 : w5.heap.size ≤ w6.heap.size := by have h := hn6.size; first | omega | (simp at h; omega)
    have hz6_0 : w.heap.size < w6.heap.size := (by have h := hn6.size; first | omega | (simp at h; done) | (simp at h; omega))
    have hz6_1 : w4.heap.size < w6.heap.size := (by have h := hn6.size; first | omega | (simp at h; done) | (simp at h; omega))
    go_wp2_with fail
    have kp10 : ∀ w', Nx w6 w' → (fun w_ => Nx w6 w_ ∧ w_.cell? ⟨w4.heap.size, 0, none⟩ = some (V n0) ∧ w_.cell? ⟨w4.heap.size, 1, none⟩ = some (.slice B4 es0.length d4) ∧ w_.cell? ⟨w.heap.size, 0, none⟩ = some (V n0) ∧ w_.cell? ⟨w.heap.size, 1, none⟩ = some (.slice A0 es0.length c0)) w' := fun w' h => ⟨h, h.cell (by first | assumption | omega) (by go_simp), h.cell (by first | assumption | omega) (by go_simp), h.cell (by first | assumption | omega) (by go_simp), h.cell (by first | assumption | omega) (by go_simp)⟩
    go_region_held3 (fun w_ => Nx w6 w_ ∧ w_.cell? ⟨w4.heap.size, 0, none⟩ = some (V n0) ∧ w_.cell? ⟨w4.heap.size, 1, none⟩ = some (.slice B4 es0.length d4) ∧ w_.cell? ⟨w.heap.size, 0, none⟩ = some (V n0) ∧ w_.cell? ⟨w.heap.size, 1, none⟩ = some (.slice A0 es0.length c0))
      (first | exact kp10 _ (Nx.drew (Nx.refl _)) | exact kp10 _ (Nx.trans (Nx.drew (Nx.refl _)) hn7) | exact kp10 _ (Nx.trans (Nx.trans (Nx.drew (Nx.refl _)) hn7) hn8) | exact kp10 _ (Nx.alloc (Nx.trans (Nx.trans (Nx.drew (Nx.refl _)) hn7) hn8) _))
      (first | (go_at_call 19; (with_reducible refine (toGraph_c n0 A0 c0 es0 _ (hx0.nx (by repeat (first | exact Nx.refl _ | assumption | apply Nx.alloc | apply Nx.drew | apply Nx.drewN | (refine Nx.setCell ?_ (by first | (simp; done) | (simp; omega) | omega) _) | refine Nx.trans ?_ (by assumption)))) (by omega)).mono ?_); rintro e w7 ⟨B7, d7, rfl, ho7, hn7⟩; have ho7m := ho7.mono (base' := w6.heap.size) (by first | exact Nat.le_refl _ | omega | (simp; done) | (simp; omega))) | (go_at_call 22; (with_reducible refine (eqGraph_c n0 n0 B4 B7 d4 d7 es0 es0 _ ((ho4m.nx (by repeat (first | exact Nx.refl _ | assumption | apply Nx.alloc | apply Nx.drew | apply Nx.drewN | (refine Nx.setCell ?_ (by first | (simp; done) | (simp; omega) | omega) _) | refine Nx.trans ?_ (by assumption)))).edgesAt) ((ho7m.nx (by repeat (first | exact Nx.refl _ | assumption | apply Nx.alloc | apply Nx.drew | apply Nx.drewN | (refine Nx.setCell ?_ (by first | (simp; done) | (simp; omega) | omega) _) | refine Nx.trans ?_ (by assumption)))).edgesAt) (by omega) (by omega)).mono ?_); rintro e w8 ⟨rfl, hn8⟩))
    have hr10 : Nx w6 w8 := (Nx.trans (Nx.trans (Nx.drew (Nx.refl _)) hn7) hn8)
    obtain ⟨hcr10, hfr10, hzr10⟩ := hr10.rules
    clear kp10
    have hz7_0 : w.heap.size < w7.heap.size := (by have h := hn7.size; first | omega | (simp at h; done) | (simp at h; omega))
    have hz7_1 : w4.heap.size < w7.heap.size := (by have h := hn7.size; first | omega | (simp at h; done) | (simp at h; omega))
    have hz8_0 : w.heap.size < w8.heap.size := (by have h := hn8.size; first | omega | (simp at h; done) | (simp at h; omega))
    have hz8_1 : w4.heap.size < w8.heap.size := (by have h := hn8.size; first | omega | (simp at h; done) | (simp at h; omega))
    go_wp2_with fail
    refine (markGraph_c _ _ n0 B4 d4 es0 (1) _ (ho4m.nx (by repeat (first | exact Nx.refl _ | assumption | apply Nx.alloc | apply Nx.drew | apply Nx.drewN | (refine Nx.setCell ?_ (by first | (simp; done) | (simp; omega) | omega) _) | refine Nx.trans ?_ (by assumption)))) (by omega) (by omega) (by omega)).mono ?_
    rintro e w9 ⟨rfl, ho9, hg9⟩
    have hn9 : Nx w w9 := Nx.grown (by exact (by repeat (first | exact Nx.refl _ | assumption | apply Nx.alloc | apply Nx.drew | apply Nx.drewN | (refine Nx.setCell ?_ (by first | (simp; done) | (simp; omega) | omega) _) | refine Nx.trans ?_ (by assumption)))) hg9 (fun k hk => by have := ho4m.lt k hk; first | omega | (simp at this; done) | (simp at this; omega))
    have hzw9 : w8.heap.size ≤ w9.heap.size := by have h := hg9.size; first | omega | (simp at h; omega)
    have hz9_0 : w.heap.size < w9.heap.size := by have h := hg9.size; first | omega | (simp at h; done) | (simp at h; omega)
    have : w9.cell? ⟨w.heap.size, 0, none⟩ = some (V n0) := World.grownBy.cell hg9 (by go_simp) (fun h => by have := ho4m.lt _ h.symm; first | omega | (simp at this; done) | (simp at this; omega) | exact absurd rfl (by first | fail | fail))
    have : w9.cell? ⟨w.heap.size, 1, none⟩ = some (.slice A0 es0.length c0) := World.grownBy.cell hg9 (by go_simp) (fun h => by have := ho4m.lt _ h.symm; first | omega | (simp at this; done) | (simp at this; omega) | exact absurd rfl (by first | fail | fail))
    have hz9_1 : w4.heap.size < w9.heap.size := by have h := hg9.size; first | omega | (simp at h; done) | (simp at h; omega)
    have : w9.cell? ⟨w4.heap.size, 0, none⟩ = some (V n0) := World.grownBy.cell hg9 (by go_simp) (fun h => by have := ho4m.lt _ h.symm; first | omega | (simp at this; done) | (simp at this; omega) | exact absurd rfl (by first | fail | fail))
    have : w9.cell? ⟨w4.heap.size, 1, none⟩ = some (.slice B4 es0.length d4) := World.grownBy.cell hg9 (by go_simp) (fun h => by have := ho4m.lt _ h.symm; first | omega | (simp at this; done) | (simp at this; omega) | exact absurd rfl (by first | fail | fail))
    have hk9_r2 := (ho2m.nx (by repeat (first | exact Nx.refl _ | assumption | apply Nx.alloc | apply Nx.drew | apply Nx.drewN | (refine Nx.setCell ?_ (by first | (simp; done) | (simp; omega) | omega) _) | refine Nx.trans ?_ (by assumption)))).kept hg9 (apart_of ho2m.lt ho4m.lt (by omega))
    have hk9_r3 := (ho3m.nx (by repeat (first | exact Nx.refl _ | assumption | apply Nx.alloc | apply Nx.drew | apply Nx.drewN | (refine Nx.setCell ?_ (by first | (simp; done) | (simp; omega) | omega) _) | refine Nx.trans ?_ (by assumption)))).kept hg9 (apart_of ho3m.lt ho4m.lt (by omega))
    have hk9_r5 := (ho5m.nx (by repeat (first | exact Nx.refl _ | assumption | apply Nx.alloc | apply Nx.drew | apply Nx.drewN | (refine Nx.setCell ?_ (by first | (simp; done) | (simp; omega) | omega) _) | refine Nx.trans ?_ (by assumption)))).kept hg9 (apart_of ho5m.lt ho4m.lt (by omega))
    have hk9_r7 := (ho7m.nx (by repeat (first | exact Nx.refl _ | assumption | apply Nx.alloc | apply Nx.drew | apply Nx.drewN | (refine Nx.setCell ?_ (by first | (simp; done) | (simp; omega) | omega) _) | refine Nx.trans ?_ (by assumption)))).kept hg9 (apart_of ho7m.lt ho4m.lt (by omega))
    go_wp2_with fail
    refine (eqEdgeS_c B5 B3 d5 d3 (treeOf n0 es0) (treeOf n0 es0) _ ((hk9_r5.nx (by repeat (first | exact Nx.refl _ | assumption | apply Nx.alloc | apply Nx.drew | apply Nx.drewN | (refine Nx.setCell ?_ (by first | (simp; done) | (simp; omega) | omega) _) | refine Nx.trans ?_ (by assumption)))).edgesAt) ((hk9_r3.nx (by repeat (first | exact Nx.refl _ | assumption | apply Nx.alloc | apply Nx.drew | apply Nx.drewN | (refine Nx.setCell ?_ (by first | (simp; done) | (simp; omega) | omega) _) | refine Nx.trans ?_ (by assumption)))).edgesAt) (Nat.le_trans (treeOf_length n0 es0) (by omega)) (Nat.le_trans (treeOf_length n0 es0) (by omega))).mono ?_
    rintro e w10 ⟨rfl, hn10⟩
    obtain ⟨hc10, hf10, hz10⟩ := hn10.rules
    have hzw10 : w9.heap.size ≤ w10.heap.size := by have h := hn10.size; first | omega | (simp at h; omega)
    have hz10_0 : w.heap.size < w10.heap.size := (by have h := hn10.size; first | omega | (simp at h; done) | (simp at h; omega))
    have hz10_1 : w4.heap.size < w10.heap.size := (by have h := hn10.size; first | omega | (simp at h; done) | (simp at h; omega))
    go_wp2_with fail
    refine (markEdgeS_c _ _ B5 d5 (treeOf n0 es0) (1) _ (hk9_r5.nx (by repeat (first | exact Nx.refl _ | assumption | apply Nx.alloc | apply Nx.drew | apply Nx.drewN | (refine Nx.setCell ?_ (by first | (simp; done) | (simp; omega) | omega) _) | refine Nx.trans ?_ (by assumption)))) (Nat.le_trans (treeOf_length n0 es0) (by omega)) (by omega) (by omega)).mono ?_
    rintro e w11 ⟨rfl, ho11, hg11⟩
    have hn11 : Nx w w11 := Nx.grown (by exact (by repeat (first | exact Nx.refl _ | assumption | apply Nx.alloc | apply Nx.drew | apply Nx.drewN | (refine Nx.setCell ?_ (by first | (simp; done) | (simp; omega) | omega) _) | refine Nx.trans ?_ (by assumption)))) hg11 (fun k hk => by have := ho5m.lt k hk; first | omega | (simp at this; done) | (simp at this; omega))
    have hzw11 : w10.heap.size ≤ w11.heap.size := by have h := hg11.size; first | omega | (simp at h; omega)
    have hz11_0 : w.heap.size < w11.heap.size := by have h := hg11.size; first | omega | (simp at h; done) | (simp at h; omega)
    have : w11.cell? ⟨w.heap.size, 0, none⟩ = some (V n0) := World.grownBy.cell hg11 (by go_simp) (fun h => by have := ho5m.lt _ h.symm; first | omega | (simp at this; done) | (simp at this; omega) | exact absurd rfl (by first | fail | fail))
    have : w11.cell? ⟨w.heap.size, 1, none⟩ = some (.slice A0 es0.length c0) := World.grownBy.cell hg11 (by go_simp) (fun h => by have := ho5m.lt _ h.symm; first | omega | (simp at this; done) | (simp at this; omega) | exact absurd rfl (by first | fail | fail))
    have hz11_1 : w4.heap.size < w11.heap.size := by have h := hg11.size; first | omega | (simp at h; done) | (simp at h; omega)
    have : w11.cell? ⟨w4.heap.size, 0, none⟩ = some (V n0) := World.grownBy.cell hg11 (by go_simp) (fun h => by have := ho5m.lt _ h.symm; first | omega | (simp at this; done) | (simp at this; omega) | exact absurd rfl (by first | fail | fail))
    have : w11.cell? ⟨w4.heap.size, 1, none⟩ = some (.slice B4 es0.length d4) := World.grownBy.cell hg11 (by go_simp) (fun h => by have := ho5m.lt _ h.symm; first | omega | (simp at this; done) | (simp at this; omega) | exact absurd rfl (by first | fail | fail))
    have hk11_r2 := (hk9_r2.nx (by repeat (first | exact Nx.refl _ | assumption | apply Nx.alloc | apply Nx.drew | apply Nx.drewN | (refine Nx.setCell ?_ (by first | (simp; done) | (simp; omega) | omega) _) | refine Nx.trans ?_ (by assumption)))).kept hg11 (apart_of ho2m.lt ho5m.lt (by omega))
    have hk11_r3 := (hk9_r3.nx (by repeat (first | exact Nx.refl _ | assumption | apply Nx.alloc | apply Nx.drew | apply Nx.drewN | (refine Nx.setCell ?_ (by first | (simp; done) | (simp; omega) | omega) _) | refine Nx.trans ?_ (by assumption)))).kept hg11 (apart_of ho3m.lt ho5m.lt (by omega))
    have hk11_r4 := (ho9.nx (by repeat (first | exact Nx.refl _ | assumption | apply Nx.alloc | apply Nx.drew | apply Nx.drewN | (refine Nx.setCell ?_ (by first | (simp; done) | (simp; omega) | omega) _) | refine Nx.trans ?_ (by assumption)))).kept hg11 (apart_of ho4m.lt ho5m.lt (by omega))
    have hk11_r7 := (hk9_r7.nx (by repeat (first | exact Nx.refl _ | assumption | apply Nx.alloc | apply Nx.drew | apply Nx.drewN | (refine Nx.setCell ?_ (by first | (simp; done) | (simp; omega) | omega) _) | refine Nx.trans ?_ (by assumption)))).kept hg11 (apart_of ho7m.lt ho5m.lt (by omega))
    go_wp2_with fail
    refine (heldEdgeS_c B5 d5 (treeOf n0 es0).length (1) _ ((ho11.nx (by repeat (first | exact Nx.refl _ | assumption | apply Nx.alloc | apply Nx.drew | apply Nx.drewN | (refine Nx.setCell ?_ (by first | (simp; done) | (simp; omega) | omega) _) | refine Nx.trans ?_ (by assumption)))).edgesAt) (Nat.le_trans (treeOf_length n0 es0) (by omega)) (by omega) (by omega)).mono ?_
    rintro e w12 ⟨rfl, hn12⟩
    obtain ⟨hc12, hf12, hz12⟩ := hn12.rules
    have hzw12 : w11.heap.size ≤ w12.heap.size := by have h := hn12.size; first | omega | (simp at h; omega)
    have hz12_0 : w.heap.size < w12.heap.size := (by have h := hn12.size; first | omega | (simp at h; done) | (simp at h; omega))
    have hz12_1 : w4.heap.size < w12.heap.size := (by have h := hn12.size; first | omega | (simp at h; done) | (simp at h; omega))
    go_wp2_with fail
    refine (toGraph_c n0 A0 c0 es0 _ (hx0.nx (by repeat (first | exact Nx.refl _ | assumption | apply Nx.alloc | apply Nx.drew | apply Nx.drewN | (refine Nx.setCell ?_ (by first | (simp; done) | (simp; omega) | omega) _) | refine Nx.trans ?_ (by assumption)))) (by omega)).mono ?_
    rintro e w13 ⟨B13, d13, rfl, ho13, hn13⟩
    obtain ⟨hc13, hf13, hz13⟩ := hn13.rules
    have hzw13 : w12.heap.size ≤ w13.heap.size := by have h := hn13.size; first | omega | (simp at h; omega)
    have hz13_0 : w.heap.size < w13.heap.size := (by have h := hn13.size; first | omega | (simp at h; done) | (simp at h; omega))
    have hz13_1 : w4.heap.size < w13.heap.size := (by have h := hn13.size; first | omega | (simp at h; done) | (simp at h; omega))
    have ho13m := ho13.mono (base' := w12.heap.size) (by first | exact Nat.le_refl _ | omega | (simp; done) | (simp; omega))
    go_wp2_with fail
    refine (iBridgeTree_c n0 B13 d13 es0 _ ((ho13m.nx (by repeat (first | exact Nx.refl _ | assumption | apply Nx.alloc | apply Nx.drew | apply Nx.drewN | (refine Nx.setCell ?_ (by first | (simp; done) | (simp; omega) | omega) _) | refine Nx.trans ?_ (by assumption)))).edgesAt) (by omega)).mono ?_
    rintro e w14 ⟨B14, d14, rfl, ho14, hn14⟩
    obtain ⟨hc14, hf14, hz14⟩ := hn14.rules
    have hzw14 : w13.heap.size ≤ w14.heap.size := by have h := hn14.size; first | omega | (simp at h; omega)
    have hz14_0 : w.heap.size < w14.heap.size := (by have h := hn14.size; first | omega | (simp at h; done) | (simp at h; omega))
    have hz14_1 : w4.heap.size < w14.heap.size := (by have h := hn14.size; first | omega | (simp at h; done) | (simp at h; omega))
    have ho14m := ho14.mono (base' := w13.heap.size) (by first | exact Nat.le_refl _ | omega | (simp; done) | (simp; omega))
    go_wp2_with fail
    refine (eqEdgeS_c B14 B3 d14 d3 (treeOf n0 es0) (treeOf n0 es0) _ ((ho14m.nx (by repeat (first | exact Nx.refl _ | assumption | apply Nx.alloc | apply Nx.drew | apply Nx.drewN | (refine Nx.setCell ?_ (by first | (simp; done) | (simp; omega) | omega) _) | refine Nx.trans ?_ (by assumption)))).edgesAt) ((hk11_r3.nx (by repeat (first | exact Nx.refl _ | assumption | apply Nx.alloc | apply Nx.drew | apply Nx.drewN | (refine Nx.setCell ?_ (by first | (simp; done) | (simp; omega) | omega) _) | refine Nx.trans ?_ (by assumption)))).edgesAt) (Nat.le_trans (treeOf_length n0 es0) (by omega)) (Nat.le_trans (treeOf_length n0 es0) (by omega))).mono ?_
    rintro e w15 ⟨rfl, hn15⟩
    obtain ⟨hc15, hf15, hz15⟩ := hn15.rules
    have hzw15 : w14.heap.size ≤ w15.heap.size := by have h := hn15.size; first | omega | (simp at h; omega)
    have hz15_0 : w.heap.size < w15.heap.size := (by have h := hn15.size; first | omega | (simp at h; done) | (simp at h; omega))
    have hz15_1 : w4.heap.size < w15.heap.size := (by have h := hn15.size; first | omega | (simp at h; done) | (simp at h; omega))
    go_wp2_with fail
    refine (heldEdgeS_c B5 d5 (treeOf n0 es0).length (1) _ ((ho11.nx (by repeat (first | exact Nx.refl _ | assumption | apply Nx.alloc | apply Nx.drew | apply Nx.drewN | (refine Nx.setCell ?_ (by first | (simp; done) | (simp; omega) | omega) _) | refine Nx.trans ?_ (by assumption)))).edgesAt) (Nat.le_trans (treeOf_length n0 es0) (by omega)) (by omega) (by omega)).mono ?_
    rintro e w16 ⟨rfl, hn16⟩
    obtain ⟨hc16, hf16, hz16⟩ := hn16.rules
    have hzw16 : w15.heap.size ≤ w16.heap.size := by have h := hn16.size; first | omega | (simp at h; omega)
    have hz16_0 : w.heap.size < w16.heap.size := (by have h := hn16.size; first | omega | (simp at h; done) | (simp at h; omega))
    have hz16_1 : w4.heap.size < w16.heap.size := (by have h := hn16.size; first | omega | (simp at h; done) | (simp at h; omega))
    go_wp2
    go_ret
    exact RetV.bool rfl (by repeat (first | exact Nx.refl _ | assumption | apply Nx.alloc | apply Nx.drew | apply Nx.drewN | (refine Nx.setCell ?_ (by first | (simp; done) | (simp; omega) | omega) _) | refine Nx.trans ?_ (by assumption)))
end Go.Proofs.Ytjchabeiaajgiaa
