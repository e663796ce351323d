/- FnExactSameBlock: the walk (printed by lawgen.py). -/
import Derived.Test.YticjoichmcegnaaY11
import Derived.Test.YticjoichmcegnaaH
import Derived.Test.YticjoichmcegnaaZ
import Derived.Deep.RegionHeld3
import Derived.Deep.Cut
namespace Go.Proofs.Yticjoichmcegnaa
open Go.RowKit
set_option maxRecDepth 100000 in
set_option maxHeartbeats 8000000 in
theorem fnExactSameBlock_walk (w : World) (n0 : Int) (_ : Fits n0) (A0 : Option Addr) (c0 : Nat) (es0 : List (Int × Int)) (_ : es0.length ≤ c0) (hm0 : Hid (es0.length ≤ 9223372036854775807)) (hx0 : EdgesAt w A0 es0) (_ : ∀ n ∈ es0, FitsE n) (x1 y1 : Int) (_ : Fits x1) (_ : Fits y1) (x2 y2 : Int) (_ : Fits x2) (_ : Fits y2) : Calls Try.prog 8 #[.agg #[V n0, .slice A0 es0.length c0], Ed x1 y1, Ed x2 y2] w (RetV (.bool true) w) := by
  by_cases hs0 : szL es0.length (1048576) < 0
  · skip
    go_enter Try.func8, Try.ntmps8
    go_wp2_with fail
    refine (szGraph_c n0 A0 es0.length c0 (1048576) _ (by omega) (by omega) hm0.out).mono ?_
    rintro e w1 ⟨rfl, hn1⟩
    obtain ⟨hc1, hf1, hz1⟩ := hn1.rules
    have hzw1 : w.heap.size ≤ w1.heap.size := by have h := hn1.size; first | omega | (simp at h; omega)
    have hz1_0 : w.heap.size < w1.heap.size := (by have h := hn1.size; first | omega | (simp at h; done) | (simp at h; omega))
    have hz1_1 : w.heap.size + 1 < w1.heap.size := (by have h := hn1.size; first | omega | (simp at h; done) | (simp at h; omega))
    have hz1_2 : w.heap.size + 1 + 1 < w1.heap.size := (by have h := hn1.size; first | omega | (simp at h; done) | (simp at h; omega))
    go_wp2
    go_ret
    exact RetV.bool rfl (by repeat (first | exact Nx.refl _ | assumption | apply Nx.alloc | apply Nx.drew | apply Nx.drewN | (refine Nx.setCell ?_ (by first | (simp; done) | (simp; omega) | omega) _) | refine Nx.trans ?_ (by assumption)))
  · have hq0 := szL_ok hs0
    have hq0_0 : 0 ≤ szL es0.length (1048576) := hq0.2.1
    have hq0_1 : szL es0.length (1048576) ≤ 1048576 := by omega
    have hq0_2 : es0.length ≤ 1048576 := by omega
    clear hq0
    go_enter Try.func8, Try.ntmps8
    go_wp2_with fail
    refine (szGraph_c n0 A0 es0.length c0 (1048576) _ (by omega) (by omega) hm0.out).mono ?_
    rintro e w1 ⟨rfl, hn1⟩
    obtain ⟨hc1, hf1, hz1⟩ := hn1.rules
    have hzw1 : w.heap.size ≤ w1.heap.size := by have h := hn1.size; first | omega | (simp at h; omega)
    have hz1_0 : w.heap.size < w1.heap.size := (by have h := hn1.size; first | omega | (simp at h; done) | (simp at h; omega))
    have hz1_1 : w.heap.size + 1 < w1.heap.size := (by have h := hn1.size; first | omega | (simp at h; done) | (simp at h; omega))
    have hz1_2 : w.heap.size + 1 + 1 < w1.heap.size := (by have h := hn1.size; first | omega | (simp at h; done) | (simp at h; omega))
    go_wp2_with fail
    have kp5 : ∀ w', Nx w1 w' → (fun w_ => Nx w1 w_ ∧ w_.cell? ⟨w.heap.size, 0, none⟩ = some (V n0) ∧ w_.cell? ⟨w.heap.size, 1, none⟩ = some (.slice A0 es0.length c0) ∧ w_.cell? ⟨w.heap.size + 1, 0, none⟩ = some (V x1) ∧ w_.cell? ⟨w.heap.size + 1, 1, none⟩ = some (V y1) ∧ w_.cell? ⟨w.heap.size + 1 + 1, 0, none⟩ = some (V x2) ∧ w_.cell? ⟨w.heap.size + 1 + 1, 1, none⟩ = some (V y2)) w' := fun w' h => ⟨h, h.cell (by first | assumption | omega) (by go_simp), h.cell (by first | assumption | omega) (by go_simp), h.cell (by first | assumption | omega) (by go_simp), h.cell (by first | assumption | omega) (by go_simp), h.cell (by first | assumption | omega) (by go_simp), h.cell (by first | assumption | omega) (by go_simp)⟩
    go_region_held3 (fun w_ => Nx w1 w_ ∧ w_.cell? ⟨w.heap.size, 0, none⟩ = some (V n0) ∧ w_.cell? ⟨w.heap.size, 1, none⟩ = some (.slice A0 es0.length c0) ∧ w_.cell? ⟨w.heap.size + 1, 0, none⟩ = some (V x1) ∧ w_.cell? ⟨w.heap.size + 1, 1, none⟩ = some (V y1) ∧ w_.cell? ⟨w.heap.size + 1 + 1, 0, none⟩ = some (V x2) ∧ w_.cell? ⟨w.heap.size + 1 + 1, 1, none⟩ = some (V y2))
      (first | exact kp5 _ (Nx.drew (Nx.refl _)) | exact kp5 _ (Nx.trans (Nx.drew (Nx.refl _)) hn2) | exact kp5 _ (Nx.trans (Nx.trans (Nx.drew (Nx.refl _)) hn2) hn3) | exact kp5 _ (Nx.trans (Nx.trans (Nx.trans (Nx.drew (Nx.refl _)) hn2) hn3) hn4) | exact kp5 _ (Nx.trans (Nx.trans (Nx.trans (Nx.trans (Nx.drew (Nx.refl _)) hn2) hn3) hn4) hn5) | exact kp5 _ (Nx.alloc (Nx.trans (Nx.trans (Nx.trans (Nx.trans (Nx.drew (Nx.refl _)) hn2) hn3) hn4) hn5) _))
      (first | (go_at_call 33; (with_reducible refine (toGraph_c n0 A0 c0 es0 _ (hx0.nx (by repeat (first | exact Nx.refl _ | assumption | apply Nx.alloc | apply Nx.drew | apply Nx.drewN | (refine Nx.setCell ?_ (by first | (simp; done) | (simp; omega) | omega) _) | refine Nx.trans ?_ (by assumption)))) (by omega)).mono ?_); rintro e w2 ⟨B2, d2, rfl, ho2, hn2⟩; have ho2m := ho2.mono (base' := w1.heap.size) (by first | exact Nat.le_refl _ | omega | (simp; done) | (simp; omega))) | (go_at_call 34; (with_reducible refine (toEdge_c x1 y1 _).mono ?_); rintro e w3 ⟨rfl, hn3⟩) | (go_at_call 34; (with_reducible refine (toEdge_c x2 y2 _).mono ?_); rintro e w4 ⟨rfl, hn4⟩) | (go_at_call 32; (with_reducible refine (sSameBlock_c n0 B2 d2 es0 x1 y1 x2 y2 _ ((ho2m.nx (by repeat (first | exact Nx.refl _ | assumption | apply Nx.alloc | apply Nx.drew | apply Nx.drewN | (refine Nx.setCell ?_ (by first | (simp; done) | (simp; omega) | omega) _) | refine Nx.trans ?_ (by assumption)))).edgesAt) (by omega)).mono ?_); rintro e w5 ⟨rfl, hn5⟩))
    have hr5 : Nx w1 w5 := (Nx.trans (Nx.trans (Nx.trans (Nx.trans (Nx.drew (Nx.refl _)) hn2) hn3) hn4) hn5)
    obtain ⟨hcr5, hfr5, hzr5⟩ := hr5.rules
    clear kp5
    have hz2_0 : w.heap.size < w2.heap.size := (by have h := hn2.size; first | omega | (simp at h; done) | (simp at h; omega))
    have hz2_1 : w.heap.size + 1 < w2.heap.size := (by have h := hn2.size; first | omega | (simp at h; done) | (simp at h; omega))
    have hz2_2 : w.heap.size + 1 + 1 < w2.heap.size := (by have h := hn2.size; first | omega | (simp at h; done) | (simp at h; omega))
    have hz3_0 : w.heap.size < w3.heap.size := (by have h := hn3.size; first | omega | (simp at h; done) | (simp at h; omega))
    have hz3_1 : w.heap.size + 1 < w3.heap.size := (by have h := hn3.size; first | omega | (simp at h; done) | (simp at h; omega))
    have hz3_2 : w.heap.size + 1 + 1 < w3.heap.size := (by have h := hn3.size; first | omega | (simp at h; done) | (simp at h; omega))
    have hz4_0 : w.heap.size < w4.heap.size := (by have h := hn4.size; first | omega | (simp at h; done) | (simp at h; omega))
    have hz4_1 : w.heap.size + 1 < w4.heap.size := (by have h := hn4.size; first | omega | (simp at h; done) | (simp at h; omega))
    have hz4_2 : w.heap.size + 1 + 1 < w4.heap.size := (by have h := hn4.size; first | omega | (simp at h; done) | (simp at h; omega))
    have hz5_0 : w.heap.size < w5.heap.size := (by have h := hn5.size; first | omega | (simp at h; done) | (simp at h; omega))
    have hz5_1 : w.heap.size + 1 < w5.heap.size := (by have h := hn5.size; first | omega | (simp at h; done) | (simp at h; omega))
    have hz5_2 : w.heap.size + 1 + 1 < w5.heap.size := (by have h := hn5.size; first | omega | (simp at h; done) | (simp at h; omega))
    go_wp2_with fail
    refine (toGraph_c n0 A0 c0 es0 _ (hx0.nx (by repeat (first | exact Nx.refl _ | assumption | apply Nx.alloc | apply Nx.drew | apply Nx.drewN | (refine Nx.setCell ?_ (by first | (simp; done) | (simp; omega) | omega) _) | refine Nx.trans ?_ (by assumption)))) (by omega)).mono ?_
    rintro e w6 ⟨B6, d6, rfl, ho6, hn6⟩
    obtain ⟨hc6, hf6, hz6⟩ := hn6.rules
    have hzw6 : w5.heap.size ≤ w6.heap.size := by have h := hn6.size; first | omega | (simp at h; omega)
    have hz6_0 : w.heap.size < w6.heap.size := (by have h := hn6.size; first | omega | (simp at h; done) | (simp at h; omega))
    have hz6_1 : w.heap.size + 1 < w6.heap.size := (by have h := hn6.size; first | omega | (simp at h; done) | (simp at h; omega))
    have hz6_2 : w.heap.size + 1 + 1 < w6.heap.size := (by have h := hn6.size; first | omega | (simp at h; done) | (simp at h; omega))
    have ho6m := ho6.mono (base' := w5.heap.size) (by first | exact Nat.le_refl _ | omega | (simp; done) | (simp; omega))
    go_wp2_with fail
    generalize hv7 : World.alloc _ _ = v7
    have gv7 : Nx w6 v7 := by subst hv7; exact (by repeat (first | exact Nx.refl _ | assumption | apply Nx.alloc | apply Nx.drew | apply Nx.drewN | (refine Nx.setCell ?_ (by first | (simp; done) | (simp; omega) | omega) _) | refine Nx.trans ?_ (by assumption)))
    have bz7_0 : w.heap.size < v7.heap.size := by first | (have h := gv7.size; omega) | (subst hv7; simp; done) | (subst hv7; simp; omega)
    have bz7_1 : w.heap.size + 1 < v7.heap.size := by first | (have h := gv7.size; omega) | (subst hv7; simp; done) | (subst hv7; simp; omega)
    have bz7_2 : w.heap.size + 1 + 1 < v7.heap.size := by first | (have h := gv7.size; omega) | (subst hv7; simp; done) | (subst hv7; simp; omega)
    have bz7_3 : w6.heap.size < v7.heap.size := by first | (have h := gv7.size; omega) | (subst hv7; simp; done) | (subst hv7; simp; omega)
    have : v7.cell? ⟨w6.heap.size, 0, none⟩ = some (V n0) := by subst hv7; go_simp
    have : v7.cell? ⟨w6.heap.size, 1, none⟩ = some (.slice B6 es0.length d6) := by subst hv7; go_simp
    obtain ⟨hcv7, hfv7, hzv7⟩ := gv7.rules
    clear hv7
    go_wp2_with fail
    have kp7 : ∀ w', Nx v7 w' → (fun w_ => Nx v7 w_ ∧ w_.cell? ⟨w6.heap.size, 0, none⟩ = some (V n0) ∧ w_.cell? ⟨w6.heap.size, 1, none⟩ = some (.slice B6 es0.length d6) ∧ w_.cell? ⟨w.heap.size + 1, 0, none⟩ = some (V x1) ∧ w_.cell? ⟨w.heap.size + 1, 1, none⟩ = some (V y1) ∧ w_.cell? ⟨w.heap.size + 1 + 1, 0, none⟩ = some (V x2) ∧ w_.cell? ⟨w.heap.size + 1 + 1, 1, none⟩ = some (V y2)) w' := fun w' h => ⟨h, h.cell (by first | assumption | omega) (by go_simp), h.cell (by first | assumption | omega) (by go_simp), h.cell (by first | assumption | omega) (by go_simp), h.cell (by first | assumption | omega) (by go_simp), h.cell (by first | assumption | omega) (by go_simp), h.cell (by first | assumption | omega) (by go_simp)⟩
    go_region_held3 (fun w_ => Nx v7 w_ ∧ w_.cell? ⟨w6.heap.size, 0, none⟩ = some (V n0) ∧ w_.cell? ⟨w6.heap.size, 1, none⟩ = some (.slice B6 es0.length d6) ∧ w_.cell? ⟨w.heap.size + 1, 0, none⟩ = some (V x1) ∧ w_.cell? ⟨w.heap.size + 1, 1, none⟩ = some (V y1) ∧ w_.cell? ⟨w.heap.size + 1 + 1, 0, none⟩ = some (V x2) ∧ w_.cell? ⟨w.heap.size + 1 + 1, 1, none⟩ = some (V y2))
      (first | exact kp7 _ (Nx.drew (Nx.refl _)) | exact kp7 _ (Nx.trans (Nx.drew (Nx.refl _)) hn7) | exact kp7 _ (Nx.trans (Nx.trans (Nx.drew (Nx.refl _)) hn7) hn8) | exact kp7 _ (Nx.trans (Nx.trans (Nx.trans (Nx.drew (Nx.refl _)) hn7) hn8) hn9) | exact kp7 _ (Nx.alloc (Nx.trans (Nx.trans (Nx.trans (Nx.drew (Nx.refl _)) hn7) hn8) hn9) _))
      (first | (go_at_call 34; (with_reducible refine (toEdge_c x1 y1 _).mono ?_); rintro e w7 ⟨rfl, hn7⟩) | (go_at_call 34; (with_reducible refine (toEdge_c x2 y2 _).mono ?_); rintro e w8 ⟨rfl, hn8⟩) | (go_at_call 35; (with_reducible refine (iSameBlock_c n0 B6 d6 es0 x1 y1 x2 y2 _ ((ho6m.nx (by repeat (first | exact Nx.refl _ | assumption | apply Nx.alloc | apply Nx.drew | apply Nx.drewN | (refine Nx.setCell ?_ (by first | (simp; done) | (simp; omega) | omega) _) | refine Nx.trans ?_ (by assumption)))).edgesAt) (by omega) (ho6m.cap)).mono ?_); rintro e w9 ⟨rfl, hn9⟩))
    have hr7 : Nx v7 w9 := (Nx.trans (Nx.trans (Nx.trans (Nx.drew (Nx.refl _)) hn7) hn8) hn9)
    obtain ⟨hcr7, hfr7, hzr7⟩ := hr7.rules
    clear kp7
    have hz7_0 : w.heap.size < w7.heap.size := (by have h := hn7.size; first | omega | (simp at h; done) | (simp at h; omega))
    have hz7_1 : w.heap.size + 1 < w7.heap.size := (by have h := hn7.size; first | omega | (simp at h; done) | (simp at h; omega))
    have hz7_2 : w.heap.size + 1 + 1 < w7.heap.size := (by have h := hn7.size; first | omega | (simp at h; done) | (simp at h; omega))
    have hz7_3 : w6.heap.size < w7.heap.size := (by have h := hn7.size; first | omega | (simp at h; done) | (simp at h; omega))
    have hz8_0 : w.heap.size < w8.heap.size := (by have h := hn8.size; first | omega | (simp at h; done) | (simp at h; omega))
    have hz8_1 : w.heap.size + 1 < w8.heap.size := (by have h := hn8.size; first | omega | (simp at h; done) | (simp at h; omega))
    have hz8_2 : w.heap.size + 1 + 1 < w8.heap.size := (by have h := hn8.size; first | omega | (simp at h; done) | (simp at h; omega))
    have hz8_3 : w6.heap.size < w8.heap.size := (by have h := hn8.size; first | omega | (simp at h; done) | (simp at h; omega))
    have hz9_0 : w.heap.size < w9.heap.size := (by have h := hn9.size; first | omega | (simp at h; done) | (simp at h; omega))
    have hz9_1 : w.heap.size + 1 < w9.heap.size := (by have h := hn9.size; first | omega | (simp at h; done) | (simp at h; omega))
    have hz9_2 : w.heap.size + 1 + 1 < w9.heap.size := (by have h := hn9.size; first | omega | (simp at h; done) | (simp at h; omega))
    have hz9_3 : w6.heap.size < w9.heap.size := (by have h := hn9.size; first | omega | (simp at h; done) | (simp at h; omega))
    go_wp2_with fail
    have kp10 : ∀ w', Nx w9 w' → (fun w_ => Nx w9 w_ ∧ w_.cell? ⟨w6.heap.size, 0, none⟩ = some (V n0) ∧ w_.cell? ⟨w6.heap.size, 1, none⟩ = some (.slice B6 es0.length d6) ∧ w_.cell? ⟨w.heap.size, 0, none⟩ = some (V n0) ∧ w_.cell? ⟨w.heap.size, 1, none⟩ = some (.slice A0 es0.length c0)) w' := fun w' h => ⟨h, h.cell (by first | assumption | omega) (by go_simp), h.cell (by first | assumption | omega) (by go_simp), h.cell (by first | assumption | omega) (by go_simp), h.cell (by first | assumption | omega) (by go_simp)⟩
    go_region_held3 (fun w_ => Nx w9 w_ ∧ w_.cell? ⟨w6.heap.size, 0, none⟩ = some (V n0) ∧ w_.cell? ⟨w6.heap.size, 1, none⟩ = some (.slice B6 es0.length d6) ∧ w_.cell? ⟨w.heap.size, 0, none⟩ = some (V n0) ∧ w_.cell? ⟨w.heap.size, 1, none⟩ = some (.slice A0 es0.length c0))
      (first | exact kp10 _ (Nx.drew (Nx.refl _)) | exact kp10 _ (Nx.trans (Nx.drew (Nx.refl _)) hn10) | exact kp10 _ (Nx.trans (Nx.trans (Nx.drew (Nx.refl _)) hn10) hn11) | exact kp10 _ (Nx.alloc (Nx.trans (Nx.trans (Nx.drew (Nx.refl _)) hn10) hn11) _))
      (first | (go_at_call 33; (with_reducible refine (toGraph_c n0 A0 c0 es0 _ (hx0.nx (by repeat (first | exact Nx.refl _ | assumption | apply Nx.alloc | apply Nx.drew | apply Nx.drewN | (refine Nx.setCell ?_ (by first | (simp; done) | (simp; omega) | omega) _) | refine Nx.trans ?_ (by assumption)))) (by omega)).mono ?_); rintro e w10 ⟨B10, d10, rfl, ho10, hn10⟩; have ho10m := ho10.mono (base' := w9.heap.size) (by first | exact Nat.le_refl _ | omega | (simp; done) | (simp; omega))) | (go_at_call 36; (with_reducible refine (eqGraph_c n0 n0 B6 B10 d6 d10 es0 es0 _ ((ho6m.nx (by repeat (first | exact Nx.refl _ | assumption | apply Nx.alloc | apply Nx.drew | apply Nx.drewN | (refine Nx.setCell ?_ (by first | (simp; done) | (simp; omega) | omega) _) | refine Nx.trans ?_ (by assumption)))).edgesAt) ((ho10m.nx (by repeat (first | exact Nx.refl _ | assumption | apply Nx.alloc | apply Nx.drew | apply Nx.drewN | (refine Nx.setCell ?_ (by first | (simp; done) | (simp; omega) | omega) _) | refine Nx.trans ?_ (by assumption)))).edgesAt) (by omega) (by omega)).mono ?_); rintro e w11 ⟨rfl, hn11⟩))
    have hr10 : Nx w9 w11 := (Nx.trans (Nx.trans (Nx.drew (Nx.refl _)) hn10) hn11)
    obtain ⟨hcr10, hfr10, hzr10⟩ := hr10.rules
    clear kp10
    have hz10_0 : w.heap.size < w10.heap.size := (by have h := hn10.size; first | omega | (simp at h; done) | (simp at h; omega))
    have hz10_1 : w.heap.size + 1 < w10.heap.size := (by have h := hn10.size; first | omega | (simp at h; done) | (simp at h; omega))
    have hz10_2 : w.heap.size + 1 + 1 < w10.heap.size := (by have h := hn10.size; first | omega | (simp at h; done) | (simp at h; omega))
    have hz10_3 : w6.heap.size < w10.heap.size := (by have h := hn10.size; first | omega | (simp at h; done) | (simp at h; omega))
    have hz11_0 : w.heap.size < w11.heap.size := (by have h := hn11.size; first | omega | (simp at h; done) | (simp at h; omega))
    have hz11_1 : w.heap.size + 1 < w11.heap.size := (by have h := hn11.size; first | omega | (simp at h; done) | (simp at h; omega))
    have hz11_2 : w.heap.size + 1 + 1 < w11.heap.size := (by have h := hn11.size; first | omega | (simp at h; done) | (simp at h; omega))
    have hz11_3 : w6.heap.size < w11.heap.size := (by have h := hn11.size; first | omega | (simp at h; done) | (simp at h; omega))
    go_wp2
    go_ret
    exact RetV.bool rfl (by repeat (first | exact Nx.refl _ | assumption | apply Nx.alloc | apply Nx.drew | apply Nx.drewN | (refine Nx.setCell ?_ (by first | (simp; done) | (simp; omega) | omega) _) | refine Nx.trans ?_ (by assumption)))
end Go.Proofs.Yticjoichmcegnaa
