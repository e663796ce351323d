/- FnExactIsBridge: the walks (printed by lawgen.py). -/
import Derived.Test.YtmagbdcmanchmaaC6
import Derived.Deep.RegionHeld3
namespace Go.Proofs.Ytmagbdcmanchmaa
open Go.RowKit
set_option maxRecDepth 100000 in
set_option maxHeartbeats 8000000 in
theorem fnExactIsBridge_walk (w : World) (n0 : Int) (_ : Fits n0) (A0 : Option Addr) (c0 : Nat) (es0 : List (Int × Int)) (_ : es0.length ≤ c0) (hm0 : Hid (es0.length ≤ 9223372036854775807)) (hx0 : EdgesAt w A0 es0) (_ : ∀ n ∈ es0, FitsE n) (x1 y1 : Int) (_ : Fits x1) (_ : Fits y1) : Calls Try.prog 5 #[.agg #[V n0, .slice A0 es0.length c0], Ed x1 y1] w (RetV (.bool true) w) := by
  by_cases hs0 : szL es0.length (1048576) < 0
  · skip
    go_enter Try.func5, Try.ntmps5
    go_wp2_with fail
    refine (szGraph_c n0 A0 es0.length c0 (1048576) _ (by omega) (by omega) hm0.out).mono ?_
    rintro e w1 ⟨rfl, hn1⟩
    obtain ⟨hc1, hf1, hz1⟩ := hn1.rules
    have hzw1 : w.heap.size ≤ w1.heap.size := by have h := hn1.size; first | omega | (simp at h; omega)
    have hz1_0 : w.heap.size < w1.heap.size := (by have h := hn1.size; first | omega | (simp at h; done) | (simp at h; omega))
    have hz1_1 : w.heap.size + 1 < w1.heap.size := (by have h := hn1.size; first | omega | (simp at h; done) | (simp at h; omega))
    go_wp2
    go_ret
    exact RetV.bool rfl (by repeat (first | exact Nx.refl _ | assumption | apply Nx.alloc | apply Nx.drew | apply Nx.drewN | (refine Nx.setCell ?_ (by first | (simp; done) | (simp; omega) | omega) _) | refine Nx.trans ?_ (by assumption)))
  · have hq0 := szL_ok hs0
    have hq0_0 : 0 ≤ szL es0.length (1048576) := hq0.2.1
    have hq0_1 : szL es0.length (1048576) ≤ 1048576 := by omega
    have hq0_2 : es0.length ≤ 1048576 := by omega
    clear hq0
    go_enter Try.func5, Try.ntmps5
    go_wp2_with fail
    refine (szGraph_c n0 A0 es0.length c0 (1048576) _ (by omega) (by omega) hm0.out).mono ?_
    rintro e w1 ⟨rfl, hn1⟩
    obtain ⟨hc1, hf1, hz1⟩ := hn1.rules
    have hzw1 : w.heap.size ≤ w1.heap.size := by have h := hn1.size; first | omega | (simp at h; omega)
    have hz1_0 : w.heap.size < w1.heap.size := (by have h := hn1.size; first | omega | (simp at h; done) | (simp at h; omega))
    have hz1_1 : w.heap.size + 1 < w1.heap.size := (by have h := hn1.size; first | omega | (simp at h; done) | (simp at h; omega))
    go_wp2_with fail
    have kp5 : ∀ w', Nx w1 w' → (fun w_ => Nx w1 w_ ∧ w_.cell? ⟨w.heap.size, 0, none⟩ = some (V n0) ∧ w_.cell? ⟨w.heap.size, 1, none⟩ = some (.slice A0 es0.length c0) ∧ w_.cell? ⟨w.heap.size + 1, 0, none⟩ = some (V x1) ∧ w_.cell? ⟨w.heap.size + 1, 1, none⟩ = some (V y1)) w' := fun w' h => ⟨h, h.cell (by first | assumption | omega) (by go_simp), h.cell (by first | assumption | omega) (by go_simp), h.cell (by first | assumption | omega) (by go_simp), h.cell (by first | assumption | omega) (by go_simp)⟩
    go_region_held3 (fun w_ => Nx w1 w_ ∧ w_.cell? ⟨w.heap.size, 0, none⟩ = some (V n0) ∧ w_.cell? ⟨w.heap.size, 1, none⟩ = some (.slice A0 es0.length c0) ∧ w_.cell? ⟨w.heap.size + 1, 0, none⟩ = some (V x1) ∧ w_.cell? ⟨w.heap.size + 1, 1, none⟩ = some (V y1))
      (first | exact kp5 _ (Nx.drew (Nx.refl _)) | exact kp5 _ (Nx.trans (Nx.drew (Nx.refl _)) hn2) | exact kp5 _ (Nx.trans (Nx.trans (Nx.drew (Nx.refl _)) hn2) hn3) | exact kp5 _ (Nx.trans (Nx.trans (Nx.trans (Nx.drew (Nx.refl _)) hn2) hn3) hn4) | exact kp5 _ (Nx.alloc (Nx.trans (Nx.trans (Nx.trans (Nx.drew (Nx.refl _)) hn2) hn3) hn4) _))
      (first | (go_at_call 17; (with_reducible refine (toGraph_c n0 A0 c0 es0 _ (hx0.nx (by repeat (first | exact Nx.refl _ | assumption | apply Nx.alloc | apply Nx.drew | apply Nx.drewN | (refine Nx.setCell ?_ (by first | (simp; done) | (simp; omega) | omega) _) | refine Nx.trans ?_ (by assumption)))) (by omega)).mono ?_); rintro e w2 ⟨B2, d2, rfl, ho2, hn2⟩; have ho2m := ho2.mono (base' := w1.heap.size) (by first | exact Nat.le_refl _ | omega | (simp; done) | (simp; omega))) | (go_at_call 25; (with_reducible refine (toEdge_c x1 y1 _).mono ?_); rintro e w3 ⟨rfl, hn3⟩) | (go_at_call 28; (with_reducible refine (sIsBridge_c n0 B2 d2 es0 x1 y1 _ ((ho2m.nx (by repeat (first | exact Nx.refl _ | assumption | apply Nx.alloc | apply Nx.drew | apply Nx.drewN | (refine Nx.setCell ?_ (by first | (simp; done) | (simp; omega) | omega) _) | refine Nx.trans ?_ (by assumption)))).edgesAt) (by omega)).mono ?_); rintro e w4 ⟨rfl, hn4⟩))
    have hr5 : Nx w1 w4 := (Nx.trans (Nx.trans (Nx.trans (Nx.drew (Nx.refl _)) hn2) hn3) hn4)
    obtain ⟨hcr5, hfr5, hzr5⟩ := hr5.rules
    clear kp5
    have hz2_0 : w.heap.size < w2.heap.size := (by have h := hn2.size; first | omega | (simp at h; done) | (simp at h; omega))
    have hz2_1 : w.heap.size + 1 < w2.heap.size := (by have h := hn2.size; first | omega | (simp at h; done) | (simp at h; omega))
    have hz3_0 : w.heap.size < w3.heap.size := (by have h := hn3.size; first | omega | (simp at h; done) | (simp at h; omega))
    have hz3_1 : w.heap.size + 1 < w3.heap.size := (by have h := hn3.size; first | omega | (simp at h; done) | (simp at h; omega))
    have hz4_0 : w.heap.size < w4.heap.size := (by have h := hn4.size; first | omega | (simp at h; done) | (simp at h; omega))
    have hz4_1 : w.heap.size + 1 < w4.heap.size := (by have h := hn4.size; first | omega | (simp at h; done) | (simp at h; omega))
    go_wp2_with fail
    refine (toGraph_c n0 A0 c0 es0 _ (hx0.nx (by repeat (first | exact Nx.refl _ | assumption | apply Nx.alloc | apply Nx.drew | apply Nx.drewN | (refine Nx.setCell ?_ (by first | (simp; done) | (simp; omega) | omega) _) | refine Nx.trans ?_ (by assumption)))) (by omega)).mono ?_
    rintro e w5 ⟨B5, d5, rfl, ho5, hn5⟩
    obtain ⟨hc5, hf5, hz5⟩ := hn5.rules
    have hzw5 : w4.heap.size ≤ w5.heap.size := by have h := hn5.size; first | omega | (simp at h; omega)
    have hz5_0 : w.heap.size < w5.heap.size := (by have h := hn5.size; first | omega | (simp at h; done) | (simp at h; omega))
    have hz5_1 : w.heap.size + 1 < w5.heap.size := (by have h := hn5.size; first | omega | (simp at h; done) | (simp at h; omega))
    have ho5m := ho5.mono (base' := w4.heap.size) (by first | exact Nat.le_refl _ | omega | (simp; done) | (simp; omega))
    go_wp2_with fail
    generalize hv7 : World.alloc _ _ = v7
    have gv7 : Nx w5 v7 := by subst hv7; exact (by repeat (first | exact Nx.refl _ | assumption | apply Nx.alloc | apply Nx.drew | apply Nx.drewN | (refine Nx.setCell ?_ (by first | (simp; done) | (simp; omega) | omega) _) | refine Nx.trans ?_ (by assumption)))
    have bz7_0 : w.heap.size < v7.heap.size := by first | (have h := gv7.size; omega) | (subst hv7; simp; done) | (subst hv7; simp; omega)
    have bz7_1 : w.heap.size + 1 < v7.heap.size := by first | (have h := gv7.size; omega) | (subst hv7; simp; done) | (subst hv7; simp; omega)
    have bz7_2 : w5.heap.size < v7.heap.size := by first | (have h := gv7.size; omega) | (subst hv7; simp; done) | (subst hv7; simp; omega)
    have : v7.cell? ⟨w5.heap.size, 0, none⟩ = some (V n0) := by subst hv7; go_simp
    have : v7.cell? ⟨w5.heap.size, 1, none⟩ = some (.slice B5 es0.length d5) := by subst hv7; go_simp
    obtain ⟨hcv7, hfv7, hzv7⟩ := gv7.rules
    clear hv7
    go_wp2_with fail
    have kp7 : ∀ w', Nx v7 w' → (fun w_ => Nx v7 w_ ∧ w_.cell? ⟨w5.heap.size, 0, none⟩ = some (V n0) ∧ w_.cell? ⟨w5.heap.size, 1, none⟩ = some (.slice B5 es0.length d5) ∧ w_.cell? ⟨w.heap.size + 1, 0, none⟩ = some (V x1) ∧ w_.cell? ⟨w.heap.size + 1, 1, none⟩ = some (V y1)) w' := fun w' h => ⟨h, h.cell (by first | assumption | omega) (by go_simp), h.cell (by first | assumption | omega) (by go_simp), h.cell (by first | assumption | omega) (by go_simp), h.cell (by first | assumption | omega) (by go_simp)⟩
    go_region_held3 (fun w_ => Nx v7 w_ ∧ w_.cell? ⟨w5.heap.size, 0, none⟩ = some (V n0) ∧ w_.cell? ⟨w5.heap.size, 1, none⟩ = some (.slice B5 es0.length d5) ∧ w_.cell? ⟨w.heap.size + 1, 0, none⟩ = some (V x1) ∧ w_.cell? ⟨w.heap.size + 1, 1, none⟩ = some (V y1))
      (first | exact kp7 _ (Nx.drew (Nx.refl _)) | exact kp7 _ (Nx.trans (Nx.drew (Nx.refl _)) hn6) | exact kp7 _ (Nx.trans (Nx.trans (Nx.drew (Nx.refl _)) hn6) hn7) | exact kp7 _ (Nx.alloc (Nx.trans (Nx.trans (Nx.drew (Nx.refl _)) hn6) hn7) _))
      (first | (go_at_call 25; (with_reducible refine (toEdge_c x1 y1 _).mono ?_); rintro e w6 ⟨rfl, hn6⟩) | (go_at_call 29; (with_reducible refine (iIsBridge_c n0 B5 d5 es0 x1 y1 _ ((ho5m.nx (by repeat (first | exact Nx.refl _ | assumption | apply Nx.alloc | apply Nx.drew | apply Nx.drewN | (refine Nx.setCell ?_ (by first | (simp; done) | (simp; omega) | omega) _) | refine Nx.trans ?_ (by assumption)))).edgesAt) (by omega)).mono ?_); rintro e w7 ⟨rfl, hn7⟩))
    have hr7 : Nx v7 w7 := (Nx.trans (Nx.trans (Nx.drew (Nx.refl _)) hn6) hn7)
    obtain ⟨hcr7, hfr7, hzr7⟩ := hr7.rules
    clear kp7
    have hz6_0 : w.heap.size < w6.heap.size := (by have h := hn6.size; first | omega | (simp at h; done) | (simp at h; omega))
    have hz6_1 : w.heap.size + 1 < w6.heap.size := (by have h := hn6.size; first | omega | (simp at h; done) | (simp at h; omega))
    have hz6_2 : w5.heap.size < w6.heap.size := (by have h := hn6.size; first | omega | (simp at h; done) | (simp at h; omega))
    have hz7_0 : w.heap.size < w7.heap.size := (by have h := hn7.size; first | omega | (simp at h; done) | (simp at h; omega))
    have hz7_1 : w.heap.size + 1 < w7.heap.size := (by have h := hn7.size; first | omega | (simp at h; done) | (simp at h; omega))
    have hz7_2 : w5.heap.size < w7.heap.size := (by have h := hn7.size; first | omega | (simp at h; done) | (simp at h; omega))
    go_wp2_with fail
    have kp10 : ∀ w', Nx w7 w' → (fun w_ => Nx w7 w_ ∧ w_.cell? ⟨w5.heap.size, 0, none⟩ = some (V n0) ∧ w_.cell? ⟨w5.heap.size, 1, none⟩ = some (.slice B5 es0.length d5) ∧ w_.cell? ⟨w.heap.size, 0, none⟩ = some (V n0) ∧ w_.cell? ⟨w.heap.size, 1, none⟩ = some (.slice A0 es0.length c0)) w' := fun w' h => ⟨h, h.cell (by first | assumption | omega) (by go_simp), h.cell (by first | assumption | omega) (by go_simp), h.cell (by first | assumption | omega) (by go_simp), h.cell (by first | assumption | omega) (by go_simp)⟩
    go_region_held3 (fun w_ => Nx w7 w_ ∧ w_.cell? ⟨w5.heap.size, 0, none⟩ = some (V n0) ∧ w_.cell? ⟨w5.heap.size, 1, none⟩ = some (.slice B5 es0.length d5) ∧ w_.cell? ⟨w.heap.size, 0, none⟩ = some (V n0) ∧ w_.cell? ⟨w.heap.size, 1, none⟩ = some (.slice A0 es0.length c0))
      (first | exact kp10 _ (Nx.drew (Nx.refl _)) | exact kp10 _ (Nx.trans (Nx.drew (Nx.refl _)) hn8) | exact kp10 _ (Nx.trans (Nx.trans (Nx.drew (Nx.refl _)) hn8) hn9) | exact kp10 _ (Nx.alloc (Nx.trans (Nx.trans (Nx.drew (Nx.refl _)) hn8) hn9) _))
      (first | (go_at_call 17; (with_reducible refine (toGraph_c n0 A0 c0 es0 _ (hx0.nx (by repeat (first | exact Nx.refl _ | assumption | apply Nx.alloc | apply Nx.drew | apply Nx.drewN | (refine Nx.setCell ?_ (by first | (simp; done) | (simp; omega) | omega) _) | refine Nx.trans ?_ (by assumption)))) (by omega)).mono ?_); rintro e w8 ⟨B8, d8, rfl, ho8, hn8⟩; have ho8m := ho8.mono (base' := w7.heap.size) (by first | exact Nat.le_refl _ | omega | (simp; done) | (simp; omega))) | (go_at_call 20; (with_reducible refine (eqGraph_c n0 n0 B5 B8 d5 d8 es0 es0 _ ((ho5m.nx (by repeat (first | exact Nx.refl _ | assumption | apply Nx.alloc | apply Nx.drew | apply Nx.drewN | (refine Nx.setCell ?_ (by first | (simp; done) | (simp; omega) | omega) _) | refine Nx.trans ?_ (by assumption)))).edgesAt) ((ho8m.nx (by repeat (first | exact Nx.refl _ | assumption | apply Nx.alloc | apply Nx.drew | apply Nx.drewN | (refine Nx.setCell ?_ (by first | (simp; done) | (simp; omega) | omega) _) | refine Nx.trans ?_ (by assumption)))).edgesAt) (by omega) (by omega)).mono ?_); rintro e w9 ⟨rfl, hn9⟩))
    have hr10 : Nx w7 w9 := (Nx.trans (Nx.trans (Nx.drew (Nx.refl _)) hn8) hn9)
    obtain ⟨hcr10, hfr10, hzr10⟩ := hr10.rules
    clear kp10
    have hz8_0 : w.heap.size < w8.heap.size := (by have h := hn8.size; first | omega | (simp at h; done) | (simp at h; omega))
    have hz8_1 : w.heap.size + 1 < w8.heap.size := (by have h := hn8.size; first | omega | (simp at h; done) | (simp at h; omega))
    have hz8_2 : w5.heap.size < w8.heap.size := (by have h := hn8.size; first | omega | (simp at h; done) | (simp at h; omega))
    have hz9_0 : w.heap.size < w9.heap.size := (by have h := hn9.size; first | omega | (simp at h; done) | (simp at h; omega))
    have hz9_1 : w.heap.size + 1 < w9.heap.size := (by have h := hn9.size; first | omega | (simp at h; done) | (simp at h; omega))
    have hz9_2 : w5.heap.size < w9.heap.size := (by have h := hn9.size; first | omega | (simp at h; done) | (simp at h; omega))
    go_wp2
    go_ret
    exact RetV.bool rfl (by repeat (first | exact Nx.refl _ | assumption | apply Nx.alloc | apply Nx.drew | apply Nx.drewN | (refine Nx.setCell ?_ (by first | (simp; done) | (simp; omega) | omega) _) | refine Nx.trans ?_ (by assumption)))

end Go.Proofs.Ytmagbdcmanchmaa
