/- FnExactGraphSame, FnExactGraphValid, FnExactHasEdge: the walks (printed by lawgen.py). -/
import Derived.Test.YtidkbpgceoaggaaG5
import Derived.Deep.RegionHeld3
namespace Go.Proofs.Ytidkbpgceoaggaa
open Go.RowKit
set_option maxRecDepth 100000 in
set_option maxHeartbeats 4000000 in
theorem fnExactGraphSame_walk (w : World) (n0 : Int) (_ : Fits n0) (A0 : Option Addr) (c0 : Nat) (es0 : List (Int × Int)) (_ : es0.length ≤ c0) (hm0 : Hid (es0.length ≤ 9223372036854775807)) (hx0 : EdgesAt w A0 es0) (_ : ∀ n ∈ es0, FitsE n) (n1 : Int) (_ : Fits n1) (A1 : Option Addr) (c1 : Nat) (es1 : List (Int × Int)) (_ : es1.length ≤ c1) (hm1 : Hid (es1.length ≤ 9223372036854775807)) (hx1 : EdgesAt w A1 es1) (_ : ∀ n ∈ es1, FitsE n) : Calls Try.prog 6 #[.agg #[V n0, .slice A0 es0.length c0], .agg #[V n1, .slice A1 es1.length c1]] w (RetV (.bool true) w) := by
  by_cases hs0 : szL es0.length (1048576) < 0
  · skip
    go_enter Try.func6, Try.ntmps6
    go_wp2_with fail
    refine (szGraph_c n0 A0 es0.length c0 (1048576) _ (by omega) (by omega) hm0.out).mono ?_
    rintro e w1 ⟨rfl, hn1⟩
    obtain ⟨hc1, hf1, hz1⟩ := hn1.rules
    have hz1_0 : w.heap.size < w1.heap.size := (by have h := hn1.size; first | omega | (simp at h; done) | (simp at h; omega))
    have hz1_1 : w.heap.size + 1 < w1.heap.size := (by have h := hn1.size; first | omega | (simp at h; done) | (simp at h; omega))
    go_wp2
    go_ret
    exact RetV.bool rfl (by repeat (first | exact Nx.refl _ | assumption | apply Nx.alloc | apply Nx.drew | apply Nx.drewN | (refine Nx.setCell ?_ (by first | (simp; done) | (simp; omega) | omega) _) | refine Nx.trans ?_ (by assumption)))
  · have hq0 := szL_ok hs0
    have hq0_0 : 0 ≤ szL es0.length (1048576) := hq0.2.1
    have hq0_1 : szL es0.length (1048576) ≤ 1048576 := by omega
    have hq0_2 : es0.length ≤ 1048576 := by omega
    clear hq0
    by_cases hs1 : szL es1.length (szL es0.length (1048576)) < 0
    · skip
      go_enter Try.func6, Try.ntmps6
      go_wp2_with fail
      refine (szGraph_c n0 A0 es0.length c0 (1048576) _ (by omega) (by omega) hm0.out).mono ?_
      rintro e w1 ⟨rfl, hn1⟩
      obtain ⟨hc1, hf1, hz1⟩ := hn1.rules
      have hz1_0 : w.heap.size < w1.heap.size := (by have h := hn1.size; first | omega | (simp at h; done) | (simp at h; omega))
      have hz1_1 : w.heap.size + 1 < w1.heap.size := (by have h := hn1.size; first | omega | (simp at h; done) | (simp at h; omega))
      go_wp2_with fail
      refine (szGraph_c n1 A1 es1.length c1 (szL es0.length (1048576)) _ (by omega) (by omega) hm1.out).mono ?_
      rintro e w2 ⟨rfl, hn2⟩
      obtain ⟨hc2, hf2, hz2⟩ := hn2.rules
      have hz2_0 : w.heap.size < w2.heap.size := (by have h := hn2.size; first | omega | (simp at h; done) | (simp at h; omega))
      have hz2_1 : w.heap.size + 1 < w2.heap.size := (by have h := hn2.size; first | omega | (simp at h; done) | (simp at h; omega))
      go_wp2
      go_ret
      exact RetV.bool rfl (by repeat (first | exact Nx.refl _ | assumption | apply Nx.alloc | apply Nx.drew | apply Nx.drewN | (refine Nx.setCell ?_ (by first | (simp; done) | (simp; omega) | omega) _) | refine Nx.trans ?_ (by assumption)))
    · have hq1 := szL_ok hs1
      have hq1_0 : 0 ≤ szL es1.length (szL es0.length (1048576)) := hq1.2.1
      have hq1_1 : szL es1.length (szL es0.length (1048576)) ≤ 1048576 := by omega
      have hq1_2 : es1.length ≤ 1048576 := by omega
      clear hq1
      go_enter Try.func6, Try.ntmps6
      go_wp2_with fail
      refine (szGraph_c n0 A0 es0.length c0 (1048576) _ (by omega) (by omega) hm0.out).mono ?_
      rintro e w1 ⟨rfl, hn1⟩
      obtain ⟨hc1, hf1, hz1⟩ := hn1.rules
      have hz1_0 : w.heap.size < w1.heap.size := (by have h := hn1.size; first | omega | (simp at h; done) | (simp at h; omega))
      have hz1_1 : w.heap.size + 1 < w1.heap.size := (by have h := hn1.size; first | omega | (simp at h; done) | (simp at h; omega))
      go_wp2_with fail
      refine (szGraph_c n1 A1 es1.length c1 (szL es0.length (1048576)) _ (by omega) (by omega) hm1.out).mono ?_
      rintro e w2 ⟨rfl, hn2⟩
      obtain ⟨hc2, hf2, hz2⟩ := hn2.rules
      have hz2_0 : w.heap.size < w2.heap.size := (by have h := hn2.size; first | omega | (simp at h; done) | (simp at h; omega))
      have hz2_1 : w.heap.size + 1 < w2.heap.size := (by have h := hn2.size; first | omega | (simp at h; done) | (simp at h; omega))
      go_wp2_with fail
      have kp8 : ∀ w', Nx w2 w' → (fun w_ => Nx w2 w_ ∧ w_.cell? ⟨w.heap.size, 0, none⟩ = some (V n0) ∧ w_.cell? ⟨w.heap.size, 1, none⟩ = some (.slice A0 es0.length c0) ∧ w_.cell? ⟨w.heap.size + 1, 0, none⟩ = some (V n1) ∧ w_.cell? ⟨w.heap.size + 1, 1, none⟩ = some (.slice A1 es1.length c1)) w' := fun w' h => ⟨h, h.cell (by first | assumption | omega) (by go_simp), h.cell (by first | assumption | omega) (by go_simp), h.cell (by first | assumption | omega) (by go_simp), h.cell (by first | assumption | omega) (by go_simp)⟩
      go_region_held3 (fun w_ => Nx w2 w_ ∧ w_.cell? ⟨w.heap.size, 0, none⟩ = some (V n0) ∧ w_.cell? ⟨w.heap.size, 1, none⟩ = some (.slice A0 es0.length c0) ∧ w_.cell? ⟨w.heap.size + 1, 0, none⟩ = some (V n1) ∧ w_.cell? ⟨w.heap.size + 1, 1, none⟩ = some (.slice A1 es1.length c1))
        (first | exact kp8 _ (Nx.drew (Nx.refl _)) | exact kp8 _ (Nx.trans (Nx.drew (Nx.refl _)) hn3) | exact kp8 _ (Nx.trans (Nx.trans (Nx.drew (Nx.refl _)) hn3) hn4) | exact kp8 _ (Nx.trans (Nx.trans (Nx.trans (Nx.drew (Nx.refl _)) hn3) hn4) hn5))
        (first | (go_at_call 21; (with_reducible refine (toGraph_c n0 A0 c0 es0 _ (hx0.nx (by repeat (first | exact Nx.refl _ | assumption | apply Nx.alloc | apply Nx.drew | apply Nx.drewN | (refine Nx.setCell ?_ (by first | (simp; done) | (simp; omega) | omega) _) | refine Nx.trans ?_ (by assumption)))) (by omega)).mono ?_); rintro e w3 ⟨B3, d3, rfl, ho3, hn3⟩; have hx_3 := ho3.edgesAt) | (go_at_call 21; (with_reducible refine (toGraph_c n1 A1 c1 es1 _ (hx1.nx (by repeat (first | exact Nx.refl _ | assumption | apply Nx.alloc | apply Nx.drew | apply Nx.drewN | (refine Nx.setCell ?_ (by first | (simp; done) | (simp; omega) | omega) _) | refine Nx.trans ?_ (by assumption)))) (by omega)).mono ?_); rintro e w4 ⟨B4, d4, rfl, ho4, hn4⟩; have hx_4 := ho4.edgesAt) | (go_at_call 20; (with_reducible refine (sGraphSame_c n0 n1 B3 B4 d3 d4 es0 es1 _ (hx_3.nx (by repeat (first | exact Nx.refl _ | assumption | apply Nx.alloc | apply Nx.drew | apply Nx.drewN | (refine Nx.setCell ?_ (by first | (simp; done) | (simp; omega) | omega) _) | refine Nx.trans ?_ (by assumption)))) (hx_4.nx (by repeat (first | exact Nx.refl _ | assumption | apply Nx.alloc | apply Nx.drew | apply Nx.drewN | (refine Nx.setCell ?_ (by first | (simp; done) | (simp; omega) | omega) _) | refine Nx.trans ?_ (by assumption)))) (by omega) (by omega)).mono ?_); rintro e w5 ⟨rfl, hn5⟩))
      have hr8 : Nx w2 w5 := (Nx.trans (Nx.trans (Nx.trans (Nx.drew (Nx.refl _)) hn3) hn4) hn5)
      obtain ⟨hcr8, hfr8, hzr8⟩ := hr8.rules
      have hz3_0 : w.heap.size < w3.heap.size := (by have h := hn3.size; first | omega | (simp at h; done) | (simp at h; omega))
      have hz3_1 : w.heap.size + 1 < w3.heap.size := (by have h := hn3.size; first | omega | (simp at h; done) | (simp at h; omega))
      have hz4_0 : w.heap.size < w4.heap.size := (by have h := hn4.size; first | omega | (simp at h; done) | (simp at h; omega))
      have hz4_1 : w.heap.size + 1 < w4.heap.size := (by have h := hn4.size; first | omega | (simp at h; done) | (simp at h; omega))
      have hz5_0 : w.heap.size < w5.heap.size := (by have h := hn5.size; first | omega | (simp at h; done) | (simp at h; omega))
      have hz5_1 : w.heap.size + 1 < w5.heap.size := (by have h := hn5.size; first | omega | (simp at h; done) | (simp at h; omega))
      go_wp2_with fail
      refine (toGraph_c n0 A0 c0 es0 _ (hx0.nx (by repeat (first | exact Nx.refl _ | assumption | apply Nx.alloc | apply Nx.drew | apply Nx.drewN | (refine Nx.setCell ?_ (by first | (simp; done) | (simp; omega) | omega) _) | refine Nx.trans ?_ (by assumption)))) (by omega)).mono ?_
      rintro e w6 ⟨B6, d6, rfl, ho6, hn6⟩
      obtain ⟨hc6, hf6, hz6⟩ := hn6.rules
      have hz6_0 : w.heap.size < w6.heap.size := (by have h := hn6.size; first | omega | (simp at h; done) | (simp at h; omega))
      have hz6_1 : w.heap.size + 1 < w6.heap.size := (by have h := hn6.size; first | omega | (simp at h; done) | (simp at h; omega))
      have hx_6 := ho6.edgesAt
      go_wp2_with fail
      refine (toGraph_c n1 A1 c1 es1 _ (hx1.nx (by repeat (first | exact Nx.refl _ | assumption | apply Nx.alloc | apply Nx.drew | apply Nx.drewN | (refine Nx.setCell ?_ (by first | (simp; done) | (simp; omega) | omega) _) | refine Nx.trans ?_ (by assumption)))) (by omega)).mono ?_
      rintro e w7 ⟨B7, d7, rfl, ho7, hn7⟩
      obtain ⟨hc7, hf7, hz7⟩ := hn7.rules
      have hz7_0 : w.heap.size < w7.heap.size := (by have h := hn7.size; first | omega | (simp at h; done) | (simp at h; omega))
      have hz7_1 : w.heap.size + 1 < w7.heap.size := (by have h := hn7.size; first | omega | (simp at h; done) | (simp at h; omega))
      have hz7_2 : w6.heap.size < w7.heap.size := (by have h := hn7.size; first | omega | (simp at h; done) | (simp at h; omega))
      have hx_7 := ho7.edgesAt
      go_wp2_with fail
      refine (iGraphSame_c n0 n1 B6 B7 d6 d7 es0 es1 _ (hx_6.nx (by repeat (first | exact Nx.refl _ | assumption | apply Nx.alloc | apply Nx.drew | apply Nx.drewN | (refine Nx.setCell ?_ (by first | (simp; done) | (simp; omega) | omega) _) | refine Nx.trans ?_ (by assumption)))) (hx_7.nx (by repeat (first | exact Nx.refl _ | assumption | apply Nx.alloc | apply Nx.drew | apply Nx.drewN | (refine Nx.setCell ?_ (by first | (simp; done) | (simp; omega) | omega) _) | refine Nx.trans ?_ (by assumption)))) (by omega) (by omega)).mono ?_
      rintro e w8 ⟨rfl, hn8⟩
      obtain ⟨hc8, hf8, hz8⟩ := hn8.rules
      have hz8_0 : w.heap.size < w8.heap.size := (by have h := hn8.size; first | omega | (simp at h; done) | (simp at h; omega))
      have hz8_1 : w.heap.size + 1 < w8.heap.size := (by have h := hn8.size; first | omega | (simp at h; done) | (simp at h; omega))
      have hz8_2 : w6.heap.size < w8.heap.size := (by have h := hn8.size; first | omega | (simp at h; done) | (simp at h; omega))
      have hz8_3 : w7.heap.size < w8.heap.size := (by have h := hn8.size; first | omega | (simp at h; done) | (simp at h; omega))
      go_wp2_with fail
      have kp14 : ∀ w', Nx w8 w' → (fun w_ => Nx w8 w_ ∧ w_.cell? ⟨w6.heap.size, 0, none⟩ = some (V n0) ∧ w_.cell? ⟨w6.heap.size, 1, none⟩ = some (.slice B6 es0.length d6) ∧ w_.cell? ⟨w.heap.size, 0, none⟩ = some (V n0) ∧ w_.cell? ⟨w.heap.size, 1, none⟩ = some (.slice A0 es0.length c0)) w' := fun w' h => ⟨h, h.cell (by first | assumption | omega) (by go_simp), h.cell (by first | assumption | omega) (by go_simp), h.cell (by first | assumption | omega) (by go_simp), h.cell (by first | assumption | omega) (by go_simp)⟩
      go_region_held3 (fun w_ => Nx w8 w_ ∧ w_.cell? ⟨w6.heap.size, 0, none⟩ = some (V n0) ∧ w_.cell? ⟨w6.heap.size, 1, none⟩ = some (.slice B6 es0.length d6) ∧ w_.cell? ⟨w.heap.size, 0, none⟩ = some (V n0) ∧ w_.cell? ⟨w.heap.size, 1, none⟩ = some (.slice A0 es0.length c0))
        (first | exact kp14 _ (Nx.drew (Nx.refl _)) | exact kp14 _ (Nx.trans (Nx.drew (Nx.refl _)) hn9) | exact kp14 _ (Nx.trans (Nx.trans (Nx.drew (Nx.refl _)) hn9) hn10))
        (first | (go_at_call 21; (with_reducible refine (toGraph_c n0 A0 c0 es0 _ (hx0.nx (by repeat (first | exact Nx.refl _ | assumption | apply Nx.alloc | apply Nx.drew | apply Nx.drewN | (refine Nx.setCell ?_ (by first | (simp; done) | (simp; omega) | omega) _) | refine Nx.trans ?_ (by assumption)))) (by omega)).mono ?_); rintro e w9 ⟨B9, d9, rfl, ho9, hn9⟩; have hx_9 := ho9.edgesAt) | (go_at_call 23; (with_reducible refine (eqGraph_c n0 n0 B6 B9 d6 d9 es0 es0 _ (hx_6.nx (by repeat (first | exact Nx.refl _ | assumption | apply Nx.alloc | apply Nx.drew | apply Nx.drewN | (refine Nx.setCell ?_ (by first | (simp; done) | (simp; omega) | omega) _) | refine Nx.trans ?_ (by assumption)))) (hx_9.nx (by repeat (first | exact Nx.refl _ | assumption | apply Nx.alloc | apply Nx.drew | apply Nx.drewN | (refine Nx.setCell ?_ (by first | (simp; done) | (simp; omega) | omega) _) | refine Nx.trans ?_ (by assumption)))) (by omega) (by omega)).mono ?_); rintro e w10 ⟨rfl, hn10⟩))
      have hr14 : Nx w8 w10 := (Nx.trans (Nx.trans (Nx.drew (Nx.refl _)) hn9) hn10)
      obtain ⟨hcr14, hfr14, hzr14⟩ := hr14.rules
      have hz9_0 : w.heap.size < w9.heap.size := (by have h := hn9.size; first | omega | (simp at h; done) | (simp at h; omega))
      have hz9_1 : w.heap.size + 1 < w9.heap.size := (by have h := hn9.size; first | omega | (simp at h; done) | (simp at h; omega))
      have hz9_2 : w6.heap.size < w9.heap.size := (by have h := hn9.size; first | omega | (simp at h; done) | (simp at h; omega))
      have hz9_3 : w7.heap.size < w9.heap.size := (by have h := hn9.size; first | omega | (simp at h; done) | (simp at h; omega))
      have hz10_0 : w.heap.size < w10.heap.size := (by have h := hn10.size; first | omega | (simp at h; done) | (simp at h; omega))
      have hz10_1 : w.heap.size + 1 < w10.heap.size := (by have h := hn10.size; first | omega | (simp at h; done) | (simp at h; omega))
      have hz10_2 : w6.heap.size < w10.heap.size := (by have h := hn10.size; first | omega | (simp at h; done) | (simp at h; omega))
      have hz10_3 : w7.heap.size < w10.heap.size := (by have h := hn10.size; first | omega | (simp at h; done) | (simp at h; omega))
      go_wp2_with fail
      have kp16 : ∀ w', Nx w10 w' → (fun w_ => Nx w10 w_ ∧ w_.cell? ⟨w7.heap.size, 0, none⟩ = some (V n1) ∧ w_.cell? ⟨w7.heap.size, 1, none⟩ = some (.slice B7 es1.length d7) ∧ w_.cell? ⟨w.heap.size + 1, 0, none⟩ = some (V n1) ∧ w_.cell? ⟨w.heap.size + 1, 1, none⟩ = some (.slice A1 es1.length c1)) w' := fun w' h => ⟨h, h.cell (by first | assumption | omega) (by go_simp), h.cell (by first | assumption | omega) (by go_simp), h.cell (by first | assumption | omega) (by go_simp), h.cell (by first | assumption | omega) (by go_simp)⟩
      go_region_held3 (fun w_ => Nx w10 w_ ∧ w_.cell? ⟨w7.heap.size, 0, none⟩ = some (V n1) ∧ w_.cell? ⟨w7.heap.size, 1, none⟩ = some (.slice B7 es1.length d7) ∧ w_.cell? ⟨w.heap.size + 1, 0, none⟩ = some (V n1) ∧ w_.cell? ⟨w.heap.size + 1, 1, none⟩ = some (.slice A1 es1.length c1))
        (first | exact kp16 _ (Nx.drew (Nx.refl _)) | exact kp16 _ (Nx.trans (Nx.drew (Nx.refl _)) hn11) | exact kp16 _ (Nx.trans (Nx.trans (Nx.drew (Nx.refl _)) hn11) hn12))
        (first | (go_at_call 21; (with_reducible refine (toGraph_c n1 A1 c1 es1 _ (hx1.nx (by repeat (first | exact Nx.refl _ | assumption | apply Nx.alloc | apply Nx.drew | apply Nx.drewN | (refine Nx.setCell ?_ (by first | (simp; done) | (simp; omega) | omega) _) | refine Nx.trans ?_ (by assumption)))) (by omega)).mono ?_); rintro e w11 ⟨B11, d11, rfl, ho11, hn11⟩; have hx_11 := ho11.edgesAt) | (go_at_call 23; (with_reducible refine (eqGraph_c n1 n1 B7 B11 d7 d11 es1 es1 _ (hx_7.nx (by repeat (first | exact Nx.refl _ | assumption | apply Nx.alloc | apply Nx.drew | apply Nx.drewN | (refine Nx.setCell ?_ (by first | (simp; done) | (simp; omega) | omega) _) | refine Nx.trans ?_ (by assumption)))) (hx_11.nx (by repeat (first | exact Nx.refl _ | assumption | apply Nx.alloc | apply Nx.drew | apply Nx.drewN | (refine Nx.setCell ?_ (by first | (simp; done) | (simp; omega) | omega) _) | refine Nx.trans ?_ (by assumption)))) (by omega) (by omega)).mono ?_); rintro e w12 ⟨rfl, hn12⟩))
      have hr16 : Nx w10 w12 := (Nx.trans (Nx.trans (Nx.drew (Nx.refl _)) hn11) hn12)
      obtain ⟨hcr16, hfr16, hzr16⟩ := hr16.rules
      have hz11_0 : w.heap.size < w11.heap.size := (by have h := hn11.size; first | omega | (simp at h; done) | (simp at h; omega))
      have hz11_1 : w.heap.size + 1 < w11.heap.size := (by have h := hn11.size; first | omega | (simp at h; done) | (simp at h; omega))
      have hz11_2 : w6.heap.size < w11.heap.size := (by have h := hn11.size; first | omega | (simp at h; done) | (simp at h; omega))
      have hz11_3 : w7.heap.size < w11.heap.size := (by have h := hn11.size; first | omega | (simp at h; done) | (simp at h; omega))
      have hz12_0 : w.heap.size < w12.heap.size := (by have h := hn12.size; first | omega | (simp at h; done) | (simp at h; omega))
      have hz12_1 : w.heap.size + 1 < w12.heap.size := (by have h := hn12.size; first | omega | (simp at h; done) | (simp at h; omega))
      have hz12_2 : w6.heap.size < w12.heap.size := (by have h := hn12.size; first | omega | (simp at h; done) | (simp at h; omega))
      have hz12_3 : w7.heap.size < w12.heap.size := (by have h := hn12.size; first | omega | (simp at h; done) | (simp at h; omega))
      go_wp2
      go_ret
      exact RetV.bool rfl (by repeat (first | exact Nx.refl _ | assumption | apply Nx.alloc | apply Nx.drew | apply Nx.drewN | (refine Nx.setCell ?_ (by first | (simp; done) | (simp; omega) | omega) _) | refine Nx.trans ?_ (by assumption)))

set_option maxRecDepth 100000 in
set_option maxHeartbeats 4000000 in
theorem fnExactGraphValid_walk (w : World) (n0 : Int) (_ : Fits n0) (A0 : Option Addr) (c0 : Nat) (es0 : List (Int × Int)) (_ : es0.length ≤ c0) (hm0 : Hid (es0.length ≤ 9223372036854775807)) (hx0 : EdgesAt w A0 es0) (_ : ∀ n ∈ es0, FitsE n) : Calls Try.prog 7 #[.agg #[V n0, .slice A0 es0.length c0]] w (RetV (.bool true) w) := by
  by_cases hs0 : szL es0.length (1048576) < 0
  · skip
    go_enter Try.func7, Try.ntmps7
    go_wp2_with fail
    refine (szGraph_c n0 A0 es0.length c0 (1048576) _ (by omega) (by omega) hm0.out).mono ?_
    rintro e w1 ⟨rfl, hn1⟩
    obtain ⟨hc1, hf1, hz1⟩ := hn1.rules
    have hz1_0 : w.heap.size < w1.heap.size := (by have h := hn1.size; first | omega | (simp at h; done) | (simp at h; omega))
    go_wp2
    go_ret
    exact RetV.bool rfl (by repeat (first | exact Nx.refl _ | assumption | apply Nx.alloc | apply Nx.drew | apply Nx.drewN | (refine Nx.setCell ?_ (by first | (simp; done) | (simp; omega) | omega) _) | refine Nx.trans ?_ (by assumption)))
  · have hq0 := szL_ok hs0
    have hq0_0 : 0 ≤ szL es0.length (1048576) := hq0.2.1
    have hq0_1 : szL es0.length (1048576) ≤ 1048576 := by omega
    have hq0_2 : es0.length ≤ 1048576 := by omega
    clear hq0
    go_enter Try.func7, Try.ntmps7
    go_wp2_with fail
    refine (szGraph_c n0 A0 es0.length c0 (1048576) _ (by omega) (by omega) hm0.out).mono ?_
    rintro e w1 ⟨rfl, hn1⟩
    obtain ⟨hc1, hf1, hz1⟩ := hn1.rules
    have hz1_0 : w.heap.size < w1.heap.size := (by have h := hn1.size; first | omega | (simp at h; done) | (simp at h; omega))
    go_wp2_with fail
    refine (toGraph_c n0 A0 c0 es0 _ (hx0.nx (by repeat (first | exact Nx.refl _ | assumption | apply Nx.alloc | apply Nx.drew | apply Nx.drewN | (refine Nx.setCell ?_ (by first | (simp; done) | (simp; omega) | omega) _) | refine Nx.trans ?_ (by assumption)))) (by omega)).mono ?_
    rintro e w2 ⟨B2, d2, rfl, ho2, hn2⟩
    obtain ⟨hc2, hf2, hz2⟩ := hn2.rules
    have hz2_0 : w.heap.size < w2.heap.size := (by have h := hn2.size; first | omega | (simp at h; done) | (simp at h; omega))
    have hx_2 := ho2.edgesAt
    go_wp2_with fail
    refine (sGraphValid_c n0 B2 d2 es0 _ (hx_2.nx (by repeat (first | exact Nx.refl _ | assumption | apply Nx.alloc | apply Nx.drew | apply Nx.drewN | (refine Nx.setCell ?_ (by first | (simp; done) | (simp; omega) | omega) _) | refine Nx.trans ?_ (by assumption)))) (by omega)).mono ?_
    rintro e w3 ⟨rfl, hn3⟩
    obtain ⟨hc3, hf3, hz3⟩ := hn3.rules
    have hz3_0 : w.heap.size < w3.heap.size := (by have h := hn3.size; first | omega | (simp at h; done) | (simp at h; omega))
    go_wp2_with fail
    refine (toGraph_c n0 A0 c0 es0 _ (hx0.nx (by repeat (first | exact Nx.refl _ | assumption | apply Nx.alloc | apply Nx.drew | apply Nx.drewN | (refine Nx.setCell ?_ (by first | (simp; done) | (simp; omega) | omega) _) | refine Nx.trans ?_ (by assumption)))) (by omega)).mono ?_
    rintro e w4 ⟨B4, d4, rfl, ho4, hn4⟩
    obtain ⟨hc4, hf4, hz4⟩ := hn4.rules
    have hz4_0 : w.heap.size < w4.heap.size := (by have h := hn4.size; first | omega | (simp at h; done) | (simp at h; omega))
    have hx_4 := ho4.edgesAt
    go_wp2_with fail
    refine (iGraphValid_c n0 B4 d4 es0 _ (hx_4.nx (by repeat (first | exact Nx.refl _ | assumption | apply Nx.alloc | apply Nx.drew | apply Nx.drewN | (refine Nx.setCell ?_ (by first | (simp; done) | (simp; omega) | omega) _) | refine Nx.trans ?_ (by assumption)))) (by omega)).mono ?_
    rintro e w5 ⟨rfl, hn5⟩
    obtain ⟨hc5, hf5, hz5⟩ := hn5.rules
    have hz5_0 : w.heap.size < w5.heap.size := (by have h := hn5.size; first | omega | (simp at h; done) | (simp at h; omega))
    have hz5_1 : w4.heap.size < w5.heap.size := (by have h := hn5.size; first | omega | (simp at h; done) | (simp at h; omega))
    go_wp2_with fail
    have kp10 : ∀ w', Nx w5 w' → (fun w_ => Nx w5 w_ ∧ w_.cell? ⟨w4.heap.size, 0, none⟩ = some (V n0) ∧ w_.cell? ⟨w4.heap.size, 1, none⟩ = some (.slice B4 es0.length d4) ∧ w_.cell? ⟨w.heap.size, 0, none⟩ = some (V n0) ∧ w_.cell? ⟨w.heap.size, 1, none⟩ = some (.slice A0 es0.length c0)) w' := fun w' h => ⟨h, h.cell (by first | assumption | omega) (by go_simp), h.cell (by first | assumption | omega) (by go_simp), h.cell (by first | assumption | omega) (by go_simp), h.cell (by first | assumption | omega) (by go_simp)⟩
    go_region_held3 (fun w_ => Nx w5 w_ ∧ w_.cell? ⟨w4.heap.size, 0, none⟩ = some (V n0) ∧ w_.cell? ⟨w4.heap.size, 1, none⟩ = some (.slice B4 es0.length d4) ∧ w_.cell? ⟨w.heap.size, 0, none⟩ = some (V n0) ∧ w_.cell? ⟨w.heap.size, 1, none⟩ = some (.slice A0 es0.length c0))
      (first | exact kp10 _ (Nx.drew (Nx.refl _)) | exact kp10 _ (Nx.trans (Nx.drew (Nx.refl _)) hn6) | exact kp10 _ (Nx.trans (Nx.trans (Nx.drew (Nx.refl _)) hn6) hn7))
      (first | (go_at_call 21; (with_reducible refine (toGraph_c n0 A0 c0 es0 _ (hx0.nx (by repeat (first | exact Nx.refl _ | assumption | apply Nx.alloc | apply Nx.drew | apply Nx.drewN | (refine Nx.setCell ?_ (by first | (simp; done) | (simp; omega) | omega) _) | refine Nx.trans ?_ (by assumption)))) (by omega)).mono ?_); rintro e w6 ⟨B6, d6, rfl, ho6, hn6⟩; have hx_6 := ho6.edgesAt) | (go_at_call 23; (with_reducible refine (eqGraph_c n0 n0 B4 B6 d4 d6 es0 es0 _ (hx_4.nx (by repeat (first | exact Nx.refl _ | assumption | apply Nx.alloc | apply Nx.drew | apply Nx.drewN | (refine Nx.setCell ?_ (by first | (simp; done) | (simp; omega) | omega) _) | refine Nx.trans ?_ (by assumption)))) (hx_6.nx (by repeat (first | exact Nx.refl _ | assumption | apply Nx.alloc | apply Nx.drew | apply Nx.drewN | (refine Nx.setCell ?_ (by first | (simp; done) | (simp; omega) | omega) _) | refine Nx.trans ?_ (by assumption)))) (by omega) (by omega)).mono ?_); rintro e w7 ⟨rfl, hn7⟩))
    have hr10 : Nx w5 w7 := (Nx.trans (Nx.trans (Nx.drew (Nx.refl _)) hn6) hn7)
    obtain ⟨hcr10, hfr10, hzr10⟩ := hr10.rules
    have hz6_0 : w.heap.size < w6.heap.size := (by have h := hn6.size; first | omega | (simp at h; done) | (simp at h; omega))
    have hz6_1 : w4.heap.size < w6.heap.size := (by have h := hn6.size; first | omega | (simp at h; done) | (simp at h; omega))
    have hz7_0 : w.heap.size < w7.heap.size := (by have h := hn7.size; first | omega | (simp at h; done) | (simp at h; omega))
    have hz7_1 : w4.heap.size < w7.heap.size := (by have h := hn7.size; first | omega | (simp at h; done) | (simp at h; omega))
    go_wp2
    go_ret
    exact RetV.bool rfl (by repeat (first | exact Nx.refl _ | assumption | apply Nx.alloc | apply Nx.drew | apply Nx.drewN | (refine Nx.setCell ?_ (by first | (simp; done) | (simp; omega) | omega) _) | refine Nx.trans ?_ (by assumption)))

set_option maxRecDepth 100000 in
set_option maxHeartbeats 4000000 in
theorem fnExactHasEdge_walk (w : World) (n0 : Int) (_ : Fits n0) (A0 : Option Addr) (c0 : Nat) (es0 : List (Int × Int)) (_ : es0.length ≤ c0) (hm0 : Hid (es0.length ≤ 9223372036854775807)) (hx0 : EdgesAt w A0 es0) (_ : ∀ n ∈ es0, FitsE n) (x1 y1 : Int) (_ : Fits x1) (_ : Fits y1) : Calls Try.prog 8 #[.agg #[V n0, .slice A0 es0.length c0], Ed x1 y1] w (RetV (.bool true) w) := by
  by_cases hs0 : szL es0.length (1048576) < 0
  · skip
    go_enter Try.func8, Try.ntmps8
    go_wp2_with fail
    refine (szGraph_c n0 A0 es0.length c0 (1048576) _ (by omega) (by omega) hm0.out).mono ?_
    rintro e w1 ⟨rfl, hn1⟩
    obtain ⟨hc1, hf1, hz1⟩ := hn1.rules
    have hz1_0 : w.heap.size < w1.heap.size := (by have h := hn1.size; first | omega | (simp at h; done) | (simp at h; omega))
    have hz1_1 : w.heap.size + 1 < w1.heap.size := (by have h := hn1.size; first | omega | (simp at h; done) | (simp at h; omega))
    go_wp2
    go_ret
    exact RetV.bool rfl (by repeat (first | exact Nx.refl _ | assumption | apply Nx.alloc | apply Nx.drew | apply Nx.drewN | (refine Nx.setCell ?_ (by first | (simp; done) | (simp; omega) | omega) _) | refine Nx.trans ?_ (by assumption)))
  · have hq0 := szL_ok hs0
    have hq0_0 : 0 ≤ szL es0.length (1048576) := hq0.2.1
    have hq0_1 : szL es0.length (1048576) ≤ 1048576 := by omega
    have hq0_2 : es0.length ≤ 1048576 := by omega
    clear hq0
    go_enter Try.func8, Try.ntmps8
    go_wp2_with fail
    refine (szGraph_c n0 A0 es0.length c0 (1048576) _ (by omega) (by omega) hm0.out).mono ?_
    rintro e w1 ⟨rfl, hn1⟩
    obtain ⟨hc1, hf1, hz1⟩ := hn1.rules
    have hz1_0 : w.heap.size < w1.heap.size := (by have h := hn1.size; first | omega | (simp at h; done) | (simp at h; omega))
    have hz1_1 : w.heap.size + 1 < w1.heap.size := (by have h := hn1.size; first | omega | (simp at h; done) | (simp at h; omega))
    go_wp2_with fail
    have kp5 : ∀ w', Nx w1 w' → (fun w_ => Nx w1 w_ ∧ w_.cell? ⟨w.heap.size, 0, none⟩ = some (V n0) ∧ w_.cell? ⟨w.heap.size, 1, none⟩ = some (.slice A0 es0.length c0) ∧ w_.cell? ⟨w.heap.size + 1, 0, none⟩ = some (V x1) ∧ w_.cell? ⟨w.heap.size + 1, 1, none⟩ = some (V y1)) w' := fun w' h => ⟨h, h.cell (by first | assumption | omega) (by go_simp), h.cell (by first | assumption | omega) (by go_simp), h.cell (by first | assumption | omega) (by go_simp), h.cell (by first | assumption | omega) (by go_simp)⟩
    go_region_held3 (fun w_ => Nx w1 w_ ∧ w_.cell? ⟨w.heap.size, 0, none⟩ = some (V n0) ∧ w_.cell? ⟨w.heap.size, 1, none⟩ = some (.slice A0 es0.length c0) ∧ w_.cell? ⟨w.heap.size + 1, 0, none⟩ = some (V x1) ∧ w_.cell? ⟨w.heap.size + 1, 1, none⟩ = some (V y1))
      (first | exact kp5 _ (Nx.drew (Nx.refl _)) | exact kp5 _ (Nx.trans (Nx.drew (Nx.refl _)) hn2) | exact kp5 _ (Nx.trans (Nx.trans (Nx.drew (Nx.refl _)) hn2) hn3) | exact kp5 _ (Nx.trans (Nx.trans (Nx.trans (Nx.drew (Nx.refl _)) hn2) hn3) hn4))
      (first | (go_at_call 21; (with_reducible refine (toGraph_c n0 A0 c0 es0 _ (hx0.nx (by repeat (first | exact Nx.refl _ | assumption | apply Nx.alloc | apply Nx.drew | apply Nx.drewN | (refine Nx.setCell ?_ (by first | (simp; done) | (simp; omega) | omega) _) | refine Nx.trans ?_ (by assumption)))) (by omega)).mono ?_); rintro e w2 ⟨B2, d2, rfl, ho2, hn2⟩; have hx_2 := ho2.edgesAt) | (go_at_call 27; (with_reducible refine (toEdge_c x1 y1 _).mono ?_); rintro e w3 ⟨rfl, hn3⟩) | (go_at_call 26; (with_reducible refine (sHasEdge_c n0 B2 d2 es0 x1 y1 _ (hx_2.nx (by repeat (first | exact Nx.refl _ | assumption | apply Nx.alloc | apply Nx.drew | apply Nx.drewN | (refine Nx.setCell ?_ (by first | (simp; done) | (simp; omega) | omega) _) | refine Nx.trans ?_ (by assumption)))) (by omega)).mono ?_); rintro e w4 ⟨rfl, hn4⟩))
    have hr5 : Nx w1 w4 := (Nx.trans (Nx.trans (Nx.trans (Nx.drew (Nx.refl _)) hn2) hn3) hn4)
    obtain ⟨hcr5, hfr5, hzr5⟩ := hr5.rules
    have hz2_0 : w.heap.size < w2.heap.size := (by have h := hn2.size; first | omega | (simp at h; done) | (simp at h; omega))
    have hz2_1 : w.heap.size + 1 < w2.heap.size := (by have h := hn2.size; first | omega | (simp at h; done) | (simp at h; omega))
    have hz3_0 : w.heap.size < w3.heap.size := (by have h := hn3.size; first | omega | (simp at h; done) | (simp at h; omega))
    have hz3_1 : w.heap.size + 1 < w3.heap.size := (by have h := hn3.size; first | omega | (simp at h; done) | (simp at h; omega))
    have hz4_0 : w.heap.size < w4.heap.size := (by have h := hn4.size; first | omega | (simp at h; done) | (simp at h; omega))
    have hz4_1 : w.heap.size + 1 < w4.heap.size := (by have h := hn4.size; first | omega | (simp at h; done) | (simp at h; omega))
    go_wp2_with fail
    refine (toGraph_c n0 A0 c0 es0 _ (hx0.nx (by repeat (first | exact Nx.refl _ | assumption | apply Nx.alloc | apply Nx.drew | apply Nx.drewN | (refine Nx.setCell ?_ (by first | (simp; done) | (simp; omega) | omega) _) | refine Nx.trans ?_ (by assumption)))) (by omega)).mono ?_
    rintro e w5 ⟨B5, d5, rfl, ho5, hn5⟩
    obtain ⟨hc5, hf5, hz5⟩ := hn5.rules
    have hz5_0 : w.heap.size < w5.heap.size := (by have h := hn5.size; first | omega | (simp at h; done) | (simp at h; omega))
    have hz5_1 : w.heap.size + 1 < w5.heap.size := (by have h := hn5.size; first | omega | (simp at h; done) | (simp at h; omega))
    have hx_5 := ho5.edgesAt
    go_wp2_with fail
    generalize hv7 : World.alloc _ _ = v7
    have gv7 : Nx w5 v7 := by subst hv7; exact (by repeat (first | exact Nx.refl _ | assumption | apply Nx.alloc | apply Nx.drew | apply Nx.drewN | (refine Nx.setCell ?_ (by first | (simp; done) | (simp; omega) | omega) _) | refine Nx.trans ?_ (by assumption)))
    have bz7_0 : w.heap.size < v7.heap.size := by first | (have h := gv7.size; omega) | (subst hv7; simp; done) | (subst hv7; simp; omega)
    have bz7_1 : w.heap.size + 1 < v7.heap.size := by first | (have h := gv7.size; omega) | (subst hv7; simp; done) | (subst hv7; simp; omega)
    have bz7_2 : w5.heap.size < v7.heap.size := by first | (have h := gv7.size; omega) | (subst hv7; simp; done) | (subst hv7; simp; omega)
    have : v7.cell? ⟨w5.heap.size, 0, none⟩ = some (V n0) := by subst hv7; go_simp
    have : v7.cell? ⟨w5.heap.size, 1, none⟩ = some (.slice B5 es0.length d5) := by subst hv7; go_simp
    obtain ⟨hcv7, hfv7, hzv7⟩ := gv7.rules
    clear hv7
    go_wp2_with fail
    have kp7 : ∀ w', Nx v7 w' → (fun w_ => Nx v7 w_ ∧ w_.cell? ⟨w5.heap.size, 0, none⟩ = some (V n0) ∧ w_.cell? ⟨w5.heap.size, 1, none⟩ = some (.slice B5 es0.length d5) ∧ w_.cell? ⟨w.heap.size + 1, 0, none⟩ = some (V x1) ∧ w_.cell? ⟨w.heap.size + 1, 1, none⟩ = some (V y1)) w' := fun w' h => ⟨h, h.cell (by first | assumption | omega) (by go_simp), h.cell (by first | assumption | omega) (by go_simp), h.cell (by first | assumption | omega) (by go_simp), h.cell (by first | assumption | omega) (by go_simp)⟩
    go_region_held3 (fun w_ => Nx v7 w_ ∧ w_.cell? ⟨w5.heap.size, 0, none⟩ = some (V n0) ∧ w_.cell? ⟨w5.heap.size, 1, none⟩ = some (.slice B5 es0.length d5) ∧ w_.cell? ⟨w.heap.size + 1, 0, none⟩ = some (V x1) ∧ w_.cell? ⟨w.heap.size + 1, 1, none⟩ = some (V y1))
      (first | exact kp7 _ (Nx.drew (Nx.refl _)) | exact kp7 _ (Nx.trans (Nx.drew (Nx.refl _)) hn6) | exact kp7 _ (Nx.trans (Nx.trans (Nx.drew (Nx.refl _)) hn6) hn7))
      (first | (go_at_call 27; (with_reducible refine (toEdge_c x1 y1 _).mono ?_); rintro e w6 ⟨rfl, hn6⟩) | (go_at_call 28; (with_reducible refine (iHasEdge_c n0 B5 d5 es0 x1 y1 _ (hx_5.nx (by repeat (first | exact Nx.refl _ | assumption | apply Nx.alloc | apply Nx.drew | apply Nx.drewN | (refine Nx.setCell ?_ (by first | (simp; done) | (simp; omega) | omega) _) | refine Nx.trans ?_ (by assumption)))) (by omega)).mono ?_); rintro e w7 ⟨rfl, hn7⟩))
    have hr7 : Nx v7 w7 := (Nx.trans (Nx.trans (Nx.drew (Nx.refl _)) hn6) hn7)
    obtain ⟨hcr7, hfr7, hzr7⟩ := hr7.rules
    have hz6_0 : w.heap.size < w6.heap.size := (by have h := hn6.size; first | omega | (simp at h; done) | (simp at h; omega))
    have hz6_1 : w.heap.size + 1 < w6.heap.size := (by have h := hn6.size; first | omega | (simp at h; done) | (simp at h; omega))
    have hz6_2 : w5.heap.size < w6.heap.size := (by have h := hn6.size; first | omega | (simp at h; done) | (simp at h; omega))
    have hz7_0 : w.heap.size < w7.heap.size := (by have h := hn7.size; first | omega | (simp at h; done) | (simp at h; omega))
    have hz7_1 : w.heap.size + 1 < w7.heap.size := (by have h := hn7.size; first | omega | (simp at h; done) | (simp at h; omega))
    have hz7_2 : w5.heap.size < w7.heap.size := (by have h := hn7.size; first | omega | (simp at h; done) | (simp at h; omega))
    go_wp2_with fail
    have kp10 : ∀ w', Nx w7 w' → (fun w_ => Nx w7 w_ ∧ w_.cell? ⟨w5.heap.size, 0, none⟩ = some (V n0) ∧ w_.cell? ⟨w5.heap.size, 1, none⟩ = some (.slice B5 es0.length d5) ∧ w_.cell? ⟨w.heap.size, 0, none⟩ = some (V n0) ∧ w_.cell? ⟨w.heap.size, 1, none⟩ = some (.slice A0 es0.length c0)) w' := fun w' h => ⟨h, h.cell (by first | assumption | omega) (by go_simp), h.cell (by first | assumption | omega) (by go_simp), h.cell (by first | assumption | omega) (by go_simp), h.cell (by first | assumption | omega) (by go_simp)⟩
    go_region_held3 (fun w_ => Nx w7 w_ ∧ w_.cell? ⟨w5.heap.size, 0, none⟩ = some (V n0) ∧ w_.cell? ⟨w5.heap.size, 1, none⟩ = some (.slice B5 es0.length d5) ∧ w_.cell? ⟨w.heap.size, 0, none⟩ = some (V n0) ∧ w_.cell? ⟨w.heap.size, 1, none⟩ = some (.slice A0 es0.length c0))
      (first | exact kp10 _ (Nx.drew (Nx.refl _)) | exact kp10 _ (Nx.trans (Nx.drew (Nx.refl _)) hn8) | exact kp10 _ (Nx.trans (Nx.trans (Nx.drew (Nx.refl _)) hn8) hn9))
      (first | (go_at_call 21; (with_reducible refine (toGraph_c n0 A0 c0 es0 _ (hx0.nx (by repeat (first | exact Nx.refl _ | assumption | apply Nx.alloc | apply Nx.drew | apply Nx.drewN | (refine Nx.setCell ?_ (by first | (simp; done) | (simp; omega) | omega) _) | refine Nx.trans ?_ (by assumption)))) (by omega)).mono ?_); rintro e w8 ⟨B8, d8, rfl, ho8, hn8⟩; have hx_8 := ho8.edgesAt) | (go_at_call 23; (with_reducible refine (eqGraph_c n0 n0 B5 B8 d5 d8 es0 es0 _ (hx_5.nx (by repeat (first | exact Nx.refl _ | assumption | apply Nx.alloc | apply Nx.drew | apply Nx.drewN | (refine Nx.setCell ?_ (by first | (simp; done) | (simp; omega) | omega) _) | refine Nx.trans ?_ (by assumption)))) (hx_8.nx (by repeat (first | exact Nx.refl _ | assumption | apply Nx.alloc | apply Nx.drew | apply Nx.drewN | (refine Nx.setCell ?_ (by first | (simp; done) | (simp; omega) | omega) _) | refine Nx.trans ?_ (by assumption)))) (by omega) (by omega)).mono ?_); rintro e w9 ⟨rfl, hn9⟩))
    have hr10 : Nx w7 w9 := (Nx.trans (Nx.trans (Nx.drew (Nx.refl _)) hn8) hn9)
    obtain ⟨hcr10, hfr10, hzr10⟩ := hr10.rules
    have hz8_0 : w.heap.size < w8.heap.size := (by have h := hn8.size; first | omega | (simp at h; done) | (simp at h; omega))
    have hz8_1 : w.heap.size + 1 < w8.heap.size := (by have h := hn8.size; first | omega | (simp at h; done) | (simp at h; omega))
    have hz8_2 : w5.heap.size < w8.heap.size := (by have h := hn8.size; first | omega | (simp at h; done) | (simp at h; omega))
    have hz9_0 : w.heap.size < w9.heap.size := (by have h := hn9.size; first | omega | (simp at h; done) | (simp at h; omega))
    have hz9_1 : w.heap.size + 1 < w9.heap.size := (by have h := hn9.size; first | omega | (simp at h; done) | (simp at h; omega))
    have hz9_2 : w5.heap.size < w9.heap.size := (by have h := hn9.size; first | omega | (simp at h; done) | (simp at h; omega))
    go_wp2
    go_ret
    exact RetV.bool rfl (by repeat (first | exact Nx.refl _ | assumption | apply Nx.alloc | apply Nx.drew | apply Nx.drewN | (refine Nx.setCell ?_ (by first | (simp; done) | (simp; omega) | omega) _) | refine Nx.trans ?_ (by assumption)))

end Go.Proofs.Ytidkbpgceoaggaa
