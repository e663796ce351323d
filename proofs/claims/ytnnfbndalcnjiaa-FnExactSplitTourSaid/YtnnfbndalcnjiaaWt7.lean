/- FnExactSplitTour: the walk (printed by lawgen.py). -/
import Derived.Test.YtnnfbndalcnjiaaAE
import Derived.Test.YtnnfbndalcnjiaaA9
import Derived.Test.YtnnfbndalcnjiaaH
import Derived.Test.YtnnfbndalcnjiaaG4
import Derived.Deep.RegionHeld3
import Derived.Deep.Cut
namespace Go.Proofs.Ytnnfbndalcnjiaa
open Go.RowKit set_option linter.unusedVariables false set_option linter.unusedSimpArgs false
set_option maxRecDepth 100000 in
set_option maxHeartbeats 8000000 in
theorem fnExactSplitTour_walk (w : World) (A0 : Option Addr) (c0 : Nat) (xs0 : List Int) (_ : xs0.length ≤ c0) (hm0 : Hid (xs0.length ≤ 9223372036854775807)) (hx0 : IntsAt w A0 xs0) (_ : ∀ n ∈ xs0, Fits n) (x1 y1 : Int) (_ : Fits x1) (_ : Fits y1) : Calls Try.prog 8 #[.slice A0 xs0.length c0, Ed x1 y1] w (RetV (.bool true) w) := by
  by_cases hl0 : xs0.length ≤ 1048576
  rotate_left
  · go_enter Try.func8, Try.ntmps8
    go_wp2
    go_ret
    exact RetV.bool rfl (by repeat (first | exact Nx.refl _ | assumption | apply Nx.alloc | apply Nx.drew | apply Nx.drewN | (refine Nx.setCell ?_ (by first | (simp; done) | (simp; omega) | omega) _) | refine Nx.trans ?_ (by assumption)))
  have hbA := tSplA_len xs0 (x1, y1)
  have hbB := tSplB_len xs0 (x1, y1)
  go_enter Try.func8, Try.ntmps8
  go_wp2_with fail
  generalize hv3 : World.alloc _ _ = v3
  have gv3 : Nx w v3 := by subst hv3; exact (by repeat (first | exact Nx.refl _ | assumption | apply Nx.alloc | apply Nx.drew | apply Nx.drewN | (refine Nx.setCell ?_ (by first | (simp; done) | (simp; omega) | omega) _) | refine Nx.trans ?_ (by assumption)))
  have bz3_0 : w.heap.size < v3.heap.size := by first | (have h := gv3.size; omega) | (subst hv3; simp; done) | (subst hv3; simp; omega)
  have : v3.cell? ⟨w.heap.size, 0, none⟩ = some (V x1) := by subst hv3; go_simp
  have : v3.cell? ⟨w.heap.size, 1, none⟩ = some (V y1) := by subst hv3; go_simp
  obtain ⟨hcv3, hfv3, hzv3⟩ := gv3.rules
  clear hv3
  go_wp2_with fail
  have kp3 : ∀ w', Nx v3 w' → (fun w_ => Nx v3 w_ ∧ w_.cell? ⟨w.heap.size, 0, none⟩ = some (V x1) ∧ w_.cell? ⟨w.heap.size, 1, none⟩ = some (V y1)) w' := fun w' h => ⟨h, h.cell (by first | assumption | omega) (by go_simp), h.cell (by first | assumption | omega) (by go_simp)⟩
  go_region_held3 (fun w_ => Nx v3 w_ ∧ w_.cell? ⟨w.heap.size, 0, none⟩ = some (V x1) ∧ w_.cell? ⟨w.heap.size, 1, none⟩ = some (V y1))
    (first | exact kp3 _ (Nx.drew (Nx.refl _)) | exact kp3 _ (Nx.trans (Nx.drew (Nx.refl _)) hn1) | exact kp3 _ (Nx.trans (Nx.trans (Nx.drew (Nx.refl _)) hn1) hn2) | exact kp3 _ (Nx.trans (Nx.trans (Nx.trans (Nx.drew (Nx.refl _)) hn1) hn2) hn3) | exact kp3 _ (Nx.alloc (Nx.trans (Nx.trans (Nx.trans (Nx.drew (Nx.refl _)) hn1) hn2) hn3) _))
    (first | (go_at_call 11; (with_reducible refine (toIntS_c A0 c0 xs0 _ (hx0.nx (by repeat (first | exact Nx.refl _ | assumption | apply Nx.alloc | apply Nx.drew | apply Nx.drewN | (refine Nx.setCell ?_ (by first | (simp; done) | (simp; omega) | omega) _) | refine Nx.trans ?_ (by assumption)))) (by omega)).mono ?_); rintro e w1 ⟨B1, d1, rfl, ho1, hn1⟩; have ho1m := ho1.mono (base' := v3.heap.size) (by first | exact Nat.le_refl _ | omega | (simp; done) | (simp; omega))) | (go_at_call 28; (with_reducible refine (toEdge_c x1 y1 _).mono ?_); rintro e w2 ⟨rfl, hn2⟩) | (go_at_call 27; (with_reducible refine (sSplitTour_c B1 d1 xs0.length xs0 x1 y1 _ rfl ho1m.cap ((ho1m.nx (by repeat (first | exact Nx.refl _ | assumption | apply Nx.alloc | apply Nx.drew | apply Nx.drewN | (refine Nx.setCell ?_ (by first | (simp; done) | (simp; omega) | omega) _) | refine Nx.trans ?_ (by assumption)))).intsAt) (by omega)).mono ?_); rintro e w3 ⟨B3, d3, E3, g3, rfl, ho3, hp3, ha3, hb3, hn3⟩; have ho3m := ho3.mono (base' := w2.heap.size) (by first | exact Nat.le_refl _ | omega | (simp; done) | (simp; omega)); have hp3m := hp3.mono (base' := w2.heap.size) (by first | exact Nat.le_refl _ | omega | (simp; done) | (simp; omega))))
  have hr3 : Nx v3 w3 := (Nx.trans (Nx.trans (Nx.trans (Nx.drew (Nx.refl _)) hn1) hn2) hn3)
  obtain ⟨hcr3, hfr3, hzr3⟩ := hr3.rules
  clear kp3
  have hz1_0 : w.heap.size < w1.heap.size := (by have h := hn1.size; first | omega | (simp at h; done) | (simp at h; omega))
  have hz2_0 : w.heap.size < w2.heap.size := (by have h := hn2.size; first | omega | (simp at h; done) | (simp at h; omega))
  have hz3_0 : w.heap.size < w3.heap.size := (by have h := hn3.size; first | omega | (simp at h; done) | (simp at h; omega))
  go_wp2_with fail
  refine (toIntS_c A0 c0 xs0 _ (hx0.nx (by repeat (first | exact Nx.refl _ | assumption | apply Nx.alloc | apply Nx.drew | apply Nx.drewN | (refine Nx.setCell ?_ (by first | (simp; done) | (simp; omega) | omega) _) | refine Nx.trans ?_ (by assumption)))) (by omega)).mono ?_
  rintro e w4 ⟨B4, d4, rfl, ho4, hn4⟩
  obtain ⟨hc4, hf4, hz4⟩ := hn4.rules
  have hzw4 : w3.heap.size ≤ w4.heap.size := by have h := hn4.size; first | omega | (simp at h; omega)
  have hz4_0 : w.heap.size < w4.heap.size := (by have h := hn4.size; first | omega | (simp at h; done) | (simp at h; omega))
  have ho4m := ho4.mono (base' := w3.heap.size) (by first | exact Nat.le_refl _ | omega | (simp; done) | (simp; omega))
  go_wp2_with fail
  refine (toEdge_c x1 y1 _).mono ?_
  rintro e w5 ⟨rfl, hn5⟩
  obtain ⟨hc5, hf5, hz5⟩ := hn5.rules
  have hzw5 : w4.heap.size ≤ w5.heap.size := by have h := hn5.size; first | omega | (simp at h; omega)
  have hz5_0 : w.heap.size < w5.heap.size := (by have h := hn5.size; first | omega | (simp at h; done) | (simp at h; omega))
  go_wp2_with fail
  refine (iSplitTour_c B4 d4 xs0.length xs0 x1 y1 _ rfl ho4m.cap ((ho4m.nx (by repeat (first | exact Nx.refl _ | assumption | apply Nx.alloc | apply Nx.drew | apply Nx.drewN | (refine Nx.setCell ?_ (by first | (simp; done) | (simp; omega) | omega) _) | refine Nx.trans ?_ (by assumption)))).intsAt) (by omega)).mono ?_
  rintro e w6 ⟨B6, d6, E6, g6, rfl, ho6, hp6, ha6, hb6, hn6⟩
  obtain ⟨hc6, hf6, hz6⟩ := hn6.rules
  have hzw6 : w5.heap.size ≤ w6.heap.size := by have h := hn6.size; first | omega | (simp at h; omega)
  have hz6_0 : w.heap.size < w6.heap.size := (by have h := hn6.size; first | omega | (simp at h; done) | (simp at h; omega))
  have ho6m := ho6.mono (base' := w5.heap.size) (by first | exact Nat.le_refl _ | omega | (simp; done) | (simp; omega))
  have hp6m := hp6.mono (base' := w5.heap.size) (by first | exact Nat.le_refl _ | omega | (simp; done) | (simp; omega))
  go_wp2_with fail
  refine (eqIntS_c B6 B3 d6 d3 (tSplA xs0 (x1, y1)) (tSplA xs0 (x1, y1)) _ ((ho6m.nx (by repeat (first | exact Nx.refl _ | assumption | apply Nx.alloc | apply Nx.drew | apply Nx.drewN | (refine Nx.setCell ?_ (by first | (simp; done) | (simp; omega) | omega) _) | refine Nx.trans ?_ (by assumption)))).intsAt) ((ho3m.nx (by repeat (first | exact Nx.refl _ | assumption | apply Nx.alloc | apply Nx.drew | apply Nx.drewN | (refine Nx.setCell ?_ (by first | (simp; done) | (simp; omega) | omega) _) | refine Nx.trans ?_ (by assumption)))).intsAt) (Nat.le_trans (tSplA_len xs0 (x1, y1)) (by omega)) (Nat.le_trans (tSplA_len xs0 (x1, y1)) (by omega))).mono ?_
  rintro e w7 ⟨rfl, hn7⟩
  obtain ⟨hc7, hf7, hz7⟩ := hn7.rules
  have hzw7 : w6.heap.size ≤ w7.heap.size := by have h := hn7.size; first | omega | (simp at h; omega)
  have hz7_0 : w.heap.size < w7.heap.size := (by have h := hn7.size; first | omega | (simp at h; done) | (simp at h; omega))
  go_wp2_with fail
  refine (eqIntS_c E6 E3 g6 g3 (tSplB xs0 (x1, y1)) (tSplB xs0 (x1, y1)) _ ((hp6m.nx (by repeat (first | exact Nx.refl _ | assumption | apply Nx.alloc | apply Nx.drew | apply Nx.drewN | (refine Nx.setCell ?_ (by first | (simp; done) | (simp; omega) | omega) _) | refine Nx.trans ?_ (by assumption)))).intsAt) ((hp3m.nx (by repeat (first | exact Nx.refl _ | assumption | apply Nx.alloc | apply Nx.drew | apply Nx.drewN | (refine Nx.setCell ?_ (by first | (simp; done) | (simp; omega) | omega) _) | refine Nx.trans ?_ (by assumption)))).intsAt) (Nat.le_trans (tSplB_len xs0 (x1, y1)) (by omega)) (Nat.le_trans (tSplB_len xs0 (x1, y1)) (by omega))).mono ?_
  rintro e w8 ⟨rfl, hn8⟩
  obtain ⟨hc8, hf8, hz8⟩ := hn8.rules
  have hzw8 : w7.heap.size ≤ w8.heap.size := by have h := hn8.size; first | omega | (simp at h; omega)
  have hz8_0 : w.heap.size < w8.heap.size := (by have h := hn8.size; first | omega | (simp at h; done) | (simp at h; omega))
  go_wp2_with fail
  refine (toIntS_c A0 c0 xs0 _ (hx0.nx (by repeat (first | exact Nx.refl _ | assumption | apply Nx.alloc | apply Nx.drew | apply Nx.drewN | (refine Nx.setCell ?_ (by first | (simp; done) | (simp; omega) | omega) _) | refine Nx.trans ?_ (by assumption)))) (by omega)).mono ?_
  rintro e w9 ⟨B9, d9, rfl, ho9, hn9⟩
  obtain ⟨hc9, hf9, hz9⟩ := hn9.rules
  have hzw9 : w8.heap.size ≤ w9.heap.size := by have h := hn9.size; first | omega | (simp at h; omega)
  have hz9_0 : w.heap.size < w9.heap.size := (by have h := hn9.size; first | omega | (simp at h; done) | (simp at h; omega))
  have ho9m := ho9.mono (base' := w8.heap.size) (by first | exact Nat.le_refl _ | omega | (simp; done) | (simp; omega))
  go_wp2_with fail
  refine (eqIntS_c B4 B9 d4 d9 xs0 xs0 _ ((ho4m.nx (by repeat (first | exact Nx.refl _ | assumption | apply Nx.alloc | apply Nx.drew | apply Nx.drewN | (refine Nx.setCell ?_ (by first | (simp; done) | (simp; omega) | omega) _) | refine Nx.trans ?_ (by assumption)))).intsAt) ((ho9m.nx (by repeat (first | exact Nx.refl _ | assumption | apply Nx.alloc | apply Nx.drew | apply Nx.drewN | (refine Nx.setCell ?_ (by first | (simp; done) | (simp; omega) | omega) _) | refine Nx.trans ?_ (by assumption)))).intsAt) (by omega) (by omega)).mono ?_
  rintro e w10 ⟨rfl, hn10⟩
  obtain ⟨hc10, hf10, hz10⟩ := hn10.rules
  have hzw10 : w9.heap.size ≤ w10.heap.size := by have h := hn10.size; first | omega | (simp at h; omega)
  have hz10_0 : w.heap.size < w10.heap.size := (by have h := hn10.size; first | omega | (simp at h; done) | (simp at h; omega))
  go_wp2_with fail
  refine (markIntS_c _ _ B4 d4 xs0 (1) _ (ho4m.nx (by repeat (first | exact Nx.refl _ | assumption | apply Nx.alloc | apply Nx.drew | apply Nx.drewN | (refine Nx.setCell ?_ (by first | (simp; done) | (simp; omega) | omega) _) | refine Nx.trans ?_ (by assumption)))) (by omega) (by omega) (by omega)).mono ?_
  rintro e w11 ⟨rfl, ho11, hg11⟩
  have hn11 : Nx w w11 := Nx.grown (by exact (by repeat (first | exact Nx.refl _ | assumption | apply Nx.alloc | apply Nx.drew | apply Nx.drewN | (refine Nx.setCell ?_ (by first | (simp; done) | (simp; omega) | omega) _) | refine Nx.trans ?_ (by assumption)))) hg11 (fun k hk => by have := ho4m.lt k hk; first | omega | (simp at this; done) | (simp at this; omega))
  have hzw11 : w10.heap.size ≤ w11.heap.size := by have h := hg11.size; first | omega | (simp at h; omega)
  have hz11_0 : w.heap.size < w11.heap.size := by have h := hg11.size; first | omega | (simp at h; done) | (simp at h; omega)
  have : w11.cell? ⟨w.heap.size, 0, none⟩ = some (V x1) := World.grownBy.cell hg11 (by go_simp) (fun h => by have := ho4m.lt _ h.symm; first | omega | (simp at this; done) | (simp at this; omega) | exact absurd rfl (by first | fail | fail))
  have : w11.cell? ⟨w.heap.size, 1, none⟩ = some (V y1) := World.grownBy.cell hg11 (by go_simp) (fun h => by have := ho4m.lt _ h.symm; first | omega | (simp at this; done) | (simp at this; omega) | exact absurd rfl (by first | fail | fail))
  have hk11_r3 := (ho3m.nx (by repeat (first | exact Nx.refl _ | assumption | apply Nx.alloc | apply Nx.drew | apply Nx.drewN | (refine Nx.setCell ?_ (by first | (simp; done) | (simp; omega) | omega) _) | refine Nx.trans ?_ (by assumption)))).kept hg11 (apart_of ho3m.lt ho4m.lt (by omega))
  have hk11_s3 := (hp3m.nx (by repeat (first | exact Nx.refl _ | assumption | apply Nx.alloc | apply Nx.drew | apply Nx.drewN | (refine Nx.setCell ?_ (by first | (simp; done) | (simp; omega) | omega) _) | refine Nx.trans ?_ (by assumption)))).kept hg11 (apart_of hp3m.lt ho4m.lt (by omega))
  have hk11_r6 := (ho6m.nx (by repeat (first | exact Nx.refl _ | assumption | apply Nx.alloc | apply Nx.drew | apply Nx.drewN | (refine Nx.setCell ?_ (by first | (simp; done) | (simp; omega) | omega) _) | refine Nx.trans ?_ (by assumption)))).kept hg11 (apart_of ho6m.lt ho4m.lt (by omega))
  have hk11_s6 := (hp6m.nx (by repeat (first | exact Nx.refl _ | assumption | apply Nx.alloc | apply Nx.drew | apply Nx.drewN | (refine Nx.setCell ?_ (by first | (simp; done) | (simp; omega) | omega) _) | refine Nx.trans ?_ (by assumption)))).kept hg11 (apart_of hp6m.lt ho4m.lt (by omega))
  go_wp2_with fail
  refine (eqIntS_c B6 B3 d6 d3 (tSplA xs0 (x1, y1)) (tSplA xs0 (x1, y1)) _ ((hk11_r6.nx (by repeat (first | exact Nx.refl _ | assumption | apply Nx.alloc | apply Nx.drew | apply Nx.drewN | (refine Nx.setCell ?_ (by first | (simp; done) | (simp; omega) | omega) _) | refine Nx.trans ?_ (by assumption)))).intsAt) ((hk11_r3.nx (by repeat (first | exact Nx.refl _ | assumption | apply Nx.alloc | apply Nx.drew | apply Nx.drewN | (refine Nx.setCell ?_ (by first | (simp; done) | (simp; omega) | omega) _) | refine Nx.trans ?_ (by assumption)))).intsAt) (Nat.le_trans (tSplA_len xs0 (x1, y1)) (by omega)) (Nat.le_trans (tSplA_len xs0 (x1, y1)) (by omega))).mono ?_
  rintro e w12 ⟨rfl, hn12⟩
  obtain ⟨hc12, hf12, hz12⟩ := hn12.rules
  have hzw12 : w11.heap.size ≤ w12.heap.size := by have h := hn12.size; first | omega | (simp at h; omega)
  have hz12_0 : w.heap.size < w12.heap.size := (by have h := hn12.size; first | omega | (simp at h; done) | (simp at h; omega))
  go_wp2_with fail
  refine (eqIntS_c E6 E3 g6 g3 (tSplB xs0 (x1, y1)) (tSplB xs0 (x1, y1)) _ ((hk11_s6.nx (by repeat (first | exact Nx.refl _ | assumption | apply Nx.alloc | apply Nx.drew | apply Nx.drewN | (refine Nx.setCell ?_ (by first | (simp; done) | (simp; omega) | omega) _) | refine Nx.trans ?_ (by assumption)))).intsAt) ((hk11_s3.nx (by repeat (first | exact Nx.refl _ | assumption | apply Nx.alloc | apply Nx.drew | apply Nx.drewN | (refine Nx.setCell ?_ (by first | (simp; done) | (simp; omega) | omega) _) | refine Nx.trans ?_ (by assumption)))).intsAt) (Nat.le_trans (tSplB_len xs0 (x1, y1)) (by omega)) (Nat.le_trans (tSplB_len xs0 (x1, y1)) (by omega))).mono ?_
  rintro e w13 ⟨rfl, hn13⟩
  obtain ⟨hc13, hf13, hz13⟩ := hn13.rules
  have hzw13 : w12.heap.size ≤ w13.heap.size := by have h := hn13.size; first | omega | (simp at h; omega)
  have hz13_0 : w.heap.size < w13.heap.size := (by have h := hn13.size; first | omega | (simp at h; done) | (simp at h; omega))
  go_wp2_with fail
  refine (markIntS_c _ _ B6 d6 (tSplA xs0 (x1, y1)) (1) _ (hk11_r6.nx (by repeat (first | exact Nx.refl _ | assumption | apply Nx.alloc | apply Nx.drew | apply Nx.drewN | (refine Nx.setCell ?_ (by first | (simp; done) | (simp; omega) | omega) _) | refine Nx.trans ?_ (by assumption)))) (Nat.le_trans (tSplA_len xs0 (x1, y1)) (by omega)) (by omega) (by omega)).mono ?_
  rintro e w14 ⟨rfl, ho14, hg14⟩
  have hn14 : Nx w w14 := Nx.grown (by exact (by repeat (first | exact Nx.refl _ | assumption | apply Nx.alloc | apply Nx.drew | apply Nx.drewN | (refine Nx.setCell ?_ (by first | (simp; done) | (simp; omega) | omega) _) | refine Nx.trans ?_ (by assumption)))) hg14 (fun k hk => by have := ho6m.lt k hk; first | omega | (simp at this; done) | (simp at this; omega))
  have hzw14 : w13.heap.size ≤ w14.heap.size := by have h := hg14.size; first | omega | (simp at h; omega)
  have hz14_0 : w.heap.size < w14.heap.size := by have h := hg14.size; first | omega | (simp at h; done) | (simp at h; omega)
  have : w14.cell? ⟨w.heap.size, 0, none⟩ = some (V x1) := World.grownBy.cell hg14 (by go_simp) (fun h => by have := ho6m.lt _ h.symm; first | omega | (simp at this; done) | (simp at this; omega) | exact absurd rfl (by first | fail | fail))
  have : w14.cell? ⟨w.heap.size, 1, none⟩ = some (V y1) := World.grownBy.cell hg14 (by go_simp) (fun h => by have := ho6m.lt _ h.symm; first | omega | (simp at this; done) | (simp at this; omega) | exact absurd rfl (by first | fail | fail))
  have hk14_r3 := (hk11_r3.nx (by repeat (first | exact Nx.refl _ | assumption | apply Nx.alloc | apply Nx.drew | apply Nx.drewN | (refine Nx.setCell ?_ (by first | (simp; done) | (simp; omega) | omega) _) | refine Nx.trans ?_ (by assumption)))).kept hg14 (apart_of ho3m.lt ho6m.lt (by omega))
  have hk14_s3 := (hk11_s3.nx (by repeat (first | exact Nx.refl _ | assumption | apply Nx.alloc | apply Nx.drew | apply Nx.drewN | (refine Nx.setCell ?_ (by first | (simp; done) | (simp; omega) | omega) _) | refine Nx.trans ?_ (by assumption)))).kept hg14 (apart_of hp3m.lt ho6m.lt (by omega))
  have hk14_s6 := (hk11_s6.nx (by repeat (first | exact Nx.refl _ | assumption | apply Nx.alloc | apply Nx.drew | apply Nx.drewN | (refine Nx.setCell ?_ (by first | (simp; done) | (simp; omega) | omega) _) | refine Nx.trans ?_ (by assumption)))).kept hg14 (hb6)
  go_wp2_with fail
  refine (markIntS_c _ _ E6 g6 (tSplB xs0 (x1, y1)) (1 + ((tSplA xs0 (x1, y1)).length : Nat)) _ (hk14_s6.nx (by repeat (first | exact Nx.refl _ | assumption | apply Nx.alloc | apply Nx.drew | apply Nx.drewN | (refine Nx.setCell ?_ (by first | (simp; done) | (simp; omega) | omega) _) | refine Nx.trans ?_ (by assumption)))) (Nat.le_trans (tSplB_len xs0 (x1, y1)) (by omega)) (by omega) (by omega)).mono ?_
  rintro e w15 ⟨rfl, ho15, hg15⟩
  have hn15 : Nx w w15 := Nx.grown (by exact (by repeat (first | exact Nx.refl _ | assumption | apply Nx.alloc | apply Nx.drew | apply Nx.drewN | (refine Nx.setCell ?_ (by first | (simp; done) | (simp; omega) | omega) _) | refine Nx.trans ?_ (by assumption)))) hg15 (fun k hk => by have := hp6m.lt k hk; first | omega | (simp at this; done) | (simp at this; omega))
  have hzw15 : w14.heap.size ≤ w15.heap.size := by have h := hg15.size; first | omega | (simp at h; omega)
  have hz15_0 : w.heap.size < w15.heap.size := by have h := hg15.size; first | omega | (simp at h; done) | (simp at h; omega)
  have : w15.cell? ⟨w.heap.size, 0, none⟩ = some (V x1) := World.grownBy.cell hg15 (by go_simp) (fun h => by have := hp6m.lt _ h.symm; first | omega | (simp at this; done) | (simp at this; omega) | exact absurd rfl (by first | fail | fail))
  have : w15.cell? ⟨w.heap.size, 1, none⟩ = some (V y1) := World.grownBy.cell hg15 (by go_simp) (fun h => by have := hp6m.lt _ h.symm; first | omega | (simp at this; done) | (simp at this; omega) | exact absurd rfl (by first | fail | fail))
  have hk15_r3 := (hk14_r3.nx (by repeat (first | exact Nx.refl _ | assumption | apply Nx.alloc | apply Nx.drew | apply Nx.drewN | (refine Nx.setCell ?_ (by first | (simp; done) | (simp; omega) | omega) _) | refine Nx.trans ?_ (by assumption)))).kept hg15 (apart_of ho3m.lt hp6m.lt (by omega))
  have hk15_s3 := (hk14_s3.nx (by repeat (first | exact Nx.refl _ | assumption | apply Nx.alloc | apply Nx.drew | apply Nx.drewN | (refine Nx.setCell ?_ (by first | (simp; done) | (simp; omega) | omega) _) | refine Nx.trans ?_ (by assumption)))).kept hg15 (apart_of hp3m.lt hp6m.lt (by omega))
  have hk15_r6 := (ho14.nx (by repeat (first | exact Nx.refl _ | assumption | apply Nx.alloc | apply Nx.drew | apply Nx.drewN | (refine Nx.setCell ?_ (by first | (simp; done) | (simp; omega) | omega) _) | refine Nx.trans ?_ (by assumption)))).kept hg15 (ha6)
  go_wp2_with fail
  refine (heldIntS_c B6 d6 (tSplA xs0 (x1, y1)).length (1) _ ((hk15_r6.nx (by repeat (first | exact Nx.refl _ | assumption | apply Nx.alloc | apply Nx.drew | apply Nx.drewN | (refine Nx.setCell ?_ (by first | (simp; done) | (simp; omega) | omega) _) | refine Nx.trans ?_ (by assumption)))).intsAt) (Nat.le_trans (tSplA_len xs0 (x1, y1)) (by omega)) (by omega) (by omega)).mono ?_
  rintro e w16 ⟨rfl, hn16⟩
  obtain ⟨hc16, hf16, hz16⟩ := hn16.rules
  have hzw16 : w15.heap.size ≤ w16.heap.size := by have h := hn16.size; first | omega | (simp at h; omega)
  have hz16_0 : w.heap.size < w16.heap.size := (by have h := hn16.size; first | omega | (simp at h; done) | (simp at h; omega))
  go_wp2_with fail
  refine (heldIntS_c E6 g6 (tSplB xs0 (x1, y1)).length (1 + ((tSplA xs0 (x1, y1)).length : Nat)) _ ((ho15.nx (by repeat (first | exact Nx.refl _ | assumption | apply Nx.alloc | apply Nx.drew | apply Nx.drewN | (refine Nx.setCell ?_ (by first | (simp; done) | (simp; omega) | omega) _) | refine Nx.trans ?_ (by assumption)))).intsAt) (Nat.le_trans (tSplB_len xs0 (x1, y1)) (by omega)) (by omega) (by omega)).mono ?_
  rintro e w17 ⟨rfl, hn17⟩
  obtain ⟨hc17, hf17, hz17⟩ := hn17.rules
  have hzw17 : w16.heap.size ≤ w17.heap.size := by have h := hn17.size; first | omega | (simp at h; omega)
  have hz17_0 : w.heap.size < w17.heap.size := (by have h := hn17.size; first | omega | (simp at h; done) | (simp at h; omega))
  go_wp2_with fail
  have kp26 : ∀ w', Nx w17 w' → (fun w_ => Nx w17 w_ ∧ w_.cell? ⟨w.heap.size, 0, none⟩ = some (V x1) ∧ w_.cell? ⟨w.heap.size, 1, none⟩ = some (V y1)) w' := fun w' h => ⟨h, h.cell (by first | assumption | omega) (by go_simp), h.cell (by first | assumption | omega) (by go_simp)⟩
  go_region_held3 (fun w_ => Nx w17 w_ ∧ w_.cell? ⟨w.heap.size, 0, none⟩ = some (V x1) ∧ w_.cell? ⟨w.heap.size, 1, none⟩ = some (V y1))
    (first | exact kp26 _ (Nx.drew (Nx.refl _)) | exact kp26 _ (Nx.trans (Nx.drew (Nx.refl _)) hn18) | exact kp26 _ (Nx.trans (Nx.trans (Nx.drew (Nx.refl _)) hn18) hn19) | exact kp26 _ (Nx.trans (Nx.trans (Nx.trans (Nx.drew (Nx.refl _)) hn18) hn19) hn20) | exact kp26 _ (Nx.alloc (Nx.trans (Nx.trans (Nx.trans (Nx.drew (Nx.refl _)) hn18) hn19) hn20) _))
    (first | (go_at_call 11; (with_reducible refine (toIntS_c A0 c0 xs0 _ (hx0.nx (by repeat (first | exact Nx.refl _ | assumption | apply Nx.alloc | apply Nx.drew | apply Nx.drewN | (refine Nx.setCell ?_ (by first | (simp; done) | (simp; omega) | omega) _) | refine Nx.trans ?_ (by assumption)))) (by omega)).mono ?_); rintro e w18 ⟨B18, d18, rfl, ho18, hn18⟩; have ho18m := ho18.mono (base' := w17.heap.size) (by first | exact Nat.le_refl _ | omega | (simp; done) | (simp; omega))) | (go_at_call 28; (with_reducible refine (toEdge_c x1 y1 _).mono ?_); rintro e w19 ⟨rfl, hn19⟩) | (go_at_call 29; (with_reducible refine (iSplitTour_c B18 d18 xs0.length xs0 x1 y1 _ rfl ho18m.cap ((ho18m.nx (by repeat (first | exact Nx.refl _ | assumption | apply Nx.alloc | apply Nx.drew | apply Nx.drewN | (refine Nx.setCell ?_ (by first | (simp; done) | (simp; omega) | omega) _) | refine Nx.trans ?_ (by assumption)))).intsAt) (by omega)).mono ?_); rintro e w20 ⟨B20, d20, E20, g20, rfl, ho20, hp20, ha20, hb20, hn20⟩; have ho20m := ho20.mono (base' := w19.heap.size) (by first | exact Nat.le_refl _ | omega | (simp; done) | (simp; omega)); have hp20m := hp20.mono (base' := w19.heap.size) (by first | exact Nat.le_refl _ | omega | (simp; done) | (simp; omega))))
  have hr26 : Nx w17 w20 := (Nx.trans (Nx.trans (Nx.trans (Nx.drew (Nx.refl _)) hn18) hn19) hn20)
  obtain ⟨hcr26, hfr26, hzr26⟩ := hr26.rules
  clear kp26
  have hz18_0 : w.heap.size < w18.heap.size := (by have h := hn18.size; first | omega | (simp at h; done) | (simp at h; omega))
  have hz19_0 : w.heap.size < w19.heap.size := (by have h := hn19.size; first | omega | (simp at h; done) | (simp at h; omega))
  have hz20_0 : w.heap.size < w20.heap.size := (by have h := hn20.size; first | omega | (simp at h; done) | (simp at h; omega))
  go_wp2_with fail
  refine (eqIntS_c B20 B3 d20 d3 (tSplA xs0 (x1, y1)) (tSplA xs0 (x1, y1)) _ ((ho20m.nx (by repeat (first | exact Nx.refl _ | assumption | apply Nx.alloc | apply Nx.drew | apply Nx.drewN | (refine Nx.setCell ?_ (by first | (simp; done) | (simp; omega) | omega) _) | refine Nx.trans ?_ (by assumption)))).intsAt) ((hk15_r3.nx (by repeat (first | exact Nx.refl _ | assumption | apply Nx.alloc | apply Nx.drew | apply Nx.drewN | (refine Nx.setCell ?_ (by first | (simp; done) | (simp; omega) | omega) _) | refine Nx.trans ?_ (by assumption)))).intsAt) (Nat.le_trans (tSplA_len xs0 (x1, y1)) (by omega)) (Nat.le_trans (tSplA_len xs0 (x1, y1)) (by omega))).mono ?_
  rintro e w21 ⟨rfl, hn21⟩
  obtain ⟨hc21, hf21, hz21⟩ := hn21.rules
  have hzw21 : w20.heap.size ≤ w21.heap.size := by have h := hn21.size; first | omega | (simp at h; omega)
  have hz21_0 : w.heap.size < w21.heap.size := (by have h := hn21.size; first | omega | (simp at h; done) | (simp at h; omega))
  go_wp2_with fail
  refine (eqIntS_c E20 E3 g20 g3 (tSplB xs0 (x1, y1)) (tSplB xs0 (x1, y1)) _ ((hp20m.nx (by repeat (first | exact Nx.refl _ | assumption | apply Nx.alloc | apply Nx.drew | apply Nx.drewN | (refine Nx.setCell ?_ (by first | (simp; done) | (simp; omega) | omega) _) | refine Nx.trans ?_ (by assumption)))).intsAt) ((hk15_s3.nx (by repeat (first | exact Nx.refl _ | assumption | apply Nx.alloc | apply Nx.drew | apply Nx.drewN | (refine Nx.setCell ?_ (by first | (simp; done) | (simp; omega) | omega) _) | refine Nx.trans ?_ (by assumption)))).intsAt) (Nat.le_trans (tSplB_len xs0 (x1, y1)) (by omega)) (Nat.le_trans (tSplB_len xs0 (x1, y1)) (by omega))).mono ?_
  rintro e w22 ⟨rfl, hn22⟩
  obtain ⟨hc22, hf22, hz22⟩ := hn22.rules
  have hzw22 : w21.heap.size ≤ w22.heap.size := by have h := hn22.size; first | omega | (simp at h; omega)
  have hz22_0 : w.heap.size < w22.heap.size := (by have h := hn22.size; first | omega | (simp at h; done) | (simp at h; omega))
  go_wp2_with fail
  refine (heldIntS_c B6 d6 (tSplA xs0 (x1, y1)).length (1) _ ((hk15_r6.nx (by repeat (first | exact Nx.refl _ | assumption | apply Nx.alloc | apply Nx.drew | apply Nx.drewN | (refine Nx.setCell ?_ (by first | (simp; done) | (simp; omega) | omega) _) | refine Nx.trans ?_ (by assumption)))).intsAt) (Nat.le_trans (tSplA_len xs0 (x1, y1)) (by omega)) (by omega) (by omega)).mono ?_
  rintro e w23 ⟨rfl, hn23⟩
  obtain ⟨hc23, hf23, hz23⟩ := hn23.rules
  have hzw23 : w22.heap.size ≤ w23.heap.size := by have h := hn23.size; first | omega | (simp at h; omega)
  have hz23_0 : w.heap.size < w23.heap.size := (by have h := hn23.size; first | omega | (simp at h; done) | (simp at h; omega))
  go_wp2_with fail
  refine (heldIntS_c E6 g6 (tSplB xs0 (x1, y1)).length (1 + ((tSplA xs0 (x1, y1)).length : Nat)) _ ((ho15.nx (by repeat (first | exact Nx.refl _ | assumption | apply Nx.alloc | apply Nx.drew | apply Nx.drewN | (refine Nx.setCell ?_ (by first | (simp; done) | (simp; omega) | omega) _) | refine Nx.trans ?_ (by assumption)))).intsAt) (Nat.le_trans (tSplB_len xs0 (x1, y1)) (by omega)) (by omega) (by omega)).mono ?_
  rintro e w24 ⟨rfl, hn24⟩
  obtain ⟨hc24, hf24, hz24⟩ := hn24.rules
  have hzw24 : w23.heap.size ≤ w24.heap.size := by have h := hn24.size; first | omega | (simp at h; omega)
  have hz24_0 : w.heap.size < w24.heap.size := (by have h := hn24.size; first | omega | (simp at h; done) | (simp at h; omega))
  go_wp2
  go_ret
  exact RetV.bool rfl (by repeat (first | exact Nx.refl _ | assumption | apply Nx.alloc | apply Nx.drew | apply Nx.drewN | (refine Nx.setCell ?_ (by first | (simp; done) | (simp; omega) | omega) _) | refine Nx.trans ?_ (by assumption)))
end Go.Proofs.Ytnnfbndalcnjiaa
