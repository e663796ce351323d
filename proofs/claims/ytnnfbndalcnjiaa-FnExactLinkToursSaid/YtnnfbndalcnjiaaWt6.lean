/- FnExactLinkTours: the walk (printed by lawgen.py). -/
import Derived.Test.YtnnfbndalcnjiaaAD
import Derived.Test.YtnnfbndalcnjiaaA9
import Derived.Test.YtnnfbndalcnjiaaH
import Derived.Test.YtnnfbndalcnjiaaG4
import Derived.Deep.RegionHeld3
import Derived.Deep.Cut
namespace Go.Proofs.Ytnnfbndalcnjiaa
open Go.RowKit set_option linter.unusedVariables false set_option linter.unusedSimpArgs false
set_option maxRecDepth 100000 in
set_option maxHeartbeats 8000000 in
theorem fnExactLinkTours_walk (w : World) (A0 : Option Addr) (c0 : Nat) (xs0 : List Int) (_ : xs0.length ≤ c0) (hm0 : Hid (xs0.length ≤ 9223372036854775807)) (hx0 : IntsAt w A0 xs0) (_ : ∀ n ∈ xs0, Fits n) (A1 : Option Addr) (c1 : Nat) (xs1 : List Int) (_ : xs1.length ≤ c1) (hm1 : Hid (xs1.length ≤ 9223372036854775807)) (hx1 : IntsAt w A1 xs1) (_ : ∀ n ∈ xs1, Fits n) (a2 : Int) (ha2 : Fits a2) (a3 : Int) (ha3 : Fits a3) : Calls Try.prog 9 #[.slice A0 xs0.length c0, .slice A1 xs1.length c1, V a2, V a3] w (RetV (.bool true) w) := by
  by_cases hl0 : xs0.length ≤ 1048576
  rotate_left
  · go_enter Try.func9, Try.ntmps9
    go_wp2
    go_ret
    exact RetV.bool rfl (by repeat (first | exact Nx.refl _ | assumption | apply Nx.alloc | apply Nx.drew | apply Nx.drewN | (refine Nx.setCell ?_ (by first | (simp; done) | (simp; omega) | omega) _) | refine Nx.trans ?_ (by assumption)))
  by_cases hl1 : xs1.length ≤ 1048576
  rotate_left
  · go_enter Try.func9, Try.ntmps9
    go_wp2
    go_ret
    exact RetV.bool rfl (by repeat (first | exact Nx.refl _ | assumption | apply Nx.alloc | apply Nx.drew | apply Nx.drewN | (refine Nx.setCell ?_ (by first | (simp; done) | (simp; omega) | omega) _) | refine Nx.trans ?_ (by assumption)))
  go_enter Try.func9, Try.ntmps9
  go_wp2_with fail
  refine (toIntS_c A0 c0 xs0 _ (hx0.nx (by repeat (first | exact Nx.refl _ | assumption | apply Nx.alloc | apply Nx.drew | apply Nx.drewN | (refine Nx.setCell ?_ (by first | (simp; done) | (simp; omega) | omega) _) | refine Nx.trans ?_ (by assumption)))) (by omega)).mono ?_
  rintro e w1 ⟨B1, d1, rfl, ho1, hn1⟩
  obtain ⟨hc1, hf1, hz1⟩ := hn1.rules
  have hzw1 : w.heap.size ≤ w1.heap.size := by have h := hn1.size; first | omega | (simp at h; omega)
  have ho1m := ho1.mono (base' := w.heap.size) (by first | exact Nat.le_refl _ | omega | (simp; done) | (simp; omega))
  go_wp2_with fail
  refine (toIntS_c A1 c1 xs1 _ (hx1.nx (by repeat (first | exact Nx.refl _ | assumption | apply Nx.alloc | apply Nx.drew | apply Nx.drewN | (refine Nx.setCell ?_ (by first | (simp; done) | (simp; omega) | omega) _) | refine Nx.trans ?_ (by assumption)))) (by omega)).mono ?_
  rintro e w2 ⟨B2, d2, rfl, ho2, hn2⟩
  obtain ⟨hc2, hf2, hz2⟩ := hn2.rules
  have hzw2 : w1.heap.size ≤ w2.heap.size := by have h := hn2.size; first | omega | (simp at h; omega)
  have ho2m := ho2.mono (base' := w1.heap.size) (by first | exact Nat.le_refl _ | omega | (simp; done) | (simp; omega))
  go_wp2_with fail
  refine (sLinkTours_c B1 B2 d1 xs0.length d2 xs1.length xs0 xs1 (a2) (a3) _ rfl rfl ho1m.cap ho2m.cap ((ho1m.nx (by repeat (first | exact Nx.refl _ | assumption | apply Nx.alloc | apply Nx.drew | apply Nx.drewN | (refine Nx.setCell ?_ (by first | (simp; done) | (simp; omega) | omega) _) | refine Nx.trans ?_ (by assumption)))).intsAt) ((ho2m.nx (by repeat (first | exact Nx.refl _ | assumption | apply Nx.alloc | apply Nx.drew | apply Nx.drewN | (refine Nx.setCell ?_ (by first | (simp; done) | (simp; omega) | omega) _) | refine Nx.trans ?_ (by assumption)))).intsAt) (by omega) (by omega)).mono ?_
  rintro e w3 ⟨B3, d3, rfl, ho3, hn3⟩
  obtain ⟨hc3, hf3, hz3⟩ := hn3.rules
  have hzw3 : w2.heap.size ≤ w3.heap.size := by have h := hn3.size; first | omega | (simp at h; omega)
  have ho3m := ho3.mono (base' := w2.heap.size) (by first | exact Nat.le_refl _ | omega | (simp; done) | (simp; omega))
  go_wp2_with fail
  refine (toIntS_c A0 c0 xs0 _ (hx0.nx (by repeat (first | exact Nx.refl _ | assumption | apply Nx.alloc | apply Nx.drew | apply Nx.drewN | (refine Nx.setCell ?_ (by first | (simp; done) | (simp; omega) | omega) _) | refine Nx.trans ?_ (by assumption)))) (by omega)).mono ?_
  rintro e w4 ⟨B4, d4, rfl, ho4, hn4⟩
  obtain ⟨hc4, hf4, hz4⟩ := hn4.rules
  have hzw4 : w3.heap.size ≤ w4.heap.size := by have h := hn4.size; first | omega | (simp at h; omega)
  have ho4m := ho4.mono (base' := w3.heap.size) (by first | exact Nat.le_refl _ | omega | (simp; done) | (simp; omega))
  go_wp2_with fail
  refine (toIntS_c A1 c1 xs1 _ (hx1.nx (by repeat (first | exact Nx.refl _ | assumption | apply Nx.alloc | apply Nx.drew | apply Nx.drewN | (refine Nx.setCell ?_ (by first | (simp; done) | (simp; omega) | omega) _) | refine Nx.trans ?_ (by assumption)))) (by omega)).mono ?_
  rintro e w5 ⟨B5, d5, rfl, ho5, hn5⟩
  obtain ⟨hc5, hf5, hz5⟩ := hn5.rules
  have hzw5 : w4.heap.size ≤ w5.heap.size := by have h := hn5.size; first | omega | (simp at h; omega)
  have ho5m := ho5.mono (base' := w4.heap.size) (by first | exact Nat.le_refl _ | omega | (simp; done) | (simp; omega))
  go_wp2_with fail
  refine (iLinkTours_c B4 B5 d4 xs0.length d5 xs1.length xs0 xs1 (a2) (a3) _ rfl rfl ho4m.cap ho5m.cap ((ho4m.nx (by repeat (first | exact Nx.refl _ | assumption | apply Nx.alloc | apply Nx.drew | apply Nx.drewN | (refine Nx.setCell ?_ (by first | (simp; done) | (simp; omega) | omega) _) | refine Nx.trans ?_ (by assumption)))).intsAt) ((ho5m.nx (by repeat (first | exact Nx.refl _ | assumption | apply Nx.alloc | apply Nx.drew | apply Nx.drewN | (refine Nx.setCell ?_ (by first | (simp; done) | (simp; omega) | omega) _) | refine Nx.trans ?_ (by assumption)))).intsAt) (by omega) (by omega)).mono ?_
  rintro e w6 ⟨B6, d6, rfl, ho6, hn6⟩
  obtain ⟨hc6, hf6, hz6⟩ := hn6.rules
  have hzw6 : w5.heap.size ≤ w6.heap.size := by have h := hn6.size; first | omega | (simp at h; omega)
  have ho6m := ho6.mono (base' := w5.heap.size) (by first | exact Nat.le_refl _ | omega | (simp; done) | (simp; omega))
  go_wp2_with fail
  refine (eqIntS_c B6 B3 d6 d3 (tLink xs0 xs1 (a2) (a3)) (tLink xs0 xs1 (a2) (a3)) _ ((ho6m.nx (by repeat (first | exact Nx.refl _ | assumption | apply Nx.alloc | apply Nx.drew | apply Nx.drewN | (refine Nx.setCell ?_ (by first | (simp; done) | (simp; omega) | omega) _) | refine Nx.trans ?_ (by assumption)))).intsAt) ((ho3m.nx (by repeat (first | exact Nx.refl _ | assumption | apply Nx.alloc | apply Nx.drew | apply Nx.drewN | (refine Nx.setCell ?_ (by first | (simp; done) | (simp; omega) | omega) _) | refine Nx.trans ?_ (by assumption)))).intsAt) (Nat.le_trans (tLink_len xs0 xs1 (a2) (a3)) (by omega)) (Nat.le_trans (tLink_len xs0 xs1 (a2) (a3)) (by omega))).mono ?_
  rintro e w7 ⟨rfl, hn7⟩
  obtain ⟨hc7, hf7, hz7⟩ := hn7.rules
  have hzw7 : w6.heap.size ≤ w7.heap.size := by have h := hn7.size; first | omega | (simp at h; omega)
  go_wp2_with fail
  refine (toIntS_c A0 c0 xs0 _ (hx0.nx (by repeat (first | exact Nx.refl _ | assumption | apply Nx.alloc | apply Nx.drew | apply Nx.drewN | (refine Nx.setCell ?_ (by first | (simp; done) | (simp; omega) | omega) _) | refine Nx.trans ?_ (by assumption)))) (by omega)).mono ?_
  rintro e w8 ⟨B8, d8, rfl, ho8, hn8⟩
  obtain ⟨hc8, hf8, hz8⟩ := hn8.rules
  have hzw8 : w7.heap.size ≤ w8.heap.size := by have h := hn8.size; first | omega | (simp at h; omega)
  have ho8m := ho8.mono (base' := w7.heap.size) (by first | exact Nat.le_refl _ | omega | (simp; done) | (simp; omega))
  go_wp2_with fail
  refine (eqIntS_c B4 B8 d4 d8 xs0 xs0 _ ((ho4m.nx (by repeat (first | exact Nx.refl _ | assumption | apply Nx.alloc | apply Nx.drew | apply Nx.drewN | (refine Nx.setCell ?_ (by first | (simp; done) | (simp; omega) | omega) _) | refine Nx.trans ?_ (by assumption)))).intsAt) ((ho8m.nx (by repeat (first | exact Nx.refl _ | assumption | apply Nx.alloc | apply Nx.drew | apply Nx.drewN | (refine Nx.setCell ?_ (by first | (simp; done) | (simp; omega) | omega) _) | refine Nx.trans ?_ (by assumption)))).intsAt) (by omega) (by omega)).mono ?_
  rintro e w9 ⟨rfl, hn9⟩
  obtain ⟨hc9, hf9, hz9⟩ := hn9.rules
  have hzw9 : w8.heap.size ≤ w9.heap.size := by have h := hn9.size; first | omega | (simp at h; omega)
  go_wp2_with fail
  refine (toIntS_c A1 c1 xs1 _ (hx1.nx (by repeat (first | exact Nx.refl _ | assumption | apply Nx.alloc | apply Nx.drew | apply Nx.drewN | (refine Nx.setCell ?_ (by first | (simp; done) | (simp; omega) | omega) _) | refine Nx.trans ?_ (by assumption)))) (by omega)).mono ?_
  rintro e w10 ⟨B10, d10, rfl, ho10, hn10⟩
  obtain ⟨hc10, hf10, hz10⟩ := hn10.rules
  have hzw10 : w9.heap.size ≤ w10.heap.size := by have h := hn10.size; first | omega | (simp at h; omega)
  have ho10m := ho10.mono (base' := w9.heap.size) (by first | exact Nat.le_refl _ | omega | (simp; done) | (simp; omega))
  go_wp2_with fail
  refine (eqIntS_c B5 B10 d5 d10 xs1 xs1 _ ((ho5m.nx (by repeat (first | exact Nx.refl _ | assumption | apply Nx.alloc | apply Nx.drew | apply Nx.drewN | (refine Nx.setCell ?_ (by first | (simp; done) | (simp; omega) | omega) _) | refine Nx.trans ?_ (by assumption)))).intsAt) ((ho10m.nx (by repeat (first | exact Nx.refl _ | assumption | apply Nx.alloc | apply Nx.drew | apply Nx.drewN | (refine Nx.setCell ?_ (by first | (simp; done) | (simp; omega) | omega) _) | refine Nx.trans ?_ (by assumption)))).intsAt) (by omega) (by omega)).mono ?_
  rintro e w11 ⟨rfl, hn11⟩
  obtain ⟨hc11, hf11, hz11⟩ := hn11.rules
  have hzw11 : w10.heap.size ≤ w11.heap.size := by have h := hn11.size; first | omega | (simp at h; omega)
  go_wp2_with fail
  refine (markIntS_c _ _ B4 d4 xs0 (1) _ (ho4m.nx (by repeat (first | exact Nx.refl _ | assumption | apply Nx.alloc | apply Nx.drew | apply Nx.drewN | (refine Nx.setCell ?_ (by first | (simp; done) | (simp; omega) | omega) _) | refine Nx.trans ?_ (by assumption)))) (by omega) (by omega) (by omega)).mono ?_
  rintro e w12 ⟨rfl, ho12, hg12⟩
  have hn12 : Nx w w12 := Nx.grown (by exact (by repeat (first | exact Nx.refl _ | assumption | apply Nx.alloc | apply Nx.drew | apply Nx.drewN | (refine Nx.setCell ?_ (by first | (simp; done) | (simp; omega) | omega) _) | refine Nx.trans ?_ (by assumption)))) hg12 (fun k hk => by have := ho4m.lt k hk; first | omega | (simp at this; done) | (simp at this; omega))
  have hzw12 : w11.heap.size ≤ w12.heap.size := by have h := hg12.size; first | omega | (simp at h; omega)
  have hk12_r1 := (ho1m.nx (by repeat (first | exact Nx.refl _ | assumption | apply Nx.alloc | apply Nx.drew | apply Nx.drewN | (refine Nx.setCell ?_ (by first | (simp; done) | (simp; omega) | omega) _) | refine Nx.trans ?_ (by assumption)))).kept hg12 (apart_of ho1m.lt ho4m.lt (by omega))
  have hk12_r2 := (ho2m.nx (by repeat (first | exact Nx.refl _ | assumption | apply Nx.alloc | apply Nx.drew | apply Nx.drewN | (refine Nx.setCell ?_ (by first | (simp; done) | (simp; omega) | omega) _) | refine Nx.trans ?_ (by assumption)))).kept hg12 (apart_of ho2m.lt ho4m.lt (by omega))
  have hk12_r3 := (ho3m.nx (by repeat (first | exact Nx.refl _ | assumption | apply Nx.alloc | apply Nx.drew | apply Nx.drewN | (refine Nx.setCell ?_ (by first | (simp; done) | (simp; omega) | omega) _) | refine Nx.trans ?_ (by assumption)))).kept hg12 (apart_of ho3m.lt ho4m.lt (by omega))
  have hk12_r5 := (ho5m.nx (by repeat (first | exact Nx.refl _ | assumption | apply Nx.alloc | apply Nx.drew | apply Nx.drewN | (refine Nx.setCell ?_ (by first | (simp; done) | (simp; omega) | omega) _) | refine Nx.trans ?_ (by assumption)))).kept hg12 (apart_of ho5m.lt ho4m.lt (by omega))
  have hk12_r6 := (ho6m.nx (by repeat (first | exact Nx.refl _ | assumption | apply Nx.alloc | apply Nx.drew | apply Nx.drewN | (refine Nx.setCell ?_ (by first | (simp; done) | (simp; omega) | omega) _) | refine Nx.trans ?_ (by assumption)))).kept hg12 (apart_of ho6m.lt ho4m.lt (by omega))
  have hk12_r8 := (ho8m.nx (by repeat (first | exact Nx.refl _ | assumption | apply Nx.alloc | apply Nx.drew | apply Nx.drewN | (refine Nx.setCell ?_ (by first | (simp; done) | (simp; omega) | omega) _) | refine Nx.trans ?_ (by assumption)))).kept hg12 (apart_of ho8m.lt ho4m.lt (by omega))
  have hk12_r10 := (ho10m.nx (by repeat (first | exact Nx.refl _ | assumption | apply Nx.alloc | apply Nx.drew | apply Nx.drewN | (refine Nx.setCell ?_ (by first | (simp; done) | (simp; omega) | omega) _) | refine Nx.trans ?_ (by assumption)))).kept hg12 (apart_of ho10m.lt ho4m.lt (by omega))
  go_wp2_with fail
  refine (markIntS_c _ _ B5 d5 xs1 (1 + (xs0.length : Nat)) _ (hk12_r5.nx (by repeat (first | exact Nx.refl _ | assumption | apply Nx.alloc | apply Nx.drew | apply Nx.drewN | (refine Nx.setCell ?_ (by first | (simp; done) | (simp; omega) | omega) _) | refine Nx.trans ?_ (by assumption)))) (by omega) (by omega) (by omega)).mono ?_
  rintro e w13 ⟨rfl, ho13, hg13⟩
  have hn13 : Nx w w13 := Nx.grown (by exact (by repeat (first | exact Nx.refl _ | assumption | apply Nx.alloc | apply Nx.drew | apply Nx.drewN | (refine Nx.setCell ?_ (by first | (simp; done) | (simp; omega) | omega) _) | refine Nx.trans ?_ (by assumption)))) hg13 (fun k hk => by have := ho5m.lt k hk; first | omega | (simp at this; done) | (simp at this; omega))
  have hzw13 : w12.heap.size ≤ w13.heap.size := by have h := hg13.size; first | omega | (simp at h; omega)
  have hk13_r1 := (hk12_r1.nx (by repeat (first | exact Nx.refl _ | assumption | apply Nx.alloc | apply Nx.drew | apply Nx.drewN | (refine Nx.setCell ?_ (by first | (simp; done) | (simp; omega) | omega) _) | refine Nx.trans ?_ (by assumption)))).kept hg13 (apart_of ho1m.lt ho5m.lt (by omega))
  have hk13_r2 := (hk12_r2.nx (by repeat (first | exact Nx.refl _ | assumption | apply Nx.alloc | apply Nx.drew | apply Nx.drewN | (refine Nx.setCell ?_ (by first | (simp; done) | (simp; omega) | omega) _) | refine Nx.trans ?_ (by assumption)))).kept hg13 (apart_of ho2m.lt ho5m.lt (by omega))
  have hk13_r3 := (hk12_r3.nx (by repeat (first | exact Nx.refl _ | assumption | apply Nx.alloc | apply Nx.drew | apply Nx.drewN | (refine Nx.setCell ?_ (by first | (simp; done) | (simp; omega) | omega) _) | refine Nx.trans ?_ (by assumption)))).kept hg13 (apart_of ho3m.lt ho5m.lt (by omega))
  have hk13_r4 := (ho12.nx (by repeat (first | exact Nx.refl _ | assumption | apply Nx.alloc | apply Nx.drew | apply Nx.drewN | (refine Nx.setCell ?_ (by first | (simp; done) | (simp; omega) | omega) _) | refine Nx.trans ?_ (by assumption)))).kept hg13 (apart_of ho4m.lt ho5m.lt (by omega))
  have hk13_r6 := (hk12_r6.nx (by repeat (first | exact Nx.refl _ | assumption | apply Nx.alloc | apply Nx.drew | apply Nx.drewN | (refine Nx.setCell ?_ (by first | (simp; done) | (simp; omega) | omega) _) | refine Nx.trans ?_ (by assumption)))).kept hg13 (apart_of ho6m.lt ho5m.lt (by omega))
  have hk13_r8 := (hk12_r8.nx (by repeat (first | exact Nx.refl _ | assumption | apply Nx.alloc | apply Nx.drew | apply Nx.drewN | (refine Nx.setCell ?_ (by first | (simp; done) | (simp; omega) | omega) _) | refine Nx.trans ?_ (by assumption)))).kept hg13 (apart_of ho8m.lt ho5m.lt (by omega))
  have hk13_r10 := (hk12_r10.nx (by repeat (first | exact Nx.refl _ | assumption | apply Nx.alloc | apply Nx.drew | apply Nx.drewN | (refine Nx.setCell ?_ (by first | (simp; done) | (simp; omega) | omega) _) | refine Nx.trans ?_ (by assumption)))).kept hg13 (apart_of ho10m.lt ho5m.lt (by omega))
  go_wp2_with fail
  refine (eqIntS_c B6 B3 d6 d3 (tLink xs0 xs1 (a2) (a3)) (tLink xs0 xs1 (a2) (a3)) _ ((hk13_r6.nx (by repeat (first | exact Nx.refl _ | assumption | apply Nx.alloc | apply Nx.drew | apply Nx.drewN | (refine Nx.setCell ?_ (by first | (simp; done) | (simp; omega) | omega) _) | refine Nx.trans ?_ (by assumption)))).intsAt) ((hk13_r3.nx (by repeat (first | exact Nx.refl _ | assumption | apply Nx.alloc | apply Nx.drew | apply Nx.drewN | (refine Nx.setCell ?_ (by first | (simp; done) | (simp; omega) | omega) _) | refine Nx.trans ?_ (by assumption)))).intsAt) (Nat.le_trans (tLink_len xs0 xs1 (a2) (a3)) (by omega)) (Nat.le_trans (tLink_len xs0 xs1 (a2) (a3)) (by omega))).mono ?_
  rintro e w14 ⟨rfl, hn14⟩
  obtain ⟨hc14, hf14, hz14⟩ := hn14.rules
  have hzw14 : w13.heap.size ≤ w14.heap.size := by have h := hn14.size; first | omega | (simp at h; omega)
  go_wp2_with fail
  refine (markIntS_c _ _ B6 d6 (tLink xs0 xs1 (a2) (a3)) (1) _ (hk13_r6.nx (by repeat (first | exact Nx.refl _ | assumption | apply Nx.alloc | apply Nx.drew | apply Nx.drewN | (refine Nx.setCell ?_ (by first | (simp; done) | (simp; omega) | omega) _) | refine Nx.trans ?_ (by assumption)))) (Nat.le_trans (tLink_len xs0 xs1 (a2) (a3)) (by omega)) (by omega) (by omega)).mono ?_
  rintro e w15 ⟨rfl, ho15, hg15⟩
  have hn15 : Nx w w15 := Nx.grown (by exact (by repeat (first | exact Nx.refl _ | assumption | apply Nx.alloc | apply Nx.drew | apply Nx.drewN | (refine Nx.setCell ?_ (by first | (simp; done) | (simp; omega) | omega) _) | refine Nx.trans ?_ (by assumption)))) hg15 (fun k hk => by have := ho6m.lt k hk; first | omega | (simp at this; done) | (simp at this; omega))
  have hzw15 : w14.heap.size ≤ w15.heap.size := by have h := hg15.size; first | omega | (simp at h; omega)
  have hk15_r1 := (hk13_r1.nx (by repeat (first | exact Nx.refl _ | assumption | apply Nx.alloc | apply Nx.drew | apply Nx.drewN | (refine Nx.setCell ?_ (by first | (simp; done) | (simp; omega) | omega) _) | refine Nx.trans ?_ (by assumption)))).kept hg15 (apart_of ho1m.lt ho6m.lt (by omega))
  have hk15_r2 := (hk13_r2.nx (by repeat (first | exact Nx.refl _ | assumption | apply Nx.alloc | apply Nx.drew | apply Nx.drewN | (refine Nx.setCell ?_ (by first | (simp; done) | (simp; omega) | omega) _) | refine Nx.trans ?_ (by assumption)))).kept hg15 (apart_of ho2m.lt ho6m.lt (by omega))
  have hk15_r3 := (hk13_r3.nx (by repeat (first | exact Nx.refl _ | assumption | apply Nx.alloc | apply Nx.drew | apply Nx.drewN | (refine Nx.setCell ?_ (by first | (simp; done) | (simp; omega) | omega) _) | refine Nx.trans ?_ (by assumption)))).kept hg15 (apart_of ho3m.lt ho6m.lt (by omega))
  have hk15_r4 := (hk13_r4.nx (by repeat (first | exact Nx.refl _ | assumption | apply Nx.alloc | apply Nx.drew | apply Nx.drewN | (refine Nx.setCell ?_ (by first | (simp; done) | (simp; omega) | omega) _) | refine Nx.trans ?_ (by assumption)))).kept hg15 (apart_of ho4m.lt ho6m.lt (by omega))
  have hk15_r5 := (ho13.nx (by repeat (first | exact Nx.refl _ | assumption | apply Nx.alloc | apply Nx.drew | apply Nx.drewN | (refine Nx.setCell ?_ (by first | (simp; done) | (simp; omega) | omega) _) | refine Nx.trans ?_ (by assumption)))).kept hg15 (apart_of ho5m.lt ho6m.lt (by omega))
  have hk15_r8 := (hk13_r8.nx (by repeat (first | exact Nx.refl _ | assumption | apply Nx.alloc | apply Nx.drew | apply Nx.drewN | (refine Nx.setCell ?_ (by first | (simp; done) | (simp; omega) | omega) _) | refine Nx.trans ?_ (by assumption)))).kept hg15 (apart_of ho8m.lt ho6m.lt (by omega))
  have hk15_r10 := (hk13_r10.nx (by repeat (first | exact Nx.refl _ | assumption | apply Nx.alloc | apply Nx.drew | apply Nx.drewN | (refine Nx.setCell ?_ (by first | (simp; done) | (simp; omega) | omega) _) | refine Nx.trans ?_ (by assumption)))).kept hg15 (apart_of ho10m.lt ho6m.lt (by omega))
  go_wp2_with fail
  refine (heldIntS_c B6 d6 (tLink xs0 xs1 (a2) (a3)).length (1) _ ((ho15.nx (by repeat (first | exact Nx.refl _ | assumption | apply Nx.alloc | apply Nx.drew | apply Nx.drewN | (refine Nx.setCell ?_ (by first | (simp; done) | (simp; omega) | omega) _) | refine Nx.trans ?_ (by assumption)))).intsAt) (Nat.le_trans (tLink_len xs0 xs1 (a2) (a3)) (by omega)) (by omega) (by omega)).mono ?_
  rintro e w16 ⟨rfl, hn16⟩
  obtain ⟨hc16, hf16, hz16⟩ := hn16.rules
  have hzw16 : w15.heap.size ≤ w16.heap.size := by have h := hn16.size; first | omega | (simp at h; omega)
  go_wp2_with fail
  refine (toIntS_c A0 c0 xs0 _ (hx0.nx (by repeat (first | exact Nx.refl _ | assumption | apply Nx.alloc | apply Nx.drew | apply Nx.drewN | (refine Nx.setCell ?_ (by first | (simp; done) | (simp; omega) | omega) _) | refine Nx.trans ?_ (by assumption)))) (by omega)).mono ?_
  rintro e w17 ⟨B17, d17, rfl, ho17, hn17⟩
  obtain ⟨hc17, hf17, hz17⟩ := hn17.rules
  have hzw17 : w16.heap.size ≤ w17.heap.size := by have h := hn17.size; first | omega | (simp at h; omega)
  have ho17m := ho17.mono (base' := w16.heap.size) (by first | exact Nat.le_refl _ | omega | (simp; done) | (simp; omega))
  go_wp2_with fail
  refine (toIntS_c A1 c1 xs1 _ (hx1.nx (by repeat (first | exact Nx.refl _ | assumption | apply Nx.alloc | apply Nx.drew | apply Nx.drewN | (refine Nx.setCell ?_ (by first | (simp; done) | (simp; omega) | omega) _) | refine Nx.trans ?_ (by assumption)))) (by omega)).mono ?_
  rintro e w18 ⟨B18, d18, rfl, ho18, hn18⟩
  obtain ⟨hc18, hf18, hz18⟩ := hn18.rules
  have hzw18 : w17.heap.size ≤ w18.heap.size := by have h := hn18.size; first | omega | (simp at h; omega)
  have ho18m := ho18.mono (base' := w17.heap.size) (by first | exact Nat.le_refl _ | omega | (simp; done) | (simp; omega))
  go_wp2_with fail
  refine (iLinkTours_c B17 B18 d17 xs0.length d18 xs1.length xs0 xs1 (a2) (a3) _ rfl rfl ho17m.cap ho18m.cap ((ho17m.nx (by repeat (first | exact Nx.refl _ | assumption | apply Nx.alloc | apply Nx.drew | apply Nx.drewN | (refine Nx.setCell ?_ (by first | (simp; done) | (simp; omega) | omega) _) | refine Nx.trans ?_ (by assumption)))).intsAt) ((ho18m.nx (by repeat (first | exact Nx.refl _ | assumption | apply Nx.alloc | apply Nx.drew | apply Nx.drewN | (refine Nx.setCell ?_ (by first | (simp; done) | (simp; omega) | omega) _) | refine Nx.trans ?_ (by assumption)))).intsAt) (by omega) (by omega)).mono ?_
  rintro e w19 ⟨B19, d19, rfl, ho19, hn19⟩
  obtain ⟨hc19, hf19, hz19⟩ := hn19.rules
  have hzw19 : w18.heap.size ≤ w19.heap.size := by have h := hn19.size; first | omega | (simp at h; omega)
  have ho19m := ho19.mono (base' := w18.heap.size) (by first | exact Nat.le_refl _ | omega | (simp; done) | (simp; omega))
  go_wp2_with fail
  refine (eqIntS_c B19 B3 d19 d3 (tLink xs0 xs1 (a2) (a3)) (tLink xs0 xs1 (a2) (a3)) _ ((ho19m.nx (by repeat (first | exact Nx.refl _ | assumption | apply Nx.alloc | apply Nx.drew | apply Nx.drewN | (refine Nx.setCell ?_ (by first | (simp; done) | (simp; omega) | omega) _) | refine Nx.trans ?_ (by assumption)))).intsAt) ((hk15_r3.nx (by repeat (first | exact Nx.refl _ | assumption | apply Nx.alloc | apply Nx.drew | apply Nx.drewN | (refine Nx.setCell ?_ (by first | (simp; done) | (simp; omega) | omega) _) | refine Nx.trans ?_ (by assumption)))).intsAt) (Nat.le_trans (tLink_len xs0 xs1 (a2) (a3)) (by omega)) (Nat.le_trans (tLink_len xs0 xs1 (a2) (a3)) (by omega))).mono ?_
  rintro e w20 ⟨rfl, hn20⟩
  obtain ⟨hc20, hf20, hz20⟩ := hn20.rules
  have hzw20 : w19.heap.size ≤ w20.heap.size := by have h := hn20.size; first | omega | (simp at h; omega)
  go_wp2_with fail
  refine (heldIntS_c B6 d6 (tLink xs0 xs1 (a2) (a3)).length (1) _ ((ho15.nx (by repeat (first | exact Nx.refl _ | assumption | apply Nx.alloc | apply Nx.drew | apply Nx.drewN | (refine Nx.setCell ?_ (by first | (simp; done) | (simp; omega) | omega) _) | refine Nx.trans ?_ (by assumption)))).intsAt) (Nat.le_trans (tLink_len xs0 xs1 (a2) (a3)) (by omega)) (by omega) (by omega)).mono ?_
  rintro e w21 ⟨rfl, hn21⟩
  obtain ⟨hc21, hf21, hz21⟩ := hn21.rules
  have hzw21 : w20.heap.size ≤ w21.heap.size := by have h := hn21.size; first | omega | (simp at h; omega)
  go_wp2
  go_ret
  exact RetV.bool rfl (by repeat (first | exact Nx.refl _ | assumption | apply Nx.alloc | apply Nx.drew | apply Nx.drewN | (refine Nx.setCell ?_ (by first | (simp; done) | (simp; omega) | omega) _) | refine Nx.trans ?_ (by assumption)))
end Go.Proofs.Ytnnfbndalcnjiaa
