/- FnExactTourDepths: the walk (printed by lawgen.py). -/
import Derived.Test.YtnnfbndalcnjiaaAC
import Derived.Test.YtnnfbndalcnjiaaA9
import Derived.Test.YtnnfbndalcnjiaaH
import Derived.Test.YtnnfbndalcnjiaaG4
import Derived.Deep.RegionHeld3
import Derived.Deep.Cut
namespace Go.Proofs.Ytnnfbndalcnjiaa
open Go.RowKit set_option linter.unusedVariables false set_option linter.unusedSimpArgs false
set_option maxRecDepth 100000 in
set_option maxHeartbeats 8000000 in
theorem fnExactTourDepths_walk (w : World) (A0 : Option Addr) (c0 : Nat) (xs0 : List Int) (_ : xs0.length ≤ c0) (hm0 : Hid (xs0.length ≤ 9223372036854775807)) (hx0 : IntsAt w A0 xs0) (_ : ∀ n ∈ xs0, Fits n) : Calls Try.prog 5 #[.slice A0 xs0.length c0] w (RetV (.bool true) w) := by
  by_cases hl0 : xs0.length ≤ 1048576
  rotate_left
  · go_enter Try.func5, Try.ntmps5
    go_wp2
    go_ret
    exact RetV.bool rfl (by repeat (first | exact Nx.refl _ | assumption | apply Nx.alloc | apply Nx.drew | apply Nx.drewN | (refine Nx.setCell ?_ (by first | (simp; done) | (simp; omega) | omega) _) | refine Nx.trans ?_ (by assumption)))
  go_enter Try.func5, Try.ntmps5
  go_wp2_with fail
  refine (toIntS_c A0 c0 xs0 _ (hx0.nx (by repeat (first | exact Nx.refl _ | assumption | apply Nx.alloc | apply Nx.drew | apply Nx.drewN | (refine Nx.setCell ?_ (by first | (simp; done) | (simp; omega) | omega) _) | refine Nx.trans ?_ (by assumption)))) (by omega)).mono ?_
  rintro e w1 ⟨B1, d1, rfl, ho1, hn1⟩
  obtain ⟨hc1, hf1, hz1⟩ := hn1.rules
  have hzw1 : w.heap.size ≤ w1.heap.size := by have h := hn1.size; first | omega | (simp at h; omega)
  have ho1m := ho1.mono (base' := w.heap.size) (by first | exact Nat.le_refl _ | omega | (simp; done) | (simp; omega))
  go_wp2_with fail
  refine (sTourDepths_c B1 d1 xs0.length xs0 _ rfl ho1m.cap ((ho1m.nx (by repeat (first | exact Nx.refl _ | assumption | apply Nx.alloc | apply Nx.drew | apply Nx.drewN | (refine Nx.setCell ?_ (by first | (simp; done) | (simp; omega) | omega) _) | refine Nx.trans ?_ (by assumption)))).intsAt) (by omega)).mono ?_
  rintro e w2 ⟨B2, d2, rfl, ho2, hn2⟩
  obtain ⟨hc2, hf2, hz2⟩ := hn2.rules
  have hzw2 : w1.heap.size ≤ w2.heap.size := by have h := hn2.size; first | omega | (simp at h; omega)
  have ho2m := ho2.mono (base' := w1.heap.size) (by first | exact Nat.le_refl _ | omega | (simp; done) | (simp; omega))
  go_wp2_with fail
  refine (toIntS_c A0 c0 xs0 _ (hx0.nx (by repeat (first | exact Nx.refl _ | assumption | apply Nx.alloc | apply Nx.drew | apply Nx.drewN | (refine Nx.setCell ?_ (by first | (simp; done) | (simp; omega) | omega) _) | refine Nx.trans ?_ (by assumption)))) (by omega)).mono ?_
  rintro e w3 ⟨B3, d3, rfl, ho3, hn3⟩
  obtain ⟨hc3, hf3, hz3⟩ := hn3.rules
  have hzw3 : w2.heap.size ≤ w3.heap.size := by have h := hn3.size; first | omega | (simp at h; omega)
  have ho3m := ho3.mono (base' := w2.heap.size) (by first | exact Nat.le_refl _ | omega | (simp; done) | (simp; omega))
  go_wp2_with fail
  refine (iTourDepths_c B3 d3 xs0.length xs0 _ rfl ho3m.cap ((ho3m.nx (by repeat (first | exact Nx.refl _ | assumption | apply Nx.alloc | apply Nx.drew | apply Nx.drewN | (refine Nx.setCell ?_ (by first | (simp; done) | (simp; omega) | omega) _) | refine Nx.trans ?_ (by assumption)))).intsAt) (by omega)).mono ?_
  rintro e w4 ⟨B4, d4, rfl, ho4, hn4⟩
  obtain ⟨hc4, hf4, hz4⟩ := hn4.rules
  have hzw4 : w3.heap.size ≤ w4.heap.size := by have h := hn4.size; first | omega | (simp at h; omega)
  have ho4m := ho4.mono (base' := w3.heap.size) (by first | exact Nat.le_refl _ | omega | (simp; done) | (simp; omega))
  go_wp2_with fail
  refine (eqIntS_c B4 B2 d4 d2 (tDepths xs0) (tDepths xs0) _ ((ho4m.nx (by repeat (first | exact Nx.refl _ | assumption | apply Nx.alloc | apply Nx.drew | apply Nx.drewN | (refine Nx.setCell ?_ (by first | (simp; done) | (simp; omega) | omega) _) | refine Nx.trans ?_ (by assumption)))).intsAt) ((ho2m.nx (by repeat (first | exact Nx.refl _ | assumption | apply Nx.alloc | apply Nx.drew | apply Nx.drewN | (refine Nx.setCell ?_ (by first | (simp; done) | (simp; omega) | omega) _) | refine Nx.trans ?_ (by assumption)))).intsAt) (Nat.le_trans (tDepths_len xs0) (by omega)) (Nat.le_trans (tDepths_len xs0) (by omega))).mono ?_
  rintro e w5 ⟨rfl, hn5⟩
  obtain ⟨hc5, hf5, hz5⟩ := hn5.rules
  have hzw5 : w4.heap.size ≤ w5.heap.size := by have h := hn5.size; first | omega | (simp at h; omega)
  go_wp2_with fail
  refine (toIntS_c A0 c0 xs0 _ (hx0.nx (by repeat (first | exact Nx.refl _ | assumption | apply Nx.alloc | apply Nx.drew | apply Nx.drewN | (refine Nx.setCell ?_ (by first | (simp; done) | (simp; omega) | omega) _) | refine Nx.trans ?_ (by assumption)))) (by omega)).mono ?_
  rintro e w6 ⟨B6, d6, rfl, ho6, hn6⟩
  obtain ⟨hc6, hf6, hz6⟩ := hn6.rules
  have hzw6 : w5.heap.size ≤ w6.heap.size := by have h := hn6.size; first | omega | (simp at h; omega)
  have ho6m := ho6.mono (base' := w5.heap.size) (by first | exact Nat.le_refl _ | omega | (simp; done) | (simp; omega))
  go_wp2_with fail
  refine (eqIntS_c B3 B6 d3 d6 xs0 xs0 _ ((ho3m.nx (by repeat (first | exact Nx.refl _ | assumption | apply Nx.alloc | apply Nx.drew | apply Nx.drewN | (refine Nx.setCell ?_ (by first | (simp; done) | (simp; omega) | omega) _) | refine Nx.trans ?_ (by assumption)))).intsAt) ((ho6m.nx (by repeat (first | exact Nx.refl _ | assumption | apply Nx.alloc | apply Nx.drew | apply Nx.drewN | (refine Nx.setCell ?_ (by first | (simp; done) | (simp; omega) | omega) _) | refine Nx.trans ?_ (by assumption)))).intsAt) (by omega) (by omega)).mono ?_
  rintro e w7 ⟨rfl, hn7⟩
  obtain ⟨hc7, hf7, hz7⟩ := hn7.rules
  have hzw7 : w6.heap.size ≤ w7.heap.size := by have h := hn7.size; first | omega | (simp at h; omega)
  go_wp2_with fail
  refine (markIntS_c _ _ B3 d3 xs0 (1) _ (ho3m.nx (by repeat (first | exact Nx.refl _ | assumption | apply Nx.alloc | apply Nx.drew | apply Nx.drewN | (refine Nx.setCell ?_ (by first | (simp; done) | (simp; omega) | omega) _) | refine Nx.trans ?_ (by assumption)))) (by omega) (by omega) (by omega)).mono ?_
  rintro e w8 ⟨rfl, ho8, hg8⟩
  have hn8 : Nx w w8 := Nx.grown (by exact (by repeat (first | exact Nx.refl _ | assumption | apply Nx.alloc | apply Nx.drew | apply Nx.drewN | (refine Nx.setCell ?_ (by first | (simp; done) | (simp; omega) | omega) _) | refine Nx.trans ?_ (by assumption)))) hg8 (fun k hk => by have := ho3m.lt k hk; first | omega | (simp at this; done) | (simp at this; omega))
  have hzw8 : w7.heap.size ≤ w8.heap.size := by have h := hg8.size; first | omega | (simp at h; omega)
  have hk8_r1 := (ho1m.nx (by repeat (first | exact Nx.refl _ | assumption | apply Nx.alloc | apply Nx.drew | apply Nx.drewN | (refine Nx.setCell ?_ (by first | (simp; done) | (simp; omega) | omega) _) | refine Nx.trans ?_ (by assumption)))).kept hg8 (apart_of ho1m.lt ho3m.lt (by omega))
  have hk8_r2 := (ho2m.nx (by repeat (first | exact Nx.refl _ | assumption | apply Nx.alloc | apply Nx.drew | apply Nx.drewN | (refine Nx.setCell ?_ (by first | (simp; done) | (simp; omega) | omega) _) | refine Nx.trans ?_ (by assumption)))).kept hg8 (apart_of ho2m.lt ho3m.lt (by omega))
  have hk8_r4 := (ho4m.nx (by repeat (first | exact Nx.refl _ | assumption | apply Nx.alloc | apply Nx.drew | apply Nx.drewN | (refine Nx.setCell ?_ (by first | (simp; done) | (simp; omega) | omega) _) | refine Nx.trans ?_ (by assumption)))).kept hg8 (apart_of ho4m.lt ho3m.lt (by omega))
  have hk8_r6 := (ho6m.nx (by repeat (first | exact Nx.refl _ | assumption | apply Nx.alloc | apply Nx.drew | apply Nx.drewN | (refine Nx.setCell ?_ (by first | (simp; done) | (simp; omega) | omega) _) | refine Nx.trans ?_ (by assumption)))).kept hg8 (apart_of ho6m.lt ho3m.lt (by omega))
  go_wp2_with fail
  refine (eqIntS_c B4 B2 d4 d2 (tDepths xs0) (tDepths xs0) _ ((hk8_r4.nx (by repeat (first | exact Nx.refl _ | assumption | apply Nx.alloc | apply Nx.drew | apply Nx.drewN | (refine Nx.setCell ?_ (by first | (simp; done) | (simp; omega) | omega) _) | refine Nx.trans ?_ (by assumption)))).intsAt) ((hk8_r2.nx (by repeat (first | exact Nx.refl _ | assumption | apply Nx.alloc | apply Nx.drew | apply Nx.drewN | (refine Nx.setCell ?_ (by first | (simp; done) | (simp; omega) | omega) _) | refine Nx.trans ?_ (by assumption)))).intsAt) (Nat.le_trans (tDepths_len xs0) (by omega)) (Nat.le_trans (tDepths_len xs0) (by omega))).mono ?_
  rintro e w9 ⟨rfl, hn9⟩
  obtain ⟨hc9, hf9, hz9⟩ := hn9.rules
  have hzw9 : w8.heap.size ≤ w9.heap.size := by have h := hn9.size; first | omega | (simp at h; omega)
  go_wp2_with fail
  refine (markIntS_c _ _ B4 d4 (tDepths xs0) (1) _ (hk8_r4.nx (by repeat (first | exact Nx.refl _ | assumption | apply Nx.alloc | apply Nx.drew | apply Nx.drewN | (refine Nx.setCell ?_ (by first | (simp; done) | (simp; omega) | omega) _) | refine Nx.trans ?_ (by assumption)))) (Nat.le_trans (tDepths_len xs0) (by omega)) (by omega) (by omega)).mono ?_
  rintro e w10 ⟨rfl, ho10, hg10⟩
  have hn10 : Nx w w10 := Nx.grown (by exact (by repeat (first | exact Nx.refl _ | assumption | apply Nx.alloc | apply Nx.drew | apply Nx.drewN | (refine Nx.setCell ?_ (by first | (simp; done) | (simp; omega) | omega) _) | refine Nx.trans ?_ (by assumption)))) hg10 (fun k hk => by have := ho4m.lt k hk; first | omega | (simp at this; done) | (simp at this; omega))
  have hzw10 : w9.heap.size ≤ w10.heap.size := by have h := hg10.size; first | omega | (simp at h; omega)
  have hk10_r1 := (hk8_r1.nx (by repeat (first | exact Nx.refl _ | assumption | apply Nx.alloc | apply Nx.drew | apply Nx.drewN | (refine Nx.setCell ?_ (by first | (simp; done) | (simp; omega) | omega) _) | refine Nx.trans ?_ (by assumption)))).kept hg10 (apart_of ho1m.lt ho4m.lt (by omega))
  have hk10_r2 := (hk8_r2.nx (by repeat (first | exact Nx.refl _ | assumption | apply Nx.alloc | apply Nx.drew | apply Nx.drewN | (refine Nx.setCell ?_ (by first | (simp; done) | (simp; omega) | omega) _) | refine Nx.trans ?_ (by assumption)))).kept hg10 (apart_of ho2m.lt ho4m.lt (by omega))
  have hk10_r3 := (ho8.nx (by repeat (first | exact Nx.refl _ | assumption | apply Nx.alloc | apply Nx.drew | apply Nx.drewN | (refine Nx.setCell ?_ (by first | (simp; done) | (simp; omega) | omega) _) | refine Nx.trans ?_ (by assumption)))).kept hg10 (apart_of ho3m.lt ho4m.lt (by omega))
  have hk10_r6 := (hk8_r6.nx (by repeat (first | exact Nx.refl _ | assumption | apply Nx.alloc | apply Nx.drew | apply Nx.drewN | (refine Nx.setCell ?_ (by first | (simp; done) | (simp; omega) | omega) _) | refine Nx.trans ?_ (by assumption)))).kept hg10 (apart_of ho6m.lt ho4m.lt (by omega))
  go_wp2_with fail
  refine (heldIntS_c B4 d4 (tDepths xs0).length (1) _ ((ho10.nx (by repeat (first | exact Nx.refl _ | assumption | apply Nx.alloc | apply Nx.drew | apply Nx.drewN | (refine Nx.setCell ?_ (by first | (simp; done) | (simp; omega) | omega) _) | refine Nx.trans ?_ (by assumption)))).intsAt) (Nat.le_trans (tDepths_len xs0) (by omega)) (by omega) (by omega)).mono ?_
  rintro e w11 ⟨rfl, hn11⟩
  obtain ⟨hc11, hf11, hz11⟩ := hn11.rules
  have hzw11 : w10.heap.size ≤ w11.heap.size := by have h := hn11.size; first | omega | (simp at h; omega)
  go_wp2_with fail
  refine (toIntS_c A0 c0 xs0 _ (hx0.nx (by repeat (first | exact Nx.refl _ | assumption | apply Nx.alloc | apply Nx.drew | apply Nx.drewN | (refine Nx.setCell ?_ (by first | (simp; done) | (simp; omega) | omega) _) | refine Nx.trans ?_ (by assumption)))) (by omega)).mono ?_
  rintro e w12 ⟨B12, d12, rfl, ho12, hn12⟩
  obtain ⟨hc12, hf12, hz12⟩ := hn12.rules
  have hzw12 : w11.heap.size ≤ w12.heap.size := by have h := hn12.size; first | omega | (simp at h; omega)
  have ho12m := ho12.mono (base' := w11.heap.size) (by first | exact Nat.le_refl _ | omega | (simp; done) | (simp; omega))
  go_wp2_with fail
  refine (iTourDepths_c B12 d12 xs0.length xs0 _ rfl ho12m.cap ((ho12m.nx (by repeat (first | exact Nx.refl _ | assumption | apply Nx.alloc | apply Nx.drew | apply Nx.drewN | (refine Nx.setCell ?_ (by first | (simp; done) | (simp; omega) | omega) _) | refine Nx.trans ?_ (by assumption)))).intsAt) (by omega)).mono ?_
  rintro e w13 ⟨B13, d13, rfl, ho13, hn13⟩
  obtain ⟨hc13, hf13, hz13⟩ := hn13.rules
  have hzw13 : w12.heap.size ≤ w13.heap.size := by have h := hn13.size; first | omega | (simp at h; omega)
  have ho13m := ho13.mono (base' := w12.heap.size) (by first | exact Nat.le_refl _ | omega | (simp; done) | (simp; omega))
  go_wp2_with fail
  refine (eqIntS_c B13 B2 d13 d2 (tDepths xs0) (tDepths xs0) _ ((ho13m.nx (by repeat (first | exact Nx.refl _ | assumption | apply Nx.alloc | apply Nx.drew | apply Nx.drewN | (refine Nx.setCell ?_ (by first | (simp; done) | (simp; omega) | omega) _) | refine Nx.trans ?_ (by assumption)))).intsAt) ((hk10_r2.nx (by repeat (first | exact Nx.refl _ | assumption | apply Nx.alloc | apply Nx.drew | apply Nx.drewN | (refine Nx.setCell ?_ (by first | (simp; done) | (simp; omega) | omega) _) | refine Nx.trans ?_ (by assumption)))).intsAt) (Nat.le_trans (tDepths_len xs0) (by omega)) (Nat.le_trans (tDepths_len xs0) (by omega))).mono ?_
  rintro e w14 ⟨rfl, hn14⟩
  obtain ⟨hc14, hf14, hz14⟩ := hn14.rules
  have hzw14 : w13.heap.size ≤ w14.heap.size := by have h := hn14.size; first | omega | (simp at h; omega)
  go_wp2_with fail
  refine (heldIntS_c B4 d4 (tDepths xs0).length (1) _ ((ho10.nx (by repeat (first | exact Nx.refl _ | assumption | apply Nx.alloc | apply Nx.drew | apply Nx.drewN | (refine Nx.setCell ?_ (by first | (simp; done) | (simp; omega) | omega) _) | refine Nx.trans ?_ (by assumption)))).intsAt) (Nat.le_trans (tDepths_len xs0) (by omega)) (by omega) (by omega)).mono ?_
  rintro e w15 ⟨rfl, hn15⟩
  obtain ⟨hc15, hf15, hz15⟩ := hn15.rules
  have hzw15 : w14.heap.size ≤ w15.heap.size := by have h := hn15.size; first | omega | (simp at h; omega)
  go_wp2
  go_ret
  exact RetV.bool rfl (by repeat (first | exact Nx.refl _ | assumption | apply Nx.alloc | apply Nx.drew | apply Nx.drewN | (refine Nx.setCell ?_ (by first | (simp; done) | (simp; omega) | omega) _) | refine Nx.trans ?_ (by assumption)))
end Go.Proofs.Ytnnfbndalcnjiaa
