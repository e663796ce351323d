/- FnExactPutEdge: the walk (printed by lawgen.py). -/
import Derived.Test.YtmagbdcmanchmaaI4
import Derived.Test.YtmagbdcmanchmaaH
import Derived.Deep.RegionHeld3
import Derived.Deep.Cut
namespace Go.Proofs.Ytmagbdcmanchmaa
open Go.RowKit
set_option maxRecDepth 100000 in
set_option maxHeartbeats 8000000 in
theorem fnExactPutEdge_walk (w : World) (n0 : Int) (_ : Fits n0) (A0 : Option Addr) (c0 : Nat) (es0 : List (Int × Int)) (_ : es0.length ≤ c0) (hm0 : Hid (es0.length ≤ 9223372036854775807)) (hx0 : EdgesAt w A0 es0) (_ : ∀ n ∈ es0, FitsE n) (x1 y1 : Int) (_ : Fits x1) (_ : Fits y1) : Calls Try.prog 11 #[.agg #[V n0, .slice A0 es0.length c0], Ed x1 y1] w (RetV (.bool true) w) := by
  by_cases hs0 : szL es0.length (1048576) < 0
  · skip
    go_enter Try.func11, Try.ntmps11
    go_wp2_with fail
    refine (szGraph_c n0 A0 es0.length c0 (1048576) _ (by omega) (by omega) hm0.out).mono ?_
    rintro e w1 ⟨rfl, hn1⟩
    obtain ⟨hc1, hf1, hz1⟩ := hn1.rules
    have hzw1 : w.heap.size ≤ w1.heap.size := by have h := hn1.size; first | omega | (simp at h; omega)
    have hz1_0 : w.heap.size < w1.heap.size := (by have h := hn1.size; first | omega | (simp at h; done) | (simp at h; omega))
    have hz1_1 : w.heap.size + 1 < w1.heap.size := (by have h := hn1.size; first | omega | (simp at h; done) | (simp at h; omega))
    go_wp2
    go_ret
    exact RetV.bool rfl (by repeat (first | exact Nx.refl _ | assumption | apply Nx.alloc | apply Nx.drew | apply Nx.drewN | (refine Nx.setCell ?_ (by first | (simp; done) | (simp; omega) | omega) _) | refine Nx.trans ?_ (by assumption)))
  · have hq0 := szL_ok hs0
    have hq0_0 : 0 ≤ szL es0.length (1048576) := hq0.2.1
    have hq0_1 : szL es0.length (1048576) ≤ 1048576 := by omega
    have hq0_2 : es0.length ≤ 1048576 := by omega
    clear hq0
    go_enter Try.func11, Try.ntmps11
    go_wp2_with fail
    refine (szGraph_c n0 A0 es0.length c0 (1048576) _ (by omega) (by omega) hm0.out).mono ?_
    rintro e w1 ⟨rfl, hn1⟩
    obtain ⟨hc1, hf1, hz1⟩ := hn1.rules
    have hzw1 : w.heap.size ≤ w1.heap.size := by have h := hn1.size; first | omega | (simp at h; omega)
    have hz1_0 : w.heap.size < w1.heap.size := (by have h := hn1.size; first | omega | (simp at h; done) | (simp at h; omega))
    have hz1_1 : w.heap.size + 1 < w1.heap.size := (by have h := hn1.size; first | omega | (simp at h; done) | (simp at h; omega))
    go_upto_region 5 with (fail)
    go_cut [6, 7] from 16 (fun s6 s7 wc => ∃ (bv6 : Nat) (B4 : Option Addr) (d4 : Nat), s6 = .pointer (some ⟨bv6, 0, none⟩) ∧ s7 = .bool (putB n0 es0 (x1, y1)) ∧ Nx w1 wc ∧ w1.heap.size ≤ bv6 ∧ bv6 < wc.heap.size ∧ wc.cell? ⟨bv6, 0, none⟩ = some (V (putN n0 es0 (x1, y1))) ∧ wc.cell? ⟨bv6, 1, none⟩ = some (.slice B4 ((putE n0 es0 (x1, y1))).length d4) ∧ OwnE wc w1.heap.size 40 B4 d4 (putE n0 es0 (x1, y1)) ∧ (∀ k, blk B4 = some k → k ≠ bv6))
    case first =>
      have kp : ∀ w', Nx w1 w' → (fun w_ => Nx w1 w_ ∧ w_.cell? ⟨w.heap.size, 0, none⟩ = some (V n0) ∧ w_.cell? ⟨w.heap.size, 1, none⟩ = some (.slice A0 es0.length c0) ∧ w_.cell? ⟨w.heap.size + 1, 0, none⟩ = some (V x1) ∧ w_.cell? ⟨w.heap.size + 1, 1, none⟩ = some (V y1)) w' := fun w' h => ⟨h, h.cell (by first | assumption | omega) (by go_simp), h.cell (by first | assumption | omega) (by go_simp), h.cell (by first | assumption | omega) (by go_simp), h.cell (by first | assumption | omega) (by go_simp)⟩
      go_region_held3 (fun w_ => Nx w1 w_ ∧ w_.cell? ⟨w.heap.size, 0, none⟩ = some (V n0) ∧ w_.cell? ⟨w.heap.size, 1, none⟩ = some (.slice A0 es0.length c0) ∧ w_.cell? ⟨w.heap.size + 1, 0, none⟩ = some (V x1) ∧ w_.cell? ⟨w.heap.size + 1, 1, none⟩ = some (V y1))
        (exact kp _ (by repeat (first | exact Nx.refl _ | assumption | apply Nx.alloc | apply Nx.drew | apply Nx.drewN | (refine Nx.setCell ?_ (by first | (simp; done) | (simp; omega) | omega) _) | refine Nx.trans ?_ (by assumption))))
        (first | (go_at_call 17; (with_reducible refine (toGraph_c n0 A0 c0 es0 _ (hx0.nx (by repeat (first | exact Nx.refl _ | assumption | apply Nx.alloc | apply Nx.drew | apply Nx.drewN | (refine Nx.setCell ?_ (by first | (simp; done) | (simp; omega) | omega) _) | refine Nx.trans ?_ (by assumption)))) (by omega)).mono ?_); rintro e w2 ⟨B2, d2, rfl, ho2, hn2⟩; have hs2 : w1.heap.size ≤ w2.heap.size := Nx.size (by exact (by repeat (first | exact Nx.refl _ | assumption | apply Nx.alloc | apply Nx.drew | apply Nx.drewN | (refine Nx.setCell ?_ (by first | (simp; done) | (simp; omega) | omega) _) | refine Nx.trans ?_ (by assumption)))); obtain ⟨hc2, hf2, hz2⟩ := hn2.rules; (try (have hq2_0 : w1.heap.size < w2.heap.size := (by have h := hn2.size; first | omega | (simp [size_drew_] at h; omega))))) | (go_at_call 25; (with_reducible refine (toEdge_c x1 y1 _).mono ?_); rintro e w3 ⟨rfl, hn3⟩; have hs3 : w1.heap.size ≤ w3.heap.size := Nx.size (by exact (by repeat (first | exact Nx.refl _ | assumption | apply Nx.alloc | apply Nx.drew | apply Nx.drewN | (refine Nx.setCell ?_ (by first | (simp; done) | (simp; omega) | omega) _) | refine Nx.trans ?_ (by assumption)))); obtain ⟨hc3, hf3, hz3⟩ := hn3.rules; (try (have hq3_0 : w1.heap.size < w3.heap.size := (by have h := hn3.size; first | omega | (simp [size_drew_] at h; omega)))); (try (have hq3_1 : w2.heap.size < w3.heap.size := (by have h := hn3.size; first | omega | (simp [size_drew_] at h; omega))))) | (go_at_call 48; (with_reducible refine (sPutEdge_c n0 B2 d2 es0 x1 y1 _ ((ho2.nx (by repeat (first | exact Nx.refl _ | assumption | apply Nx.alloc | apply Nx.drew | apply Nx.drewN | (refine Nx.setCell ?_ (by first | (simp; done) | (simp; omega) | omega) _) | refine Nx.trans ?_ (by assumption)))).edgesAt) (by omega)).mono ?_); rintro e w4 ⟨B4, d4, rfl, ho4, hn4⟩; have hs4 : w1.heap.size ≤ w4.heap.size := Nx.size (by exact (by repeat (first | exact Nx.refl _ | assumption | apply Nx.alloc | apply Nx.drew | apply Nx.drewN | (refine Nx.setCell ?_ (by first | (simp; done) | (simp; omega) | omega) _) | refine Nx.trans ?_ (by assumption)))); obtain ⟨hc4, hf4, hz4⟩ := hn4.rules; (try (have hq4_0 : w1.heap.size < w4.heap.size := (by have h := hn4.size; first | omega | (simp [size_drew_] at h; omega)))); (try (have hq4_1 : w2.heap.size < w4.heap.size := (by have h := hn4.size; first | omega | (simp [size_drew_] at h; omega)))); (try (have hq4_2 : w3.heap.size < w4.heap.size := (by have h := hn4.size; first | omega | (simp [size_drew_] at h; omega))))))
      all_goals go_wp2
      all_goals go_meet
      all_goals exact ⟨_, B4, d4, rfl, rfl, (by repeat (first | exact Nx.refl _ | assumption | apply Nx.alloc | apply Nx.drew | apply Nx.drewN | (refine Nx.setCell ?_ (by first | (simp; done) | (simp; omega) | omega) _) | refine Nx.trans ?_ (by assumption))), (by first | exact Nx.size (by exact (by repeat (first | exact Nx.refl _ | assumption | apply Nx.alloc | apply Nx.drew | apply Nx.drewN | (refine Nx.setCell ?_ (by first | (simp; done) | (simp; omega) | omega) _) | refine Nx.trans ?_ (by assumption)))) | omega | (simp; omega)), (by first | (simp; done) | omega | (simp; omega) | (simp [size_drew_, size_set_]; omega)), (by go_simp), (by go_simp), (by have h4 := ho4.mono (base' := w1.heap.size) (Nx.size (by exact (by repeat (first | exact Nx.refl _ | assumption | apply Nx.alloc | apply Nx.drew | apply Nx.drewN | (refine Nx.setCell ?_ (by first | (simp; done) | (simp; omega) | omega) _) | refine Nx.trans ?_ (by assumption))))); (repeat (refine OwnE.other ?_ (fun k hk e => by have h := ho4.lt k hk; first | omega | (simp at h; omega) | (simp [size_drew_, size_set_] at h; omega)) _ _)); exact h4.nx (by repeat (first | exact Nx.refl _ | assumption | apply Nx.alloc | apply Nx.drew | apply Nx.drewN | (refine Nx.setCell ?_ (by first | (simp; done) | (simp; omega) | omega) _) | refine Nx.trans ?_ (by assumption)))), (fun k hk e => by have h := ho4.lt k hk; first | omega | (simp at h; omega) | (simp [size_drew_, size_set_] at h; omega))⟩
    obtain ⟨bv6, B4, d4, rfl, rfl, hnc5, hbl_bv6, hbz_bv6, hbc_bv6_0, hbc_bv6_1, ho4c, hap_r4_bv6⟩ := hcut
    obtain ⟨v5, hv5⟩ : ∃ v, v = wc := ⟨_, rfl⟩
    subst hv5
    obtain ⟨hcr5, hfr5, hzr5⟩ := hnc5.rules
    have hzr5_0 : w.heap.size < v5.heap.size := (by have h := hnc5.size; first | omega | (simp at h; done) | (simp at h; omega))
    have hzr5_1 : w.heap.size + 1 < v5.heap.size := (by have h := hnc5.size; first | omega | (simp at h; done) | (simp at h; omega))
    go_wp2_with fail
    refine (toGraph_c n0 A0 c0 es0 _ (hx0.nx (by repeat (first | exact Nx.refl _ | assumption | apply Nx.alloc | apply Nx.drew | apply Nx.drewN | (refine Nx.setCell ?_ (by first | (simp; done) | (simp; omega) | omega) _) | refine Nx.trans ?_ (by assumption)))) (by omega)).mono ?_
    rintro e w5 ⟨B5, d5, rfl, ho5, hn5⟩
    obtain ⟨hc5, hf5, hz5⟩ := hn5.rules
    have hzw5 : v5.heap.size ≤ w5.heap.size := by have h := hn5.size; first | omega | (simp at h; omega)
    have hz5_0 : w.heap.size < w5.heap.size := (by have h := hn5.size; first | omega | (simp at h; done) | (simp at h; omega))
    have hz5_1 : w.heap.size + 1 < w5.heap.size := (by have h := hn5.size; first | omega | (simp at h; done) | (simp at h; omega))
    have hz5_2 : bv6 < w5.heap.size := (by have h := hn5.size; first | omega | (simp at h; done) | (simp at h; omega))
    have ho5m := ho5.mono (base' := v5.heap.size) (by first | exact Nat.le_refl _ | omega | (simp; done) | (simp; omega))
    go_wp2_with fail
    generalize hv7 : World.alloc _ _ = v7
    have gv7 : Nx w5 v7 := by subst hv7; exact (by repeat (first | exact Nx.refl _ | assumption | apply Nx.alloc | apply Nx.drew | apply Nx.drewN | (refine Nx.setCell ?_ (by first | (simp; done) | (simp; omega) | omega) _) | refine Nx.trans ?_ (by assumption)))
    have bz7_0 : w.heap.size < v7.heap.size := by first | (have h := gv7.size; omega) | (subst hv7; simp; done) | (subst hv7; simp; omega)
    have bz7_1 : w.heap.size + 1 < v7.heap.size := by first | (have h := gv7.size; omega) | (subst hv7; simp; done) | (subst hv7; simp; omega)
    have bz7_2 : bv6 < v7.heap.size := by first | (have h := gv7.size; omega) | (subst hv7; simp; done) | (subst hv7; simp; omega)
    have bz7_3 : w5.heap.size < v7.heap.size := by first | (have h := gv7.size; omega) | (subst hv7; simp; done) | (subst hv7; simp; omega)
    have : v7.cell? ⟨w5.heap.size, 0, none⟩ = some (V n0) := by subst hv7; go_simp
    have : v7.cell? ⟨w5.heap.size, 1, none⟩ = some (.slice B5 es0.length d5) := by subst hv7; go_simp
    obtain ⟨hcv7, hfv7, hzv7⟩ := gv7.rules
    clear hv7
    go_upto_region 7 with (fail)
    go_cut [9, 10] from 16 (fun s9 s10 wc => ∃ (bv9 : Nat) (B7 : Option Addr) (d7 : Nat), s9 = .pointer (some ⟨bv9, 0, none⟩) ∧ s10 = .bool (putB n0 es0 (x1, y1)) ∧ Nx v7 wc ∧ v7.heap.size ≤ bv9 ∧ bv9 < wc.heap.size ∧ wc.cell? ⟨bv9, 0, none⟩ = some (V (putN n0 es0 (x1, y1))) ∧ wc.cell? ⟨bv9, 1, none⟩ = some (.slice B7 ((putE n0 es0 (x1, y1))).length d7) ∧ OwnE wc v7.heap.size 40 B7 d7 (putE n0 es0 (x1, y1)) ∧ (∀ k, blk B7 = some k → k ≠ bv9))
    case first =>
      have kp : ∀ w', Nx v7 w' → (fun w_ => Nx v7 w_ ∧ w_.cell? ⟨w5.heap.size, 0, none⟩ = some (V n0) ∧ w_.cell? ⟨w5.heap.size, 1, none⟩ = some (.slice B5 es0.length d5) ∧ w_.cell? ⟨w.heap.size + 1, 0, none⟩ = some (V x1) ∧ w_.cell? ⟨w.heap.size + 1, 1, none⟩ = some (V y1)) w' := fun w' h => ⟨h, h.cell (by first | assumption | omega) (by go_simp), h.cell (by first | assumption | omega) (by go_simp), h.cell (by first | assumption | omega) (by go_simp), h.cell (by first | assumption | omega) (by go_simp)⟩
      go_region_held3 (fun w_ => Nx v7 w_ ∧ w_.cell? ⟨w5.heap.size, 0, none⟩ = some (V n0) ∧ w_.cell? ⟨w5.heap.size, 1, none⟩ = some (.slice B5 es0.length d5) ∧ w_.cell? ⟨w.heap.size + 1, 0, none⟩ = some (V x1) ∧ w_.cell? ⟨w.heap.size + 1, 1, none⟩ = some (V y1))
        (exact kp _ (by repeat (first | exact Nx.refl _ | assumption | apply Nx.alloc | apply Nx.drew | apply Nx.drewN | (refine Nx.setCell ?_ (by first | (simp; done) | (simp; omega) | omega) _) | refine Nx.trans ?_ (by assumption))))
        (first | (go_at_call 25; (with_reducible refine (toEdge_c x1 y1 _).mono ?_); rintro e w6 ⟨rfl, hn6⟩; have hs6 : v7.heap.size ≤ w6.heap.size := Nx.size (by exact (by repeat (first | exact Nx.refl _ | assumption | apply Nx.alloc | apply Nx.drew | apply Nx.drewN | (refine Nx.setCell ?_ (by first | (simp; done) | (simp; omega) | omega) _) | refine Nx.trans ?_ (by assumption)))); obtain ⟨hc6, hf6, hz6⟩ := hn6.rules; (try (have hq6_0 : v7.heap.size < w6.heap.size := (by have h := hn6.size; first | omega | (simp [size_drew_] at h; omega))))) | (go_at_call 47; (with_reducible refine (iPutEdge_c n0 B5 d5 es0 x1 y1 _ ((ho5m.nx (by repeat (first | exact Nx.refl _ | assumption | apply Nx.alloc | apply Nx.drew | apply Nx.drewN | (refine Nx.setCell ?_ (by first | (simp; done) | (simp; omega) | omega) _) | refine Nx.trans ?_ (by assumption)))).edgesAt) (by omega)).mono ?_); rintro e w7 ⟨B7, d7, rfl, ho7, hn7⟩; have hs7 : v7.heap.size ≤ w7.heap.size := Nx.size (by exact (by repeat (first | exact Nx.refl _ | assumption | apply Nx.alloc | apply Nx.drew | apply Nx.drewN | (refine Nx.setCell ?_ (by first | (simp; done) | (simp; omega) | omega) _) | refine Nx.trans ?_ (by assumption)))); obtain ⟨hc7, hf7, hz7⟩ := hn7.rules; (try (have hq7_0 : v7.heap.size < w7.heap.size := (by have h := hn7.size; first | omega | (simp [size_drew_] at h; omega)))); (try (have hq7_1 : w6.heap.size < w7.heap.size := (by have h := hn7.size; first | omega | (simp [size_drew_] at h; omega))))))
      all_goals go_wp2
      all_goals go_meet
      all_goals exact ⟨_, B7, d7, rfl, rfl, (by repeat (first | exact Nx.refl _ | assumption | apply Nx.alloc | apply Nx.drew | apply Nx.drewN | (refine Nx.setCell ?_ (by first | (simp; done) | (simp; omega) | omega) _) | refine Nx.trans ?_ (by assumption))), (by first | exact Nx.size (by exact (by repeat (first | exact Nx.refl _ | assumption | apply Nx.alloc | apply Nx.drew | apply Nx.drewN | (refine Nx.setCell ?_ (by first | (simp; done) | (simp; omega) | omega) _) | refine Nx.trans ?_ (by assumption)))) | omega | (simp; omega)), (by first | (simp; done) | omega | (simp; omega) | (simp [size_drew_, size_set_]; omega)), (by go_simp), (by go_simp), (by have h4 := ho7.mono (base' := v7.heap.size) (Nx.size (by exact (by repeat (first | exact Nx.refl _ | assumption | apply Nx.alloc | apply Nx.drew | apply Nx.drewN | (refine Nx.setCell ?_ (by first | (simp; done) | (simp; omega) | omega) _) | refine Nx.trans ?_ (by assumption))))); (repeat (refine OwnE.other ?_ (fun k hk e => by have h := ho7.lt k hk; first | omega | (simp at h; omega) | (simp [size_drew_, size_set_] at h; omega)) _ _)); exact h4.nx (by repeat (first | exact Nx.refl _ | assumption | apply Nx.alloc | apply Nx.drew | apply Nx.drewN | (refine Nx.setCell ?_ (by first | (simp; done) | (simp; omega) | omega) _) | refine Nx.trans ?_ (by assumption)))), (fun k hk e => by have h := ho7.lt k hk; first | omega | (simp at h; omega) | (simp [size_drew_, size_set_] at h; omega))⟩
    obtain ⟨bv9, B7, d7, rfl, rfl, hnc7, hbl_bv9, hbz_bv9, hbc_bv9_0, hbc_bv9_1, ho7c, hap_r7_bv9⟩ := hcut
    obtain ⟨v7, hv7⟩ : ∃ v, v = wc := ⟨_, rfl⟩
    subst hv7
    obtain ⟨hcr7, hfr7, hzr7⟩ := hnc7.rules
    have hzr7_0 : w.heap.size < v7.heap.size := (by have h := hnc7.size; first | omega | (simp at h; done) | (simp at h; omega))
    have hzr7_1 : w.heap.size + 1 < v7.heap.size := (by have h := hnc7.size; first | omega | (simp at h; done) | (simp at h; omega))
    have hzr7_2 : bv6 < v7.heap.size := (by have h := hnc7.size; first | omega | (simp at h; done) | (simp at h; omega))
    have hzr7_3 : w5.heap.size < v7.heap.size := (by have h := hnc7.size; first | omega | (simp at h; done) | (simp at h; omega))
    go_wp2_with fail
    refine (eqGraph_c (putN n0 es0 (x1, y1)) (putN n0 es0 (x1, y1)) B7 B4 d7 d4 (putE n0 es0 (x1, y1)) (putE n0 es0 (x1, y1)) _ ((ho7c.nx (by repeat (first | exact Nx.refl _ | assumption | apply Nx.alloc | apply Nx.drew | apply Nx.drewN | (refine Nx.setCell ?_ (by first | (simp; done) | (simp; omega) | omega) _) | refine Nx.trans ?_ (by assumption)))).edgesAt) ((ho4c.nx (by repeat (first | exact Nx.refl _ | assumption | apply Nx.alloc | apply Nx.drew | apply Nx.drewN | (refine Nx.setCell ?_ (by first | (simp; done) | (simp; omega) | omega) _) | refine Nx.trans ?_ (by assumption)))).edgesAt) (Nat.le_trans (putE_len n0 es0 (x1, y1)) (by omega)) (Nat.le_trans (putE_len n0 es0 (x1, y1)) (by omega))).mono ?_
    rintro e w8 ⟨rfl, hn8⟩
    obtain ⟨hc8, hf8, hz8⟩ := hn8.rules
    have hzw8 : v7.heap.size ≤ w8.heap.size := by have h := hn8.size; first | omega | (simp at h; omega)
    have hz8_0 : w.heap.size < w8.heap.size := (by have h := hn8.size; first | omega | (simp at h; done) | (simp at h; omega))
    have hz8_1 : w.heap.size + 1 < w8.heap.size := (by have h := hn8.size; first | omega | (simp at h; done) | (simp at h; omega))
    have hz8_2 : bv6 < w8.heap.size := (by have h := hn8.size; first | omega | (simp at h; done) | (simp at h; omega))
    have hz8_3 : w5.heap.size < w8.heap.size := (by have h := hn8.size; first | omega | (simp at h; done) | (simp at h; omega))
    have hz8_4 : bv9 < w8.heap.size := (by have h := hn8.size; first | omega | (simp at h; done) | (simp at h; omega))
    go_wp2_with fail
    have kp10 : ∀ w', Nx w8 w' → (fun w_ => Nx w8 w_ ∧ w_.cell? ⟨w5.heap.size, 0, none⟩ = some (V n0) ∧ w_.cell? ⟨w5.heap.size, 1, none⟩ = some (.slice B5 es0.length d5) ∧ w_.cell? ⟨w.heap.size, 0, none⟩ = some (V n0) ∧ w_.cell? ⟨w.heap.size, 1, none⟩ = some (.slice A0 es0.length c0)) w' := fun w' h => ⟨h, h.cell (by first | assumption | omega) (by go_simp), h.cell (by first | assumption | omega) (by go_simp), h.cell (by first | assumption | omega) (by go_simp), h.cell (by first | assumption | omega) (by go_simp)⟩
    go_region_held3 (fun w_ => Nx w8 w_ ∧ w_.cell? ⟨w5.heap.size, 0, none⟩ = some (V n0) ∧ w_.cell? ⟨w5.heap.size, 1, none⟩ = some (.slice B5 es0.length d5) ∧ w_.cell? ⟨w.heap.size, 0, none⟩ = some (V n0) ∧ w_.cell? ⟨w.heap.size, 1, none⟩ = some (.slice A0 es0.length c0))
      (first | exact kp10 _ (Nx.drew (Nx.refl _)) | exact kp10 _ (Nx.trans (Nx.drew (Nx.refl _)) hn9) | exact kp10 _ (Nx.trans (Nx.trans (Nx.drew (Nx.refl _)) hn9) hn10) | exact kp10 _ (Nx.alloc (Nx.trans (Nx.trans (Nx.drew (Nx.refl _)) hn9) hn10) _))
      (first | (go_at_call 17; (with_reducible refine (toGraph_c n0 A0 c0 es0 _ (hx0.nx (by repeat (first | exact Nx.refl _ | assumption | apply Nx.alloc | apply Nx.drew | apply Nx.drewN | (refine Nx.setCell ?_ (by first | (simp; done) | (simp; omega) | omega) _) | refine Nx.trans ?_ (by assumption)))) (by omega)).mono ?_); rintro e w9 ⟨B9, d9, rfl, ho9, hn9⟩; have ho9m := ho9.mono (base' := w8.heap.size) (by first | exact Nat.le_refl _ | omega | (simp; done) | (simp; omega))) | (go_at_call 20; (with_reducible refine (eqGraph_c n0 n0 B5 B9 d5 d9 es0 es0 _ ((ho5m.nx (by repeat (first | exact Nx.refl _ | assumption | apply Nx.alloc | apply Nx.drew | apply Nx.drewN | (refine Nx.setCell ?_ (by first | (simp; done) | (simp; omega) | omega) _) | refine Nx.trans ?_ (by assumption)))).edgesAt) ((ho9m.nx (by repeat (first | exact Nx.refl _ | assumption | apply Nx.alloc | apply Nx.drew | apply Nx.drewN | (refine Nx.setCell ?_ (by first | (simp; done) | (simp; omega) | omega) _) | refine Nx.trans ?_ (by assumption)))).edgesAt) (by omega) (by omega)).mono ?_); rintro e w10 ⟨rfl, hn10⟩))
    have hr10 : Nx w8 w10 := (Nx.trans (Nx.trans (Nx.drew (Nx.refl _)) hn9) hn10)
    obtain ⟨hcr10, hfr10, hzr10⟩ := hr10.rules
    clear kp10
    have hz9_0 : w.heap.size < w9.heap.size := (by have h := hn9.size; first | omega | (simp at h; done) | (simp at h; omega))
    have hz9_1 : w.heap.size + 1 < w9.heap.size := (by have h := hn9.size; first | omega | (simp at h; done) | (simp at h; omega))
    have hz9_2 : bv6 < w9.heap.size := (by have h := hn9.size; first | omega | (simp at h; done) | (simp at h; omega))
    have hz9_3 : w5.heap.size < w9.heap.size := (by have h := hn9.size; first | omega | (simp at h; done) | (simp at h; omega))
    have hz9_4 : bv9 < w9.heap.size := (by have h := hn9.size; first | omega | (simp at h; done) | (simp at h; omega))
    have hz10_0 : w.heap.size < w10.heap.size := (by have h := hn10.size; first | omega | (simp at h; done) | (simp at h; omega))
    have hz10_1 : w.heap.size + 1 < w10.heap.size := (by have h := hn10.size; first | omega | (simp at h; done) | (simp at h; omega))
    have hz10_2 : bv6 < w10.heap.size := (by have h := hn10.size; first | omega | (simp at h; done) | (simp at h; omega))
    have hz10_3 : w5.heap.size < w10.heap.size := (by have h := hn10.size; first | omega | (simp at h; done) | (simp at h; omega))
    have hz10_4 : bv9 < w10.heap.size := (by have h := hn10.size; first | omega | (simp at h; done) | (simp at h; omega))
    go_wp2_with fail
    refine (markGraph_c _ _ n0 B5 d5 es0 (1) _ (ho5m.nx (by repeat (first | exact Nx.refl _ | assumption | apply Nx.alloc | apply Nx.drew | apply Nx.drewN | (refine Nx.setCell ?_ (by first | (simp; done) | (simp; omega) | omega) _) | refine Nx.trans ?_ (by assumption)))) (by omega) (by omega) (by omega)).mono ?_
    rintro e w11 ⟨rfl, ho11, hg11⟩
    have hn11 : Nx w w11 := Nx.grown (by exact (by repeat (first | exact Nx.refl _ | assumption | apply Nx.alloc | apply Nx.drew | apply Nx.drewN | (refine Nx.setCell ?_ (by first | (simp; done) | (simp; omega) | omega) _) | refine Nx.trans ?_ (by assumption)))) hg11 (fun k hk => by have := ho5m.lt k hk; first | omega | (simp at this; done) | (simp at this; omega))
    have hzw11 : w10.heap.size ≤ w11.heap.size := by have h := hg11.size; first | omega | (simp at h; omega)
    have hz11_0 : w.heap.size < w11.heap.size := by have h := hg11.size; first | omega | (simp at h; done) | (simp at h; omega)
    have : w11.cell? ⟨w.heap.size, 0, none⟩ = some (V n0) := World.grownBy.cell hg11 (by go_simp) (fun h => by have := ho5m.lt _ h.symm; first | omega | (simp at this; done) | (simp at this; omega) | exact absurd rfl (by first | exact hap_r5_bv6 _ h.symm | exact hap_r5_bv9 _ h.symm | fail))
    have : w11.cell? ⟨w.heap.size, 1, none⟩ = some (.slice A0 es0.length c0) := World.grownBy.cell hg11 (by go_simp) (fun h => by have := ho5m.lt _ h.symm; first | omega | (simp at this; done) | (simp at this; omega) | exact absurd rfl (by first | exact hap_r5_bv6 _ h.symm | exact hap_r5_bv9 _ h.symm | fail))
    have hz11_1 : w.heap.size + 1 < w11.heap.size := by have h := hg11.size; first | omega | (simp at h; done) | (simp at h; omega)
    have : w11.cell? ⟨w.heap.size + 1, 0, none⟩ = some (V x1) := World.grownBy.cell hg11 (by go_simp) (fun h => by have := ho5m.lt _ h.symm; first | omega | (simp at this; done) | (simp at this; omega) | exact absurd rfl (by first | exact hap_r5_bv6 _ h.symm | exact hap_r5_bv9 _ h.symm | fail))
    have : w11.cell? ⟨w.heap.size + 1, 1, none⟩ = some (V y1) := World.grownBy.cell hg11 (by go_simp) (fun h => by have := ho5m.lt _ h.symm; first | omega | (simp at this; done) | (simp at this; omega) | exact absurd rfl (by first | exact hap_r5_bv6 _ h.symm | exact hap_r5_bv9 _ h.symm | fail))
    have hz11_2 : bv6 < w11.heap.size := by have h := hg11.size; first | omega | (simp at h; done) | (simp at h; omega)
    have : w11.cell? ⟨bv6, 0, none⟩ = some (V (putN n0 es0 (x1, y1))) := World.grownBy.cell hg11 (by go_simp) (fun h => by have := ho5m.lt _ h.symm; first | omega | (simp at this; done) | (simp at this; omega) | exact absurd rfl (by first | exact hap_r5_bv6 _ h.symm | exact hap_r5_bv9 _ h.symm | fail))
    have : w11.cell? ⟨bv6, 1, none⟩ = some (.slice B4 ((putE n0 es0 (x1, y1))).length d4) := World.grownBy.cell hg11 (by go_simp) (fun h => by have := ho5m.lt _ h.symm; first | omega | (simp at this; done) | (simp at this; omega) | exact absurd rfl (by first | exact hap_r5_bv6 _ h.symm | exact hap_r5_bv9 _ h.symm | fail))
    have hz11_3 : w5.heap.size < w11.heap.size := by have h := hg11.size; first | omega | (simp at h; done) | (simp at h; omega)
    have : w11.cell? ⟨w5.heap.size, 0, none⟩ = some (V n0) := World.grownBy.cell hg11 (by go_simp) (fun h => by have := ho5m.lt _ h.symm; first | omega | (simp at this; done) | (simp at this; omega) | exact absurd rfl (by first | exact hap_r5_bv6 _ h.symm | exact hap_r5_bv9 _ h.symm | fail))
    have : w11.cell? ⟨w5.heap.size, 1, none⟩ = some (.slice B5 es0.length d5) := World.grownBy.cell hg11 (by go_simp) (fun h => by have := ho5m.lt _ h.symm; first | omega | (simp at this; done) | (simp at this; omega) | exact absurd rfl (by first | exact hap_r5_bv6 _ h.symm | exact hap_r5_bv9 _ h.symm | fail))
    have hz11_4 : bv9 < w11.heap.size := by have h := hg11.size; first | omega | (simp at h; done) | (simp at h; omega)
    have : w11.cell? ⟨bv9, 0, none⟩ = some (V (putN n0 es0 (x1, y1))) := World.grownBy.cell hg11 (by go_simp) (fun h => by have := ho5m.lt _ h.symm; first | omega | (simp at this; done) | (simp at this; omega) | exact absurd rfl (by first | exact hap_r5_bv6 _ h.symm | exact hap_r5_bv9 _ h.symm | fail))
    have : w11.cell? ⟨bv9, 1, none⟩ = some (.slice B7 ((putE n0 es0 (x1, y1))).length d7) := World.grownBy.cell hg11 (by go_simp) (fun h => by have := ho5m.lt _ h.symm; first | omega | (simp at this; done) | (simp at this; omega) | exact absurd rfl (by first | exact hap_r5_bv6 _ h.symm | exact hap_r5_bv9 _ h.symm | fail))
    have hk11_r4 := (ho4c.nx (by repeat (first | exact Nx.refl _ | assumption | apply Nx.alloc | apply Nx.drew | apply Nx.drewN | (refine Nx.setCell ?_ (by first | (simp; done) | (simp; omega) | omega) _) | refine Nx.trans ?_ (by assumption)))).kept hg11 (apart_of ho4c.lt ho5m.lt (by omega))
    have hk11_r7 := (ho7c.nx (by repeat (first | exact Nx.refl _ | assumption | apply Nx.alloc | apply Nx.drew | apply Nx.drewN | (refine Nx.setCell ?_ (by first | (simp; done) | (simp; omega) | omega) _) | refine Nx.trans ?_ (by assumption)))).kept hg11 (apart_of ho7c.lt ho5m.lt (by omega))
    have hk11_r9 := (ho9m.nx (by repeat (first | exact Nx.refl _ | assumption | apply Nx.alloc | apply Nx.drew | apply Nx.drewN | (refine Nx.setCell ?_ (by first | (simp; done) | (simp; omega) | omega) _) | refine Nx.trans ?_ (by assumption)))).kept hg11 (apart_of ho9m.lt ho5m.lt (by omega))
    go_wp2_with fail
    refine (eqGraph_c (putN n0 es0 (x1, y1)) (putN n0 es0 (x1, y1)) B7 B4 d7 d4 (putE n0 es0 (x1, y1)) (putE n0 es0 (x1, y1)) _ ((hk11_r7.nx (by repeat (first | exact Nx.refl _ | assumption | apply Nx.alloc | apply Nx.drew | apply Nx.drewN | (refine Nx.setCell ?_ (by first | (simp; done) | (simp; omega) | omega) _) | refine Nx.trans ?_ (by assumption)))).edgesAt) ((hk11_r4.nx (by repeat (first | exact Nx.refl _ | assumption | apply Nx.alloc | apply Nx.drew | apply Nx.drewN | (refine Nx.setCell ?_ (by first | (simp; done) | (simp; omega) | omega) _) | refine Nx.trans ?_ (by assumption)))).edgesAt) (Nat.le_trans (putE_len n0 es0 (x1, y1)) (by omega)) (Nat.le_trans (putE_len n0 es0 (x1, y1)) (by omega))).mono ?_
    rintro e w12 ⟨rfl, hn12⟩
    obtain ⟨hc12, hf12, hz12⟩ := hn12.rules
    have hzw12 : w11.heap.size ≤ w12.heap.size := by have h := hn12.size; first | omega | (simp at h; omega)
    have hz12_0 : w.heap.size < w12.heap.size := (by have h := hn12.size; first | omega | (simp at h; done) | (simp at h; omega))
    have hz12_1 : w.heap.size + 1 < w12.heap.size := (by have h := hn12.size; first | omega | (simp at h; done) | (simp at h; omega))
    have hz12_2 : bv6 < w12.heap.size := (by have h := hn12.size; first | omega | (simp at h; done) | (simp at h; omega))
    have hz12_3 : w5.heap.size < w12.heap.size := (by have h := hn12.size; first | omega | (simp at h; done) | (simp at h; omega))
    have hz12_4 : bv9 < w12.heap.size := (by have h := hn12.size; first | omega | (simp at h; done) | (simp at h; omega))
    go_wp2_with fail
    refine (markGraph_c _ _ (putN n0 es0 (x1, y1)) B7 d7 (putE n0 es0 (x1, y1)) (1) _ (hk11_r7.nx (by repeat (first | exact Nx.refl _ | assumption | apply Nx.alloc | apply Nx.drew | apply Nx.drewN | (refine Nx.setCell ?_ (by first | (simp; done) | (simp; omega) | omega) _) | refine Nx.trans ?_ (by assumption)))) (Nat.le_trans (putE_len n0 es0 (x1, y1)) (by omega)) (by omega) (by omega)).mono ?_
    rintro e w13 ⟨rfl, ho13, hg13⟩
    have hn13 : Nx w w13 := Nx.grown (by exact (by repeat (first | exact Nx.refl _ | assumption | apply Nx.alloc | apply Nx.drew | apply Nx.drewN | (refine Nx.setCell ?_ (by first | (simp; done) | (simp; omega) | omega) _) | refine Nx.trans ?_ (by assumption)))) hg13 (fun k hk => by have := ho7c.lt k hk; first | omega | (simp at this; done) | (simp at this; omega))
    have hzw13 : w12.heap.size ≤ w13.heap.size := by have h := hg13.size; first | omega | (simp at h; omega)
    have hz13_0 : w.heap.size < w13.heap.size := by have h := hg13.size; first | omega | (simp at h; done) | (simp at h; omega)
    have : w13.cell? ⟨w.heap.size, 0, none⟩ = some (V n0) := World.grownBy.cell hg13 (by go_simp) (fun h => by have := ho7c.lt _ h.symm; first | omega | (simp at this; done) | (simp at this; omega) | exact absurd rfl (by first | exact hap_r7_bv6 _ h.symm | exact hap_r7_bv9 _ h.symm | fail))
    have : w13.cell? ⟨w.heap.size, 1, none⟩ = some (.slice A0 es0.length c0) := World.grownBy.cell hg13 (by go_simp) (fun h => by have := ho7c.lt _ h.symm; first | omega | (simp at this; done) | (simp at this; omega) | exact absurd rfl (by first | exact hap_r7_bv6 _ h.symm | exact hap_r7_bv9 _ h.symm | fail))
    have hz13_1 : w.heap.size + 1 < w13.heap.size := by have h := hg13.size; first | omega | (simp at h; done) | (simp at h; omega)
    have : w13.cell? ⟨w.heap.size + 1, 0, none⟩ = some (V x1) := World.grownBy.cell hg13 (by go_simp) (fun h => by have := ho7c.lt _ h.symm; first | omega | (simp at this; done) | (simp at this; omega) | exact absurd rfl (by first | exact hap_r7_bv6 _ h.symm | exact hap_r7_bv9 _ h.symm | fail))
    have : w13.cell? ⟨w.heap.size + 1, 1, none⟩ = some (V y1) := World.grownBy.cell hg13 (by go_simp) (fun h => by have := ho7c.lt _ h.symm; first | omega | (simp at this; done) | (simp at this; omega) | exact absurd rfl (by first | exact hap_r7_bv6 _ h.symm | exact hap_r7_bv9 _ h.symm | fail))
    have hz13_2 : bv6 < w13.heap.size := by have h := hg13.size; first | omega | (simp at h; done) | (simp at h; omega)
    have : w13.cell? ⟨bv6, 0, none⟩ = some (V (putN n0 es0 (x1, y1))) := World.grownBy.cell hg13 (by go_simp) (fun h => by have := ho7c.lt _ h.symm; first | omega | (simp at this; done) | (simp at this; omega) | exact absurd rfl (by first | exact hap_r7_bv6 _ h.symm | exact hap_r7_bv9 _ h.symm | fail))
    have : w13.cell? ⟨bv6, 1, none⟩ = some (.slice B4 ((putE n0 es0 (x1, y1))).length d4) := World.grownBy.cell hg13 (by go_simp) (fun h => by have := ho7c.lt _ h.symm; first | omega | (simp at this; done) | (simp at this; omega) | exact absurd rfl (by first | exact hap_r7_bv6 _ h.symm | exact hap_r7_bv9 _ h.symm | fail))
    have hz13_3 : w5.heap.size < w13.heap.size := by have h := hg13.size; first | omega | (simp at h; done) | (simp at h; omega)
    have : w13.cell? ⟨w5.heap.size, 0, none⟩ = some (V n0) := World.grownBy.cell hg13 (by go_simp) (fun h => by have := ho7c.lt _ h.symm; first | omega | (simp at this; done) | (simp at this; omega) | exact absurd rfl (by first | exact hap_r7_bv6 _ h.symm | exact hap_r7_bv9 _ h.symm | fail))
    have : w13.cell? ⟨w5.heap.size, 1, none⟩ = some (.slice B5 es0.length d5) := World.grownBy.cell hg13 (by go_simp) (fun h => by have := ho7c.lt _ h.symm; first | omega | (simp at this; done) | (simp at this; omega) | exact absurd rfl (by first | exact hap_r7_bv6 _ h.symm | exact hap_r7_bv9 _ h.symm | fail))
    have hz13_4 : bv9 < w13.heap.size := by have h := hg13.size; first | omega | (simp at h; done) | (simp at h; omega)
    have : w13.cell? ⟨bv9, 0, none⟩ = some (V (putN n0 es0 (x1, y1))) := World.grownBy.cell hg13 (by go_simp) (fun h => by have := ho7c.lt _ h.symm; first | omega | (simp at this; done) | (simp at this; omega) | exact absurd rfl (by first | exact hap_r7_bv6 _ h.symm | exact hap_r7_bv9 _ h.symm | fail))
    have : w13.cell? ⟨bv9, 1, none⟩ = some (.slice B7 ((putE n0 es0 (x1, y1))).length d7) := World.grownBy.cell hg13 (by go_simp) (fun h => by have := ho7c.lt _ h.symm; first | omega | (simp at this; done) | (simp at this; omega) | exact absurd rfl (by first | exact hap_r7_bv6 _ h.symm | exact hap_r7_bv9 _ h.symm | fail))
    have hk13_r4 := (hk11_r4.nx (by repeat (first | exact Nx.refl _ | assumption | apply Nx.alloc | apply Nx.drew | apply Nx.drewN | (refine Nx.setCell ?_ (by first | (simp; done) | (simp; omega) | omega) _) | refine Nx.trans ?_ (by assumption)))).kept hg13 (apart_of ho4c.lt ho7c.lt (by omega))
    have hk13_r5 := (ho11.nx (by repeat (first | exact Nx.refl _ | assumption | apply Nx.alloc | apply Nx.drew | apply Nx.drewN | (refine Nx.setCell ?_ (by first | (simp; done) | (simp; omega) | omega) _) | refine Nx.trans ?_ (by assumption)))).kept hg13 (apart_of ho5m.lt ho7c.lt (by omega))
    have hk13_r9 := (hk11_r9.nx (by repeat (first | exact Nx.refl _ | assumption | apply Nx.alloc | apply Nx.drew | apply Nx.drewN | (refine Nx.setCell ?_ (by first | (simp; done) | (simp; omega) | omega) _) | refine Nx.trans ?_ (by assumption)))).kept hg13 (apart_of ho9m.lt ho7c.lt (by omega))
    go_wp2_with fail
    refine (heldGraph_c (putN n0 es0 (x1, y1)) B7 d7 ((putE n0 es0 (x1, y1))).length (1) _ ((ho13.nx (by repeat (first | exact Nx.refl _ | assumption | apply Nx.alloc | apply Nx.drew | apply Nx.drewN | (refine Nx.setCell ?_ (by first | (simp; done) | (simp; omega) | omega) _) | refine Nx.trans ?_ (by assumption)))).edgesAt) (Nat.le_trans (putE_len n0 es0 (x1, y1)) (by omega)) (by omega) (by omega)).mono ?_
    rintro e w14 ⟨rfl, hn14⟩
    obtain ⟨hc14, hf14, hz14⟩ := hn14.rules
    have hzw14 : w13.heap.size ≤ w14.heap.size := by have h := hn14.size; first | omega | (simp at h; omega)
    have hz14_0 : w.heap.size < w14.heap.size := (by have h := hn14.size; first | omega | (simp at h; done) | (simp at h; omega))
    have hz14_1 : w.heap.size + 1 < w14.heap.size := (by have h := hn14.size; first | omega | (simp at h; done) | (simp at h; omega))
    have hz14_2 : bv6 < w14.heap.size := (by have h := hn14.size; first | omega | (simp at h; done) | (simp at h; omega))
    have hz14_3 : w5.heap.size < w14.heap.size := (by have h := hn14.size; first | omega | (simp at h; done) | (simp at h; omega))
    have hz14_4 : bv9 < w14.heap.size := (by have h := hn14.size; first | omega | (simp at h; done) | (simp at h; omega))
    go_upto_region 24 with (fail)
    go_cut [14, 15] from 16 (fun s14 s15 wc => ∃ (bv14 : Nat) (B17 : Option Addr) (d17 : Nat), s14 = .pointer (some ⟨bv14, 0, none⟩) ∧ s15 = .bool (putB n0 es0 (x1, y1)) ∧ Nx w14 wc ∧ w14.heap.size ≤ bv14 ∧ bv14 < wc.heap.size ∧ wc.cell? ⟨bv14, 0, none⟩ = some (V (putN n0 es0 (x1, y1))) ∧ wc.cell? ⟨bv14, 1, none⟩ = some (.slice B17 ((putE n0 es0 (x1, y1))).length d17) ∧ OwnE wc w14.heap.size 40 B17 d17 (putE n0 es0 (x1, y1)) ∧ (∀ k, blk B17 = some k → k ≠ bv14))
    case first =>
      have kp : ∀ w', Nx w14 w' → (fun w_ => Nx w14 w_ ∧ w_.cell? ⟨w.heap.size, 0, none⟩ = some (V n0) ∧ w_.cell? ⟨w.heap.size, 1, none⟩ = some (.slice A0 es0.length c0) ∧ w_.cell? ⟨w.heap.size + 1, 0, none⟩ = some (V x1) ∧ w_.cell? ⟨w.heap.size + 1, 1, none⟩ = some (V y1)) w' := fun w' h => ⟨h, h.cell (by first | assumption | omega) (by go_simp), h.cell (by first | assumption | omega) (by go_simp), h.cell (by first | assumption | omega) (by go_simp), h.cell (by first | assumption | omega) (by go_simp)⟩
      go_region_held3 (fun w_ => Nx w14 w_ ∧ w_.cell? ⟨w.heap.size, 0, none⟩ = some (V n0) ∧ w_.cell? ⟨w.heap.size, 1, none⟩ = some (.slice A0 es0.length c0) ∧ w_.cell? ⟨w.heap.size + 1, 0, none⟩ = some (V x1) ∧ w_.cell? ⟨w.heap.size + 1, 1, none⟩ = some (V y1))
        (exact kp _ (by repeat (first | exact Nx.refl _ | assumption | apply Nx.alloc | apply Nx.drew | apply Nx.drewN | (refine Nx.setCell ?_ (by first | (simp; done) | (simp; omega) | omega) _) | refine Nx.trans ?_ (by assumption))))
        (first | (go_at_call 17; (with_reducible refine (toGraph_c n0 A0 c0 es0 _ (hx0.nx (by repeat (first | exact Nx.refl _ | assumption | apply Nx.alloc | apply Nx.drew | apply Nx.drewN | (refine Nx.setCell ?_ (by first | (simp; done) | (simp; omega) | omega) _) | refine Nx.trans ?_ (by assumption)))) (by omega)).mono ?_); rintro e w15 ⟨B15, d15, rfl, ho15, hn15⟩; have hs15 : w14.heap.size ≤ w15.heap.size := Nx.size (by exact (by repeat (first | exact Nx.refl _ | assumption | apply Nx.alloc | apply Nx.drew | apply Nx.drewN | (refine Nx.setCell ?_ (by first | (simp; done) | (simp; omega) | omega) _) | refine Nx.trans ?_ (by assumption)))); obtain ⟨hc15, hf15, hz15⟩ := hn15.rules; (try (have hq15_0 : w14.heap.size < w15.heap.size := (by have h := hn15.size; first | omega | (simp [size_drew_] at h; omega))))) | (go_at_call 25; (with_reducible refine (toEdge_c x1 y1 _).mono ?_); rintro e w16 ⟨rfl, hn16⟩; have hs16 : w14.heap.size ≤ w16.heap.size := Nx.size (by exact (by repeat (first | exact Nx.refl _ | assumption | apply Nx.alloc | apply Nx.drew | apply Nx.drewN | (refine Nx.setCell ?_ (by first | (simp; done) | (simp; omega) | omega) _) | refine Nx.trans ?_ (by assumption)))); obtain ⟨hc16, hf16, hz16⟩ := hn16.rules; (try (have hq16_0 : w14.heap.size < w16.heap.size := (by have h := hn16.size; first | omega | (simp [size_drew_] at h; omega)))); (try (have hq16_1 : w15.heap.size < w16.heap.size := (by have h := hn16.size; first | omega | (simp [size_drew_] at h; omega))))) | (go_at_call 47; (with_reducible refine (iPutEdge_c n0 B15 d15 es0 x1 y1 _ ((ho15.nx (by repeat (first | exact Nx.refl _ | assumption | apply Nx.alloc | apply Nx.drew | apply Nx.drewN | (refine Nx.setCell ?_ (by first | (simp; done) | (simp; omega) | omega) _) | refine Nx.trans ?_ (by assumption)))).edgesAt) (by omega)).mono ?_); rintro e w17 ⟨B17, d17, rfl, ho17, hn17⟩; have hs17 : w14.heap.size ≤ w17.heap.size := Nx.size (by exact (by repeat (first | exact Nx.refl _ | assumption | apply Nx.alloc | apply Nx.drew | apply Nx.drewN | (refine Nx.setCell ?_ (by first | (simp; done) | (simp; omega) | omega) _) | refine Nx.trans ?_ (by assumption)))); obtain ⟨hc17, hf17, hz17⟩ := hn17.rules; (try (have hq17_0 : w14.heap.size < w17.heap.size := (by have h := hn17.size; first | omega | (simp [size_drew_] at h; omega)))); (try (have hq17_1 : w15.heap.size < w17.heap.size := (by have h := hn17.size; first | omega | (simp [size_drew_] at h; omega)))); (try (have hq17_2 : w16.heap.size < w17.heap.size := (by have h := hn17.size; first | omega | (simp [size_drew_] at h; omega))))))
      all_goals go_wp2
      all_goals go_meet
      all_goals exact ⟨_, B17, d17, rfl, rfl, (by repeat (first | exact Nx.refl _ | assumption | apply Nx.alloc | apply Nx.drew | apply Nx.drewN | (refine Nx.setCell ?_ (by first | (simp; done) | (simp; omega) | omega) _) | refine Nx.trans ?_ (by assumption))), (by first | exact Nx.size (by exact (by repeat (first | exact Nx.refl _ | assumption | apply Nx.alloc | apply Nx.drew | apply Nx.drewN | (refine Nx.setCell ?_ (by first | (simp; done) | (simp; omega) | omega) _) | refine Nx.trans ?_ (by assumption)))) | omega | (simp; omega)), (by first | (simp; done) | omega | (simp; omega) | (simp [size_drew_, size_set_]; omega)), (by go_simp), (by go_simp), (by have h4 := ho17.mono (base' := w14.heap.size) (Nx.size (by exact (by repeat (first | exact Nx.refl _ | assumption | apply Nx.alloc | apply Nx.drew | apply Nx.drewN | (refine Nx.setCell ?_ (by first | (simp; done) | (simp; omega) | omega) _) | refine Nx.trans ?_ (by assumption))))); (repeat (refine OwnE.other ?_ (fun k hk e => by have h := ho17.lt k hk; first | omega | (simp at h; omega) | (simp [size_drew_, size_set_] at h; omega)) _ _)); exact h4.nx (by repeat (first | exact Nx.refl _ | assumption | apply Nx.alloc | apply Nx.drew | apply Nx.drewN | (refine Nx.setCell ?_ (by first | (simp; done) | (simp; omega) | omega) _) | refine Nx.trans ?_ (by assumption)))), (fun k hk e => by have h := ho17.lt k hk; first | omega | (simp at h; omega) | (simp [size_drew_, size_set_] at h; omega))⟩
    obtain ⟨bv14, B17, d17, rfl, rfl, hnc24, hbl_bv14, hbz_bv14, hbc_bv14_0, hbc_bv14_1, ho17c, hap_r17_bv14⟩ := hcut
    obtain ⟨v24, hv24⟩ : ∃ v, v = wc := ⟨_, rfl⟩
    subst hv24
    obtain ⟨hcr24, hfr24, hzr24⟩ := hnc24.rules
    have hzr24_0 : w.heap.size < v24.heap.size := (by have h := hnc24.size; first | omega | (simp at h; done) | (simp at h; omega))
    have hzr24_1 : w.heap.size + 1 < v24.heap.size := (by have h := hnc24.size; first | omega | (simp at h; done) | (simp at h; omega))
    have hzr24_2 : bv6 < v24.heap.size := (by have h := hnc24.size; first | omega | (simp at h; done) | (simp at h; omega))
    have hzr24_3 : w5.heap.size < v24.heap.size := (by have h := hnc24.size; first | omega | (simp at h; done) | (simp at h; omega))
    have hzr24_4 : bv9 < v24.heap.size := (by have h := hnc24.size; first | omega | (simp at h; done) | (simp at h; omega))
    go_wp2_with fail
    refine (eqGraph_c (putN n0 es0 (x1, y1)) (putN n0 es0 (x1, y1)) B17 B4 d17 d4 (putE n0 es0 (x1, y1)) (putE n0 es0 (x1, y1)) _ ((ho17c.nx (by repeat (first | exact Nx.refl _ | assumption | apply Nx.alloc | apply Nx.drew | apply Nx.drewN | (refine Nx.setCell ?_ (by first | (simp; done) | (simp; omega) | omega) _) | refine Nx.trans ?_ (by assumption)))).edgesAt) ((hk13_r4.nx (by repeat (first | exact Nx.refl _ | assumption | apply Nx.alloc | apply Nx.drew | apply Nx.drewN | (refine Nx.setCell ?_ (by first | (simp; done) | (simp; omega) | omega) _) | refine Nx.trans ?_ (by assumption)))).edgesAt) (Nat.le_trans (putE_len n0 es0 (x1, y1)) (by omega)) (Nat.le_trans (putE_len n0 es0 (x1, y1)) (by omega))).mono ?_
    rintro e w18 ⟨rfl, hn18⟩
    obtain ⟨hc18, hf18, hz18⟩ := hn18.rules
    have hzw18 : v24.heap.size ≤ w18.heap.size := by have h := hn18.size; first | omega | (simp at h; omega)
    have hz18_0 : w.heap.size < w18.heap.size := (by have h := hn18.size; first | omega | (simp at h; done) | (simp at h; omega))
    have hz18_1 : w.heap.size + 1 < w18.heap.size := (by have h := hn18.size; first | omega | (simp at h; done) | (simp at h; omega))
    have hz18_2 : bv6 < w18.heap.size := (by have h := hn18.size; first | omega | (simp at h; done) | (simp at h; omega))
    have hz18_3 : w5.heap.size < w18.heap.size := (by have h := hn18.size; first | omega | (simp at h; done) | (simp at h; omega))
    have hz18_4 : bv9 < w18.heap.size := (by have h := hn18.size; first | omega | (simp at h; done) | (simp at h; omega))
    have hz18_5 : bv14 < w18.heap.size := (by have h := hn18.size; first | omega | (simp at h; done) | (simp at h; omega))
    go_wp2_with fail
    refine (heldGraph_c (putN n0 es0 (x1, y1)) B7 d7 ((putE n0 es0 (x1, y1))).length (1) _ ((ho13.nx (by repeat (first | exact Nx.refl _ | assumption | apply Nx.alloc | apply Nx.drew | apply Nx.drewN | (refine Nx.setCell ?_ (by first | (simp; done) | (simp; omega) | omega) _) | refine Nx.trans ?_ (by assumption)))).edgesAt) (Nat.le_trans (putE_len n0 es0 (x1, y1)) (by omega)) (by omega) (by omega)).mono ?_
    rintro e w19 ⟨rfl, hn19⟩
    obtain ⟨hc19, hf19, hz19⟩ := hn19.rules
    have hzw19 : w18.heap.size ≤ w19.heap.size := by have h := hn19.size; first | omega | (simp at h; omega)
    have hz19_0 : w.heap.size < w19.heap.size := (by have h := hn19.size; first | omega | (simp at h; done) | (simp at h; omega))
    have hz19_1 : w.heap.size + 1 < w19.heap.size := (by have h := hn19.size; first | omega | (simp at h; done) | (simp at h; omega))
    have hz19_2 : bv6 < w19.heap.size := (by have h := hn19.size; first | omega | (simp at h; done) | (simp at h; omega))
    have hz19_3 : w5.heap.size < w19.heap.size := (by have h := hn19.size; first | omega | (simp at h; done) | (simp at h; omega))
    have hz19_4 : bv9 < w19.heap.size := (by have h := hn19.size; first | omega | (simp at h; done) | (simp at h; omega))
    have hz19_5 : bv14 < w19.heap.size := (by have h := hn19.size; first | omega | (simp at h; done) | (simp at h; omega))
    go_wp2
    go_ret
    exact RetV.bool rfl (by repeat (first | exact Nx.refl _ | assumption | apply Nx.alloc | apply Nx.drew | apply Nx.drewN | (refine Nx.setCell ?_ (by first | (simp; done) | (simp; omega) | omega) _) | refine Nx.trans ?_ (by assumption)))
end Go.Proofs.Ytmagbdcmanchmaa
