/- FnExactNewLevels: the walk. -/
import Derived.Test.YtidkbpgceoaggaaH
namespace Go.Proofs.Ytidkbpgceoaggaa
open Go.RowKit

theorem nilI (w : World) : IntsAt w none [] := fun h => by simp at h
theorem nilE (w : World) : EdgesAt w none [] := fun h => by simp at h

theorem eqBoolS_nil (w : World) : Calls Try.prog 62 #[.slice none 0 0, .slice none 0 0] w (RetV (.bool true) w) := by
  go_enter Try.func62, Try.ntmps62
  go_wp2
  go_loopw [5] (fun i wr => i = .int .i64 0 ∧ Nx w wr) (fun _ _ => 0)
  case atStart => exact ⟨rfl, Nx.refl _⟩
  case round =>
    obtain ⟨rfl, hn⟩ := hrel
    go_wp2
    go_ret
    exact RetV.bool rfl (by repeat (first | exact Nx.refl _ | assumption | apply Nx.alloc | apply Nx.drew | apply Nx.drewN | (refine Nx.setCell ?_ (by first | (simp; done) | (simp; omega) | omega) _) | refine Nx.trans ?_ (by assumption)))
theorem markBoolS_nil (k : Int) (w : World) : Calls Try.prog 63 #[.slice none 0 0, V k] w (RetV (V k) w) := by
  go_enter Try.func63, Try.ntmps63
  go_wp2
  go_loopw [1, 5] (fun k1 i wr => k1 = V k ∧ i = .int .i64 0 ∧ Nx w wr) (fun _ _ _ => 0)
  case atStart => exact ⟨rfl, rfl, Nx.refl _⟩
  case round =>
    obtain ⟨rfl, rfl, hn⟩ := hrel
    go_wp2
    go_ret
    exact RetV.int rfl (by repeat (first | exact Nx.refl _ | assumption | apply Nx.alloc | apply Nx.drew | apply Nx.drewN | (refine Nx.setCell ?_ (by first | (simp; done) | (simp; omega) | omega) _) | refine Nx.trans ?_ (by assumption)))
theorem heldBoolS_nil (k : Int) (w : World) : Calls Try.prog 65 #[.slice none 0 0, V k] w (RetV (V k) w) := by
  go_enter Try.func65, Try.ntmps65
  go_wp2
  go_loopw [1, 5] (fun k1 i wr => k1 = V k ∧ i = .int .i64 0 ∧ Nx w wr) (fun _ _ _ => 0)
  case atStart => exact ⟨rfl, rfl, Nx.refl _⟩
  case round =>
    obtain ⟨rfl, rfl, hn⟩ := hrel
    go_wp2
    go_ret
    exact RetV.int rfl (by repeat (first | exact Nx.refl _ | assumption | apply Nx.alloc | apply Nx.drew | apply Nx.drewN | (refine Nx.setCell ?_ (by first | (simp; done) | (simp; omega) | omega) _) | refine Nx.trans ?_ (by assumption)))

/-- levels without an edge -/
abbrev Lv (n : Int) : Value := .agg #[V n, .slice none 0 0, .slice none 0 0, .slice none 0 0]
set_option maxRecDepth 100000 in
theorem eqLeveled_c (n : Int) (w : World) : Calls Try.prog 31 #[Lv n, Lv n] w (RetV (.bool true) w) := by
  have e1 : decide (n = n ∧ ([] : List (Int × Int)) = []) = true := by simp
  have e2 : decide (([] : List Int) = []) = true := by simp
  go_enter Try.func31, Try.ntmps31
  go_wp2_with (first | (go_at_call 23; go_must (refine (eqGraph_c n n none none 0 0 [] [] _ (nilE _) (nilE _) (by simp) (by simp)).mono ?_; rintro e w1 ⟨rfl, hn1⟩; obtain ⟨hc1, hf1, hz1⟩ := hn1.rules; have hz1_0 : w.heap.size < w1.heap.size := (by have h := hn1.size; first | omega | (simp at h; done) | (simp at h; omega)); have hz1_1 : w.heap.size + 1 < w1.heap.size := (by have h := hn1.size; first | omega | (simp at h; done) | (simp at h; omega)))) | (go_at_call 44; go_must (refine (eqIntS_c none none 0 0 [] [] _ (nilI _) (nilI _) (by simp) (by simp)).mono ?_; rintro e w2 ⟨rfl, hn2⟩; obtain ⟨hc2, hf2, hz2⟩ := hn2.rules; have hz2_0 : w.heap.size < w2.heap.size := (by have h := hn2.size; first | omega | (simp at h; done) | (simp at h; omega)); have hz2_1 : w.heap.size + 1 < w2.heap.size := (by have h := hn2.size; first | omega | (simp at h; done) | (simp at h; omega)))) | (go_at_call 62; go_must (refine (eqBoolS_nil _).mono ?_; rintro e w3 ⟨rfl, hn3⟩; obtain ⟨hc3, hf3, hz3⟩ := hn3.rules)))
  go_ret
  exact RetV.bool rfl (by repeat (first | exact Nx.refl _ | assumption | apply Nx.alloc | apply Nx.drew | apply Nx.drewN | (refine Nx.setCell ?_ (by first | (simp; done) | (simp; omega) | omega) _) | refine Nx.trans ?_ (by assumption)))
theorem markE_nil (t : TypeId) {base : Nat} {c : Nat} {k : Int} {w w' : World} {e : Ending} (h : MarkedE t base none c k 0 w e w') : RetV (V k) w e w' :=
  ⟨by simpa using h.1, Nx.grown (Nx.refl _) h.2.2 (by simp [blk])⟩
theorem markI_nil (t : TypeId) {base : Nat} {c : Nat} {k : Int} {w w' : World} {e : Ending} (h : MarkedI t base none c k 0 w e w') : RetV (V k) w e w' :=
  ⟨by simpa using h.1, Nx.grown (Nx.refl _) h.2.2 (by simp [blk])⟩
set_option maxRecDepth 100000 in
theorem markLeveled_c (n : Int) (w : World) : Calls Try.prog 32 #[Lv n, V 1] w (RetV (V 1) w) := by
  go_enter Try.func32, Try.ntmps32
  go_wp2_with (first | (go_at_call 45; go_must (refine ((markGraph_c 0 0 n none 0 [] 1 _ (OwnE.nil _ _ _) (by simp) (by simp) (by simp)).mono (fun _ _ h => markE_nil 0 h)).mono ?_; rintro e w1 ⟨rfl, hn1⟩; obtain ⟨hc1, hf1, hz1⟩ := hn1.rules; have hz1_0 : w.heap.size < w1.heap.size := (by have h := hn1.size; first | omega | (simp at h; done) | (simp at h; omega)))) | (go_at_call 46; go_must (refine ((markIntS_c 0 0 none 0 [] 1 _ (OwnI.nil _ _ _) (by simp) (by simp) (by simp)).mono (fun _ _ h => markI_nil 0 h)).mono ?_; rintro e w2 ⟨rfl, hn2⟩; obtain ⟨hc2, hf2, hz2⟩ := hn2.rules; have hz2_0 : w.heap.size < w2.heap.size := (by have h := hn2.size; first | omega | (simp at h; done) | (simp at h; omega)))) | (go_at_call 63; go_must (refine (markBoolS_nil _ _).mono ?_; rintro e w3 ⟨rfl, hn3⟩; obtain ⟨hc3, hf3, hz3⟩ := hn3.rules)))
  go_ret
  exact RetV.int rfl (by repeat (first | exact Nx.refl _ | assumption | apply Nx.alloc | apply Nx.drew | apply Nx.drewN | (refine Nx.setCell ?_ (by first | (simp; done) | (simp; omega) | omega) _) | refine Nx.trans ?_ (by assumption)))
set_option maxRecDepth 100000 in
theorem heldLeveled_c (n : Int) (w : World) : Calls Try.prog 33 #[Lv n, V 1] w (RetV (V 1) w) := by
  go_enter Try.func33, Try.ntmps33
  go_wp2_with (first | (go_at_call 64; go_must (refine (heldGraph_c n none 0 0 1 _ (nilE _) (by simp) (by simp) (by simp)).mono ?_; rintro e w1 ⟨rfl, hn1⟩; obtain ⟨hc1, hf1, hz1⟩ := hn1.rules; have hz1_0 : w.heap.size < w1.heap.size := (by have h := hn1.size; first | omega | (simp at h; done) | (simp at h; omega)))) | (go_at_call 47; go_must (refine (heldIntS_c none 0 0 1 _ (nilI _) (by simp) (by simp) (by simp)).mono ?_; rintro e w2 ⟨rfl, hn2⟩; obtain ⟨hc2, hf2, hz2⟩ := hn2.rules; have hz2_0 : w.heap.size < w2.heap.size := (by have h := hn2.size; first | omega | (simp at h; done) | (simp at h; omega)))) | (go_at_call 65; go_must (refine (heldBoolS_nil _ _).mono ?_; rintro e w3 ⟨rfl, hn3⟩; obtain ⟨hc3, hf3, hz3⟩ := hn3.rules)))
  go_ret
  exact RetV.int rfl (by repeat (first | exact Nx.refl _ | assumption | apply Nx.alloc | apply Nx.drew | apply Nx.drewN | (refine Nx.setCell ?_ (by first | (simp; done) | (simp; omega) | omega) _) | refine Nx.trans ?_ (by assumption)))

def lvN (n : Int) : Int := if 1 ≤ n ∧ n ≤ 16 then n else 0
abbrev lvV (n : Int) : Value := .tuple #[Lv (lvN n), .bool (decide (1 ≤ n ∧ n ≤ 16))]
theorem lv_no {x : Int} (h : ¬ (1 ≤ x ∧ x ≤ 16)) : lvV x = .tuple #[Lv 0, .bool false] := by rw [lvV, lvN, if_neg h, decide_eq_false h]
theorem lv_yes {x : Int} (h : 1 ≤ x ∧ x ≤ 16) : lvV x = .tuple #[Lv x, .bool true] := by rw [lvV, lvN, if_pos h, decide_eq_true h]
theorem sNewLevels_c (n : Int) (w : World) : Calls Try.prog 29 #[V n] w (RetV (lvV n) w) := by
  by_cases h : 1 ≤ n ∧ n ≤ 16
  · rw [lv_yes h]
    obtain ⟨h1, h2⟩ := h
    go_enter Try.func29, Try.ntmps29
    go_wp2
    refine bodyPost_ret (v := .tuple #[Lv n, .bool true]) (by simp [results, Try.f29, go_sem, *]) rfl ?_
    exact RetV.mk rfl (by repeat (first | exact Nx.refl _ | assumption | apply Nx.alloc | apply Nx.drew | apply Nx.drewN | (refine Nx.setCell ?_ (by first | (simp; done) | (simp; omega) | omega) _) | refine Nx.trans ?_ (by assumption)))
  · rw [lv_no h]
    go_enter Try.func29, Try.ntmps29
    go_wp2
    all_goals first | (exfalso; simp_all; omega) | refine bodyPost_ret (v := .tuple #[Lv 0, .bool false]) (by simp [results, Try.f29, go_sem, *]) rfl ?_
    all_goals exact RetV.mk rfl (by repeat (first | exact Nx.refl _ | assumption | apply Nx.alloc | apply Nx.drew | apply Nx.drewN | (refine Nx.setCell ?_ (by first | (simp; done) | (simp; omega) | omega) _) | refine Nx.trans ?_ (by assumption)))
theorem iNewLevels_c (n : Int) (w : World) : Calls Try.prog 30 #[V n] w (RetV (lvV n) w) := by
  by_cases h : 1 ≤ n ∧ n ≤ 16
  · rw [lv_yes h]
    obtain ⟨h1, h2⟩ := h
    go_enter Try.func30, Try.ntmps30
    go_wp2
    refine bodyPost_ret (v := .tuple #[Lv n, .bool true]) (by simp [results, Try.f30, go_sem, *]) rfl ?_
    exact RetV.mk rfl (by repeat (first | exact Nx.refl _ | assumption | apply Nx.alloc | apply Nx.drew | apply Nx.drewN | (refine Nx.setCell ?_ (by first | (simp; done) | (simp; omega) | omega) _) | refine Nx.trans ?_ (by assumption)))
  · rw [lv_no h]
    go_enter Try.func30, Try.ntmps30
    go_wp2
    all_goals first | (exfalso; simp_all; omega) | refine bodyPost_ret (v := .tuple #[Lv 0, .bool false]) (by simp [results, Try.f30, go_sem, *]) rfl ?_
    all_goals exact RetV.mk rfl (by repeat (first | exact Nx.refl _ | assumption | apply Nx.alloc | apply Nx.drew | apply Nx.drewN | (refine Nx.setCell ?_ (by first | (simp; done) | (simp; omega) | omega) _) | refine Nx.trans ?_ (by assumption)))

set_option maxHeartbeats 2000000 in
theorem fnExactNewLevels_walk (n : Int) (_ : Fits n) (w : World) : Calls Try.prog 9 #[V n] w (RetV (.bool true) w) := by
  have hb : (decide (1 ≤ n ∧ n ≤ 16) != decide (1 ≤ n ∧ n ≤ 16)) = false := by simp
  go_enter Try.func9, Try.ntmps9
  go_wp2_with (go_at_call 29; go_must (refine (sNewLevels_c n _).mono ?_; rintro e w1 ⟨rfl, hn1⟩; obtain ⟨hc1, hf1, hz1⟩ := hn1.rules))
  go_wp2_with (go_at_call 30; go_must (refine (iNewLevels_c n _).mono ?_; rintro e w2 ⟨rfl, hn2⟩; obtain ⟨hc2, hf2, hz2⟩ := hn2.rules; have hz2_0 : w1.heap.size < w2.heap.size := (by have h := hn2.size; first | omega | (simp at h; done) | (simp at h; omega))))
  go_wp2_with (go_at_call 31; go_must (refine (eqLeveled_c (lvN n) _).mono ?_; rintro e w3 ⟨rfl, hn3⟩; obtain ⟨hc3, hf3, hz3⟩ := hn3.rules; have hz3_0 : w1.heap.size < w3.heap.size := (by have h := hn3.size; first | omega | (simp at h; done) | (simp at h; omega)); have hz3_1 : w2.heap.size < w3.heap.size := (by have h := hn3.size; first | omega | (simp at h; done) | (simp at h; omega))))
  go_wp2_with (go_at_call 32; go_must (refine (markLeveled_c (lvN n) _).mono ?_; rintro e w4 ⟨rfl, hn4⟩; obtain ⟨hc4, hf4, hz4⟩ := hn4.rules; have hz4_0 : w1.heap.size < w4.heap.size := (by have h := hn4.size; first | omega | (simp at h; done) | (simp at h; omega)); have hz4_1 : w2.heap.size < w4.heap.size := (by have h := hn4.size; first | omega | (simp at h; done) | (simp at h; omega))))
  go_wp2_with (go_at_call 33; go_must (refine (heldLeveled_c (lvN n) _).mono ?_; rintro e w5 ⟨rfl, hn5⟩; obtain ⟨hc5, hf5, hz5⟩ := hn5.rules; have hz5_0 : w1.heap.size < w5.heap.size := (by have h := hn5.size; first | omega | (simp at h; done) | (simp at h; omega)); have hz5_1 : w2.heap.size < w5.heap.size := (by have h := hn5.size; first | omega | (simp at h; done) | (simp at h; omega))))
  go_wp2_with (go_at_call 30; go_must (refine (iNewLevels_c n _).mono ?_; rintro e w6 ⟨rfl, hn6⟩; obtain ⟨hc6, hf6, hz6⟩ := hn6.rules; have hz6_0 : w1.heap.size < w6.heap.size := (by have h := hn6.size; first | omega | (simp at h; done) | (simp at h; omega)); have hz6_1 : w2.heap.size < w6.heap.size := (by have h := hn6.size; first | omega | (simp at h; done) | (simp at h; omega))))
  go_wp2_with (go_at_call 31; go_must (refine (eqLeveled_c (lvN n) _).mono ?_; rintro e w7 ⟨rfl, hn7⟩; obtain ⟨hc7, hf7, hz7⟩ := hn7.rules; have hz7_0 : w1.heap.size < w7.heap.size := (by have h := hn7.size; first | omega | (simp at h; done) | (simp at h; omega)); have hz7_1 : w2.heap.size < w7.heap.size := (by have h := hn7.size; first | omega | (simp at h; done) | (simp at h; omega)); have hz7_2 : w6.heap.size < w7.heap.size := (by have h := hn7.size; first | omega | (simp at h; done) | (simp at h; omega))))
  go_wp2_with (go_at_call 33; go_must (refine (heldLeveled_c (lvN n) _).mono ?_; rintro e w8 ⟨rfl, hn8⟩; obtain ⟨hc8, hf8, hz8⟩ := hn8.rules; have hz8_0 : w1.heap.size < w8.heap.size := (by have h := hn8.size; first | omega | (simp at h; done) | (simp at h; omega)); have hz8_1 : w2.heap.size < w8.heap.size := (by have h := hn8.size; first | omega | (simp at h; done) | (simp at h; omega)); have hz8_2 : w6.heap.size < w8.heap.size := (by have h := hn8.size; first | omega | (simp at h; done) | (simp at h; omega))))
  go_ret
  exact RetV.bool rfl (by repeat (first | exact Nx.refl _ | assumption | apply Nx.alloc | apply Nx.drew | apply Nx.drewN | (refine Nx.setCell ?_ (by first | (simp; done) | (simp; omega) | omega) _) | refine Nx.trans ?_ (by assumption)))
end Go.Proofs.Ytidkbpgceoaggaa
