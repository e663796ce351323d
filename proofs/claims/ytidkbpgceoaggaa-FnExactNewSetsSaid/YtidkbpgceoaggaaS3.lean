/- FnExactNewSets: the walk. -/
import Derived.Test.YtidkbpgceoaggaaS2
namespace Go.Proofs.Ytidkbpgceoaggaa
open Go.RowKit

theorem eqSets_n (A B C A' B' C' : Option Addr) (ca cb cc ca' cb' cc' n1 n2 n3 n1' n2' n3' : Nat) (xs ys xs' ys' : List Int) (zs zs' : List (Int × Int)) (w : World) (hA : IntsAt w A xs) (hB : IntsAt w B ys) (hC : EdgesAt w C zs) (hA' : IntsAt w A' xs') (hB' : IntsAt w B' ys') (hC' : EdgesAt w C' zs')
    (e1 : xs.length = n1) (e2 : ys.length = n2) (e3 : zs.length = n3) (e1' : xs'.length = n1') (e2' : ys'.length = n2') (e3' : zs'.length = n3')
    (h1 : n1 ≤ 1048576) (h2 : n2 ≤ 1048576) (h3 : n3 ≤ 1048576) (h1' : n1' ≤ 1048576) (h2' : n2' ≤ 1048576) (h3' : n3' ≤ 1048576) :
    Calls Try.prog 36 #[St A n1 ca B n2 cb C n3 cc, St A' n1' ca' B' n2' cb' C' n3' cc'] w (RetV (.bool (decide (xs = xs' ∧ ys = ys' ∧ zs = zs'))) w) := by
  subst e1 e2 e3 e1' e2' e3'
  exact eqSets_c A B C A' B' C' ca cb cc ca' cb' cc' xs ys xs' ys' zs zs' w hA hB hC hA' hB' hC' h1 h2 h3 h1' h2' h3'
theorem niE (w : World) : EdgesAt w none [] := fun h => by simp at h
theorem niI (w : World) : IntsAt w none [] := fun h => by simp at h

/-- the sets of n elements are the sets of n elements -/
theorem eqReps_c (A B A' B' : Option Addr) (ca cb ca' cb' n : Nat) (w : World) (hn : n ≤ 16) (hA : IntsAt w A (reps n (-1))) (hB : IntsAt w B (reps n 1)) (hA' : IntsAt w A' (reps n (-1))) (hB' : IntsAt w B' (reps n 1)) :
    Calls Try.prog 36 #[St A n ca B n cb none 0 0, St A' n ca' B' n cb' none 0 0] w (RetV (.bool true) w) := by
  have h := eqSets_n A B none A' B' none ca cb 0 ca' cb' 0 n n 0 n n 0 (reps n (-1)) (reps n 1) (reps n (-1)) (reps n 1) [] [] w hA hB (niE w) hA' hB' (niE w) (reps_length _ _) (reps_length _ _) rfl (reps_length _ _) (reps_length _ _) rfl (by omega) (by omega) (by omega) (by omega) (by omega) (by omega)
  simpa using h

set_option maxRecDepth 100000 in
set_option maxHeartbeats 2000000 in
theorem newSets_yes (n : Nat) (hn1 : 1 ≤ n) (hn : n ≤ 16) (w : World) : Calls Try.prog 10 #[V n] w (RetV (.bool true) w) := by
  go_enter Try.func10, Try.ntmps10
  go_wp2_with fail
  refine (sNewSets_c n hn1 hn _).mono ?_
  rintro e w1 ⟨A0, ca0, B0, cb0, rfl, hA0, hB0, _, hx1⟩
  obtain ⟨hc1, hf1, hz1⟩ := hx1.rules
  go_wp2_with fail
  refine (iNewSets_c n hn1 hn _).mono ?_
  rintro e w2 ⟨A1, ca1, B1, cb1, rfl, hA1, hB1, hAB1, hx2⟩
  obtain ⟨hc2, hf2, hz2⟩ := hx2.rules
  have hz21 : w1.heap.size < w2.heap.size := by have h := hx2.size; simp at h; omega
  have mA0 := hA0.mono (base' := w.heap.size) (Nat.le_refl _)
  have mA1 := hA1.mono (base' := w1.heap.size + 1) (by simp)
  have mB1 := hB1.mono (base' := w1.heap.size + 1) (by simp)
  have HAB1 := Lib.hid hAB1
  clear hAB1
  go_wp2_with fail
  refine (eqReps_c A1 B1 A0 B0 ca1 cb1 ca0 cb0 n _ hn ((hA1.nx (by repeat (first | exact Nx.refl _ | assumption | apply Nx.alloc | apply Nx.drew | apply Nx.drewN | (refine Nx.setCell ?_ (by first | (simp; done) | (simp; omega) | omega) _) | refine Nx.trans ?_ (by assumption)))).intsAt) ((hB1.nx (by repeat (first | exact Nx.refl _ | assumption | apply Nx.alloc | apply Nx.drew | apply Nx.drewN | (refine Nx.setCell ?_ (by first | (simp; done) | (simp; omega) | omega) _) | refine Nx.trans ?_ (by assumption)))).intsAt) ((hA0.nx (by repeat (first | exact Nx.refl _ | assumption | apply Nx.alloc | apply Nx.drew | apply Nx.drewN | (refine Nx.setCell ?_ (by first | (simp; done) | (simp; omega) | omega) _) | refine Nx.trans ?_ (by assumption)))).intsAt) ((hB0.nx (by repeat (first | exact Nx.refl _ | assumption | apply Nx.alloc | apply Nx.drew | apply Nx.drewN | (refine Nx.setCell ?_ (by first | (simp; done) | (simp; omega) | omega) _) | refine Nx.trans ?_ (by assumption)))).intsAt)).mono ?_
  rintro e w3 ⟨rfl, hx3⟩
  obtain ⟨hc3, hf3, hz3⟩ := hx3.rules
  have hz31 : w1.heap.size < w3.heap.size := by have h := hx3.size; simp at h; omega
  have hz32 : w2.heap.size < w3.heap.size := by have h := hx3.size; simp at h; omega
  go_wp2_with fail
  refine (markSets_c 3 3 107 _ _ 0 A1 B1 none n n 0 ca1 cb1 0 (reps n (-1)) (reps n 1) [] 1 _ (reps_length _ _) (reps_length _ _) rfl (mA1.nx (by repeat (first | exact Nx.refl _ | assumption | apply Nx.alloc | apply Nx.drew | apply Nx.drewN | (refine Nx.setCell ?_ (by first | (simp; done) | (simp; omega) | omega) _) | refine Nx.trans ?_ (by assumption)))) (mB1.nx (by repeat (first | exact Nx.refl _ | assumption | apply Nx.alloc | apply Nx.drew | apply Nx.drewN | (refine Nx.setCell ?_ (by first | (simp; done) | (simp; omega) | omega) _) | refine Nx.trans ?_ (by assumption)))) (OwnE.nil _ _ _) HAB1.out (Apart.symm (.inl rfl)) (Apart.symm (.inl rfl)) (by omega) (by omega) (by omega) (by omega) (by omega)).mono ?_
  rintro e w4 ⟨rfl, hA4, hB4, _, hg4⟩
  have lA1 := mA1.lt
  have lB1 := mB1.lt
  have lA0 := hA0.lt
  have lB0 := hB0.lt
  have hz4 := hg4.size
  have hn4 : Nx w w4 := GrowS.nx _ _ hg4 (fun r hr k hk => by simp at hr; rcases hr with rfl | rfl | rfl <;> first | (have := lA1 _ hk; omega) | (have := lB1 _ hk; omega) | (simp [blk] at hk)) (by repeat (first | exact Nx.refl _ | assumption | apply Nx.alloc | apply Nx.drew | apply Nx.drewN | (refine Nx.setCell ?_ (by first | (simp; done) | (simp; omega) | omega) _) | refine Nx.trans ?_ (by assumption)))
  have new1 : ∀ r ∈ [blk A1, blk B1, blk none], some w1.heap.size ≠ r := by
    intro r hr h
    simp at hr
    rcases hr with rfl | rfl | rfl
    · have := lA1 _ h.symm; omega
    · have := lB1 _ h.symm; omega
    · simp [blk] at h
  have new2 : ∀ r ∈ [blk A1, blk B1, blk none], some w2.heap.size ≠ r := by
    intro r hr h
    simp at hr
    rcases hr with rfl | rfl | rfl
    · have := lA1 _ h.symm; omega
    · have := lB1 _ h.symm; omega
    · simp [blk] at h
  have apA0 : ∀ r ∈ [blk A1, blk B1, blk none], blk A0 = none ∨ blk A0 ≠ r := by
    intro r hr
    simp at hr
    rcases hr with rfl | rfl | rfl
    · exact apart_of lA0 lA1 (by omega)
    · exact apart_of lA0 lB1 (by omega)
    · exact Apart.symm (.inl rfl)
  have apB0 : ∀ r ∈ [blk A1, blk B1, blk none], blk B0 = none ∨ blk B0 ≠ r := by
    intro r hr
    simp at hr
    rcases hr with rfl | rfl | rfl
    · exact apart_of lB0 lA1 (by omega)
    · exact apart_of lB0 lB1 (by omega)
    · exact Apart.symm (.inl rfl)
  have kw10 : w4.cell? ⟨w1.heap.size, 0, none⟩ = some (.slice A0 n ca0) := GrowS.cell _ _ hg4 (by go_simp) new1
  have kw11 : w4.cell? ⟨w1.heap.size, 1, none⟩ = some (.slice B0 n cb0) := GrowS.cell _ _ hg4 (by go_simp) new1
  have kw12 : w4.cell? ⟨w1.heap.size, 2, none⟩ = some (.slice none 0 0) := GrowS.cell _ _ hg4 (by go_simp) new1
  have kw20 : w4.cell? ⟨w2.heap.size, 0, none⟩ = some (.slice A1 n ca1) := GrowS.cell _ _ hg4 (by go_simp) new2
  have kw21 : w4.cell? ⟨w2.heap.size, 1, none⟩ = some (.slice B1 n cb1) := GrowS.cell _ _ hg4 (by go_simp) new2
  have kw22 : w4.cell? ⟨w2.heap.size, 2, none⟩ = some (.slice none 0 0) := GrowS.cell _ _ hg4 (by go_simp) new2
  have hA04 := OwnI.keptS _ _ (hA0.nx (by repeat (first | exact Nx.refl _ | assumption | apply Nx.alloc | apply Nx.drew | apply Nx.drewN | (refine Nx.setCell ?_ (by first | (simp; done) | (simp; omega) | omega) _) | refine Nx.trans ?_ (by assumption)))) hg4 apA0
  have hB04 := OwnI.keptS _ _ (hB0.nx (by repeat (first | exact Nx.refl _ | assumption | apply Nx.alloc | apply Nx.drew | apply Nx.drewN | (refine Nx.setCell ?_ (by first | (simp; done) | (simp; omega) | omega) _) | refine Nx.trans ?_ (by assumption)))) hg4 apB0
  have hz41 : w1.heap.size < w4.heap.size := by omega
  have hz42 : w2.heap.size < w4.heap.size := by omega
  have Hg4 := Lib.hid hg4
  clear hg4 new1 new2 apA0 apB0 lA1 lB1 lA0 lB0 mA0 mA1 mB1 hx1 hx2 hx3 hA1 hB1 hA0 hB0 hc1 hc2 hc3 hf1 hf2 hf3
  go_wp2_with fail
  refine (heldSets_c A1 B1 none n n 0 ca1 cb1 0 1 _ ((hA4.nx (by repeat (first | exact Nx.refl _ | assumption | apply Nx.alloc | apply Nx.drew | apply Nx.drewN | (refine Nx.setCell ?_ (by first | (simp; done) | (simp; omega) | omega) _) | refine Nx.trans ?_ (by assumption)))).intsAt) ((hB4.nx (by repeat (first | exact Nx.refl _ | assumption | apply Nx.alloc | apply Nx.drew | apply Nx.drewN | (refine Nx.setCell ?_ (by first | (simp; done) | (simp; omega) | omega) _) | refine Nx.trans ?_ (by assumption)))).intsAt) (niE _) (by omega) (by omega) (by omega) (by omega) (by omega)).mono ?_
  rintro e w5 ⟨rfl, hx5⟩
  obtain ⟨hc5, hf5, hz5⟩ := hx5.rules
  go_wp2_with fail
  refine (iNewSets_c n hn1 hn _).mono ?_
  rintro e w6 ⟨A2, ca2, B2, cb2, rfl, hA2, hB2, _, hx6⟩
  obtain ⟨hc6, hf6, hz6⟩ := hx6.rules
  have hz51 : w1.heap.size < w5.heap.size := by omega
  have hz52 : w2.heap.size < w5.heap.size := by omega
  have hz61 : w1.heap.size < w6.heap.size := by omega
  have hz62 : w2.heap.size < w6.heap.size := by omega
  go_wp2_with fail
  refine (eqReps_c A2 B2 A0 B0 ca2 cb2 ca0 cb0 n _ hn ((hA2.nx (by repeat (first | exact Nx.refl _ | assumption | apply Nx.alloc | apply Nx.drew | apply Nx.drewN | (refine Nx.setCell ?_ (by first | (simp; done) | (simp; omega) | omega) _) | refine Nx.trans ?_ (by assumption)))).intsAt) ((hB2.nx (by repeat (first | exact Nx.refl _ | assumption | apply Nx.alloc | apply Nx.drew | apply Nx.drewN | (refine Nx.setCell ?_ (by first | (simp; done) | (simp; omega) | omega) _) | refine Nx.trans ?_ (by assumption)))).intsAt) ((hA04.nx (by repeat (first | exact Nx.refl _ | assumption | apply Nx.alloc | apply Nx.drew | apply Nx.drewN | (refine Nx.setCell ?_ (by first | (simp; done) | (simp; omega) | omega) _) | refine Nx.trans ?_ (by assumption)))).intsAt) ((hB04.nx (by repeat (first | exact Nx.refl _ | assumption | apply Nx.alloc | apply Nx.drew | apply Nx.drewN | (refine Nx.setCell ?_ (by first | (simp; done) | (simp; omega) | omega) _) | refine Nx.trans ?_ (by assumption)))).intsAt)).mono ?_
  rintro e w7 ⟨rfl, hx7⟩
  obtain ⟨hc7, hf7, hz7⟩ := hx7.rules
  have hz71 : w1.heap.size < w7.heap.size := by have h := hx7.size; simp at h; omega
  have hz72 : w2.heap.size < w7.heap.size := by have h := hx7.size; simp at h; omega
  go_wp2_with fail
  refine (heldSets_c A1 B1 none n n 0 ca1 cb1 0 1 _ ((hA4.nx (by repeat (first | exact Nx.refl _ | assumption | apply Nx.alloc | apply Nx.drew | apply Nx.drewN | (refine Nx.setCell ?_ (by first | (simp; done) | (simp; omega) | omega) _) | refine Nx.trans ?_ (by assumption)))).intsAt) ((hB4.nx (by repeat (first | exact Nx.refl _ | assumption | apply Nx.alloc | apply Nx.drew | apply Nx.drewN | (refine Nx.setCell ?_ (by first | (simp; done) | (simp; omega) | omega) _) | refine Nx.trans ?_ (by assumption)))).intsAt) (niE _) (by omega) (by omega) (by omega) (by omega) (by omega)).mono ?_
  rintro e w8 ⟨rfl, hx8⟩
  go_wp2
  go_ret
  exact RetV.bool rfl (by repeat (first | exact Nx.refl _ | assumption | apply Nx.alloc | apply Nx.drew | apply Nx.drewN | (refine Nx.setCell ?_ (by first | (simp; done) | (simp; omega) | omega) _) | refine Nx.trans ?_ (by assumption)))

set_option maxRecDepth 100000 in
set_option maxHeartbeats 2000000 in
theorem newSets_no (n : Int) (hn : ¬ (1 ≤ n ∧ n ≤ 16)) (w : World) : Calls Try.prog 10 #[V n] w (RetV (.bool true) w) := by
  have hm (k : Int) (hk0 : 0 ≤ k) (hk1 : k ≤ 1073741824) (w : World) : Calls Try.prog 37 #[St none 0 0 none 0 0 none 0 0, V k] w (RetV (V k) w) := by
    refine (markSets_c 3 3 107 0 0 0 none none none 0 0 0 0 0 0 [] [] [] k w rfl rfl rfl (OwnI.nil _ _ _) (OwnI.nil _ _ _) (OwnE.nil _ _ _) (.inl rfl) (.inl rfl) (.inl rfl) (by omega) (by omega) (by omega) hk0 hk1).mono ?_
    rintro e w1 ⟨rfl, _, _, _, hg⟩
    exact RetV.int (by simp) (GrowS.nx _ _ hg (fun r hr k hk => by simp [blk] at hr; subst hr; simp at hk) (Nx.refl _))
  have hh (k : Int) (hk0 : 0 ≤ k) (hk1 : k ≤ 1073741824) (w : World) : Calls Try.prog 38 #[St none 0 0 none 0 0 none 0 0, V k] w (RetV (V k) w) := by
    refine (heldSets_c none none none 0 0 0 0 0 0 k w (niI _) (niI _) (niE _) (by omega) (by omega) (by omega) hk0 hk1).mono ?_
    rintro e w1 ⟨rfl, hn1⟩
    exact RetV.int (by simp) hn1
  have he (w : World) : Calls Try.prog 36 #[St none 0 0 none 0 0 none 0 0, St none 0 0 none 0 0 none 0 0] w (RetV (.bool true) w) := by
    have h := eqSets_n none none none none none none 0 0 0 0 0 0 0 0 0 0 0 0 [] [] [] [] [] [] w (niI _) (niI _) (niE _) (niI _) (niI _) (niE _) rfl rfl rfl rfl rfl rfl (by omega) (by omega) (by omega) (by omega) (by omega) (by omega)
    simpa using h
  have Hm := Lib.hid hm
  have Hh := Lib.hid hh
  have He := Lib.hid he
  clear hm hh he
  go_enter Try.func10, Try.ntmps10
  go_wp2_with (go_at_call 34; go_must (refine (sNewSets_no n hn _).mono ?_; rintro e w1 ⟨rfl, hn1⟩; obtain ⟨hc1, hf1, hz1⟩ := hn1.rules))
  go_wp2_with (go_at_call 35; go_must (refine (iNewSets_no n hn _).mono ?_; rintro e w2 ⟨rfl, hn2⟩; obtain ⟨hc2, hf2, hz2⟩ := hn2.rules; have hz2_0 : w1.heap.size < w2.heap.size := (by have h := hn2.size; first | omega | (simp at h; done) | (simp at h; omega))))
  go_wp2_with (go_at_call 36; go_must (refine (He.out _).mono ?_; rintro e w3 ⟨rfl, hn3⟩; obtain ⟨hc3, hf3, hz3⟩ := hn3.rules; have hz3_0 : w1.heap.size < w3.heap.size := (by have h := hn3.size; first | omega | (simp at h; done) | (simp at h; omega)); have hz3_1 : w2.heap.size < w3.heap.size := (by have h := hn3.size; first | omega | (simp at h; done) | (simp at h; omega))))
  go_wp2_with (go_at_call 37; go_must (refine (Hm.out 1 (by omega) (by omega) _).mono ?_; rintro e w4 ⟨rfl, hn4⟩; obtain ⟨hc4, hf4, hz4⟩ := hn4.rules; have hz4_0 : w1.heap.size < w4.heap.size := (by have h := hn4.size; first | omega | (simp at h; done) | (simp at h; omega)); have hz4_1 : w2.heap.size < w4.heap.size := (by have h := hn4.size; first | omega | (simp at h; done) | (simp at h; omega))))
  go_wp2_with (go_at_call 38; go_must (refine (Hh.out 1 (by omega) (by omega) _).mono ?_; rintro e w5 ⟨rfl, hn5⟩; obtain ⟨hc5, hf5, hz5⟩ := hn5.rules; have hz5_0 : w1.heap.size < w5.heap.size := (by have h := hn5.size; first | omega | (simp at h; done) | (simp at h; omega)); have hz5_1 : w2.heap.size < w5.heap.size := (by have h := hn5.size; first | omega | (simp at h; done) | (simp at h; omega))))
  go_wp2_with (go_at_call 35; go_must (refine (iNewSets_no n hn _).mono ?_; rintro e w6 ⟨rfl, hn6⟩; obtain ⟨hc6, hf6, hz6⟩ := hn6.rules; have hz6_0 : w1.heap.size < w6.heap.size := (by have h := hn6.size; first | omega | (simp at h; done) | (simp at h; omega)); have hz6_1 : w2.heap.size < w6.heap.size := (by have h := hn6.size; first | omega | (simp at h; done) | (simp at h; omega))))
  go_wp2_with (go_at_call 36; go_must (refine (He.out _).mono ?_; rintro e w7 ⟨rfl, hn7⟩; obtain ⟨hc7, hf7, hz7⟩ := hn7.rules; have hz7_0 : w1.heap.size < w7.heap.size := (by have h := hn7.size; first | omega | (simp at h; done) | (simp at h; omega)); have hz7_1 : w2.heap.size < w7.heap.size := (by have h := hn7.size; first | omega | (simp at h; done) | (simp at h; omega)); have hz7_2 : w6.heap.size < w7.heap.size := (by have h := hn7.size; first | omega | (simp at h; done) | (simp at h; omega))))
  go_wp2_with (go_at_call 38; go_must (refine (Hh.out 1 (by omega) (by omega) _).mono ?_; rintro e w8 ⟨rfl, hn8⟩; obtain ⟨hc8, hf8, hz8⟩ := hn8.rules; have hz8_0 : w1.heap.size < w8.heap.size := (by have h := hn8.size; first | omega | (simp at h; done) | (simp at h; omega)); have hz8_1 : w2.heap.size < w8.heap.size := (by have h := hn8.size; first | omega | (simp at h; done) | (simp at h; omega)); have hz8_2 : w6.heap.size < w8.heap.size := (by have h := hn8.size; first | omega | (simp at h; done) | (simp at h; omega))))
  go_ret
  exact RetV.bool rfl (by repeat (first | exact Nx.refl _ | assumption | apply Nx.alloc | apply Nx.drew | apply Nx.drewN | (refine Nx.setCell ?_ (by first | (simp; done) | (simp; omega) | omega) _) | refine Nx.trans ?_ (by assumption)))

theorem fnExactNewSets_walk (w : World) (n : Int) (_ : Fits n) : Calls Try.prog 10 #[V n] w (RetV (.bool true) w) := by
  by_cases h : 1 ≤ n ∧ n ≤ 16
  · obtain ⟨k, rfl⟩ := Int.eq_ofNat_of_zero_le (a := n) (by omega)
    exact newSets_yes k (by omega) (by omega) w
  · exact newSets_no n h w
end Go.Proofs.Ytidkbpgceoaggaa
