/- FnNewLevels: the walk. -/
import Derived.Test.YtjchabeiaajgiaaLV5
import Derived.Deep.RegionHeld3
namespace Go.Proofs.Ytjchabeiaajgiaa
open Go.RowKit set_option linter.unusedVariables false set_option linter.unusedSimpArgs false

set_option maxRecDepth 100000 in
set_option maxHeartbeats 8000000 in
theorem fnNewLevels_walk (w : World) (A : Option Addr) (n c : Nat) (hnc : n ≤ c) (hb : BytesAt w w.heap.size A n) :
    Calls Try.prog 3 #[.slice A n c] w (RetV (.bool true) w) := by
  by_cases hbig : (n : Int) > 1048576
  · go_enter Try.func3, Try.ntmps3
    go_wp2
    go_ret
    exact RetV.bool rfl (by repeat (first | exact Nx.refl _ | assumption | apply Nx.alloc | apply Nx.drew | apply Nx.drewN | (refine Nx.setCell ?_ (by first | (simp; done) | (simp; omega) | omega) _) | refine Nx.trans ?_ (by assumption)))
  · go_enter Try.func3, Try.ntmps3
    go_wp2_with fail
    refine (drawNewLevels_c A n c _ hnc hb).mono ?_
    rintro e w1 ⟨k, rfl, N⟩
    clear hb
    have hiN := fun w => iNewLevels_c k w
    have hsN := fun w => sNewLevels_c k w
    by_cases hk : 1 ≤ k ∧ k ≤ 16
    · rw [lv_yes hk] at hiN hsN
      obtain ⟨k1, k2⟩ := hk
      obtain ⟨m, rfl⟩ := Int.eq_ofNat_of_zero_le (show 0 ≤ k by omega)
      have HiN := Lib.hid hiN
      have HsN := Lib.hid hsN
      have hnE : ∀ q, EdgesAt q none [] := fun q h => by simp at h
      have hnI : ∀ q, IntsAt q none (List.replicate ([] : Es).length 0) := fun q h => by simp at h
      have hnB : ∀ q, TrueAt q none ([] : Es).length := fun q h => by simp at h
      have Hlv := Lib.hid (fun w' => (show Calls Try.prog 13 #[Lv m] w' (RetV (.bool true) w') from levelsValid_c m [] (valid_nil (by omega) (by omega)) (by simp) none none none 0 0 0 w' (hnE _) (hnI _) (hnB _)))
      clear hiN hsN hnE hnI hnB
      go_wp2_with fail
      refine (HiN.out _).mono ?_
      rintro e w2 ⟨rfl, hn2⟩
      replace N := N.trans hn2
      go_wp2_with fail
      generalize hW3 : World.alloc _ _ = W3
      have gW3 : Nx w2 W3 := by subst hW3; exact (by repeat (first | exact Nx.refl _ | assumption | apply Nx.alloc | apply Nx.drew | apply Nx.drewN | (refine Nx.setCell ?_ (by first | (simp; done) | (simp; omega) | omega) _) | refine Nx.trans ?_ (by assumption)))
      have sW3 : W3.heap.size = w2.heap.size + 1 := by subst hW3; simp
      have L : Bx W3 (w2.heap.size) 30 [V (m : Nat), .slice none 0 0, .slice none 0 0, .slice none 0 0] := by subst hW3; have h := Bx.alloc w2 30 [V (m : Nat), .slice none 0 0, .slice none 0 0, .slice none 0 0]; simpa using h
      have L_0 := L.cell (j := 0) rfl
      have L_1 := L.cell (j := 1) rfl
      have L_2 := L.cell (j := 2) rfl
      have L_3 := L.cell (j := 3) rfl
      have L_z := L.lt
      have HsW3 := Lib.hid sW3
      have lW3 : w2.heap.size + 1 ≤ W3.heap.size := by omega
      clear hW3 sW3
      replace N := N.trans gW3
      refine (HsN.out _).mono ?_
      rintro e w4 ⟨rfl, hn4⟩
      replace L := L.nx hn4
      replace L_0 := L.cell (j := 0) rfl
      replace L_1 := L.cell (j := 1) rfl
      replace L_2 := L.cell (j := 2) rfl
      replace L_3 := L.cell (j := 3) rfl
      replace L_z := L.lt
      replace N := N.trans hn4
      go_wp2_with fail
      generalize hW5 : World.alloc _ _ = W5
      have gW5 : Nx w4 W5 := by subst hW5; exact (by repeat (first | exact Nx.refl _ | assumption | apply Nx.alloc | apply Nx.drew | apply Nx.drewN | (refine Nx.setCell ?_ (by first | (simp; done) | (simp; omega) | omega) _) | refine Nx.trans ?_ (by assumption)))
      have sW5 : W5.heap.size = w4.heap.size + 1 := by subst hW5; simp
      have Y : Bx W5 (w4.heap.size) 30 [V (m : Nat), .slice none 0 0, .slice none 0 0, .slice none 0 0] := by subst hW5; have h := Bx.alloc w4 30 [V (m : Nat), .slice none 0 0, .slice none 0 0, .slice none 0 0]; simpa using h
      have Y_0 := Y.cell (j := 0) rfl
      have Y_1 := Y.cell (j := 1) rfl
      have Y_2 := Y.cell (j := 2) rfl
      have Y_3 := Y.cell (j := 3) rfl
      have Y_z := Y.lt
      have HsW5 := Lib.hid sW5
      have lW5 : w4.heap.size + 1 ≤ W5.heap.size := by omega
      clear hW5 sW5
      replace L := L.nx gW5
      replace L_0 := L.cell (j := 0) rfl
      replace L_1 := L.cell (j := 1) rfl
      replace L_2 := L.cell (j := 2) rfl
      replace L_3 := L.cell (j := 3) rfl
      replace L_z := L.lt
      replace N := N.trans gW5
      refine (dyLeveled_c m _).mono ?_
      rintro e w6 ⟨rfl, hn6⟩
      replace L := L.nx hn6
      replace L_0 := L.cell (j := 0) rfl
      replace L_1 := L.cell (j := 1) rfl
      replace L_2 := L.cell (j := 2) rfl
      replace L_3 := L.cell (j := 3) rfl
      replace L_z := L.lt
      replace N := N.trans hn6
      clear Y Y_0 Y_1 Y_2 Y_3 Y_z
      by_cases hm2 : m < 2
      · have hd : decide ((m : Int) < 2) = true := by simp; omega
        go_wp2_with fail
        refine (Hlv.out _).mono ?_
        rintro e w7 ⟨rfl, hn7⟩
        replace N := N.trans hn7
        go_wp2
        go_ret
        exact RetV.bool rfl N
      · have hd : decide ((m : Int) < 2) = false := by simp; omega
        obtain ⟨b, hbm⟩ : ∃ b : Nat, m = b + 1 := ⟨m - 1, by omega⟩
        have hw1 : IntKind.i64.wrap ((m : Int) - 1) = (b : Int) := by rw [IntWalk.i64_in _ (by omega)]; omega
        have Heof := Lib.hid (fun w' => (show Calls Try.prog 14 #[V 0, V b] w' (RetV (.tuple #[Ed 0 b, .bool true]) w') by
          have := iEof_l (x := 0) (y := (b : Int)) ⟨by omega, by omega, by omega, by omega, by omega⟩ w'
          rwa [Int.min_eq_left (by omega), Int.max_eq_right (by omega)] at this))
        have Hput := Lib.hid (fun w' => (show Calls Try.prog 15 #[Lv m, Ed 0 b] w' _ from putLevel_c m 0 b (by omega) (by omega) (by omega) w'))
        have hv1 : Valid m [((0 : Int), (b : Int))] := putP_one (a := 0) (b := b) (by omega) (by omega) (by omega)
        have Hlf := Lib.hid (fun G gc A1 c1 A2 c2 w' (hG : EdgesAt w' G [((0 : Int), (b : Int))]) (hI : IntsAt w' A1 [0]) (hB : TrueAt w' A2 1) => levelForest_c m [((0 : Int), (b : Int))] hv1 (by simp) G A1 A2 gc c1 c2 w' hG hI hB)
        simp only [List.length_cons, List.length_nil, Nat.zero_add] at Hlf
        clear hv1 hbm
        go_wp2_with fail
        refine (Heof.out _).mono ?_
        rintro e w7 ⟨rfl, hn7⟩
        replace L := L.nx hn7
        replace L_0 := L.cell (j := 0) rfl
        replace L_1 := L.cell (j := 1) rfl
        replace L_2 := L.cell (j := 2) rfl
        replace L_3 := L.cell (j := 3) rfl
        replace L_z := L.lt
        replace N := N.trans hn7
        go_wp2_with fail
        generalize hW8 : World.alloc _ _ = W8
        have gW8 : Nx w7 W8 := by subst hW8; exact (by repeat (first | exact Nx.refl _ | assumption | apply Nx.alloc | apply Nx.drew | apply Nx.drewN | (refine Nx.setCell ?_ (by first | (simp; done) | (simp; omega) | omega) _) | refine Nx.trans ?_ (by assumption)))
        have sW8 : W8.heap.size = w7.heap.size + 1 := by subst hW8; simp
        have E : Bx W8 (w7.heap.size) 36 [V 0, V (b : Nat)] := by subst hW8; have h := Bx.alloc w7 36 [V 0, V (b : Nat)]; simpa using h
        have E_0 := E.cell (j := 0) rfl
        have E_1 := E.cell (j := 1) rfl
        have E_z := E.lt
        have HsW8 := Lib.hid sW8
        have lW8 : w7.heap.size + 1 ≤ W8.heap.size := by omega
        clear hW8 sW8
        replace L := L.nx gW8
        replace L_0 := L.cell (j := 0) rfl
        replace L_1 := L.cell (j := 1) rfl
        replace L_2 := L.cell (j := 2) rfl
        replace L_3 := L.cell (j := 3) rfl
        replace L_z := L.lt
        replace N := N.trans gW8
        refine (Hput.out _).mono ?_
        rintro e w9 ⟨G, gc, A1, c1, A2, c2, rfl, hG, hI, hB, hn9⟩
        replace L := L.nx hn9
        replace L_0 := L.cell (j := 0) rfl
        replace L_1 := L.cell (j := 1) rfl
        replace L_2 := L.cell (j := 2) rfl
        replace L_3 := L.cell (j := 3) rfl
        replace L_z := L.lt
        replace E := E.nx hn9
        replace E_0 := E.cell (j := 0) rfl
        replace E_1 := E.cell (j := 1) rfl
        replace E_z := E.lt
        replace N := N.trans hn9
        go_wp2_with fail
        generalize hW10 : World.alloc _ _ = W10
        have gW10 : Nx w9 W10 := by subst hW10; exact (by repeat (first | exact Nx.refl _ | assumption | apply Nx.alloc | apply Nx.drew | apply Nx.drewN | (refine Nx.setCell ?_ (by first | (simp; done) | (simp; omega) | omega) _) | refine Nx.trans ?_ (by assumption)))
        have sW10 : W10.heap.size = w9.heap.size + 1 := by subst hW10; simp
        have X : Bx W10 (w9.heap.size) 30 [V (m : Nat), .slice G 1 gc, .slice A1 1 c1, .slice A2 1 c2] := by subst hW10; have h := Bx.alloc w9 30 [V (m : Nat), .slice G 1 gc, .slice A1 1 c1, .slice A2 1 c2]; simpa using h
        have X_0 := X.cell (j := 0) rfl
        have X_1 := X.cell (j := 1) rfl
        have X_2 := X.cell (j := 2) rfl
        have X_3 := X.cell (j := 3) rfl
        have X_z := X.lt
        have HsW10 := Lib.hid sW10
        have lW10 : w9.heap.size + 1 ≤ W10.heap.size := by omega
        clear hW10 sW10
        replace L := L.nx gW10
        replace L_0 := L.cell (j := 0) rfl
        replace L_1 := L.cell (j := 1) rfl
        replace L_2 := L.cell (j := 2) rfl
        replace L_3 := L.cell (j := 3) rfl
        replace L_z := L.lt
        replace E := E.nx gW10
        replace E_0 := E.cell (j := 0) rfl
        replace E_1 := E.cell (j := 1) rfl
        replace E_z := E.lt
        replace N := N.trans gW10
        refine (Hlf.out G gc A1 c1 A2 c2 _ (hG.nx gW10) (hI.nx gW10) (hB.nx gW10)).mono ?_
        rintro e w11 ⟨D, d, rfl, hoD, hn11⟩
        replace L := L.nx hn11
        replace L_0 := L.cell (j := 0) rfl
        replace L_1 := L.cell (j := 1) rfl
        replace L_2 := L.cell (j := 2) rfl
        replace L_3 := L.cell (j := 3) rfl
        replace L_z := L.lt
        replace E := E.nx hn11
        replace E_0 := E.cell (j := 0) rfl
        replace E_1 := E.cell (j := 1) rfl
        replace E_z := E.lt
        replace X := X.nx hn11
        replace X_0 := X.cell (j := 0) rfl
        replace X_1 := X.cell (j := 1) rfl
        replace X_2 := X.cell (j := 2) rfl
        replace X_3 := X.cell (j := 3) rfl
        replace X_z := X.lt
        replace N := N.trans hn11
        obtain ⟨bD, oD, rfl, zD, rD, rD1⟩ := hoD.edgesAt.rd (j := 0) (v := ((0 : Int), (b : Int))) rfl
        simp only [Nat.zero_mul, Nat.add_zero] at rD rD1
        clear hG hI hB hoD
        go_wp2_with fail
        have kp : ∀ w', Nx w11 w' → (fun w_ => Nx w11 w_ ∧ w_.cell? ⟨w2.heap.size, 0, none⟩ = some (V (m : Nat)) ∧ w_.cell? ⟨w2.heap.size, 1, none⟩ = some (.slice none 0 0) ∧ w_.cell? ⟨w2.heap.size, 2, none⟩ = some (.slice none 0 0) ∧ w_.cell? ⟨w2.heap.size, 3, none⟩ = some (.slice none 0 0) ∧ w_.cell? ⟨w7.heap.size, 0, none⟩ = some (V 0) ∧ w_.cell? ⟨w7.heap.size, 1, none⟩ = some (V (b : Nat)) ∧ w_.cell? ⟨w9.heap.size, 2, none⟩ = some (.slice A1 1 c1) ∧ w_.cell? ⟨bD, oD, none⟩ = some (V 0) ∧ w_.cell? ⟨bD, oD + 1, none⟩ = some (V (b : Nat))) w' := fun w' h => ⟨h, h.cell L_z L_0, h.cell L_z L_1, h.cell L_z L_2, h.cell L_z L_3, h.cell E_z E_0, h.cell E_z E_1, h.cell X_z X_2, h.cell zD rD, h.cell zD rD1⟩
        have hdr : Nx w11 w11.drew := .drew (.refl _)
        refine wp_region_held_drew (S := fun w_ => Nx w11 w_ ∧ w_.cell? ⟨w2.heap.size, 0, none⟩ = some (V (m : Nat)) ∧ w_.cell? ⟨w2.heap.size, 1, none⟩ = some (.slice none 0 0) ∧ w_.cell? ⟨w2.heap.size, 2, none⟩ = some (.slice none 0 0) ∧ w_.cell? ⟨w2.heap.size, 3, none⟩ = some (.slice none 0 0) ∧ w_.cell? ⟨w7.heap.size, 0, none⟩ = some (V 0) ∧ w_.cell? ⟨w7.heap.size, 1, none⟩ = some (V (b : Nat)) ∧ w_.cell? ⟨w9.heap.size, 2, none⟩ = some (.slice A1 1 c1) ∧ w_.cell? ⟨bD, oD, none⟩ = some (V 0) ∧ w_.cell? ⟨bD, oD + 1, none⟩ = some (V (b : Nat))) (by kernel_rfl) (kp _ hdr) (fun hHeld => ?_)
        refine wpAnyH_take (i := 0) (oi := ?oir1_0) (v := ?vr1_0) ?hir1_0 (by kernel_rfl) (by kernel_rfl) (by kernel_rfl) ?hQr1_0 (Or.inl ⟨?hwr1_0, ?hyr1_0⟩) (by assumption) ?restr1_0
        case hir1_0 => (simp only [List.getElem?_toArray, List.getElem?_cons_succ, List.getElem?_cons_zero]; rfl)
        case hwr1_0 => rfl
        case hyr1_0 => (intro w hSw; (try dsimp only at hSw); go_simp; (try with_reducible rfl))
        case hQr1_0 => exact fun _ _ _ h => h
        (try simp only [Act.put, List.setIfInBounds_toArray, List.set_cons_zero, List.set_cons_succ])
        refine wpAnyH_ready (rs := [1]) (by kernel_rfl) (by simp) ?_
        refine AllReadyH.cons rfl (fun K hK => ?_) AllReadyH.nil
        go_simp
        refine (Hlv.out _).mono ?_
        rintro e w12 ⟨rfl, hn12d⟩
        have hn12 : Nx w11 w12 := hdr.trans hn12d
        refine hK.out _ _ (kp _ hn12) (fun hHeld => ?_)
        clear hK K
        (try simp only [Act.put, List.setIfInBounds_toArray, List.set_cons_zero, List.set_cons_succ])
        refine wpAnyH_take (i := 2) (oi := ?oir1_2) (v := ?vr1_2) ?hir1_2 (by kernel_rfl) (by kernel_rfl) (by kernel_rfl) ?hQr1_2 (Or.inl ⟨?hwr1_2, ?hyr1_2⟩) (by assumption) ?restr1_2
        case hir1_2 => (simp only [List.getElem?_toArray, List.getElem?_cons_succ, List.getElem?_cons_zero]; rfl)
        case hwr1_2 => rfl
        case hyr1_2 => (intro w hSw; (try dsimp only at hSw); go_simp; (try with_reducible rfl))
        case hQr1_2 => exact fun _ _ _ h => h
        (try simp only [Act.put, List.setIfInBounds_toArray, List.set_cons_zero, List.set_cons_succ])
        refine wpAnyH_take (i := 3) (oi := ?oir1_3) (v := ?vr1_3) ?hir1_3 (by kernel_rfl) (by kernel_rfl) (by kernel_rfl) ?hQr1_3 (Or.inl ⟨?hwr1_3, ?hyr1_3⟩) (by assumption) ?restr1_3
        case hir1_3 => (simp only [List.getElem?_toArray, List.getElem?_cons_succ, List.getElem?_cons_zero]; rfl)
        case hwr1_3 => rfl
        case hyr1_3 => (intro w hSw; (try dsimp only at hSw); go_simp; (try with_reducible rfl))
        case hQr1_3 => exact fun _ _ _ h => h
        (try simp only [Act.put, List.setIfInBounds_toArray, List.set_cons_zero, List.set_cons_succ])
        refine wpAnyH_take (i := 4) (oi := ?oir1_4) (v := ?vr1_4) ?hir1_4 (by kernel_rfl) (by kernel_rfl) (by kernel_rfl) ?hQr1_4 (Or.inl ⟨?hwr1_4, ?hyr1_4⟩) (by assumption) ?restr1_4
        case hir1_4 => (simp only [List.getElem?_toArray, List.getElem?_cons_succ, List.getElem?_cons_zero]; rfl)
        case hwr1_4 => rfl
        case hyr1_4 => (intro w hSw; (try dsimp only at hSw); go_simp; (try with_reducible rfl))
        case hQr1_4 => exact fun _ _ _ h => h
        (try simp only [Act.put, List.setIfInBounds_toArray, List.set_cons_zero, List.set_cons_succ])
        refine wpAnyH_take (i := 5) (oi := ?oir1_5) (v := ?vr1_5) ?hir1_5 (by kernel_rfl) (by kernel_rfl) (by kernel_rfl) ?hQr1_5 (Or.inl ⟨?hwr1_5, ?hyr1_5⟩) (by assumption) ?restr1_5
        case hir1_5 => (simp only [List.getElem?_toArray, List.getElem?_cons_succ, List.getElem?_cons_zero]; rfl)
        case hwr1_5 => rfl
        case hyr1_5 => (intro w hSw; (try dsimp only at hSw); go_simp; (try with_reducible rfl))
        case hQr1_5 => exact fun _ _ _ h => h
        (try simp only [Act.put, List.setIfInBounds_toArray, List.set_cons_zero, List.set_cons_succ])
        refine wpAnyH_take (i := 6) (oi := ?oir1_6) (v := ?vr1_6) ?hir1_6 (by kernel_rfl) (by kernel_rfl) (by kernel_rfl) ?hQr1_6 (Or.inl ⟨?hwr1_6, ?hyr1_6⟩) (by assumption) ?restr1_6
        case hir1_6 => (simp only [List.getElem?_toArray, List.getElem?_cons_succ, List.getElem?_cons_zero]; rfl)
        case hwr1_6 => rfl
        case hyr1_6 => (intro w hSw; (try dsimp only at hSw); go_simp; (try with_reducible rfl))
        case hQr1_6 => exact fun _ _ _ h => h
        (try simp only [Act.put, List.setIfInBounds_toArray, List.set_cons_zero, List.set_cons_succ])
        refine wpAnyH_take (i := 7) (oi := ?oir1_7) (v := ?vr1_7) ?hir1_7 (by kernel_rfl) (by kernel_rfl) (by kernel_rfl) ?hQr1_7 (Or.inl ⟨?hwr1_7, ?hyr1_7⟩) (by assumption) ?restr1_7
        case hir1_7 => (simp only [List.getElem?_toArray, List.getElem?_cons_succ, List.getElem?_cons_zero]; rfl)
        case hwr1_7 => rfl
        case hyr1_7 => (intro w hSw; (try dsimp only at hSw); go_simp; (try with_reducible rfl))
        case hQr1_7 => exact fun _ _ _ h => h
        (try simp only [Act.put, List.setIfInBounds_toArray, List.set_cons_zero, List.set_cons_succ])
        refine wpAnyH_take (i := 8) (oi := ?oir1_8) (v := ?vr1_8) ?hir1_8 (by kernel_rfl) (by kernel_rfl) (by kernel_rfl) ?hQr1_8 (Or.inl ⟨?hwr1_8, ?hyr1_8⟩) (by assumption) ?restr1_8
        case hir1_8 => (simp only [List.getElem?_toArray, List.getElem?_cons_succ, List.getElem?_cons_zero]; rfl)
        case hwr1_8 => rfl
        case hyr1_8 => (intro w hSw; (try dsimp only at hSw); go_simp; (try with_reducible rfl))
        case hQr1_8 => exact fun _ _ _ h => h
        (try simp only [Act.put, List.setIfInBounds_toArray, List.set_cons_zero, List.set_cons_succ])
        refine wpAnyH_take (i := 9) (oi := ?oir1_9) (v := ?vr1_9) ?hir1_9 (by kernel_rfl) (by kernel_rfl) (by kernel_rfl) ?hQr1_9 (Or.inl ⟨?hwr1_9, ?hyr1_9⟩) (by assumption) ?restr1_9
        case hir1_9 => (simp only [List.getElem?_toArray, List.getElem?_cons_succ, List.getElem?_cons_zero]; rfl)
        case hwr1_9 => rfl
        case hyr1_9 => (intro w hSw; (try dsimp only at hSw); go_simp; (try with_reducible rfl))
        case hQr1_9 => exact fun _ _ _ h => h
        (try simp only [Act.put, List.setIfInBounds_toArray, List.set_cons_zero, List.set_cons_succ])
        refine wpAnyH_take (i := 10) (oi := ?oir1_10) (v := ?vr1_10) ?hir1_10 (by kernel_rfl) (by kernel_rfl) (by kernel_rfl) ?hQr1_10 (Or.inl ⟨?hwr1_10, ?hyr1_10⟩) (by assumption) ?restr1_10
        case hir1_10 => (simp only [List.getElem?_toArray, List.getElem?_cons_succ, List.getElem?_cons_zero]; rfl)
        case hwr1_10 => rfl
        case hyr1_10 => (intro w hSw; (try dsimp only at hSw); go_simp; (try with_reducible rfl))
        case hQr1_10 => exact fun _ _ _ h => h
        (try simp only [Act.put, List.setIfInBounds_toArray, List.set_cons_zero, List.set_cons_succ])
        refine wpAnyH_take (i := 11) (oi := ?oir1_11) (v := ?vr1_11) ?hir1_11 (by kernel_rfl) (by kernel_rfl) (by kernel_rfl) ?hQr1_11 (Or.inl ⟨?hwr1_11, ?hyr1_11⟩) (by assumption) ?restr1_11
        case hir1_11 => (simp only [List.getElem?_toArray, List.getElem?_cons_succ, List.getElem?_cons_zero]; rfl)
        case hwr1_11 => rfl
        case hyr1_11 => (intro w hSw; (try dsimp only at hSw); go_simp; (try with_reducible rfl))
        case hQr1_11 => exact fun _ _ _ h => h
        (try simp only [Act.put, List.setIfInBounds_toArray, List.set_cons_zero, List.set_cons_succ])
        refine wpAnyH_take (i := 12) (oi := ?oir1_12) (v := ?vr1_12) ?hir1_12 (by kernel_rfl) (by kernel_rfl) (by kernel_rfl) ?hQr1_12 (Or.inl ⟨?hwr1_12, ?hyr1_12⟩) (by assumption) ?restr1_12
        case hir1_12 => (simp only [List.getElem?_toArray, List.getElem?_cons_succ, List.getElem?_cons_zero]; rfl)
        case hwr1_12 => rfl
        case hyr1_12 => (intro w hSw; (try dsimp only at hSw); go_simp; (try with_reducible rfl))
        case hQr1_12 => exact fun _ _ _ h => h
        (try simp only [Act.put, List.setIfInBounds_toArray, List.set_cons_zero, List.set_cons_succ])
        refine wpAnyH_take (i := 13) (oi := ?oir1_13) (v := ?vr1_13) ?hir1_13 (by kernel_rfl) (by kernel_rfl) (by kernel_rfl) ?hQr1_13 (Or.inl ⟨?hwr1_13, ?hyr1_13⟩) (by assumption) ?restr1_13
        case hir1_13 => (simp only [List.getElem?_toArray, List.getElem?_cons_succ, List.getElem?_cons_zero]; rfl)
        case hwr1_13 => rfl
        case hyr1_13 => (intro w hSw; (try dsimp only at hSw); go_simp; (try with_reducible rfl))
        case hQr1_13 => exact fun _ _ _ h => h
        (try simp only [Act.put, List.setIfInBounds_toArray, List.set_cons_zero, List.set_cons_succ])
        refine wpAnyH_take (i := 14) (oi := ?oir1_14) (v := ?vr1_14) ?hir1_14 (by kernel_rfl) (by kernel_rfl) (by kernel_rfl) ?hQr1_14 (Or.inl ⟨?hwr1_14, ?hyr1_14⟩) (by assumption) ?restr1_14
        case hir1_14 => (simp only [List.getElem?_toArray, List.getElem?_cons_succ, List.getElem?_cons_zero]; rfl)
        case hwr1_14 => rfl
        case hyr1_14 => (intro w hSw; (try dsimp only at hSw); go_simp; (try with_reducible rfl))
        case hQr1_14 => exact fun _ _ _ h => h
        (try simp only [Act.put, List.setIfInBounds_toArray, List.set_cons_zero, List.set_cons_succ])
        refine wpAnyH_take (i := 15) (oi := ?oir1_15) (v := ?vr1_15) ?hir1_15 (by kernel_rfl) (by kernel_rfl) (by kernel_rfl) ?hQr1_15 (Or.inl ⟨?hwr1_15, ?hyr1_15⟩) (by assumption) ?restr1_15
        case hir1_15 => (simp only [List.getElem?_toArray, List.getElem?_cons_succ, List.getElem?_cons_zero]; rfl)
        case hwr1_15 => rfl
        case hyr1_15 => (intro w hSw; (try dsimp only at hSw); go_simp; (try with_reducible rfl))
        case hQr1_15 => exact fun _ _ _ h => h
        (try simp only [Act.put, List.setIfInBounds_toArray, List.set_cons_zero, List.set_cons_succ])
        refine wpAnyH_take (i := 16) (oi := ?oir1_16) (v := ?vr1_16) ?hir1_16 (by kernel_rfl) (by kernel_rfl) (by kernel_rfl) ?hQr1_16 (Or.inl ⟨?hwr1_16, ?hyr1_16⟩) (by assumption) ?restr1_16
        case hir1_16 => (simp only [List.getElem?_toArray, List.getElem?_cons_succ, List.getElem?_cons_zero]; rfl)
        case hwr1_16 => rfl
        case hyr1_16 => (intro w hSw; (try dsimp only at hSw); go_simp; (try with_reducible rfl))
        case hQr1_16 => exact fun _ _ _ h => h
        (try simp only [Act.put, List.setIfInBounds_toArray, List.set_cons_zero, List.set_cons_succ])
        refine wpAnyH_take (i := 17) (oi := ?oir1_17) (v := ?vr1_17) ?hir1_17 (by kernel_rfl) (by kernel_rfl) (by kernel_rfl) ?hQr1_17 (Or.inl ⟨?hwr1_17, ?hyr1_17⟩) (by assumption) ?restr1_17
        case hir1_17 => (simp only [List.getElem?_toArray, List.getElem?_cons_succ, List.getElem?_cons_zero]; rfl)
        case hwr1_17 => rfl
        case hyr1_17 => (intro w hSw; (try dsimp only at hSw); go_simp; (try with_reducible rfl))
        case hQr1_17 => exact fun _ _ _ h => h
        (try simp only [Act.put, List.setIfInBounds_toArray, List.set_cons_zero, List.set_cons_succ])
        refine wpAnyH_take (i := 18) (oi := ?oir1_18) (v := ?vr1_18) ?hir1_18 (by kernel_rfl) (by kernel_rfl) (by kernel_rfl) ?hQr1_18 (Or.inl ⟨?hwr1_18, ?hyr1_18⟩) (by assumption) ?restr1_18
        case hir1_18 => (simp only [List.getElem?_toArray, List.getElem?_cons_succ, List.getElem?_cons_zero]; rfl)
        case hwr1_18 => rfl
        case hyr1_18 => (intro w hSw; (try dsimp only at hSw); go_simp; (try with_reducible rfl))
        case hQr1_18 => exact fun _ _ _ h => h
        (try simp only [Act.put, List.setIfInBounds_toArray, List.set_cons_zero, List.set_cons_succ])
        refine wpAnyH_take (i := 19) (oi := ?oir1_19) (v := ?vr1_19) ?hir1_19 (by kernel_rfl) (by kernel_rfl) (by kernel_rfl) ?hQr1_19 (Or.inl ⟨?hwr1_19, ?hyr1_19⟩) (by assumption) ?restr1_19
        case hir1_19 => (simp only [List.getElem?_toArray, List.getElem?_cons_succ, List.getElem?_cons_zero]; rfl)
        case hwr1_19 => rfl
        case hyr1_19 => (intro w hSw; (try dsimp only at hSw); go_simp; (try with_reducible rfl))
        case hQr1_19 => exact fun _ _ _ h => h
        (try simp only [Act.put, List.setIfInBounds_toArray, List.set_cons_zero, List.set_cons_succ])
        refine wpAnyH_take (i := 20) (oi := ?oir1_20) (v := ?vr1_20) ?hir1_20 (by kernel_rfl) (by kernel_rfl) (by kernel_rfl) ?hQr1_20 (Or.inl ⟨?hwr1_20, ?hyr1_20⟩) (by assumption) ?restr1_20
        case hir1_20 => (simp only [List.getElem?_toArray, List.getElem?_cons_succ, List.getElem?_cons_zero]; rfl)
        case hwr1_20 => rfl
        case hyr1_20 => (intro w hSw; (try dsimp only at hSw); go_simp; (try with_reducible rfl))
        case hQr1_20 => exact fun _ _ _ h => h
        (try simp only [Act.put, List.setIfInBounds_toArray, List.set_cons_zero, List.set_cons_succ])
        refine wpAnyH_take (i := 21) (oi := ?oir1_21) (v := ?vr1_21) ?hir1_21 (by kernel_rfl) (by kernel_rfl) (by kernel_rfl) ?hQr1_21 (Or.inl ⟨?hwr1_21, ?hyr1_21⟩) (by assumption) ?restr1_21
        case hir1_21 => (simp only [List.getElem?_toArray, List.getElem?_cons_succ, List.getElem?_cons_zero]; rfl)
        case hwr1_21 => rfl
        case hyr1_21 => (intro w hSw; (try dsimp only at hSw); go_simp; (try with_reducible rfl))
        case hQr1_21 => exact fun _ _ _ h => h
        (try simp only [Act.put, List.setIfInBounds_toArray, List.set_cons_zero, List.set_cons_succ])
        refine wpAnyH_take (i := 22) (oi := ?oir1_22) (v := ?vr1_22) ?hir1_22 (by kernel_rfl) (by kernel_rfl) (by kernel_rfl) ?hQr1_22 (Or.inl ⟨?hwr1_22, ?hyr1_22⟩) (by assumption) ?restr1_22
        case hir1_22 => (simp only [List.getElem?_toArray, List.getElem?_cons_succ, List.getElem?_cons_zero]; rfl)
        case hwr1_22 => rfl
        case hyr1_22 => (intro w hSw; (try dsimp only at hSw); go_simp; (try with_reducible rfl))
        case hQr1_22 => exact fun _ _ _ h => h
        (try simp only [Act.put, List.setIfInBounds_toArray, List.set_cons_zero, List.set_cons_succ])
        refine wpAnyH_take (i := 23) (oi := ?oir1_23) (v := ?vr1_23) ?hir1_23 (by kernel_rfl) (by kernel_rfl) (by kernel_rfl) ?hQr1_23 (Or.inl ⟨?hwr1_23, ?hyr1_23⟩) (by assumption) ?restr1_23
        case hir1_23 => (simp only [List.getElem?_toArray, List.getElem?_cons_succ, List.getElem?_cons_zero]; rfl)
        case hwr1_23 => rfl
        case hyr1_23 => (intro w hSw; (try dsimp only at hSw); go_simp; (try with_reducible rfl))
        case hQr1_23 => exact fun _ _ _ h => h
        (try simp only [Act.put, List.setIfInBounds_toArray, List.set_cons_zero, List.set_cons_succ])
        refine wpAnyH_take (i := 24) (oi := ?oir1_24) (v := ?vr1_24) ?hir1_24 (by kernel_rfl) (by kernel_rfl) (by kernel_rfl) ?hQr1_24 (Or.inl ⟨?hwr1_24, ?hyr1_24⟩) (by assumption) ?restr1_24
        case hir1_24 => (simp only [List.getElem?_toArray, List.getElem?_cons_succ, List.getElem?_cons_zero]; rfl)
        case hwr1_24 => rfl
        case hyr1_24 => (intro w hSw; (try dsimp only at hSw); go_simp; (try with_reducible rfl))
        case hQr1_24 => exact fun _ _ _ h => h
        (try simp only [Act.put, List.setIfInBounds_toArray, List.set_cons_zero, List.set_cons_succ])
        refine wpAnyH_take (i := 25) (oi := ?oir1_25) (v := ?vr1_25) ?hir1_25 (by kernel_rfl) (by kernel_rfl) (by kernel_rfl) ?hQr1_25 (Or.inl ⟨?hwr1_25, ?hyr1_25⟩) (by assumption) ?restr1_25
        case hir1_25 => (simp only [List.getElem?_toArray, List.getElem?_cons_succ, List.getElem?_cons_zero]; rfl)
        case hwr1_25 => rfl
        case hyr1_25 => (intro w hSw; (try dsimp only at hSw); go_simp; (try with_reducible rfl))
        case hQr1_25 => exact fun _ _ _ h => h
        (try simp only [Act.put, List.setIfInBounds_toArray, List.set_cons_zero, List.set_cons_succ])
        refine wpAnyH_take (i := 26) (oi := ?oir1_26) (v := ?vr1_26) ?hir1_26 (by kernel_rfl) (by kernel_rfl) (by kernel_rfl) ?hQr1_26 (Or.inl ⟨?hwr1_26, ?hyr1_26⟩) (by assumption) ?restr1_26
        case hir1_26 => (simp only [List.getElem?_toArray, List.getElem?_cons_succ, List.getElem?_cons_zero]; rfl)
        case hwr1_26 => rfl
        case hyr1_26 => (intro w hSw; (try dsimp only at hSw); go_simp; (try with_reducible rfl))
        case hQr1_26 => exact fun _ _ _ h => h
        (try simp only [Act.put, List.setIfInBounds_toArray, List.set_cons_zero, List.set_cons_succ])
        refine wpAnyH_take (i := 27) (oi := ?oir1_27) (v := ?vr1_27) ?hir1_27 (by kernel_rfl) (by kernel_rfl) (by kernel_rfl) ?hQr1_27 (Or.inl ⟨?hwr1_27, ?hyr1_27⟩) (by assumption) ?restr1_27
        case hir1_27 => (simp only [List.getElem?_toArray, List.getElem?_cons_succ, List.getElem?_cons_zero]; rfl)
        case hwr1_27 => rfl
        case hyr1_27 => (intro w hSw; (try dsimp only at hSw); go_simp; (try with_reducible rfl))
        case hQr1_27 => exact fun _ _ _ h => h
        (try simp only [Act.put, List.setIfInBounds_toArray, List.set_cons_zero, List.set_cons_succ])
        refine wpAnyH_take (i := 28) (oi := ?oir1_28) (v := ?vr1_28) ?hir1_28 (by kernel_rfl) (by kernel_rfl) (by kernel_rfl) ?hQr1_28 (Or.inl ⟨?hwr1_28, ?hyr1_28⟩) (by assumption) ?restr1_28
        case hir1_28 => (simp only [List.getElem?_toArray, List.getElem?_cons_succ, List.getElem?_cons_zero]; rfl)
        case hwr1_28 => rfl
        case hyr1_28 => (intro w hSw; (try dsimp only at hSw); go_simp; (try with_reducible rfl))
        case hQr1_28 => exact fun _ _ _ h => h
        (try simp only [Act.put, List.setIfInBounds_toArray, List.set_cons_zero, List.set_cons_succ])
        refine wpAnyH_take (i := 29) (oi := ?oir1_29) (v := ?vr1_29) ?hir1_29 (by kernel_rfl) (by kernel_rfl) (by kernel_rfl) ?hQr1_29 (Or.inl ⟨?hwr1_29, ?hyr1_29⟩) (by assumption) ?restr1_29
        case hir1_29 => (simp only [List.getElem?_toArray, List.getElem?_cons_succ, List.getElem?_cons_zero]; rfl)
        case hwr1_29 => rfl
        case hyr1_29 => (intro w hSw; (try dsimp only at hSw); go_simp; (try with_reducible rfl))
        case hQr1_29 => exact fun _ _ _ h => h
        (try simp only [Act.put, List.setIfInBounds_toArray, List.set_cons_zero, List.set_cons_succ])
        refine wpAnyH_take (i := 30) (oi := ?oir1_30) (v := ?vr1_30) ?hir1_30 (by kernel_rfl) (by kernel_rfl) (by kernel_rfl) ?hQr1_30 (Or.inl ⟨?hwr1_30, ?hyr1_30⟩) (by assumption) ?restr1_30
        case hir1_30 => (simp only [List.getElem?_toArray, List.getElem?_cons_succ, List.getElem?_cons_zero]; rfl)
        case hwr1_30 => rfl
        case hyr1_30 => (intro w hSw; (try dsimp only at hSw); go_simp; (try with_reducible rfl))
        case hQr1_30 => exact fun _ _ _ h => h
        (try simp only [Act.put, List.setIfInBounds_toArray, List.set_cons_zero, List.set_cons_succ])
        refine wpAnyH_take (i := 31) (oi := ?oir1_31) (v := ?vr1_31) ?hir1_31 (by kernel_rfl) (by kernel_rfl) (by kernel_rfl) ?hQr1_31 (Or.inl ⟨?hwr1_31, ?hyr1_31⟩) (by assumption) ?restr1_31
        case hir1_31 => (simp only [List.getElem?_toArray, List.getElem?_cons_succ, List.getElem?_cons_zero]; rfl)
        case hwr1_31 => rfl
        case hyr1_31 => (intro w hSw; (try dsimp only at hSw); go_simp; (try with_reducible rfl))
        case hQr1_31 => exact fun _ _ _ h => h
        (try simp only [Act.put, List.setIfInBounds_toArray, List.set_cons_zero, List.set_cons_succ])
        refine wpAnyH_take (i := 32) (oi := ?oir1_32) (v := ?vr1_32) ?hir1_32 (by kernel_rfl) (by kernel_rfl) (by kernel_rfl) ?hQr1_32 (Or.inl ⟨?hwr1_32, ?hyr1_32⟩) (by assumption) ?restr1_32
        case hir1_32 => (simp only [List.getElem?_toArray, List.getElem?_cons_succ, List.getElem?_cons_zero]; rfl)
        case hwr1_32 => rfl
        case hyr1_32 => (intro w hSw; (try dsimp only at hSw); go_simp; (try with_reducible rfl))
        case hQr1_32 => exact fun _ _ _ h => h
        (try simp only [Act.put, List.setIfInBounds_toArray, List.set_cons_zero, List.set_cons_succ])
        refine wpAnyH_done (by kernel_rfl) ?_ _
        go_wp2
        go_ret
        exact RetV.bool rfl (N.trans hn12)
    · rw [lv_no hk] at hiN hsN
      have HiN := Lib.hid hiN
      have HsN := Lib.hid hsN
      clear hiN hsN hk
      go_wp2_with fail
      refine (HiN.out _).mono ?_
      rintro e w2 ⟨rfl, hn2⟩
      replace N := N.trans hn2
      go_wp2_with fail
      generalize hW3 : World.alloc _ _ = W3
      have gW3 : Nx w2 W3 := by subst hW3; exact (by repeat (first | exact Nx.refl _ | assumption | apply Nx.alloc | apply Nx.drew | apply Nx.drewN | (refine Nx.setCell ?_ (by first | (simp; done) | (simp; omega) | omega) _) | refine Nx.trans ?_ (by assumption)))
      have sW3 : W3.heap.size = w2.heap.size + 1 := by subst hW3; simp
      have L : Bx W3 (w2.heap.size) 30 [V 0, .slice none 0 0, .slice none 0 0, .slice none 0 0] := by subst hW3; have h := Bx.alloc w2 30 [V 0, .slice none 0 0, .slice none 0 0, .slice none 0 0]; simpa using h
      have L_0 := L.cell (j := 0) rfl
      have L_1 := L.cell (j := 1) rfl
      have L_2 := L.cell (j := 2) rfl
      have L_3 := L.cell (j := 3) rfl
      have L_z := L.lt
      have HsW3 := Lib.hid sW3
      have lW3 : w2.heap.size + 1 ≤ W3.heap.size := by omega
      clear hW3 sW3
      replace N := N.trans gW3
      refine (HsN.out _).mono ?_
      rintro e w4 ⟨rfl, hn4⟩
      replace L := L.nx hn4
      replace L_0 := L.cell (j := 0) rfl
      replace L_1 := L.cell (j := 1) rfl
      replace L_2 := L.cell (j := 2) rfl
      replace L_3 := L.cell (j := 3) rfl
      replace L_z := L.lt
      replace N := N.trans hn4
      go_wp2_with fail
      generalize hW5 : World.alloc _ _ = W5
      have gW5 : Nx w4 W5 := by subst hW5; exact (by repeat (first | exact Nx.refl _ | assumption | apply Nx.alloc | apply Nx.drew | apply Nx.drewN | (refine Nx.setCell ?_ (by first | (simp; done) | (simp; omega) | omega) _) | refine Nx.trans ?_ (by assumption)))
      have sW5 : W5.heap.size = w4.heap.size + 1 := by subst hW5; simp
      have Y : Bx W5 (w4.heap.size) 30 [V 0, .slice none 0 0, .slice none 0 0, .slice none 0 0] := by subst hW5; have h := Bx.alloc w4 30 [V 0, .slice none 0 0, .slice none 0 0, .slice none 0 0]; simpa using h
      have Y_0 := Y.cell (j := 0) rfl
      have Y_1 := Y.cell (j := 1) rfl
      have Y_2 := Y.cell (j := 2) rfl
      have Y_3 := Y.cell (j := 3) rfl
      have Y_z := Y.lt
      have HsW5 := Lib.hid sW5
      have lW5 : w4.heap.size + 1 ≤ W5.heap.size := by omega
      clear hW5 sW5
      replace L := L.nx gW5
      replace L_0 := L.cell (j := 0) rfl
      replace L_1 := L.cell (j := 1) rfl
      replace L_2 := L.cell (j := 2) rfl
      replace L_3 := L.cell (j := 3) rfl
      replace L_z := L.lt
      replace N := N.trans gW5
      refine (dyLeveled_c 0 _).mono ?_
      rintro e w6 ⟨rfl, hn6⟩
      replace L := L.nx hn6
      replace L_0 := L.cell (j := 0) rfl
      replace L_1 := L.cell (j := 1) rfl
      replace L_2 := L.cell (j := 2) rfl
      replace L_3 := L.cell (j := 3) rfl
      replace L_z := L.lt
      replace Y := Y.nx hn6
      replace Y_0 := Y.cell (j := 0) rfl
      replace Y_1 := Y.cell (j := 1) rfl
      replace Y_2 := Y.cell (j := 2) rfl
      replace Y_3 := Y.cell (j := 3) rfl
      replace Y_z := Y.lt
      replace N := N.trans hn6
      go_wp2_with fail
      refine (dyLeveled_c 0 _).mono ?_
      rintro e w7 ⟨rfl, hn7⟩
      replace N := N.trans hn7
      go_wp2
      go_ret
      exact RetV.bool rfl N
end Go.Proofs.Ytjchabeiaajgiaa
