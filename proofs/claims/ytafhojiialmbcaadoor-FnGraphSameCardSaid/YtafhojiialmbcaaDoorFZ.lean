/- FnGraphSame: the walk. -/
import Derived.Test.YtafhojiialmbcaaDoorFY
import Derived.Test.YtafhojiialmbcaaDoorFW
import Derived.Test.YtafhojiialmbcaaDoorG5
import Derived.Test.YtafhojiialmbcaaDoorG5s
namespace Go.Proofs.YtafhojiialmbcaaDoor
open Go.RowKit set_option linter.unusedVariables false set_option linter.unusedSimpArgs false
open Go.Lib (decDigits)

theorem fmtL_inj {n m : Int} {es fs : Es} (h1 : Valid n es) (h2 : Valid m fs) (h : fmtL n es = fmtL m fs) : n = m ∧ es = fs := by
  have a1 := h1.1
  have a2 := h1.2.1
  have b1 := h2.1
  have b2 := h2.2.1
  unfold fmtL at h
  rw [if_pos h1, if_pos h2] at h
  obtain ⟨h3, h4⟩ := gTxt_inj (by omega) (by omega) (Sm.of h1) (Sm.of h2) h
  exact ⟨by omega, h4⟩

set_option maxRecDepth 100000 in
set_option maxHeartbeats 8000000 in
theorem fnGraphSame_walk (w : World) (A : Option Addr) (n c : Nat) (hnc : n ≤ c) (hb : BytesAt w w.heap.size A n) :
    Calls Tryd.prog 4 #[.slice A n c] w (RetV (.bool true) w) := by
  by_cases hbig : (n : Int) > 1048576
  · go_enter Tryd.func4, Tryd.ntmps4
    go_wp2
    go_ret
    exact RetV.bool rfl (by repeat (first | exact Nx.refl _ | assumption | apply Nx.alloc | apply Nx.drew | apply Nx.drewN | (refine Nx.setCell ?_ (by first | (simp; done) | (simp; omega) | omega) _) | refine Nx.trans ?_ (by assumption)))
  · go_enter Tryd.func4, Tryd.ntmps4
    go_wp2_with fail
    refine (drawGraphSame_c A n c _ hnc hb).mono ?_
    rintro e w1 ⟨n1, B, d, es, n2, F, f, fs, rfl, a1, a2, a3, a4, l1, l2, oB, oF, N⟩
    have hg := oB.edgesAt
    have hf := oF.edgesAt
    clear oB oF hb
    obtain ⟨sm, hsm⟩ : ∃ b, decide (n1 = n2 ∧ es = fs) = b := ⟨_, rfl⟩
    have hsm2 : decide (n2 = n1 ∧ fs = es) = sm := by rw [← hsm]; congr 1; simp only [eq_comm]
    have Hab := Lib.hid (fun w' h h' => hsm ▸ iGraphSame_c n1 n2 B F d f es fs w' h h' (by omega) (by omega))
    have Hsab := Lib.hid (fun w' h h' => hsm ▸ sGraphSame_c n1 n2 B F d f es fs w' h h' (by omega) (by omega))
    have Hba := Lib.hid (fun w' h h' => hsm2 ▸ iGraphSame_c n2 n1 F B f d fs es w' h h' (by omega) (by omega))
    have Haa := Lib.hid (fun w' h => (show Calls Tryd.prog 13 #[.agg #[V n1, .slice B es.length d], .agg #[V n1, .slice B es.length d]] w' (RetV (.bool true) w') by have := iGraphSame_c n1 n1 B B d d es es w' h h (by omega) (by omega); simpa using this))
    have Hva := Lib.hid (fun w' h => iGraphValid_c n1 B d es w' h (by omega))
    have Hvb := Lib.hid (fun w' h => iGraphValid_c n2 F f fs w' h (by omega))
    have Hfa := Lib.hid (fun w' h => iFormatGraph_c n1 B d es w' h (by omega))
    have Hfb := Lib.hid (fun w' h => iFormatGraph_c n2 F f fs w' h (by omega))
    have Htx : Valid n1 es → Valid n2 fs → Hid (decide (fmtL n1 es = fmtL n2 fs) = sm) := fun v1 v2 => Lib.hid (by
      rw [← hsm]
      congr 1
      exact propext ⟨fmtL_inj v1 v2, fun h => by rw [h.1, h.2]⟩)
    generalize fmtL n1 es = T1 at *
    generalize fmtL n2 fs = T2 at *
    obtain ⟨k1, hk1⟩ : ∃ x, es.length = x := ⟨_, rfl⟩
    obtain ⟨k2, hk2⟩ : ∃ x, fs.length = x := ⟨_, rfl⟩
    simp only [hk1, hk2] at Hab Hsab Hba Haa Hva Hvb Hfa Hfb ⊢
    clear hk1 hk2 hsm hsm2 l1 l2
    have Hg := Lib.hid hg
    have Hf := Lib.hid hf
    clear hg hf
    go_wp2_with fail
    generalize hW2 : World.alloc _ _ = W2
    have gW2 : Nx w1 W2 := by subst hW2; exact (by repeat (first | exact Nx.refl _ | assumption | apply Nx.alloc | apply Nx.drew | apply Nx.drewN | (refine Nx.setCell ?_ (by first | (simp; done) | (simp; omega) | omega) _) | refine Nx.trans ?_ (by assumption)))
    have sW2 : W2.heap.size = w1.heap.size + 2 := by subst hW2; simp
    have X : Bx W2 (w1.heap.size) 29 [V n1, .slice B k1 d] := by subst hW2; have h := Bx.alloc w1 29 [V n1, .slice B k1 d]; have h := h.nx (Nx.alloc (Nx.refl _) (.cells #[V n2, .slice F k2 f] 29)); simpa using h
    have Y : Bx W2 (w1.heap.size + 1) 29 [V n2, .slice F k2 f] := by subst hW2; have h := Bx.alloc (w1.alloc (.cells #[V n1, .slice B k1 d] 29)) 29 [V n2, .slice F k2 f]; simpa using h
    have X_0 := X.cell (j := 0) rfl
    have X_1 := X.cell (j := 1) rfl
    have X_z := X.lt
    have Y_0 := Y.cell (j := 0) rfl
    have Y_1 := Y.cell (j := 1) rfl
    have Y_z := Y.lt
    have HsW2 := Lib.hid sW2
    have lW2 : w1.heap.size + 2 ≤ W2.heap.size := by omega
    clear hW2 sW2
    replace N := N.trans gW2
    have M := gW2
    refine (Hab.out _ (Hg.out.nx M) (Hf.out.nx M)).mono ?_
    rintro e w3 ⟨rfl, hn3⟩
    replace X := X.nx hn3
    replace X_0 := X.cell (j := 0) rfl
    replace X_1 := X.cell (j := 1) rfl
    replace X_z := X.lt
    replace Y := Y.nx hn3
    replace Y_0 := Y.cell (j := 0) rfl
    replace Y_1 := Y.cell (j := 1) rfl
    replace Y_z := Y.lt
    replace N := N.trans hn3
    replace M := M.trans hn3
    go_wp2_with fail
    refine (Hsab.out _ (Hg.out.nx M) (Hf.out.nx M)).mono ?_
    rintro e w4 ⟨rfl, hn4⟩
    replace X := X.nx hn4
    replace X_0 := X.cell (j := 0) rfl
    replace X_1 := X.cell (j := 1) rfl
    replace X_z := X.lt
    replace Y := Y.nx hn4
    replace Y_0 := Y.cell (j := 0) rfl
    replace Y_1 := Y.cell (j := 1) rfl
    replace Y_z := Y.lt
    replace N := N.trans hn4
    replace M := M.trans hn4
    go_wp2_with fail
    refine (Hba.out _ (Hf.out.nx M) (Hg.out.nx M)).mono ?_
    rintro e w5 ⟨rfl, hn5⟩
    replace X := X.nx hn5
    replace X_0 := X.cell (j := 0) rfl
    replace X_1 := X.cell (j := 1) rfl
    replace X_z := X.lt
    replace Y := Y.nx hn5
    replace Y_0 := Y.cell (j := 0) rfl
    replace Y_1 := Y.cell (j := 1) rfl
    replace Y_z := Y.lt
    replace N := N.trans hn5
    replace M := M.trans hn5
    go_wp2_with fail
    refine (Haa.out _ (Hg.out.nx M)).mono ?_
    rintro e w6 ⟨rfl, hn6⟩
    replace X := X.nx hn6
    replace X_0 := X.cell (j := 0) rfl
    replace X_1 := X.cell (j := 1) rfl
    replace X_z := X.lt
    replace Y := Y.nx hn6
    replace Y_0 := Y.cell (j := 0) rfl
    replace Y_1 := Y.cell (j := 1) rfl
    replace Y_z := Y.lt
    replace N := N.trans hn6
    replace M := M.trans hn6
    go_wp2_with fail
    have kp : ∀ w', Nx w6 w' → (fun w_ => Nx w6 w_ ∧ w_.cell? ⟨w1.heap.size, 0, none⟩ = some (V n1) ∧ w_.cell? ⟨w1.heap.size, 1, none⟩ = some (.slice B k1 d) ∧ w_.cell? ⟨w1.heap.size + 1, 0, none⟩ = some (V n2) ∧ w_.cell? ⟨w1.heap.size + 1, 1, none⟩ = some (.slice F k2 f)) w' := fun w' h => ⟨h, h.cell X_z X_0, h.cell X_z X_1, h.cell Y_z Y_0, h.cell Y_z Y_1⟩
    have hdr : Nx w6 w6.drew := .drew (.refl _)
    by_cases va : Valid n1 es
    · simp only [va, decide_true] at Hva
      by_cases vb : Valid n2 fs
      · simp only [vb, decide_true] at Hvb
        have Ht := Htx va vb
        clear va vb Htx
        refine wp_region_held_drew (S := fun w_ => Nx w6 w_ ∧ w_.cell? ⟨w1.heap.size, 0, none⟩ = some (V n1) ∧ w_.cell? ⟨w1.heap.size, 1, none⟩ = some (.slice B k1 d) ∧ w_.cell? ⟨w1.heap.size + 1, 0, none⟩ = some (V n2) ∧ w_.cell? ⟨w1.heap.size + 1, 1, none⟩ = some (.slice F k2 f)) (by kernel_rfl) (kp _ hdr) (fun hHeld => ?_)
        refine wpAnyH_take (i := 0) (oi := ?oir1_0) (v := ?vr1_0) ?hir1_0 (by kernel_rfl) (by kernel_rfl) (by kernel_rfl) ?hQr1_0 (Or.inl ⟨?hwr1_0, ?hyr1_0⟩) (by assumption) ?restr1_0
        case hir1_0 => (simp only [List.getElem?_toArray, List.getElem?_cons_succ, List.getElem?_cons_zero]; rfl)
        case hwr1_0 => rfl
        case hyr1_0 => (intro w hSw; (try dsimp only at hSw); go_simp; (try with_reducible rfl))
        case hQr1_0 => exact fun _ _ _ h => h
        (try simp only [Act.put, List.setIfInBounds_toArray, List.set_cons_zero, List.set_cons_succ])
        refine wpAnyH_ready (rs := [1]) (by kernel_rfl) (by simp) ?_
        refine AllReadyH.cons rfl (fun K hK => ?_) AllReadyH.nil
        go_simp
        refine (Hva.out _ (Hg.out.nx (M.trans hdr))).mono ?_
        rintro e w7 ⟨rfl, hnd7⟩
        have hn7 : Nx w6 w7 := hdr.trans hnd7
        refine hK.out _ _ (kp _ hn7) (fun hHeld => ?_)
        clear hK K
        (try simp only [Act.put, List.setIfInBounds_toArray, List.set_cons_zero, List.set_cons_succ])
        refine wpAnyH_take (i := 2) (oi := ?oir1_2) (v := ?vr1_2) ?hir1_2 (by kernel_rfl) (by kernel_rfl) (by kernel_rfl) ?hQr1_2 (Or.inl ⟨?hwr1_2, ?hyr1_2⟩) (by assumption) ?restr1_2
        case hir1_2 => (simp only [List.getElem?_toArray, List.getElem?_cons_succ, List.getElem?_cons_zero]; rfl)
        case hwr1_2 => rfl
        case hyr1_2 => (intro w hSw; (try dsimp only at hSw); go_simp; (try with_reducible rfl))
        case hQr1_2 => exact fun _ _ _ h => h
        (try simp only [Act.put, List.setIfInBounds_toArray, List.set_cons_zero, List.set_cons_succ])
        refine wpAnyH_take (i := 3) (oi := ?oir1_3) (v := ?vr1_3) ?hir1_3 (by kernel_rfl) (by kernel_rfl) (by kernel_rfl) ?hQr1_3 (Or.inl ⟨?hwr1_3, ?hyr1_3⟩) (by assumption) ?restr1_3
        case hir1_3 => (simp only [List.getElem?_toArray, List.getElem?_cons_succ, List.getElem?_cons_zero]; rfl)
        case hwr1_3 => rfl
        case hyr1_3 => (intro w hSw; (try dsimp only at hSw); go_simp; (try with_reducible rfl))
        case hQr1_3 => exact fun _ _ _ h => h
        (try simp only [Act.put, List.setIfInBounds_toArray, List.set_cons_zero, List.set_cons_succ])
        refine wpAnyH_take (i := 4) (oi := ?oir1_4) (v := ?vr1_4) ?hir1_4 (by kernel_rfl) (by kernel_rfl) (by kernel_rfl) ?hQr1_4 (Or.inl ⟨?hwr1_4, ?hyr1_4⟩) (by assumption) ?restr1_4
        case hir1_4 => (simp only [List.getElem?_toArray, List.getElem?_cons_succ, List.getElem?_cons_zero]; rfl)
        case hwr1_4 => rfl
        case hyr1_4 => (intro w hSw; (try dsimp only at hSw); go_simp; (try with_reducible rfl))
        case hQr1_4 => exact fun _ _ _ h => h
        (try simp only [Act.put, List.setIfInBounds_toArray, List.set_cons_zero, List.set_cons_succ])
        refine wpAnyH_ready (rs := [5]) (by kernel_rfl) (by simp) ?_
        refine AllReadyH.cons rfl (fun K hK => ?_) AllReadyH.nil
        go_simp
        refine (Hvb.out _ (Hf.out.nx (M.trans hn7))).mono ?_
        rintro e w8 ⟨rfl, hn78⟩
        have hn8 : Nx w6 w8 := hn7.trans hn78
        refine hK.out _ _ (kp _ hn8) (fun hHeld => ?_)
        clear hK K
        (try simp only [Act.put, List.setIfInBounds_toArray, List.set_cons_zero, List.set_cons_succ])
        refine wpAnyH_take (i := 6) (oi := ?oir1_6) (v := ?vr1_6) ?hir1_6 (by kernel_rfl) (by kernel_rfl) (by kernel_rfl) ?hQr1_6 (Or.inl ⟨?hwr1_6, ?hyr1_6⟩) (by assumption) ?restr1_6
        case hir1_6 => (simp only [List.getElem?_toArray, List.getElem?_cons_succ, List.getElem?_cons_zero]; rfl)
        case hwr1_6 => rfl
        case hyr1_6 => (intro w hSw; (try dsimp only at hSw); go_simp; (try with_reducible rfl))
        case hQr1_6 => exact fun _ _ _ h => h
        (try simp only [Act.put, List.setIfInBounds_toArray, List.set_cons_zero, List.set_cons_succ])
        refine wpAnyH_take (i := 7) (oi := ?oir1_7) (v := ?vr1_7) ?hir1_7 (by kernel_rfl) (by kernel_rfl) (by kernel_rfl) ?hQr1_7 (Or.inl ⟨?hwr1_7, ?hyr1_7⟩) (by assumption) ?restr1_7
        case hir1_7 => (simp only [List.getElem?_toArray, List.getElem?_cons_succ, List.getElem?_cons_zero]; rfl)
        case hwr1_7 => rfl
        case hyr1_7 => (intro w hSw; (try dsimp only at hSw); go_simp; (try with_reducible rfl))
        case hQr1_7 => exact fun _ _ _ h => h
        (try simp only [Act.put, List.setIfInBounds_toArray, List.set_cons_zero, List.set_cons_succ])
        refine wpAnyH_take (i := 8) (oi := ?oir1_8) (v := ?vr1_8) ?hir1_8 (by kernel_rfl) (by kernel_rfl) (by kernel_rfl) ?hQr1_8 (Or.inl ⟨?hwr1_8, ?hyr1_8⟩) (by assumption) ?restr1_8
        case hir1_8 => (simp only [List.getElem?_toArray, List.getElem?_cons_succ, List.getElem?_cons_zero]; rfl)
        case hwr1_8 => rfl
        case hyr1_8 => (intro w hSw; (try dsimp only at hSw); go_simp; (try with_reducible rfl))
        case hQr1_8 => exact fun _ _ _ h => h
        (try simp only [Act.put, List.setIfInBounds_toArray, List.set_cons_zero, List.set_cons_succ])
        refine wpAnyH_take (i := 9) (oi := ?oir1_9) (v := ?vr1_9) ?hir1_9 (by kernel_rfl) (by kernel_rfl) (by kernel_rfl) ?hQr1_9 (Or.inl ⟨?hwr1_9, ?hyr1_9⟩) (by assumption) ?restr1_9
        case hir1_9 => (simp only [List.getElem?_toArray, List.getElem?_cons_succ, List.getElem?_cons_zero]; rfl)
        case hwr1_9 => rfl
        case hyr1_9 => (intro w hSw; (try dsimp only at hSw); go_simp; (try with_reducible rfl))
        case hQr1_9 => exact fun _ _ _ h => h
        (try simp only [Act.put, List.setIfInBounds_toArray, List.set_cons_zero, List.set_cons_succ])
        refine wpAnyH_take (i := 10) (oi := ?oir1_10) (v := ?vr1_10) ?hir1_10 (by kernel_rfl) (by kernel_rfl) (by kernel_rfl) ?hQr1_10 (Or.inl ⟨?hwr1_10, ?hyr1_10⟩) (by assumption) ?restr1_10
        case hir1_10 => (simp only [List.getElem?_toArray, List.getElem?_cons_succ, List.getElem?_cons_zero]; rfl)
        case hwr1_10 => rfl
        case hyr1_10 => (intro w hSw; (try dsimp only at hSw); go_simp; (try with_reducible rfl))
        case hQr1_10 => exact fun _ _ _ h => h
        (try simp only [Act.put, List.setIfInBounds_toArray, List.set_cons_zero, List.set_cons_succ])
        refine wpAnyH_take (i := 12) (oi := ?oir1_12) (v := ?vr1_12) ?hir1_12 (by kernel_rfl) (by kernel_rfl) (by kernel_rfl) ?hQr1_12 (Or.inl ⟨?hwr1_12, ?hyr1_12⟩) (by assumption) ?restr1_12
        case hir1_12 => (simp only [List.getElem?_toArray, List.getElem?_cons_succ, List.getElem?_cons_zero]; rfl)
        case hwr1_12 => rfl
        case hyr1_12 => (intro w hSw; (try dsimp only at hSw); go_simp; (try with_reducible rfl))
        case hQr1_12 => exact fun _ _ _ h => h
        (try simp only [Act.put, List.setIfInBounds_toArray, List.set_cons_zero, List.set_cons_succ])
        refine wpAnyH_ready (rs := [11]) (by kernel_rfl) (by simp) ?_
        refine AllReadyH.cons rfl (fun K hK => ?_) AllReadyH.nil
        go_simp
        refine (Hfa.out _ (Hg.out.nx (M.trans hn8))).mono ?_
        rintro e w9 ⟨rfl, hn89⟩
        have hn9 : Nx w6 w9 := hn8.trans hn89
        refine hK.out _ _ (kp _ hn9) (fun hHeld => ?_)
        clear hK K
        (try simp only [Act.put, List.setIfInBounds_toArray, List.set_cons_zero, List.set_cons_succ])
        refine wpAnyH_ready (rs := [13]) (by kernel_rfl) (by simp) ?_
        refine AllReadyH.cons rfl (fun K hK => ?_) AllReadyH.nil
        go_simp
        refine (Hfb.out _ (Hf.out.nx (M.trans hn9))).mono ?_
        rintro e w10 ⟨rfl, hn910⟩
        have hn10 : Nx w6 w10 := hn9.trans hn910
        refine hK.out _ _ (kp _ hn10) (fun hHeld => ?_)
        clear hK K
        (try simp only [Act.put, List.setIfInBounds_toArray, List.set_cons_zero, List.set_cons_succ])
        refine wpAnyH_take (i := 14) (oi := ?oir1_14) (v := ?vr1_14) ?hir1_14 (by kernel_rfl) (by kernel_rfl) (by kernel_rfl) ?hQr1_14 (Or.inl ⟨?hwr1_14, ?hyr1_14⟩) (by assumption) ?restr1_14
        case hir1_14 => (simp only [List.getElem?_toArray, List.getElem?_cons_succ, List.getElem?_cons_zero]; rfl)
        case hwr1_14 => rfl
        case hyr1_14 => (intro w hSw; (try dsimp only at hSw); go_simp; (try with_reducible rfl))
        case hQr1_14 => exact fun _ _ _ h => h
        (try simp only [Act.put, List.setIfInBounds_toArray, List.set_cons_zero, List.set_cons_succ])
        refine wpAnyH_take (i := 15) (oi := ?oir1_15) (v := ?vr1_15) ?hir1_15 (by kernel_rfl) (by kernel_rfl) (by kernel_rfl) ?hQr1_15 (Or.inl ⟨?hwr1_15, ?hyr1_15⟩) (by assumption) ?restr1_15
        case hir1_15 => (simp only [List.getElem?_toArray, List.getElem?_cons_succ, List.getElem?_cons_zero]; rfl)
        case hwr1_15 => rfl
        case hyr1_15 => (intro w hSw; (try dsimp only at hSw); go_simp; (try with_reducible rfl))
        case hQr1_15 => exact fun _ _ _ h => h
        (try simp only [Act.put, List.setIfInBounds_toArray, List.set_cons_zero, List.set_cons_succ])
        refine wpAnyH_take (i := 16) (oi := ?oir1_16) (v := ?vr1_16) ?hir1_16 (by kernel_rfl) (by kernel_rfl) (by kernel_rfl) ?hQr1_16 (Or.inl ⟨?hwr1_16, ?hyr1_16⟩) (by assumption) ?restr1_16
        case hir1_16 => (simp only [List.getElem?_toArray, List.getElem?_cons_succ, List.getElem?_cons_zero]; rfl)
        case hwr1_16 => rfl
        case hyr1_16 => (intro w hSw; (try dsimp only at hSw); go_simp; (try with_reducible rfl))
        case hQr1_16 => exact fun _ _ _ h => h
        (try simp only [Act.put, List.setIfInBounds_toArray, List.set_cons_zero, List.set_cons_succ])
        refine wpAnyH_take (i := 17) (oi := ?oir1_17) (v := ?vr1_17) ?hir1_17 (by kernel_rfl) (by kernel_rfl) (by kernel_rfl) ?hQr1_17 (Or.inl ⟨?hwr1_17, ?hyr1_17⟩) (by assumption) ?restr1_17
        case hir1_17 => (simp only [List.getElem?_toArray, List.getElem?_cons_succ, List.getElem?_cons_zero]; rfl)
        case hwr1_17 => rfl
        case hyr1_17 => (intro w hSw; (try dsimp only at hSw); go_simp; (try with_reducible rfl))
        case hQr1_17 => exact fun _ _ _ h => h
        (try simp only [Act.put, List.setIfInBounds_toArray, List.set_cons_zero, List.set_cons_succ])
        refine wpAnyH_done (by kernel_rfl) ?_ _
        go_wp2
        go_ret
        exact RetV.bool (by rw [← Ht.out]; simp; exact Bool.eq_iff_iff.2 (by simp)) (N.trans hn10)
      · simp only [vb, decide_false] at Hvb
        clear va vb Htx
        refine wp_region_held_drew (S := fun w_ => Nx w6 w_ ∧ w_.cell? ⟨w1.heap.size, 0, none⟩ = some (V n1) ∧ w_.cell? ⟨w1.heap.size, 1, none⟩ = some (.slice B k1 d) ∧ w_.cell? ⟨w1.heap.size + 1, 0, none⟩ = some (V n2) ∧ w_.cell? ⟨w1.heap.size + 1, 1, none⟩ = some (.slice F k2 f)) (by kernel_rfl) (kp _ hdr) (fun hHeld => ?_)
        refine wpAnyH_take (i := 0) (oi := ?oir2_0) (v := ?vr2_0) ?hir2_0 (by kernel_rfl) (by kernel_rfl) (by kernel_rfl) ?hQr2_0 (Or.inl ⟨?hwr2_0, ?hyr2_0⟩) (by assumption) ?restr2_0
        case hir2_0 => (simp only [List.getElem?_toArray, List.getElem?_cons_succ, List.getElem?_cons_zero]; rfl)
        case hwr2_0 => rfl
        case hyr2_0 => (intro w hSw; (try dsimp only at hSw); go_simp; (try with_reducible rfl))
        case hQr2_0 => exact fun _ _ _ h => h
        (try simp only [Act.put, List.setIfInBounds_toArray, List.set_cons_zero, List.set_cons_succ])
        refine wpAnyH_ready (rs := [1]) (by kernel_rfl) (by simp) ?_
        refine AllReadyH.cons rfl (fun K hK => ?_) AllReadyH.nil
        go_simp
        refine (Hva.out _ (Hg.out.nx (M.trans hdr))).mono ?_
        rintro e w7 ⟨rfl, hnd7⟩
        have hn7 : Nx w6 w7 := hdr.trans hnd7
        refine hK.out _ _ (kp _ hn7) (fun hHeld => ?_)
        clear hK K
        (try simp only [Act.put, List.setIfInBounds_toArray, List.set_cons_zero, List.set_cons_succ])
        refine wpAnyH_take (i := 2) (oi := ?oir2_2) (v := ?vr2_2) ?hir2_2 (by kernel_rfl) (by kernel_rfl) (by kernel_rfl) ?hQr2_2 (Or.inl ⟨?hwr2_2, ?hyr2_2⟩) (by assumption) ?restr2_2
        case hir2_2 => (simp only [List.getElem?_toArray, List.getElem?_cons_succ, List.getElem?_cons_zero]; rfl)
        case hwr2_2 => rfl
        case hyr2_2 => (intro w hSw; (try dsimp only at hSw); go_simp; (try with_reducible rfl))
        case hQr2_2 => exact fun _ _ _ h => h
        (try simp only [Act.put, List.setIfInBounds_toArray, List.set_cons_zero, List.set_cons_succ])
        refine wpAnyH_take (i := 3) (oi := ?oir2_3) (v := ?vr2_3) ?hir2_3 (by kernel_rfl) (by kernel_rfl) (by kernel_rfl) ?hQr2_3 (Or.inl ⟨?hwr2_3, ?hyr2_3⟩) (by assumption) ?restr2_3
        case hir2_3 => (simp only [List.getElem?_toArray, List.getElem?_cons_succ, List.getElem?_cons_zero]; rfl)
        case hwr2_3 => rfl
        case hyr2_3 => (intro w hSw; (try dsimp only at hSw); go_simp; (try with_reducible rfl))
        case hQr2_3 => exact fun _ _ _ h => h
        (try simp only [Act.put, List.setIfInBounds_toArray, List.set_cons_zero, List.set_cons_succ])
        refine wpAnyH_take (i := 4) (oi := ?oir2_4) (v := ?vr2_4) ?hir2_4 (by kernel_rfl) (by kernel_rfl) (by kernel_rfl) ?hQr2_4 (Or.inl ⟨?hwr2_4, ?hyr2_4⟩) (by assumption) ?restr2_4
        case hir2_4 => (simp only [List.getElem?_toArray, List.getElem?_cons_succ, List.getElem?_cons_zero]; rfl)
        case hwr2_4 => rfl
        case hyr2_4 => (intro w hSw; (try dsimp only at hSw); go_simp; (try with_reducible rfl))
        case hQr2_4 => exact fun _ _ _ h => h
        (try simp only [Act.put, List.setIfInBounds_toArray, List.set_cons_zero, List.set_cons_succ])
        refine wpAnyH_ready (rs := [5]) (by kernel_rfl) (by simp) ?_
        refine AllReadyH.cons rfl (fun K hK => ?_) AllReadyH.nil
        go_simp
        refine (Hvb.out _ (Hf.out.nx (M.trans hn7))).mono ?_
        rintro e w8 ⟨rfl, hn78⟩
        have hn8 : Nx w6 w8 := hn7.trans hn78
        refine hK.out _ _ (kp _ hn8) (fun hHeld => ?_)
        clear hK K
        (try simp only [Act.put, List.setIfInBounds_toArray, List.set_cons_zero, List.set_cons_succ])
        refine wpAnyH_take (i := 6) (oi := ?oir2_6) (v := ?vr2_6) ?hir2_6 (by kernel_rfl) (by kernel_rfl) (by kernel_rfl) ?hQr2_6 (Or.inl ⟨?hwr2_6, ?hyr2_6⟩) (by assumption) ?restr2_6
        case hir2_6 => (simp only [List.getElem?_toArray, List.getElem?_cons_succ, List.getElem?_cons_zero]; rfl)
        case hwr2_6 => rfl
        case hyr2_6 => (intro w hSw; (try dsimp only at hSw); go_simp; (try with_reducible rfl))
        case hQr2_6 => exact fun _ _ _ h => h
        (try simp only [Act.put, List.setIfInBounds_toArray, List.set_cons_zero, List.set_cons_succ])
        refine wpAnyH_take (i := 7) (oi := ?oir2_7) (v := ?vr2_7) ?hir2_7 (by kernel_rfl) (by kernel_rfl) (by kernel_rfl) ?hQr2_7 (Or.inl ⟨?hwr2_7, ?hyr2_7⟩) (by assumption) ?restr2_7
        case hir2_7 => (simp only [List.getElem?_toArray, List.getElem?_cons_succ, List.getElem?_cons_zero]; rfl)
        case hwr2_7 => rfl
        case hyr2_7 => (intro w hSw; (try dsimp only at hSw); go_simp; (try with_reducible rfl))
        case hQr2_7 => exact fun _ _ _ h => h
        (try simp only [Act.put, List.setIfInBounds_toArray, List.set_cons_zero, List.set_cons_succ])
        refine wpAnyH_take (i := 8) (oi := ?oir2_8) (v := ?vr2_8) ?hir2_8 (by kernel_rfl) (by kernel_rfl) (by kernel_rfl) ?hQr2_8 (Or.inl ⟨?hwr2_8, ?hyr2_8⟩) (by assumption) ?restr2_8
        case hir2_8 => (simp only [List.getElem?_toArray, List.getElem?_cons_succ, List.getElem?_cons_zero]; rfl)
        case hwr2_8 => rfl
        case hyr2_8 => (intro w hSw; (try dsimp only at hSw); go_simp; (try with_reducible rfl))
        case hQr2_8 => exact fun _ _ _ h => h
        (try simp only [Act.put, List.setIfInBounds_toArray, List.set_cons_zero, List.set_cons_succ])
        refine wpAnyH_take (i := 9) (oi := ?oir2_9) (v := undef) ?hir2_9 (by kernel_rfl) (by kernel_rfl) (by kernel_rfl) ?hQr2_9 (Or.inr ⟨?hwr2_9, rfl⟩) (by assumption) ?restr2_9
        case hir2_9 => (simp only [List.getElem?_toArray, List.getElem?_cons_succ, List.getElem?_cons_zero]; rfl)
        case hwr2_9 => rfl
        case hQr2_9 => exact fun _ _ _ h => h
        (try simp only [Act.put, List.setIfInBounds_toArray, List.set_cons_zero, List.set_cons_succ])
        refine wpAnyH_take (i := 10) (oi := ?oir2_10) (v := undef) ?hir2_10 (by kernel_rfl) (by kernel_rfl) (by kernel_rfl) ?hQr2_10 (Or.inr ⟨?hwr2_10, rfl⟩) (by assumption) ?restr2_10
        case hir2_10 => (simp only [List.getElem?_toArray, List.getElem?_cons_succ, List.getElem?_cons_zero]; rfl)
        case hwr2_10 => rfl
        case hQr2_10 => exact fun _ _ _ h => h
        (try simp only [Act.put, List.setIfInBounds_toArray, List.set_cons_zero, List.set_cons_succ])
        refine wpAnyH_take (i := 11) (oi := ?oir2_11) (v := undef) ?hir2_11 (by kernel_rfl) (by kernel_rfl) (by kernel_rfl) ?hQr2_11 (Or.inr ⟨?hwr2_11, rfl⟩) (by assumption) ?restr2_11
        case hir2_11 => (simp only [List.getElem?_toArray, List.getElem?_cons_succ, List.getElem?_cons_zero]; rfl)
        case hwr2_11 => rfl
        case hQr2_11 => exact fun _ _ _ h => h
        (try simp only [Act.put, List.setIfInBounds_toArray, List.set_cons_zero, List.set_cons_succ])
        refine wpAnyH_take (i := 12) (oi := ?oir2_12) (v := undef) ?hir2_12 (by kernel_rfl) (by kernel_rfl) (by kernel_rfl) ?hQr2_12 (Or.inr ⟨?hwr2_12, rfl⟩) (by assumption) ?restr2_12
        case hir2_12 => (simp only [List.getElem?_toArray, List.getElem?_cons_succ, List.getElem?_cons_zero]; rfl)
        case hwr2_12 => rfl
        case hQr2_12 => exact fun _ _ _ h => h
        (try simp only [Act.put, List.setIfInBounds_toArray, List.set_cons_zero, List.set_cons_succ])
        refine wpAnyH_take (i := 13) (oi := ?oir2_13) (v := undef) ?hir2_13 (by kernel_rfl) (by kernel_rfl) (by kernel_rfl) ?hQr2_13 (Or.inr ⟨?hwr2_13, rfl⟩) (by assumption) ?restr2_13
        case hir2_13 => (simp only [List.getElem?_toArray, List.getElem?_cons_succ, List.getElem?_cons_zero]; rfl)
        case hwr2_13 => rfl
        case hQr2_13 => exact fun _ _ _ h => h
        (try simp only [Act.put, List.setIfInBounds_toArray, List.set_cons_zero, List.set_cons_succ])
        refine wpAnyH_take (i := 14) (oi := ?oir2_14) (v := undef) ?hir2_14 (by kernel_rfl) (by kernel_rfl) (by kernel_rfl) ?hQr2_14 (Or.inr ⟨?hwr2_14, rfl⟩) (by assumption) ?restr2_14
        case hir2_14 => (simp only [List.getElem?_toArray, List.getElem?_cons_succ, List.getElem?_cons_zero]; rfl)
        case hwr2_14 => rfl
        case hQr2_14 => exact fun _ _ _ h => h
        (try simp only [Act.put, List.setIfInBounds_toArray, List.set_cons_zero, List.set_cons_succ])
        refine wpAnyH_take (i := 15) (oi := ?oir2_15) (v := undef) ?hir2_15 (by kernel_rfl) (by kernel_rfl) (by kernel_rfl) ?hQr2_15 (Or.inr ⟨?hwr2_15, rfl⟩) (by assumption) ?restr2_15
        case hir2_15 => (simp only [List.getElem?_toArray, List.getElem?_cons_succ, List.getElem?_cons_zero]; rfl)
        case hwr2_15 => rfl
        case hQr2_15 => exact fun _ _ _ h => h
        (try simp only [Act.put, List.setIfInBounds_toArray, List.set_cons_zero, List.set_cons_succ])
        refine wpAnyH_take (i := 16) (oi := ?oir2_16) (v := ?vr2_16) ?hir2_16 (by kernel_rfl) (by kernel_rfl) (by kernel_rfl) ?hQr2_16 (Or.inl ⟨?hwr2_16, ?hyr2_16⟩) (by assumption) ?restr2_16
        case hir2_16 => (simp only [List.getElem?_toArray, List.getElem?_cons_succ, List.getElem?_cons_zero]; rfl)
        case hwr2_16 => rfl
        case hyr2_16 => (intro w hSw; (try dsimp only at hSw); go_simp; (try with_reducible rfl))
        case hQr2_16 => exact fun _ _ _ h => h
        (try simp only [Act.put, List.setIfInBounds_toArray, List.set_cons_zero, List.set_cons_succ])
        refine wpAnyH_take (i := 17) (oi := ?oir2_17) (v := ?vr2_17) ?hir2_17 (by kernel_rfl) (by kernel_rfl) (by kernel_rfl) ?hQr2_17 (Or.inl ⟨?hwr2_17, ?hyr2_17⟩) (by assumption) ?restr2_17
        case hir2_17 => (simp only [List.getElem?_toArray, List.getElem?_cons_succ, List.getElem?_cons_zero]; rfl)
        case hwr2_17 => rfl
        case hyr2_17 => (intro w hSw; (try dsimp only at hSw); go_simp; (try with_reducible rfl))
        case hQr2_17 => exact fun _ _ _ h => h
        (try simp only [Act.put, List.setIfInBounds_toArray, List.set_cons_zero, List.set_cons_succ])
        refine wpAnyH_done (by kernel_rfl) ?_ _
        go_wp2
        go_ret
        exact RetV.bool (by simp) (N.trans hn8)
    · simp only [va, decide_false] at Hva
      clear va Htx
      refine wp_region_held_drew (S := fun w_ => Nx w6 w_ ∧ w_.cell? ⟨w1.heap.size, 0, none⟩ = some (V n1) ∧ w_.cell? ⟨w1.heap.size, 1, none⟩ = some (.slice B k1 d) ∧ w_.cell? ⟨w1.heap.size + 1, 0, none⟩ = some (V n2) ∧ w_.cell? ⟨w1.heap.size + 1, 1, none⟩ = some (.slice F k2 f)) (by kernel_rfl) (kp _ hdr) (fun hHeld => ?_)
      refine wpAnyH_take (i := 0) (oi := ?oir3_0) (v := ?vr3_0) ?hir3_0 (by kernel_rfl) (by kernel_rfl) (by kernel_rfl) ?hQr3_0 (Or.inl ⟨?hwr3_0, ?hyr3_0⟩) (by assumption) ?restr3_0
      case hir3_0 => (simp only [List.getElem?_toArray, List.getElem?_cons_succ, List.getElem?_cons_zero]; rfl)
      case hwr3_0 => rfl
      case hyr3_0 => (intro w hSw; (try dsimp only at hSw); go_simp; (try with_reducible rfl))
      case hQr3_0 => exact fun _ _ _ h => h
      (try simp only [Act.put, List.setIfInBounds_toArray, List.set_cons_zero, List.set_cons_succ])
      refine wpAnyH_ready (rs := [1]) (by kernel_rfl) (by simp) ?_
      refine AllReadyH.cons rfl (fun K hK => ?_) AllReadyH.nil
      go_simp
      refine (Hva.out _ (Hg.out.nx (M.trans hdr))).mono ?_
      rintro e w7 ⟨rfl, hnd7⟩
      have hn7 : Nx w6 w7 := hdr.trans hnd7
      refine hK.out _ _ (kp _ hn7) (fun hHeld => ?_)
      clear hK K
      (try simp only [Act.put, List.setIfInBounds_toArray, List.set_cons_zero, List.set_cons_succ])
      refine wpAnyH_take (i := 2) (oi := ?oir3_2) (v := ?vr3_2) ?hir3_2 (by kernel_rfl) (by kernel_rfl) (by kernel_rfl) ?hQr3_2 (Or.inl ⟨?hwr3_2, ?hyr3_2⟩) (by assumption) ?restr3_2
      case hir3_2 => (simp only [List.getElem?_toArray, List.getElem?_cons_succ, List.getElem?_cons_zero]; rfl)
      case hwr3_2 => rfl
      case hyr3_2 => (intro w hSw; (try dsimp only at hSw); go_simp; (try with_reducible rfl))
      case hQr3_2 => exact fun _ _ _ h => h
      (try simp only [Act.put, List.setIfInBounds_toArray, List.set_cons_zero, List.set_cons_succ])
      refine wpAnyH_take (i := 3) (oi := ?oir3_3) (v := ?vr3_3) ?hir3_3 (by kernel_rfl) (by kernel_rfl) (by kernel_rfl) ?hQr3_3 (Or.inl ⟨?hwr3_3, ?hyr3_3⟩) (by assumption) ?restr3_3
      case hir3_3 => (simp only [List.getElem?_toArray, List.getElem?_cons_succ, List.getElem?_cons_zero]; rfl)
      case hwr3_3 => rfl
      case hyr3_3 => (intro w hSw; (try dsimp only at hSw); go_simp; (try with_reducible rfl))
      case hQr3_3 => exact fun _ _ _ h => h
      (try simp only [Act.put, List.setIfInBounds_toArray, List.set_cons_zero, List.set_cons_succ])
      refine wpAnyH_take (i := 4) (oi := ?oir3_4) (v := undef) ?hir3_4 (by kernel_rfl) (by kernel_rfl) (by kernel_rfl) ?hQr3_4 (Or.inr ⟨?hwr3_4, rfl⟩) (by assumption) ?restr3_4
      case hir3_4 => (simp only [List.getElem?_toArray, List.getElem?_cons_succ, List.getElem?_cons_zero]; rfl)
      case hwr3_4 => rfl
      case hQr3_4 => exact fun _ _ _ h => h
      (try simp only [Act.put, List.setIfInBounds_toArray, List.set_cons_zero, List.set_cons_succ])
      refine wpAnyH_take (i := 5) (oi := ?oir3_5) (v := undef) ?hir3_5 (by kernel_rfl) (by kernel_rfl) (by kernel_rfl) ?hQr3_5 (Or.inr ⟨?hwr3_5, rfl⟩) (by assumption) ?restr3_5
      case hir3_5 => (simp only [List.getElem?_toArray, List.getElem?_cons_succ, List.getElem?_cons_zero]; rfl)
      case hwr3_5 => rfl
      case hQr3_5 => exact fun _ _ _ h => h
      (try simp only [Act.put, List.setIfInBounds_toArray, List.set_cons_zero, List.set_cons_succ])
      refine wpAnyH_take (i := 6) (oi := ?oir3_6) (v := undef) ?hir3_6 (by kernel_rfl) (by kernel_rfl) (by kernel_rfl) ?hQr3_6 (Or.inr ⟨?hwr3_6, rfl⟩) (by assumption) ?restr3_6
      case hir3_6 => (simp only [List.getElem?_toArray, List.getElem?_cons_succ, List.getElem?_cons_zero]; rfl)
      case hwr3_6 => rfl
      case hQr3_6 => exact fun _ _ _ h => h
      (try simp only [Act.put, List.setIfInBounds_toArray, List.set_cons_zero, List.set_cons_succ])
      refine wpAnyH_take (i := 7) (oi := ?oir3_7) (v := ?vr3_7) ?hir3_7 (by kernel_rfl) (by kernel_rfl) (by kernel_rfl) ?hQr3_7 (Or.inl ⟨?hwr3_7, ?hyr3_7⟩) (by assumption) ?restr3_7
      case hir3_7 => (simp only [List.getElem?_toArray, List.getElem?_cons_succ, List.getElem?_cons_zero]; rfl)
      case hwr3_7 => rfl
      case hyr3_7 => (intro w hSw; (try dsimp only at hSw); go_simp; (try with_reducible rfl))
      case hQr3_7 => exact fun _ _ _ h => h
      (try simp only [Act.put, List.setIfInBounds_toArray, List.set_cons_zero, List.set_cons_succ])
      refine wpAnyH_take (i := 8) (oi := ?oir3_8) (v := ?vr3_8) ?hir3_8 (by kernel_rfl) (by kernel_rfl) (by kernel_rfl) ?hQr3_8 (Or.inl ⟨?hwr3_8, ?hyr3_8⟩) (by assumption) ?restr3_8
      case hir3_8 => (simp only [List.getElem?_toArray, List.getElem?_cons_succ, List.getElem?_cons_zero]; rfl)
      case hwr3_8 => rfl
      case hyr3_8 => (intro w hSw; (try dsimp only at hSw); go_simp; (try with_reducible rfl))
      case hQr3_8 => exact fun _ _ _ h => h
      (try simp only [Act.put, List.setIfInBounds_toArray, List.set_cons_zero, List.set_cons_succ])
      refine wpAnyH_take (i := 9) (oi := ?oir3_9) (v := undef) ?hir3_9 (by kernel_rfl) (by kernel_rfl) (by kernel_rfl) ?hQr3_9 (Or.inr ⟨?hwr3_9, rfl⟩) (by assumption) ?restr3_9
      case hir3_9 => (simp only [List.getElem?_toArray, List.getElem?_cons_succ, List.getElem?_cons_zero]; rfl)
      case hwr3_9 => rfl
      case hQr3_9 => exact fun _ _ _ h => h
      (try simp only [Act.put, List.setIfInBounds_toArray, List.set_cons_zero, List.set_cons_succ])
      refine wpAnyH_take (i := 10) (oi := ?oir3_10) (v := undef) ?hir3_10 (by kernel_rfl) (by kernel_rfl) (by kernel_rfl) ?hQr3_10 (Or.inr ⟨?hwr3_10, rfl⟩) (by assumption) ?restr3_10
      case hir3_10 => (simp only [List.getElem?_toArray, List.getElem?_cons_succ, List.getElem?_cons_zero]; rfl)
      case hwr3_10 => rfl
      case hQr3_10 => exact fun _ _ _ h => h
      (try simp only [Act.put, List.setIfInBounds_toArray, List.set_cons_zero, List.set_cons_succ])
      refine wpAnyH_take (i := 11) (oi := ?oir3_11) (v := undef) ?hir3_11 (by kernel_rfl) (by kernel_rfl) (by kernel_rfl) ?hQr3_11 (Or.inr ⟨?hwr3_11, rfl⟩) (by assumption) ?restr3_11
      case hir3_11 => (simp only [List.getElem?_toArray, List.getElem?_cons_succ, List.getElem?_cons_zero]; rfl)
      case hwr3_11 => rfl
      case hQr3_11 => exact fun _ _ _ h => h
      (try simp only [Act.put, List.setIfInBounds_toArray, List.set_cons_zero, List.set_cons_succ])
      refine wpAnyH_take (i := 12) (oi := ?oir3_12) (v := undef) ?hir3_12 (by kernel_rfl) (by kernel_rfl) (by kernel_rfl) ?hQr3_12 (Or.inr ⟨?hwr3_12, rfl⟩) (by assumption) ?restr3_12
      case hir3_12 => (simp only [List.getElem?_toArray, List.getElem?_cons_succ, List.getElem?_cons_zero]; rfl)
      case hwr3_12 => rfl
      case hQr3_12 => exact fun _ _ _ h => h
      (try simp only [Act.put, List.setIfInBounds_toArray, List.set_cons_zero, List.set_cons_succ])
      refine wpAnyH_take (i := 13) (oi := ?oir3_13) (v := undef) ?hir3_13 (by kernel_rfl) (by kernel_rfl) (by kernel_rfl) ?hQr3_13 (Or.inr ⟨?hwr3_13, rfl⟩) (by assumption) ?restr3_13
      case hir3_13 => (simp only [List.getElem?_toArray, List.getElem?_cons_succ, List.getElem?_cons_zero]; rfl)
      case hwr3_13 => rfl
      case hQr3_13 => exact fun _ _ _ h => h
      (try simp only [Act.put, List.setIfInBounds_toArray, List.set_cons_zero, List.set_cons_succ])
      refine wpAnyH_take (i := 14) (oi := ?oir3_14) (v := undef) ?hir3_14 (by kernel_rfl) (by kernel_rfl) (by kernel_rfl) ?hQr3_14 (Or.inr ⟨?hwr3_14, rfl⟩) (by assumption) ?restr3_14
      case hir3_14 => (simp only [List.getElem?_toArray, List.getElem?_cons_succ, List.getElem?_cons_zero]; rfl)
      case hwr3_14 => rfl
      case hQr3_14 => exact fun _ _ _ h => h
      (try simp only [Act.put, List.setIfInBounds_toArray, List.set_cons_zero, List.set_cons_succ])
      refine wpAnyH_take (i := 15) (oi := ?oir3_15) (v := undef) ?hir3_15 (by kernel_rfl) (by kernel_rfl) (by kernel_rfl) ?hQr3_15 (Or.inr ⟨?hwr3_15, rfl⟩) (by assumption) ?restr3_15
      case hir3_15 => (simp only [List.getElem?_toArray, List.getElem?_cons_succ, List.getElem?_cons_zero]; rfl)
      case hwr3_15 => rfl
      case hQr3_15 => exact fun _ _ _ h => h
      (try simp only [Act.put, List.setIfInBounds_toArray, List.set_cons_zero, List.set_cons_succ])
      refine wpAnyH_take (i := 16) (oi := ?oir3_16) (v := ?vr3_16) ?hir3_16 (by kernel_rfl) (by kernel_rfl) (by kernel_rfl) ?hQr3_16 (Or.inl ⟨?hwr3_16, ?hyr3_16⟩) (by assumption) ?restr3_16
      case hir3_16 => (simp only [List.getElem?_toArray, List.getElem?_cons_succ, List.getElem?_cons_zero]; rfl)
      case hwr3_16 => rfl
      case hyr3_16 => (intro w hSw; (try dsimp only at hSw); go_simp; (try with_reducible rfl))
      case hQr3_16 => exact fun _ _ _ h => h
      (try simp only [Act.put, List.setIfInBounds_toArray, List.set_cons_zero, List.set_cons_succ])
      refine wpAnyH_take (i := 17) (oi := ?oir3_17) (v := ?vr3_17) ?hir3_17 (by kernel_rfl) (by kernel_rfl) (by kernel_rfl) ?hQr3_17 (Or.inl ⟨?hwr3_17, ?hyr3_17⟩) (by assumption) ?restr3_17
      case hir3_17 => (simp only [List.getElem?_toArray, List.getElem?_cons_succ, List.getElem?_cons_zero]; rfl)
      case hwr3_17 => rfl
      case hyr3_17 => (intro w hSw; (try dsimp only at hSw); go_simp; (try with_reducible rfl))
      case hQr3_17 => exact fun _ _ _ h => h
      (try simp only [Act.put, List.setIfInBounds_toArray, List.set_cons_zero, List.set_cons_succ])
      refine wpAnyH_done (by kernel_rfl) ?_ _
      go_wp2
      go_ret
      exact RetV.bool (by simp) (N.trans hn7)
end Go.Proofs.YtafhojiialmbcaaDoor
