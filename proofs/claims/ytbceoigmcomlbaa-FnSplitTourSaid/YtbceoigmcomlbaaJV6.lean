/- FnSplitTour: the walk. Printed by gen_TL.py. -/
import Derived.Test.YtbceoigmcomlbaaJAL
namespace Go.Proofs.Ytbceoigmcomlbaa
open Go.RowKit
set_option linter.unusedVariables false
set_option linter.unusedSimpArgs false
set_option maxRecDepth 100000 in
set_option maxHeartbeats 1000000 in
theorem fnSplitTour_walk (w : World) (A : Option Addr) (n c : Nat) (hnc : n ≤ c) (hb : BytesAt w w.heap.size A n) :
    Calls Try.prog 4 #[.slice A n c] w (RetV (.bool true) w) := by
  by_cases hbig : (n : Int) > 1048576
  · go_enter Try.func4, Try.ntmps4
    go_wp2
    go_ret
    exact RetV.bool rfl (by repeat (first | exact Nx.refl _ | assumption | apply Nx.alloc | apply Nx.drew | apply Nx.drewN | (refine Nx.setCell ?_ (by first | (simp; done) | (simp; omega) | omega) _) | refine Nx.trans ?_ (by assumption)))
  · go_enter Try.func4, Try.ntmps4
    go_wp2_with fail
    refine (drawSplitTour_c A n c _ hnc hb).mono ?_
    rintro e w1 ⟨B, d, xs, u, v, rfl, h1, h2, ho, N⟩
    have hx := ho.intsAt
    have hd := ho.cap
    clear ho hb
    by_cases hp : spOk xs (u, v)
    · obtain ⟨X, Y, L, E, r, e1, e2, e3, hor, e6, e7, e8, e9, e10, e11, h0, g0, lX, lY, lL, lE, l1X, l1x⟩ := splitTour_facts hp
      have Hh0 := Lib.hid h0
      have Hg0 := Lib.hid g0
      have He1 := Lib.hid e1
      have He2 := Lib.hid e2
      have He3 := Lib.hid e3
      have He6 := Lib.hid e6
      have He7 := Lib.hid e7
      have He8 := Lib.hid e8
      have He9 := Lib.hid e9
      have He10 := Lib.hid e10
      have He11 := Lib.hid e11
      clear h0 g0 e1 e2 e3 e6 e7 e8 e9 e10 e11
      have Hor := Lib.hid hor
      clear hp hor
      have hl0 : (0 : Int) < (xs.length : Int) := by omega
      have hnl0 : 0 < xs.length := by omega
      have hl1 : (0 : Int) < (X.length : Int) := by omega
      have hnl1 : 0 < X.length := by omega
      go_wp2_with fail
      generalize hW2 : World.alloc _ _ = W2
      have gW2 : Nx w1 W2 := by subst hW2; exact (by repeat (first | exact Nx.refl _ | assumption | apply Nx.alloc | apply Nx.drew | apply Nx.drewN | (refine Nx.setCell ?_ (by first | (simp; done) | (simp; omega) | omega) _) | refine Nx.trans ?_ (by assumption)))
      have sW2 : W2.heap.size = w1.heap.size + 1 := by subst hW2; simp
      have X0 : Bx W2 (w1.heap.size) 30 [V u, V v] := by subst hW2; have h := Bx.alloc w1 30 [V u, V v]; simpa using h
      have X0_0 := X0.cell (j := 0) rfl
      have X0_1 := X0.cell (j := 1) rfl
      have X0_z := X0.lt
      have HsW2 := Lib.hid sW2
      have lW2 : w1.heap.size + 1 ≤ W2.heap.size := by omega
      clear hW2 sW2
      have hn := gW2
      clear gW2
      replace hx := hx.nx hn
      replace N := N.trans hn
      clear hn
      have hw2 : ∃ v, v = W2 := ⟨_, rfl⟩
      obtain ⟨w2, hw2⟩ := hw2
      subst hw2
      go_wp2_with fail
      refine (iSplit_t B d _ _ He1.out He2.out He3.out rfl hd hx (by omega)).mono ?_
      rintro e w3 ⟨AX1, cX1, AX2, cX2, rfl, hoX1, hoX2, _, _, hn⟩
      replace hx := hx.nx hn
      replace X0 := X0.nx hn
      replace X0_0 := X0.cell (j := 0) rfl
      replace X0_1 := X0.cell (j := 1) rfl
      replace X0_z := X0.lt
      replace N := N.trans hn
      clear hn
      have X1 := hoX1.intsAt
      have capX1 := hoX1.cap
      clear hoX1
      have X2 := hoX2.intsAt
      have capX2 := hoX2.cap
      clear hoX2
      go_wp2_with fail
      refine (sSplit_t B d _ _ He1.out He2.out He3.out rfl hd hx (by omega)).mono ?_
      rintro e w4 ⟨AX3, cX3, AX4, cX4, rfl, hoX3, hoX4, _, _, hn⟩
      replace hx := hx.nx hn
      replace X1 := X1.nx hn
      replace X2 := X2.nx hn
      replace X0 := X0.nx hn
      replace X0_0 := X0.cell (j := 0) rfl
      replace X0_1 := X0.cell (j := 1) rfl
      replace X0_z := X0.lt
      replace N := N.trans hn
      clear hn
      have X3 := hoX3.intsAt
      have capX3 := hoX3.cap
      clear hoX3
      have X4 := hoX4.intsAt
      have capX4 := hoX4.cap
      clear hoX4
      go_wp2_with fail
      refine (same_i _ _ _ _ _ X1 X3 (by omega)).mono ?_
      rintro e w5 ⟨rfl, hn⟩
      replace hx := hx.nx hn
      replace X1 := X1.nx hn
      replace X2 := X2.nx hn
      replace X3 := X3.nx hn
      replace X4 := X4.nx hn
      replace X0 := X0.nx hn
      replace X0_0 := X0.cell (j := 0) rfl
      replace X0_1 := X0.cell (j := 1) rfl
      replace X0_z := X0.lt
      replace N := N.trans hn
      clear hn
      go_wp2_with fail
      refine (same_i _ _ _ _ _ X2 X4 (by omega)).mono ?_
      rintro e w6 ⟨rfl, hn⟩
      replace hx := hx.nx hn
      replace X1 := X1.nx hn
      replace X2 := X2.nx hn
      replace X3 := X3.nx hn
      replace X4 := X4.nx hn
      replace X0 := X0.nx hn
      replace X0_0 := X0.cell (j := 0) rfl
      replace X0_1 := X0.cell (j := 1) rfl
      replace X0_z := X0.lt
      replace N := N.trans hn
      clear hn
      clear X3 X4
      have hor := Hor.out
      rcases hor with ⟨hin, e4, e5⟩ | ⟨hin, e4, e5⟩
      · have Hhin := Lib.hid hin
        have He4 := Lib.hid e4
        have He5 := Lib.hid e5
        clear hin e4 e5
        clear Hor
        go_wp2_with fail
        refine (dyIn_t _ _ _ _ Hhin.out rfl X1 (by omega)).mono ?_
        rintro e w7 ⟨rfl, rfl⟩
        go_wp2_with fail
        refine (iLink_t _ _ _ _ _ _ _ He4.out He5.out rfl rfl capX1 capX2 X1 X2 (by omega) (by omega)).mono ?_
        rintro e w8 ⟨AX5, cX5, rfl, hoX5, hn⟩
        replace hx := hx.nx hn
        replace X1 := X1.nx hn
        replace X2 := X2.nx hn
        replace X0 := X0.nx hn
        replace X0_0 := X0.cell (j := 0) rfl
        replace X0_1 := X0.cell (j := 1) rfl
        replace X0_z := X0.lt
        replace N := N.trans hn
        clear hn
        have X5 := hoX5.intsAt
        have capX5 := hoX5.cap
        clear hoX5
        go_wp2_with fail
        refine (iEdges_t _ _ _ _ He6.out He7.out rfl hd hx (by omega)).mono ?_
        rintro e w9 ⟨AE1, cE1, rfl, hoE1, hn⟩
        replace hx := hx.nx hn
        replace X1 := X1.nx hn
        replace X2 := X2.nx hn
        replace X5 := X5.nx hn
        replace X0 := X0.nx hn
        replace X0_0 := X0.cell (j := 0) rfl
        replace X0_1 := X0.cell (j := 1) rfl
        replace X0_z := X0.lt
        replace N := N.trans hn
        clear hn
        have E1 := hoE1.edgesAt
        have capE1 := hoE1.cap
        clear hoE1
        go_wp2_with fail
        refine (iEdges_t _ _ _ _ He8.out He9.out rfl capX5 X5 (by omega)).mono ?_
        rintro e w10 ⟨AE2, cE2, rfl, hoE2, hn⟩
        replace hx := hx.nx hn
        replace X1 := X1.nx hn
        replace X2 := X2.nx hn
        replace X5 := X5.nx hn
        replace E1 := E1.nx hn
        replace X0 := X0.nx hn
        replace X0_0 := X0.cell (j := 0) rfl
        replace X0_1 := X0.cell (j := 1) rfl
        replace X0_z := X0.lt
        replace N := N.trans hn
        clear hn
        have E2 := hoE2.edgesAt
        have capE2 := hoE2.cap
        clear hoE2
        obtain ⟨bhx, offhx, rfl, hblhx, hchx⟩ := hx.rd Hg0.out
        simp only [Nat.add_zero] at hchx
        obtain ⟨bX1, offX1, rfl, hblX1, hcX1⟩ := X1.rd Hh0.out
        simp only [Nat.add_zero] at hcX1
        have Hy0 : Hid (∀ q, Nx w10 q → Calls Try.prog 13 #[.slice (some ⟨bX1, offX1, none⟩) X.length cX1] q (RetV (.bool true) q)) := Lib.hid (fun q hq => iValid_t _ _ _ _ He10.out rfl capX1 (X1.nx hq) (by omega))
        have Hy1 : Hid (∀ q, Nx w10 q → Calls Try.prog 13 #[.slice AX2 Y.length cX2] q (RetV (.bool true) q)) := Lib.hid (fun q hq => iValid_t _ _ _ _ He11.out rfl capX2 (X2.nx hq) (by omega))
        have Hy2 : Hid (∀ q, Nx w10 q → Calls Try.prog 22 #[.slice AE1 E.length cE1, .slice AE2 E.length cE2] q (RetV (.bool true) q)) := Lib.hid (fun q hq => same_e AE1 AE2 cE1 cE2 q (E1.nx hq) (E2.nx hq) (by omega))
        clear E1 E2 X1 X2 X5 hx capX1 capX2 capX3 capX4 capX5 capE1 capE2 hd lE lX lY lL l1X h1 h2 hnc hbig
        go_wp2_with fail
        have kp : ∀ w', Nx w10 w' → (fun w_ => Nx w10 w_ ∧ w_.cell? ⟨bX1, offX1, none⟩ = some (V r) ∧ w_.cell? ⟨bhx, offhx, none⟩ = some (V r)) w' := fun w' h => ⟨h, h.cell (p := ⟨bX1, offX1, none⟩) hblX1 hcX1, h.cell (p := ⟨bhx, offhx, none⟩) hblhx hchx⟩
        first | (go_region_held3 (fun w_ => Nx w10 w_ ∧ w_.cell? ⟨bX1, offX1, none⟩ = some (V r) ∧ w_.cell? ⟨bhx, offhx, none⟩ = some (V r))
          (exact kp _ (by (repeat (first | exact Nx.refl _ | assumption | apply Nx.alloc | apply Nx.drew | apply Nx.drewN | (refine Nx.setCell ?_ (by first | (simp; done) | (simp; omega) | omega) _) | refine Nx.trans ?_ (by assumption))); done))
          (first | (go_at_call 13; (with_reducible refine (Hy0.out _ (by (repeat (first | exact Nx.refl _ | assumption | apply Nx.alloc | apply Nx.drew | apply Nx.drewN | (refine Nx.setCell ?_ (by first | (simp; done) | (simp; omega) | omega) _) | refine Nx.trans ?_ (by assumption))); done)).mono ?_); rintro e w11 ⟨rfl, hn11⟩; have hs11 : w10.heap.size ≤ w11.heap.size := Nx.size (by exact (by (repeat (first | exact Nx.refl _ | assumption | apply Nx.alloc | apply Nx.drew | apply Nx.drewN | (refine Nx.setCell ?_ (by first | (simp; done) | (simp; omega) | omega) _) | refine Nx.trans ?_ (by assumption))); done))) | (go_at_call 13; (with_reducible refine (Hy1.out _ (by (repeat (first | exact Nx.refl _ | assumption | apply Nx.alloc | apply Nx.drew | apply Nx.drewN | (refine Nx.setCell ?_ (by first | (simp; done) | (simp; omega) | omega) _) | refine Nx.trans ?_ (by assumption))); done)).mono ?_); rintro e w12 ⟨rfl, hn12⟩; have hs12 : w10.heap.size ≤ w12.heap.size := Nx.size (by exact (by (repeat (first | exact Nx.refl _ | assumption | apply Nx.alloc | apply Nx.drew | apply Nx.drewN | (refine Nx.setCell ?_ (by first | (simp; done) | (simp; omega) | omega) _) | refine Nx.trans ?_ (by assumption))); done))) | (go_at_call 22; (with_reducible refine (Hy2.out _ (by (repeat (first | exact Nx.refl _ | assumption | apply Nx.alloc | apply Nx.drew | apply Nx.drewN | (refine Nx.setCell ?_ (by first | (simp; done) | (simp; omega) | omega) _) | refine Nx.trans ?_ (by assumption))); done)).mono ?_); rintro e w13 ⟨rfl, hn13⟩; have hs13 : w10.heap.size ≤ w13.heap.size := Nx.size (by exact (by (repeat (first | exact Nx.refl _ | assumption | apply Nx.alloc | apply Nx.drew | apply Nx.drewN | (refine Nx.setCell ?_ (by first | (simp; done) | (simp; omega) | omega) _) | refine Nx.trans ?_ (by assumption))); done))))) | fail
        all_goals go_wp2
        all_goals go_ret
        all_goals exact RetV.bool (by first | rfl | simp) (N.trans (by (repeat (first | exact Nx.refl _ | assumption | apply Nx.alloc | apply Nx.drew | apply Nx.drewN | (refine Nx.setCell ?_ (by first | (simp; done) | (simp; omega) | omega) _) | refine Nx.trans ?_ (by assumption))); done))
      · have Hhin := Lib.hid hin
        have He4 := Lib.hid e4
        have He5 := Lib.hid e5
        clear hin e4 e5
        clear Hor
        go_wp2_with fail
        refine (dyIn_t _ _ _ _ Hhin.out rfl X1 (by omega)).mono ?_
        rintro e w7 ⟨rfl, rfl⟩
        go_wp2_with fail
        refine (iLink_t _ _ _ _ _ _ _ He4.out He5.out rfl rfl capX1 capX2 X1 X2 (by omega) (by omega)).mono ?_
        rintro e w8 ⟨AX5, cX5, rfl, hoX5, hn⟩
        replace hx := hx.nx hn
        replace X1 := X1.nx hn
        replace X2 := X2.nx hn
        replace X0 := X0.nx hn
        replace X0_0 := X0.cell (j := 0) rfl
        replace X0_1 := X0.cell (j := 1) rfl
        replace X0_z := X0.lt
        replace N := N.trans hn
        clear hn
        have X5 := hoX5.intsAt
        have capX5 := hoX5.cap
        clear hoX5
        go_wp2_with fail
        refine (iEdges_t _ _ _ _ He6.out He7.out rfl hd hx (by omega)).mono ?_
        rintro e w9 ⟨AE1, cE1, rfl, hoE1, hn⟩
        replace hx := hx.nx hn
        replace X1 := X1.nx hn
        replace X2 := X2.nx hn
        replace X5 := X5.nx hn
        replace X0 := X0.nx hn
        replace X0_0 := X0.cell (j := 0) rfl
        replace X0_1 := X0.cell (j := 1) rfl
        replace X0_z := X0.lt
        replace N := N.trans hn
        clear hn
        have E1 := hoE1.edgesAt
        have capE1 := hoE1.cap
        clear hoE1
        go_wp2_with fail
        refine (iEdges_t _ _ _ _ He8.out He9.out rfl capX5 X5 (by omega)).mono ?_
        rintro e w10 ⟨AE2, cE2, rfl, hoE2, hn⟩
        replace hx := hx.nx hn
        replace X1 := X1.nx hn
        replace X2 := X2.nx hn
        replace X5 := X5.nx hn
        replace E1 := E1.nx hn
        replace X0 := X0.nx hn
        replace X0_0 := X0.cell (j := 0) rfl
        replace X0_1 := X0.cell (j := 1) rfl
        replace X0_z := X0.lt
        replace N := N.trans hn
        clear hn
        have E2 := hoE2.edgesAt
        have capE2 := hoE2.cap
        clear hoE2
        obtain ⟨bhx, offhx, rfl, hblhx, hchx⟩ := hx.rd Hg0.out
        simp only [Nat.add_zero] at hchx
        obtain ⟨bX1, offX1, rfl, hblX1, hcX1⟩ := X1.rd Hh0.out
        simp only [Nat.add_zero] at hcX1
        have Hy0 : Hid (∀ q, Nx w10 q → Calls Try.prog 13 #[.slice (some ⟨bX1, offX1, none⟩) X.length cX1] q (RetV (.bool true) q)) := Lib.hid (fun q hq => iValid_t _ _ _ _ He10.out rfl capX1 (X1.nx hq) (by omega))
        have Hy1 : Hid (∀ q, Nx w10 q → Calls Try.prog 13 #[.slice AX2 Y.length cX2] q (RetV (.bool true) q)) := Lib.hid (fun q hq => iValid_t _ _ _ _ He11.out rfl capX2 (X2.nx hq) (by omega))
        have Hy2 : Hid (∀ q, Nx w10 q → Calls Try.prog 22 #[.slice AE1 E.length cE1, .slice AE2 E.length cE2] q (RetV (.bool true) q)) := Lib.hid (fun q hq => same_e AE1 AE2 cE1 cE2 q (E1.nx hq) (E2.nx hq) (by omega))
        clear E1 E2 X1 X2 X5 hx capX1 capX2 capX3 capX4 capX5 capE1 capE2 hd lE lX lY lL l1X h1 h2 hnc hbig
        go_wp2_with fail
        have kp : ∀ w', Nx w10 w' → (fun w_ => Nx w10 w_ ∧ w_.cell? ⟨bX1, offX1, none⟩ = some (V r) ∧ w_.cell? ⟨bhx, offhx, none⟩ = some (V r)) w' := fun w' h => ⟨h, h.cell (p := ⟨bX1, offX1, none⟩) hblX1 hcX1, h.cell (p := ⟨bhx, offhx, none⟩) hblhx hchx⟩
        first | (go_region_held3 (fun w_ => Nx w10 w_ ∧ w_.cell? ⟨bX1, offX1, none⟩ = some (V r) ∧ w_.cell? ⟨bhx, offhx, none⟩ = some (V r))
          (exact kp _ (by (repeat (first | exact Nx.refl _ | assumption | apply Nx.alloc | apply Nx.drew | apply Nx.drewN | (refine Nx.setCell ?_ (by first | (simp; done) | (simp; omega) | omega) _) | refine Nx.trans ?_ (by assumption))); done))
          (first | (go_at_call 13; (with_reducible refine (Hy0.out _ (by (repeat (first | exact Nx.refl _ | assumption | apply Nx.alloc | apply Nx.drew | apply Nx.drewN | (refine Nx.setCell ?_ (by first | (simp; done) | (simp; omega) | omega) _) | refine Nx.trans ?_ (by assumption))); done)).mono ?_); rintro e w11 ⟨rfl, hn11⟩; have hs11 : w10.heap.size ≤ w11.heap.size := Nx.size (by exact (by (repeat (first | exact Nx.refl _ | assumption | apply Nx.alloc | apply Nx.drew | apply Nx.drewN | (refine Nx.setCell ?_ (by first | (simp; done) | (simp; omega) | omega) _) | refine Nx.trans ?_ (by assumption))); done))) | (go_at_call 13; (with_reducible refine (Hy1.out _ (by (repeat (first | exact Nx.refl _ | assumption | apply Nx.alloc | apply Nx.drew | apply Nx.drewN | (refine Nx.setCell ?_ (by first | (simp; done) | (simp; omega) | omega) _) | refine Nx.trans ?_ (by assumption))); done)).mono ?_); rintro e w12 ⟨rfl, hn12⟩; have hs12 : w10.heap.size ≤ w12.heap.size := Nx.size (by exact (by (repeat (first | exact Nx.refl _ | assumption | apply Nx.alloc | apply Nx.drew | apply Nx.drewN | (refine Nx.setCell ?_ (by first | (simp; done) | (simp; omega) | omega) _) | refine Nx.trans ?_ (by assumption))); done))) | (go_at_call 22; (with_reducible refine (Hy2.out _ (by (repeat (first | exact Nx.refl _ | assumption | apply Nx.alloc | apply Nx.drew | apply Nx.drewN | (refine Nx.setCell ?_ (by first | (simp; done) | (simp; omega) | omega) _) | refine Nx.trans ?_ (by assumption))); done)).mono ?_); rintro e w13 ⟨rfl, hn13⟩; have hs13 : w10.heap.size ≤ w13.heap.size := Nx.size (by exact (by (repeat (first | exact Nx.refl _ | assumption | apply Nx.alloc | apply Nx.drew | apply Nx.drewN | (refine Nx.setCell ?_ (by first | (simp; done) | (simp; omega) | omega) _) | refine Nx.trans ?_ (by assumption))); done))))) | fail
        all_goals go_wp2
        all_goals go_ret
        all_goals exact RetV.bool (by first | rfl | simp) (N.trans (by (repeat (first | exact Nx.refl _ | assumption | apply Nx.alloc | apply Nx.drew | apply Nx.drewN | (refine Nx.setCell ?_ (by first | (simp; done) | (simp; omega) | omega) _) | refine Nx.trans ?_ (by assumption))); done))
    · have e1 := Lib.hid (tSpl_no hp).1
      have e3 := Lib.hid (tSpl_no hp).2
      have e2 : Hid (decide (spOk xs (u, v)) = false) := Lib.hid (decide_eq_false hp)
      clear hp
      go_wp2_with fail
      generalize hW2 : World.alloc _ _ = W2
      have gW2 : Nx w1 W2 := by subst hW2; exact (by repeat (first | exact Nx.refl _ | assumption | apply Nx.alloc | apply Nx.drew | apply Nx.drewN | (refine Nx.setCell ?_ (by first | (simp; done) | (simp; omega) | omega) _) | refine Nx.trans ?_ (by assumption)))
      have sW2 : W2.heap.size = w1.heap.size + 1 := by subst hW2; simp
      have X0 : Bx W2 (w1.heap.size) 30 [V u, V v] := by subst hW2; have h := Bx.alloc w1 30 [V u, V v]; simpa using h
      have X0_0 := X0.cell (j := 0) rfl
      have X0_1 := X0.cell (j := 1) rfl
      have X0_z := X0.lt
      have HsW2 := Lib.hid sW2
      have lW2 : w1.heap.size + 1 ≤ W2.heap.size := by omega
      clear hW2 sW2
      have hn := gW2
      clear gW2
      replace hx := hx.nx hn
      replace N := N.trans hn
      clear hn
      have hw2 : ∃ v, v = W2 := ⟨_, rfl⟩
      obtain ⟨w2, hw2⟩ := hw2
      subst hw2
      go_wp2_with fail
      refine (iSplit_t B d _ _ e1.out e3.out e2.out rfl hd hx (by omega)).mono ?_
      rintro e w3 ⟨AX1, cX1, AX2, cX2, rfl, hoX1, hoX2, _, _, hn⟩
      replace hx := hx.nx hn
      replace X0 := X0.nx hn
      replace X0_0 := X0.cell (j := 0) rfl
      replace X0_1 := X0.cell (j := 1) rfl
      replace X0_z := X0.lt
      replace N := N.trans hn
      clear hn
      have X1 := hoX1.intsAt
      have capX1 := hoX1.cap
      clear hoX1
      have X2 := hoX2.intsAt
      have capX2 := hoX2.cap
      clear hoX2
      go_wp2_with fail
      refine (sSplit_t B d _ _ e1.out e3.out e2.out rfl hd hx (by omega)).mono ?_
      rintro e w4 ⟨AX3, cX3, AX4, cX4, rfl, hoX3, hoX4, _, _, hn⟩
      replace hx := hx.nx hn
      replace X1 := X1.nx hn
      replace X2 := X2.nx hn
      replace X0 := X0.nx hn
      replace X0_0 := X0.cell (j := 0) rfl
      replace X0_1 := X0.cell (j := 1) rfl
      replace X0_z := X0.lt
      replace N := N.trans hn
      clear hn
      have X3 := hoX3.intsAt
      have capX3 := hoX3.cap
      clear hoX3
      have X4 := hoX4.intsAt
      have capX4 := hoX4.cap
      clear hoX4
      go_wp2_with fail
      refine (same_i (xs := []) _ _ _ _ _ X1 X3 (by simp)).mono ?_
      rintro e w5 ⟨rfl, hn⟩
      replace hx := hx.nx hn
      replace X1 := X1.nx hn
      replace X2 := X2.nx hn
      replace X3 := X3.nx hn
      replace X4 := X4.nx hn
      replace X0 := X0.nx hn
      replace X0_0 := X0.cell (j := 0) rfl
      replace X0_1 := X0.cell (j := 1) rfl
      replace X0_z := X0.lt
      replace N := N.trans hn
      clear hn
      go_wp2_with fail
      refine (same_i (xs := []) _ _ _ _ _ X2 X4 (by simp)).mono ?_
      rintro e w6 ⟨rfl, hn⟩
      replace hx := hx.nx hn
      replace X1 := X1.nx hn
      replace X2 := X2.nx hn
      replace X3 := X3.nx hn
      replace X4 := X4.nx hn
      replace X0 := X0.nx hn
      replace X0_0 := X0.cell (j := 0) rfl
      replace X0_1 := X0.cell (j := 1) rfl
      replace X0_z := X0.lt
      replace N := N.trans hn
      clear hn
      go_wp2_with fail
      refine (same_i (xs := []) _ _ _ _ _ X1 X3 (by simp)).mono ?_
      rintro e w7 ⟨rfl, hn⟩
      replace hx := hx.nx hn
      replace X1 := X1.nx hn
      replace X2 := X2.nx hn
      replace X3 := X3.nx hn
      replace X4 := X4.nx hn
      replace X0 := X0.nx hn
      replace X0_0 := X0.cell (j := 0) rfl
      replace X0_1 := X0.cell (j := 1) rfl
      replace X0_z := X0.lt
      replace N := N.trans hn
      clear hn
      go_wp2_with fail
      refine (same_i (xs := []) _ _ _ _ _ X2 X4 (by simp)).mono ?_
      rintro e w8 ⟨rfl, hn⟩
      replace hx := hx.nx hn
      replace X1 := X1.nx hn
      replace X2 := X2.nx hn
      replace X3 := X3.nx hn
      replace X4 := X4.nx hn
      replace X0 := X0.nx hn
      replace X0_0 := X0.cell (j := 0) rfl
      replace X0_1 := X0.cell (j := 1) rfl
      replace X0_z := X0.lt
      replace N := N.trans hn
      clear hn
      go_wp2
      go_ret
      exact RetV.bool (by first | rfl | simp) (by repeat (first | exact Nx.refl _ | assumption | apply Nx.alloc | apply Nx.drew | apply Nx.drewN | (refine Nx.setCell ?_ (by first | (simp; done) | (simp; omega) | omega) _) | refine Nx.trans ?_ (by assumption)))
end Go.Proofs.Ytbceoigmcomlbaa
