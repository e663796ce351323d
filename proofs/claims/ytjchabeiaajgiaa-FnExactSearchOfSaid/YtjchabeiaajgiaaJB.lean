/- FnExactSearchOf: the walk. -/
import Derived.Test.YtjchabeiaajgiaaJ8
import Derived.Test.YtjchabeiaajgiaaG4
import Derived.Deep.RegionHeld3
namespace Go.Proofs.Ytjchabeiaajgiaa
open Go.RowKit set_option linter.unusedVariables false set_option linter.unusedSimpArgs false

set_option maxRecDepth 100000 in
set_option maxHeartbeats 8000000 in
theorem fnExactSearchOf_walk (w : World) (n0 : Int) (_ : Fits n0) (A0 : Option Addr) (c0 : Nat) (es0 : List (Int × Int)) (_ : es0.length ≤ c0) (hm0 : Hid (es0.length ≤ 9223372036854775807)) (hx0 : EdgesAt w A0 es0) (_ : ∀ n ∈ es0, FitsE n) :
    Calls Try.prog 4 #[.agg #[V n0, .slice A0 es0.length c0]] w (RetV (.bool true) w) := by
  have Hsz := Lib.hid (fun w' => szGraph_c n0 A0 es0.length c0 1048576 w' (by omega) (by omega) hm0.out)
  by_cases hs0 : szL es0.length 1048576 < 0
  · generalize szL es0.length 1048576 = left at *
    go_enter Try.func4, Try.ntmps4
    go_wp2_with fail
    generalize hW1 : World.alloc _ _ = W1
    have gW1 : Nx w W1 := by subst hW1; exact (by repeat (first | exact Nx.refl _ | assumption | apply Nx.alloc | apply Nx.drew | apply Nx.drewN | (refine Nx.setCell ?_ (by first | (simp; done) | (simp; omega) | omega) _) | refine Nx.trans ?_ (by assumption)))
    have sW1 : W1.heap.size = w.heap.size + 1 := by subst hW1; simp
    have X0 : Bx W1 (w.heap.size) 45 [V n0, .slice A0 es0.length c0] := by subst hW1; have h := Bx.alloc w 45 [V n0, .slice A0 es0.length c0]; simpa using h
    have X0_0 := X0.cell (j := 0) rfl
    have X0_1 := X0.cell (j := 1) rfl
    have X0_z := X0.lt
    have HsW1 := Lib.hid sW1
    have lW1 : w.heap.size + 1 ≤ W1.heap.size := by omega
    clear hW1 sW1
    refine (Hsz.out _).mono ?_
    rintro e w2 ⟨rfl, hn2⟩
    go_wp2
    go_ret
    exact RetV.bool rfl (gW1.trans hn2)
  · have hq0 := szL_ok hs0
    have hq0_0 : 0 ≤ szL es0.length 1048576 := hq0.2.1
    have hl : es0.length ≤ 1048576 := by omega
    generalize szL es0.length 1048576 = left at *
    obtain ⟨s, hs⟩ : ∃ s, seOf n0 es0 = s := ⟨_, rfl⟩
    obtain ⟨b, hb⟩ : ∃ b, decide (Valid n0 es0) = b := ⟨_, rfl⟩
    have hbb : (b != b) = false := by cases b <;> rfl
    have hlen := seOf_len n0 es0
    have Hsp := Lib.hid (fun A c w' h => (sSearchOf_c n0 A c es0 w' h hl).mono fun _ _ h => h.q)
    have Him := Lib.hid (fun A c w' h => (iSearchOf_c n0 A c es0 w' h hl).mono fun _ _ h => h.q)
    rw [hs] at hlen
    rw [hs, hb] at Hsp Him
    have m1 : s.N.length ≤ 1048576 := by omega
    have m2 : s.P.length ≤ 1048576 := by omega
    have m3 : s.L.length ≤ 1048576 := by omega
    have Hto := Lib.hid (fun w' h => toGraph_c n0 A0 c0 es0 w' h hl)
    have Hmk := Lib.hid (fun base A c w' h => markGraph_c 36 base n0 A c es0 1 w' h hl (by omega) (by omega))
    have Heq : Hid (∀ A A' c c' w', EdgesAt w' A es0 → EdgesAt w' A' es0 → Calls Try.prog 22 #[.agg #[V n0, .slice A es0.length c], .agg #[V n0, .slice A' es0.length c']] w' (RetV (.bool true) w')) := Lib.hid fun A A' c c' w' h h' => by
      have h1 := eqGraph_c n0 n0 A A' c c' es0 es0 w' h h' hl hl
      simpa using h1
    clear hs hb hlen hq0 hs0 hm0
    have Hmk2 := Lib.hid (fun lo hi A B C ca cb cc w' h h2 => markSe_r lo hi s A B C ca cb cc w' h h2 m1 m2 m3)
    have Heq2 := Lib.hid (fun lo hi lo' hi' A B C A' B' C' ca cb cc ca' cb' cc' w' h h' => eqSe_r lo hi lo' hi' s A B C A' B' C' ca cb cc ca' cb' cc' w' h h' m1 m2 m3)
    have Hhe := Lib.hid (fun lo hi A B C ca cb cc w' h => heldSe_r lo hi s.N.length s.P.length s.L.length A B C ca cb cc w' h m1 m2 m3)
    unfold RetQe at Hsp Him
    unfold RetG at Hto
    unfold MarkedE at Hmk
    obtain ⟨j1, hj1⟩ : ∃ x, s.N.length = x := ⟨_, rfl⟩
    obtain ⟨j2, hj2⟩ : ∃ x, s.P.length = x := ⟨_, rfl⟩
    obtain ⟨j3, hj3⟩ : ∃ x, s.L.length = x := ⟨_, rfl⟩
    simp only [hj1, hj2, hj3] at Hsp Him Hmk2 Heq2 Hhe m1 m2 m3
    clear hj1 hj2 hj3
    obtain ⟨m0, hm0⟩ : ∃ x, es0.length = x := ⟨_, rfl⟩
    simp only [hm0] at Hsz Hsp Him Hto Hmk Heq hl ⊢
    clear hm0
    go_enter Try.func4, Try.ntmps4
    go_wp2_with fail
    generalize hW1 : World.alloc _ _ = W1
    have gW1 : Nx w W1 := by subst hW1; exact (by repeat (first | exact Nx.refl _ | assumption | apply Nx.alloc | apply Nx.drew | apply Nx.drewN | (refine Nx.setCell ?_ (by first | (simp; done) | (simp; omega) | omega) _) | refine Nx.trans ?_ (by assumption)))
    have sW1 : W1.heap.size = w.heap.size + 1 := by subst hW1; simp
    have X0 : Bx W1 (w.heap.size) 45 [V n0, .slice A0 m0 c0] := by subst hW1; have h := Bx.alloc w 45 [V n0, .slice A0 m0 c0]; simpa using h
    have X0_0 := X0.cell (j := 0) rfl
    have X0_1 := X0.cell (j := 1) rfl
    have X0_z := X0.lt
    have HsW1 := Lib.hid sW1
    have lW1 : w.heap.size + 1 ≤ W1.heap.size := by omega
    clear hW1 sW1
    have N := gW1
    refine (Hsz.out _).mono ?_
    rintro e w2 ⟨rfl, hn2⟩
    replace X0 := X0.nx hn2
    replace X0_0 := X0.cell (j := 0) rfl
    replace X0_1 := X0.cell (j := 1) rfl
    replace X0_z := X0.lt
    replace N := N.trans hn2
    go_wp2_with fail
    refine (Hto.out _ (hx0.nx N)).mono ?_
    rintro e w3 ⟨B0, d0, rfl, o, hn3⟩
    replace X0 := X0.nx hn3
    replace X0_0 := X0.cell (j := 0) rfl
    replace X0_1 := X0.cell (j := 1) rfl
    replace X0_z := X0.lt
    replace N := N.trans hn3
    go_wp2_with fail
    refine (Hsp.out B0 d0 _ o.edgesAt).mono ?_
    rintro e w4 ⟨F0, f0, F1, f1, F2, f2, rfl, of, hn4⟩
    replace X0 := X0.nx hn4
    replace X0_0 := X0.cell (j := 0) rfl
    replace X0_1 := X0.cell (j := 1) rfl
    replace X0_z := X0.lt
    replace N := N.trans hn4
    have z4 := N.size
    clear o
    go_wp2_with fail
    generalize hW5 : World.alloc _ _ = W5
    have gW5 : Nx w4 W5 := by subst hW5; exact (by repeat (first | exact Nx.refl _ | assumption | apply Nx.alloc | apply Nx.drew | apply Nx.drewN | (refine Nx.setCell ?_ (by first | (simp; done) | (simp; omega) | omega) _) | refine Nx.trans ?_ (by assumption)))
    have sW5 : W5.heap.size = w4.heap.size + 1 := by subst hW5; simp
    have F : Bx W5 (w4.heap.size) 48 [.slice F0 j1 f0, .slice F1 j2 f1, .slice F2 j3 f2] := by subst hW5; have h := Bx.alloc w4 48 [.slice F0 j1 f0, .slice F1 j2 f1, .slice F2 j3 f2]; simpa using h
    have F_0 := F.cell (j := 0) rfl
    have F_1 := F.cell (j := 1) rfl
    have F_2 := F.cell (j := 2) rfl
    have F_z := F.lt
    have HsW5 := Lib.hid sW5
    have lW5 : w4.heap.size + 1 ≤ W5.heap.size := by omega
    clear hW5 sW5
    replace X0 := X0.nx gW5
    replace X0_0 := X0.cell (j := 0) rfl
    replace X0_1 := X0.cell (j := 1) rfl
    replace X0_z := X0.lt
    replace N := N.trans gW5
    replace of := of.nx gW5
    have z5 := gW5.size
    refine (Hto.out _ (hx0.nx N)).mono ?_
    rintro e w6 ⟨Y, y, rfl, oy, hn6⟩
    replace X0 := X0.nx hn6
    replace X0_0 := X0.cell (j := 0) rfl
    replace X0_1 := X0.cell (j := 1) rfl
    replace X0_z := X0.lt
    replace F := F.nx hn6
    replace F_0 := F.cell (j := 0) rfl
    replace F_1 := F.cell (j := 1) rfl
    replace F_2 := F.cell (j := 2) rfl
    replace F_z := F.lt
    replace N := N.trans hn6
    replace of := of.nx hn6
    have z6 := hn6.size
    have oyl : Hid (∀ k, blk Y = some k → W5.heap.size ≤ k ∧ k < w6.heap.size) := Lib.hid oy.lt
    go_wp2_with fail
    generalize hW7 : World.alloc _ _ = W7
    have gW7 : Nx w6 W7 := by subst hW7; exact (by repeat (first | exact Nx.refl _ | assumption | apply Nx.alloc | apply Nx.drew | apply Nx.drewN | (refine Nx.setCell ?_ (by first | (simp; done) | (simp; omega) | omega) _) | refine Nx.trans ?_ (by assumption)))
    have sW7 : W7.heap.size = w6.heap.size + 1 := by subst hW7; simp
    have X : Bx W7 (w6.heap.size) 26 [V n0, .slice Y m0 y] := by subst hW7; have h := Bx.alloc w6 26 [V n0, .slice Y m0 y]; simpa using h
    have X_0 := X.cell (j := 0) rfl
    have X_1 := X.cell (j := 1) rfl
    have X_z := X.lt
    have HsW7 := Lib.hid sW7
    have lW7 : w6.heap.size + 1 ≤ W7.heap.size := by omega
    clear hW7 sW7
    replace X0 := X0.nx gW7
    replace X0_0 := X0.cell (j := 0) rfl
    replace X0_1 := X0.cell (j := 1) rfl
    replace X0_z := X0.lt
    replace F := F.nx gW7
    replace F_0 := F.cell (j := 0) rfl
    replace F_1 := F.cell (j := 1) rfl
    replace F_2 := F.cell (j := 2) rfl
    replace F_z := F.lt
    replace N := N.trans gW7
    replace of := of.nx gW7
    replace oy := oy.nx gW7
    refine (Him.out Y y _ oy.edgesAt).mono ?_
    rintro e w8 ⟨G0, g0, G1, g1, G2, g2, rfl, og, hn8⟩
    replace X0 := X0.nx hn8
    replace X0_0 := X0.cell (j := 0) rfl
    replace X0_1 := X0.cell (j := 1) rfl
    replace X0_z := X0.lt
    replace F := F.nx hn8
    replace F_0 := F.cell (j := 0) rfl
    replace F_1 := F.cell (j := 1) rfl
    replace F_2 := F.cell (j := 2) rfl
    replace F_z := F.lt
    replace X := X.nx hn8
    replace X_0 := X.cell (j := 0) rfl
    replace X_1 := X.cell (j := 1) rfl
    replace X_z := X.lt
    replace N := N.trans hn8
    replace of := of.nx hn8
    replace oy := oy.nx hn8
    have z8 := hn8.size
    go_wp2_with fail
    generalize hW9 : World.alloc _ _ = W9
    have gW9 : Nx w8 W9 := by subst hW9; exact (by repeat (first | exact Nx.refl _ | assumption | apply Nx.alloc | apply Nx.drew | apply Nx.drewN | (refine Nx.setCell ?_ (by first | (simp; done) | (simp; omega) | omega) _) | refine Nx.trans ?_ (by assumption)))
    have sW9 : W9.heap.size = w8.heap.size + 1 := by subst hW9; simp
    have G : Bx W9 (w8.heap.size) 48 [.slice G0 j1 g0, .slice G1 j2 g1, .slice G2 j3 g2] := by subst hW9; have h := Bx.alloc w8 48 [.slice G0 j1 g0, .slice G1 j2 g1, .slice G2 j3 g2]; simpa using h
    have G_0 := G.cell (j := 0) rfl
    have G_1 := G.cell (j := 1) rfl
    have G_2 := G.cell (j := 2) rfl
    have G_z := G.lt
    have HsW9 := Lib.hid sW9
    have lW9 : w8.heap.size + 1 ≤ W9.heap.size := by omega
    clear hW9 sW9
    replace X0 := X0.nx gW9
    replace X0_0 := X0.cell (j := 0) rfl
    replace X0_1 := X0.cell (j := 1) rfl
    replace X0_z := X0.lt
    replace F := F.nx gW9
    replace F_0 := F.cell (j := 0) rfl
    replace F_1 := F.cell (j := 1) rfl
    replace F_2 := F.cell (j := 2) rfl
    replace F_z := F.lt
    replace X := X.nx gW9
    replace X_0 := X.cell (j := 0) rfl
    replace X_1 := X.cell (j := 1) rfl
    replace X_z := X.lt
    replace N := N.trans gW9
    replace of := of.nx gW9
    replace oy := oy.nx gW9
    replace og := og.nx gW9
    refine (Heq2.out _ _ _ _ G0 G1 G2 F0 F1 F2 g0 g1 g2 f0 f1 f2 _ og of).mono ?_
    rintro e w10 ⟨rfl, hn10⟩
    replace X0 := X0.nx hn10
    replace X0_0 := X0.cell (j := 0) rfl
    replace X0_1 := X0.cell (j := 1) rfl
    replace X0_z := X0.lt
    replace F := F.nx hn10
    replace F_0 := F.cell (j := 0) rfl
    replace F_1 := F.cell (j := 1) rfl
    replace F_2 := F.cell (j := 2) rfl
    replace F_z := F.lt
    replace X := X.nx hn10
    replace X_0 := X.cell (j := 0) rfl
    replace X_1 := X.cell (j := 1) rfl
    replace X_z := X.lt
    replace G := G.nx hn10
    replace G_0 := G.cell (j := 0) rfl
    replace G_1 := G.cell (j := 1) rfl
    replace G_2 := G.cell (j := 2) rfl
    replace G_z := G.lt
    replace N := N.trans hn10
    replace of := of.nx hn10
    replace oy := oy.nx hn10
    replace og := og.nx hn10
    have z10 := hn10.size
    go_wp2_with fail
    have kp : ∀ w', Nx w10 w' → (fun w_ => Nx w10 w_ ∧ w_.cell? ⟨w.heap.size, 0, none⟩ = some (V n0) ∧ w_.cell? ⟨w.heap.size, 1, none⟩ = some (.slice A0 m0 c0) ∧ w_.cell? ⟨w6.heap.size, 0, none⟩ = some (V n0) ∧ w_.cell? ⟨w6.heap.size, 1, none⟩ = some (.slice Y m0 y)) w' := fun w' h => ⟨h, h.cell X0_z X0_0, h.cell X0_z X0_1, h.cell X_z X_0, h.cell X_z X_1⟩
    have hdr : Nx w10 w10.drew := .drew (.refl _)
    have Hoy := Lib.hid oy
    go_region_held3 (fun w_ => Nx w10 w_ ∧ w_.cell? ⟨w.heap.size, 0, none⟩ = some (V n0) ∧ w_.cell? ⟨w.heap.size, 1, none⟩ = some (.slice A0 m0 c0) ∧ w_.cell? ⟨w6.heap.size, 0, none⟩ = some (V n0) ∧ w_.cell? ⟨w6.heap.size, 1, none⟩ = some (.slice Y m0 y))
      (first | exact kp _ hdr | exact kp _ hn11 | exact kp _ hn12)
      (first
        | (go_at_call 19; (with_reducible refine (Hto.out _ (hx0.nx (N.trans hdr))).mono ?_); rintro e w11 ⟨K0, k0, rfl, ok, hn0⟩; have hn11 : Nx w10 w11 := hdr.trans hn0)
        | (go_at_call 22; (with_reducible refine (Heq.out Y K0 y k0 _ (Hoy.out.edgesAt.nx hn11) ok.edgesAt).mono ?_); rintro e w12 ⟨rfl, hn0⟩; have hn12 : Nx w10 w12 := hn11.trans hn0))
    clear kp hn11
    replace X0 := X0.nx hn12
    replace X0_0 := X0.cell (j := 0) rfl
    replace X0_1 := X0.cell (j := 1) rfl
    replace X0_z := X0.lt
    replace F := F.nx hn12
    replace F_0 := F.cell (j := 0) rfl
    replace F_1 := F.cell (j := 1) rfl
    replace F_2 := F.cell (j := 2) rfl
    replace F_z := F.lt
    replace X := X.nx hn12
    replace X_0 := X.cell (j := 0) rfl
    replace X_1 := X.cell (j := 1) rfl
    replace X_z := X.lt
    replace G := G.nx hn12
    replace G_0 := G.cell (j := 0) rfl
    replace G_1 := G.cell (j := 1) rfl
    replace G_2 := G.cell (j := 2) rfl
    replace G_z := G.lt
    replace N := N.trans hn12
    replace of := of.nx hn12
    replace oy := oy.nx hn12
    replace og := og.nx hn12
    have z12 := hn12.size
    go_wp2_with fail
    refine (Hmk.out _ Y y _ oy).mono ?_
    rintro e w13 ⟨rfl, _, gx0⟩
    have gx : Gx (fun k => W5.heap.size ≤ k ∧ k < w6.heap.size) w12 w13 := (Gx.refl _ w12).grown gx0 fun j e => .inl (oyl.out j e)
    clear gx0
    have z13 := gx.size
    clear X0_0 X0_1 X0_z F_0 F_1 F_2 F_z X_0 X_1 X_z G_0 G_1 G_2 G_z
    replace X0 := gx.bx X0 (by omega)
    replace F := gx.bx F (by omega)
    replace X := gx.bx X (by omega)
    replace G := gx.bx G (by omega)
    replace N := gx.back N (fun k hk => by omega)
    replace of := of.gx gx (.inl (by omega))
    replace og := og.gx gx (.inr (by omega))
    clear gx oy hn12
    have X0_0 := X0.cell (j := 0) rfl
    have X0_1 := X0.cell (j := 1) rfl
    have X0_z := X0.lt
    have F_0 := F.cell (j := 0) rfl
    have F_1 := F.cell (j := 1) rfl
    have F_2 := F.cell (j := 2) rfl
    have F_z := F.lt
    have X_0 := X.cell (j := 0) rfl
    have X_1 := X.cell (j := 1) rfl
    have X_z := X.lt
    have G_0 := G.cell (j := 0) rfl
    have G_1 := G.cell (j := 1) rfl
    have G_2 := G.cell (j := 2) rfl
    have G_z := G.lt
    go_wp2_with fail
    refine (Heq2.out _ _ _ _ G0 G1 G2 F0 F1 F2 g0 g1 g2 f0 f1 f2 _ og of).mono ?_
    rintro e w14 ⟨rfl, hn14⟩
    replace X0 := X0.nx hn14
    replace X0_0 := X0.cell (j := 0) rfl
    replace X0_1 := X0.cell (j := 1) rfl
    replace X0_z := X0.lt
    replace F := F.nx hn14
    replace F_0 := F.cell (j := 0) rfl
    replace F_1 := F.cell (j := 1) rfl
    replace F_2 := F.cell (j := 2) rfl
    replace F_z := F.lt
    replace X := X.nx hn14
    replace X_0 := X.cell (j := 0) rfl
    replace X_1 := X.cell (j := 1) rfl
    replace X_z := X.lt
    replace G := G.nx hn14
    replace G_0 := G.cell (j := 0) rfl
    replace G_1 := G.cell (j := 1) rfl
    replace G_2 := G.cell (j := 2) rfl
    replace G_z := G.lt
    replace N := N.trans hn14
    replace of := of.nx hn14
    replace og := og.nx hn14
    have z14 := hn14.size
    go_wp2_with fail
    refine (Hmk2.out _ _ G0 G1 G2 g0 g1 g2 _ og (by omega)).mono ?_
    rintro e w15 ⟨rfl, om, gx⟩
    have z15 := gx.size
    clear X0_0 X0_1 X0_z F_0 F_1 F_2 F_z X_0 X_1 X_z G_0 G_1 G_2 G_z
    replace X0 := gx.bx X0 (by omega)
    replace F := gx.bx F (by omega)
    replace G := gx.bx G (by omega)
    replace N := gx.back N (fun k hk => by omega)
    replace of := of.gx gx (.inl (by omega))
    clear gx og X
    have X0_0 := X0.cell (j := 0) rfl
    have X0_1 := X0.cell (j := 1) rfl
    have X0_z := X0.lt
    have F_0 := F.cell (j := 0) rfl
    have F_1 := F.cell (j := 1) rfl
    have F_2 := F.cell (j := 2) rfl
    have F_z := F.lt
    have G_0 := G.cell (j := 0) rfl
    have G_1 := G.cell (j := 1) rfl
    have G_2 := G.cell (j := 2) rfl
    have G_z := G.lt
    go_wp2_with fail
    refine (Hhe.out _ _ G0 G1 G2 g0 g1 g2 _ om).mono ?_
    rintro e w16 ⟨rfl, hn16⟩
    replace X0 := X0.nx hn16
    replace X0_0 := X0.cell (j := 0) rfl
    replace X0_1 := X0.cell (j := 1) rfl
    replace X0_z := X0.lt
    replace F := F.nx hn16
    replace F_0 := F.cell (j := 0) rfl
    replace F_1 := F.cell (j := 1) rfl
    replace F_2 := F.cell (j := 2) rfl
    replace F_z := F.lt
    replace G := G.nx hn16
    replace G_0 := G.cell (j := 0) rfl
    replace G_1 := G.cell (j := 1) rfl
    replace G_2 := G.cell (j := 2) rfl
    replace G_z := G.lt
    replace N := N.trans hn16
    replace of := of.nx hn16
    replace om := om.nx hn16
    go_wp2_with fail
    refine (Hto.out _ (hx0.nx N)).mono ?_
    rintro e w17 ⟨K0, k0, rfl, ok, hn17⟩
    replace X0 := X0.nx hn17
    replace X0_0 := X0.cell (j := 0) rfl
    replace X0_1 := X0.cell (j := 1) rfl
    replace X0_z := X0.lt
    replace F := F.nx hn17
    replace F_0 := F.cell (j := 0) rfl
    replace F_1 := F.cell (j := 1) rfl
    replace F_2 := F.cell (j := 2) rfl
    replace F_z := F.lt
    replace G := G.nx hn17
    replace G_0 := G.cell (j := 0) rfl
    replace G_1 := G.cell (j := 1) rfl
    replace G_2 := G.cell (j := 2) rfl
    replace G_z := G.lt
    replace N := N.trans hn17
    replace of := of.nx hn17
    replace om := om.nx hn17
    go_wp2_with fail
    refine (Him.out K0 k0 _ ok.edgesAt).mono ?_
    rintro e w18 ⟨H0, h0, H1, h1, H2, h2, rfl, oh, hn18⟩
    replace X0 := X0.nx hn18
    replace X0_0 := X0.cell (j := 0) rfl
    replace X0_1 := X0.cell (j := 1) rfl
    replace X0_z := X0.lt
    replace F := F.nx hn18
    replace F_0 := F.cell (j := 0) rfl
    replace F_1 := F.cell (j := 1) rfl
    replace F_2 := F.cell (j := 2) rfl
    replace F_z := F.lt
    replace G := G.nx hn18
    replace G_0 := G.cell (j := 0) rfl
    replace G_1 := G.cell (j := 1) rfl
    replace G_2 := G.cell (j := 2) rfl
    replace G_z := G.lt
    replace N := N.trans hn18
    replace of := of.nx hn18
    replace om := om.nx hn18
    clear ok
    go_wp2_with fail
    generalize hW19 : World.alloc _ _ = W19
    have gW19 : Nx w18 W19 := by subst hW19; exact (by repeat (first | exact Nx.refl _ | assumption | apply Nx.alloc | apply Nx.drew | apply Nx.drewN | (refine Nx.setCell ?_ (by first | (simp; done) | (simp; omega) | omega) _) | refine Nx.trans ?_ (by assumption)))
    have sW19 : W19.heap.size = w18.heap.size + 1 := by subst hW19; simp
    have H : Bx W19 (w18.heap.size) 48 [.slice H0 j1 h0, .slice H1 j2 h1, .slice H2 j3 h2] := by subst hW19; have h := Bx.alloc w18 48 [.slice H0 j1 h0, .slice H1 j2 h1, .slice H2 j3 h2]; simpa using h
    have H_0 := H.cell (j := 0) rfl
    have H_1 := H.cell (j := 1) rfl
    have H_2 := H.cell (j := 2) rfl
    have H_z := H.lt
    have HsW19 := Lib.hid sW19
    have lW19 : w18.heap.size + 1 ≤ W19.heap.size := by omega
    clear hW19 sW19
    replace X0 := X0.nx gW19
    replace X0_0 := X0.cell (j := 0) rfl
    replace X0_1 := X0.cell (j := 1) rfl
    replace X0_z := X0.lt
    replace F := F.nx gW19
    replace F_0 := F.cell (j := 0) rfl
    replace F_1 := F.cell (j := 1) rfl
    replace F_2 := F.cell (j := 2) rfl
    replace F_z := F.lt
    replace G := G.nx gW19
    replace G_0 := G.cell (j := 0) rfl
    replace G_1 := G.cell (j := 1) rfl
    replace G_2 := G.cell (j := 2) rfl
    replace G_z := G.lt
    replace N := N.trans gW19
    replace of := of.nx gW19
    replace om := om.nx gW19
    replace oh := oh.nx gW19
    refine (Heq2.out _ _ _ _ H0 H1 H2 F0 F1 F2 h0 h1 h2 f0 f1 f2 _ oh of).mono ?_
    rintro e w20 ⟨rfl, hn20⟩
    replace X0 := X0.nx hn20
    replace X0_0 := X0.cell (j := 0) rfl
    replace X0_1 := X0.cell (j := 1) rfl
    replace X0_z := X0.lt
    replace F := F.nx hn20
    replace F_0 := F.cell (j := 0) rfl
    replace F_1 := F.cell (j := 1) rfl
    replace F_2 := F.cell (j := 2) rfl
    replace F_z := F.lt
    replace G := G.nx hn20
    replace G_0 := G.cell (j := 0) rfl
    replace G_1 := G.cell (j := 1) rfl
    replace G_2 := G.cell (j := 2) rfl
    replace G_z := G.lt
    replace N := N.trans hn20
    replace om := om.nx hn20
    clear oh of
    go_wp2_with fail
    refine (Hhe.out _ _ G0 G1 G2 g0 g1 g2 _ om).mono ?_
    rintro e w21 ⟨rfl, hn21⟩
    replace G := G.nx hn21
    replace G_0 := G.cell (j := 0) rfl
    replace G_1 := G.cell (j := 1) rfl
    replace G_2 := G.cell (j := 2) rfl
    replace G_z := G.lt
    replace N := N.trans hn21
    go_wp2
    go_ret
    exact RetV.bool rfl N
end Go.Proofs.Ytjchabeiaajgiaa
