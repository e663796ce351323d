/- FnExactSetsValid: the walk. -/
import Derived.Test.YticjoichmcegnaaTA
import Derived.Test.YticjoichmcegnaaTC
import Derived.Deep.RegionHeld3
namespace Go.Proofs.Yticjoichmcegnaa
open Go.RowKit set_option linter.unusedVariables false set_option linter.unusedSimpArgs false

theorem toSets_s (A B C : Option Addr) (ca cb cc : Nat) (P Z : List Int) (T : Es) (w : World) (hA : IntsAt w A P) (hB : IntsAt w B Z) (hC : EdgesAt w C T) (l1 : P.length ≤ 1048576) (l2 : Z.length ≤ 1048576) (l3 : T.length ≤ 1048576) :
    Calls Try.prog 24 #[St A P.length ca B Z.length cb C T.length cc] w (RetSS ⟨P, Z, T⟩ id w) :=
  toSets_c A B C P.length Z.length T.length ca cb cc ⟨P, Z, T⟩ w hA hB hC rfl rfl rfl l1 l2 l3
theorem eqSets_yes (A B C A' B' C' : Option Addr) (ca cb cc ca' cb' cc' : Nat) (P Z : List Int) (T : Es) (w : World) (hA : IntsAt w A P) (hB : IntsAt w B Z) (hC : EdgesAt w C T) (hA' : IntsAt w A' P) (hB' : IntsAt w B' Z) (hC' : EdgesAt w C' T)
    (l1 : P.length ≤ 1048576) (l2 : Z.length ≤ 1048576) (l3 : T.length ≤ 1048576) :
    Calls Try.prog 25 #[St A P.length ca B Z.length cb C T.length cc, St A' P.length ca' B' Z.length cb' C' T.length cc'] w (RetV (.bool true) w) := by
  have h := eqSets_c A B C A' B' C' ca cb cc ca' cb' cc' P Z P Z T T w hA hB hC hA' hB' hC' l1 l2 l3 l1 l2 l3
  simpa using h

set_option maxRecDepth 100000 in
set_option maxHeartbeats 8000000 in
theorem fnExactSetsValid_walk (w : World) (A0 : Option Addr) (c0 : Nat) (P : List Int) (_ : P.length ≤ c0) (hm0 : Hid (P.length ≤ 9223372036854775807)) (hx0 : IntsAt w A0 P) (_ : ∀ n ∈ P, Fits n)
    (A1 : Option Addr) (c1 : Nat) (Z : List Int) (_ : Z.length ≤ c1) (hm1 : Hid (Z.length ≤ 9223372036854775807)) (hx1 : IntsAt w A1 Z) (_ : ∀ n ∈ Z, Fits n)
    (A2 : Option Addr) (c2 : Nat) (T : List (Int × Int)) (_ : T.length ≤ c2) (hm2 : Hid (T.length ≤ 9223372036854775807)) (hx2 : EdgesAt w A2 T) (_ : ∀ n ∈ T, FitsE n) :
    Calls Try.prog 5 #[St A0 P.length c0 A1 Z.length c1 A2 T.length c2] w (RetV (.bool true) w) := by
  have hsz := fun w' => szSets_c A0 A1 A2 P.length Z.length T.length c0 c1 c2 1048576 w' (by omega) (by omega) hm0.out hm1.out hm2.out
  have Hsz := Lib.hid hsz
  clear hsz
  by_cases hs0 : szS P.length Z.length T.length 1048576 < 0
  · generalize szS P.length Z.length T.length 1048576 = left at *
    go_enter Try.func5, Try.ntmps5
    go_wp2_with fail
    generalize hW1 : World.alloc _ _ = W1
    have gW1 : Nx w W1 := by subst hW1; exact (by repeat (first | exact Nx.refl _ | assumption | apply Nx.alloc | apply Nx.drew | apply Nx.drewN | (refine Nx.setCell ?_ (by first | (simp; done) | (simp; omega) | omega) _) | refine Nx.trans ?_ (by assumption)))
    have sW1 : W1.heap.size = w.heap.size + 1 := by subst hW1; simp
    have X0 : Bx W1 (w.heap.size) 42 [.slice A0 P.length c0, .slice A1 Z.length c1, .slice A2 T.length c2] := by subst hW1; have h := Bx.alloc w 42 [.slice A0 P.length c0, .slice A1 Z.length c1, .slice A2 T.length c2]; simpa using h
    have X0_0 := X0.cell (j := 0) rfl
    have X0_1 := X0.cell (j := 1) rfl
    have X0_2 := X0.cell (j := 2) rfl
    have X0_z := X0.lt
    have HsW1 := Lib.hid sW1
    have lW1 : w.heap.size + 1 ≤ W1.heap.size := by omega
    clear hW1 sW1
    refine (Hsz.out _).mono ?_
    rintro e w2 ⟨rfl, hn2⟩
    go_wp2
    go_ret
    exact RetV.bool rfl (gW1.trans hn2)
  · obtain ⟨l1, l2, l3, p0, p1⟩ := szS_ok hs0
    have l1 : P.length ≤ 1048576 := by omega
    have l2 : Z.length ≤ 1048576 := by omega
    have l3 : T.length ≤ 1048576 := by omega
    generalize szS P.length Z.length T.length 1048576 = left at *
    have Hto := Lib.hid (fun w' a b c => toSets_s A0 A1 A2 c0 c1 c2 P Z T w' a b c l1 l2 l3)
    have Hsv := Lib.hid (fun A B C ca cb cc w' a b c => sSetsValid_c A B C ca cb cc P.length Z.length T.length P Z T w' a b c rfl rfl rfl l1 l2 l3)
    have Hiv := Lib.hid (fun A B C ca cb cc w' a b c => iSetsValid_c A B C ca cb cc P.length Z.length T.length P Z T w' a b c rfl rfl rfl l1 l2 l3)
    obtain ⟨r, hr⟩ : ∃ r, decide (SV P Z T) = r := ⟨_, rfl⟩
    rw [hr] at Hsv Hiv
    clear hr
    go_enter Try.func5, Try.ntmps5
    go_wp2_with fail
    generalize hW1 : World.alloc _ _ = W1
    have gW1 : Nx w W1 := by subst hW1; exact (by repeat (first | exact Nx.refl _ | assumption | apply Nx.alloc | apply Nx.drew | apply Nx.drewN | (refine Nx.setCell ?_ (by first | (simp; done) | (simp; omega) | omega) _) | refine Nx.trans ?_ (by assumption)))
    have sW1 : W1.heap.size = w.heap.size + 1 := by subst hW1; simp
    have X0 : Bx W1 (w.heap.size) 42 [.slice A0 P.length c0, .slice A1 Z.length c1, .slice A2 T.length c2] := by subst hW1; have h := Bx.alloc w 42 [.slice A0 P.length c0, .slice A1 Z.length c1, .slice A2 T.length c2]; simpa using h
    have X0_0 := X0.cell (j := 0) rfl
    have X0_1 := X0.cell (j := 1) rfl
    have X0_2 := X0.cell (j := 2) rfl
    have X0_z := X0.lt
    have HsW1 := Lib.hid sW1
    have lW1 : w.heap.size + 1 ≤ W1.heap.size := by omega
    clear hW1 sW1
    have N := gW1
    refine (Hsz.out _).mono ?_
    rintro e w2 ⟨rfl, hn2⟩
    replace X0 := X0.nx hn2
    replace X0_0 := X0.cell (j := 0) rfl
    replace X0_1 := X0.cell (j := 1) rfl
    replace X0_2 := X0.cell (j := 2) rfl
    replace X0_z := X0.lt
    replace N := N.trans hn2
    go_wp2_with fail
    refine (Hto.out _ (hx0.nx N) (hx1.nx N) (hx2.nx N)).mono ?_
    rintro e w3 ⟨B0, d0, B1, d1, B2, d2, rfl, o0, o1, o2, _, _, _, hn3⟩
    replace X0 := X0.nx hn3
    replace X0_0 := X0.cell (j := 0) rfl
    replace X0_1 := X0.cell (j := 1) rfl
    replace X0_2 := X0.cell (j := 2) rfl
    replace X0_z := X0.lt
    replace N := N.trans hn3
    go_wp2_with fail
    refine (Hsv.out B0 B1 B2 d0 d1 d2 _ o0.intsAt o1.intsAt o2.edgesAt).mono ?_
    rintro e w4 ⟨rfl, hn4⟩
    replace X0 := X0.nx hn4
    replace X0_0 := X0.cell (j := 0) rfl
    replace X0_1 := X0.cell (j := 1) rfl
    replace X0_2 := X0.cell (j := 2) rfl
    replace X0_z := X0.lt
    replace N := N.trans hn4
    clear o0 o1 o2
    go_wp2_with fail
    refine (Hto.out _ (hx0.nx N) (hx1.nx N) (hx2.nx N)).mono ?_
    rintro e w5 ⟨E0, f0, E1, f1, E2, f2, rfl, o0, o1, o2, _, _, _, hn5⟩
    replace X0 := X0.nx hn5
    replace X0_0 := X0.cell (j := 0) rfl
    replace X0_1 := X0.cell (j := 1) rfl
    replace X0_2 := X0.cell (j := 2) rfl
    replace X0_z := X0.lt
    replace N := N.trans hn5
    go_wp2_with fail
    generalize hW6 : World.alloc _ _ = W6
    have gW6 : Nx w5 W6 := by subst hW6; exact (by repeat (first | exact Nx.refl _ | assumption | apply Nx.alloc | apply Nx.drew | apply Nx.drewN | (refine Nx.setCell ?_ (by first | (simp; done) | (simp; omega) | omega) _) | refine Nx.trans ?_ (by assumption)))
    have sW6 : W6.heap.size = w5.heap.size + 1 := by subst hW6; simp
    have G : Bx W6 (w5.heap.size) 37 [.slice E0 P.length f0, .slice E1 Z.length f1, .slice E2 T.length f2] := by subst hW6; have h := Bx.alloc w5 37 [.slice E0 P.length f0, .slice E1 Z.length f1, .slice E2 T.length f2]; simpa using h
    have G_0 := G.cell (j := 0) rfl
    have G_1 := G.cell (j := 1) rfl
    have G_2 := G.cell (j := 2) rfl
    have G_z := G.lt
    have HsW6 := Lib.hid sW6
    have lW6 : w5.heap.size + 1 ≤ W6.heap.size := by omega
    clear hW6 sW6
    replace X0 := X0.nx gW6
    replace X0_0 := X0.cell (j := 0) rfl
    replace X0_1 := X0.cell (j := 1) rfl
    replace X0_2 := X0.cell (j := 2) rfl
    replace X0_z := X0.lt
    replace N := N.trans gW6
    replace o0 := o0.nx gW6
    replace o1 := o1.nx gW6
    replace o2 := o2.nx gW6
    refine (Hiv.out E0 E1 E2 f0 f1 f2 _ o0.intsAt o1.intsAt o2.edgesAt).mono ?_
    rintro e w7 ⟨rfl, hn7⟩
    replace X0 := X0.nx hn7
    replace X0_0 := X0.cell (j := 0) rfl
    replace X0_1 := X0.cell (j := 1) rfl
    replace X0_2 := X0.cell (j := 2) rfl
    replace X0_z := X0.lt
    replace G := G.nx hn7
    replace G_0 := G.cell (j := 0) rfl
    replace G_1 := G.cell (j := 1) rfl
    replace G_2 := G.cell (j := 2) rfl
    replace G_z := G.lt
    replace N := N.trans hn7
    replace o0 := o0.nx hn7
    replace o1 := o1.nx hn7
    replace o2 := o2.nx hn7
    go_wp2_with fail
    have kp : ∀ w', Nx w7 w' → (fun w_ => Nx w7 w_ ∧ w_.cell? ⟨w.heap.size, 0, none⟩ = some (.slice A0 P.length c0) ∧ w_.cell? ⟨w.heap.size, 1, none⟩ = some (.slice A1 Z.length c1) ∧ w_.cell? ⟨w.heap.size, 2, none⟩ = some (.slice A2 T.length c2) ∧ w_.cell? ⟨w5.heap.size, 0, none⟩ = some (.slice E0 P.length f0) ∧ w_.cell? ⟨w5.heap.size, 1, none⟩ = some (.slice E1 Z.length f1) ∧ w_.cell? ⟨w5.heap.size, 2, none⟩ = some (.slice E2 T.length f2)) w' := fun w' h => ⟨h, h.cell X0_z X0_0, h.cell X0_z X0_1, h.cell X0_z X0_2, h.cell G_z G_0, h.cell G_z G_1, h.cell G_z G_2⟩
    have i0 := Lib.hid o0.intsAt
    have i1 := Lib.hid o1.intsAt
    have i2 := Lib.hid o2.edgesAt
    have hdr : Nx w7 w7.drew := .drew (.refl _)
    clear o0 o1 o2
    go_region_held3 (fun w_ => Nx w7 w_ ∧ w_.cell? ⟨w.heap.size, 0, none⟩ = some (.slice A0 P.length c0) ∧ w_.cell? ⟨w.heap.size, 1, none⟩ = some (.slice A1 Z.length c1) ∧ w_.cell? ⟨w.heap.size, 2, none⟩ = some (.slice A2 T.length c2) ∧ w_.cell? ⟨w5.heap.size, 0, none⟩ = some (.slice E0 P.length f0) ∧ w_.cell? ⟨w5.heap.size, 1, none⟩ = some (.slice E1 Z.length f1) ∧ w_.cell? ⟨w5.heap.size, 2, none⟩ = some (.slice E2 T.length f2))
      (first | exact kp _ hdr | exact kp _ hn8 | exact kp _ hn9)
      (first
        | (go_at_call 24; (with_reducible refine (Hto.out _ (hx0.nx (N.trans hdr)) (hx1.nx (N.trans hdr)) (hx2.nx (N.trans hdr))).mono ?_); rintro e w8 ⟨H0, g0, H1, g1, H2, g2, rfl, p0, p1, p2, _, _, _, hn78⟩; have hn8 : Nx w7 w8 := hdr.trans hn78)
        | (go_at_call 25; (with_reducible refine (eqSets_yes E0 E1 E2 H0 H1 H2 f0 f1 f2 g0 g1 g2 P Z T _ (i0.out.nx hn8) (i1.out.nx hn8) (i2.out.nx hn8) p0.intsAt p1.intsAt p2.edgesAt l1 l2 l3).mono ?_); rintro e w9 ⟨rfl, hn89⟩; have hn9 : Nx w7 w9 := hn8.trans hn89))
    go_wp2
    go_ret
    exact RetV.bool rfl (N.trans hn9)
end Go.Proofs.Yticjoichmcegnaa
