/- FnExactFormatGraph: the walk. -/
import Derived.Test.YtafhojiialmbcaaDoorFW
namespace Go.Proofs.YtafhojiialmbcaaDoor
open Go.RowKit set_option linter.unusedVariables false set_option linter.unusedSimpArgs false

set_option maxRecDepth 100000 in
set_option maxHeartbeats 8000000 in
theorem fnExactFormatGraph_walk (w : World) (n0 : Int) (_ : Fits n0) (A0 : Option Addr) (c0 : Nat) (es0 : Es) (hc0 : es0.length ≤ c0) (hm0 : Hid (es0.length ≤ 9223372036854775807)) (hx0 : EdgesAt w A0 es0) (_ : ∀ e ∈ es0, FitsE e) :
    Calls Tryd.prog 3 #[.agg #[V n0, .slice A0 es0.length c0]] w (RetV (.bool true) w) := by
  have hsz := fun w' => szGraph_c n0 A0 es0.length c0 1048576 w' (by omega) (by omega) hm0.out
  have Hsz := Lib.hid hsz
  clear hsz
  by_cases hs0 : szL es0.length 1048576 < 0
  · generalize szL es0.length 1048576 = left at *
    go_enter Tryd.func3, Tryd.ntmps3
    go_wp2_with fail
    generalize hW1 : World.alloc _ _ = W1
    have gW1 : Nx w W1 := by subst hW1; exact (by repeat (first | exact Nx.refl _ | assumption | apply Nx.alloc | apply Nx.drew | apply Nx.drewN | (refine Nx.setCell ?_ (by first | (simp; done) | (simp; omega) | omega) _) | refine Nx.trans ?_ (by assumption)))
    have sW1 : W1.heap.size = w.heap.size + 1 := by subst hW1; simp
    have X0 : Bx W1 (w.heap.size) 24 [V n0, .slice A0 es0.length c0] := by subst hW1; have h := Bx.alloc w 24 [V n0, .slice A0 es0.length c0]; simpa using h
    have X0_0 := X0.cell (j := 0) rfl
    have X0_1 := X0.cell (j := 1) rfl
    have X0_z := X0.lt
    have HsW1 := Lib.hid sW1
    have lW1 : w.heap.size + 1 ≤ W1.heap.size := by omega
    clear hW1 sW1
    refine (Hsz.out _).mono ?_
    rintro e w2 ⟨rfl, hn2⟩
    go_wp2
    go_ret
    exact RetV.bool rfl (gW1.trans hn2)
  · obtain ⟨l1, p0, p1⟩ := szL_ok hs0
    have l1 : es0.length ≤ 1048576 := by omega
    generalize szL es0.length 1048576 = left at *
    have Hto := Lib.hid (fun w' h => toGraph_c n0 A0 c0 es0 w' h l1)
    have Hsf := Lib.hid (fun A c w' h => sFormatGraph_c n0 A c es0 w' h l1)
    have Hif := Lib.hid (fun A c w' h => iFormatGraph_c n0 A c es0 w' h l1)
    have Heg := Lib.hid (fun A A' c c' w' h h' => (show Calls Tryd.prog 11 #[.agg #[V n0, .slice A es0.length c], .agg #[V n0, .slice A' es0.length c']] w' (RetV (.bool true) w') by have := eqGraph_c n0 n0 A A' c c' es0 es0 w' h h' l1 l1; simpa using this))
    generalize fmtL n0 es0 = T at *
    obtain ⟨l0, hl0⟩ : ∃ x, es0.length = x := ⟨_, rfl⟩
    unfold RetG at Hto
    simp only [hl0] at Hto Hsf Hif Heg Hsz l1 ⊢
    clear hl0 hs0 hm0
    go_enter Tryd.func3, Tryd.ntmps3
    go_wp2_with fail
    generalize hW1 : World.alloc _ _ = W1
    have gW1 : Nx w W1 := by subst hW1; exact (by repeat (first | exact Nx.refl _ | assumption | apply Nx.alloc | apply Nx.drew | apply Nx.drewN | (refine Nx.setCell ?_ (by first | (simp; done) | (simp; omega) | omega) _) | refine Nx.trans ?_ (by assumption)))
    have sW1 : W1.heap.size = w.heap.size + 1 := by subst hW1; simp
    have X0 : Bx W1 (w.heap.size) 24 [V n0, .slice A0 l0 c0] := by subst hW1; have h := Bx.alloc w 24 [V n0, .slice A0 l0 c0]; simpa using h
    have X0_0 := X0.cell (j := 0) rfl
    have X0_1 := X0.cell (j := 1) rfl
    have X0_z := X0.lt
    have HsW1 := Lib.hid sW1
    have lW1 : w.heap.size + 1 ≤ W1.heap.size := by omega
    clear hW1 sW1
    have N := gW1
    refine (Hsz.out _).mono ?_
    rintro e w2 ⟨rfl, hn2⟩
    replace X0 := X0.nx hn2
    replace X0_0 := X0.cell (j := 0) rfl
    replace X0_1 := X0.cell (j := 1) rfl
    replace X0_z := X0.lt
    replace N := N.trans hn2
    go_wp2_with fail
    refine (Hto.out _ (hx0.nx N)).mono ?_
    rintro e w3 ⟨B, d, rfl, oB, hn3⟩
    replace X0 := X0.nx hn3
    replace X0_0 := X0.cell (j := 0) rfl
    replace X0_1 := X0.cell (j := 1) rfl
    replace X0_z := X0.lt
    replace N := N.trans hn3
    go_wp2_with fail
    refine (Hsf.out B d _ oB.edgesAt).mono ?_
    rintro e w4 ⟨rfl, hn4⟩
    replace X0 := X0.nx hn4
    replace X0_0 := X0.cell (j := 0) rfl
    replace X0_1 := X0.cell (j := 1) rfl
    replace X0_z := X0.lt
    replace N := N.trans hn4
    clear oB
    go_wp2_with fail
    refine (Hto.out _ (hx0.nx N)).mono ?_
    rintro e w5 ⟨Y, y, rfl, oY, hn5⟩
    replace X0 := X0.nx hn5
    replace X0_0 := X0.cell (j := 0) rfl
    replace X0_1 := X0.cell (j := 1) rfl
    replace X0_z := X0.lt
    replace N := N.trans hn5
    go_wp2_with fail
    generalize hW6 : World.alloc _ _ = W6
    have gW6 : Nx w5 W6 := by subst hW6; exact (by repeat (first | exact Nx.refl _ | assumption | apply Nx.alloc | apply Nx.drew | apply Nx.drewN | (refine Nx.setCell ?_ (by first | (simp; done) | (simp; omega) | omega) _) | refine Nx.trans ?_ (by assumption)))
    have sW6 : W6.heap.size = w5.heap.size + 1 := by subst hW6; simp
    have X : Bx W6 (w5.heap.size) 29 [V n0, .slice Y l0 y] := by subst hW6; have h := Bx.alloc w5 29 [V n0, .slice Y l0 y]; simpa using h
    have X_0 := X.cell (j := 0) rfl
    have X_1 := X.cell (j := 1) rfl
    have X_z := X.lt
    have HsW6 := Lib.hid sW6
    have lW6 : w5.heap.size + 1 ≤ W6.heap.size := by omega
    clear hW6 sW6
    replace X0 := X0.nx gW6
    replace X0_0 := X0.cell (j := 0) rfl
    replace X0_1 := X0.cell (j := 1) rfl
    replace X0_z := X0.lt
    replace oY := oY.nx gW6
    replace N := N.trans gW6
    refine (Hif.out Y y _ oY.edgesAt).mono ?_
    rintro e w7 ⟨rfl, hn7⟩
    replace X0 := X0.nx hn7
    replace X0_0 := X0.cell (j := 0) rfl
    replace X0_1 := X0.cell (j := 1) rfl
    replace X0_z := X0.lt
    replace X := X.nx hn7
    replace X_0 := X.cell (j := 0) rfl
    replace X_1 := X.cell (j := 1) rfl
    replace X_z := X.lt
    replace oY := oY.nx hn7
    replace N := N.trans hn7
    have HoY := Lib.hid oY
    go_wp2_with fail
    have kp : ∀ w', Nx w7 w' → (fun w_ => Nx w7 w_ ∧ w_.cell? ⟨w.heap.size, 0, none⟩ = some (V n0) ∧ w_.cell? ⟨w.heap.size, 1, none⟩ = some (.slice A0 l0 c0) ∧ w_.cell? ⟨w5.heap.size, 0, none⟩ = some (V n0) ∧ w_.cell? ⟨w5.heap.size, 1, none⟩ = some (.slice Y l0 y)) w' := fun w' h => ⟨h, h.cell X0_z X0_0, h.cell X0_z X0_1, h.cell X_z X_0, h.cell X_z X_1⟩
    have hdr : Nx w7 w7.drew := .drew (.refl _)
    go_region_held3 (fun w_ => Nx w7 w_ ∧ w_.cell? ⟨w.heap.size, 0, none⟩ = some (V n0) ∧ w_.cell? ⟨w.heap.size, 1, none⟩ = some (.slice A0 l0 c0) ∧ w_.cell? ⟨w5.heap.size, 0, none⟩ = some (V n0) ∧ w_.cell? ⟨w5.heap.size, 1, none⟩ = some (.slice Y l0 y))
      (first | exact kp _ hdr | exact kp _ hh8 | exact kp _ hh9)
      (first
        | (go_at_call 9; (with_reducible refine (Hto.out _ (hx0.nx (N.trans hdr))).mono ?_); rintro e w8 ⟨K, kk, rfl, oK, hx8⟩; have hh8 : Nx w7 w8 := hdr.trans hx8)
        | (go_at_call 11; (with_reducible refine (Heg.out Y K y kk _ (HoY.out.nx hh8).edgesAt oK.edgesAt).mono ?_); rintro e w9 ⟨rfl, hx9⟩; have hh9 : Nx w7 w9 := hh8.trans hx9))
    go_wp2
    go_ret
    exact RetV.bool rfl (N.trans hh9)
end Go.Proofs.YtafhojiialmbcaaDoor
