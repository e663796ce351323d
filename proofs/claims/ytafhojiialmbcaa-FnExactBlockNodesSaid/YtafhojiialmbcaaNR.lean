/- FnExactBlockNodes: the walk. -/
import Derived.Test.YtafhojiialmbcaaNQ
import Derived.Test.YtafhojiialmbcaaH
import Derived.Test.YtafhojiialmbcaaG4
import Derived.Deep.RegionHeld3
namespace Go.Proofs.Ytafhojiialmbcaa
open Go.RowKit set_option linter.unusedVariables false set_option linter.unusedSimpArgs false

/-- numbers to be read, in a block from lo to hi -/
structure RdI (w : World) (lo hi : Nat) (A : Option Addr) (xs : List Int) : Prop where
  a : IntsAt w A xs
  l : ∀ k, blk A = some k → lo ≤ k ∧ k < hi
theorem RdI.nx {w w' : World} {lo hi : Nat} {A : Option Addr} {xs : List Int} (h : RdI w lo hi A xs) (hn : Nx w w') : RdI w' lo hi A xs := ⟨h.a.nx hn, h.l⟩
theorem RdI.gx {w w' : World} {lo hi : Nat} {A : Option Addr} {xs : List Int} {p : Nat → Prop} (h : RdI w lo hi A xs) (g : Gx p w w') (hp : ∀ k, lo ≤ k → k < hi → ¬ p k) : RdI w' lo hi A xs := ⟨g.ints h.a fun k hk => hp k (h.l k hk).1 (h.l k hk).2, h.l⟩
/-- numbers of one's own -/
structure WrI (w : World) (lo hi : Nat) (A : Option Addr) (c : Nat) (xs : List Int) : Prop where
  a : OwnI w lo 3 A c xs
  l : ∀ k, blk A = some k → lo ≤ k ∧ k < hi
theorem WrI.nx {w w' : World} {lo hi c : Nat} {A : Option Addr} {xs : List Int} (h : WrI w lo hi A c xs) (hn : Nx w w') : WrI w' lo hi A c xs := ⟨h.a.nx hn, h.l⟩
theorem WrI.rd {w : World} {lo hi c : Nat} {A : Option Addr} {xs : List Int} (h : WrI w lo hi A c xs) : RdI w lo hi A xs := ⟨h.a.intsAt, h.l⟩
theorem OwnI.gxI {p : Nat → Prop} {a w : World} {base c : Nat} {t : TypeId} {A : Option Addr} {es : List Int} (h : OwnI a base t A c es) (g : Gx p a w) (hp : ∀ k, blk A = some k → ¬ p k) : OwnI w base t A c es := by
  refine ⟨h.1, ?_⟩
  rcases h.2 with h1 | ⟨b, cap, cur, h1, h2, h3, h4⟩
  · exact .inl h1
  · injection h1 with hA _ hc
    subst hA; subst hc
    exact .inr ⟨b, c, cur, rfl, h2, (g.block b (Array.getElem?_eq_some_iff.1 h3).1 (hp b rfl)).trans h3, h4⟩
theorem WrI.gx {w w' : World} {lo hi c : Nat} {A : Option Addr} {xs : List Int} {p : Nat → Prop} (h : WrI w lo hi A c xs) (g : Gx p w w') (hp : ∀ k, lo ≤ k → k < hi → ¬ p k) : WrI w' lo hi A c xs := ⟨h.a.gxI g fun k hk => hp k (h.l k hk).1 (h.l k hk).2, h.l⟩

set_option maxRecDepth 100000 in
set_option maxHeartbeats 8000000 in
theorem fnExactBlockNodes_walk (w : World) (n0 : Int) (_ : Fits n0) (A0 : Option Addr) (c0 : Nat) (es0 : List (Int × Int)) (_ : es0.length ≤ c0) (hm0 : Hid (es0.length ≤ 9223372036854775807)) (hx0 : EdgesAt w A0 es0) (_ : ∀ n ∈ es0, FitsE n) (x1 y1 : Int) (_ : Fits x1) (_ : Fits y1) :
    Calls Try.prog 8 #[.agg #[V n0, .slice A0 es0.length c0], Ed x1 y1] w (RetV (.bool true) w) := by
  have hsz := fun w' => szGraph_c n0 A0 es0.length c0 1048576 w' (by omega) (by omega) hm0.out
  have Hsz := Lib.hid hsz
  clear hsz
  by_cases hs0 : szL es0.length 1048576 < 0
  · generalize szL es0.length 1048576 = left at *
    go_enter Try.func8, Try.ntmps8
    go_wp2_with fail
    generalize hW1 : World.alloc _ _ = W1
    have gW1 : Nx w W1 := by subst hW1; exact (by repeat (first | exact Nx.refl _ | assumption | apply Nx.alloc | apply Nx.drew | apply Nx.drewN | (refine Nx.setCell ?_ (by first | (simp; done) | (simp; omega) | omega) _) | refine Nx.trans ?_ (by assumption)))
    have sW1 : W1.heap.size = w.heap.size + 2 := by subst hW1; simp
    have X0 : Bx W1 (w.heap.size) 24 [V n0, .slice A0 es0.length c0] := by subst hW1; have h := Bx.alloc w 24 [V n0, .slice A0 es0.length c0]; have h := h.nx (Nx.alloc (Nx.refl _) (.cells #[V x1, V y1] 60)); simpa using h
    have X1 : Bx W1 (w.heap.size + 1) 60 [V x1, V y1] := by subst hW1; have h := Bx.alloc (w.alloc (.cells #[V n0, .slice A0 es0.length c0] 24)) 60 [V x1, V y1]; simpa using h
    have X0_0 := X0.cell (j := 0) rfl
    have X0_1 := X0.cell (j := 1) rfl
    have X0_z := X0.lt
    have X1_0 := X1.cell (j := 0) rfl
    have X1_1 := X1.cell (j := 1) rfl
    have X1_z := X1.lt
    have HsW1 := Lib.hid sW1
    have lW1 : w.heap.size + 2 ≤ W1.heap.size := by omega
    clear hW1 sW1
    refine (Hsz.out _).mono ?_
    rintro e w2 ⟨rfl, hn2⟩
    go_wp2
    go_ret
    exact RetV.bool rfl (gW1.trans hn2)
  · obtain ⟨l1, p0, p1⟩ := szL_ok hs0
    have l1 : es0.length ≤ 1048576 := by omega
    generalize szL es0.length 1048576 = left at *
    obtain ⟨b, xs, m1, Hsp, Him⟩ : ∃ (b : Bool) (xs : List Int), xs.length ≤ 1048576 ∧
        Hid (∀ A c w', EdgesAt w' A es0 → Calls Try.prog 43 #[.agg #[V n0, .slice A es0.length c], Ed x1 y1] w' (RetO xs (tupB b) w')) ∧
        Hid (∀ A c w', EdgesAt w' A es0 → es0.length ≤ c → Calls Try.prog 45 #[.agg #[V n0, .slice A es0.length c], Ed x1 y1] w' (RetO xs (tupB b) w')) := by
      by_cases h : HasB n0 es0 x1 y1
      · have h01 := h.1.1
        have h16 := h.1.2.1
        obtain ⟨n, rfl⟩ := Int.eq_ofNat_of_zero_le (show 0 ≤ n0 by omega)
        refine ⟨true, bnL n es0 (x1, y1), ?_, Lib.hid fun A c w' a => sBlockNodes_yes n A c es0 x1 y1 w' a l1 h, Lib.hid fun A c w' a d => iBlockNodes_yes n A c es0 x1 y1 w' a l1 d h⟩
        have := byK_len (onB (bkOf n es0 (x1, y1))) n
        unfold bnL nodesL
        omega
      · exact ⟨false, [], by simp, Lib.hid fun A c w' a => sBlockNodes_no n0 A c es0 x1 y1 w' a l1 h, Lib.hid fun A c w' a d => iBlockNodes_no n0 A c es0 x1 y1 w' a l1 h⟩
    have Hto := Lib.hid (fun w' h => toGraph_c n0 A0 c0 es0 w' h l1)
    have Heg := Lib.hid (fun A A' c c' w' h h' => (show Calls Try.prog 16 #[.agg #[V n0, .slice A es0.length c], .agg #[V n0, .slice A' es0.length c']] w' (RetV (.bool true) w') by have := eqGraph_c n0 n0 A A' c c' es0 es0 w' h h' l1 l1; simpa using this))
    have Hmg := Lib.hid (fun base A c w' h => markGraph_c 44 base n0 A c es0 1 w' h l1 (by omega) (by omega))
    have Heq := Lib.hid (fun A A' c c' w' h h' => (show Calls Try.prog 33 #[.slice A xs.length c, .slice A' xs.length c'] w' (RetV (.bool true) w') by have := eqIntS_c A A' c c' xs xs w' h h' m1 m1; simpa using this))
    have Hmi := Lib.hid (fun base A c cv w' h => markIntS_v 3 base A c cv xs 1 w' h m1 (by omega) (by omega))
    have Hhe := Lib.hid (fun A c w' h => heldIntS_c A c xs.length 1 w' h m1 (by omega) (by omega))
    obtain ⟨l0, hl0⟩ : ∃ x, es0.length = x := ⟨_, rfl⟩
    obtain ⟨j0, hj0⟩ : ∃ x, xs.length = x := ⟨_, rfl⟩
    unfold RetO at Hsp Him
    unfold RetG at Hto
    unfold MarkedE at Hmg
    unfold MarkedI at Hmi
    simp only [hl0, hj0] at Hsp Him Hto Heg Hmg Heq Hmi Hhe Hsz l1 m1 ⊢
    have Hl0 := Lib.hid hl0
    clear hl0 hj0 hs0 hm0
    go_enter Try.func8, Try.ntmps8
    go_wp2_with fail
    generalize hW1 : World.alloc _ _ = W1
    have gW1 : Nx w W1 := by subst hW1; exact (by repeat (first | exact Nx.refl _ | assumption | apply Nx.alloc | apply Nx.drew | apply Nx.drewN | (refine Nx.setCell ?_ (by first | (simp; done) | (simp; omega) | omega) _) | refine Nx.trans ?_ (by assumption)))
    have sW1 : W1.heap.size = w.heap.size + 2 := by subst hW1; simp
    have X0 : Bx W1 (w.heap.size) 24 [V n0, .slice A0 l0 c0] := by subst hW1; have h := Bx.alloc w 24 [V n0, .slice A0 l0 c0]; have h := h.nx (Nx.alloc (Nx.refl _) (.cells #[V x1, V y1] 60)); simpa using h
    have X1 : Bx W1 (w.heap.size + 1) 60 [V x1, V y1] := by subst hW1; have h := Bx.alloc (w.alloc (.cells #[V n0, .slice A0 l0 c0] 24)) 60 [V x1, V y1]; simpa using h
    have X0_0 := X0.cell (j := 0) rfl
    have X0_1 := X0.cell (j := 1) rfl
    have X0_z := X0.lt
    have X1_0 := X1.cell (j := 0) rfl
    have X1_1 := X1.cell (j := 1) rfl
    have X1_z := X1.lt
    have HsW1 := Lib.hid sW1
    have lW1 : w.heap.size + 2 ≤ W1.heap.size := by omega
    clear hW1 sW1
    have N := gW1
    refine (Hsz.out _).mono ?_
    rintro e w2 ⟨rfl, hn2⟩
    replace X0 := X0.nx hn2
    replace X0_0 := X0.cell (j := 0) rfl
    replace X0_1 := X0.cell (j := 1) rfl
    replace X0_z := X0.lt
    replace X1 := X1.nx hn2
    replace X1_0 := X1.cell (j := 0) rfl
    replace X1_1 := X1.cell (j := 1) rfl
    replace X1_z := X1.lt
    replace N := N.trans hn2
    have zz2 := hn2.size
    go_wp2_with fail
    have kp : ∀ w', Nx w2 w' → (fun w_ => Nx w2 w_ ∧ w_.cell? ⟨w.heap.size, 0, none⟩ = some (V n0) ∧ w_.cell? ⟨w.heap.size, 1, none⟩ = some (.slice A0 l0 c0) ∧ w_.cell? ⟨w.heap.size + 1, 0, none⟩ = some (V x1) ∧ w_.cell? ⟨w.heap.size + 1, 1, none⟩ = some (V y1)) w' := fun w' h => ⟨h, h.cell X0_z X0_0, h.cell X0_z X0_1, h.cell X1_z X1_0, h.cell X1_z X1_1⟩
    have hdr : Nx w2 w2.drew := .drew (.refl _)
    go_region_held3 (fun w_ => Nx w2 w_ ∧ w_.cell? ⟨w.heap.size, 0, none⟩ = some (V n0) ∧ w_.cell? ⟨w.heap.size, 1, none⟩ = some (.slice A0 l0 c0) ∧ w_.cell? ⟨w.heap.size + 1, 0, none⟩ = some (V x1) ∧ w_.cell? ⟨w.heap.size + 1, 1, none⟩ = some (V y1))
      (first | exact kp _ hdr | exact kp _ hh3 | exact kp _ hh4 | exact kp _ hh5)
      (first
        | (go_at_call 13; (with_reducible refine (Hto.out _ (hx0.nx (N.trans hdr))).mono ?_); rintro e w3 ⟨B, d, rfl, oB, hx3⟩; have hh3 : Nx w2 w3 := hdr.trans hx3)
        | (go_at_call 44; (with_reducible refine (toEdge_c x1 y1 _).mono ?_); rintro e w4 ⟨rfl, hx4⟩; have hh4 : Nx w2 w4 := hh3.trans hx4)
        | (go_at_call 43; (with_reducible refine (Hsp.out B d _ (oB.nx hx4).edgesAt).mono ?_); rintro e w5 ⟨F, fv, fc, rfl, oF, hx5⟩; have hh5 : Nx w2 w5 := hh4.trans hx5))
    clear kp hdr
    have hF : RdI w5 w4.heap.size w5.heap.size F xs := ⟨oF.intsAt, oF.lt⟩
    clear oB oF
    replace X0 := X0.nx hh5
    replace X0_0 := X0.cell (j := 0) rfl
    replace X0_1 := X0.cell (j := 1) rfl
    replace X0_z := X0.lt
    replace X1 := X1.nx hh5
    replace X1_0 := X1.cell (j := 0) rfl
    replace X1_1 := X1.cell (j := 1) rfl
    replace X1_z := X1.lt
    replace N := N.trans hh5
    have z4 := hh4.size
    have z2 := hh5.size
    go_wp2_with fail
    refine (Hto.out _ (hx0.nx N)).mono ?_
    rintro e w6 ⟨Y, y, rfl, oY, hn6⟩
    replace X0 := X0.nx hn6
    replace X0_0 := X0.cell (j := 0) rfl
    replace X0_1 := X0.cell (j := 1) rfl
    replace X0_z := X0.lt
    replace X1 := X1.nx hn6
    replace X1_0 := X1.cell (j := 0) rfl
    replace X1_1 := X1.cell (j := 1) rfl
    replace X1_z := X1.lt
    replace hF := hF.nx hn6
    replace N := N.trans hn6
    have lY := oY.lt
    have z6 := hn6.size
    go_wp2_with fail
    generalize hW7 : World.alloc _ _ = W7
    have gW7 : Nx w6 W7 := by subst hW7; exact (by repeat (first | exact Nx.refl _ | assumption | apply Nx.alloc | apply Nx.drew | apply Nx.drewN | (refine Nx.setCell ?_ (by first | (simp; done) | (simp; omega) | omega) _) | refine Nx.trans ?_ (by assumption)))
    have sW7 : W7.heap.size = w6.heap.size + 1 := by subst hW7; simp
    have X : Bx W7 (w6.heap.size) 33 [V n0, .slice Y l0 y] := by subst hW7; have h := Bx.alloc w6 33 [V n0, .slice Y l0 y]; simpa using h
    have X_0 := X.cell (j := 0) rfl
    have X_1 := X.cell (j := 1) rfl
    have X_z := X.lt
    have HsW7 := Lib.hid sW7
    have lW7 : w6.heap.size + 1 ≤ W7.heap.size := by omega
    clear hW7 sW7
    replace X0 := X0.nx gW7
    replace X0_0 := X0.cell (j := 0) rfl
    replace X0_1 := X0.cell (j := 1) rfl
    replace X0_z := X0.lt
    replace X1 := X1.nx gW7
    replace X1_0 := X1.cell (j := 0) rfl
    replace X1_1 := X1.cell (j := 1) rfl
    replace X1_z := X1.lt
    replace hF := hF.nx gW7
    replace oY := oY.nx gW7
    replace N := N.trans gW7
    have HoY := Lib.hid oY
    have kp : ∀ w', Nx W7 w' → (fun w_ => Nx W7 w_ ∧ w_.cell? ⟨w.heap.size, 0, none⟩ = some (V n0) ∧ w_.cell? ⟨w.heap.size, 1, none⟩ = some (.slice A0 l0 c0) ∧ w_.cell? ⟨w.heap.size + 1, 0, none⟩ = some (V x1) ∧ w_.cell? ⟨w.heap.size + 1, 1, none⟩ = some (V y1) ∧ w_.cell? ⟨w6.heap.size, 0, none⟩ = some (V n0) ∧ w_.cell? ⟨w6.heap.size, 1, none⟩ = some (.slice Y l0 y)) w' := fun w' h => ⟨h, h.cell X0_z X0_0, h.cell X0_z X0_1, h.cell X1_z X1_0, h.cell X1_z X1_1, h.cell X_z X_0, h.cell X_z X_1⟩
    have hdr : Nx W7 W7.drew := .drew (.refl _)
    go_region_held3 (fun w_ => Nx W7 w_ ∧ w_.cell? ⟨w.heap.size, 0, none⟩ = some (V n0) ∧ w_.cell? ⟨w.heap.size, 1, none⟩ = some (.slice A0 l0 c0) ∧ w_.cell? ⟨w.heap.size + 1, 0, none⟩ = some (V x1) ∧ w_.cell? ⟨w.heap.size + 1, 1, none⟩ = some (V y1) ∧ w_.cell? ⟨w6.heap.size, 0, none⟩ = some (V n0) ∧ w_.cell? ⟨w6.heap.size, 1, none⟩ = some (.slice Y l0 y))
      (first | exact kp _ hdr | exact kp _ hh8 | exact kp _ hh9)
      (first
        | (go_at_call 44; (with_reducible refine (toEdge_c x1 y1 _).mono ?_); rintro e w8 ⟨rfl, hx8⟩; have hh8 : Nx W7 w8 := hdr.trans hx8)
        | (go_at_call 45; (with_reducible refine (Him.out Y y _ (HoY.out.nx hh8).edgesAt (by have := HoY.out.cap; rw [← Hl0.out]; exact this)).mono ?_); rintro e w9 ⟨G, gv, gc, rfl, oG, hx9⟩; have hh9 : Nx W7 w9 := hh8.trans hx9))
    clear kp hdr
    have hG : WrI w9 w8.heap.size w9.heap.size G gc xs := ⟨oG, oG.lt⟩
    clear oG
    replace X0 := X0.nx hh9
    replace X0_0 := X0.cell (j := 0) rfl
    replace X0_1 := X0.cell (j := 1) rfl
    replace X0_z := X0.lt
    replace X1 := X1.nx hh9
    replace X1_0 := X1.cell (j := 0) rfl
    replace X1_1 := X1.cell (j := 1) rfl
    replace X1_z := X1.lt
    replace X := X.nx hh9
    replace X_0 := X.cell (j := 0) rfl
    replace X_1 := X.cell (j := 1) rfl
    replace X_z := X.lt
    replace hF := hF.nx hh9
    replace oY := oY.nx hh9
    replace N := N.trans hh9
    have z8 := hh8.size
    have z9 := hh9.size
    go_wp2_with fail
    refine (Heq.out G F gv fv _ hG.rd.a hF.a).mono ?_
    rintro e w10 ⟨rfl, hn10⟩
    replace X0 := X0.nx hn10
    replace X0_0 := X0.cell (j := 0) rfl
    replace X0_1 := X0.cell (j := 1) rfl
    replace X0_z := X0.lt
    replace X1 := X1.nx hn10
    replace X1_0 := X1.cell (j := 0) rfl
    replace X1_1 := X1.cell (j := 1) rfl
    replace X1_z := X1.lt
    replace X := X.nx hn10
    replace X_0 := X.cell (j := 0) rfl
    replace X_1 := X.cell (j := 1) rfl
    replace X_z := X.lt
    replace hF := hF.nx hn10
    replace oY := oY.nx hn10
    replace hG := hG.nx hn10
    replace N := N.trans hn10
    have z10 := hn10.size
    have HoY2 := Lib.hid oY
    go_wp2_with fail
    have kp : ∀ w', Nx w10 w' → (fun w_ => Nx w10 w_ ∧ w_.cell? ⟨w.heap.size, 0, none⟩ = some (V n0) ∧ w_.cell? ⟨w.heap.size, 1, none⟩ = some (.slice A0 l0 c0) ∧ w_.cell? ⟨w6.heap.size, 0, none⟩ = some (V n0) ∧ w_.cell? ⟨w6.heap.size, 1, none⟩ = some (.slice Y l0 y)) w' := fun w' h => ⟨h, h.cell X0_z X0_0, h.cell X0_z X0_1, h.cell X_z X_0, h.cell X_z X_1⟩
    have hdr : Nx w10 w10.drew := .drew (.refl _)
    go_region_held3 (fun w_ => Nx w10 w_ ∧ w_.cell? ⟨w.heap.size, 0, none⟩ = some (V n0) ∧ w_.cell? ⟨w.heap.size, 1, none⟩ = some (.slice A0 l0 c0) ∧ w_.cell? ⟨w6.heap.size, 0, none⟩ = some (V n0) ∧ w_.cell? ⟨w6.heap.size, 1, none⟩ = some (.slice Y l0 y))
      (first | exact kp _ hdr | exact kp _ hh11 | exact kp _ hh12)
      (first
        | (go_at_call 13; (with_reducible refine (Hto.out _ (hx0.nx (N.trans hdr))).mono ?_); rintro e w11 ⟨K, kk, rfl, oK, hx11⟩; have hh11 : Nx w10 w11 := hdr.trans hx11)
        | (go_at_call 16; (with_reducible refine (Heg.out Y K y kk _ (HoY2.out.nx hh11).edgesAt oK.edgesAt).mono ?_); rintro e w12 ⟨rfl, hx12⟩; have hh12 : Nx w10 w12 := hh11.trans hx12))
    clear kp hdr
    clear oK
    replace X0 := X0.nx hh12
    replace X0_0 := X0.cell (j := 0) rfl
    replace X0_1 := X0.cell (j := 1) rfl
    replace X0_z := X0.lt
    replace X1 := X1.nx hh12
    replace X1_0 := X1.cell (j := 0) rfl
    replace X1_1 := X1.cell (j := 1) rfl
    replace X1_z := X1.lt
    replace X := X.nx hh12
    replace X_0 := X.cell (j := 0) rfl
    replace X_1 := X.cell (j := 1) rfl
    replace X_z := X.lt
    replace hF := hF.nx hh12
    replace oY := oY.nx hh12
    replace hG := hG.nx hh12
    replace N := N.trans hh12
    have z12 := hh12.size
    go_wp2_with fail
    refine (Hmg.out _ Y y _ oY).mono ?_
    rintro e w13 ⟨rfl, _, gr⟩
    have gx : Gx (fun k => w5.heap.size ≤ k ∧ k < w6.heap.size) w12 w13 := (Gx.refl _ _).grown gr (fun k hk => .inl (lY k hk))
    have z13 := gx.size
    clear X0_0 X0_1 X0_z X1_0 X1_1 X1_z X_0 X_1 X_z
    replace X0 := gx.bx X0 (by omega)
    replace X1 := gx.bx X1 (by omega)
    replace N := gx.back N (fun k hk => by omega)
    replace hF := hF.gx gx (fun k h1 h2 => by omega)
    replace hG := hG.gx gx (fun k h1 h2 => by omega)
    clear gx gr oY X
    have X0_0 := X0.cell (j := 0) rfl
    have X0_1 := X0.cell (j := 1) rfl
    have X0_z := X0.lt
    have X1_0 := X1.cell (j := 0) rfl
    have X1_1 := X1.cell (j := 1) rfl
    have X1_z := X1.lt
    go_wp2_with fail
    refine (Heq.out G F gv fv _ hG.rd.a hF.a).mono ?_
    rintro e w14 ⟨rfl, hn14⟩
    replace X0 := X0.nx hn14
    replace X0_0 := X0.cell (j := 0) rfl
    replace X0_1 := X0.cell (j := 1) rfl
    replace X0_z := X0.lt
    replace X1 := X1.nx hn14
    replace X1_0 := X1.cell (j := 0) rfl
    replace X1_1 := X1.cell (j := 1) rfl
    replace X1_z := X1.lt
    replace hF := hF.nx hn14
    replace hG := hG.nx hn14
    replace N := N.trans hn14
    have z14 := hn14.size
    go_wp2_with fail
    refine (Hmi.out _ G gc gv _ hG.a).mono ?_
    rintro e w15 ⟨rfl, oM, gr⟩
    have gx : Gx (fun k => w8.heap.size ≤ k ∧ k < w9.heap.size) w14 w15 := (Gx.refl _ _).grown gr (fun k hk => .inl (hG.l k hk))
    have z15 := gx.size
    clear X0_0 X0_1 X0_z X1_0 X1_1 X1_z
    replace X0 := gx.bx X0 (by omega)
    replace X1 := gx.bx X1 (by omega)
    replace N := gx.back N (fun k hk => by omega)
    replace hF := hF.gx gx (fun k h1 h2 => by omega)
    clear gx gr hG
    have X0_0 := X0.cell (j := 0) rfl
    have X0_1 := X0.cell (j := 1) rfl
    have X0_z := X0.lt
    have X1_0 := X1.cell (j := 0) rfl
    have X1_1 := X1.cell (j := 1) rfl
    have X1_z := X1.lt
    go_wp2_with fail
    refine (Hhe.out G gv _ oM.intsAt).mono ?_
    rintro e w16 ⟨rfl, hn16⟩
    replace X0 := X0.nx hn16
    replace X0_0 := X0.cell (j := 0) rfl
    replace X0_1 := X0.cell (j := 1) rfl
    replace X0_z := X0.lt
    replace X1 := X1.nx hn16
    replace X1_0 := X1.cell (j := 0) rfl
    replace X1_1 := X1.cell (j := 1) rfl
    replace X1_z := X1.lt
    replace hF := hF.nx hn16
    replace oM := oM.nx hn16
    replace N := N.trans hn16
    go_wp2_with fail
    have kp : ∀ w', Nx w16 w' → (fun w_ => Nx w16 w_ ∧ w_.cell? ⟨w.heap.size, 0, none⟩ = some (V n0) ∧ w_.cell? ⟨w.heap.size, 1, none⟩ = some (.slice A0 l0 c0) ∧ w_.cell? ⟨w.heap.size + 1, 0, none⟩ = some (V x1) ∧ w_.cell? ⟨w.heap.size + 1, 1, none⟩ = some (V y1)) w' := fun w' h => ⟨h, h.cell X0_z X0_0, h.cell X0_z X0_1, h.cell X1_z X1_0, h.cell X1_z X1_1⟩
    have hdr : Nx w16 w16.drew := .drew (.refl _)
    go_region_held3 (fun w_ => Nx w16 w_ ∧ w_.cell? ⟨w.heap.size, 0, none⟩ = some (V n0) ∧ w_.cell? ⟨w.heap.size, 1, none⟩ = some (.slice A0 l0 c0) ∧ w_.cell? ⟨w.heap.size + 1, 0, none⟩ = some (V x1) ∧ w_.cell? ⟨w.heap.size + 1, 1, none⟩ = some (V y1))
      (first | exact kp _ hdr | exact kp _ hh17 | exact kp _ hh18 | exact kp _ hh19)
      (first
        | (go_at_call 13; (with_reducible refine (Hto.out _ (hx0.nx (N.trans hdr))).mono ?_); rintro e w17 ⟨B2, d2, rfl, oB, hx17⟩; have hh17 : Nx w16 w17 := hdr.trans hx17)
        | (go_at_call 44; (with_reducible refine (toEdge_c x1 y1 _).mono ?_); rintro e w18 ⟨rfl, hx18⟩; have hh18 : Nx w16 w18 := hh17.trans hx18)
        | (go_at_call 45; (with_reducible refine (Him.out B2 d2 _ (oB.nx hx18).edgesAt (by have := oB.cap; rw [← Hl0.out]; exact this)).mono ?_); rintro e w19 ⟨H, hv, hc, rfl, oH, hx19⟩; have hh19 : Nx w16 w19 := hh18.trans hx19))
    clear kp hdr
    clear oB
    replace X0 := X0.nx hh19
    replace X0_0 := X0.cell (j := 0) rfl
    replace X0_1 := X0.cell (j := 1) rfl
    replace X0_z := X0.lt
    replace X1 := X1.nx hh19
    replace X1_0 := X1.cell (j := 0) rfl
    replace X1_1 := X1.cell (j := 1) rfl
    replace X1_z := X1.lt
    replace hF := hF.nx hh19
    replace oM := oM.nx hh19
    replace N := N.trans hh19
    go_wp2_with fail
    refine (Heq.out H F hv fv _ oH.intsAt hF.a).mono ?_
    rintro e w20 ⟨rfl, hn20⟩
    replace X0 := X0.nx hn20
    replace X0_0 := X0.cell (j := 0) rfl
    replace X0_1 := X0.cell (j := 1) rfl
    replace X0_z := X0.lt
    replace oM := oM.nx hn20
    replace N := N.trans hn20
    clear oH hF
    go_wp2_with fail
    refine (Hhe.out G gv _ oM.intsAt).mono ?_
    rintro e w21 ⟨rfl, hn21⟩
    replace X0 := X0.nx hn21
    replace X0_0 := X0.cell (j := 0) rfl
    replace X0_1 := X0.cell (j := 1) rfl
    replace X0_z := X0.lt
    replace N := N.trans hn21
    go_wp2
    go_ret
    exact RetV.bool rfl N
end Go.Proofs.Ytafhojiialmbcaa
