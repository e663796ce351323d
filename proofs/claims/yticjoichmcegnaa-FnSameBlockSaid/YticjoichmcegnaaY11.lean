/- Contracts: SameBlock of both sides. -/
import Derived.Test.YticjoichmcegnaaY9
namespace Go.Proofs.Yticjoichmcegnaa
open Go.RowKit set_option linter.unusedVariables false set_option linter.unusedSimpArgs false

/-- what SameBlock returns -/
noncomputable def sameBlk (n : Int) (es : Es) (e f : Int × Int) : Bool := decide (HasB n es e.1 e.2) && (decide (HasB n es f.1 f.2) && sameL n.toNat es e f)
theorem sameBlk_no1 {n : Int} {es : Es} {a b : Int} {f : Int × Int} (h : ¬ HasB n es a b) : sameBlk n es (a, b) f = false := by simp [sameBlk, h]
theorem sameBlk_no2 {n : Int} {es : Es} {a b : Int} {e : Int × Int} (h : ¬ HasB n es a b) : sameBlk n es e (a, b) = false := by simp [sameBlk, h]
theorem sameBlk_yes {n : Int} {es : Es} {a b u v : Int} (h : HasB n es a b) (h2 : HasB n es u v) : sameBlk n es (a, b) (u, v) = sameL n.toNat es (a, b) (u, v) := by simp [sameBlk, h, h2]
theorem idxE_eq {es : Es} {e : Int × Int} (h : e ∈ es) : idxE es e = (es.idxOf e : Nat) := by simp [idxE, h]

set_option maxRecDepth 100000 in
set_option maxHeartbeats 4000000 in
theorem iSameBlock_c (n : Int) (A : Option Addr) (c : Nat) (es : List (Int × Int)) (a b u v : Int) (w : World) (hx : EdgesAt w A es) (hl : es.length ≤ 1048576) (hcap : es.length ≤ c) :
    Calls Try.prog 35 #[.agg #[V n, .slice A es.length c], Ed a b, Ed u v] w (RetV (.bool (sameBlk n es (a, b) (u, v))) w) := by
  have hh1 := iHasEdge_c n A c es a b
  have hh2 := iHasEdge_c n A c es u v
  by_cases hv1 : HasB n es a b
  · rw [show decide (HasB n es a b) = true by simpa using hv1] at hh1
    by_cases hv2 : HasB n es u v
    · rw [sameBlk_yes hv1 hv2]
      rw [show decide (HasB n es u v) = true by simpa using hv2] at hh2
      have Hh1 := Lib.hid hh1
      have Hh2 := Lib.hid hh2
      have hv := hv1.1
      have h16 := hv.2.1
      have h40 := hv.2.2.1
      have ht := fun w hx => blocks_c n.toNat A c es w hx h40 hcap (by omega) hv.edOk hv.nodupB
      rw [hv.nat] at ht
      have Ht := Lib.hid ht
      have i1 := idxE_eq hv1.2
      have i2 := idxE_eq hv2.2
      have l1 := List.idxOf_lt_length_iff.2 hv1.2
      have l2 := List.idxOf_lt_length_iff.2 hv2.2
      have hk1 := fun w h1 h2 => index_c A c es a b w h1 h2
      have hk2 := fun w h1 h2 => index_c A c es u v w h1 h2
      rw [i1] at hk1
      rw [i2] at hk2
      have hs : sameL n.toNat es (a, b) (u, v) = (lk (blkL n.toNat es) (es.idxOf (a, b)) == lk (blkL n.toNat es) (es.idxOf (u, v))) := rfl
      rw [hs]
      generalize es.idxOf (a, b) = i at *
      generalize es.idxOf (u, v) = k at *
      have hll := blkL_length n.toNat es
      have g1 := get_of_lk (L := blkL n.toNat es) (k := i) (by omega)
      have g2 := get_of_lk (L := blkL n.toNat es) (k := k) (by omega)
      generalize blkL n.toNat es = L at *
      generalize lk L i = p at *
      generalize lk L k = q at *
      have Hk1 := Lib.hid hk1
      have Hk2 := Lib.hid hk2
      have G1 := Lib.hid g1
      have G2 := Lib.hid g2
      have Hll := Lib.hid hll
      clear hh1 hh2 ht hk1 hk2 i1 i2 hs hv hv1 hv2 g1 g2 hll
      go_enter Try.func35, Try.ntmps35
      go_wp2_with fail
      generalize hW1 : World.alloc _ _ = W1
      have gW1 : Nx w W1 := by subst hW1; exact (by repeat (first | exact Nx.refl _ | assumption | apply Nx.alloc | apply Nx.drew | apply Nx.drewN | (refine Nx.setCell ?_ (by first | (simp; done) | (simp; omega) | omega) _) | refine Nx.trans ?_ (by assumption)))
      have sW1 : W1.heap.size = w.heap.size + 3 := by subst hW1; simp
      have X0 : Bx W1 (w.heap.size) 25 [V n, .slice A es.length c] := by subst hW1; have h := Bx.alloc w 25 [V n, .slice A es.length c]; have h := h.nx (Nx.alloc (Nx.refl _) (.cells #[V a, V b] 31)); have h := h.nx (Nx.alloc (Nx.refl _) (.cells #[V u, V v] 31)); simpa using h
      have X1 : Bx W1 (w.heap.size + 1) 31 [V a, V b] := by subst hW1; have h := Bx.alloc (w.alloc (.cells #[V n, .slice A es.length c] 25)) 31 [V a, V b]; have h := h.nx (Nx.alloc (Nx.refl _) (.cells #[V u, V v] 31)); simpa using h
      have X2 : Bx W1 (w.heap.size + 2) 31 [V u, V v] := by subst hW1; have h := Bx.alloc ((w.alloc (.cells #[V n, .slice A es.length c] 25)).alloc (.cells #[V a, V b] 31)) 31 [V u, V v]; simpa using h
      have X0_0 := X0.cell (j := 0) rfl
      have X0_1 := X0.cell (j := 1) rfl
      have X0_z := X0.lt
      have X1_0 := X1.cell (j := 0) rfl
      have X1_1 := X1.cell (j := 1) rfl
      have X1_z := X1.lt
      have X2_0 := X2.cell (j := 0) rfl
      have X2_1 := X2.cell (j := 1) rfl
      have X2_z := X2.lt
      have HsW1 := Lib.hid sW1
      have lW1 : w.heap.size + 3 ≤ W1.heap.size := by omega
      clear hW1 sW1
      replace hx := hx.nx gW1
      refine (Hh1.out _ hx (by omega)).mono ?_
      rintro e w2 ⟨rfl, hn2⟩
      replace X0 := X0.nx hn2
      replace X0_0 := X0.cell (j := 0) rfl
      replace X0_1 := X0.cell (j := 1) rfl
      replace X0_z := X0.lt
      replace X1 := X1.nx hn2
      replace X1_0 := X1.cell (j := 0) rfl
      replace X1_1 := X1.cell (j := 1) rfl
      replace X1_z := X1.lt
      replace X2 := X2.nx hn2
      replace X2_0 := X2.cell (j := 0) rfl
      replace X2_1 := X2.cell (j := 1) rfl
      replace X2_z := X2.lt
      replace hx := hx.nx hn2
      go_wp2_with fail
      refine (Hh2.out _ hx (by omega)).mono ?_
      rintro e w3 ⟨rfl, hn3⟩
      replace X0 := X0.nx hn3
      replace X0_0 := X0.cell (j := 0) rfl
      replace X0_1 := X0.cell (j := 1) rfl
      replace X0_z := X0.lt
      replace X1 := X1.nx hn3
      replace X1_0 := X1.cell (j := 0) rfl
      replace X1_1 := X1.cell (j := 1) rfl
      replace X1_z := X1.lt
      replace X2 := X2.nx hn3
      replace X2_0 := X2.cell (j := 0) rfl
      replace X2_1 := X2.cell (j := 1) rfl
      replace X2_z := X2.lt
      replace hx := hx.nx hn3
      go_wp2_with fail
      refine (Ht.out _ hx).mono ?_
      rintro e w4 ⟨B, d, rfl, ho4, hn4⟩
      replace X0 := X0.nx hn4
      replace X0_0 := X0.cell (j := 0) rfl
      replace X0_1 := X0.cell (j := 1) rfl
      replace X0_z := X0.lt
      replace X1 := X1.nx hn4
      replace X1_0 := X1.cell (j := 0) rfl
      replace X1_1 := X1.cell (j := 1) rfl
      replace X1_z := X1.lt
      replace X2 := X2.nx hn4
      replace X2_0 := X2.cell (j := 0) rfl
      replace X2_1 := X2.cell (j := 1) rfl
      replace X2_z := X2.lt
      replace hx := hx.nx hn4
      obtain ⟨b3, off3, rfl, hb3, h3⟩ := ho4.intsAt.rd G1.out
      obtain ⟨b4, off4, hB4, hb4, h4⟩ := ho4.intsAt.rd G2.out
      injection hB4 with hB4
      injection hB4 with hB1 hB2
      subst hB1 hB2
      rw [Hll.out]
      clear ho4 Ht
      go_wp2_with fail
      have kp : ∀ w', Nx w4 w' → Nx w4 w' ∧ w'.cell? ⟨w.heap.size, 1, none⟩ = some (.slice A es.length c) ∧ w'.cell? ⟨w.heap.size + 1, 0, none⟩ = some (V a) ∧ w'.cell? ⟨w.heap.size + 1, 1, none⟩ = some (V b) ∧ w'.cell? ⟨w.heap.size + 2, 0, none⟩ = some (V u) ∧ w'.cell? ⟨w.heap.size + 2, 1, none⟩ = some (V v) ∧ w'.cell? ⟨b3, off3 + i, none⟩ = some (V p) ∧ w'.cell? ⟨b3, off3 + k, none⟩ = some (V q) :=
        fun w' h => ⟨h, h.cell X0_z X0_1, h.cell X1_z X1_0, h.cell X1_z X1_1, h.cell X2_z X2_0, h.cell X2_z X2_1, h.cell hb3 h3, h.cell hb3 h4⟩
      have hdr : Nx w4 w4.drew := .drew (.refl _)
      go_region_held3 (fun w_ => Nx w4 w_ ∧ w_.cell? ⟨w.heap.size, 1, none⟩ = some (.slice A es.length c) ∧ w_.cell? ⟨w.heap.size + 1, 0, none⟩ = some (V a) ∧ w_.cell? ⟨w.heap.size + 1, 1, none⟩ = some (V b) ∧ w_.cell? ⟨w.heap.size + 2, 0, none⟩ = some (V u) ∧ w_.cell? ⟨w.heap.size + 2, 1, none⟩ = some (V v) ∧ w_.cell? ⟨b3, off3 + i, none⟩ = some (V p) ∧ w_.cell? ⟨b3, off3 + k, none⟩ = some (V q))
        (first | exact kp _ hdr | exact kp _ hn5 | exact kp _ hn6)
        (first
          | (go_at_call 90; (with_reducible refine (Hk1.out _ (hx.nx hn5) (by omega)).mono ?_); rintro e w6 ⟨rfl, hn56⟩; have hn6 : Nx w4 w6 := hn5.trans hn56)
          | (go_at_call 90; (with_reducible refine (Hk2.out _ (hx.nx hn5) (by omega)).mono ?_); rintro e w6 ⟨rfl, hn56⟩; have hn6 : Nx w4 w6 := hn5.trans hn56)
          | (go_at_call 90; (with_reducible refine (Hk1.out _ (hx.nx hdr) (by omega)).mono ?_); rintro e w5 ⟨rfl, hn45⟩; have hn5 : Nx w4 w5 := hdr.trans hn45)
          | (go_at_call 90; (with_reducible refine (Hk2.out _ (hx.nx hdr) (by omega)).mono ?_); rintro e w5 ⟨rfl, hn45⟩; have hn5 : Nx w4 w5 := hdr.trans hn45))
      all_goals go_wp2
      all_goals go_ret
      all_goals exact RetV.bool rfl ((((gW1.trans hn2).trans hn3).trans hn4).trans hn6)
    · rw [sameBlk_no2 hv2]
      rw [show decide (HasB n es u v) = false by simpa using hv2] at hh2
      have Hh1 := Lib.hid hh1
      have Hh2 := Lib.hid hh2
      clear hh1 hh2 hv1 hv2
      go_enter Try.func35, Try.ntmps35
      go_wp2_with fail
      generalize hW1 : World.alloc _ _ = W1
      have gW1 : Nx w W1 := by subst hW1; exact (by repeat (first | exact Nx.refl _ | assumption | apply Nx.alloc | apply Nx.drew | apply Nx.drewN | (refine Nx.setCell ?_ (by first | (simp; done) | (simp; omega) | omega) _) | refine Nx.trans ?_ (by assumption)))
      have sW1 : W1.heap.size = w.heap.size + 3 := by subst hW1; simp
      have X0 : Bx W1 (w.heap.size) 25 [V n, .slice A es.length c] := by subst hW1; have h := Bx.alloc w 25 [V n, .slice A es.length c]; have h := h.nx (Nx.alloc (Nx.refl _) (.cells #[V a, V b] 31)); have h := h.nx (Nx.alloc (Nx.refl _) (.cells #[V u, V v] 31)); simpa using h
      have X1 : Bx W1 (w.heap.size + 1) 31 [V a, V b] := by subst hW1; have h := Bx.alloc (w.alloc (.cells #[V n, .slice A es.length c] 25)) 31 [V a, V b]; have h := h.nx (Nx.alloc (Nx.refl _) (.cells #[V u, V v] 31)); simpa using h
      have X2 : Bx W1 (w.heap.size + 2) 31 [V u, V v] := by subst hW1; have h := Bx.alloc ((w.alloc (.cells #[V n, .slice A es.length c] 25)).alloc (.cells #[V a, V b] 31)) 31 [V u, V v]; simpa using h
      have X0_0 := X0.cell (j := 0) rfl
      have X0_1 := X0.cell (j := 1) rfl
      have X0_z := X0.lt
      have X1_0 := X1.cell (j := 0) rfl
      have X1_1 := X1.cell (j := 1) rfl
      have X1_z := X1.lt
      have X2_0 := X2.cell (j := 0) rfl
      have X2_1 := X2.cell (j := 1) rfl
      have X2_z := X2.lt
      have HsW1 := Lib.hid sW1
      have lW1 : w.heap.size + 3 ≤ W1.heap.size := by omega
      clear hW1 sW1
      replace hx := hx.nx gW1
      refine (Hh1.out _ hx (by omega)).mono ?_
      rintro e w2 ⟨rfl, hn2⟩
      replace X0 := X0.nx hn2
      replace X0_0 := X0.cell (j := 0) rfl
      replace X0_1 := X0.cell (j := 1) rfl
      replace X0_z := X0.lt
      replace X1 := X1.nx hn2
      replace X1_0 := X1.cell (j := 0) rfl
      replace X1_1 := X1.cell (j := 1) rfl
      replace X1_z := X1.lt
      replace X2 := X2.nx hn2
      replace X2_0 := X2.cell (j := 0) rfl
      replace X2_1 := X2.cell (j := 1) rfl
      replace X2_z := X2.lt
      replace hx := hx.nx hn2
      go_wp2_with fail
      refine (Hh2.out _ hx (by omega)).mono ?_
      rintro e w3 ⟨rfl, hn3⟩
      go_wp2
      go_ret
      exact RetV.bool rfl ((gW1.trans hn2).trans hn3)
  · rw [sameBlk_no1 hv1]
    rw [show decide (HasB n es a b) = false by simpa using hv1] at hh1
    have Hh1 := Lib.hid hh1
    clear hh1 hh2 hv1
    go_enter Try.func35, Try.ntmps35
    go_wp2_with fail
    generalize hW1 : World.alloc _ _ = W1
    have gW1 : Nx w W1 := by subst hW1; exact (by repeat (first | exact Nx.refl _ | assumption | apply Nx.alloc | apply Nx.drew | apply Nx.drewN | (refine Nx.setCell ?_ (by first | (simp; done) | (simp; omega) | omega) _) | refine Nx.trans ?_ (by assumption)))
    have sW1 : W1.heap.size = w.heap.size + 3 := by subst hW1; simp
    have X0 : Bx W1 (w.heap.size) 25 [V n, .slice A es.length c] := by subst hW1; have h := Bx.alloc w 25 [V n, .slice A es.length c]; have h := h.nx (Nx.alloc (Nx.refl _) (.cells #[V a, V b] 31)); have h := h.nx (Nx.alloc (Nx.refl _) (.cells #[V u, V v] 31)); simpa using h
    have X1 : Bx W1 (w.heap.size + 1) 31 [V a, V b] := by subst hW1; have h := Bx.alloc (w.alloc (.cells #[V n, .slice A es.length c] 25)) 31 [V a, V b]; have h := h.nx (Nx.alloc (Nx.refl _) (.cells #[V u, V v] 31)); simpa using h
    have X2 : Bx W1 (w.heap.size + 2) 31 [V u, V v] := by subst hW1; have h := Bx.alloc ((w.alloc (.cells #[V n, .slice A es.length c] 25)).alloc (.cells #[V a, V b] 31)) 31 [V u, V v]; simpa using h
    have X0_0 := X0.cell (j := 0) rfl
    have X0_1 := X0.cell (j := 1) rfl
    have X0_z := X0.lt
    have X1_0 := X1.cell (j := 0) rfl
    have X1_1 := X1.cell (j := 1) rfl
    have X1_z := X1.lt
    have X2_0 := X2.cell (j := 0) rfl
    have X2_1 := X2.cell (j := 1) rfl
    have X2_z := X2.lt
    have HsW1 := Lib.hid sW1
    have lW1 : w.heap.size + 3 ≤ W1.heap.size := by omega
    clear hW1 sW1
    replace hx := hx.nx gW1
    refine (Hh1.out _ hx (by omega)).mono ?_
    rintro e w2 ⟨rfl, hn2⟩
    go_wp2
    go_ret
    exact RetV.bool rfl (gW1.trans hn2)

set_option maxRecDepth 100000 in
set_option maxHeartbeats 4000000 in
theorem sSameBlock_c (n : Int) (A : Option Addr) (c : Nat) (es : List (Int × Int)) (a b u v : Int) (w : World) (hx : EdgesAt w A es) (hl : es.length ≤ 1048576) :
    Calls Try.prog 32 #[.agg #[V n, .slice A es.length c], Ed a b, Ed u v] w (RetV (.bool (sameBlk n es (a, b) (u, v))) w) := by
  have hh1 := sHasEdge_c n A c es a b
  have hh2 := sHasEdge_c n A c es u v
  by_cases hv1 : HasB n es a b
  · rw [show decide (HasB n es a b) = true by simpa using hv1] at hh1
    by_cases hv2 : HasB n es u v
    · rw [sameBlk_yes hv1 hv2]
      rw [show decide (HasB n es u v) = true by simpa using hv2] at hh2
      have Hh1 := Lib.hid hh1
      have Hh2 := Lib.hid hh2
      have hv := hv1.1
      have h16 := hv.2.1
      have h40 := hv.2.2.1
      have ht := fun w hx => l5Labels_c n.toNat A c es w hx h40 (by omega) hv.edOk hv.nodupB
      rw [hv.nat] at ht
      have Ht := Lib.hid ht
      have i1 := idxE_eq hv1.2
      have i2 := idxE_eq hv2.2
      have l1 := List.idxOf_lt_length_iff.2 hv1.2
      have l2 := List.idxOf_lt_length_iff.2 hv2.2
      have hk1 := fun w h1 h2 => l1Find_c A c es a b w h1 h2
      have hk2 := fun w h1 h2 => l1Find_c A c es u v w h1 h2
      rw [i1] at hk1
      rw [i2] at hk2
      have hs : sameL n.toNat es (a, b) (u, v) = (lk (blkL n.toNat es) (es.idxOf (a, b)) == lk (blkL n.toNat es) (es.idxOf (u, v))) := rfl
      rw [hs]
      generalize es.idxOf (a, b) = i at *
      generalize es.idxOf (u, v) = k at *
      have hll := blkL_length n.toNat es
      have g1 := get_of_lk (L := blkL n.toNat es) (k := i) (by omega)
      have g2 := get_of_lk (L := blkL n.toNat es) (k := k) (by omega)
      generalize blkL n.toNat es = L at *
      generalize lk L i = p at *
      generalize lk L k = q at *
      have Hk1 := Lib.hid hk1
      have Hk2 := Lib.hid hk2
      have G1 := Lib.hid g1
      have G2 := Lib.hid g2
      have Hll := Lib.hid hll
      clear hh1 hh2 ht hk1 hk2 i1 i2 hs hv hv1 hv2 g1 g2 hll
      go_enter Try.func32, Try.ntmps32
      go_wp2_with fail
      generalize hW1 : World.alloc _ _ = W1
      have gW1 : Nx w W1 := by subst hW1; exact (by repeat (first | exact Nx.refl _ | assumption | apply Nx.alloc | apply Nx.drew | apply Nx.drewN | (refine Nx.setCell ?_ (by first | (simp; done) | (simp; omega) | omega) _) | refine Nx.trans ?_ (by assumption)))
      have sW1 : W1.heap.size = w.heap.size + 3 := by subst hW1; simp
      have X0 : Bx W1 (w.heap.size) 25 [V n, .slice A es.length c] := by subst hW1; have h := Bx.alloc w 25 [V n, .slice A es.length c]; have h := h.nx (Nx.alloc (Nx.refl _) (.cells #[V a, V b] 31)); have h := h.nx (Nx.alloc (Nx.refl _) (.cells #[V u, V v] 31)); simpa using h
      have X1 : Bx W1 (w.heap.size + 1) 31 [V a, V b] := by subst hW1; have h := Bx.alloc (w.alloc (.cells #[V n, .slice A es.length c] 25)) 31 [V a, V b]; have h := h.nx (Nx.alloc (Nx.refl _) (.cells #[V u, V v] 31)); simpa using h
      have X2 : Bx W1 (w.heap.size + 2) 31 [V u, V v] := by subst hW1; have h := Bx.alloc ((w.alloc (.cells #[V n, .slice A es.length c] 25)).alloc (.cells #[V a, V b] 31)) 31 [V u, V v]; simpa using h
      have X0_0 := X0.cell (j := 0) rfl
      have X0_1 := X0.cell (j := 1) rfl
      have X0_z := X0.lt
      have X1_0 := X1.cell (j := 0) rfl
      have X1_1 := X1.cell (j := 1) rfl
      have X1_z := X1.lt
      have X2_0 := X2.cell (j := 0) rfl
      have X2_1 := X2.cell (j := 1) rfl
      have X2_z := X2.lt
      have HsW1 := Lib.hid sW1
      have lW1 : w.heap.size + 3 ≤ W1.heap.size := by omega
      clear hW1 sW1
      replace hx := hx.nx gW1
      refine (Hh1.out _ hx (by omega)).mono ?_
      rintro e w2 ⟨rfl, hn2⟩
      replace X0 := X0.nx hn2
      replace X0_0 := X0.cell (j := 0) rfl
      replace X0_1 := X0.cell (j := 1) rfl
      replace X0_z := X0.lt
      replace X1 := X1.nx hn2
      replace X1_0 := X1.cell (j := 0) rfl
      replace X1_1 := X1.cell (j := 1) rfl
      replace X1_z := X1.lt
      replace X2 := X2.nx hn2
      replace X2_0 := X2.cell (j := 0) rfl
      replace X2_1 := X2.cell (j := 1) rfl
      replace X2_z := X2.lt
      replace hx := hx.nx hn2
      go_wp2_with fail
      refine (Hh2.out _ hx (by omega)).mono ?_
      rintro e w3 ⟨rfl, hn3⟩
      replace X0 := X0.nx hn3
      replace X0_0 := X0.cell (j := 0) rfl
      replace X0_1 := X0.cell (j := 1) rfl
      replace X0_z := X0.lt
      replace X1 := X1.nx hn3
      replace X1_0 := X1.cell (j := 0) rfl
      replace X1_1 := X1.cell (j := 1) rfl
      replace X1_z := X1.lt
      replace X2 := X2.nx hn3
      replace X2_0 := X2.cell (j := 0) rfl
      replace X2_1 := X2.cell (j := 1) rfl
      replace X2_z := X2.lt
      replace hx := hx.nx hn3
      go_wp2_with fail
      refine (Ht.out _ hx).mono ?_
      rintro e w4 ⟨B, d, rfl, ho4, hn4⟩
      replace X0 := X0.nx hn4
      replace X0_0 := X0.cell (j := 0) rfl
      replace X0_1 := X0.cell (j := 1) rfl
      replace X0_z := X0.lt
      replace X1 := X1.nx hn4
      replace X1_0 := X1.cell (j := 0) rfl
      replace X1_1 := X1.cell (j := 1) rfl
      replace X1_z := X1.lt
      replace X2 := X2.nx hn4
      replace X2_0 := X2.cell (j := 0) rfl
      replace X2_1 := X2.cell (j := 1) rfl
      replace X2_z := X2.lt
      replace hx := hx.nx hn4
      obtain ⟨b3, off3, rfl, hb3, h3⟩ := ho4.intsAt.rd G1.out
      obtain ⟨b4, off4, hB4, hb4, h4⟩ := ho4.intsAt.rd G2.out
      injection hB4 with hB4
      injection hB4 with hB1 hB2
      subst hB1 hB2
      rw [Hll.out]
      clear ho4 Ht
      go_wp2_with fail
      have kp : ∀ w', Nx w4 w' → Nx w4 w' ∧ w'.cell? ⟨w.heap.size, 1, none⟩ = some (.slice A es.length c) ∧ w'.cell? ⟨w.heap.size + 1, 0, none⟩ = some (V a) ∧ w'.cell? ⟨w.heap.size + 1, 1, none⟩ = some (V b) ∧ w'.cell? ⟨w.heap.size + 2, 0, none⟩ = some (V u) ∧ w'.cell? ⟨w.heap.size + 2, 1, none⟩ = some (V v) ∧ w'.cell? ⟨b3, off3 + i, none⟩ = some (V p) ∧ w'.cell? ⟨b3, off3 + k, none⟩ = some (V q) :=
        fun w' h => ⟨h, h.cell X0_z X0_1, h.cell X1_z X1_0, h.cell X1_z X1_1, h.cell X2_z X2_0, h.cell X2_z X2_1, h.cell hb3 h3, h.cell hb3 h4⟩
      have hdr : Nx w4 w4.drew := .drew (.refl _)
      go_region_held3 (fun w_ => Nx w4 w_ ∧ w_.cell? ⟨w.heap.size, 1, none⟩ = some (.slice A es.length c) ∧ w_.cell? ⟨w.heap.size + 1, 0, none⟩ = some (V a) ∧ w_.cell? ⟨w.heap.size + 1, 1, none⟩ = some (V b) ∧ w_.cell? ⟨w.heap.size + 2, 0, none⟩ = some (V u) ∧ w_.cell? ⟨w.heap.size + 2, 1, none⟩ = some (V v) ∧ w_.cell? ⟨b3, off3 + i, none⟩ = some (V p) ∧ w_.cell? ⟨b3, off3 + k, none⟩ = some (V q))
        (first | exact kp _ hdr | exact kp _ hn5 | exact kp _ hn6)
        (first
          | (go_at_call 87; (with_reducible refine (Hk1.out _ (hx.nx hn5) (by omega)).mono ?_); rintro e w6 ⟨rfl, hn56⟩; have hn6 : Nx w4 w6 := hn5.trans hn56)
          | (go_at_call 87; (with_reducible refine (Hk2.out _ (hx.nx hn5) (by omega)).mono ?_); rintro e w6 ⟨rfl, hn56⟩; have hn6 : Nx w4 w6 := hn5.trans hn56)
          | (go_at_call 87; (with_reducible refine (Hk1.out _ (hx.nx hdr) (by omega)).mono ?_); rintro e w5 ⟨rfl, hn45⟩; have hn5 : Nx w4 w5 := hdr.trans hn45)
          | (go_at_call 87; (with_reducible refine (Hk2.out _ (hx.nx hdr) (by omega)).mono ?_); rintro e w5 ⟨rfl, hn45⟩; have hn5 : Nx w4 w5 := hdr.trans hn45))
      all_goals go_wp2
      all_goals go_ret
      all_goals exact RetV.bool rfl ((((gW1.trans hn2).trans hn3).trans hn4).trans hn6)
    · rw [sameBlk_no2 hv2]
      rw [show decide (HasB n es u v) = false by simpa using hv2] at hh2
      have Hh1 := Lib.hid hh1
      have Hh2 := Lib.hid hh2
      clear hh1 hh2 hv1 hv2
      go_enter Try.func32, Try.ntmps32
      go_wp2_with fail
      generalize hW1 : World.alloc _ _ = W1
      have gW1 : Nx w W1 := by subst hW1; exact (by repeat (first | exact Nx.refl _ | assumption | apply Nx.alloc | apply Nx.drew | apply Nx.drewN | (refine Nx.setCell ?_ (by first | (simp; done) | (simp; omega) | omega) _) | refine Nx.trans ?_ (by assumption)))
      have sW1 : W1.heap.size = w.heap.size + 3 := by subst hW1; simp
      have X0 : Bx W1 (w.heap.size) 25 [V n, .slice A es.length c] := by subst hW1; have h := Bx.alloc w 25 [V n, .slice A es.length c]; have h := h.nx (Nx.alloc (Nx.refl _) (.cells #[V a, V b] 31)); have h := h.nx (Nx.alloc (Nx.refl _) (.cells #[V u, V v] 31)); simpa using h
      have X1 : Bx W1 (w.heap.size + 1) 31 [V a, V b] := by subst hW1; have h := Bx.alloc (w.alloc (.cells #[V n, .slice A es.length c] 25)) 31 [V a, V b]; have h := h.nx (Nx.alloc (Nx.refl _) (.cells #[V u, V v] 31)); simpa using h
      have X2 : Bx W1 (w.heap.size + 2) 31 [V u, V v] := by subst hW1; have h := Bx.alloc ((w.alloc (.cells #[V n, .slice A es.length c] 25)).alloc (.cells #[V a, V b] 31)) 31 [V u, V v]; simpa using h
      have X0_0 := X0.cell (j := 0) rfl
      have X0_1 := X0.cell (j := 1) rfl
      have X0_z := X0.lt
      have X1_0 := X1.cell (j := 0) rfl
      have X1_1 := X1.cell (j := 1) rfl
      have X1_z := X1.lt
      have X2_0 := X2.cell (j := 0) rfl
      have X2_1 := X2.cell (j := 1) rfl
      have X2_z := X2.lt
      have HsW1 := Lib.hid sW1
      have lW1 : w.heap.size + 3 ≤ W1.heap.size := by omega
      clear hW1 sW1
      replace hx := hx.nx gW1
      refine (Hh1.out _ hx (by omega)).mono ?_
      rintro e w2 ⟨rfl, hn2⟩
      replace X0 := X0.nx hn2
      replace X0_0 := X0.cell (j := 0) rfl
      replace X0_1 := X0.cell (j := 1) rfl
      replace X0_z := X0.lt
      replace X1 := X1.nx hn2
      replace X1_0 := X1.cell (j := 0) rfl
      replace X1_1 := X1.cell (j := 1) rfl
      replace X1_z := X1.lt
      replace X2 := X2.nx hn2
      replace X2_0 := X2.cell (j := 0) rfl
      replace X2_1 := X2.cell (j := 1) rfl
      replace X2_z := X2.lt
      replace hx := hx.nx hn2
      go_wp2_with fail
      refine (Hh2.out _ hx (by omega)).mono ?_
      rintro e w3 ⟨rfl, hn3⟩
      go_wp2
      go_ret
      exact RetV.bool rfl ((gW1.trans hn2).trans hn3)
  · rw [sameBlk_no1 hv1]
    rw [show decide (HasB n es a b) = false by simpa using hv1] at hh1
    have Hh1 := Lib.hid hh1
    clear hh1 hh2 hv1
    go_enter Try.func32, Try.ntmps32
    go_wp2_with fail
    generalize hW1 : World.alloc _ _ = W1
    have gW1 : Nx w W1 := by subst hW1; exact (by repeat (first | exact Nx.refl _ | assumption | apply Nx.alloc | apply Nx.drew | apply Nx.drewN | (refine Nx.setCell ?_ (by first | (simp; done) | (simp; omega) | omega) _) | refine Nx.trans ?_ (by assumption)))
    have sW1 : W1.heap.size = w.heap.size + 3 := by subst hW1; simp
    have X0 : Bx W1 (w.heap.size) 25 [V n, .slice A es.length c] := by subst hW1; have h := Bx.alloc w 25 [V n, .slice A es.length c]; have h := h.nx (Nx.alloc (Nx.refl _) (.cells #[V a, V b] 31)); have h := h.nx (Nx.alloc (Nx.refl _) (.cells #[V u, V v] 31)); simpa using h
    have X1 : Bx W1 (w.heap.size + 1) 31 [V a, V b] := by subst hW1; have h := Bx.alloc (w.alloc (.cells #[V n, .slice A es.length c] 25)) 31 [V a, V b]; have h := h.nx (Nx.alloc (Nx.refl _) (.cells #[V u, V v] 31)); simpa using h
    have X2 : Bx W1 (w.heap.size + 2) 31 [V u, V v] := by subst hW1; have h := Bx.alloc ((w.alloc (.cells #[V n, .slice A es.length c] 25)).alloc (.cells #[V a, V b] 31)) 31 [V u, V v]; simpa using h
    have X0_0 := X0.cell (j := 0) rfl
    have X0_1 := X0.cell (j := 1) rfl
    have X0_z := X0.lt
    have X1_0 := X1.cell (j := 0) rfl
    have X1_1 := X1.cell (j := 1) rfl
    have X1_z := X1.lt
    have X2_0 := X2.cell (j := 0) rfl
    have X2_1 := X2.cell (j := 1) rfl
    have X2_z := X2.lt
    have HsW1 := Lib.hid sW1
    have lW1 : w.heap.size + 3 ≤ W1.heap.size := by omega
    clear hW1 sW1
    replace hx := hx.nx gW1
    refine (Hh1.out _ hx (by omega)).mono ?_
    rintro e w2 ⟨rfl, hn2⟩
    go_wp2
    go_ret
    exact RetV.bool rfl (gW1.trans hn2)

end Go.Proofs.Yticjoichmcegnaa
