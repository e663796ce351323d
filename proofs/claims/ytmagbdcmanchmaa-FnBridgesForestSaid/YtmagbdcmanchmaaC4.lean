/- Contracts: CutEdge of both sides. -/
import Derived.Test.YtmagbdcmanchmaaC3
namespace Go.Proofs.Ytmagbdcmanchmaa
open Go.RowKit

open Classical in
/-- what CutEdge returns -/
noncomputable def cutN (n : Int) (es : Es) (e : Int × Int) : Int := if HasB n es e.1 e.2 then n else 0
open Classical in
noncomputable def cutL (n : Int) (es : Es) (e : Int × Int) : Es := if HasB n es e.1 e.2 then outE es e else []
theorem cutL_len (n : Int) (es : Es) (e : Int × Int) : (cutL n es e).length ≤ es.length := by
  unfold cutL; split
  · exact outE_len es e
  · simp

/-- the call returns a graph, its row its own, and whether it is one -/
def RetGB (t : TypeId) (n : Int) (es : Es) (b : Bool) (w : World) (e : Ending) (w' : World) : Prop :=
  ∃ A c, e = .returned (.tuple #[.agg #[V n, .slice A es.length c], .bool b]) ∧ OwnE w' w.heap.size t A c es ∧ Nx w w'

set_option maxRecDepth 100000 in
set_option maxHeartbeats 2000000 in
theorem iCutEdge_c (n : Int) (A : Option Addr) (c : Nat) (es : List (Int × Int)) (u v : Int) (w : World) (hx : EdgesAt w A es) (hl : es.length ≤ 1048576) :
    Calls Try.prog 26 #[.agg #[V n, .slice A es.length c], Ed u v] w (RetGB 40 (cutN n es (u, v)) (cutL n es (u, v)) (decide (HasB n es u v)) w) := by
  have hh := iHasEdge_c n A c es u v
  by_cases hv : HasB n es u v
  · have hd : decide (HasB n es u v) = true := by simpa using hv
    rw [show cutN n es (u, v) = n from if_pos hv, show cutL n es (u, v) = outE es (u, v) from if_pos hv]
    rw [hd] at hh ⊢
    have Hh := Lib.hid hh
    clear hh hd hv
    go_enter Try.func26, Try.ntmps26
    go_wp2_with fail
    generalize hW1 : World.alloc _ _ = W1
    have gs1 : W1.heap.size = w.heap.size + 3 := by subst hW1; simp
    have gn1 : Nx w W1 := by subst hW1; exact (by repeat (first | exact Nx.refl _ | assumption | apply Nx.alloc | apply Nx.drew | apply Nx.drewN | (refine Nx.setCell ?_ (by first | (simp; done) | (simp; omega) | omega) _) | refine Nx.trans ?_ (by assumption)))
    have hbx : Bx W1 (w.heap.size + 2) 29 [V 0, .slice none 0 0] := by subst hW1; have h := Bx.alloc ((w.alloc (.cells #[V n, .slice A es.length c] 29)).alloc (.cells #[V u, V v] 40)) 29 [V 0, .slice none 0 0]; simpa using h
    have c0 : W1.cell? ⟨w.heap.size, 0, none⟩ = some (V n) := by subst hW1; go_simp
    have c1 : W1.cell? ⟨w.heap.size, 1, none⟩ = some (.slice A es.length c) := by subst hW1; go_simp
    have e0 : W1.cell? ⟨w.heap.size + 1, 0, none⟩ = some (V u) := by subst hW1; go_simp
    have e1 : W1.cell? ⟨w.heap.size + 1, 1, none⟩ = some (V v) := by subst hW1; go_simp
    have gs2 : w.heap.size + 1 < W1.heap.size := by omega
    have gs3 : w.heap.size < W1.heap.size := by omega
    have gs4 : w.heap.size + 3 ≤ W1.heap.size := by omega
    clear hW1 gs1
    refine (Hh.out _ (hx.nx gn1) (by omega)).mono ?_
    rintro e w2 ⟨rfl, hn2⟩
    have c0 := hn2.cell (p := ⟨w.heap.size, 0, none⟩) gs3 c0
    have c1 := hn2.cell (p := ⟨w.heap.size, 1, none⟩) gs3 c1
    have e0 := hn2.cell (p := ⟨w.heap.size + 1, 0, none⟩) gs2 e0
    have e1 := hn2.cell (p := ⟨w.heap.size + 1, 1, none⟩) gs2 e1
    have gz2 := hn2.size
    go_wp2_with fail
    refine (cut_c n A c es u v _ ((hx.nx gn1).nx hn2) hl).mono ?_
    rintro e w3 ⟨B, d, rfl, ho3, hn3⟩
    have hb3 := (hbx.nx hn2).nx hn3
    have r0 := hb3.cell (j := 0) rfl
    have r1 := hb3.cell (j := 1) rfl
    have rf := hb3.free
    have hn03 : Nx w w3 := (gn1.trans hn2).trans hn3
    generalize outE es (u, v) = ys at *
    go_wp2
    refine bodyPost_ret (v := .tuple #[.agg #[V n, .slice B ys.length d], .bool true]) (by simp [results, Try.f26, go_sem, *]) rfl ?_
    refine ⟨B, d, rfl, ?_, (by repeat (first | exact Nx.refl _ | assumption | apply Nx.alloc | apply Nx.drew | apply Nx.drewN | (refine Nx.setCell ?_ (by first | (simp; done) | (simp; omega) | omega) _) | refine Nx.trans ?_ (by assumption)))⟩
    exact ((ho3.far (by simp; omega) _).far (by simp; omega) _).mono (by omega)
  · have hd : decide (HasB n es u v) = false := by simpa using hv
    rw [show cutN n es (u, v) = 0 from if_neg hv, show cutL n es (u, v) = [] from if_neg hv]
    rw [hd] at hh ⊢
    have Hh := Lib.hid hh
    clear hh hd hv
    go_enter Try.func26, Try.ntmps26
    go_wp2_with fail
    generalize hW1 : World.alloc _ _ = W1
    have gs1 : W1.heap.size = w.heap.size + 3 := by subst hW1; simp
    have gn1 : Nx w W1 := by subst hW1; exact (by repeat (first | exact Nx.refl _ | assumption | apply Nx.alloc | apply Nx.drew | apply Nx.drewN | (refine Nx.setCell ?_ (by first | (simp; done) | (simp; omega) | omega) _) | refine Nx.trans ?_ (by assumption)))
    have hbx : Bx W1 (w.heap.size + 2) 29 [V 0, .slice none 0 0] := by subst hW1; have h := Bx.alloc ((w.alloc (.cells #[V n, .slice A es.length c] 29)).alloc (.cells #[V u, V v] 40)) 29 [V 0, .slice none 0 0]; simpa using h
    have gs4 : w.heap.size + 3 ≤ W1.heap.size := by omega
    clear hW1 gs1
    refine (Hh.out _ (hx.nx gn1) (by omega)).mono ?_
    rintro e w2 ⟨rfl, hn2⟩
    have hb2 := hbx.nx hn2
    have r0 := hb2.cell (j := 0) rfl
    have r1 := hb2.cell (j := 1) rfl
    have rf := hb2.free
    have hn02 : Nx w w2 := gn1.trans hn2
    go_wp2
    refine bodyPost_ret (v := .tuple #[.agg #[V 0, .slice none 0 0], .bool false]) (by simp [results, Try.f26, go_sem, *]) rfl ?_
    exact ⟨none, 0, rfl, OwnE.nil _ _ _, (by repeat (first | exact Nx.refl _ | assumption | apply Nx.alloc | apply Nx.drew | apply Nx.drewN | (refine Nx.setCell ?_ (by first | (simp; done) | (simp; omega) | omega) _) | refine Nx.trans ?_ (by assumption)))⟩

set_option maxRecDepth 100000 in
set_option maxHeartbeats 2000000 in
theorem sCutEdge_c (n : Int) (A : Option Addr) (c : Nat) (es : List (Int × Int)) (u v : Int) (w : World) (hx : EdgesAt w A es) (hl : es.length ≤ 1048576) :
    Calls Try.prog 24 #[.agg #[V n, .slice A es.length c], Ed u v] w (RetGB 40 (cutN n es (u, v)) (cutL n es (u, v)) (decide (HasB n es u v)) w) := by
  have hnot : ¬ HasB n es u v → cutN n es (u, v) = 0 ∧ cutL n es (u, v) = [] ∧ decide (HasB n es u v) = false := fun h => ⟨if_neg h, if_neg h, by simpa using h⟩
  by_cases hv : Valid n es
  · have hgv := sGraphValid_c n A c es
    rw [show decide (Valid n es) = true by simpa using hv] at hgv
    have Hgv := Lib.hid hgv
    clear hgv
    by_cases hm : (u, v) ∈ es
    · have hb : HasB n es u v := ⟨hv, hm⟩
      have hd : decide (HasB n es u v) = true := by simpa using hb
      rw [show cutN n es (u, v) = n from if_pos hb, show cutL n es (u, v) = outE es (u, v) from if_pos hb, hd]
      have hi0 : ¬ idxE es (u, v) < 0 := by have := (idxE_nonneg es (u, v)).2 hm; omega
      clear hb hd hnot hv hm
      go_enter Try.func24, Try.ntmps24
      go_wp2_with fail
      generalize hW1 : World.alloc _ _ = W1
      have gW1 : Nx w W1 := by subst hW1; exact (by repeat (first | exact Nx.refl _ | assumption | apply Nx.alloc | apply Nx.drew | apply Nx.drewN | (refine Nx.setCell ?_ (by first | (simp; done) | (simp; omega) | omega) _) | refine Nx.trans ?_ (by assumption)))
      have sW1 : W1.heap.size = w.heap.size + 3 := by subst hW1; simp
      have X0 : Bx W1 (w.heap.size) 29 [V n, .slice A es.length c] := by subst hW1; have h := Bx.alloc w 29 [V n, .slice A es.length c]; have h := h.nx (Nx.alloc (Nx.refl _) (.cells #[V u, V v] 40)); have h := h.nx (Nx.alloc (Nx.refl _) (.cells #[V 0, .slice none 0 0] 29)); simpa using h
      have X1 : Bx W1 (w.heap.size + 1) 40 [V u, V v] := by subst hW1; have h := Bx.alloc (w.alloc (.cells #[V n, .slice A es.length c] 29)) 40 [V u, V v]; have h := h.nx (Nx.alloc (Nx.refl _) (.cells #[V 0, .slice none 0 0] 29)); simpa using h
      have X2 : Bx W1 (w.heap.size + 2) 29 [V 0, .slice none 0 0] := by subst hW1; have h := Bx.alloc ((w.alloc (.cells #[V n, .slice A es.length c] 29)).alloc (.cells #[V u, V v] 40)) 29 [V 0, .slice none 0 0]; simpa using h
      have X0_0 := X0.cell (j := 0) rfl
      have X0_1 := X0.cell (j := 1) rfl
      have X0_z := X0.lt
      have X1_0 := X1.cell (j := 0) rfl
      have X1_1 := X1.cell (j := 1) rfl
      have X1_z := X1.lt
      have X2_0 := X2.cell (j := 0) rfl
      have X2_1 := X2.cell (j := 1) rfl
      have X2_z := X2.lt
      have HsW1 := Lib.hid sW1
      have lW1 : w.heap.size + 3 ≤ W1.heap.size := by omega
      clear hW1 sW1
      refine (Hgv.out _ (hx.nx gW1) (by omega)).mono ?_
      rintro e w2 ⟨rfl, hn2⟩
      replace X0 := X0.nx hn2
      replace X0_0 := X0.cell (j := 0) rfl
      replace X0_1 := X0.cell (j := 1) rfl
      replace X0_z := X0.lt
      replace X1 := X1.nx hn2
      replace X1_0 := X1.cell (j := 0) rfl
      replace X1_1 := X1.cell (j := 1) rfl
      replace X1_z := X1.lt
      replace X2 := X2.nx hn2
      replace X2_0 := X2.cell (j := 0) rfl
      replace X2_1 := X2.cell (j := 1) rfl
      replace X2_z := X2.lt
      go_wp2_with fail
      refine (l1Find_c A c es u v _ ((hx.nx gW1).nx hn2) (by omega)).mono ?_
      rintro e w3 ⟨rfl, hn3⟩
      replace X0 := X0.nx hn3
      replace X0_0 := X0.cell (j := 0) rfl
      replace X0_1 := X0.cell (j := 1) rfl
      replace X0_z := X0.lt
      replace X1 := X1.nx hn3
      replace X1_0 := X1.cell (j := 0) rfl
      replace X1_1 := X1.cell (j := 1) rfl
      replace X1_z := X1.lt
      replace X2 := X2.nx hn3
      replace X2_0 := X2.cell (j := 0) rfl
      replace X2_1 := X2.cell (j := 1) rfl
      replace X2_z := X2.lt
      have hn03 : Nx w w3 := (gW1.trans hn2).trans hn3
      have gz3 : W1.heap.size ≤ w3.heap.size := Nat.le_trans hn2.size hn3.size
      generalize idxE es (u, v) = ix at *
      go_wp2
      have hg3 := hx.nx hn03
      have kp : ∀ w', Rx (w.heap.size + 2) w3 w' → Rx (w.heap.size + 2) w3 w' ∧ w'.cell? ⟨w.heap.size, 0, none⟩ = some (V n) ∧ w'.cell? ⟨w.heap.size, 1, none⟩ = some (.slice A es.length c) ∧ w'.cell? ⟨w.heap.size + 1, 0, none⟩ = some (V u) ∧ w'.cell? ⟨w.heap.size + 1, 1, none⟩ = some (V v) := fun w' h => ⟨h, World.grownBy.cell h X0_0 (by simp), World.grownBy.cell h X0_1 (by simp), World.grownBy.cell h X1_0 (by simp), World.grownBy.cell h X1_1 (by simp)⟩
      have hdr : Nx w3 w3.drew := .drew (.refl _)
      go_region_held3 (fun w_ => Rx (w.heap.size + 2) w3 w_ ∧ w_.cell? ⟨w.heap.size, 0, none⟩ = some (V n) ∧ w_.cell? ⟨w.heap.size, 1, none⟩ = some (.slice A es.length c) ∧ w_.cell? ⟨w.heap.size + 1, 0, none⟩ = some (V u) ∧ w_.cell? ⟨w.heap.size + 1, 1, none⟩ = some (V v))
        (first | exact kp _ (hdr.rx _) | exact kp _ (hn35.rx _) | exact kp _ (((hn35.rx _).setCell _ _).setCell _ _))
        (first
          | (go_at_call 59; (with_reducible refine (l1Without_c A c es u v _ (hg3.nx hdr) hl).mono ?_); rintro e w5 ⟨B, d, rfl, ho5, hn5⟩; have hn35 : Nx w3 w5 := hdr.trans hn5; have X2 := X2.nx hn35; have X2_0 := X2.cell (j := 0) rfl; have X2_1 := X2.cell (j := 1) rfl; have rf := X2.free))
      have gz5 : w3.heap.size ≤ w5.heap.size := hn35.size
      have hn05 : Nx w w5 := hn03.trans hn35
      have ho5 : OwnE w5 w3.heap.size 40 B d (outE es (u, v)) := ho5
      generalize outE es (u, v) = ys at *
      go_wp2
      refine bodyPost_ret (v := .tuple #[.agg #[V n, .slice B ys.length d], .bool true]) (by simp [results, Try.f24, go_sem, *]) rfl ?_
      refine ⟨B, d, rfl, ?_, (by repeat (first | exact Nx.refl _ | assumption | apply Nx.alloc | apply Nx.drew | apply Nx.drewN | (refine Nx.setCell ?_ (by first | (simp; done) | (simp; omega) | omega) _) | refine Nx.trans ?_ (by assumption)))⟩
      exact ((ho5.far (by simp; omega) _).far (by simp; omega) _).mono (by omega)
    · obtain ⟨e1, e2, e3⟩ := hnot (fun h => hm h.2)
      rw [e1, e2, e3]
      have hi0 : idxE es (u, v) < 0 := by
        have := mt (idxE_nonneg es (u, v)).1 hm; omega
      clear e1 e2 e3 hnot hv hm
      go_enter Try.func24, Try.ntmps24
      go_wp2_with fail
      generalize hW1 : World.alloc _ _ = W1
      have gW1 : Nx w W1 := by subst hW1; exact (by repeat (first | exact Nx.refl _ | assumption | apply Nx.alloc | apply Nx.drew | apply Nx.drewN | (refine Nx.setCell ?_ (by first | (simp; done) | (simp; omega) | omega) _) | refine Nx.trans ?_ (by assumption)))
      have sW1 : W1.heap.size = w.heap.size + 3 := by subst hW1; simp
      have X0 : Bx W1 (w.heap.size) 29 [V n, .slice A es.length c] := by subst hW1; have h := Bx.alloc w 29 [V n, .slice A es.length c]; have h := h.nx (Nx.alloc (Nx.refl _) (.cells #[V u, V v] 40)); have h := h.nx (Nx.alloc (Nx.refl _) (.cells #[V 0, .slice none 0 0] 29)); simpa using h
      have X1 : Bx W1 (w.heap.size + 1) 40 [V u, V v] := by subst hW1; have h := Bx.alloc (w.alloc (.cells #[V n, .slice A es.length c] 29)) 40 [V u, V v]; have h := h.nx (Nx.alloc (Nx.refl _) (.cells #[V 0, .slice none 0 0] 29)); simpa using h
      have X2 : Bx W1 (w.heap.size + 2) 29 [V 0, .slice none 0 0] := by subst hW1; have h := Bx.alloc ((w.alloc (.cells #[V n, .slice A es.length c] 29)).alloc (.cells #[V u, V v] 40)) 29 [V 0, .slice none 0 0]; simpa using h
      have X0_0 := X0.cell (j := 0) rfl
      have X0_1 := X0.cell (j := 1) rfl
      have X0_z := X0.lt
      have X1_0 := X1.cell (j := 0) rfl
      have X1_1 := X1.cell (j := 1) rfl
      have X1_z := X1.lt
      have X2_0 := X2.cell (j := 0) rfl
      have X2_1 := X2.cell (j := 1) rfl
      have X2_z := X2.lt
      have HsW1 := Lib.hid sW1
      have lW1 : w.heap.size + 3 ≤ W1.heap.size := by omega
      clear hW1 sW1
      refine (Hgv.out _ (hx.nx gW1) (by omega)).mono ?_
      rintro e w2 ⟨rfl, hn2⟩
      replace X0 := X0.nx hn2
      replace X0_0 := X0.cell (j := 0) rfl
      replace X0_1 := X0.cell (j := 1) rfl
      replace X0_z := X0.lt
      replace X1 := X1.nx hn2
      replace X1_0 := X1.cell (j := 0) rfl
      replace X1_1 := X1.cell (j := 1) rfl
      replace X1_z := X1.lt
      replace X2 := X2.nx hn2
      replace X2_0 := X2.cell (j := 0) rfl
      replace X2_1 := X2.cell (j := 1) rfl
      replace X2_z := X2.lt
      go_wp2_with fail
      refine (l1Find_c A c es u v _ ((hx.nx gW1).nx hn2) (by omega)).mono ?_
      rintro e w3 ⟨rfl, hn3⟩
      replace X0 := X0.nx hn3
      replace X0_0 := X0.cell (j := 0) rfl
      replace X0_1 := X0.cell (j := 1) rfl
      replace X0_z := X0.lt
      replace X1 := X1.nx hn3
      replace X1_0 := X1.cell (j := 0) rfl
      replace X1_1 := X1.cell (j := 1) rfl
      replace X1_z := X1.lt
      replace X2 := X2.nx hn3
      replace X2_0 := X2.cell (j := 0) rfl
      replace X2_1 := X2.cell (j := 1) rfl
      replace X2_z := X2.lt
      have hn03 : Nx w w3 := (gW1.trans hn2).trans hn3
      have rf := X2.free
      generalize idxE es (u, v) = ix at *
      go_wp2
      refine bodyPost_ret (v := .tuple #[.agg #[V 0, .slice none 0 0], .bool false]) (by simp [results, Try.f24, go_sem, *]) rfl ?_
      exact ⟨none, 0, rfl, OwnE.nil _ _ _, (by repeat (first | exact Nx.refl _ | assumption | apply Nx.alloc | apply Nx.drew | apply Nx.drewN | (refine Nx.setCell ?_ (by first | (simp; done) | (simp; omega) | omega) _) | refine Nx.trans ?_ (by assumption)))⟩
  · have hgv := sGraphValid_c n A c es
    rw [show decide (Valid n es) = false by simpa using hv] at hgv
    have Hgv := Lib.hid hgv
    obtain ⟨e1, e2, e3⟩ := hnot (fun h => hv h.1)
    rw [e1, e2, e3]
    clear e1 e2 e3 hgv hnot hv
    go_enter Try.func24, Try.ntmps24
    go_wp2_with fail
    generalize hW1 : World.alloc _ _ = W1
    have gW1 : Nx w W1 := by subst hW1; exact (by repeat (first | exact Nx.refl _ | assumption | apply Nx.alloc | apply Nx.drew | apply Nx.drewN | (refine Nx.setCell ?_ (by first | (simp; done) | (simp; omega) | omega) _) | refine Nx.trans ?_ (by assumption)))
    have sW1 : W1.heap.size = w.heap.size + 3 := by subst hW1; simp
    have X0 : Bx W1 (w.heap.size) 29 [V n, .slice A es.length c] := by subst hW1; have h := Bx.alloc w 29 [V n, .slice A es.length c]; have h := h.nx (Nx.alloc (Nx.refl _) (.cells #[V u, V v] 40)); have h := h.nx (Nx.alloc (Nx.refl _) (.cells #[V 0, .slice none 0 0] 29)); simpa using h
    have X1 : Bx W1 (w.heap.size + 1) 40 [V u, V v] := by subst hW1; have h := Bx.alloc (w.alloc (.cells #[V n, .slice A es.length c] 29)) 40 [V u, V v]; have h := h.nx (Nx.alloc (Nx.refl _) (.cells #[V 0, .slice none 0 0] 29)); simpa using h
    have X2 : Bx W1 (w.heap.size + 2) 29 [V 0, .slice none 0 0] := by subst hW1; have h := Bx.alloc ((w.alloc (.cells #[V n, .slice A es.length c] 29)).alloc (.cells #[V u, V v] 40)) 29 [V 0, .slice none 0 0]; simpa using h
    have X0_0 := X0.cell (j := 0) rfl
    have X0_1 := X0.cell (j := 1) rfl
    have X0_z := X0.lt
    have X1_0 := X1.cell (j := 0) rfl
    have X1_1 := X1.cell (j := 1) rfl
    have X1_z := X1.lt
    have X2_0 := X2.cell (j := 0) rfl
    have X2_1 := X2.cell (j := 1) rfl
    have X2_z := X2.lt
    have HsW1 := Lib.hid sW1
    have lW1 : w.heap.size + 3 ≤ W1.heap.size := by omega
    clear hW1 sW1
    refine (Hgv.out _ (hx.nx gW1) (by omega)).mono ?_
    rintro e w2 ⟨rfl, hn2⟩
    replace X0 := X0.nx hn2
    replace X0_0 := X0.cell (j := 0) rfl
    replace X0_1 := X0.cell (j := 1) rfl
    replace X0_z := X0.lt
    replace X1 := X1.nx hn2
    replace X1_0 := X1.cell (j := 0) rfl
    replace X1_1 := X1.cell (j := 1) rfl
    replace X1_z := X1.lt
    replace X2 := X2.nx hn2
    replace X2_0 := X2.cell (j := 0) rfl
    replace X2_1 := X2.cell (j := 1) rfl
    replace X2_z := X2.lt
    have rf := X2.free
    have hn02 : Nx w w2 := gW1.trans hn2
    go_wp2
    refine bodyPost_ret (v := .tuple #[.agg #[V 0, .slice none 0 0], .bool false]) (by simp [results, Try.f24, go_sem, *]) rfl ?_
    exact ⟨none, 0, rfl, OwnE.nil _ _ _, (by repeat (first | exact Nx.refl _ | assumption | apply Nx.alloc | apply Nx.drew | apply Nx.drewN | (refine Nx.setCell ?_ (by first | (simp; done) | (simp; omega) | omega) _) | refine Nx.trans ?_ (by assumption)))⟩
end Go.Proofs.Ytmagbdcmanchmaa
