/- FnCutPut: the walk. -/
import Derived.Test.YtmagbdcmanchmaaQ0
import Derived.Test.YtmagbdcmanchmaaP3
namespace Go.Proofs.Ytmagbdcmanchmaa
open Go.RowKit

theorem Valid.outE {n : Int} {es : Es} (h : Valid n es) (e : Int × Int) : Valid n (outE es e) := by
  have hp : es.Pairwise ltE := List.pairwise_iff_getElem.2 fun i j hi hj hij => h.sorted i j _ _ hij (List.getElem?_eq_getElem hi) (List.getElem?_eq_getElem hj)
  have hg : Good n (Proofs.Ytmagbdcmanchmaa.outE es e) := ⟨fun y hy => h.pair (outE_sub y hy), hp.filter _⟩
  have := outE_len es e
  exact hg.valid h.1 h.2.1 (by have := h.2.2.1; omega)
theorem putP_out {n : Int} {es : Es} {u v : Int} (h : HasB n es u v) : PutP n (outE es (u, v)) (u, v) :=
  ⟨h.1.outE _, outE_not_mem, by rw [put_outE es (u, v) h.1.sorted h.2]; exact h.1⟩

set_option maxRecDepth 100000 in
set_option maxHeartbeats 8000000 in
theorem fnCutPut_walk (w : World) (A : Option Addr) (n c : Nat) (hnc : n ≤ c) (hb : BytesAt w w.heap.size A n) :
    Calls Try.prog 13 #[.slice A n c] w (RetV (.bool true) w) := by
  by_cases hbig : (n : Int) > 1048576
  · go_enter Try.func13, Try.ntmps13
    go_wp2
    go_ret
    exact RetV.bool rfl (by repeat (first | exact Nx.refl _ | assumption | apply Nx.alloc | apply Nx.drew | apply Nx.drewN | (refine Nx.setCell ?_ (by first | (simp; done) | (simp; omega) | omega) _) | refine Nx.trans ?_ (by assumption)))
  · go_enter Try.func13, Try.ntmps13
    go_wp2_with fail
    refine (drawCutEdge_c A n c _ hnc hb).mono ?_
    rintro e w1 ⟨nn, B, d, es, u, v, rfl, h1, h2, h3, ho, N⟩
    have hg := ho.edgesAt
    clear ho hb
    by_cases hp : HasB nn es u v
    · have hpp := putP_out hp
      have H1 := Lib.hid (show decide (HasB nn es u v) = true by simpa using hp)
      have H2 := Lib.hid (show decide (HasB nn (outE es (u, v)) u v) = false by simp [HasB, outE_not_mem])
      have H3 := Lib.hid hp
      have H4 := Lib.hid hpp
      have H5 := Lib.hid (put_outE es (u, v) hp.1.sorted hp.2)
      have H6 := Lib.hid hpp.1
      have Hi := iCut_yes nn B d es u v hp
      have Hs := sCut_yes nn B d es u v hp
      have hlx := outE_len es (u, v)
      clear hp hpp
      generalize outE es (u, v) = ys at *
      go_wp2_with fail
      generalize hW2 : World.alloc _ _ = W2
      have gW2 : Nx w1 W2 := by subst hW2; exact (by repeat (first | exact Nx.refl _ | assumption | apply Nx.alloc | apply Nx.drew | apply Nx.drewN | (refine Nx.setCell ?_ (by first | (simp; done) | (simp; omega) | omega) _) | refine Nx.trans ?_ (by assumption)))
      have sW2 : W2.heap.size = w1.heap.size + 2 := by subst hW2; simp
      have G : Bx W2 (w1.heap.size) 29 [V nn, .slice B es.length d] := by subst hW2; have h := Bx.alloc w1 29 [V nn, .slice B es.length d]; have h := h.nx (Nx.alloc (Nx.refl _) (.cells #[V u, V v] 40)); simpa using h
      have E : Bx W2 (w1.heap.size + 1) 40 [V u, V v] := by subst hW2; have h := Bx.alloc (w1.alloc (.cells #[V nn, .slice B es.length d] 29)) 40 [V u, V v]; simpa using h
      have G_0 := G.cell (j := 0) rfl
      have G_1 := G.cell (j := 1) rfl
      have G_z := G.lt
      have E_0 := E.cell (j := 0) rfl
      have E_1 := E.cell (j := 1) rfl
      have E_z := E.lt
      have HsW2 := Lib.hid sW2
      have lW2 : w1.heap.size + 2 ≤ W2.heap.size := by omega
      clear hW2 sW2
      replace hg := hg.nx gW2
      replace N := N.trans gW2
      refine (Hi _ hg (by omega)).mono ?_
      rintro e w3 ⟨C, k, rfl, ho3, hn3⟩
      replace G := G.nx hn3
      replace G_0 := G.cell (j := 0) rfl
      replace G_1 := G.cell (j := 1) rfl
      replace G_z := G.lt
      replace E := E.nx hn3
      replace E_0 := E.cell (j := 0) rfl
      replace E_1 := E.cell (j := 1) rfl
      replace E_z := E.lt
      replace hg := hg.nx hn3
      replace N := N.trans hn3
      have hx := ho3.edgesAt
      clear ho3
      go_wp2_with fail
      generalize hW4 : World.alloc _ _ = W4
      have gW4 : Nx w3 W4 := by subst hW4; exact (by repeat (first | exact Nx.refl _ | assumption | apply Nx.alloc | apply Nx.drew | apply Nx.drewN | (refine Nx.setCell ?_ (by first | (simp; done) | (simp; omega) | omega) _) | refine Nx.trans ?_ (by assumption)))
      have sW4 : W4.heap.size = w3.heap.size + 1 := by subst hW4; simp
      have X : Bx W4 (w3.heap.size) 29 [V nn, .slice C ys.length k] := by subst hW4; have h := Bx.alloc w3 29 [V nn, .slice C ys.length k]; simpa using h
      have X_0 := X.cell (j := 0) rfl
      have X_1 := X.cell (j := 1) rfl
      have X_z := X.lt
      have HsW4 := Lib.hid sW4
      have lW4 : w3.heap.size + 1 ≤ W4.heap.size := by omega
      clear hW4 sW4
      replace G := G.nx gW4
      replace G_0 := G.cell (j := 0) rfl
      replace G_1 := G.cell (j := 1) rfl
      replace G_z := G.lt
      replace E := E.nx gW4
      replace E_0 := E.cell (j := 0) rfl
      replace E_1 := E.cell (j := 1) rfl
      replace E_z := E.lt
      replace hg := hg.nx gW4
      replace hx := hx.nx gW4
      replace N := N.trans gW4
      refine (Hs _ hg (by omega)).mono ?_
      rintro e w5 ⟨D, m, rfl, ho5, hn5⟩
      replace G := G.nx hn5
      replace G_0 := G.cell (j := 0) rfl
      replace G_1 := G.cell (j := 1) rfl
      replace G_z := G.lt
      replace E := E.nx hn5
      replace E_0 := E.cell (j := 0) rfl
      replace E_1 := E.cell (j := 1) rfl
      replace E_z := E.lt
      replace X := X.nx hn5
      replace X_0 := X.cell (j := 0) rfl
      replace X_1 := X.cell (j := 1) rfl
      replace X_z := X.lt
      replace hg := hg.nx hn5
      replace hx := hx.nx hn5
      replace N := N.trans hn5
      have hy := ho5.edgesAt
      clear ho5
      go_wp2_with fail
      generalize hW6 : World.alloc _ _ = W6
      have gW6 : Nx w5 W6 := by subst hW6; exact (by repeat (first | exact Nx.refl _ | assumption | apply Nx.alloc | apply Nx.drew | apply Nx.drewN | (refine Nx.setCell ?_ (by first | (simp; done) | (simp; omega) | omega) _) | refine Nx.trans ?_ (by assumption)))
      have sW6 : W6.heap.size = w5.heap.size + 1 := by subst hW6; simp
      have Y : Bx W6 (w5.heap.size) 29 [V nn, .slice D ys.length m] := by subst hW6; have h := Bx.alloc w5 29 [V nn, .slice D ys.length m]; simpa using h
      have Y_0 := Y.cell (j := 0) rfl
      have Y_1 := Y.cell (j := 1) rfl
      have Y_z := Y.lt
      have HsW6 := Lib.hid sW6
      have lW6 : w5.heap.size + 1 ≤ W6.heap.size := by omega
      clear hW6 sW6
      replace G := G.nx gW6
      replace G_0 := G.cell (j := 0) rfl
      replace G_1 := G.cell (j := 1) rfl
      replace G_z := G.lt
      replace E := E.nx gW6
      replace E_0 := E.cell (j := 0) rfl
      replace E_1 := E.cell (j := 1) rfl
      replace E_z := E.lt
      replace X := X.nx gW6
      replace X_0 := X.cell (j := 0) rfl
      replace X_1 := X.cell (j := 1) rfl
      replace X_z := X.lt
      replace hg := hg.nx gW6
      replace hx := hx.nx gW6
      replace hy := hy.nx gW6
      replace N := N.trans gW6
      refine (same_yes nn C D k m ys _ hx hy (by omega)).mono ?_
      rintro e w7 ⟨rfl, hn7⟩
      replace G := G.nx hn7
      replace G_0 := G.cell (j := 0) rfl
      replace G_1 := G.cell (j := 1) rfl
      replace G_z := G.lt
      replace E := E.nx hn7
      replace E_0 := E.cell (j := 0) rfl
      replace E_1 := E.cell (j := 1) rfl
      replace E_z := E.lt
      replace X := X.nx hn7
      replace X_0 := X.cell (j := 0) rfl
      replace X_1 := X.cell (j := 1) rfl
      replace X_z := X.lt
      replace Y := Y.nx hn7
      replace Y_0 := Y.cell (j := 0) rfl
      replace Y_1 := Y.cell (j := 1) rfl
      replace Y_z := Y.lt
      replace hg := hg.nx hn7
      replace hx := hx.nx hn7
      replace hy := hy.nx hn7
      replace N := N.trans hn7
      go_wp2_with fail
      refine (iHas_to nn B d es u v true H1.out _ hg (by omega)).mono ?_
      rintro e w8 ⟨rfl, hn8⟩
      replace G := G.nx hn8
      replace G_0 := G.cell (j := 0) rfl
      replace G_1 := G.cell (j := 1) rfl
      replace G_z := G.lt
      replace E := E.nx hn8
      replace E_0 := E.cell (j := 0) rfl
      replace E_1 := E.cell (j := 1) rfl
      replace E_z := E.lt
      replace X := X.nx hn8
      replace X_0 := X.cell (j := 0) rfl
      replace X_1 := X.cell (j := 1) rfl
      replace X_z := X.lt
      replace Y := Y.nx hn8
      replace Y_0 := Y.cell (j := 0) rfl
      replace Y_1 := Y.cell (j := 1) rfl
      replace Y_z := Y.lt
      replace hg := hg.nx hn8
      replace hx := hx.nx hn8
      replace hy := hy.nx hn8
      replace N := N.trans hn8
      go_wp2_with fail
      refine (sHas_to nn B d es u v true H1.out _ hg (by omega)).mono ?_
      rintro e w9 ⟨rfl, hn9⟩
      replace G := G.nx hn9
      replace G_0 := G.cell (j := 0) rfl
      replace G_1 := G.cell (j := 1) rfl
      replace G_z := G.lt
      replace E := E.nx hn9
      replace E_0 := E.cell (j := 0) rfl
      replace E_1 := E.cell (j := 1) rfl
      replace E_z := E.lt
      replace X := X.nx hn9
      replace X_0 := X.cell (j := 0) rfl
      replace X_1 := X.cell (j := 1) rfl
      replace X_z := X.lt
      replace Y := Y.nx hn9
      replace Y_0 := Y.cell (j := 0) rfl
      replace Y_1 := Y.cell (j := 1) rfl
      replace Y_z := Y.lt
      replace hg := hg.nx hn9
      replace hx := hx.nx hn9
      replace hy := hy.nx hn9
      replace N := N.trans hn9
      go_wp2_with fail
      refine (iPut_to nn C k ys es u v H4.out H5.out _ hx (by omega)).mono ?_
      rintro e w10 ⟨D2, m2, rfl, ho8, hn10⟩
      replace G := G.nx hn10
      replace G_0 := G.cell (j := 0) rfl
      replace G_1 := G.cell (j := 1) rfl
      replace G_z := G.lt
      replace E := E.nx hn10
      replace E_0 := E.cell (j := 0) rfl
      replace E_1 := E.cell (j := 1) rfl
      replace E_z := E.lt
      replace X := X.nx hn10
      replace X_0 := X.cell (j := 0) rfl
      replace X_1 := X.cell (j := 1) rfl
      replace X_z := X.lt
      replace Y := Y.nx hn10
      replace Y_0 := Y.cell (j := 0) rfl
      replace Y_1 := Y.cell (j := 1) rfl
      replace Y_z := Y.lt
      replace hg := hg.nx hn10
      replace hx := hx.nx hn10
      replace hy := hy.nx hn10
      replace N := N.trans hn10
      have hz := ho8.edgesAt
      clear ho8
      go_wp2_with fail
      generalize hW11 : World.alloc _ _ = W11
      have gW11 : Nx w10 W11 := by subst hW11; exact (by repeat (first | exact Nx.refl _ | assumption | apply Nx.alloc | apply Nx.drew | apply Nx.drewN | (refine Nx.setCell ?_ (by first | (simp; done) | (simp; omega) | omega) _) | refine Nx.trans ?_ (by assumption)))
      have sW11 : W11.heap.size = w10.heap.size + 1 := by subst hW11; simp
      have Z : Bx W11 (w10.heap.size) 29 [V nn, .slice D2 es.length m2] := by subst hW11; have h := Bx.alloc w10 29 [V nn, .slice D2 es.length m2]; simpa using h
      have Z_0 := Z.cell (j := 0) rfl
      have Z_1 := Z.cell (j := 1) rfl
      have Z_z := Z.lt
      have HsW11 := Lib.hid sW11
      have lW11 : w10.heap.size + 1 ≤ W11.heap.size := by omega
      clear hW11 sW11
      replace G := G.nx gW11
      replace G_0 := G.cell (j := 0) rfl
      replace G_1 := G.cell (j := 1) rfl
      replace G_z := G.lt
      replace E := E.nx gW11
      replace E_0 := E.cell (j := 0) rfl
      replace E_1 := E.cell (j := 1) rfl
      replace E_z := E.lt
      replace X := X.nx gW11
      replace X_0 := X.cell (j := 0) rfl
      replace X_1 := X.cell (j := 1) rfl
      replace X_z := X.lt
      replace Y := Y.nx gW11
      replace Y_0 := Y.cell (j := 0) rfl
      replace Y_1 := Y.cell (j := 1) rfl
      replace Y_z := Y.lt
      replace hg := hg.nx gW11
      replace hx := hx.nx gW11
      replace hy := hy.nx gW11
      replace hz := hz.nx gW11
      replace N := N.trans gW11
      refine (valid_yes nn C k ys H6.out _ hx (by omega)).mono ?_
      rintro e w12 ⟨rfl, hn12⟩
      replace G := G.nx hn12
      replace G_0 := G.cell (j := 0) rfl
      replace G_1 := G.cell (j := 1) rfl
      replace G_z := G.lt
      replace E := E.nx hn12
      replace E_0 := E.cell (j := 0) rfl
      replace E_1 := E.cell (j := 1) rfl
      replace E_z := E.lt
      replace X := X.nx hn12
      replace X_0 := X.cell (j := 0) rfl
      replace X_1 := X.cell (j := 1) rfl
      replace X_z := X.lt
      replace Y := Y.nx hn12
      replace Y_0 := Y.cell (j := 0) rfl
      replace Y_1 := Y.cell (j := 1) rfl
      replace Y_z := Y.lt
      replace Z := Z.nx hn12
      replace Z_0 := Z.cell (j := 0) rfl
      replace Z_1 := Z.cell (j := 1) rfl
      replace Z_z := Z.lt
      replace hg := hg.nx hn12
      replace hx := hx.nx hn12
      replace hy := hy.nx hn12
      replace hz := hz.nx hn12
      replace N := N.trans hn12
      go_wp2_with fail
      refine (iHas_to nn C k ys u v false H2.out _ hx (by omega)).mono ?_
      rintro e w13 ⟨rfl, hn13⟩
      replace G := G.nx hn13
      replace G_0 := G.cell (j := 0) rfl
      replace G_1 := G.cell (j := 1) rfl
      replace G_z := G.lt
      replace E := E.nx hn13
      replace E_0 := E.cell (j := 0) rfl
      replace E_1 := E.cell (j := 1) rfl
      replace E_z := E.lt
      replace X := X.nx hn13
      replace X_0 := X.cell (j := 0) rfl
      replace X_1 := X.cell (j := 1) rfl
      replace X_z := X.lt
      replace Y := Y.nx hn13
      replace Y_0 := Y.cell (j := 0) rfl
      replace Y_1 := Y.cell (j := 1) rfl
      replace Y_z := Y.lt
      replace Z := Z.nx hn13
      replace Z_0 := Z.cell (j := 0) rfl
      replace Z_1 := Z.cell (j := 1) rfl
      replace Z_z := Z.lt
      replace hg := hg.nx hn13
      replace hx := hx.nx hn13
      replace hy := hy.nx hn13
      replace hz := hz.nx hn13
      replace N := N.trans hn13
      go_wp2_with fail
      refine (same_yes nn D2 B m2 d es _ hz hg (by omega)).mono ?_
      rintro e w14 ⟨rfl, hn14⟩
      replace G := G.nx hn14
      replace G_0 := G.cell (j := 0) rfl
      replace G_1 := G.cell (j := 1) rfl
      replace G_z := G.lt
      replace E := E.nx hn14
      replace E_0 := E.cell (j := 0) rfl
      replace E_1 := E.cell (j := 1) rfl
      replace E_z := E.lt
      replace X := X.nx hn14
      replace X_0 := X.cell (j := 0) rfl
      replace X_1 := X.cell (j := 1) rfl
      replace X_z := X.lt
      replace Y := Y.nx hn14
      replace Y_0 := Y.cell (j := 0) rfl
      replace Y_1 := Y.cell (j := 1) rfl
      replace Y_z := Y.lt
      replace Z := Z.nx hn14
      replace Z_0 := Z.cell (j := 0) rfl
      replace Z_1 := Z.cell (j := 1) rfl
      replace Z_z := Z.lt
      replace hg := hg.nx hn14
      replace hx := hx.nx hn14
      replace hy := hy.nx hn14
      replace hz := hz.nx hn14
      replace N := N.trans hn14
      go_wp2
      go_ret
      exact RetV.bool rfl (by repeat (first | exact Nx.refl _ | assumption | apply Nx.alloc | apply Nx.drew | apply Nx.drewN | (refine Nx.setCell ?_ (by first | (simp; done) | (simp; omega) | omega) _) | refine Nx.trans ?_ (by assumption)))
    · have Hi := iCut_no nn B d es u v hp
      have Hs := sCut_no nn B d es u v hp
      have H1 := Lib.hid (show decide (HasB nn es u v) = false by simpa using hp)
      clear hp
      go_wp2_with fail
      generalize hW2 : World.alloc _ _ = W2
      have gW2 : Nx w1 W2 := by subst hW2; exact (by repeat (first | exact Nx.refl _ | assumption | apply Nx.alloc | apply Nx.drew | apply Nx.drewN | (refine Nx.setCell ?_ (by first | (simp; done) | (simp; omega) | omega) _) | refine Nx.trans ?_ (by assumption)))
      have sW2 : W2.heap.size = w1.heap.size + 2 := by subst hW2; simp
      have G : Bx W2 (w1.heap.size) 29 [V nn, .slice B es.length d] := by subst hW2; have h := Bx.alloc w1 29 [V nn, .slice B es.length d]; have h := h.nx (Nx.alloc (Nx.refl _) (.cells #[V u, V v] 40)); simpa using h
      have E : Bx W2 (w1.heap.size + 1) 40 [V u, V v] := by subst hW2; have h := Bx.alloc (w1.alloc (.cells #[V nn, .slice B es.length d] 29)) 40 [V u, V v]; simpa using h
      have G_0 := G.cell (j := 0) rfl
      have G_1 := G.cell (j := 1) rfl
      have G_z := G.lt
      have E_0 := E.cell (j := 0) rfl
      have E_1 := E.cell (j := 1) rfl
      have E_z := E.lt
      have HsW2 := Lib.hid sW2
      have lW2 : w1.heap.size + 2 ≤ W2.heap.size := by omega
      clear hW2 sW2
      replace hg := hg.nx gW2
      replace N := N.trans gW2
      refine (Hi _ hg (by omega)).mono ?_
      rintro e w3 ⟨C, k, rfl, ho3, hn3⟩
      replace G := G.nx hn3
      replace G_0 := G.cell (j := 0) rfl
      replace G_1 := G.cell (j := 1) rfl
      replace G_z := G.lt
      replace E := E.nx hn3
      replace E_0 := E.cell (j := 0) rfl
      replace E_1 := E.cell (j := 1) rfl
      replace E_z := E.lt
      replace hg := hg.nx hn3
      replace N := N.trans hn3
      have hx := ho3.edgesAt
      clear ho3
      go_wp2_with fail
      generalize hW4 : World.alloc _ _ = W4
      have gW4 : Nx w3 W4 := by subst hW4; exact (by repeat (first | exact Nx.refl _ | assumption | apply Nx.alloc | apply Nx.drew | apply Nx.drewN | (refine Nx.setCell ?_ (by first | (simp; done) | (simp; omega) | omega) _) | refine Nx.trans ?_ (by assumption)))
      have sW4 : W4.heap.size = w3.heap.size + 1 := by subst hW4; simp
      have X : Bx W4 (w3.heap.size) 29 [V 0, .slice C 0 k] := by subst hW4; have h := Bx.alloc w3 29 [V 0, .slice C 0 k]; simpa using h
      have X_0 := X.cell (j := 0) rfl
      have X_1 := X.cell (j := 1) rfl
      have X_z := X.lt
      have HsW4 := Lib.hid sW4
      have lW4 : w3.heap.size + 1 ≤ W4.heap.size := by omega
      clear hW4 sW4
      replace G := G.nx gW4
      replace G_0 := G.cell (j := 0) rfl
      replace G_1 := G.cell (j := 1) rfl
      replace G_z := G.lt
      replace E := E.nx gW4
      replace E_0 := E.cell (j := 0) rfl
      replace E_1 := E.cell (j := 1) rfl
      replace E_z := E.lt
      replace hg := hg.nx gW4
      replace hx := hx.nx gW4
      replace N := N.trans gW4
      refine (Hs _ hg (by omega)).mono ?_
      rintro e w5 ⟨D, m, rfl, ho5, hn5⟩
      replace G := G.nx hn5
      replace G_0 := G.cell (j := 0) rfl
      replace G_1 := G.cell (j := 1) rfl
      replace G_z := G.lt
      replace E := E.nx hn5
      replace E_0 := E.cell (j := 0) rfl
      replace E_1 := E.cell (j := 1) rfl
      replace E_z := E.lt
      replace X := X.nx hn5
      replace X_0 := X.cell (j := 0) rfl
      replace X_1 := X.cell (j := 1) rfl
      replace X_z := X.lt
      replace hg := hg.nx hn5
      replace hx := hx.nx hn5
      replace N := N.trans hn5
      have hy := ho5.edgesAt
      clear ho5
      go_wp2_with fail
      generalize hW6 : World.alloc _ _ = W6
      have gW6 : Nx w5 W6 := by subst hW6; exact (by repeat (first | exact Nx.refl _ | assumption | apply Nx.alloc | apply Nx.drew | apply Nx.drewN | (refine Nx.setCell ?_ (by first | (simp; done) | (simp; omega) | omega) _) | refine Nx.trans ?_ (by assumption)))
      have sW6 : W6.heap.size = w5.heap.size + 1 := by subst hW6; simp
      have Y : Bx W6 (w5.heap.size) 29 [V 0, .slice D 0 m] := by subst hW6; have h := Bx.alloc w5 29 [V 0, .slice D 0 m]; simpa using h
      have Y_0 := Y.cell (j := 0) rfl
      have Y_1 := Y.cell (j := 1) rfl
      have Y_z := Y.lt
      have HsW6 := Lib.hid sW6
      have lW6 : w5.heap.size + 1 ≤ W6.heap.size := by omega
      clear hW6 sW6
      replace G := G.nx gW6
      replace G_0 := G.cell (j := 0) rfl
      replace G_1 := G.cell (j := 1) rfl
      replace G_z := G.lt
      replace E := E.nx gW6
      replace E_0 := E.cell (j := 0) rfl
      replace E_1 := E.cell (j := 1) rfl
      replace E_z := E.lt
      replace X := X.nx gW6
      replace X_0 := X.cell (j := 0) rfl
      replace X_1 := X.cell (j := 1) rfl
      replace X_z := X.lt
      replace hg := hg.nx gW6
      replace hx := hx.nx gW6
      replace hy := hy.nx gW6
      replace N := N.trans gW6
      refine (same_yes 0 C D k m [] _ hx hy (by simp)).mono ?_
      rintro e w7 ⟨rfl, hn7⟩
      replace G := G.nx hn7
      replace G_0 := G.cell (j := 0) rfl
      replace G_1 := G.cell (j := 1) rfl
      replace G_z := G.lt
      replace E := E.nx hn7
      replace E_0 := E.cell (j := 0) rfl
      replace E_1 := E.cell (j := 1) rfl
      replace E_z := E.lt
      replace X := X.nx hn7
      replace X_0 := X.cell (j := 0) rfl
      replace X_1 := X.cell (j := 1) rfl
      replace X_z := X.lt
      replace Y := Y.nx hn7
      replace Y_0 := Y.cell (j := 0) rfl
      replace Y_1 := Y.cell (j := 1) rfl
      replace Y_z := Y.lt
      replace hg := hg.nx hn7
      replace hx := hx.nx hn7
      replace hy := hy.nx hn7
      replace N := N.trans hn7
      go_wp2_with fail
      refine (iHas_to nn B d es u v false H1.out _ hg (by omega)).mono ?_
      rintro e w8 ⟨rfl, hn8⟩
      replace G := G.nx hn8
      replace G_0 := G.cell (j := 0) rfl
      replace G_1 := G.cell (j := 1) rfl
      replace G_z := G.lt
      replace E := E.nx hn8
      replace E_0 := E.cell (j := 0) rfl
      replace E_1 := E.cell (j := 1) rfl
      replace E_z := E.lt
      replace X := X.nx hn8
      replace X_0 := X.cell (j := 0) rfl
      replace X_1 := X.cell (j := 1) rfl
      replace X_z := X.lt
      replace Y := Y.nx hn8
      replace Y_0 := Y.cell (j := 0) rfl
      replace Y_1 := Y.cell (j := 1) rfl
      replace Y_z := Y.lt
      replace hg := hg.nx hn8
      replace hx := hx.nx hn8
      replace hy := hy.nx hn8
      replace N := N.trans hn8
      go_wp2_with fail
      refine (sHas_to nn B d es u v false H1.out _ hg (by omega)).mono ?_
      rintro e w9 ⟨rfl, hn9⟩
      replace G := G.nx hn9
      replace G_0 := G.cell (j := 0) rfl
      replace G_1 := G.cell (j := 1) rfl
      replace G_z := G.lt
      replace E := E.nx hn9
      replace E_0 := E.cell (j := 0) rfl
      replace E_1 := E.cell (j := 1) rfl
      replace E_z := E.lt
      replace X := X.nx hn9
      replace X_0 := X.cell (j := 0) rfl
      replace X_1 := X.cell (j := 1) rfl
      replace X_z := X.lt
      replace Y := Y.nx hn9
      replace Y_0 := Y.cell (j := 0) rfl
      replace Y_1 := Y.cell (j := 1) rfl
      replace Y_z := Y.lt
      replace hg := hg.nx hn9
      replace hx := hx.nx hn9
      replace hy := hy.nx hn9
      replace N := N.trans hn9
      go_wp2_with fail
      refine (same_yes 0 C D k m [] _ hx hy (by simp)).mono ?_
      rintro e w10 ⟨rfl, hn10⟩
      replace G := G.nx hn10
      replace G_0 := G.cell (j := 0) rfl
      replace G_1 := G.cell (j := 1) rfl
      replace G_z := G.lt
      replace E := E.nx hn10
      replace E_0 := E.cell (j := 0) rfl
      replace E_1 := E.cell (j := 1) rfl
      replace E_z := E.lt
      replace X := X.nx hn10
      replace X_0 := X.cell (j := 0) rfl
      replace X_1 := X.cell (j := 1) rfl
      replace X_z := X.lt
      replace Y := Y.nx hn10
      replace Y_0 := Y.cell (j := 0) rfl
      replace Y_1 := Y.cell (j := 1) rfl
      replace Y_z := Y.lt
      replace hg := hg.nx hn10
      replace hx := hx.nx hn10
      replace hy := hy.nx hn10
      replace N := N.trans hn10
      go_wp2_with fail
      refine (iHas_to nn B d es u v false H1.out _ hg (by omega)).mono ?_
      rintro e w11 ⟨rfl, hn11⟩
      replace G := G.nx hn11
      replace G_0 := G.cell (j := 0) rfl
      replace G_1 := G.cell (j := 1) rfl
      replace G_z := G.lt
      replace E := E.nx hn11
      replace E_0 := E.cell (j := 0) rfl
      replace E_1 := E.cell (j := 1) rfl
      replace E_z := E.lt
      replace X := X.nx hn11
      replace X_0 := X.cell (j := 0) rfl
      replace X_1 := X.cell (j := 1) rfl
      replace X_z := X.lt
      replace Y := Y.nx hn11
      replace Y_0 := Y.cell (j := 0) rfl
      replace Y_1 := Y.cell (j := 1) rfl
      replace Y_z := Y.lt
      replace hg := hg.nx hn11
      replace hx := hx.nx hn11
      replace hy := hy.nx hn11
      replace N := N.trans hn11
      go_wp2_with fail
      refine (sHas_to nn B d es u v false H1.out _ hg (by omega)).mono ?_
      rintro e w12 ⟨rfl, hn12⟩
      replace G := G.nx hn12
      replace G_0 := G.cell (j := 0) rfl
      replace G_1 := G.cell (j := 1) rfl
      replace G_z := G.lt
      replace E := E.nx hn12
      replace E_0 := E.cell (j := 0) rfl
      replace E_1 := E.cell (j := 1) rfl
      replace E_z := E.lt
      replace X := X.nx hn12
      replace X_0 := X.cell (j := 0) rfl
      replace X_1 := X.cell (j := 1) rfl
      replace X_z := X.lt
      replace Y := Y.nx hn12
      replace Y_0 := Y.cell (j := 0) rfl
      replace Y_1 := Y.cell (j := 1) rfl
      replace Y_z := Y.lt
      replace hg := hg.nx hn12
      replace hx := hx.nx hn12
      replace hy := hy.nx hn12
      replace N := N.trans hn12
      go_wp2
      go_ret
      exact RetV.bool rfl (by repeat (first | exact Nx.refl _ | assumption | apply Nx.alloc | apply Nx.drew | apply Nx.drewN | (refine Nx.setCell ?_ (by first | (simp; done) | (simp; omega) | omega) _) | refine Nx.trans ?_ (by assumption)))
end Go.Proofs.Ytmagbdcmanchmaa
