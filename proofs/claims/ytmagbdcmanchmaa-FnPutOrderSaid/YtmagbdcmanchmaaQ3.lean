/- FnPutOrder: the walk. -/
import Derived.Test.YtmagbdcmanchmaaQ0
namespace Go.Proofs.Ytmagbdcmanchmaa
open Go.RowKit

theorem putL_comm : ∀ (es : Es) (e f : Int × Int), e ≠ f → putL (putL es e) f = putL (putL es f) e
  | [], e, f, h => by
    simp only [putL]
    rcases ltE_total h with h1 | h1
    · rw [if_neg (ltE_asymm h1), if_pos h1]
    · rw [if_pos h1, if_neg (ltE_asymm h1)]
  | x :: xs, e, f, h => by
    have ih := putL_comm xs e f h
    by_cases he : ltE e x
    · by_cases hf : ltE f x
      · simp only [putL, if_pos he, if_pos hf]
        rcases ltE_total h with h1 | h1
        · rw [if_neg (ltE_asymm h1), if_pos h1]
        · rw [if_pos h1, if_neg (ltE_asymm h1)]
      · have hfe : ¬ ltE f e := fun h2 => hf (ltE_trans h2 he)
        simp only [putL, if_pos he, if_neg hf, if_neg hfe]
    · by_cases hf : ltE f x
      · have hef : ¬ ltE e f := fun h2 => he (ltE_trans h2 hf)
        simp only [putL, if_neg he, if_pos hf, if_neg hef]
      · simp only [putL, if_neg he, if_neg hf, ih]
theorem putP_comm {n : Int} {es : Es} {e f : Int × Int} (h : e ≠ f) (h1 : PutP n es e) (h2 : PutP n (putL es e) f) (h3 : PutP n es f) : PutP n (putL es f) e :=
  ⟨h3.2.2, fun h4 => by rcases (putL_mem es f e).1 h4 with h5 | h5; exact h h5; exact h1.2.1 h5, by rw [← putL_comm es e f h]; exact h2.2.2⟩
theorem iPut_any (n : Int) (A : Option Addr) (c : Nat) (es : List (Int × Int)) (u v : Int) (w : World) (hx : EdgesAt w A es) (hl : es.length ≤ 1048576) :
    Calls Try.prog 47 #[.agg #[V n, .slice A es.length c], Ed u v] w (RetGB 40 (putN n es (u, v)) (putE n es (u, v)) (putB n es (u, v)) w) := iPutEdge_c n A c es u v w hx hl
theorem put_sound (n : Int) (es : Es) (e f : Int × Int) (h : e ≠ f) (h1 : PutP n es e) (h2 : putB n (putL es e) f = true) (h3 : putB n es f = true) :
    putB n (putE n es f) e = true ∧ putN n (putL es e) f = putN (putN n es f) (putE n es f) e ∧ putE n (putL es e) f = putE (putN n es f) (putE n es f) e ∧ putB (putN n es f) (putE n es f) e = true := by
  have p2 : PutP n (putL es e) f := by simpa [putB] using h2
  have p3 : PutP n es f := by simpa [putB] using h3
  have p4 := putP_comm h h1 p2 p3
  rw [(put_yes p3).1, (put_yes p3).2.1, (put_yes p2).1, (put_yes p2).2.1, (put_yes p4).1, (put_yes p4).2.1, (put_yes p4).2.2]
  exact ⟨rfl, rfl, putL_comm es e f h, rfl⟩

set_option maxRecDepth 100000 in
set_option maxHeartbeats 8000000 in
theorem fnPutOrder_walk (w : World) (A : Option Addr) (n c : Nat) (hnc : n ≤ c) (hb : BytesAt w w.heap.size A n) (A2 : Option Addr) (n2 c2 : Nat) (hnc2 : n2 ≤ c2) (hb2 : BytesAt w w.heap.size A2 n2) :
    Calls Try.prog 10 #[.slice A n c, .slice A2 n2 c2] w (RetV (.bool true) w) := by
  by_cases hbig : (n : Int) > 1048576
  · go_enter Try.func10, Try.ntmps10
    go_wp2
    go_ret
    exact RetV.bool rfl (by repeat (first | exact Nx.refl _ | assumption | apply Nx.alloc | apply Nx.drew | apply Nx.drewN | (refine Nx.setCell ?_ (by first | (simp; done) | (simp; omega) | omega) _) | refine Nx.trans ?_ (by assumption)))
  · by_cases hbig2 : (n2 : Int) > 1048576
    · go_enter Try.func10, Try.ntmps10
      go_wp2
      go_ret
      exact RetV.bool rfl (by repeat (first | exact Nx.refl _ | assumption | apply Nx.alloc | apply Nx.drew | apply Nx.drewN | (refine Nx.setCell ?_ (by first | (simp; done) | (simp; omega) | omega) _) | refine Nx.trans ?_ (by assumption)))
    · go_enter Try.func10, Try.ntmps10
      go_wp2_with fail
      refine (drawPutEdge_c A n c _ hnc hb).mono ?_
      rintro e w1 ⟨nn, B, d, es, u, v, rfl, h1, h2, h3, ho, N⟩
      have hg := ho.edgesAt
      clear ho hb
      go_wp2_with fail
      generalize hW2 : World.alloc _ _ = W2
      have gW2 : Nx w1 W2 := by subst hW2; exact (by repeat (first | exact Nx.refl _ | assumption | apply Nx.alloc | apply Nx.drew | apply Nx.drewN | (refine Nx.setCell ?_ (by first | (simp; done) | (simp; omega) | omega) _) | refine Nx.trans ?_ (by assumption)))
      have sW2 : W2.heap.size = w1.heap.size + 2 := by subst hW2; simp
      have G : Bx W2 (w1.heap.size) 29 [V nn, .slice B es.length d] := by subst hW2; have h := Bx.alloc w1 29 [V nn, .slice B es.length d]; have h := h.nx (Nx.alloc (Nx.refl _) (.cells #[V u, V v] 40)); simpa using h
      have E : Bx W2 (w1.heap.size + 1) 40 [V u, V v] := by subst hW2; have h := Bx.alloc (w1.alloc (.cells #[V nn, .slice B es.length d] 29)) 40 [V u, V v]; simpa using h
      have G_0 := G.cell (j := 0) rfl
      have G_1 := G.cell (j := 1) rfl
      have G_z := G.lt
      have E_0 := E.cell (j := 0) rfl
      have E_1 := E.cell (j := 1) rfl
      have E_z := E.lt
      have HsW2 := Lib.hid sW2
      have lW2 : w1.heap.size + 2 ≤ W2.heap.size := by omega
      clear hW2 sW2
      replace hg := hg.nx gW2
      replace N := N.trans gW2
      refine (drawPutEdge_c A2 n2 c2 _ hnc2 (hb2.nx N (Nx.size N))).mono ?_
      rintro e w3 ⟨nn', B', d', es', p, q, rfl, h1', h2', h3', ho', hn3⟩
      replace G := G.nx hn3
      replace G_0 := G.cell (j := 0) rfl
      replace G_1 := G.cell (j := 1) rfl
      replace G_z := G.lt
      replace E := E.nx hn3
      replace E_0 := E.cell (j := 0) rfl
      replace E_1 := E.cell (j := 1) rfl
      replace E_z := E.lt
      replace hg := hg.nx hn3
      replace N := N.trans hn3
      clear ho' hb2
      by_cases hp : PutP nn es (u, v)
      · have Hi := iPut_yes nn B d es u v hp
        have Hs := sPut_yes nn B d es u v hp
        have h40 : (putL es (u, v)).length ≤ 40 := hp.2.2.2.2.1
        have HL := Lib.hid (fun h => put_sound nn es (u, v) (p, q) h hp)
        clear hp
        generalize putL es (u, v) = ys at *
        go_wp2_with fail
        generalize hW4 : World.alloc _ _ = W4
        have gW4 : Nx w3 W4 := by subst hW4; exact (by repeat (first | exact Nx.refl _ | assumption | apply Nx.alloc | apply Nx.drew | apply Nx.drewN | (refine Nx.setCell ?_ (by first | (simp; done) | (simp; omega) | omega) _) | refine Nx.trans ?_ (by assumption)))
        have sW4 : W4.heap.size = w3.heap.size + 2 := by subst hW4; simp
        have G2 : Bx W4 (w3.heap.size) 29 [V nn', .slice B' es'.length d'] := by subst hW4; have h := Bx.alloc w3 29 [V nn', .slice B' es'.length d']; have h := h.nx (Nx.alloc (Nx.refl _) (.cells #[V p, V q] 40)); simpa using h
        have F : Bx W4 (w3.heap.size + 1) 40 [V p, V q] := by subst hW4; have h := Bx.alloc (w3.alloc (.cells #[V nn', .slice B' es'.length d'] 29)) 40 [V p, V q]; simpa using h
        have G2_0 := G2.cell (j := 0) rfl
        have G2_1 := G2.cell (j := 1) rfl
        have G2_z := G2.lt
        have F_0 := F.cell (j := 0) rfl
        have F_1 := F.cell (j := 1) rfl
        have F_z := F.lt
        have HsW4 := Lib.hid sW4
        have lW4 : w3.heap.size + 2 ≤ W4.heap.size := by omega
        clear hW4 sW4
        replace G := G.nx gW4
        replace G_0 := G.cell (j := 0) rfl
        replace G_1 := G.cell (j := 1) rfl
        replace G_z := G.lt
        replace E := E.nx gW4
        replace E_0 := E.cell (j := 0) rfl
        replace E_1 := E.cell (j := 1) rfl
        replace E_z := E.lt
        replace hg := hg.nx gW4
        replace N := N.trans gW4
        refine (Hi _ hg (by omega)).mono ?_
        rintro e w5 ⟨C, k, rfl, ho3, hn5⟩
        replace G := G.nx hn5
        replace G_0 := G.cell (j := 0) rfl
        replace G_1 := G.cell (j := 1) rfl
        replace G_z := G.lt
        replace E := E.nx hn5
        replace E_0 := E.cell (j := 0) rfl
        replace E_1 := E.cell (j := 1) rfl
        replace E_z := E.lt
        replace F := F.nx hn5
        replace F_0 := F.cell (j := 0) rfl
        replace F_1 := F.cell (j := 1) rfl
        replace F_z := F.lt
        replace hg := hg.nx hn5
        replace N := N.trans hn5
        have hx := ho3.edgesAt
        clear ho3
        go_wp2_with fail
        generalize hW6 : World.alloc _ _ = W6
        have gW6 : Nx w5 W6 := by subst hW6; exact (by repeat (first | exact Nx.refl _ | assumption | apply Nx.alloc | apply Nx.drew | apply Nx.drewN | (refine Nx.setCell ?_ (by first | (simp; done) | (simp; omega) | omega) _) | refine Nx.trans ?_ (by assumption)))
        have sW6 : W6.heap.size = w5.heap.size + 1 := by subst hW6; simp
        have X : Bx W6 (w5.heap.size) 29 [V nn, .slice C ys.length k] := by subst hW6; have h := Bx.alloc w5 29 [V nn, .slice C ys.length k]; simpa using h
        have X_0 := X.cell (j := 0) rfl
        have X_1 := X.cell (j := 1) rfl
        have X_z := X.lt
        have HsW6 := Lib.hid sW6
        have lW6 : w5.heap.size + 1 ≤ W6.heap.size := by omega
        clear hW6 sW6
        replace G := G.nx gW6
        replace G_0 := G.cell (j := 0) rfl
        replace G_1 := G.cell (j := 1) rfl
        replace G_z := G.lt
        replace E := E.nx gW6
        replace E_0 := E.cell (j := 0) rfl
        replace E_1 := E.cell (j := 1) rfl
        replace E_z := E.lt
        replace F := F.nx gW6
        replace F_0 := F.cell (j := 0) rfl
        replace F_1 := F.cell (j := 1) rfl
        replace F_z := F.lt
        replace hg := hg.nx gW6
        replace hx := hx.nx gW6
        replace N := N.trans gW6
        refine (Hs _ hg (by omega)).mono ?_
        rintro e w7 ⟨D, m, rfl, ho5, hn7⟩
        replace G := G.nx hn7
        replace G_0 := G.cell (j := 0) rfl
        replace G_1 := G.cell (j := 1) rfl
        replace G_z := G.lt
        replace E := E.nx hn7
        replace E_0 := E.cell (j := 0) rfl
        replace E_1 := E.cell (j := 1) rfl
        replace E_z := E.lt
        replace F := F.nx hn7
        replace F_0 := F.cell (j := 0) rfl
        replace F_1 := F.cell (j := 1) rfl
        replace F_z := F.lt
        replace X := X.nx hn7
        replace X_0 := X.cell (j := 0) rfl
        replace X_1 := X.cell (j := 1) rfl
        replace X_z := X.lt
        replace hg := hg.nx hn7
        replace hx := hx.nx hn7
        replace N := N.trans hn7
        have hy := ho5.edgesAt
        clear ho5
        go_wp2_with fail
        generalize hW8 : World.alloc _ _ = W8
        have gW8 : Nx w7 W8 := by subst hW8; exact (by repeat (first | exact Nx.refl _ | assumption | apply Nx.alloc | apply Nx.drew | apply Nx.drewN | (refine Nx.setCell ?_ (by first | (simp; done) | (simp; omega) | omega) _) | refine Nx.trans ?_ (by assumption)))
        have sW8 : W8.heap.size = w7.heap.size + 1 := by subst hW8; simp
        have Y : Bx W8 (w7.heap.size) 29 [V nn, .slice D ys.length m] := by subst hW8; have h := Bx.alloc w7 29 [V nn, .slice D ys.length m]; simpa using h
        have Y_0 := Y.cell (j := 0) rfl
        have Y_1 := Y.cell (j := 1) rfl
        have Y_z := Y.lt
        have HsW8 := Lib.hid sW8
        have lW8 : w7.heap.size + 1 ≤ W8.heap.size := by omega
        clear hW8 sW8
        replace G := G.nx gW8
        replace G_0 := G.cell (j := 0) rfl
        replace G_1 := G.cell (j := 1) rfl
        replace G_z := G.lt
        replace E := E.nx gW8
        replace E_0 := E.cell (j := 0) rfl
        replace E_1 := E.cell (j := 1) rfl
        replace E_z := E.lt
        replace F := F.nx gW8
        replace F_0 := F.cell (j := 0) rfl
        replace F_1 := F.cell (j := 1) rfl
        replace F_z := F.lt
        replace X := X.nx gW8
        replace X_0 := X.cell (j := 0) rfl
        replace X_1 := X.cell (j := 1) rfl
        replace X_z := X.lt
        replace hg := hg.nx gW8
        replace hx := hx.nx gW8
        replace hy := hy.nx gW8
        replace N := N.trans gW8
        refine (same_yes nn C D k m ys _ hx hy (by omega)).mono ?_
        rintro e w9 ⟨rfl, hn9⟩
        replace G := G.nx hn9
        replace G_0 := G.cell (j := 0) rfl
        replace G_1 := G.cell (j := 1) rfl
        replace G_z := G.lt
        replace E := E.nx hn9
        replace E_0 := E.cell (j := 0) rfl
        replace E_1 := E.cell (j := 1) rfl
        replace E_z := E.lt
        replace F := F.nx hn9
        replace F_0 := F.cell (j := 0) rfl
        replace F_1 := F.cell (j := 1) rfl
        replace F_z := F.lt
        replace X := X.nx hn9
        replace X_0 := X.cell (j := 0) rfl
        replace X_1 := X.cell (j := 1) rfl
        replace X_z := X.lt
        replace Y := Y.nx hn9
        replace Y_0 := Y.cell (j := 0) rfl
        replace Y_1 := Y.cell (j := 1) rfl
        replace Y_z := Y.lt
        replace hg := hg.nx hn9
        replace hx := hx.nx hn9
        replace hy := hy.nx hn9
        replace N := N.trans hn9
        by_cases he : u = p ∧ v = q
        · obtain ⟨rfl, rfl⟩ := he
          go_wp2_with fail
          refine (same_yes nn C D k m ys _ hx hy (by omega)).mono ?_
          rintro e w10 ⟨rfl, hn10⟩
          replace G := G.nx hn10
          replace G_0 := G.cell (j := 0) rfl
          replace G_1 := G.cell (j := 1) rfl
          replace G_z := G.lt
          replace E := E.nx hn10
          replace E_0 := E.cell (j := 0) rfl
          replace E_1 := E.cell (j := 1) rfl
          replace E_z := E.lt
          replace F := F.nx hn10
          replace F_0 := F.cell (j := 0) rfl
          replace F_1 := F.cell (j := 1) rfl
          replace F_z := F.lt
          replace X := X.nx hn10
          replace X_0 := X.cell (j := 0) rfl
          replace X_1 := X.cell (j := 1) rfl
          replace X_z := X.lt
          replace Y := Y.nx hn10
          replace Y_0 := Y.cell (j := 0) rfl
          replace Y_1 := Y.cell (j := 1) rfl
          replace Y_z := Y.lt
          replace hg := hg.nx hn10
          replace hx := hx.nx hn10
          replace hy := hy.nx hn10
          replace N := N.trans hn10
          go_wp2
          go_ret
          exact RetV.bool rfl (by repeat (first | exact Nx.refl _ | assumption | apply Nx.alloc | apply Nx.drew | apply Nx.drewN | (refine Nx.setCell ?_ (by first | (simp; done) | (simp; omega) | omega) _) | refine Nx.trans ?_ (by assumption)))
        · have HM := Lib.hid (HL.out (by simpa using he))
          clear HL
          have ht : (u == p && v == q) = false := by
            by_cases h5 : u = p
            · have : v ≠ q := fun h6 => he ⟨h5, h6⟩
              simp [this]
            · simp [h5]
          by_cases e1 : (u == p) = true
          · have e2 : (v == q) = false := by (rw [e1] at ht; simpa using ht)
            clear ht he
            go_wp2_with fail
            refine (iPut_any nn C k ys p q _ hx (by omega)).mono ?_
            rintro e w10 ⟨K, km, rfl, ho10, hn10⟩
            replace G := G.nx hn10
            replace G_0 := G.cell (j := 0) rfl
            replace G_1 := G.cell (j := 1) rfl
            replace G_z := G.lt
            replace E := E.nx hn10
            replace E_0 := E.cell (j := 0) rfl
            replace E_1 := E.cell (j := 1) rfl
            replace E_z := E.lt
            replace F := F.nx hn10
            replace F_0 := F.cell (j := 0) rfl
            replace F_1 := F.cell (j := 1) rfl
            replace F_z := F.lt
            replace X := X.nx hn10
            replace X_0 := X.cell (j := 0) rfl
            replace X_1 := X.cell (j := 1) rfl
            replace X_z := X.lt
            replace Y := Y.nx hn10
            replace Y_0 := Y.cell (j := 0) rfl
            replace Y_1 := Y.cell (j := 1) rfl
            replace Y_z := Y.lt
            replace hg := hg.nx hn10
            replace hx := hx.nx hn10
            replace hy := hy.nx hn10
            replace N := N.trans hn10
            have hE1l := putE_len nn ys (p, q)
            have hv1 := ho10.edgesAt
            clear ho10
            generalize hb1 : putB nn ys (p, q) = b1 at *
            generalize hN1 : putN nn ys (p, q) = N1 at *
            generalize hE1 : putE nn ys (p, q) = E1 at *
            go_wp2_with fail
            generalize hW11 : World.alloc _ _ = W11
            have gW11 : Nx w10 W11 := by subst hW11; exact (by repeat (first | exact Nx.refl _ | assumption | apply Nx.alloc | apply Nx.drew | apply Nx.drewN | (refine Nx.setCell ?_ (by first | (simp; done) | (simp; omega) | omega) _) | refine Nx.trans ?_ (by assumption)))
            have sW11 : W11.heap.size = w10.heap.size + 1 := by subst hW11; simp
            have Za : Bx W11 (w10.heap.size) 29 [V N1, .slice K E1.length km] := by subst hW11; have h := Bx.alloc w10 29 [V N1, .slice K E1.length km]; simpa using h
            have Za_0 := Za.cell (j := 0) rfl
            have Za_1 := Za.cell (j := 1) rfl
            have Za_z := Za.lt
            have HsW11 := Lib.hid sW11
            have lW11 : w10.heap.size + 1 ≤ W11.heap.size := by omega
            clear hW11 sW11
            replace G := G.nx gW11
            replace G_0 := G.cell (j := 0) rfl
            replace G_1 := G.cell (j := 1) rfl
            replace G_z := G.lt
            replace E := E.nx gW11
            replace E_0 := E.cell (j := 0) rfl
            replace E_1 := E.cell (j := 1) rfl
            replace E_z := E.lt
            replace F := F.nx gW11
            replace F_0 := F.cell (j := 0) rfl
            replace F_1 := F.cell (j := 1) rfl
            replace F_z := F.lt
            replace X := X.nx gW11
            replace X_0 := X.cell (j := 0) rfl
            replace X_1 := X.cell (j := 1) rfl
            replace X_z := X.lt
            replace Y := Y.nx gW11
            replace Y_0 := Y.cell (j := 0) rfl
            replace Y_1 := Y.cell (j := 1) rfl
            replace Y_z := Y.lt
            replace hg := hg.nx gW11
            replace hx := hx.nx gW11
            replace hy := hy.nx gW11
            replace hv1 := hv1.nx gW11
            replace N := N.trans gW11
            refine (iPut_any nn B d es p q _ hg (by omega)).mono ?_
            rintro e w12 ⟨K2, km2, rfl, ho12, hn12⟩
            replace G := G.nx hn12
            replace G_0 := G.cell (j := 0) rfl
            replace G_1 := G.cell (j := 1) rfl
            replace G_z := G.lt
            replace E := E.nx hn12
            replace E_0 := E.cell (j := 0) rfl
            replace E_1 := E.cell (j := 1) rfl
            replace E_z := E.lt
            replace F := F.nx hn12
            replace F_0 := F.cell (j := 0) rfl
            replace F_1 := F.cell (j := 1) rfl
            replace F_z := F.lt
            replace X := X.nx hn12
            replace X_0 := X.cell (j := 0) rfl
            replace X_1 := X.cell (j := 1) rfl
            replace X_z := X.lt
            replace Y := Y.nx hn12
            replace Y_0 := Y.cell (j := 0) rfl
            replace Y_1 := Y.cell (j := 1) rfl
            replace Y_z := Y.lt
            replace Za := Za.nx hn12
            replace Za_0 := Za.cell (j := 0) rfl
            replace Za_1 := Za.cell (j := 1) rfl
            replace Za_z := Za.lt
            replace hg := hg.nx hn12
            replace hx := hx.nx hn12
            replace hy := hy.nx hn12
            replace hv1 := hv1.nx hn12
            replace N := N.trans hn12
            have hE2l := putE_len nn es (p, q)
            have hv2 := ho12.edgesAt
            clear ho12
            generalize hb2 : putB nn es (p, q) = b2 at *
            generalize hN2 : putN nn es (p, q) = N2 at *
            generalize hE2 : putE nn es (p, q) = E2 at *
            go_wp2_with fail
            generalize hW13 : World.alloc _ _ = W13
            have gW13 : Nx w12 W13 := by subst hW13; exact (by repeat (first | exact Nx.refl _ | assumption | apply Nx.alloc | apply Nx.drew | apply Nx.drewN | (refine Nx.setCell ?_ (by first | (simp; done) | (simp; omega) | omega) _) | refine Nx.trans ?_ (by assumption)))
            have sW13 : W13.heap.size = w12.heap.size + 1 := by subst hW13; simp
            have Zb : Bx W13 (w12.heap.size) 29 [V N2, .slice K2 E2.length km2] := by subst hW13; have h := Bx.alloc w12 29 [V N2, .slice K2 E2.length km2]; simpa using h
            have Zb_0 := Zb.cell (j := 0) rfl
            have Zb_1 := Zb.cell (j := 1) rfl
            have Zb_z := Zb.lt
            have HsW13 := Lib.hid sW13
            have lW13 : w12.heap.size + 1 ≤ W13.heap.size := by omega
            clear hW13 sW13
            replace G := G.nx gW13
            replace G_0 := G.cell (j := 0) rfl
            replace G_1 := G.cell (j := 1) rfl
            replace G_z := G.lt
            replace E := E.nx gW13
            replace E_0 := E.cell (j := 0) rfl
            replace E_1 := E.cell (j := 1) rfl
            replace E_z := E.lt
            replace F := F.nx gW13
            replace F_0 := F.cell (j := 0) rfl
            replace F_1 := F.cell (j := 1) rfl
            replace F_z := F.lt
            replace X := X.nx gW13
            replace X_0 := X.cell (j := 0) rfl
            replace X_1 := X.cell (j := 1) rfl
            replace X_z := X.lt
            replace Y := Y.nx gW13
            replace Y_0 := Y.cell (j := 0) rfl
            replace Y_1 := Y.cell (j := 1) rfl
            replace Y_z := Y.lt
            replace Za := Za.nx gW13
            replace Za_0 := Za.cell (j := 0) rfl
            replace Za_1 := Za.cell (j := 1) rfl
            replace Za_z := Za.lt
            replace hg := hg.nx gW13
            replace hx := hx.nx gW13
            replace hy := hy.nx gW13
            replace hv1 := hv1.nx gW13
            replace hv2 := hv2.nx gW13
            replace N := N.trans gW13
            refine (iPut_any N2 K2 km2 E2 u v _ hv2 (by omega)).mono ?_
            rintro e w14 ⟨K3, km3, rfl, ho14, hn14⟩
            replace G := G.nx hn14
            replace G_0 := G.cell (j := 0) rfl
            replace G_1 := G.cell (j := 1) rfl
            replace G_z := G.lt
            replace E := E.nx hn14
            replace E_0 := E.cell (j := 0) rfl
            replace E_1 := E.cell (j := 1) rfl
            replace E_z := E.lt
            replace F := F.nx hn14
            replace F_0 := F.cell (j := 0) rfl
            replace F_1 := F.cell (j := 1) rfl
            replace F_z := F.lt
            replace X := X.nx hn14
            replace X_0 := X.cell (j := 0) rfl
            replace X_1 := X.cell (j := 1) rfl
            replace X_z := X.lt
            replace Y := Y.nx hn14
            replace Y_0 := Y.cell (j := 0) rfl
            replace Y_1 := Y.cell (j := 1) rfl
            replace Y_z := Y.lt
            replace Za := Za.nx hn14
            replace Za_0 := Za.cell (j := 0) rfl
            replace Za_1 := Za.cell (j := 1) rfl
            replace Za_z := Za.lt
            replace Zb := Zb.nx hn14
            replace Zb_0 := Zb.cell (j := 0) rfl
            replace Zb_1 := Zb.cell (j := 1) rfl
            replace Zb_z := Zb.lt
            replace hg := hg.nx hn14
            replace hx := hx.nx hn14
            replace hy := hy.nx hn14
            replace hv1 := hv1.nx hn14
            replace hv2 := hv2.nx hn14
            replace N := N.trans hn14
            have hE3l := putE_len N2 E2 (u, v)
            have hv3 := ho14.edgesAt
            clear ho14
            generalize hb3 : putB N2 E2 (u, v) = b3 at *
            generalize hN3 : putN N2 E2 (u, v) = N3 at *
            generalize hE3 : putE N2 E2 (u, v) = E3 at *
            have HM2 := Lib.hid HM
            clear HM
            cases b1 with
            | false =>
              clear hb1 hN1 hE1 hb2 hN2 hE2 hb3 hN3 hE3
              go_wp2_with fail
              generalize hW15 : World.alloc _ _ = W15
              have gW15 : Nx w14 W15 := by subst hW15; exact (by repeat (first | exact Nx.refl _ | assumption | apply Nx.alloc | apply Nx.drew | apply Nx.drewN | (refine Nx.setCell ?_ (by first | (simp; done) | (simp; omega) | omega) _) | refine Nx.trans ?_ (by assumption)))
              have sW15 : W15.heap.size = w14.heap.size + 1 := by subst hW15; simp
              have Zc : Bx W15 (w14.heap.size) 29 [V N3, .slice K3 E3.length km3] := by subst hW15; have h := Bx.alloc w14 29 [V N3, .slice K3 E3.length km3]; simpa using h
              have Zc_0 := Zc.cell (j := 0) rfl
              have Zc_1 := Zc.cell (j := 1) rfl
              have Zc_z := Zc.lt
              have HsW15 := Lib.hid sW15
              have lW15 : w14.heap.size + 1 ≤ W15.heap.size := by omega
              clear hW15 sW15
              replace Za := Za.nx gW15
              replace Za_0 := Za.cell (j := 0) rfl
              replace Za_1 := Za.cell (j := 1) rfl
              replace Za_z := Za.lt
              replace N := N.trans gW15
              go_wp2
              go_ret
              exact RetV.bool rfl (by repeat (first | exact Nx.refl _ | assumption | apply Nx.alloc | apply Nx.drew | apply Nx.drewN | (refine Nx.setCell ?_ (by first | (simp; done) | (simp; omega) | omega) _) | refine Nx.trans ?_ (by assumption)))
            | true =>
              cases b2 with
              | false =>
                clear hb1 hN1 hE1 hb2 hN2 hE2 hb3 hN3 hE3
                go_wp2_with fail
                generalize hW15 : World.alloc _ _ = W15
                have gW15 : Nx w14 W15 := by subst hW15; exact (by repeat (first | exact Nx.refl _ | assumption | apply Nx.alloc | apply Nx.drew | apply Nx.drewN | (refine Nx.setCell ?_ (by first | (simp; done) | (simp; omega) | omega) _) | refine Nx.trans ?_ (by assumption)))
                have sW15 : W15.heap.size = w14.heap.size + 1 := by subst hW15; simp
                have Zc : Bx W15 (w14.heap.size) 29 [V N3, .slice K3 E3.length km3] := by subst hW15; have h := Bx.alloc w14 29 [V N3, .slice K3 E3.length km3]; simpa using h
                have Zc_0 := Zc.cell (j := 0) rfl
                have Zc_1 := Zc.cell (j := 1) rfl
                have Zc_z := Zc.lt
                have HsW15 := Lib.hid sW15
                have lW15 : w14.heap.size + 1 ≤ W15.heap.size := by omega
                clear hW15 sW15
                replace Za := Za.nx gW15
                replace Za_0 := Za.cell (j := 0) rfl
                replace Za_1 := Za.cell (j := 1) rfl
                replace Za_z := Za.lt
                replace N := N.trans gW15
                go_wp2
                go_ret
                exact RetV.bool rfl (by repeat (first | exact Nx.refl _ | assumption | apply Nx.alloc | apply Nx.drew | apply Nx.drewN | (refine Nx.setCell ?_ (by first | (simp; done) | (simp; omega) | omega) _) | refine Nx.trans ?_ (by assumption)))
              | true =>
                obtain ⟨a1, a2, a3, a4⟩ := HM2.out.out rfl rfl
                subst a2 a3 a4
                clear hb1 hN1 hE1 hb2 hN2 hE2 hb3 hN3 hE3
                go_wp2_with fail
                generalize hW15 : World.alloc _ _ = W15
                have gW15 : Nx w14 W15 := by subst hW15; exact (by repeat (first | exact Nx.refl _ | assumption | apply Nx.alloc | apply Nx.drew | apply Nx.drewN | (refine Nx.setCell ?_ (by first | (simp; done) | (simp; omega) | omega) _) | refine Nx.trans ?_ (by assumption)))
                have sW15 : W15.heap.size = w14.heap.size + 1 := by subst hW15; simp
                have Zc : Bx W15 (w14.heap.size) 29 [V N1, .slice K3 E1.length km3] := by subst hW15; have h := Bx.alloc w14 29 [V N1, .slice K3 E1.length km3]; simpa using h
                have Zc_0 := Zc.cell (j := 0) rfl
                have Zc_1 := Zc.cell (j := 1) rfl
                have Zc_z := Zc.lt
                have HsW15 := Lib.hid sW15
                have lW15 : w14.heap.size + 1 ≤ W15.heap.size := by omega
                clear hW15 sW15
                replace Za := Za.nx gW15
                replace Za_0 := Za.cell (j := 0) rfl
                replace Za_1 := Za.cell (j := 1) rfl
                replace Za_z := Za.lt
                replace hv1 := hv1.nx gW15
                replace hv3 := hv3.nx gW15
                replace N := N.trans gW15
                refine (same_yes N1 K K3 km km3 E1 _ hv1 hv3 (by omega)).mono ?_
                rintro e w16 ⟨rfl, hn16⟩
                replace Za := Za.nx hn16
                replace Za_0 := Za.cell (j := 0) rfl
                replace Za_1 := Za.cell (j := 1) rfl
                replace Za_z := Za.lt
                replace N := N.trans hn16
                go_wp2
                go_ret
                exact RetV.bool rfl (by repeat (first | exact Nx.refl _ | assumption | apply Nx.alloc | apply Nx.drew | apply Nx.drewN | (refine Nx.setCell ?_ (by first | (simp; done) | (simp; omega) | omega) _) | refine Nx.trans ?_ (by assumption)))
          · have e1 : (u == p) = false := by simpa using e1
            clear ht he
            go_wp2_with fail
            refine (iPut_any nn C k ys p q _ hx (by omega)).mono ?_
            rintro e w10 ⟨K, km, rfl, ho10, hn10⟩
            replace G := G.nx hn10
            replace G_0 := G.cell (j := 0) rfl
            replace G_1 := G.cell (j := 1) rfl
            replace G_z := G.lt
            replace E := E.nx hn10
            replace E_0 := E.cell (j := 0) rfl
            replace E_1 := E.cell (j := 1) rfl
            replace E_z := E.lt
            replace F := F.nx hn10
            replace F_0 := F.cell (j := 0) rfl
            replace F_1 := F.cell (j := 1) rfl
            replace F_z := F.lt
            replace X := X.nx hn10
            replace X_0 := X.cell (j := 0) rfl
            replace X_1 := X.cell (j := 1) rfl
            replace X_z := X.lt
            replace Y := Y.nx hn10
            replace Y_0 := Y.cell (j := 0) rfl
            replace Y_1 := Y.cell (j := 1) rfl
            replace Y_z := Y.lt
            replace hg := hg.nx hn10
            replace hx := hx.nx hn10
            replace hy := hy.nx hn10
            replace N := N.trans hn10
            have hE1l := putE_len nn ys (p, q)
            have hv1 := ho10.edgesAt
            clear ho10
            generalize hb1 : putB nn ys (p, q) = b1 at *
            generalize hN1 : putN nn ys (p, q) = N1 at *
            generalize hE1 : putE nn ys (p, q) = E1 at *
            go_wp2_with fail
            generalize hW11 : World.alloc _ _ = W11
            have gW11 : Nx w10 W11 := by subst hW11; exact (by repeat (first | exact Nx.refl _ | assumption | apply Nx.alloc | apply Nx.drew | apply Nx.drewN | (refine Nx.setCell ?_ (by first | (simp; done) | (simp; omega) | omega) _) | refine Nx.trans ?_ (by assumption)))
            have sW11 : W11.heap.size = w10.heap.size + 1 := by subst hW11; simp
            have Za : Bx W11 (w10.heap.size) 29 [V N1, .slice K E1.length km] := by subst hW11; have h := Bx.alloc w10 29 [V N1, .slice K E1.length km]; simpa using h
            have Za_0 := Za.cell (j := 0) rfl
            have Za_1 := Za.cell (j := 1) rfl
            have Za_z := Za.lt
            have HsW11 := Lib.hid sW11
            have lW11 : w10.heap.size + 1 ≤ W11.heap.size := by omega
            clear hW11 sW11
            replace G := G.nx gW11
            replace G_0 := G.cell (j := 0) rfl
            replace G_1 := G.cell (j := 1) rfl
            replace G_z := G.lt
            replace E := E.nx gW11
            replace E_0 := E.cell (j := 0) rfl
            replace E_1 := E.cell (j := 1) rfl
            replace E_z := E.lt
            replace F := F.nx gW11
            replace F_0 := F.cell (j := 0) rfl
            replace F_1 := F.cell (j := 1) rfl
            replace F_z := F.lt
            replace X := X.nx gW11
            replace X_0 := X.cell (j := 0) rfl
            replace X_1 := X.cell (j := 1) rfl
            replace X_z := X.lt
            replace Y := Y.nx gW11
            replace Y_0 := Y.cell (j := 0) rfl
            replace Y_1 := Y.cell (j := 1) rfl
            replace Y_z := Y.lt
            replace hg := hg.nx gW11
            replace hx := hx.nx gW11
            replace hy := hy.nx gW11
            replace hv1 := hv1.nx gW11
            replace N := N.trans gW11
            refine (iPut_any nn B d es p q _ hg (by omega)).mono ?_
            rintro e w12 ⟨K2, km2, rfl, ho12, hn12⟩
            replace G := G.nx hn12
            replace G_0 := G.cell (j := 0) rfl
            replace G_1 := G.cell (j := 1) rfl
            replace G_z := G.lt
            replace E := E.nx hn12
            replace E_0 := E.cell (j := 0) rfl
            replace E_1 := E.cell (j := 1) rfl
            replace E_z := E.lt
            replace F := F.nx hn12
            replace F_0 := F.cell (j := 0) rfl
            replace F_1 := F.cell (j := 1) rfl
            replace F_z := F.lt
            replace X := X.nx hn12
            replace X_0 := X.cell (j := 0) rfl
            replace X_1 := X.cell (j := 1) rfl
            replace X_z := X.lt
            replace Y := Y.nx hn12
            replace Y_0 := Y.cell (j := 0) rfl
            replace Y_1 := Y.cell (j := 1) rfl
            replace Y_z := Y.lt
            replace Za := Za.nx hn12
            replace Za_0 := Za.cell (j := 0) rfl
            replace Za_1 := Za.cell (j := 1) rfl
            replace Za_z := Za.lt
            replace hg := hg.nx hn12
            replace hx := hx.nx hn12
            replace hy := hy.nx hn12
            replace hv1 := hv1.nx hn12
            replace N := N.trans hn12
            have hE2l := putE_len nn es (p, q)
            have hv2 := ho12.edgesAt
            clear ho12
            generalize hb2 : putB nn es (p, q) = b2 at *
            generalize hN2 : putN nn es (p, q) = N2 at *
            generalize hE2 : putE nn es (p, q) = E2 at *
            go_wp2_with fail
            generalize hW13 : World.alloc _ _ = W13
            have gW13 : Nx w12 W13 := by subst hW13; exact (by repeat (first | exact Nx.refl _ | assumption | apply Nx.alloc | apply Nx.drew | apply Nx.drewN | (refine Nx.setCell ?_ (by first | (simp; done) | (simp; omega) | omega) _) | refine Nx.trans ?_ (by assumption)))
            have sW13 : W13.heap.size = w12.heap.size + 1 := by subst hW13; simp
            have Zb : Bx W13 (w12.heap.size) 29 [V N2, .slice K2 E2.length km2] := by subst hW13; have h := Bx.alloc w12 29 [V N2, .slice K2 E2.length km2]; simpa using h
            have Zb_0 := Zb.cell (j := 0) rfl
            have Zb_1 := Zb.cell (j := 1) rfl
            have Zb_z := Zb.lt
            have HsW13 := Lib.hid sW13
            have lW13 : w12.heap.size + 1 ≤ W13.heap.size := by omega
            clear hW13 sW13
            replace G := G.nx gW13
            replace G_0 := G.cell (j := 0) rfl
            replace G_1 := G.cell (j := 1) rfl
            replace G_z := G.lt
            replace E := E.nx gW13
            replace E_0 := E.cell (j := 0) rfl
            replace E_1 := E.cell (j := 1) rfl
            replace E_z := E.lt
            replace F := F.nx gW13
            replace F_0 := F.cell (j := 0) rfl
            replace F_1 := F.cell (j := 1) rfl
            replace F_z := F.lt
            replace X := X.nx gW13
            replace X_0 := X.cell (j := 0) rfl
            replace X_1 := X.cell (j := 1) rfl
            replace X_z := X.lt
            replace Y := Y.nx gW13
            replace Y_0 := Y.cell (j := 0) rfl
            replace Y_1 := Y.cell (j := 1) rfl
            replace Y_z := Y.lt
            replace Za := Za.nx gW13
            replace Za_0 := Za.cell (j := 0) rfl
            replace Za_1 := Za.cell (j := 1) rfl
            replace Za_z := Za.lt
            replace hg := hg.nx gW13
            replace hx := hx.nx gW13
            replace hy := hy.nx gW13
            replace hv1 := hv1.nx gW13
            replace hv2 := hv2.nx gW13
            replace N := N.trans gW13
            refine (iPut_any N2 K2 km2 E2 u v _ hv2 (by omega)).mono ?_
            rintro e w14 ⟨K3, km3, rfl, ho14, hn14⟩
            replace G := G.nx hn14
            replace G_0 := G.cell (j := 0) rfl
            replace G_1 := G.cell (j := 1) rfl
            replace G_z := G.lt
            replace E := E.nx hn14
            replace E_0 := E.cell (j := 0) rfl
            replace E_1 := E.cell (j := 1) rfl
            replace E_z := E.lt
            replace F := F.nx hn14
            replace F_0 := F.cell (j := 0) rfl
            replace F_1 := F.cell (j := 1) rfl
            replace F_z := F.lt
            replace X := X.nx hn14
            replace X_0 := X.cell (j := 0) rfl
            replace X_1 := X.cell (j := 1) rfl
            replace X_z := X.lt
            replace Y := Y.nx hn14
            replace Y_0 := Y.cell (j := 0) rfl
            replace Y_1 := Y.cell (j := 1) rfl
            replace Y_z := Y.lt
            replace Za := Za.nx hn14
            replace Za_0 := Za.cell (j := 0) rfl
            replace Za_1 := Za.cell (j := 1) rfl
            replace Za_z := Za.lt
            replace Zb := Zb.nx hn14
            replace Zb_0 := Zb.cell (j := 0) rfl
            replace Zb_1 := Zb.cell (j := 1) rfl
            replace Zb_z := Zb.lt
            replace hg := hg.nx hn14
            replace hx := hx.nx hn14
            replace hy := hy.nx hn14
            replace hv1 := hv1.nx hn14
            replace hv2 := hv2.nx hn14
            replace N := N.trans hn14
            have hE3l := putE_len N2 E2 (u, v)
            have hv3 := ho14.edgesAt
            clear ho14
            generalize hb3 : putB N2 E2 (u, v) = b3 at *
            generalize hN3 : putN N2 E2 (u, v) = N3 at *
            generalize hE3 : putE N2 E2 (u, v) = E3 at *
            have HM2 := Lib.hid HM
            clear HM
            cases b1 with
            | false =>
              clear hb1 hN1 hE1 hb2 hN2 hE2 hb3 hN3 hE3
              go_wp2_with fail
              generalize hW15 : World.alloc _ _ = W15
              have gW15 : Nx w14 W15 := by subst hW15; exact (by repeat (first | exact Nx.refl _ | assumption | apply Nx.alloc | apply Nx.drew | apply Nx.drewN | (refine Nx.setCell ?_ (by first | (simp; done) | (simp; omega) | omega) _) | refine Nx.trans ?_ (by assumption)))
              have sW15 : W15.heap.size = w14.heap.size + 1 := by subst hW15; simp
              have Zc : Bx W15 (w14.heap.size) 29 [V N3, .slice K3 E3.length km3] := by subst hW15; have h := Bx.alloc w14 29 [V N3, .slice K3 E3.length km3]; simpa using h
              have Zc_0 := Zc.cell (j := 0) rfl
              have Zc_1 := Zc.cell (j := 1) rfl
              have Zc_z := Zc.lt
              have HsW15 := Lib.hid sW15
              have lW15 : w14.heap.size + 1 ≤ W15.heap.size := by omega
              clear hW15 sW15
              replace Za := Za.nx gW15
              replace Za_0 := Za.cell (j := 0) rfl
              replace Za_1 := Za.cell (j := 1) rfl
              replace Za_z := Za.lt
              replace N := N.trans gW15
              go_wp2
              go_ret
              exact RetV.bool rfl (by repeat (first | exact Nx.refl _ | assumption | apply Nx.alloc | apply Nx.drew | apply Nx.drewN | (refine Nx.setCell ?_ (by first | (simp; done) | (simp; omega) | omega) _) | refine Nx.trans ?_ (by assumption)))
            | true =>
              cases b2 with
              | false =>
                clear hb1 hN1 hE1 hb2 hN2 hE2 hb3 hN3 hE3
                go_wp2_with fail
                generalize hW15 : World.alloc _ _ = W15
                have gW15 : Nx w14 W15 := by subst hW15; exact (by repeat (first | exact Nx.refl _ | assumption | apply Nx.alloc | apply Nx.drew | apply Nx.drewN | (refine Nx.setCell ?_ (by first | (simp; done) | (simp; omega) | omega) _) | refine Nx.trans ?_ (by assumption)))
                have sW15 : W15.heap.size = w14.heap.size + 1 := by subst hW15; simp
                have Zc : Bx W15 (w14.heap.size) 29 [V N3, .slice K3 E3.length km3] := by subst hW15; have h := Bx.alloc w14 29 [V N3, .slice K3 E3.length km3]; simpa using h
                have Zc_0 := Zc.cell (j := 0) rfl
                have Zc_1 := Zc.cell (j := 1) rfl
                have Zc_z := Zc.lt
                have HsW15 := Lib.hid sW15
                have lW15 : w14.heap.size + 1 ≤ W15.heap.size := by omega
                clear hW15 sW15
                replace Za := Za.nx gW15
                replace Za_0 := Za.cell (j := 0) rfl
                replace Za_1 := Za.cell (j := 1) rfl
                replace Za_z := Za.lt
                replace N := N.trans gW15
                go_wp2
                go_ret
                exact RetV.bool rfl (by repeat (first | exact Nx.refl _ | assumption | apply Nx.alloc | apply Nx.drew | apply Nx.drewN | (refine Nx.setCell ?_ (by first | (simp; done) | (simp; omega) | omega) _) | refine Nx.trans ?_ (by assumption)))
              | true =>
                obtain ⟨a1, a2, a3, a4⟩ := HM2.out.out rfl rfl
                subst a2 a3 a4
                clear hb1 hN1 hE1 hb2 hN2 hE2 hb3 hN3 hE3
                go_wp2_with fail
                generalize hW15 : World.alloc _ _ = W15
                have gW15 : Nx w14 W15 := by subst hW15; exact (by repeat (first | exact Nx.refl _ | assumption | apply Nx.alloc | apply Nx.drew | apply Nx.drewN | (refine Nx.setCell ?_ (by first | (simp; done) | (simp; omega) | omega) _) | refine Nx.trans ?_ (by assumption)))
                have sW15 : W15.heap.size = w14.heap.size + 1 := by subst hW15; simp
                have Zc : Bx W15 (w14.heap.size) 29 [V N1, .slice K3 E1.length km3] := by subst hW15; have h := Bx.alloc w14 29 [V N1, .slice K3 E1.length km3]; simpa using h
                have Zc_0 := Zc.cell (j := 0) rfl
                have Zc_1 := Zc.cell (j := 1) rfl
                have Zc_z := Zc.lt
                have HsW15 := Lib.hid sW15
                have lW15 : w14.heap.size + 1 ≤ W15.heap.size := by omega
                clear hW15 sW15
                replace Za := Za.nx gW15
                replace Za_0 := Za.cell (j := 0) rfl
                replace Za_1 := Za.cell (j := 1) rfl
                replace Za_z := Za.lt
                replace hv1 := hv1.nx gW15
                replace hv3 := hv3.nx gW15
                replace N := N.trans gW15
                refine (same_yes N1 K K3 km km3 E1 _ hv1 hv3 (by omega)).mono ?_
                rintro e w16 ⟨rfl, hn16⟩
                replace Za := Za.nx hn16
                replace Za_0 := Za.cell (j := 0) rfl
                replace Za_1 := Za.cell (j := 1) rfl
                replace Za_z := Za.lt
                replace N := N.trans hn16
                go_wp2
                go_ret
                exact RetV.bool rfl (by repeat (first | exact Nx.refl _ | assumption | apply Nx.alloc | apply Nx.drew | apply Nx.drewN | (refine Nx.setCell ?_ (by first | (simp; done) | (simp; omega) | omega) _) | refine Nx.trans ?_ (by assumption)))
      · have Hi := iPut_no nn B d es u v hp
        have Hs := sPut_no nn B d es u v hp
        clear hp
        go_wp2_with fail
        generalize hW4 : World.alloc _ _ = W4
        have gW4 : Nx w3 W4 := by subst hW4; exact (by repeat (first | exact Nx.refl _ | assumption | apply Nx.alloc | apply Nx.drew | apply Nx.drewN | (refine Nx.setCell ?_ (by first | (simp; done) | (simp; omega) | omega) _) | refine Nx.trans ?_ (by assumption)))
        have sW4 : W4.heap.size = w3.heap.size + 2 := by subst hW4; simp
        have G2 : Bx W4 (w3.heap.size) 29 [V nn', .slice B' es'.length d'] := by subst hW4; have h := Bx.alloc w3 29 [V nn', .slice B' es'.length d']; have h := h.nx (Nx.alloc (Nx.refl _) (.cells #[V p, V q] 40)); simpa using h
        have F : Bx W4 (w3.heap.size + 1) 40 [V p, V q] := by subst hW4; have h := Bx.alloc (w3.alloc (.cells #[V nn', .slice B' es'.length d'] 29)) 40 [V p, V q]; simpa using h
        have G2_0 := G2.cell (j := 0) rfl
        have G2_1 := G2.cell (j := 1) rfl
        have G2_z := G2.lt
        have F_0 := F.cell (j := 0) rfl
        have F_1 := F.cell (j := 1) rfl
        have F_z := F.lt
        have HsW4 := Lib.hid sW4
        have lW4 : w3.heap.size + 2 ≤ W4.heap.size := by omega
        clear hW4 sW4
        replace G := G.nx gW4
        replace G_0 := G.cell (j := 0) rfl
        replace G_1 := G.cell (j := 1) rfl
        replace G_z := G.lt
        replace E := E.nx gW4
        replace E_0 := E.cell (j := 0) rfl
        replace E_1 := E.cell (j := 1) rfl
        replace E_z := E.lt
        replace hg := hg.nx gW4
        replace N := N.trans gW4
        refine (Hi _ hg (by omega)).mono ?_
        rintro e w5 ⟨C, k, rfl, ho3, hn5⟩
        replace G := G.nx hn5
        replace G_0 := G.cell (j := 0) rfl
        replace G_1 := G.cell (j := 1) rfl
        replace G_z := G.lt
        replace E := E.nx hn5
        replace E_0 := E.cell (j := 0) rfl
        replace E_1 := E.cell (j := 1) rfl
        replace E_z := E.lt
        replace F := F.nx hn5
        replace F_0 := F.cell (j := 0) rfl
        replace F_1 := F.cell (j := 1) rfl
        replace F_z := F.lt
        replace hg := hg.nx hn5
        replace N := N.trans hn5
        have hx := ho3.edgesAt
        clear ho3
        go_wp2_with fail
        generalize hW6 : World.alloc _ _ = W6
        have gW6 : Nx w5 W6 := by subst hW6; exact (by repeat (first | exact Nx.refl _ | assumption | apply Nx.alloc | apply Nx.drew | apply Nx.drewN | (refine Nx.setCell ?_ (by first | (simp; done) | (simp; omega) | omega) _) | refine Nx.trans ?_ (by assumption)))
        have sW6 : W6.heap.size = w5.heap.size + 1 := by subst hW6; simp
        have X : Bx W6 (w5.heap.size) 29 [V 0, .slice C 0 k] := by subst hW6; have h := Bx.alloc w5 29 [V 0, .slice C 0 k]; simpa using h
        have X_0 := X.cell (j := 0) rfl
        have X_1 := X.cell (j := 1) rfl
        have X_z := X.lt
        have HsW6 := Lib.hid sW6
        have lW6 : w5.heap.size + 1 ≤ W6.heap.size := by omega
        clear hW6 sW6
        replace G := G.nx gW6
        replace G_0 := G.cell (j := 0) rfl
        replace G_1 := G.cell (j := 1) rfl
        replace G_z := G.lt
        replace E := E.nx gW6
        replace E_0 := E.cell (j := 0) rfl
        replace E_1 := E.cell (j := 1) rfl
        replace E_z := E.lt
        replace F := F.nx gW6
        replace F_0 := F.cell (j := 0) rfl
        replace F_1 := F.cell (j := 1) rfl
        replace F_z := F.lt
        replace hg := hg.nx gW6
        replace hx := hx.nx gW6
        replace N := N.trans gW6
        refine (Hs _ hg (by omega)).mono ?_
        rintro e w7 ⟨D, m, rfl, ho5, hn7⟩
        replace G := G.nx hn7
        replace G_0 := G.cell (j := 0) rfl
        replace G_1 := G.cell (j := 1) rfl
        replace G_z := G.lt
        replace E := E.nx hn7
        replace E_0 := E.cell (j := 0) rfl
        replace E_1 := E.cell (j := 1) rfl
        replace E_z := E.lt
        replace F := F.nx hn7
        replace F_0 := F.cell (j := 0) rfl
        replace F_1 := F.cell (j := 1) rfl
        replace F_z := F.lt
        replace X := X.nx hn7
        replace X_0 := X.cell (j := 0) rfl
        replace X_1 := X.cell (j := 1) rfl
        replace X_z := X.lt
        replace hg := hg.nx hn7
        replace hx := hx.nx hn7
        replace N := N.trans hn7
        have hy := ho5.edgesAt
        clear ho5
        go_wp2_with fail
        generalize hW8 : World.alloc _ _ = W8
        have gW8 : Nx w7 W8 := by subst hW8; exact (by repeat (first | exact Nx.refl _ | assumption | apply Nx.alloc | apply Nx.drew | apply Nx.drewN | (refine Nx.setCell ?_ (by first | (simp; done) | (simp; omega) | omega) _) | refine Nx.trans ?_ (by assumption)))
        have sW8 : W8.heap.size = w7.heap.size + 1 := by subst hW8; simp
        have Y : Bx W8 (w7.heap.size) 29 [V 0, .slice D 0 m] := by subst hW8; have h := Bx.alloc w7 29 [V 0, .slice D 0 m]; simpa using h
        have Y_0 := Y.cell (j := 0) rfl
        have Y_1 := Y.cell (j := 1) rfl
        have Y_z := Y.lt
        have HsW8 := Lib.hid sW8
        have lW8 : w7.heap.size + 1 ≤ W8.heap.size := by omega
        clear hW8 sW8
        replace G := G.nx gW8
        replace G_0 := G.cell (j := 0) rfl
        replace G_1 := G.cell (j := 1) rfl
        replace G_z := G.lt
        replace E := E.nx gW8
        replace E_0 := E.cell (j := 0) rfl
        replace E_1 := E.cell (j := 1) rfl
        replace E_z := E.lt
        replace F := F.nx gW8
        replace F_0 := F.cell (j := 0) rfl
        replace F_1 := F.cell (j := 1) rfl
        replace F_z := F.lt
        replace X := X.nx gW8
        replace X_0 := X.cell (j := 0) rfl
        replace X_1 := X.cell (j := 1) rfl
        replace X_z := X.lt
        replace hg := hg.nx gW8
        replace hx := hx.nx gW8
        replace hy := hy.nx gW8
        replace N := N.trans gW8
        refine (same_yes 0 C D k m [] _ hx hy (by simp)).mono ?_
        rintro e w9 ⟨rfl, hn9⟩
        replace G := G.nx hn9
        replace G_0 := G.cell (j := 0) rfl
        replace G_1 := G.cell (j := 1) rfl
        replace G_z := G.lt
        replace E := E.nx hn9
        replace E_0 := E.cell (j := 0) rfl
        replace E_1 := E.cell (j := 1) rfl
        replace E_z := E.lt
        replace F := F.nx hn9
        replace F_0 := F.cell (j := 0) rfl
        replace F_1 := F.cell (j := 1) rfl
        replace F_z := F.lt
        replace X := X.nx hn9
        replace X_0 := X.cell (j := 0) rfl
        replace X_1 := X.cell (j := 1) rfl
        replace X_z := X.lt
        replace Y := Y.nx hn9
        replace Y_0 := Y.cell (j := 0) rfl
        replace Y_1 := Y.cell (j := 1) rfl
        replace Y_z := Y.lt
        replace hg := hg.nx hn9
        replace hx := hx.nx hn9
        replace hy := hy.nx hn9
        replace N := N.trans hn9
        go_wp2_with fail
        refine (same_yes 0 C D k m [] _ hx hy (by simp)).mono ?_
        rintro e w10 ⟨rfl, hn10⟩
        replace G := G.nx hn10
        replace G_0 := G.cell (j := 0) rfl
        replace G_1 := G.cell (j := 1) rfl
        replace G_z := G.lt
        replace E := E.nx hn10
        replace E_0 := E.cell (j := 0) rfl
        replace E_1 := E.cell (j := 1) rfl
        replace E_z := E.lt
        replace F := F.nx hn10
        replace F_0 := F.cell (j := 0) rfl
        replace F_1 := F.cell (j := 1) rfl
        replace F_z := F.lt
        replace X := X.nx hn10
        replace X_0 := X.cell (j := 0) rfl
        replace X_1 := X.cell (j := 1) rfl
        replace X_z := X.lt
        replace Y := Y.nx hn10
        replace Y_0 := Y.cell (j := 0) rfl
        replace Y_1 := Y.cell (j := 1) rfl
        replace Y_z := Y.lt
        replace hg := hg.nx hn10
        replace hx := hx.nx hn10
        replace hy := hy.nx hn10
        replace N := N.trans hn10
        go_wp2
        go_ret
        exact RetV.bool rfl (by repeat (first | exact Nx.refl _ | assumption | apply Nx.alloc | apply Nx.drew | apply Nx.drewN | (refine Nx.setCell ?_ (by first | (simp; done) | (simp; omega) | omega) _) | refine Nx.trans ?_ (by assumption)))
end Go.Proofs.Ytmagbdcmanchmaa
