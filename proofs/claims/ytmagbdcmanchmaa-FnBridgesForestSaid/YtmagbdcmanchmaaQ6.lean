/- FnBridgesForest: the walk. -/
import Derived.Test.YtmagbdcmanchmaaQ0
import Derived.Test.YtmagbdcmanchmaaN3
import Derived.Test.YtmagbdcmanchmaaN4
import Derived.Test.YtmagbdcmanchmaaN5
import Derived.Test.YtmagbdcmanchmaaC7
namespace Go.Proofs.Ytmagbdcmanchmaa
open Go.RowKit set_option linter.unusedVariables false set_option linter.unusedSimpArgs false

theorem iBr_to (n : Int) (A : Option Addr) (c : Nat) (es L : List (Int × Int)) (h : bridgesOf n es = L) (w : World) (hx : EdgesAt w A es) (hl : es.length ≤ 1048576) :
    Calls Try.prog 31 #[.agg #[V n, .slice A es.length c]] w (RetE 40 L w) := h ▸ iBridgesOf_c n A c es w hx hl
theorem sBr_to (n : Int) (A : Option Addr) (c : Nat) (es L : List (Int × Int)) (h : bridgesOf n es = L) (w : World) (hx : EdgesAt w A es) (hl : es.length ≤ 1048576) :
    Calls Try.prog 30 #[.agg #[V n, .slice A es.length c]] w (RetE 40 L w) := h ▸ sBridgesOf_c n A c es w hx hl
theorem iFo_to (n : Int) (A : Option Addr) (c : Nat) (es L : List (Int × Int)) (h : forestOf n es = L) (w : World) (hx : EdgesAt w A es) (hl : es.length ≤ 1048576) :
    Calls Try.prog 18 #[.agg #[V n, .slice A es.length c]] w (RetE 40 L w) := h ▸ iForestOf_c n A c es w hx hl
theorem dyE_yes (A A' : Option Addr) (c c' : Nat) (xs : List (Int × Int)) (w : World) (hx : EdgesAt w A xs) (hy : EdgesAt w A' xs) (hl : xs.length ≤ 1048576) :
    Calls Try.prog 43 #[.slice A xs.length c, .slice A' xs.length c'] w (RetV (.bool true) w) := by
  have h1 := dyEdges_c A A' c c' xs xs w hx hy hl hl
  rwa [show decide (xs = xs) = true by simp] at h1
theorem dyH_yes (A : Option Addr) (c : Nat) (es : List (Int × Int)) (x y : Int) (h : (x, y) ∈ es) (w : World) (hx : EdgesAt w A es) (hl : es.length ≤ 1048576) :
    Calls Try.prog 45 #[.slice A es.length c, Ed x y] w (RetV (.bool true) w) := by
  have h1 := dyHas_c A c es x y w hx hl
  rwa [show decide ((x, y) ∈ es) = true by simpa using h] at h1

set_option maxRecDepth 100000 in
set_option maxHeartbeats 8000000 in
theorem fnBridgesForest_walk (w : World) (A : Option Addr) (n c : Nat) (hnc : n ≤ c) (hb : BytesAt w w.heap.size A n) :
    Calls Try.prog 9 #[.slice A n c] w (RetV (.bool true) w) := by
  by_cases hbig : (n : Int) > 1048576
  · go_enter Try.func9, Try.ntmps9
    go_wp2
    go_ret
    exact RetV.bool rfl (by repeat (first | exact Nx.refl _ | assumption | apply Nx.alloc | apply Nx.drew | apply Nx.drewN | (refine Nx.setCell ?_ (by first | (simp; done) | (simp; omega) | omega) _) | refine Nx.trans ?_ (by assumption)))
  · go_enter Try.func9, Try.ntmps9
    go_wp2_with fail
    refine (drawBridgesOf_c A n c _ hnc hb).mono ?_
    rintro e w1 ⟨nn, B, d, es, rfl, h1, h2, h3, ho, N⟩
    have hg := ho.edgesAt
    clear ho hb
    generalize hL : bridgesOf nn es = L
    have hLl : L.length ≤ 40 := hL ▸ bridgesOf_length nn es
    have HL := Lib.hid hL
    by_cases hp : Valid nn es
    · obtain ⟨hin, hfo⟩ := bridges_forest hp
      rw [hL] at hin
      have hFl := forestOf_length nn es
      generalize hF : forestOf nn es = F at *
      have Hv := Lib.hid hp
      have HF := Lib.hid hF
      have Hin := Lib.hid hin
      have Hfo := Lib.hid hfo
      clear hp hin hfo hF hL
      go_wp2_with fail
      generalize hW2 : World.alloc _ _ = W2
      have gW2 : Nx w1 W2 := by subst hW2; exact (by repeat (first | exact Nx.refl _ | assumption | apply Nx.alloc | apply Nx.drew | apply Nx.drewN | (refine Nx.setCell ?_ (by first | (simp; done) | (simp; omega) | omega) _) | refine Nx.trans ?_ (by assumption)))
      have sW2 : W2.heap.size = w1.heap.size + 1 := by subst hW2; simp
      have G : Bx W2 (w1.heap.size) 29 [V nn, .slice B es.length d] := by subst hW2; have h := Bx.alloc w1 29 [V nn, .slice B es.length d]; simpa using h
      have G_0 := G.cell (j := 0) rfl
      have G_1 := G.cell (j := 1) rfl
      have G_z := G.lt
      have HsW2 := Lib.hid sW2
      have lW2 : w1.heap.size + 1 ≤ W2.heap.size := by omega
      clear hW2 sW2
      replace hg := hg.nx gW2
      replace N := N.trans gW2
      refine (iBr_to nn B d es L HL.out _ hg (by omega)).mono ?_
      rintro e w3 ⟨C, k, rfl, ho3, hn3⟩
      replace G := G.nx hn3
      replace G_0 := G.cell (j := 0) rfl
      replace G_1 := G.cell (j := 1) rfl
      replace G_z := G.lt
      replace hg := hg.nx hn3
      replace N := N.trans hn3
      have hx := ho3.edgesAt
      clear ho3
      go_wp2_with fail
      refine (sBr_to nn B d es L HL.out _ hg (by omega)).mono ?_
      rintro e w4 ⟨D, m, rfl, ho4, hn4⟩
      replace G := G.nx hn4
      replace G_0 := G.cell (j := 0) rfl
      replace G_1 := G.cell (j := 1) rfl
      replace G_z := G.lt
      replace hg := hg.nx hn4
      replace hx := hx.nx hn4
      replace N := N.trans hn4
      have hy := ho4.edgesAt
      clear ho4
      go_wp2_with fail
      refine (dyE_yes C D k m L _ hx hy (by omega)).mono ?_
      rintro e w5 ⟨rfl, hn5⟩
      replace G := G.nx hn5
      replace G_0 := G.cell (j := 0) rfl
      replace G_1 := G.cell (j := 1) rfl
      replace G_z := G.lt
      replace hg := hg.nx hn5
      replace hx := hx.nx hn5
      replace N := N.trans hn5
      go_wp2_with fail
      refine (valid_yes nn B d es Hv.out _ hg (by omega)).mono ?_
      rintro e w6 ⟨rfl, hn6⟩
      replace G := G.nx hn6
      replace G_0 := G.cell (j := 0) rfl
      replace G_1 := G.cell (j := 1) rfl
      replace G_z := G.lt
      replace hg := hg.nx hn6
      replace hx := hx.nx hn6
      replace N := N.trans hn6
      go_wp2_with fail
      refine (iFo_to nn B d es F HF.out _ hg (by omega)).mono ?_
      rintro e w7 ⟨Q, qd, rfl, ho7, hn7⟩
      replace G := G.nx hn7
      replace G_0 := G.cell (j := 0) rfl
      replace G_1 := G.cell (j := 1) rfl
      replace G_z := G.lt
      replace hg := hg.nx hn7
      replace hx := hx.nx hn7
      replace N := N.trans hn7
      have hf := ho7.edgesAt
      clear ho7
      go_wp2
      go_loopw [6] (fun i wr => ∃ j : Nat, j ≤ L.length ∧ i = .int .i64 j ∧ Nx w7 wr) (fun i _ => L.length - (intOf i).toNat)
      case atStart => exact ⟨0, by omega, rfl, Nx.refl _⟩
      case round =>
        obtain ⟨j, hj, rfl, hn⟩ := hrel
        replace G := G.nx hn
        replace G_0 := G.cell (j := 0) rfl
        replace G_1 := G.cell (j := 1) rfl
        replace G_z := G.lt
        replace hg := hg.nx hn
        replace hx := hx.nx hn
        replace hf := hf.nx hn
        replace N := N.trans hn
        by_cases hlt : j < L.length
        · have hx2 := hx
          obtain ⟨b, off, rfl, hbb, hc⟩ := hx2 (by omega)
          have c1 := (hc j hlt).1
          have c2 := (hc j hlt).2
          have hmem := Hin.out _ (List.getElem_mem hlt)
          generalize L[j] = p at *
          obtain ⟨p, q⟩ := p
          have Hmem := Lib.hid hmem
          clear hc hmem
          go_wp2_with fail
          refine (dyH_yes Q qd F p q Hmem.out _ hf (by omega)).mono ?_
          rintro e w8 ⟨rfl, hn8⟩
          replace G := G.nx hn8
          replace G_0 := G.cell (j := 0) rfl
          replace G_1 := G.cell (j := 1) rfl
          replace G_z := G.lt
          replace N := N.trans hn8
          go_wp2
          go_roundw
          case rel => exact ⟨j + 1, by omega, by go_num, hn.trans hn8⟩
          case measure => simp [intOf]; omega
        · go_wp2_with fail
          refine (iBr_to nn Q qd F F Hfo.out _ hf (by omega)).mono ?_
          rintro e w8 ⟨Q2, qd2, rfl, ho8, hn8⟩
          replace G := G.nx hn8
          replace G_0 := G.cell (j := 0) rfl
          replace G_1 := G.cell (j := 1) rfl
          replace G_z := G.lt
          replace hf := hf.nx hn8
          replace N := N.trans hn8
          have hf2 := ho8.edgesAt
          clear ho8
          go_wp2_with fail
          refine (dyE_yes Q2 Q qd2 qd F _ hf2 hf (by omega)).mono ?_
          rintro e w9 ⟨rfl, hn9⟩
          replace G := G.nx hn9
          replace G_0 := G.cell (j := 0) rfl
          replace G_1 := G.cell (j := 1) rfl
          replace G_z := G.lt
          replace N := N.trans hn9
          go_wp2
          go_ret
          exact RetV.bool rfl (by repeat (first | exact Nx.refl _ | assumption | apply Nx.alloc | apply Nx.drew | apply Nx.drewN | (refine Nx.setCell ?_ (by first | (simp; done) | (simp; omega) | omega) _) | refine Nx.trans ?_ (by assumption)))
    · have Hv := Lib.hid (show decide (Valid nn es) = false by simpa using hp)
      have hvv := iGraphValid_c nn B d es
      rw [Hv.out] at hvv
      clear hp hL
      go_wp2_with fail
      generalize hW2 : World.alloc _ _ = W2
      have gW2 : Nx w1 W2 := by subst hW2; exact (by repeat (first | exact Nx.refl _ | assumption | apply Nx.alloc | apply Nx.drew | apply Nx.drewN | (refine Nx.setCell ?_ (by first | (simp; done) | (simp; omega) | omega) _) | refine Nx.trans ?_ (by assumption)))
      have sW2 : W2.heap.size = w1.heap.size + 1 := by subst hW2; simp
      have G : Bx W2 (w1.heap.size) 29 [V nn, .slice B es.length d] := by subst hW2; have h := Bx.alloc w1 29 [V nn, .slice B es.length d]; simpa using h
      have G_0 := G.cell (j := 0) rfl
      have G_1 := G.cell (j := 1) rfl
      have G_z := G.lt
      have HsW2 := Lib.hid sW2
      have lW2 : w1.heap.size + 1 ≤ W2.heap.size := by omega
      clear hW2 sW2
      replace hg := hg.nx gW2
      replace N := N.trans gW2
      refine (iBr_to nn B d es L HL.out _ hg (by omega)).mono ?_
      rintro e w3 ⟨C, k, rfl, ho3, hn3⟩
      replace G := G.nx hn3
      replace G_0 := G.cell (j := 0) rfl
      replace G_1 := G.cell (j := 1) rfl
      replace G_z := G.lt
      replace hg := hg.nx hn3
      replace N := N.trans hn3
      have hx := ho3.edgesAt
      clear ho3
      go_wp2_with fail
      refine (sBr_to nn B d es L HL.out _ hg (by omega)).mono ?_
      rintro e w4 ⟨D, m, rfl, ho4, hn4⟩
      replace G := G.nx hn4
      replace G_0 := G.cell (j := 0) rfl
      replace G_1 := G.cell (j := 1) rfl
      replace G_z := G.lt
      replace hg := hg.nx hn4
      replace hx := hx.nx hn4
      replace N := N.trans hn4
      have hy := ho4.edgesAt
      clear ho4
      go_wp2_with fail
      refine (dyE_yes C D k m L _ hx hy (by omega)).mono ?_
      rintro e w5 ⟨rfl, hn5⟩
      replace G := G.nx hn5
      replace G_0 := G.cell (j := 0) rfl
      replace G_1 := G.cell (j := 1) rfl
      replace G_z := G.lt
      replace hg := hg.nx hn5
      replace hx := hx.nx hn5
      replace N := N.trans hn5
      go_wp2_with fail
      refine (hvv _ hg (by omega)).mono ?_
      rintro e w6 ⟨rfl, hn6⟩
      replace G := G.nx hn6
      replace G_0 := G.cell (j := 0) rfl
      replace G_1 := G.cell (j := 1) rfl
      replace G_z := G.lt
      replace hg := hg.nx hn6
      replace hx := hx.nx hn6
      replace N := N.trans hn6
      go_wp2_with fail
      refine (sBr_to nn B d es L HL.out _ hg (by omega)).mono ?_
      rintro e w7 ⟨D2, m2, rfl, ho7, hn7⟩
      replace G := G.nx hn7
      replace G_0 := G.cell (j := 0) rfl
      replace G_1 := G.cell (j := 1) rfl
      replace G_z := G.lt
      replace hg := hg.nx hn7
      replace hx := hx.nx hn7
      replace N := N.trans hn7
      have hy := ho7.edgesAt
      clear ho7
      go_wp2_with fail
      refine (dyE_yes C D2 k m2 L _ hx hy (by omega)).mono ?_
      rintro e w8 ⟨rfl, hn8⟩
      replace G := G.nx hn8
      replace G_0 := G.cell (j := 0) rfl
      replace G_1 := G.cell (j := 1) rfl
      replace G_z := G.lt
      replace hg := hg.nx hn8
      replace hx := hx.nx hn8
      replace N := N.trans hn8
      go_wp2
      go_ret
      exact RetV.bool rfl (by repeat (first | exact Nx.refl _ | assumption | apply Nx.alloc | apply Nx.drew | apply Nx.drewN | (refine Nx.setCell ?_ (by first | (simp; done) | (simp; omega) | omega) _) | refine Nx.trans ?_ (by assumption)))
end Go.Proofs.Ytmagbdcmanchmaa
