/- FnLeafBlocks: the drawn argument and the walk. -/
import Derived.Test.YtjchabeiaajgiaaLB
import Derived.Test.YtjchabeiaajgiaaY13
import Derived.Test.YtjchabeiaajgiaaN2
namespace Go.Proofs.Ytjchabeiaajgiaa
open Go.RowKit set_option linter.unusedVariables false set_option linter.unusedSimpArgs false

set_option maxRecDepth 100000 in
set_option maxHeartbeats 4000000 in
theorem drawLeafBlocks_c (A : Option Addr) (n c : Nat) (w : World) (hnc : n ≤ c) (hb : BytesAt w w.heap.size A n) :
    Calls Try.prog 43 #[.slice A n c] w (SomeG 24 w) := by
  go_enter Try.func43, Try.ntmps43
  go_wp2_with fail
  generalize hW1 : World.alloc _ _ = W1
  have gW1 : Nx w W1 := by subst hW1; exact (by repeat (first | exact Nx.refl _ | assumption | apply Nx.alloc | apply Nx.drew | apply Nx.drewN | (refine Nx.setCell ?_ (by first | (simp; done) | (simp; omega) | omega) _) | refine Nx.trans ?_ (by assumption)))
  have sW1 : W1.heap.size = w.heap.size + 1 := by subst hW1; simp
  have X0 : Bx W1 (w.heap.size) 26 [V 0, .slice none 0 0] := by subst hW1; have h := Bx.alloc w 26 [V 0, .slice none 0 0]; simpa using h
  have X0_0 := X0.cell (j := 0) rfl
  have X0_1 := X0.cell (j := 1) rfl
  have X0_z := X0.lt
  have HsW1 := Lib.hid sW1
  have lW1 : w.heap.size + 1 ≤ W1.heap.size := by omega
  clear hW1 sW1
  refine (open_l A n c _ hnc (hb.nx gW1 (by omega))).mono ?_
  rintro e w2 ⟨rfl, r2, hn2⟩
  replace X0 := X0.nx hn2
  have hr0 := hn2.size
  clear X0_0 X0_1 X0_z hb
  go_wp2_with fail
  refine (l5Small_c W1.heap.size 0 _ r2 (by omega) (by omega)).mono ?_
  rintro e w3 ⟨nn6, B6, d6, es6, rfl, h6a, h6b, hl6, ho6, r6, x6⟩
  replace X0 := X0.rx x6 (by omega)
  have hn6 : Nx W1 w3 := Rx.nx hn2 x6 (Nat.le_refl _)
  have r0 := X0.cell (j := 0) rfl
  have r1 := X0.cell (j := 1) rfl
  have rf := X0.free
  clear r2 x6
  go_wp2
  refine bodyPost_ret (v := .agg #[V nn6, .slice B6 es6.length d6]) (by simp [results, Try.f43, go_sem, *]) rfl ?_
  refine ⟨nn6, B6, d6, es6, rfl, h6a, h6b, by omega, ?_, ?_⟩
  · exact ((ho6.far (by first | omega | (simp; omega)) _).far (by first | omega | (simp; omega)) _).mono (by omega)
  · have hn06 : Nx w w3 := gW1.trans hn6
    exact (by repeat (first | exact Nx.refl _ | assumption | apply Nx.alloc | apply Nx.drew | apply Nx.drewN | (refine Nx.setCell ?_ (by first | (simp; done) | (simp; omega) | omega) _) | refine Nx.trans ?_ (by assumption)))

theorem dyI_yes (A A' : Option Addr) (c c' : Nat) (xs : List Int) (w : World) (hx : IntsAt w A xs) (hy : IntsAt w A' xs) (hl : xs.length ≤ 1048576) :
    Calls Try.prog 45 #[.slice A xs.length c, .slice A' xs.length c'] w (RetV (.bool true) w) := by
  have h1 := dyInts_c A A' c c' xs xs w hx hy hl hl
  rwa [show decide (xs = xs) = true by simp] at h1
set_option maxRecDepth 100000 in
set_option maxHeartbeats 8000000 in
theorem fnLeafBlocks_walk (w : World) (A : Option Addr) (n c : Nat) (hnc : n ≤ c) (hb : BytesAt w w.heap.size A n) :
    Calls Try.prog 8 #[.slice A n c] w (RetV (.bool true) w) := by
  by_cases hbig : (n : Int) > 1048576
  · go_enter Try.func8, Try.ntmps8
    go_wp2
    go_ret
    exact RetV.bool rfl (by repeat (first | exact Nx.refl _ | assumption | apply Nx.alloc | apply Nx.drew | apply Nx.drewN | (refine Nx.setCell ?_ (by first | (simp; done) | (simp; omega) | omega) _) | refine Nx.trans ?_ (by assumption)))
  · go_enter Try.func8, Try.ntmps8
    go_wp2_with fail
    refine (drawLeafBlocks_c A n c _ hnc hb).mono ?_
    rintro e w1 ⟨nn, B, d, es, rfl, h1, h2, h3, ho, N⟩
    have hcap := ho.cap
    have hg := ho.edgesAt
    clear ho hb
    have hll := leavesOf_length nn es
    have Hil := Lib.hid (fun w hx => iLeafBlocks_c nn B d es w hx (by omega) hcap)
    have Hsl := Lib.hid (fun w hx => sLeafBlocks_c nn B d es w hx (by omega))
    have hgv := fun w hx => iGraphValid_c nn B d es w hx (by omega)
    by_cases hp : Valid nn es
    · have hpos := leaves_pos hp
      have htwo := leaves_two hp
      have hle := leaves_le (n := nn) (es := es)
      have hbl := (blocksOf_len nn es).1
      have hcl := cutsOf_length nn es
      have Hib := Lib.hid (fun w hx => iBlocksOf_c nn B d es w hx (by omega) hcap)
      have Hic := Lib.hid (fun w hx => iCutNodesOf_c nn B d es w hx (by omega))
      rw [show decide (Valid nn es) = true by simpa using hp] at hgv
      have Hgv := Lib.hid hgv
      generalize leavesOf nn es = ls at *
      generalize blocksOf nn es = bs at *
      generalize cutsOf nn es = cs at *
      have hbv : ((decide ((ls.length : Int) > 0)) == (decide ((es.length : Int) > 0))) = true := by
        have : (0 < (ls.length : Int)) ↔ (0 < (es.length : Int)) := by omega
        have h2 : decide ((ls.length : Int) > 0) = decide ((es.length : Int) > 0) := decide_eq_decide.2 this
        rw [h2, beq_self_eq_true]
      clear hgv hp hcap
      obtain ⟨cl, hcl2⟩ : ∃ x, cs.length = x := ⟨_, rfl⟩
      obtain ⟨ll, hll2⟩ : ∃ x, ls.length = x := ⟨_, rfl⟩
      obtain ⟨bl, hbl2⟩ : ∃ x, bs.length = x := ⟨_, rfl⟩
      have hdy := fun A A' c c' w h h' => dyI_yes A A' c c' ls w h h' (by omega)
      unfold RetQ RetI at *
      simp only [hcl2, hll2, hbl2] at Hic Hil Hsl Hib hll hpos htwo hle hbl hcl hbv hdy
      have Hdy := Lib.hid hdy
      have hle2 : decide ((ll : Int) ≤ (bl : Int)) = true := by simpa using hle
      clear hcl2 hll2 hbl2 hdy
      go_wp2_with fail
      generalize hW2 : World.alloc _ _ = W2
      have gW2 : Nx w1 W2 := by subst hW2; exact (by repeat (first | exact Nx.refl _ | assumption | apply Nx.alloc | apply Nx.drew | apply Nx.drewN | (refine Nx.setCell ?_ (by first | (simp; done) | (simp; omega) | omega) _) | refine Nx.trans ?_ (by assumption)))
      have sW2 : W2.heap.size = w1.heap.size + 1 := by subst hW2; simp
      have G : Bx W2 (w1.heap.size) 26 [V nn, .slice B es.length d] := by subst hW2; have h := Bx.alloc w1 26 [V nn, .slice B es.length d]; simpa using h
      have G_0 := G.cell (j := 0) rfl
      have G_1 := G.cell (j := 1) rfl
      have G_z := G.lt
      have HsW2 := Lib.hid sW2
      have lW2 : w1.heap.size + 1 ≤ W2.heap.size := by omega
      clear hW2 sW2
      replace hg := hg.nx gW2
      replace N := N.trans gW2
      refine (Hil.out _ hg).mono ?_
      rintro e w3 ⟨C, k, rfl, ho3, hn3⟩
      replace G := G.nx hn3
      replace G_0 := G.cell (j := 0) rfl
      replace G_1 := G.cell (j := 1) rfl
      replace G_z := G.lt
      replace hg := hg.nx hn3
      replace N := N.trans hn3
      have hx := ho3.intsAt
      clear ho3
      go_wp2_with fail
      refine (Hsl.out _ hg).mono ?_
      rintro e w4 ⟨D, m, rfl, ho4, hn4⟩
      replace G := G.nx hn4
      replace G_0 := G.cell (j := 0) rfl
      replace G_1 := G.cell (j := 1) rfl
      replace G_z := G.lt
      replace hg := hg.nx hn4
      replace hx := hx.nx hn4
      replace N := N.trans hn4
      have hy := ho4.intsAt
      clear ho4
      go_wp2_with fail
      refine (Hdy.out C D k m _ hx hy).mono ?_
      rintro e w5 ⟨rfl, hn5⟩
      replace G := G.nx hn5
      replace G_0 := G.cell (j := 0) rfl
      replace G_1 := G.cell (j := 1) rfl
      replace G_z := G.lt
      replace hg := hg.nx hn5
      replace hx := hx.nx hn5
      replace N := N.trans hn5
      go_wp2_with fail
      refine (Hgv.out _ hg).mono ?_
      rintro e w6 ⟨rfl, hn6⟩
      replace G := G.nx hn6
      replace G_0 := G.cell (j := 0) rfl
      replace G_1 := G.cell (j := 1) rfl
      replace G_z := G.lt
      replace hg := hg.nx hn6
      replace N := N.trans hn6
      go_wp2_with fail
      refine (Hic.out _ hg).mono ?_
      rintro e w7 ⟨Q, q, rfl, _, hn7⟩
      replace G := G.nx hn7
      replace G_0 := G.cell (j := 0) rfl
      replace G_1 := G.cell (j := 1) rfl
      replace G_z := G.lt
      replace hg := hg.nx hn7
      replace N := N.trans hn7
      by_cases hc0 : cl = 0
      · subst hc0
        go_wp2_with fail
        refine (Hib.out _ hg).mono ?_
        rintro e w8 ⟨Q2, q2, _, rfl, _, _, hn8⟩
        replace G := G.nx hn8
        replace G_0 := G.cell (j := 0) rfl
        replace G_1 := G.cell (j := 1) rfl
        replace G_z := G.lt
        replace N := N.trans hn8
        go_wp2
        go_ret
        exact RetV.bool rfl N
      · have h2l := htwo hc0
        have hc1 : ((cl : Int) == 0) = false := by simpa using hc0
        have hc2 : decide ((2 : Int) ≤ (ll : Int)) = true := by simp; omega
        clear htwo
        go_wp2_with fail
        refine (Hib.out _ hg).mono ?_
        rintro e w8 ⟨Q2, q2, _, rfl, _, _, hn8⟩
        replace G := G.nx hn8
        replace G_0 := G.cell (j := 0) rfl
        replace G_1 := G.cell (j := 1) rfl
        replace G_z := G.lt
        replace N := N.trans hn8
        go_wp2
        go_ret
        exact RetV.bool rfl N
    · have Hv := Lib.hid (show decide (Valid nn es) = false by simpa using hp)
      rw [Hv.out] at hgv
      have Hgv := Lib.hid hgv
      have hls : leavesOf nn es = [] := by unfold leavesOf; rw [blocksOf_no hp]; rfl
      rw [hls] at Hil Hsl
      clear hgv hp hll hcap
      go_wp2_with fail
      generalize hW2 : World.alloc _ _ = W2
      have gW2 : Nx w1 W2 := by subst hW2; exact (by repeat (first | exact Nx.refl _ | assumption | apply Nx.alloc | apply Nx.drew | apply Nx.drewN | (refine Nx.setCell ?_ (by first | (simp; done) | (simp; omega) | omega) _) | refine Nx.trans ?_ (by assumption)))
      have sW2 : W2.heap.size = w1.heap.size + 1 := by subst hW2; simp
      have G : Bx W2 (w1.heap.size) 26 [V nn, .slice B es.length d] := by subst hW2; have h := Bx.alloc w1 26 [V nn, .slice B es.length d]; simpa using h
      have G_0 := G.cell (j := 0) rfl
      have G_1 := G.cell (j := 1) rfl
      have G_z := G.lt
      have HsW2 := Lib.hid sW2
      have lW2 : w1.heap.size + 1 ≤ W2.heap.size := by omega
      clear hW2 sW2
      replace hg := hg.nx gW2
      replace N := N.trans gW2
      refine (Hil.out _ hg).mono ?_
      rintro e w3 ⟨C, k, rfl, ho3, hn3⟩
      replace G := G.nx hn3
      replace G_0 := G.cell (j := 0) rfl
      replace G_1 := G.cell (j := 1) rfl
      replace G_z := G.lt
      replace hg := hg.nx hn3
      replace N := N.trans hn3
      have hx := ho3.intsAt
      clear ho3
      go_wp2_with fail
      refine (Hsl.out _ hg).mono ?_
      rintro e w4 ⟨D, m, rfl, ho4, hn4⟩
      replace G := G.nx hn4
      replace G_0 := G.cell (j := 0) rfl
      replace G_1 := G.cell (j := 1) rfl
      replace G_z := G.lt
      replace hg := hg.nx hn4
      replace hx := hx.nx hn4
      replace N := N.trans hn4
      have hy := ho4.intsAt
      clear ho4
      go_wp2_with fail
      refine (dyI_yes C D k m [] _ hx hy (by simp)).mono ?_
      rintro e w5 ⟨rfl, hn5⟩
      replace G := G.nx hn5
      replace G_0 := G.cell (j := 0) rfl
      replace G_1 := G.cell (j := 1) rfl
      replace G_z := G.lt
      replace hg := hg.nx hn5
      replace hx := hx.nx hn5
      replace N := N.trans hn5
      go_wp2_with fail
      refine (Hgv.out _ hg).mono ?_
      rintro e w6 ⟨rfl, hn6⟩
      replace G := G.nx hn6
      replace G_0 := G.cell (j := 0) rfl
      replace G_1 := G.cell (j := 1) rfl
      replace G_z := G.lt
      replace hg := hg.nx hn6
      replace hx := hx.nx hn6
      replace N := N.trans hn6
      go_wp2_with fail
      refine (Hsl.out _ hg).mono ?_
      rintro e w7 ⟨D2, m2, rfl, ho7, hn7⟩
      replace G := G.nx hn7
      replace G_0 := G.cell (j := 0) rfl
      replace G_1 := G.cell (j := 1) rfl
      replace G_z := G.lt
      replace hg := hg.nx hn7
      replace hx := hx.nx hn7
      replace N := N.trans hn7
      have hy := ho7.intsAt
      clear ho7
      go_wp2_with fail
      refine (dyI_yes C D2 k m2 [] _ hx hy (by simp)).mono ?_
      rintro e w8 ⟨rfl, hn8⟩
      replace G := G.nx hn8
      replace G_0 := G.cell (j := 0) rfl
      replace G_1 := G.cell (j := 1) rfl
      replace G_z := G.lt
      replace hg := hg.nx hn8
      replace hx := hx.nx hn8
      replace N := N.trans hn8
      go_wp2
      go_ret
      exact RetV.bool rfl N
end Go.Proofs.Ytjchabeiaajgiaa
