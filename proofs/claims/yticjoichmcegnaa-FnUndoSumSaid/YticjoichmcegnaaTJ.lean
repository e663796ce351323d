/- Contracts: l3Draw: some sets; DrawSetsValid, DrawUndoSets. -/
import Derived.Test.YticjoichmcegnaaTI
import Derived.Test.YticjoichmcegnaaD5g
import Derived.Test.YticjoichmcegnaaTE
import Derived.Deep.RegionHeld3
namespace Go.Proofs.Yticjoichmcegnaa
open Go.RowKit set_option linter.unusedVariables false set_option linter.unusedSimpArgs false

/-- some sets in rows of the call's own -/
def SomeS (f : Value → Value) (w : World) (e : Ending) (w' : World) : Prop := ∃ (s : SS) (N : Nat), s.P.length = N ∧ s.Z.length = N ∧ 1 ≤ N ∧ N ≤ 16 ∧ s.T.length ≤ 23 ∧ RetSS s f w e w'
theorem IntsAt.kept {w w' : World} {A : Option Addr} {xs : List Int} {row : Option Nat} (h : IntsAt w A xs) (hg : w.grownBy w' row) (hne : blk A = none ∨ blk A ≠ row) : IntsAt w' A xs := fun h0 => by
  obtain ⟨b, off, rfl, hb, hc⟩ := h h0
  exact ⟨b, off, rfl, Nat.lt_of_lt_of_le hb hg.size, fun k hk => World.grownBy.cell hg (hc k hk) (by rcases hne with e | e; cases e; exact fun h => e (by rw [← h]; rfl))⟩
theorem SB.cutE {w : World} {base gb ca cb cc : Nat} {s : SS} {T : Es} {t : Int × Int} {A B C : Option Addr} (h : SB w base gb s A ca B cb C cc) (hT : s.T = T ++ [t]) :
    SB (w.setCell ⟨gb, 2, none⟩ (.slice C T.length cc)) base gb ⟨s.P, s.Z, T⟩ A ca B cb C cc := by
  have hg2 := grown_setCell w gb 2 (.slice C T.length cc)
  have hc := h.c
  rw [hT] at hc
  have h1 := h.bx.set (j := 2) (.slice C T.length cc)
  exact ⟨by simpa using h1, h.a.kept hg2 (apart_ne h.ga), h.b.kept hg2 (apart_ne h.gb'), hc.init.kept hg2 (apart_ne h.gc), h.ab, h.ac, h.bc, h.ga, h.gb', h.gc⟩

set_option maxRecDepth 100000 in
set_option maxHeartbeats 16000000 in
theorem l3Draw_c (A : Option Addr) (m c : Nat) (w : World) (hmc : m ≤ c) (hb : BytesAt w w.heap.size A m) :
    Calls Try.prog 67 #[.slice A m c] w (SomeS id w) := by
  go_enter Try.func67, Try.ntmps67
  go_wp2_with fail
  generalize hW1 : World.alloc _ _ = W1
  have gW1 : Nx w W1 := by subst hW1; exact (by repeat (first | exact Nx.refl _ | assumption | apply Nx.alloc | apply Nx.drew | apply Nx.drewN | (refine Nx.setCell ?_ (by first | (simp; done) | (simp; omega) | omega) _) | refine Nx.trans ?_ (by assumption)))
  have sW1 : W1.heap.size = w.heap.size + 1 := by subst hW1; simp
  have X0 : Bx W1 (w.heap.size) 37 [.slice none 0 0, .slice none 0 0, .slice none 0 0] := by subst hW1; have h := Bx.alloc w 37 [.slice none 0 0, .slice none 0 0, .slice none 0 0]; simpa using h
  have X0_0 := X0.cell (j := 0) rfl
  have X0_1 := X0.cell (j := 1) rfl
  have X0_2 := X0.cell (j := 2) rfl
  have X0_z := X0.lt
  have HsW1 := Lib.hid sW1
  have lW1 : w.heap.size + 1 ≤ W1.heap.size := by omega
  clear hW1 sW1
  have N := gW1
  refine (open_l A m c _ hmc (hb.nx gW1 (by omega))).mono ?_
  rintro e w2 ⟨rfl, r2, hn2⟩
  replace X0 := X0.nx hn2
  replace X0_0 := X0.cell (j := 0) rfl
  replace X0_1 := X0.cell (j := 1) rfl
  replace X0_2 := X0.cell (j := 2) rfl
  replace X0_z := X0.lt
  replace N := N.trans hn2
  have z2 := hn2.size
  clear hb
  go_wp2_with fail
  refine (l1Draw_c W1.heap.size 0 _ r2 (by omega) (by omega)).mono ?_
  rintro e w3 ⟨nn, B, d, es, rfl, hv, hl, ho3, r3, x3⟩
  clear X0_0 X0_1 X0_2 X0_z
  replace X0 := X0.rx x3 (by omega)
  replace N := N.grown x3 (fun k e => by injection e with e; omega)
  have z3 := x3.size
  have brl : W1.heap.size < w2.heap.size := r2.lt
  clear x3 r2 gW1
  obtain ⟨n, rfl⟩ := Int.eq_ofNat_of_zero_le (show 0 ≤ nn by have := hv.1; omega)
  have hn1 : 1 ≤ n := by have := hv.1; omega
  have hn16 : n ≤ 16 := by have := hv.2.1; omega
  have hof := fun w' h => l3Of_c n B d es w' hv hl h
  have Hof := Lib.hid hof
  clear hof hv
  go_wp2_with fail
  refine (Hof.out _ ho3.edgesAt).mono ?_
  rintro e w4 ⟨s, hinv, hT, A4, ca4, B4, cb4, C4, cc4, rfl, oA, oB, oC, sAB, sAC, sBC, hn4⟩
  have lP := Lib.hid hinv.lp
  have lZ := Lib.hid hinv.lz
  obtain ⟨l, hl2⟩ : ∃ l, s.T.length = l := ⟨_, rfl⟩
  have lT := Lib.hid hl2
  have hl23 : l ≤ 23 := by omega
  rw [hinv.lp, hinv.lz, hl2]
  replace X0 := X0.nx hn4
  replace N := N.trans hn4
  have r4 := r3.nx hn4
  have z4 := hn4.size
  clear hinv hT hl2 hl r3 ho3 Hof
  go_wp2_with fail
  generalize hW5 : World.alloc _ _ = W5
  have gW5 : Nx w4 W5 := by subst hW5; exact (by repeat (first | exact Nx.refl _ | assumption | apply Nx.alloc | apply Nx.drew | apply Nx.drewN | (refine Nx.setCell ?_ (by first | (simp; done) | (simp; omega) | omega) _) | refine Nx.trans ?_ (by assumption)))
  have sW5 : W5.heap.size = w4.heap.size + 1 := by subst hW5; simp
  have G : Bx W5 (w4.heap.size) 37 [.slice A4 n ca4, .slice B4 n cb4, .slice C4 l cc4] := by subst hW5; have h := Bx.alloc w4 37 [.slice A4 n ca4, .slice B4 n cb4, .slice C4 l cc4]; simpa using h
  have G_0 := G.cell (j := 0) rfl
  have G_1 := G.cell (j := 1) rfl
  have G_2 := G.cell (j := 2) rfl
  have G_z := G.lt
  have HsW5 := Lib.hid sW5
  have lW5 : w4.heap.size + 1 ≤ W5.heap.size := by omega
  clear hW5 sW5
  replace X0 := X0.nx gW5
  replace N := N.trans gW5
  have h5 : SB W5 w3.heap.size w4.heap.size s A4 ca4 B4 cb4 C4 cc4 := ⟨by rw [lP.out, lZ.out, lT.out]; exact G, oA.nx gW5, oB.nx gW5, oC.nx gW5, sAB, sAC, sBC, fun k hk => by have := (oA.lt k hk).2; omega, fun k hk => by have := (oB.lt k hk).2; omega, fun k hk => by have := (oC.lt k hk).2; omega⟩
  have r5 := r4.nx gW5
  obtain ⟨gA, rfl, gA1, gA2⟩ := oA.at (by rw [lP.out]; omega)
  obtain ⟨gB, rfl, gB1, gB2⟩ := oB.at (by rw [lZ.out]; omega)
  clear oA oB oC sAB sAC sBC hn4 gW5 r4 G G_0 G_1 G_2 G_z
  refine (pick_l W1.heap.size (0 + 60) 20 _ r5 (by omega) (by omega) (by omega)).mono ?_
  rintro e w6 ⟨x, rfl, hx0, hx1, r6, x6⟩
  replace X0 := X0.rx x6 (by omega)
  replace N := N.grown x6 (fun k e => by injection e with e; omega)
  have h6 := h5.keptR x6 (fun k e => by injection e with e; omega)
  have z6 := x6.size
  clear x6 r5 h5 hx1
  have X0_0 := X0.cell (j := 0) rfl
  have X0_1 := X0.cell (j := 1) rfl
  have X0_2 := X0.cell (j := 2) rfl
  have X0_z := X0.lt
  have X0_f := X0.free
  have G := h6.bx
  rw [lP.out, lZ.out, lT.out] at G
  have G_0 := G.cell (j := 0) rfl
  have G_1 := G.cell (j := 1) rfl
  have G_2 := G.cell (j := 2) rfl
  have G_z := G.lt
  have G_f := G.free
  have hfin : ∀ (s' : SS) (C' : Option Addr) (cc' : Nat) (w' : World) (v : Value), s'.P.length = n → s'.Z.length = n → s'.T.length ≤ 23 → SB w' w3.heap.size w4.heap.size s' (some ⟨gA, 0, none⟩) ca4 (some ⟨gB, 0, none⟩) cb4 C' cc' → Nx w w' → v = St (some ⟨gA, 0, none⟩) n ca4 (some ⟨gB, 0, none⟩) n cb4 C' s'.T.length cc' →
      ∀ u0 u1 u2, SomeS id w (.returned v) (((w'.setCell ⟨w.heap.size, 0, none⟩ u0).setCell ⟨w.heap.size, 1, none⟩ u1).setCell ⟨w.heap.size, 2, none⟩ u2) := fun s' C' cc' w' v h1 h2 h3 h4 h5 h6 u0 u1 u2 =>
    ⟨s', n, h1, h2, hn1, hn16, h3, RetSS.of (((h4.far (by omega) (by omega) _).far (by omega) (by omega) _).far (by omega) (by omega) _) (by omega) (((h5.setCell (by simp) _).setCell (by simp) _).setCell (by simp) _) (by rw [h6, h1, h2])⟩
  have Hfin := Lib.hid hfin
  clear hfin
  have hcase : x = 0 ∨ x = 1 ∨ x = 2 ∨ x = 3 ∨ 4 ≤ x := by omega
  rcases hcase with rfl | rfl | rfl | rfl | hx4
  · go_wp2_with fail
    have hi6 : IntsAt (w6.alloc (.cells #[V (-1), V 0, V 1, V 16] 3)).drew (some ⟨w6.heap.size, 0, none⟩) [-1, 0, 1, 16] := (Bx.ints (Bx.alloc w6 3 [V (-1), V 0, V 1, V 16])).nx (.drew (.refl _))
    have rl6 := r6.lt
    have ngA := h6.ga gA rfl
    have ngB := h6.gb' gB rfl
    have H6 := Lib.hid h6
    clear h6
    go_region_held3 (fun w_ => w_.cell? ⟨w4.heap.size, 0, none⟩ = some (.slice (some ⟨gA, 0, none⟩) n ca4))
      (first | exact G_0 | exact c7 | exact c8 | exact (Nx.alloc (Nx.refl _) _).cell G_z G_0 | exact (Nx.drew (Nx.alloc (Nx.refl _) _)).cell G_z G_0 | exact (Nx.alloc (Nx.drew (Nx.refl _)) _).cell G_z G_0 | exact (Nx.drew (Nx.refl _)).cell G_z G_0 | exact (Nx.alloc (Nx.refl _) _).cell (Nat.lt_of_lt_of_le G_z x7.size) c7 | (first | (go_simp; done) | fail))
      (first
        | (go_at_call 80; (refine (num_l W1.heap.size (0 + 60 + 1 + 1) _ 4 [-1, 0, 1, 16] _ (r7.nx (by (repeat (first | exact Nx.refl _ | assumption | apply Nx.alloc | apply Nx.drew | apply Nx.drewN | (refine Nx.setCell ?_ (by first | (simp; done) | (simp; omega) | omega) _) | refine Nx.trans ?_ (by assumption))); done)) (by omega) (by first | exact hi8a | exact hi8b) (by simp) (by simp) (ne_br (by omega))).mono ?_); rintro e w8 ⟨v, rfl, hv, r8, x8'⟩; have x8 : Rx W1.heap.size w7 w8 := ((show Nx w7 _ from (by (repeat (first | exact Nx.refl _ | assumption | apply Nx.alloc | apply Nx.drew | apply Nx.drewN | (refine Nx.setCell ?_ (by first | (simp; done) | (simp; omega) | omega) _) | refine Nx.trans ?_ (by assumption))); done)).rx _).trans x8'; have h8 := H7.out.keptR x8 (fun k e => by injection e with e; omega); have c8 := World.grownBy.cell x8 c7 (by simp; omega); have k8 := h8.a.cell (k := y) (by rw [lP.out]; exact hy2); have f8 := h8.a.free)
        | (go_at_call 114; (with_reducible refine (pick_l W1.heap.size (0 + 60 + 1) n _ (r6.nx (by (repeat (first | exact Nx.refl _ | assumption | apply Nx.alloc | apply Nx.drew | apply Nx.drewN | (refine Nx.setCell ?_ (by first | (simp; done) | (simp; omega) | omega) _) | refine Nx.trans ?_ (by assumption))); done)) (by omega) (by omega) (by omega)).mono ?_); rintro e w7 ⟨y, rfl, hy0, hy1, r7, x7'⟩; have x7 : Rx W1.heap.size w6 w7 := ((show Nx w6 _ from (by (repeat (first | exact Nx.refl _ | assumption | apply Nx.alloc | apply Nx.drew | apply Nx.drewN | (refine Nx.setCell ?_ (by first | (simp; done) | (simp; omega) | omega) _) | refine Nx.trans ?_ (by assumption))); done)).rx _).trans x7'; (try have hi8a := IntsAt.kept hi6 x7' (.inr (by simp [blk]; omega))); have hi8b : IntsAt (w7.alloc (.cells #[V (-1), V 0, V 1, V 16] 3)) (some ⟨w7.heap.size, 0, none⟩) [-1, 0, 1, 16] := Bx.ints (Bx.alloc w7 3 [V (-1), V 0, V 1, V 16]); have rl7 := r7.lt; obtain ⟨y, rfl⟩ := Int.eq_ofNat_of_zero_le hy0; have hy2 : y < n := (by have := hy1 (by omega); omega); have H7 := Lib.hid (H6.out.keptR x7 (fun k e => by injection e with e; omega)); have c7 := World.grownBy.cell x7 G_0 (by simp; omega)))
    all_goals have N8 : Nx w w8 := (N.grown x7 (fun k e => by injection e with e; omega)).grown x8 (fun k e => by injection e with e; omega)
    all_goals have Y := (X0.rx x7 (by omega)).rx x8 (by omega)
    all_goals have Y_0 := Y.cell (j := 0) rfl
    all_goals have Y_1 := Y.cell (j := 1) rfl
    all_goals have Y_2 := Y.cell (j := 2) rfl
    all_goals have Y_z := Y.lt
    all_goals have Y_f := Y.free
    all_goals have K := h8.bx
    all_goals rw [lP.out, lZ.out, lT.out] at K
    all_goals have K_0 := K.cell (j := 0) rfl
    all_goals have K_1 := K.cell (j := 1) rfl
    all_goals have K_2 := K.cell (j := 2) rfl
    all_goals have K_z := K.lt
    all_goals clear X0 X0_0 X0_1 X0_2 X0_z X0_f G G_0 G_1 G_2 G_z G_f c7 c8 hi6 hi8b
    all_goals have H8 := Lib.hid h8
    all_goals have h9 := Lib.hid (h8.setP y v)
    all_goals clear h8
    all_goals go_wp2
    all_goals refine bodyPost_ret (v := id (St (some ⟨gA, 0, none⟩) n ca4 (some ⟨gB, 0, none⟩) n cb4 C4 l cc4)) (by simp [results, Try.f67, go_sem, *]) rfl ?_
    all_goals exact Hfin.out ⟨s.P.set y v, s.Z, s.T⟩ C4 cc4 (w8.setCell ⟨gA, y, none⟩ (V v)) _ (by simp [lP.out]) (by simp [lZ.out]) (by simp [lT.out]; omega) h9.out (N8.setCell (by simp; omega) _) (by simp [lT.out, id]) _ _ _
  · go_wp2_with fail
    have hi6 : IntsAt (w6.alloc (.cells #[V 0, V 1, V 2] 3)).drew (some ⟨w6.heap.size, 0, none⟩) [0, 1, 2] := (Bx.ints (Bx.alloc w6 3 [V 0, V 1, V 2])).nx (.drew (.refl _))
    have rl6 := r6.lt
    have ngA := h6.ga gA rfl
    have ngB := h6.gb' gB rfl
    have H6 := Lib.hid h6
    clear h6
    go_region_held3 (fun w_ => w_.cell? ⟨w4.heap.size, 1, none⟩ = some (.slice (some ⟨gB, 0, none⟩) n cb4))
      (first | exact G_1 | exact c7 | exact c8 | exact (Nx.alloc (Nx.refl _) _).cell G_z G_1 | exact (Nx.drew (Nx.alloc (Nx.refl _) _)).cell G_z G_1 | exact (Nx.alloc (Nx.drew (Nx.refl _)) _).cell G_z G_1 | exact (Nx.drew (Nx.refl _)).cell G_z G_1 | exact (Nx.alloc (Nx.refl _) _).cell (Nat.lt_of_lt_of_le G_z x7.size) c7 | (first | (go_simp; done) | fail))
      (first
        | (go_at_call 80; (refine (num_l W1.heap.size (0 + 60 + 1 + 1) _ 3 [0, 1, 2] _ (r7.nx (by (repeat (first | exact Nx.refl _ | assumption | apply Nx.alloc | apply Nx.drew | apply Nx.drewN | (refine Nx.setCell ?_ (by first | (simp; done) | (simp; omega) | omega) _) | refine Nx.trans ?_ (by assumption))); done)) (by omega) (by first | exact hi8a | exact hi8b) (by simp) (by simp) (ne_br (by omega))).mono ?_); rintro e w8 ⟨v, rfl, hv, r8, x8'⟩; have x8 : Rx W1.heap.size w7 w8 := ((show Nx w7 _ from (by (repeat (first | exact Nx.refl _ | assumption | apply Nx.alloc | apply Nx.drew | apply Nx.drewN | (refine Nx.setCell ?_ (by first | (simp; done) | (simp; omega) | omega) _) | refine Nx.trans ?_ (by assumption))); done)).rx _).trans x8'; have h8 := H7.out.keptR x8 (fun k e => by injection e with e; omega); have c8 := World.grownBy.cell x8 c7 (by simp; omega); have k8 := h8.b.cell (k := y) (by rw [lZ.out]; exact hy2); have f8 := h8.b.free)
        | (go_at_call 114; (with_reducible refine (pick_l W1.heap.size (0 + 60 + 1) n _ (r6.nx (by (repeat (first | exact Nx.refl _ | assumption | apply Nx.alloc | apply Nx.drew | apply Nx.drewN | (refine Nx.setCell ?_ (by first | (simp; done) | (simp; omega) | omega) _) | refine Nx.trans ?_ (by assumption))); done)) (by omega) (by omega) (by omega)).mono ?_); rintro e w7 ⟨y, rfl, hy0, hy1, r7, x7'⟩; have x7 : Rx W1.heap.size w6 w7 := ((show Nx w6 _ from (by (repeat (first | exact Nx.refl _ | assumption | apply Nx.alloc | apply Nx.drew | apply Nx.drewN | (refine Nx.setCell ?_ (by first | (simp; done) | (simp; omega) | omega) _) | refine Nx.trans ?_ (by assumption))); done)).rx _).trans x7'; (try have hi8a := IntsAt.kept hi6 x7' (.inr (by simp [blk]; omega))); have hi8b : IntsAt (w7.alloc (.cells #[V 0, V 1, V 2] 3)) (some ⟨w7.heap.size, 0, none⟩) [0, 1, 2] := Bx.ints (Bx.alloc w7 3 [V 0, V 1, V 2]); have rl7 := r7.lt; obtain ⟨y, rfl⟩ := Int.eq_ofNat_of_zero_le hy0; have hy2 : y < n := (by have := hy1 (by omega); omega); have H7 := Lib.hid (H6.out.keptR x7 (fun k e => by injection e with e; omega)); have c7 := World.grownBy.cell x7 G_1 (by simp; omega)))
    all_goals have N8 : Nx w w8 := (N.grown x7 (fun k e => by injection e with e; omega)).grown x8 (fun k e => by injection e with e; omega)
    all_goals have Y := (X0.rx x7 (by omega)).rx x8 (by omega)
    all_goals have Y_0 := Y.cell (j := 0) rfl
    all_goals have Y_1 := Y.cell (j := 1) rfl
    all_goals have Y_2 := Y.cell (j := 2) rfl
    all_goals have Y_z := Y.lt
    all_goals have Y_f := Y.free
    all_goals have K := h8.bx
    all_goals rw [lP.out, lZ.out, lT.out] at K
    all_goals have K_0 := K.cell (j := 0) rfl
    all_goals have K_1 := K.cell (j := 1) rfl
    all_goals have K_2 := K.cell (j := 2) rfl
    all_goals have K_z := K.lt
    all_goals clear X0 X0_0 X0_1 X0_2 X0_z X0_f G G_0 G_1 G_2 G_z G_f c7 c8 hi6 hi8b
    all_goals have H8 := Lib.hid h8
    all_goals have h9 := Lib.hid (h8.setZ y v)
    all_goals clear h8
    all_goals go_wp2
    all_goals refine bodyPost_ret (v := id (St (some ⟨gA, 0, none⟩) n ca4 (some ⟨gB, 0, none⟩) n cb4 C4 l cc4)) (by simp [results, Try.f67, go_sem, *]) rfl ?_
    all_goals exact Hfin.out ⟨s.P, s.Z.set y v, s.T⟩ C4 cc4 (w8.setCell ⟨gB, y, none⟩ (V v)) _ (by simp [lP.out]) (by simp [lZ.out]) (by simp [lT.out]; omega) h9.out (N8.setCell (by simp; omega) _) (by simp [lT.out, id]) _ _ _
  · by_cases hl0 : l = 0
    · have d : decide (0 < (l : Int)) = false := by simp; omega
      have hl0' : (l : Int) ≤ 0 := by omega
      clear hl0
      have H6 := Lib.hid h6
      clear h6
      go_wp2
      refine bodyPost_ret (v := id (St (some ⟨gA, 0, none⟩) n ca4 (some ⟨gB, 0, none⟩) n cb4 C4 l cc4)) (by simp [results, Try.f67, go_sem, *]) rfl ?_
      exact Hfin.out s C4 cc4 w6 _ lP.out lZ.out (by rw [lT.out]; omega) H6.out N (by simp [lT.out, id]) _ _ _
    · have hl0' : 0 < (l : Int) := by omega
      obtain ⟨j, rfl⟩ : ∃ j, l = j + 1 := ⟨l - 1, by omega⟩
      obtain ⟨T, t, hTt⟩ : ∃ T t, s.T = T ++ [t] := ⟨s.T.dropLast, s.T.getLast (by intro h; have := lT.out; rw [h] at this; simp at this), (List.dropLast_concat_getLast _).symm⟩
      have hTl : T.length = j := by have := lT.out; rw [hTt] at this; simpa using this
      have hc4 : j + 1 ≤ cc4 := by have := h6.c.cap; rw [lT.out] at this; exact this
      have H7 := Lib.hid (h6.cutE hTt)
      have HTl := Lib.hid hTl
      have ngA := h6.ga gA rfl
      have ngB := h6.gb' gB rfl
      clear hl0 hTt hTl h6
      go_wp2
      refine bodyPost_ret (v := id (St (some ⟨gA, 0, none⟩) n ca4 (some ⟨gB, 0, none⟩) n cb4 C4 j cc4)) (by simp [results, Try.f67, go_sem, *]) rfl ?_
      have h7 := H7.out
      rw [HTl.out] at h7
      exact Hfin.out ⟨s.P, s.Z, T⟩ C4 cc4 _ _ lP.out lZ.out (by simp only [HTl.out]; omega) h7 (N.setCell (by simp; omega) _) (by simp [HTl.out, id]) _ _ _
  · by_cases hl0 : l = 0
    · have d : decide (0 < (l : Int)) = false := by simp; omega
      have hl0' : (l : Int) ≤ 0 := by omega
      clear hl0
      have H6 := Lib.hid h6
      clear h6
      go_wp2
      refine bodyPost_ret (v := id (St (some ⟨gA, 0, none⟩) n ca4 (some ⟨gB, 0, none⟩) n cb4 C4 l cc4)) (by simp [results, Try.f67, go_sem, *]) rfl ?_
      exact Hfin.out s C4 cc4 w6 _ lP.out lZ.out (by rw [lT.out]; omega) H6.out N (by simp [lT.out, id]) _ _ _
    · have hl0' : 0 < (l : Int) := by omega
      obtain ⟨gC, rfl, gC1, gC2⟩ := h6.c.at (by rw [lT.out]; omega)
      clear hl0
      go_wp2_with fail
      have hi6 : IntsAt (w6.alloc (.cells #[V 0, V (-1), V 16] 3)).drew (some ⟨w6.heap.size, 0, none⟩) [0, -1, 16] := (Bx.ints (Bx.alloc w6 3 [V 0, V (-1), V 16])).nx (.drew (.refl _))
      have rl6 := r6.lt
      have ngA := h6.ga gA rfl
      have ngB := h6.gb' gB rfl
      have ngC := h6.gc gC rfl
      have gC1 := (h6.c.lt gC rfl).1
      have H6 := Lib.hid h6
      clear h6
      go_region_held3 (fun w_ => w_.cell? ⟨w4.heap.size, 2, none⟩ = some (.slice (some ⟨gC, 0, none⟩) l cc4))
        (first | exact G_2 | exact c7 | exact c8 | exact (Nx.alloc (Nx.refl _) _).cell G_z G_2 | exact (Nx.drew (Nx.alloc (Nx.refl _) _)).cell G_z G_2 | exact (Nx.alloc (Nx.drew (Nx.refl _)) _).cell G_z G_2 | exact (Nx.drew (Nx.refl _)).cell G_z G_2 | exact (Nx.alloc (Nx.refl _) _).cell (Nat.lt_of_lt_of_le G_z x7.size) c7 | (first | (go_simp; done) | fail))
        (first
          | (go_at_call 80; (refine (num_l W1.heap.size (0 + 60 + 1 + 1) _ 3 [0, -1, 16] _ (r7.nx (by (repeat (first | exact Nx.refl _ | assumption | apply Nx.alloc | apply Nx.drew | apply Nx.drewN | (refine Nx.setCell ?_ (by first | (simp; done) | (simp; omega) | omega) _) | refine Nx.trans ?_ (by assumption))); done)) (by omega) (by first | exact hi8a | exact hi8b) (by simp) (by simp) (ne_br (by omega))).mono ?_); rintro e w8 ⟨v, rfl, hv, r8, x8'⟩; have x8 : Rx W1.heap.size w7 w8 := ((show Nx w7 _ from (by (repeat (first | exact Nx.refl _ | assumption | apply Nx.alloc | apply Nx.drew | apply Nx.drewN | (refine Nx.setCell ?_ (by first | (simp; done) | (simp; omega) | omega) _) | refine Nx.trans ?_ (by assumption))); done)).rx _).trans x8'; have h8 := H7.out.keptR x8 (fun k e => by injection e with e; omega); have c8 := World.grownBy.cell x8 c7 (by simp; omega); have k8 := (h8.c.cell (k := y) (by rw [lT.out]; exact hy2)).2; have f8 := h8.c.free)
          | (go_at_call 114; (with_reducible refine (pick_l W1.heap.size (0 + 60 + 1) l _ (r6.nx (by (repeat (first | exact Nx.refl _ | assumption | apply Nx.alloc | apply Nx.drew | apply Nx.drewN | (refine Nx.setCell ?_ (by first | (simp; done) | (simp; omega) | omega) _) | refine Nx.trans ?_ (by assumption))); done)) (by omega) (by omega) (by omega)).mono ?_); rintro e w7 ⟨y, rfl, hy0, hy1, r7, x7'⟩; have x7 : Rx W1.heap.size w6 w7 := ((show Nx w6 _ from (by (repeat (first | exact Nx.refl _ | assumption | apply Nx.alloc | apply Nx.drew | apply Nx.drewN | (refine Nx.setCell ?_ (by first | (simp; done) | (simp; omega) | omega) _) | refine Nx.trans ?_ (by assumption))); done)).rx _).trans x7'; (try have hi8a := IntsAt.kept hi6 x7' (.inr (by simp [blk]; omega))); have hi8b : IntsAt (w7.alloc (.cells #[V 0, V (-1), V 16] 3)) (some ⟨w7.heap.size, 0, none⟩) [0, -1, 16] := Bx.ints (Bx.alloc w7 3 [V 0, V (-1), V 16]); have rl7 := r7.lt; obtain ⟨y, rfl⟩ := Int.eq_ofNat_of_zero_le hy0; have hy2 : y < l := (by have := hy1 (by omega); omega); have H7 := Lib.hid (H6.out.keptR x7 (fun k e => by injection e with e; omega)); have c7 := World.grownBy.cell x7 G_2 (by simp; omega)))
      all_goals have N8 : Nx w w8 := (N.grown x7 (fun k e => by injection e with e; omega)).grown x8 (fun k e => by injection e with e; omega)
      all_goals have Y := (X0.rx x7 (by omega)).rx x8 (by omega)
      all_goals have Y_0 := Y.cell (j := 0) rfl
      all_goals have Y_1 := Y.cell (j := 1) rfl
      all_goals have Y_2 := Y.cell (j := 2) rfl
      all_goals have Y_z := Y.lt
      all_goals have Y_f := Y.free
      all_goals have K := h8.bx
      all_goals rw [lP.out, lZ.out, lT.out] at K
      all_goals have K_0 := K.cell (j := 0) rfl
      all_goals have K_1 := K.cell (j := 1) rfl
      all_goals have K_2 := K.cell (j := 2) rfl
      all_goals have K_z := K.lt
      all_goals clear X0 X0_0 X0_1 X0_2 X0_z X0_f G G_0 G_1 G_2 G_z G_f c7 c8 hi6 hi8b
      all_goals have H8 := Lib.hid h8
      all_goals have h9 := Lib.hid (h8.setR y (by rw [lT.out]; exact hy2) v)
      all_goals clear h8
      all_goals go_wp2
      all_goals refine bodyPost_ret (v := id (St (some ⟨gA, 0, none⟩) n ca4 (some ⟨gB, 0, none⟩) n cb4 (some ⟨gC, 0, none⟩) l cc4)) (by simp [results, Try.f67, go_sem, *]) rfl ?_
      all_goals exact Hfin.out ⟨s.P, s.Z, s.T.set y ((s.T[y]'(by rw [lT.out]; exact hy2)).1, v)⟩ (some ⟨gC, 0, none⟩) cc4 (w8.setCell ⟨gC, y * 2 + 1, none⟩ (V v)) _ (by simp [lP.out]) (by simp [lZ.out]) (by simp [lT.out]; omega) h9.out (N8.setCell (by simp; omega) _) (by simp [lT.out, id]) _ _ _
  · have d0 : (x == 0) = false := by simp; omega
    have d1 : (x == 1) = false := by simp; omega
    have d2 : (x == 2) = false := by simp; omega
    have d3 : (x == 3) = false := by simp; omega
    have H6 := Lib.hid h6
    clear h6
    go_wp2
    refine bodyPost_ret (v := id (St (some ⟨gA, 0, none⟩) n ca4 (some ⟨gB, 0, none⟩) n cb4 C4 l cc4)) (by simp [results, Try.f67, go_sem, *]) rfl ?_
    exact Hfin.out s C4 cc4 w6 _ lP.out lZ.out (by rw [lT.out]; omega) H6.out N (by simp [lT.out, id]) _ _ _
end Go.Proofs.Yticjoichmcegnaa
