/- Contract: DrawSameBlock: some graph and two edges. -/
import Derived.Test.YticjoichmcegnaaY13
import Derived.Test.YticjoichmcegnaaY11
namespace Go.Proofs.Yticjoichmcegnaa
open Go.RowKit set_option linter.unusedVariables false set_option linter.unusedSimpArgs false
attribute [local go_sem ↓] Go.wp_at_zero Go.wp_at_succ

/-- some graph in a row of the call's own, and two edges -/
def SomeGEE (m : Nat) (w : World) (e : Ending) (w' : World) : Prop :=
  ∃ (nn : Int) (A : Option Addr) (c : Nat) (es : Es) (u v x y : Int), e = .returned (.tuple #[.agg #[V nn, .slice A es.length c], Ed u v, Ed x y]) ∧ 0 ≤ nn ∧ nn ≤ 17 ∧ es.length ≤ m ∧ OwnE w' w.heap.size 31 A c es ∧ Nx w w'

theorem SomeGEE.drew {m : Nat} {w w' : World} {e : Ending} (h : SomeGEE m w e w') : SomeGEE m w e w'.drew := by
  obtain ⟨nn, A, c, es, u, v, x, y, h1, h2, h3, h4, h5, h6⟩ := h
  exact ⟨nn, A, c, es, u, v, x, y, h1, h2, h3, h4, h5.nx (.drew (.refl _)), h6.drew⟩
theorem ints3' {w : World} {b : Nat} {x y z : Int} (hb : b < w.heap.size) (h0 : w.cell? ⟨b, 0, none⟩ = some (V x)) (h1 : w.cell? ⟨b, 1, none⟩ = some (V y)) (h2 : w.cell? ⟨b, 2, none⟩ = some (V z)) : IntsAt w (some ⟨b, 0, none⟩) [x, y, z] := fun _ =>
  ⟨b, 0, rfl, hb, fun k hk => by
    match k, hk with
    | 0, _ => simpa using h0
    | 1, _ => simpa using h1
    | 2, _ => simpa using h2
    | (k + 3), hk => simp at hk; omega⟩

set_option maxRecDepth 100000 in
set_option maxHeartbeats 8000000 in
theorem drawSameBlock_c (A : Option Addr) (n c : Nat) (w : World) (hnc : n ≤ c) (hb : BytesAt w w.heap.size A n) :
    Calls Try.prog 52 #[.slice A n c] w (SomeGEE 24 w) := by
  go_enter Try.func52, Try.ntmps52
  go_wp2_with fail
  generalize hW1 : World.alloc _ _ = W1
  have gW1 : Nx w W1 := by subst hW1; exact (by repeat (first | exact Nx.refl _ | assumption | apply Nx.alloc | apply Nx.drew | apply Nx.drewN | (refine Nx.setCell ?_ (by first | (simp; done) | (simp; omega) | omega) _) | refine Nx.trans ?_ (by assumption)))
  have sW1 : W1.heap.size = w.heap.size + 3 := by subst hW1; simp
  have X0 : Bx W1 (w.heap.size) 25 [V 0, .slice none 0 0] := by subst hW1; have h := Bx.alloc w 25 [V 0, .slice none 0 0]; have h := h.nx (Nx.alloc (Nx.refl _) (.cells #[V 0, V 0] 31)); have h := h.nx (Nx.alloc (Nx.refl _) (.cells #[V 0, V 0] 31)); simpa using h
  have X1 : Bx W1 (w.heap.size + 1) 31 [V 0, V 0] := by subst hW1; have h := Bx.alloc (w.alloc (.cells #[V 0, .slice none 0 0] 25)) 31 [V 0, V 0]; have h := h.nx (Nx.alloc (Nx.refl _) (.cells #[V 0, V 0] 31)); simpa using h
  have X2 : Bx W1 (w.heap.size + 2) 31 [V 0, V 0] := by subst hW1; have h := Bx.alloc ((w.alloc (.cells #[V 0, .slice none 0 0] 25)).alloc (.cells #[V 0, V 0] 31)) 31 [V 0, V 0]; simpa using h
  have X0_0 := X0.cell (j := 0) rfl
  have X0_1 := X0.cell (j := 1) rfl
  have X0_z := X0.lt
  have X1_0 := X1.cell (j := 0) rfl
  have X1_1 := X1.cell (j := 1) rfl
  have X1_z := X1.lt
  have X2_0 := X2.cell (j := 0) rfl
  have X2_1 := X2.cell (j := 1) rfl
  have X2_z := X2.lt
  have HsW1 := Lib.hid sW1
  have lW1 : w.heap.size + 3 ≤ W1.heap.size := by omega
  clear hW1 sW1
  refine (open_l A n c _ hnc (hb.nx gW1 (by omega))).mono ?_
  rintro e w2 ⟨rfl, r2, hn2⟩
  replace X0 := X0.nx hn2
  replace X1 := X1.nx hn2
  replace X2 := X2.nx hn2
  have hr0 := hn2.size
  clear X0_0 X0_1 X0_z X1_0 X1_1 X1_z X2_0 X2_1 X2_z hb
  go_wp2_with fail
  refine (l5Small_c W1.heap.size 0 _ r2 (by omega) (by omega)).mono ?_
  rintro e w3 ⟨nn, B, d, es, rfl, h6a, h6b, hl, ho3, r3, x3⟩
  replace X0 := X0.rx x3 (by omega)
  replace X1 := X1.rx x3 (by omega)
  replace X2 := X2.rx x3 (by omega)
  have hn3 : Nx W1 w3 := Rx.nx hn2 x3 (Nat.le_refl _)
  have hz3 := x3.size
  have hrl := r2.lt
  clear r2 x3 hn2
  go_upto_region 3 with fail
  generalize hW4 : World.alloc w3 _ = W4
  have z4 : W4.heap.size = w3.heap.size + 1 := by subst hW4; simp
  have n4 : Nx w3 W4 := by subst hW4; exact (by repeat (first | exact Nx.refl _ | assumption | apply Nx.alloc | apply Nx.drew | apply Nx.drewN | (refine Nx.setCell ?_ (by first | (simp; done) | (simp; omega) | omega) _) | refine Nx.trans ?_ (by assumption)))
  have G : Bx W4 w3.heap.size 25 [V nn, .slice B es.length d] := by subst hW4; exact Bx.alloc w3 25 [V nn, .slice B es.length d]
  have z4' : w3.heap.size + 1 ≤ W4.heap.size := by omega
  replace X0 := X0.nx n4
  replace X1 := X1.nx n4
  replace X2 := X2.nx n4
  have o4 := (ho3.mono (base' := W1.heap.size) (by omega)).nx n4
  have r4 := r3.nx n4
  have hn4 : Nx W1 W4 := hn3.trans n4
  have c0 := G.cell (j := 0) rfl
  have c1 := G.cell (j := 1) rfl
  have gz := G.lt
  have hBlt : ∀ j, blk B = some j → w2.heap.size ≤ j ∧ j < w3.heap.size := fun j hj => ho3.lt j hj
  clear hW4 z4 n4 ho3 r3 hn3
  have hfin : ∀ (u v x y : Int) (w' : World), OwnE w' W1.heap.size 31 B d es → Nx W1 w' →
      SomeGEE 24 w (.returned (.tuple #[.agg #[V nn, .slice B es.length d], Ed u v, Ed x y])) ((((((w'.setCell ⟨w.heap.size, 0, none⟩ (V nn)).setCell ⟨w.heap.size, 1, none⟩ (.slice B es.length d)).setCell ⟨w.heap.size + 1, 0, none⟩ (V u)).setCell ⟨w.heap.size + 1, 1, none⟩ (V v)).setCell ⟨w.heap.size + 2, 0, none⟩ (V x)).setCell ⟨w.heap.size + 2, 1, none⟩ (V y)) := fun u v x y w' h3 h4 =>
    ⟨nn, B, d, es, u, v, x, y, rfl, h6a, h6b, hl, ((((((h3.far (by simp; omega) _).far (by simp; omega) _).far (by simp; omega) _).far (by simp; omega) _).far (by simp; omega) _).far (by simp; omega) _).mono (by omega), ((((((gW1.trans h4).setCell (by simp) _).setCell (by simp) _).setCell (by simp) _).setCell (by simp) _).setCell (by simp) _).setCell (by simp) _⟩
  have Hfin := Lib.hid hfin
  clear hfin
  by_cases hl0 : es.length = 0
  · have hl1 : ((es.length : Int) == 0) = true := by simp [hl0]
    have p0 := X0.cell (j := 0) rfl
    have p1 := X0.cell (j := 1) rfl
    have pf := X0.free
    have q0 := X1.cell (j := 0) rfl
    have q1 := X1.cell (j := 1) rfl
    have qf := X1.free
    have s0 := X2.cell (j := 0) rfl
    have s1 := X2.cell (j := 1) rfl
    have sf := X2.free
    clear hl0
    go_wp2
    refine bodyPost_ret (v := .tuple #[.agg #[V nn, .slice B es.length d], Ed 0 1, Ed 0 1]) (by simp [results, Try.f52, go_sem, *]) rfl ?_
    exact Hfin.out 0 1 0 1 W4 o4 hn4
  · have hl1 : ((es.length : Int) == 0) = false := by simp; intro h; apply hl0; rw [h]; rfl
    have hl2 : 0 < es.length := by omega
    obtain ⟨g, rfl, hg1, hg2⟩ := o4.at hl2
    have hg3 := (hBlt g rfl).1
    have oc : ∀ j (h : j < es.length), W4.cell? ⟨g, j * 2, none⟩ = some (V es[j].1) ∧ W4.cell? ⟨g, j * 2 + 1, none⟩ = some (V es[j].2) := fun j h => o4.cell h
    clear hl0
    go_wp2_with fail
    go_upto_region 5 with (fail)
    go_cut [7] from 9 (fun s7 wc => ∃ (be : Nat) (x y : Int), s7 = .pointer (some ⟨be, 0, none⟩) ∧ RdL wc W1.heap.size (0 + 66 + 1) ∧ Rx W1.heap.size W4 wc ∧ W4.heap.size ≤ be ∧ be < wc.heap.size ∧ wc.cell? ⟨be, 0, none⟩ = some (V x) ∧ wc.cell? ⟨be, 1, none⟩ = some (V y))
    case first =>
      have hne : W4.heap.size ≠ W1.heap.size := by omega
      have kp : ∀ w', Rx W1.heap.size W4 w' → (fun w_ => Rx W1.heap.size W4 w_ ∧ w_.cell? ⟨w3.heap.size, 1, none⟩ = some (.slice (some ⟨g, 0, none⟩) es.length d) ∧ ∀ (j : Nat) (h : j < es.length), w_.cell? ⟨g, j * 2, none⟩ = some (V es[j].1) ∧ w_.cell? ⟨g, j * 2 + 1, none⟩ = some (V es[j].2)) w' :=
        fun w' h => ⟨h, World.grownBy.cell h c1 (by simp; omega), fun j hj => ⟨World.grownBy.cell h (oc j hj).1 (by simp; omega), World.grownBy.cell h (oc j hj).2 (by simp; omega)⟩⟩
      go_region_held3 (fun w_ => Rx W1.heap.size W4 w_ ∧ w_.cell? ⟨w3.heap.size, 1, none⟩ = some (.slice (some ⟨g, 0, none⟩) es.length d) ∧ ∀ (j : Nat) (h : j < es.length), w_.cell? ⟨g, j * 2, none⟩ = some (V es[j].1) ∧ w_.cell? ⟨g, j * 2 + 1, none⟩ = some (V es[j].2))
        (first
          | exact kp _ x5
          | (refine kp _ (Nx.rx (?_ : Nx W4 _) _); (repeat (first | exact Nx.refl _ | assumption | apply Nx.alloc | apply Nx.drew | apply Nx.drewN | (refine Nx.setCell ?_ (by first | (simp; done) | (simp; omega) | omega) _) | refine Nx.trans ?_ (by assumption))); done)
          | (refine kp _ (x5.trans (Nx.rx (?_ : Nx w5 _) _)); (repeat (first | exact Nx.refl _ | assumption | apply Nx.alloc | apply Nx.drew | apply Nx.drewN | (refine Nx.setCell ?_ (by first | (simp; done) | (simp; omega) | omega) _) | refine Nx.trans ?_ (by assumption))); done)
          | (refine kp _ (x5.past (grown_setCell _ _ _ _) (fun j e => ?_)); injection e with e; first | omega | (simp at e; omega); done)
          | (refine kp _ ((x5.past (grown_setCell _ _ _ _) (fun j e => ?_)).past (grown_setCell _ _ _ _) (fun j e => ?_)) <;> (injection e with e; first | omega | (simp at e; omega)); done))
        (first
          | (go_at_call 114; (with_reducible refine (pick_l W1.heap.size (0 + 66) es.length _ (r4.nx (by (repeat (first | exact Nx.refl _ | assumption | apply Nx.alloc | apply Nx.drew | apply Nx.drewN | (refine Nx.setCell ?_ (by first | (simp; done) | (simp; omega) | omega) _) | refine Nx.trans ?_ (by assumption))); done)) (by omega) (by omega) (by omega)).mono ?_); rintro e w5 ⟨k, rfl, hk0, hk1, r5, x5'⟩; have x5 : Rx W1.heap.size W4 w5 := ((show Nx W4 _ from (by (repeat (first | exact Nx.refl _ | assumption | apply Nx.alloc | apply Nx.drew | apply Nx.drewN | (refine Nx.setCell ?_ (by first | (simp; done) | (simp; omega) | omega) _) | refine Nx.trans ?_ (by assumption))); done)).rx _).trans x5'; have hz5 := x5'.size; (try simp [size_drew_] at hz5); obtain ⟨hcx, hfx, hzx⟩ := x5'.rules; (try simp [size_drew_] at hzx); obtain ⟨k, rfl⟩ := Int.eq_ofNat_of_zero_le hk0; have hki := hk1 (by omega); have hkl : k < es.length := (by omega)))
      all_goals go_wp2
      all_goals go_meet
      all_goals refine ⟨_, es[k].1, es[k].2, rfl, ?_, ?_, ?_, ?_, ?_, ?_⟩
      all_goals first
        | (go_simp; done)
        | (simp; done)
        | omega
        | (simp; omega)
        | (simp [size_drew_, size_set_]; done)
        | (simp [size_drew_, size_set_]; omega)
        | (refine r5.nx ?_; (repeat (first | exact Nx.refl _ | assumption | apply Nx.alloc | apply Nx.drew | apply Nx.drewN | (refine Nx.setCell ?_ (by first | (simp; done) | (simp; omega) | omega) _) | refine Nx.trans ?_ (by assumption))); done)
        | exact (r5.kept (grown_setCell _ _ _ _) (fun j e => by injection e with e; first | omega | (simp at e; omega) | (simp [size_drew_] at e; omega))).kept (grown_setCell _ _ _ _) (fun j e => by injection e with e; first | omega | (simp at e; omega) | (simp [size_drew_] at e; omega))
        | (refine x5.trans (Nx.rx (?_ : Nx w5 _) _); (repeat (first | exact Nx.refl _ | assumption | apply Nx.alloc | apply Nx.drew | apply Nx.drewN | (refine Nx.setCell ?_ (by first | (simp; done) | (simp; omega) | omega) _) | refine Nx.trans ?_ (by assumption))); done)
        | exact (x5.past (grown_setCell _ _ _ _) (fun j e => by injection e with e; first | omega | (simp at e; omega) | (simp [size_drew_] at e; omega))).past (grown_setCell _ _ _ _) (fun j e => by injection e with e; first | omega | (simp at e; omega) | (simp [size_drew_] at e; omega))
    obtain ⟨be, u, v, rfl, r5, x5, hbe, hbz, e0, e1⟩ := hcut
    obtain ⟨W5, hW5⟩ : ∃ v, v = wc := ⟨_, rfl⟩
    subst hW5
    replace X0 := X0.rx x5 (by omega)
    replace X1 := X1.rx x5 (by omega)
    replace X2 := X2.rx x5 (by omega)
    replace G := G.rx x5 (by omega)
    replace o4 := o4.kept x5 (.inr (by simp [blk]; omega))
    replace hn4 : Nx W1 W5 := Rx.nx hn4 x5 (Nat.le_refl _)
    have hz45 := x5.size
    have c0 := G.cell (j := 0) rfl
    have c1 := G.cell (j := 1) rfl
    have gz := G.lt
    have oc : ∀ j (h : j < es.length), W5.cell? ⟨g, j * 2, none⟩ = some (V es[j].1) ∧ W5.cell? ⟨g, j * 2 + 1, none⟩ = some (V es[j].2) := fun j h => o4.cell h
    have hbr : be ≠ W1.heap.size := by omega
    have hlw : W1.heap.size < W5.heap.size := by omega
    clear r4 x5
    go_upto_region 6 with (fail)
    go_cut [8] from 9 (fun s8 wc => ∃ (be : Nat) (x y : Int), s8 = .pointer (some ⟨be, 0, none⟩) ∧ RdL wc W1.heap.size (0 + 66 + 1 + 1) ∧ Rx W1.heap.size W5 wc ∧ W5.heap.size ≤ be ∧ be < wc.heap.size ∧ wc.cell? ⟨be, 0, none⟩ = some (V x) ∧ wc.cell? ⟨be, 1, none⟩ = some (V y) ∧ ∀ j, wc.frozen? ⟨be, j, none⟩ = false)
    case first =>
      have hne : W5.heap.size ≠ W1.heap.size := by omega
      have kp : ∀ w', Rx W1.heap.size W5 w' → (fun w_ => Rx W1.heap.size W5 w_ ∧ w_.cell? ⟨w3.heap.size, 1, none⟩ = some (.slice (some ⟨g, 0, none⟩) es.length d) ∧ ∀ (j : Nat) (h : j < es.length), w_.cell? ⟨g, j * 2, none⟩ = some (V es[j].1) ∧ w_.cell? ⟨g, j * 2 + 1, none⟩ = some (V es[j].2)) w' :=
        fun w' h => ⟨h, World.grownBy.cell h c1 (by simp; omega), fun j hj => ⟨World.grownBy.cell h (oc j hj).1 (by simp; omega), World.grownBy.cell h (oc j hj).2 (by simp; omega)⟩⟩
      go_region_held3 (fun w_ => Rx W1.heap.size W5 w_ ∧ w_.cell? ⟨w3.heap.size, 1, none⟩ = some (.slice (some ⟨g, 0, none⟩) es.length d) ∧ ∀ (j : Nat) (h : j < es.length), w_.cell? ⟨g, j * 2, none⟩ = some (V es[j].1) ∧ w_.cell? ⟨g, j * 2 + 1, none⟩ = some (V es[j].2))
        (first
          | exact kp _ y6
          | (refine kp _ (Nx.rx (?_ : Nx W5 _) _); (repeat (first | exact Nx.refl _ | assumption | apply Nx.alloc | apply Nx.drew | apply Nx.drewN | (refine Nx.setCell ?_ (by first | (simp; done) | (simp; omega) | omega) _) | refine Nx.trans ?_ (by assumption))); done)
          | (refine kp _ (y6.trans (Nx.rx (?_ : Nx w6 _) _)); (repeat (first | exact Nx.refl _ | assumption | apply Nx.alloc | apply Nx.drew | apply Nx.drewN | (refine Nx.setCell ?_ (by first | (simp; done) | (simp; omega) | omega) _) | refine Nx.trans ?_ (by assumption))); done)
          | (refine kp _ (y6.past (grown_setCell _ _ _ _) (fun j e => ?_)); injection e with e; first | omega | (simp at e; omega); done)
          | (refine kp _ ((y6.past (grown_setCell _ _ _ _) (fun j e => ?_)).past (grown_setCell _ _ _ _) (fun j e => ?_)) <;> (injection e with e; first | omega | (simp at e; omega)); done))
        (first
          | (go_at_call 114; (with_reducible refine (pick_l W1.heap.size (0 + 66 + 1) es.length _ (r5.nx (by (repeat (first | exact Nx.refl _ | assumption | apply Nx.alloc | apply Nx.drew | apply Nx.drewN | (refine Nx.setCell ?_ (by first | (simp; done) | (simp; omega) | omega) _) | refine Nx.trans ?_ (by assumption))); done)) (by omega) (by omega) (by omega)).mono ?_); rintro e w6 ⟨k, rfl, hk0, hk1, r6, y6'⟩; have y6 : Rx W1.heap.size W5 w6 := ((show Nx W5 _ from (by (repeat (first | exact Nx.refl _ | assumption | apply Nx.alloc | apply Nx.drew | apply Nx.drewN | (refine Nx.setCell ?_ (by first | (simp; done) | (simp; omega) | omega) _) | refine Nx.trans ?_ (by assumption))); done)).rx _).trans y6'; have hz6 := y6'.size; (try simp [size_drew_] at hz6); obtain ⟨hcx, hfx, hzx⟩ := y6'.rules; (try simp [size_drew_] at hzx); obtain ⟨k, rfl⟩ := Int.eq_ofNat_of_zero_le hk0; have hki := hk1 (by omega); have hkl : k < es.length := (by omega)))
      all_goals go_wp2
      all_goals go_meet
      all_goals refine ⟨_, es[k].1, es[k].2, rfl, ?_, ?_, ?_, ?_, ?_, ?_, ?_⟩
      all_goals first
        | (go_simp; done)
        | (intro j; go_simp; done)
        | (simp; done)
        | omega
        | (simp; omega)
        | (simp [size_drew_, size_set_]; done)
        | (simp [size_drew_, size_set_]; omega)
        | (refine r6.nx ?_; (repeat (first | exact Nx.refl _ | assumption | apply Nx.alloc | apply Nx.drew | apply Nx.drewN | (refine Nx.setCell ?_ (by first | (simp; done) | (simp; omega) | omega) _) | refine Nx.trans ?_ (by assumption))); done)
        | exact (r6.kept (grown_setCell _ _ _ _) (fun j e => by injection e with e; first | omega | (simp at e; omega) | (simp [size_drew_] at e; omega))).kept (grown_setCell _ _ _ _) (fun j e => by injection e with e; first | omega | (simp at e; omega) | (simp [size_drew_] at e; omega))
        | (refine y6.trans (Nx.rx (?_ : Nx w6 _) _); (repeat (first | exact Nx.refl _ | assumption | apply Nx.alloc | apply Nx.drew | apply Nx.drewN | (refine Nx.setCell ?_ (by first | (simp; done) | (simp; omega) | omega) _) | refine Nx.trans ?_ (by assumption))); done)
        | exact (y6.past (grown_setCell _ _ _ _) (fun j e => by injection e with e; first | omega | (simp at e; omega) | (simp [size_drew_] at e; omega))).past (grown_setCell _ _ _ _) (fun j e => by injection e with e; first | omega | (simp at e; omega) | (simp [size_drew_] at e; omega))
    obtain ⟨bf, x, y, rfl, r6, x6, hbf, hbfz, f0, f1, ff⟩ := hcut
    obtain ⟨W6, hW6⟩ : ∃ v, v = wc := ⟨_, rfl⟩
    subst hW6
    replace X0 := X0.rx x6 (by omega)
    replace X1 := X1.rx x6 (by omega)
    replace X2 := X2.rx x6 (by omega)
    replace G := G.rx x6 (by omega)
    replace o4 := o4.kept x6 (.inr (by simp [blk]; omega))
    replace hn4 : Nx W1 W6 := Rx.nx hn4 x6 (Nat.le_refl _)
    replace e0 := World.grownBy.cell x6 e0 (by simp; omega)
    replace e1 := World.grownBy.cell x6 e1 (by simp; omega)
    have hz56 := x6.size
    have hbz6 : be < W6.heap.size := by omega
    clear r5 x6 oc c0 c1 gz
    go_wp2_with fail
    refine (pick_l W1.heap.size (0 + 66 + 1 + 1) 12 _ r6 (by omega) (by omega) (by omega)).mono ?_
    rintro e w7 ⟨z, rfl, hz0, _, r7, x7⟩
    replace X0 := X0.rx x7 (by omega)
    replace X1 := X1.rx x7 (by omega)
    replace X2 := X2.rx x7 (by omega)
    replace G := G.rx x7 (by omega)
    replace o4 := o4.kept x7 (.inr (by simp [blk]; omega))
    replace hn4 : Nx W1 w7 := Rx.nx hn4 x7 (Nat.le_refl _)
    replace e0 := World.grownBy.cell x7 e0 (by simp; omega)
    replace e1 := World.grownBy.cell x7 e1 (by simp; omega)
    replace f0 := World.grownBy.cell x7 f0 (by simp; omega)
    replace f1 := World.grownBy.cell x7 f1 (by simp; omega)
    replace ff : ∀ j, w7.frozen? ⟨bf, j, none⟩ = false := fun j => (x7.rules.2.1 bf j (by omega) (by omega)).trans (ff j)
    have hz67 := x7.size
    clear r6 x7
    by_cases hz : (z == 0) = true
    · clear c0 c1 gz
      have hn8 : Nx w7 (w7.alloc (.cells #[V 0, V 1, V (-1)] 3)) := .alloc (.refl _) _
      have hi8 : IntsAt (w7.alloc (.cells #[V 0, V 1, V (-1)] 3)) (some ⟨w7.heap.size, 0, none⟩) [0, 1, -1] := Bx.ints (Bx.alloc w7 3 [V 0, V 1, V (-1)])
      go_wp2_with fail
      refine (num_l W1.heap.size (0 + 66 + 1 + 1 + 1) _ 3 [0, 1, -1] _ (r7.nx hn8) (by omega) hi8 (by simp) (by simp) (ne_br (by omega))).mono ?_
      rintro e w8 ⟨a, rfl, _, r8, x8'⟩
      have x8 : Rx W1.heap.size w7 w8 := (hn8.rx _).trans x8'
      have hz78 := x8.size
      have hn9 : Nx w8 (w8.alloc (.cells #[V 3, V 16, V 2] 3)) := .alloc (.refl _) _
      have hi9 : IntsAt (w8.alloc (.cells #[V 3, V 16, V 2] 3)) (some ⟨w8.heap.size, 0, none⟩) [3, 16, 2] := Bx.ints (Bx.alloc w8 3 [V 3, V 16, V 2])
      go_wp2_with fail
      refine (num_l W1.heap.size (0 + 66 + 1 + 1 + 1 + 1) _ 3 [3, 16, 2] _ (r8.nx hn9) (by omega) hi9 (by simp) (by simp) (ne_br (by omega))).mono ?_
      rintro e w9 ⟨b, rfl, _, r9, x9'⟩
      have x9 : Rx W1.heap.size w7 w9 := x8.trans ((hn9.rx _).trans x9')
      have hz79 := x9.size
      replace X0 := X0.rx x9 (by omega)
      replace X1 := X1.rx x9 (by omega)
      replace X2 := X2.rx x9 (by omega)
      replace G := G.rx x9 (by omega)
      replace o4 := o4.kept x9 (.inr (by simp [blk]; omega))
      replace hn4 : Nx W1 w9 := Rx.nx hn4 x9 (Nat.le_refl _)
      replace e0 := World.grownBy.cell x9 e0 (by simp; omega)
      replace e1 := World.grownBy.cell x9 e1 (by simp; omega)
      replace f0 := World.grownBy.cell x9 f0 (by simp; omega)
      replace f1 := World.grownBy.cell x9 f1 (by simp; omega)
      replace ff : ∀ j, w9.frozen? ⟨bf, j, none⟩ = false := fun j => (x9.rules.2.1 bf j (by omega) (by omega)).trans (ff j)
      clear r7 r8 r9 x8 x8' x9 x9' hn8 hi8 hn9 hi9
      go_wp2_with fail
      have k0 : ((w9.setCell ⟨bf, 0, none⟩ (V a)).setCell ⟨bf, 1, none⟩ (V b)).cell? ⟨bf, 0, none⟩ = some (V a) := by go_simp
      have k1 : ((w9.setCell ⟨bf, 0, none⟩ (V a)).setCell ⟨bf, 1, none⟩ (V b)).cell? ⟨bf, 1, none⟩ = some (V b) := by go_simp
      have hbb : be ≠ bf := by omega
      generalize hW10 : World.setCell (World.setCell w9 _ _) _ _ = W10 at *
      have hx10 : w9.grownBy W10 (some bf) := by subst hW10; exact grown_trans (grown_setCell _ _ _ _) (grown_setCell _ _ _ _)
      clear hW10
      replace X0 := X0.grown hx10 (by simp; omega)
      replace X1 := X1.grown hx10 (by simp; omega)
      replace X2 := X2.grown hx10 (by simp; omega)
      replace G := G.grown hx10 (by simp; omega)
      replace o4 := o4.kept hx10 (.inr (by simp [blk]; omega))
      replace hn4 : Nx W1 W10 := Nx.grown hn4 hx10 (fun j e => by injection e with e; omega)
      replace e0 := World.grownBy.cell hx10 e0 (by simp; omega)
      replace e1 := World.grownBy.cell hx10 e1 (by simp; omega)
      clear hx10 f0 f1 ff
      have c0 := G.cell (j := 0) rfl
      have c1 := G.cell (j := 1) rfl
      have p0 := X0.cell (j := 0) rfl
      have p1 := X0.cell (j := 1) rfl
      have pf := X0.free
      have q0 := X1.cell (j := 0) rfl
      have q1 := X1.cell (j := 1) rfl
      have qf := X1.free
      have s0 := X2.cell (j := 0) rfl
      have s1 := X2.cell (j := 1) rfl
      have sf := X2.free
      have hne1 : w3.heap.size ≠ w.heap.size := by omega
      have hne2 : w3.heap.size ≠ w.heap.size + 1 := by omega
      have hne3 : w3.heap.size ≠ w.heap.size + 2 := by omega
      have hne4 : be ≠ w.heap.size := by omega
      have hne5 : be ≠ w.heap.size + 1 := by omega
      have hne6 : be ≠ w.heap.size + 2 := by omega
      have hne7 : bf ≠ w.heap.size := by omega
      have hne8 : bf ≠ w.heap.size + 1 := by omega
      have hne9 : bf ≠ w.heap.size + 2 := by omega
      go_wp2_with fail
      go_region
      all_goals go_wp2
      clear hBlt X0 X1 X2 G pf qf sf c0 c1 e0 e1 k0 k1 hne1 hne2 hne3 hne4 hne5 hne6 hne7 hne8 hne9
      refine bodyPost_ret (v := .tuple #[.agg #[V nn, .slice (some ⟨g, 0, none⟩) es.length d], Ed u v, Ed a b]) (by simp [results, Try.f52, go_sem, *]) rfl ?_
      exact (Hfin.out u v a b W10 o4 hn4).drew
    · have hz : (z == 0) = false := by simpa using hz
      have c0 := G.cell (j := 0) rfl
      have c1 := G.cell (j := 1) rfl
      have p0 := X0.cell (j := 0) rfl
      have p1 := X0.cell (j := 1) rfl
      have pf := X0.free
      have q0 := X1.cell (j := 0) rfl
      have q1 := X1.cell (j := 1) rfl
      have qf := X1.free
      have s0 := X2.cell (j := 0) rfl
      have s1 := X2.cell (j := 1) rfl
      have sf := X2.free
      have hne1 : w3.heap.size ≠ w.heap.size := by omega
      have hne2 : w3.heap.size ≠ w.heap.size + 1 := by omega
      have hne3 : w3.heap.size ≠ w.heap.size + 2 := by omega
      have hne4 : be ≠ w.heap.size := by omega
      have hne5 : be ≠ w.heap.size + 1 := by omega
      have hne6 : be ≠ w.heap.size + 2 := by omega
      have hne7 : bf ≠ w.heap.size := by omega
      have hne8 : bf ≠ w.heap.size + 1 := by omega
      have hne9 : bf ≠ w.heap.size + 2 := by omega
      go_wp2_with fail
      go_region
      all_goals go_wp2
      clear hBlt X0 X1 X2 G r7 pf qf sf c0 c1 e0 e1 f0 f1 hne1 hne2 hne3 hne4 hne5 hne6 hne7 hne8 hne9
      refine bodyPost_ret (v := .tuple #[.agg #[V nn, .slice (some ⟨g, 0, none⟩) es.length d], Ed u v, Ed x y]) (by simp [results, Try.f52, go_sem, *]) rfl ?_
      exact (Hfin.out u v x y w7 o4 hn4).drew
end Go.Proofs.Yticjoichmcegnaa
