/- Contracts: DrawGraphSame: some two graphs. -/
import Derived.Test.YtafhojiialmbcaaDoorD5g
import Derived.Deep.RegionHeld3
namespace Go.Proofs.YtafhojiialmbcaaDoor
open Go.RowKit set_option linter.unusedVariables false set_option linter.unusedSimpArgs false
attribute [local go_sem ↓] Go.wp_at_zero Go.wp_at_succ

/-- some two graphs, each in a row of the call's own -/
def SomeGG (m : Nat) (w : World) (e : Ending) (w' : World) : Prop :=
  ∃ (n1 : Int) (A : Option Addr) (c : Nat) (es : Es) (n2 : Int) (B : Option Addr) (d : Nat) (fs : Es), e = .returned (.tuple #[.agg #[V n1, .slice A es.length c], .agg #[V n2, .slice B fs.length d]]) ∧ 0 ≤ n1 ∧ n1 ≤ 17 ∧ 0 ≤ n2 ∧ n2 ≤ 17 ∧ es.length ≤ m ∧ fs.length ≤ m ∧ OwnE w' w.heap.size 49 A c es ∧ OwnE w' w.heap.size 49 B d fs ∧ Nx w w'

set_option maxRecDepth 100000 in
set_option maxHeartbeats 8000000 in
theorem drawGraphSame_c (A : Option Addr) (n c : Nat) (w : World) (hnc : n ≤ c) (hb : BytesAt w w.heap.size A n) :
    Calls Tryd.prog 12 #[.slice A n c] w (SomeGG 25 w) := by
  go_enter Tryd.func12, Tryd.ntmps12
  go_wp2_with fail
  generalize hW1 : World.alloc _ _ = W1
  have gW1 : Nx w W1 := by subst hW1; exact (by repeat (first | exact Nx.refl _ | assumption | apply Nx.alloc | apply Nx.drew | apply Nx.drewN | (refine Nx.setCell ?_ (by first | (simp; done) | (simp; omega) | omega) _) | refine Nx.trans ?_ (by assumption)))
  have sW1 : W1.heap.size = w.heap.size + 2 := by subst hW1; simp
  have X0 : Bx W1 (w.heap.size) 29 [V 0, .slice none 0 0] := by subst hW1; have h := Bx.alloc w 29 [V 0, .slice none 0 0]; have h := h.nx (Nx.alloc (Nx.refl _) (.cells #[V 0, .slice none 0 0] 29)); simpa using h
  have X1 : Bx W1 (w.heap.size + 1) 29 [V 0, .slice none 0 0] := by subst hW1; have h := Bx.alloc (w.alloc (.cells #[V 0, .slice none 0 0] 29)) 29 [V 0, .slice none 0 0]; simpa using h
  have X0_0 := X0.cell (j := 0) rfl
  have X0_1 := X0.cell (j := 1) rfl
  have X0_z := X0.lt
  have X1_0 := X1.cell (j := 0) rfl
  have X1_1 := X1.cell (j := 1) rfl
  have X1_z := X1.lt
  have HsW1 := Lib.hid sW1
  have lW1 : w.heap.size + 2 ≤ W1.heap.size := by omega
  clear hW1 sW1
  refine (open_l A n c _ hnc (hb.nx gW1 (by omega))).mono ?_
  rintro e w2 ⟨rfl, r2, hn2⟩
  replace X0 := X0.nx hn2
  replace X1 := X1.nx hn2
  have hr0 := r2.lt
  clear X0_0 X0_1 X0_z X1_0 X1_1 X1_z hb
  go_wp2_with fail
  refine (l1Draw_c W1.heap.size 0 _ r2 (by omega) (by omega)).mono ?_
  rintro e w3 ⟨nn, B, d, es, rfl, hv, hl, ho3, r3, x3⟩
  replace X0 := X0.rx x3 (by omega)
  replace X1 := X1.rx x3 (by omega)
  have hn3 : Nx W1 w3 := Rx.nx hn2 x3 (Nat.le_refl _)
  have hnn : 1 ≤ nn ∧ nn ≤ 16 := ⟨hv.1, hv.2.1⟩
  have hz3 := x3.size
  have hrl := r3.lt
  have hBlt : ∀ j, blk B = some j → w2.heap.size ≤ j ∧ j < w3.heap.size := fun j hj => ho3.lt j hj
  clear hv r2 x3 hn2
  go_upto_region 3 with fail
  generalize hW4 : World.alloc w3 _ = W4
  have z4 : W4.heap.size = w3.heap.size + 1 := by subst hW4; simp
  have n4 : Nx w3 W4 := by subst hW4; exact (by repeat (first | exact Nx.refl _ | assumption | apply Nx.alloc | apply Nx.drew | apply Nx.drewN | (refine Nx.setCell ?_ (by first | (simp; done) | (simp; omega) | omega) _) | refine Nx.trans ?_ (by assumption)))
  have G : Bx W4 w3.heap.size 29 [V nn, .slice B es.length d] := by subst hW4; exact Bx.alloc w3 29 [V nn, .slice B es.length d]
  have z4' : w3.heap.size + 1 ≤ W4.heap.size := by omega
  replace X0 := X0.nx n4
  replace X1 := X1.nx n4
  have o4 := ho3.nx n4
  have r4 := r3.nx n4
  have hn4 : Nx W1 W4 := hn3.trans n4
  have c0 := G.cell (j := 0) rfl
  have c1 := G.cell (j := 1) rfl
  clear hW4 z4 n4 ho3 r3 hn3
  have hfin : ∀ (nn' : Int) (B' : Option Addr) (d' : Nat) (es' : Es) (w' : World), 0 ≤ nn' ∧ nn' ≤ 17 → es'.length ≤ 25 → OwnE w' W1.heap.size 49 B d es → OwnE w' W1.heap.size 49 B' d' es' → Nx W1 w' →
      SomeGG 25 w (.returned (.tuple #[.agg #[V nn, .slice B es.length d], .agg #[V nn', .slice B' es'.length d']])) ((((w'.setCell ⟨w.heap.size, 0, none⟩ (V nn)).setCell ⟨w.heap.size, 1, none⟩ (.slice B es.length d)).setCell ⟨w.heap.size + 1, 0, none⟩ (V nn')).setCell ⟨w.heap.size + 1, 1, none⟩ (.slice B' es'.length d')) := fun nn' B' d' es' w' h1 h2 h0 h3 h4 =>
    ⟨nn, B, d, es, nn', B', d', es', rfl, by omega, by omega, h1.1, h1.2, by omega, h2,
      (((((h0.far (by first | omega | (simp; omega)) _).far (by first | omega | (simp; omega)) _).far (by first | omega | (simp; omega)) _).far (by first | omega | (simp; omega)) _)).mono (by omega),
      (((((h3.far (by first | omega | (simp; omega)) _).far (by first | omega | (simp; omega)) _).far (by first | omega | (simp; omega)) _).far (by first | omega | (simp; omega)) _)).mono (by omega), by have hn06 : Nx w w' := gW1.trans h4; exact (by repeat (first | exact Nx.refl _ | assumption | apply Nx.alloc | apply Nx.drew | apply Nx.drewN | (refine Nx.setCell ?_ (by first | (simp; done) | (simp; omega) | omega) _) | refine Nx.trans ?_ (by assumption)))⟩
  have Hfin := Lib.hid hfin
  clear hfin
  have hbr : w3.heap.size ≠ W1.heap.size := by omega
  go_wp2_with fail
  refine (pick_l W1.heap.size (0 + 60) 3 _ r4 (by omega) (by omega) (by omega)).mono ?_
  rintro e w5 ⟨x, rfl, hx0, _, r5, x5⟩
  replace X0 := X0.rx x5 (by omega)
  replace X1 := X1.rx x5 (by omega)
  replace G := G.rx x5 (by omega)
  replace o4 := o4.rx x5 (by omega)
  replace hn4 : Nx W1 w5 := Rx.nx hn4 x5 (Nat.le_refl _)
  replace c0 := G.cell (j := 0) rfl
  replace c1 := G.cell (j := 1) rfl
  replace z4' := Nat.le_trans z4' x5.size
  clear r4 x5
  have p0 := X0.cell (j := 0) rfl
  have p1 := X0.cell (j := 1) rfl
  have pf := X0.free
  have p2 := X1.cell (j := 0) rfl
  have p3 := X1.cell (j := 1) rfl
  have pg := X1.free
  have gz := G.lt
  have hne1 : w3.heap.size ≠ w.heap.size := by omega
  have hne2 : w3.heap.size ≠ w.heap.size + 1 := by omega
  have hdr : Nx w5 w5.drew := .drew (.refl _)
  have c0d : w5.drew.cell? ⟨w3.heap.size, 0, none⟩ = some (V nn) := c0
  have c1d : w5.drew.cell? ⟨w3.heap.size, 1, none⟩ = some (.slice B es.length d) := c1
  have hsz : W1.heap.size ≤ w5.drew.heap.size := hn4.size
  by_cases hx : (x == 0) = true
  · go_wp2_with fail
    go_region_held3 (fun w_ => w_.cell? ⟨w3.heap.size, 0, none⟩ = some (V nn) ∧ w_.cell? ⟨w3.heap.size, 1, none⟩ = some (.slice B es.length d))
      (first | with_reducible exact ⟨c0d, c1d⟩ | with_reducible exact ⟨s0, s1⟩ | with_reducible exact ⟨(by first | (go_simp; done) | fail), (by first | (go_simp; done) | fail)⟩)
      ((go_at_call 31; (with_reducible refine (l1Draw_c W1.heap.size (0 + 60 + 1) _ (r5.nx hdr) (by omega) (by omega)).mono ?_); rintro e w6 ⟨nn6, B6, d6, es6, rfl, hv6, hl6, ho6, r6, x6'⟩; have x6 := (hdr.rx W1.heap.size).trans x6'; have G6 := G.rx x6 (by omega); have s0 := G6.cell (j := 0) rfl; have s1 := G6.cell (j := 1) rfl; have o6 := o4.rx x6 (by omega); have T0 := X0.rx x6 (by omega); have T1 := X1.rx x6 (by omega); have t0 := T0.cell (j := 0) rfl; have t1 := T0.cell (j := 1) rfl; have tf := T0.free; have t2 := T1.cell (j := 0) rfl; have t3 := T1.cell (j := 1) rfl; have tg := T1.free))
    all_goals (have hn6 : Nx W1 w6 := Rx.nx hn4 x6 (Nat.le_refl _))
    all_goals go_wp2
    all_goals refine bodyPost_ret (v := .tuple #[.agg #[V nn, .slice B es.length d], .agg #[V nn6, .slice B6 es6.length d6]]) (by simp [results, Tryd.f12, go_sem, *]) rfl ?_
    all_goals exact Hfin.out nn6 B6 d6 es6 w6 ⟨(by have := hv6.1; omega), (by have := hv6.2.1; omega)⟩ (by omega) (o6.mono (by omega)) (ho6.mono hsz) hn6
  · have hx : (x == 0) = false := by simpa using hx
    go_wp2_with fail
    go_region_held3 (fun w_ => w_.cell? ⟨w3.heap.size, 0, none⟩ = some (V nn) ∧ w_.cell? ⟨w3.heap.size, 1, none⟩ = some (.slice B es.length d))
      (first | with_reducible exact ⟨c0d, c1d⟩ | with_reducible exact ⟨q0, q1⟩ | with_reducible exact ⟨s0, s1⟩ | with_reducible exact ⟨(by first | (go_simp; done) | fail), (by first | (go_simp; done) | fail)⟩)
      (first
        | (go_at_call 33; (with_reducible refine (l1Wrong_c W1.heap.size (0 + 60 + 1) nn B d es _ (r5.nx hdr) (by omega) (by omega) (o4.nx hdr).edgesAt (by omega) ⟨by omega, by omega⟩).mono ?_); rintro e w6 ⟨nn6, B6, d6, es6, rfl, h6a, h6b, hl6, ho6, r6, x6'⟩; have x6 := (hdr.rx W1.heap.size).trans x6'; have z6 := x6.size; have G6 := G.rx x6 (by omega); have q0 := G6.cell (j := 0) rfl; have q1 := G6.cell (j := 1) rfl; have o6 := o4.rx x6 (by omega); have U0 := X0.rx x6 (by omega); have U1 := X1.rx x6 (by omega); have hn6 : Nx W1 w6 := Rx.nx hn4 x6 (Nat.le_refl _))
        | (go_at_call 33; (with_reducible refine (l1Wrong_c W1.heap.size (0 + 60 + 1 + 6) nn6 B6 d6 es6 _ r6 (by omega) (by omega) ho6.edgesAt (by omega) ⟨h6a, h6b⟩).mono ?_); rintro e w7 ⟨nn7, B7, d7, es7, rfl, h7a, h7b, hl7, ho7, r7, x7⟩; have G7 := G6.rx x7 (by omega); have s0 := G7.cell (j := 0) rfl; have s1 := G7.cell (j := 1) rfl; have o7 := o6.rx x7 (by omega); have T0 := U0.rx x7 (by omega); have T1 := U1.rx x7 (by omega); have t0 := T0.cell (j := 0) rfl; have t1 := T0.cell (j := 1) rfl; have tf := T0.free; have t2 := T1.cell (j := 0) rfl; have t3 := T1.cell (j := 1) rfl; have tg := T1.free))
    all_goals (have hn7 : Nx W1 w7 := Rx.nx hn6 x7 (Nat.le_refl _))
    all_goals go_wp2
    all_goals refine bodyPost_ret (v := .tuple #[.agg #[V nn, .slice B es.length d], .agg #[V nn7, .slice B7 es7.length d7]]) (by simp [results, Tryd.f12, go_sem, *]) rfl ?_
    all_goals exact Hfin.out nn7 B7 d7 es7 w7 ⟨h7a, h7b⟩ (by omega) (o7.mono (by omega)) (ho7.mono hn6.size) hn7
end Go.Proofs.YtafhojiialmbcaaDoor
