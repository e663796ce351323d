/- Contracts: DrawGraphValid, l1Case: some graph, some graph and an edge. -/
import Derived.Test.YtmagbdcmanchmaaD4
import Derived.Test.YtmagbdcmanchmaaE0
namespace Go.Proofs.Ytmagbdcmanchmaa
open Go.RowKit set_option linter.unusedVariables false set_option linter.unusedSimpArgs false
attribute [local go_sem ↓] Go.wp_at_zero Go.wp_at_succ

/-- some graph in a row of the call's own -/
def SomeG (m : Nat) (w : World) (e : Ending) (w' : World) : Prop :=
  ∃ (nn : Int) (A : Option Addr) (c : Nat) (es : Es), e = .returned (.agg #[V nn, .slice A es.length c]) ∧ 0 ≤ nn ∧ nn ≤ 17 ∧ es.length ≤ m ∧ OwnE w' w.heap.size 40 A c es ∧ Nx w w'
/-- some graph in a row of the call's own, and some edge -/
def SomeGE (m : Nat) (w : World) (e : Ending) (w' : World) : Prop :=
  ∃ (nn : Int) (A : Option Addr) (c : Nat) (es : Es) (u v : Int), e = .returned (.tuple #[.agg #[V nn, .slice A es.length c], Ed u v]) ∧ 0 ≤ nn ∧ nn ≤ 17 ∧ es.length ≤ m ∧ OwnE w' w.heap.size 40 A c es ∧ Nx w w'

set_option maxRecDepth 100000 in
set_option maxHeartbeats 4000000 in
theorem drawGraphValid_c (A : Option Addr) (n c : Nat) (w : World) (hnc : n ≤ c) (hb : BytesAt w w.heap.size A n) :
    Calls Try.prog 71 #[.slice A n c] w (SomeG 26 w) := by
  go_enter Try.func71, Try.ntmps71
  go_wp2_with fail
  generalize hW1 : World.alloc _ _ = W1
  have gW1 : Nx w W1 := by subst hW1; exact (by repeat (first | exact Nx.refl _ | assumption | apply Nx.alloc | apply Nx.drew | apply Nx.drewN | (refine Nx.setCell ?_ (by first | (simp; done) | (simp; omega) | omega) _) | refine Nx.trans ?_ (by assumption)))
  have sW1 : W1.heap.size = w.heap.size + 1 := by subst hW1; simp
  have X0 : Bx W1 (w.heap.size) 29 [V 0, .slice none 0 0] := by subst hW1; have h := Bx.alloc w 29 [V 0, .slice none 0 0]; simpa using h
  have X0_0 := X0.cell (j := 0) rfl
  have X0_1 := X0.cell (j := 1) rfl
  have X0_z := X0.lt
  have HsW1 := Lib.hid sW1
  have lW1 : w.heap.size + 1 ≤ W1.heap.size := by omega
  clear hW1 sW1
  refine (open_l A n c _ hnc (hb.nx gW1 (by omega))).mono ?_
  rintro e w2 ⟨rfl, r2, hn2⟩
  replace X0 := X0.nx hn2
  have hr0 := hn2.size
  clear X0_0 X0_1 X0_z hb
  go_wp2_with fail
  refine (l1Draw_c W1.heap.size 0 _ r2 (by omega) (by omega)).mono ?_
  rintro e w3 ⟨nn, B, d, es, rfl, hv, hl, ho3, r3, x3⟩
  replace X0 := X0.rx x3 (by omega)
  have hn3 : Nx W1 w3 := Rx.nx hn2 x3 (Nat.le_refl _)
  have hnn : 0 ≤ nn ∧ nn ≤ 17 := ⟨by have := hv.1; omega, by have := hv.2.1; omega⟩
  clear hv r2 x3
  go_wp2_with fail
  refine (l1Wrong_c W1.heap.size (0 + 60) nn B d es _ r3 (by omega) (by omega) ho3.edgesAt (by omega) hnn).mono ?_
  rintro e w4 ⟨nn4, B4, d4, es4, rfl, h4a, h4b, hl4, ho4, r4, x4⟩
  replace X0 := X0.rx x4 (by omega)
  have hn4 : Nx W1 w4 := Rx.nx hn3 x4 (Nat.le_refl _)
  clear r3 x4 ho3
  go_wp2_with fail
  refine (l1Wrong_c W1.heap.size (0 + 60 + 6) nn4 B4 d4 es4 _ r4 (by omega) (by omega) ho4.edgesAt (by omega) ⟨h4a, h4b⟩).mono ?_
  rintro e w5 ⟨nn5, B5, d5, es5, rfl, h5a, h5b, hl5, ho5, r5, x5⟩
  replace X0 := X0.rx x5 (by omega)
  have hn5 : Nx W1 w5 := Rx.nx hn4 x5 (Nat.le_refl _)
  clear r4 x5 ho4
  go_wp2_with fail
  refine (l1Wrong_c W1.heap.size (0 + 60 + 6 + 6) nn5 B5 d5 es5 _ r5 (by omega) (by omega) ho5.edgesAt (by omega) ⟨h5a, h5b⟩).mono ?_
  rintro e w6 ⟨nn6, B6, d6, es6, rfl, h6a, h6b, hl6, ho6, r6, x6⟩
  replace X0 := X0.rx x6 (by omega)
  have hn6 : Nx W1 w6 := Rx.nx hn5 x6 (Nat.le_refl _)
  have hsz5 := hn5.size
  have r0 := X0.cell (j := 0) rfl
  have r1 := X0.cell (j := 1) rfl
  have rf := X0.free
  clear r5 x6 ho5
  go_wp2
  refine bodyPost_ret (v := .agg #[V nn6, .slice B6 es6.length d6]) (by simp [results, Try.f71, go_sem, *]) rfl ?_
  refine ⟨nn6, B6, d6, es6, rfl, h6a, h6b, by omega, ?_, ?_⟩
  · exact ((ho6.far (by first | omega | (simp; omega)) _).far (by first | omega | (simp; omega)) _).mono (by omega)
  · have hn06 : Nx w w6 := gW1.trans hn6
    exact (by repeat (first | exact Nx.refl _ | assumption | apply Nx.alloc | apply Nx.drew | apply Nx.drewN | (refine Nx.setCell ?_ (by first | (simp; done) | (simp; omega) | omega) _) | refine Nx.trans ?_ (by assumption)))

theorem ints3 {w : World} {b : Nat} {x y z : Int} (hb : b < w.heap.size) (h0 : w.cell? ⟨b, 0, none⟩ = some (V x)) (h1 : w.cell? ⟨b, 1, none⟩ = some (V y)) (h2 : w.cell? ⟨b, 2, none⟩ = some (V z)) : IntsAt w (some ⟨b, 0, none⟩) [x, y, z] := fun _ =>
  ⟨b, 0, rfl, hb, fun k hk => by
    match k, hk with
    | 0, _ => simpa using h0
    | 1, _ => simpa using h1
    | 2, _ => simpa using h2
    | (k + 3), hk => simp at hk; omega⟩

set_option maxRecDepth 100000 in
set_option maxHeartbeats 8000000 in
theorem l1Case_c (A : Option Addr) (n c : Nat) (w : World) (hnc : n ≤ c) (hb : BytesAt w w.heap.size A n) :
    Calls Try.prog 65 #[.slice A n c] w (SomeGE 24 w) := by
  go_enter Try.func65, Try.ntmps65
  go_wp2_with fail
  generalize hW1 : World.alloc _ _ = W1
  have gW1 : Nx w W1 := by subst hW1; exact (by repeat (first | exact Nx.refl _ | assumption | apply Nx.alloc | apply Nx.drew | apply Nx.drewN | (refine Nx.setCell ?_ (by first | (simp; done) | (simp; omega) | omega) _) | refine Nx.trans ?_ (by assumption)))
  have sW1 : W1.heap.size = w.heap.size + 2 := by subst hW1; simp
  have X0 : Bx W1 (w.heap.size) 29 [V 0, .slice none 0 0] := by subst hW1; have h := Bx.alloc w 29 [V 0, .slice none 0 0]; have h := h.nx (Nx.alloc (Nx.refl _) (.cells #[V 0, V 0] 40)); simpa using h
  have X1 : Bx W1 (w.heap.size + 1) 40 [V 0, V 0] := by subst hW1; have h := Bx.alloc (w.alloc (.cells #[V 0, .slice none 0 0] 29)) 40 [V 0, V 0]; simpa using h
  have X0_0 := X0.cell (j := 0) rfl
  have X0_1 := X0.cell (j := 1) rfl
  have X0_z := X0.lt
  have X1_0 := X1.cell (j := 0) rfl
  have X1_1 := X1.cell (j := 1) rfl
  have X1_z := X1.lt
  have HsW1 := Lib.hid sW1
  have lW1 : w.heap.size + 2 ≤ W1.heap.size := by omega
  clear hW1 sW1
  refine (open_l A n c _ hnc (hb.nx gW1 (by omega))).mono ?_
  rintro e w2 ⟨rfl, r2, hn2⟩
  replace X0 := X0.nx hn2
  replace X1 := X1.nx hn2
  have hr0 := r2.lt
  clear X0_0 X0_1 X0_z X1_0 X1_1 X1_z hb
  go_wp2_with fail
  refine (l1Draw_c W1.heap.size 0 _ r2 (by omega) (by omega)).mono ?_
  rintro e w3 ⟨nn, B, d, es, rfl, hv, hl, ho3, r3, x3⟩
  replace X0 := X0.rx x3 (by omega)
  replace X1 := X1.rx x3 (by omega)
  have hn3 : Nx W1 w3 := Rx.nx hn2 x3 (Nat.le_refl _)
  have hnn : 1 ≤ nn ∧ nn ≤ 16 := ⟨hv.1, hv.2.1⟩
  have hz3 := x3.size
  have hrl := r3.lt
  have hBlt : ∀ j, blk B = some j → w2.heap.size ≤ j ∧ j < w3.heap.size := fun j hj => ho3.lt j hj
  clear hv r2 x3 hn2
  go_upto_region 3 with fail
  generalize hW4 : World.alloc w3 _ = W4
  have z4 : W4.heap.size = w3.heap.size + 1 := by subst hW4; simp
  have n4 : Nx w3 W4 := by subst hW4; exact (by repeat (first | exact Nx.refl _ | assumption | apply Nx.alloc | apply Nx.drew | apply Nx.drewN | (refine Nx.setCell ?_ (by first | (simp; done) | (simp; omega) | omega) _) | refine Nx.trans ?_ (by assumption)))
  have G : Bx W4 w3.heap.size 29 [V nn, .slice B es.length d] := by subst hW4; exact Bx.alloc w3 29 [V nn, .slice B es.length d]
  have z4' : w3.heap.size + 1 ≤ W4.heap.size := by omega
  replace X0 := X0.nx n4
  replace X1 := X1.nx n4
  have o4 := ho3.nx n4
  have r4 := r3.nx n4
  have hn4 : Nx W1 W4 := hn3.trans n4
  have c0 := G.cell (j := 0) rfl
  have c1 := G.cell (j := 1) rfl
  clear hW4 z4 n4 ho3 r3 hn3
  -- the two results, as they are handed back
  have hfin : ∀ (nn' : Int) (B' : Option Addr) (d' : Nat) (es' : Es) (u v : Int) (w' : World), 0 ≤ nn' ∧ nn' ≤ 17 → es'.length ≤ 24 → OwnE w' W1.heap.size 40 B' d' es' → Nx W1 w' →
      SomeGE 24 w (.returned (.tuple #[.agg #[V nn', .slice B' es'.length d'], Ed u v])) ((((w'.setCell ⟨w.heap.size, 0, none⟩ (V nn')).setCell ⟨w.heap.size, 1, none⟩ (.slice B' es'.length d')).setCell ⟨w.heap.size + 1, 0, none⟩ (V u)).setCell ⟨w.heap.size + 1, 1, none⟩ (V v)) := fun nn' B' d' es' u v w' h1 h2 h3 h4 =>
    ⟨nn', B', d', es', u, v, rfl, h1.1, h1.2, h2, (((((h3.far (by first | omega | (simp; omega)) _).far (by first | omega | (simp; omega)) _).far (by first | omega | (simp; omega)) _).far (by first | omega | (simp; omega)) _)).mono (by omega), by have hn06 : Nx w w' := gW1.trans h4; exact (by repeat (first | exact Nx.refl _ | assumption | apply Nx.alloc | apply Nx.drew | apply Nx.drewN | (refine Nx.setCell ?_ (by first | (simp; done) | (simp; omega) | omega) _) | refine Nx.trans ?_ (by assumption)))⟩
  have Hfin := Lib.hid hfin
  clear hfin
  have hbr : w3.heap.size ≠ W1.heap.size := by omega
  have r4' := r4.mono (show (0 : Int) + 60 ≤ 61 by omega)
  by_cases hl0 : 0 < es.length
  have hl1 : (0 : Int) < (es.length : Int) := by omega
  go_wp2_with fail
  refine (pick_l W1.heap.size (0 + 60) 2 _ r4 (by omega) (by omega) (by omega)).mono ?_
  rintro e w5 ⟨x, rfl, hx0, _, r5, x5⟩
  have hbr5 : w3.heap.size ≠ W1.heap.size := hbr
  replace X0 := X0.rx x5 (by omega)
  replace X1 := X1.rx x5 (by omega)
  replace G := G.rx x5 (by omega)
  replace o4 := o4.rx x5 (by omega)
  replace hn4 : Nx W1 w5 := Rx.nx hn4 x5 (Nat.le_refl _)
  replace c0 := G.cell (j := 0) rfl
  replace c1 := G.cell (j := 1) rfl
  replace z4' := Nat.le_trans z4' x5.size
  clear r4 r4' x5
  by_cases hx : (x == 0) = true
  · obtain ⟨g, rfl, hg1, hg2⟩ := o4.at hl0
    have p0 := X0.cell (j := 0) rfl
    have p1 := X0.cell (j := 1) rfl
    have pf := X0.free
    have p2 := X1.cell (j := 0) rfl
    have p3 := X1.cell (j := 1) rfl
    have pg := X1.free
    have gz := G.lt
    have hne1 : w3.heap.size ≠ w.heap.size := by omega
    have hne2 : w3.heap.size ≠ w.heap.size + 1 := by omega
    have hdr : Nx w5 w5.drew := .drew (.refl _)
    have c0d : w5.drew.cell? ⟨w3.heap.size, 0, none⟩ = some (V nn) := c0
    have c1d : w5.drew.cell? ⟨w3.heap.size, 1, none⟩ = some (.slice (some ⟨g, 0, none⟩) es.length d) := c1
    have o4d := o4.nx hdr
    go_wp2_with fail
    go_region_held3 (fun w_ => w_.cell? ⟨w3.heap.size, 0, none⟩ = some (V nn) ∧ w_.cell? ⟨w3.heap.size, 1, none⟩ = some (.slice (some ⟨g, 0, none⟩) es.length d) ∧ ∀ (j : Nat) (h : j < es.length), w_.cell? ⟨g, j * 2, none⟩ = some (V es[j].1) ∧ w_.cell? ⟨g, j * 2 + 1, none⟩ = some (V es[j].2))
      (first | with_reducible exact ⟨c0d, c1d, fun j h => o4d.cell h⟩ | with_reducible exact ⟨q0, q1, fun j h => o6.cell h⟩ | with_reducible exact ⟨s0, s1, fun j h => o7.cell h⟩ | with_reducible exact ⟨(by first | (go_simp; done) | fail), (by first | (go_simp; done) | fail), fun j h => ((o7.far (by first | omega | (simp; omega)) _).far (by first | omega | (simp; omega)) _).cell h⟩ | with_reducible exact ⟨(by first | (go_simp; done) | fail), (by first | (go_simp; done) | fail), fun j h => ((((o7.far (by first | omega | (simp; omega)) _).far (by first | omega | (simp; omega)) _).far (by first | omega | (simp; omega)) _).far (by first | omega | (simp; omega)) _).cell h⟩)
      (first
        | (go_at_call 87; (refine (l1Wrong_c W1.heap.size (0 + 60 + 1) nn (some ⟨g, 0, none⟩) d es _ (r5.nx hdr) (by omega) (by omega) (o4.nx hdr).edgesAt (by omega) ⟨by omega, by omega⟩).mono ?_); rintro e w6 ⟨nn6, B6, d6, es6, rfl, h6a, h6b, hl6, ho6, r6, x6'⟩; have x6 := (hdr.rx W1.heap.size).trans x6'; have G6 := G.rx x6 (by omega); have q0 := G6.cell (j := 0) rfl; have q1 := G6.cell (j := 1) rfl; have o6 := o4.rx x6 (by omega); have U0 := X0.rx x6 (by omega); have U1 := X1.rx x6 (by omega))
        | (go_at_call 86; (refine (pick_l W1.heap.size (0 + 60 + 1 + 6) es.length _ r6 (by omega) (by omega) (by omega)).mono ?_); rintro e w7 ⟨k, rfl, hk0, hk1, r7, x7⟩; obtain ⟨k, rfl⟩ := Int.eq_ofNat_of_zero_le hk0; have hki := hk1 (by omega); have hkl : k < es.length := (by omega); have G7 := G6.rx x7 (by omega); have s0 := G7.cell (j := 0) rfl; have s1 := G7.cell (j := 1) rfl; have o7 := o6.rx x7 (by omega); obtain ⟨m1, m2⟩ := o7.cell hkl; have T0 := U0.rx x7 (by omega); have T1 := U1.rx x7 (by omega); have t0 := T0.cell (j := 0) rfl; have t1 := T0.cell (j := 1) rfl; have tf := T0.free; have t2 := T1.cell (j := 0) rfl; have t3 := T1.cell (j := 1) rfl; have tg := T1.free))
    have o67 := ho6.rx x7 (by simp [size_drew_]; omega)
    have hn7 : Nx W1 w7 := Rx.nx (Rx.nx hn4 x6 (Nat.le_refl _)) x7 (Nat.le_refl _)
    have hsz : W1.heap.size ≤ w5.drew.heap.size := hn4.size
    go_wp2
    refine bodyPost_ret (v := .tuple #[.agg #[V nn6, .slice B6 es6.length d6], Ed es[k].1 es[k].2]) (by simp [results, Try.f65, go_sem, *]) rfl ?_
    exact Hfin.out nn6 B6 d6 es6 es[k].1 es[k].2 w7 ⟨h6a, h6b⟩ (by omega) (o67.mono hsz) hn7
  have hx : (x == 0) = false := by simpa using hx
  have r5' := r5.mono (show (0 : Int) + 60 + 1 ≤ 61 by omega)
  clear r5
  go_wp2_with fail
  rotate_left
  obtain ⟨w5, hw5⟩ : ∃ v, v = W4 := ⟨_, rfl⟩
  subst hw5
  have r5' := r4'
  clear r4 r4'
  all_goals
    refine (pick_l W1.heap.size 61 16 _ r5' (by omega) (by omega) (by omega)).mono ?_
    rintro e w6 ⟨y, rfl, hy0, _, r6, x6⟩
    replace X0 := X0.rx x6 (by omega)
    replace X1 := X1.rx x6 (by omega)
    replace G := G.rx x6 (by omega)
    replace o4 := o4.rx x6 (by omega)
    replace hn4 : Nx W1 w6 := Rx.nx hn4 x6 (Nat.le_refl _)
    replace c0 := G.cell (j := 0) rfl
    replace c1 := G.cell (j := 1) rfl
    replace z4' := Nat.le_trans z4' x6.size
    have p0 := X0.cell (j := 0) rfl
    have p1 := X0.cell (j := 1) rfl
    have pf := X0.free
    have p2 := X1.cell (j := 0) rfl
    have p3 := X1.cell (j := 1) rfl
    have pg := X1.free
    have gz := G.lt
    have hne1 : w3.heap.size ≠ w.heap.size := by omega
    have hne2 : w3.heap.size ≠ w.heap.size + 1 := by omega
    clear r5' x6
    by_cases hy : (y == 0) = true
    · have hdr : Nx w6 w6.drew := .drew (.refl _)
      have c0d : w6.drew.cell? ⟨w3.heap.size, 0, none⟩ = some (V nn) := c0
      have c1d : w6.drew.cell? ⟨w3.heap.size, 1, none⟩ = some (.slice B es.length d) := c1
      have hbb0 : w6.heap.size ≠ W1.heap.size := by omega
      have hbb1 : w6.heap.size + 1 ≠ W1.heap.size := by omega
      go_wp2_with fail
      go_region_held3 (fun w_ => w_.cell? ⟨w3.heap.size, 0, none⟩ = some (V nn) ∧ w_.cell? ⟨w3.heap.size, 1, none⟩ = some (.slice B es.length d))
        (first | with_reducible exact ⟨c0d, c1d⟩ | with_reducible exact ⟨q0, q1⟩ | with_reducible exact ⟨s0, s1⟩ | exact ⟨(by first | (go_simp; done) | fail), (by first | (go_simp; done) | fail)⟩)
        (first
          | (go_at_call 88; (refine (num_l W1.heap.size (61 + 1) _ 3 [1, -1, 3] _ (r6.nx (by (repeat (first | exact Nx.refl _ | assumption | apply Nx.alloc | apply Nx.drew | apply Nx.drewN | (refine Nx.setCell ?_ (by first | (simp; done) | (simp; omega) | omega) _) | refine Nx.trans ?_ (by assumption))); done)) (by omega) (ints3 (by first | (simp [size_drew_]; done) | (simp [size_drew_]; omega) | omega) (by first | (go_simp; done) | fail) (by first | (go_simp; done) | fail) (by first | (go_simp; done) | fail)) (by simp) (by simp) (ne_br (by omega))).mono ?_); rintro e w7 ⟨u, rfl, hu, r7, x7'⟩; have x7 : Rx W1.heap.size w6 w7 := ((show Nx w6 _ from (by (repeat (first | exact Nx.refl _ | assumption | apply Nx.alloc | apply Nx.drew | apply Nx.drewN | (refine Nx.setCell ?_ (by first | (simp; done) | (simp; omega) | omega) _) | refine Nx.trans ?_ (by assumption))); done)).rx _).trans x7'; obtain ⟨hcx, hfx, hzx⟩ := x7'.rules; (try simp [size_drew_] at hzx); have G7 := G.rx x7 (by omega); have gz7 := G7.lt; have q0 := G7.cell (j := 0) rfl; have q1 := G7.cell (j := 1) rfl; have o7 := o4.rx x7 (by omega); have U0 := X0.rx x7 (by omega); have U1 := X1.rx x7 (by omega))
          | (go_at_call 88; (refine (num_l W1.heap.size (61 + 1 + 1) _ 3 [0, 16, 1] _ (r7.nx (by (repeat (first | exact Nx.refl _ | assumption | apply Nx.alloc | apply Nx.drew | apply Nx.drewN | (refine Nx.setCell ?_ (by first | (simp; done) | (simp; omega) | omega) _) | refine Nx.trans ?_ (by assumption))); done)) (by omega) (ints3 (by first | (simp [size_drew_]; done) | (simp [size_drew_]; omega) | omega) (by first | (go_simp; done) | fail) (by first | (go_simp; done) | fail) (by first | (go_simp; done) | fail)) (by simp) (by simp) (ne_br (by omega))).mono ?_); rintro e w8 ⟨v, rfl, hv, r8, x8'⟩; have x8 : Rx W1.heap.size w7 w8 := ((show Nx w7 _ from (by (repeat (first | exact Nx.refl _ | assumption | apply Nx.alloc | apply Nx.drew | apply Nx.drewN | (refine Nx.setCell ?_ (by first | (simp; done) | (simp; omega) | omega) _) | refine Nx.trans ?_ (by assumption))); done)).rx _).trans x8'; have G8 := G7.rx x8 (by omega); have gz8 := G8.lt; have s0 := G8.cell (j := 0) rfl; have s1 := G8.cell (j := 1) rfl; have o8 := o7.rx x8 (by omega); have T0 := U0.rx x8 (by omega); have T1 := U1.rx x8 (by omega); have t0 := T0.cell (j := 0) rfl; have t1 := T0.cell (j := 1) rfl; have tf := T0.free; have t2 := T1.cell (j := 0) rfl; have t3 := T1.cell (j := 1) rfl; have tg := T1.free; have hn8 : Nx W1 w8 := Rx.nx (Rx.nx hn4 x7 (Nat.le_refl _)) x8 (Nat.le_refl _)))
      all_goals go_wp2
      all_goals refine bodyPost_ret (v := .tuple #[.agg #[V nn, .slice B es.length d], Ed u v]) (by simp [results, Try.f65, go_sem, *]) rfl ?_
      all_goals exact Hfin.out nn B d es u v w8 ⟨by omega, by omega⟩ (by omega) (o8.mono (by omega)) hn8
    · have hy : (y == 0) = false := by simpa using hy
      go_wp2_with fail
      refine (pick_l W1.heap.size (61 + 1) nn _ r6 (by omega) (by omega) (by omega)).mono ?_
      rintro e w7 ⟨u, rfl, hu0, hu1, r7, x7⟩
      replace X0 := X0.rx x7 (by omega)
      replace X1 := X1.rx x7 (by omega)
      replace G := G.rx x7 (by omega)
      replace o4 := o4.rx x7 (by omega)
      replace hn4 : Nx W1 w7 := Rx.nx hn4 x7 (Nat.le_refl _)
      replace c0 := G.cell (j := 0) rfl
      replace c1 := G.cell (j := 1) rfl
      clear r6 x7
      go_wp2_with fail
      refine (pick_l W1.heap.size (61 + 1 + 1) nn _ r7 (by omega) (by omega) (by omega)).mono ?_
      rintro e w8 ⟨v, rfl, hv0, hv1, r8, x8⟩
      replace X0 := X0.rx x8 (by omega)
      replace X1 := X1.rx x8 (by omega)
      replace G := G.rx x8 (by omega)
      replace o4 := o4.rx x8 (by omega)
      replace hn4 : Nx W1 w8 := Rx.nx hn4 x8 (Nat.le_refl _)
      replace c0 := G.cell (j := 0) rfl
      replace c1 := G.cell (j := 1) rfl
      have gz8 := hn4.size
      clear r7 x8
      go_wp2_with fail
      refine (l1Wrong_c W1.heap.size (61 + 1 + 1 + 1) nn B d es _ r8 (by omega) (by omega) o4.edgesAt (by omega) ⟨by omega, by omega⟩).mono ?_
      rintro e w9 ⟨nn9, B9, d9, es9, rfl, h9a, h9b, hl9, ho9, r9, x9⟩
      replace X0 := X0.rx x9 (by omega)
      replace X1 := X1.rx x9 (by omega)
      have hn9 : Nx W1 w9 := Rx.nx hn4 x9 (Nat.le_refl _)
      have ho9' := ho9.mono gz8
      clear ho9 r9 x9 r8
      go_wp2_with fail
      refine (l1Edge_c u v _).mono ?_
      rintro e w10 ⟨rfl, hn10⟩
      replace X0 := X0.nx hn10
      replace X1 := X1.nx hn10
      replace p0 := X0.cell (j := 0) rfl
      replace p1 := X0.cell (j := 1) rfl
      replace pf := X0.free
      replace p2 := X1.cell (j := 0) rfl
      replace p3 := X1.cell (j := 1) rfl
      replace pg := X1.free
      go_wp2
      refine bodyPost_ret (v := .tuple #[.agg #[V nn9, .slice B9 es9.length d9], Ed (min u v) (max u v)]) (by simp [results, Try.f65, go_sem, *]) rfl ?_
      exact Hfin.out nn9 B9 d9 es9 (min u v) (max u v) w10 ⟨h9a, h9b⟩ (by omega) (ho9'.nx hn10) (hn9.trans hn10)
end Go.Proofs.Ytmagbdcmanchmaa
