import Derived.Test.YtbceoigmcomlbaaJ34
import Derived.Test.YtbceoigmcomlbaaJ36
import Derived.Test.YtbceoigmcomlbaaJ38
/- Contracts of the draws: l6Draw, l6Tour. -/
namespace Go.Proofs.Ytbceoigmcomlbaa
open Go.RowKit set_option linter.unusedVariables false set_option linter.unusedSimpArgs false

/-- some forest in a row of the call's own -/
def DrawnF (br : Nat) (P : Int) (w : World) (e : Ending) (w' : World) : Prop :=
  ∃ (nn : Nat) (A : Option Addr) (c : Nat) (E : Es), e = .returned (.agg #[V nn, .slice A E.length c]) ∧ 1 ≤ nn ∧ nn ≤ 16 ∧ E.length ≤ 23 ∧ FreeT E ∧ OwnE w' w.heap.size 30 A c E ∧ RdL w' br (P + 60) ∧ Rx br w w'
set_option maxRecDepth 100000 in
set_option maxHeartbeats 4000000 in
theorem l6Draw_c (br : Nat) (P : Int) (w : World) (hr : RdL w br P) (hP0 : 0 ≤ P) (hP : P < 1073741000) :
    Calls Try.prog 64 #[.pointer (some ⟨br, 0, none⟩)] w (DrawnF br P w) := by
  have hbr := hr.lt
  have Hr := Lib.hid hr
  clear hr
  go_enter Try.func64, Try.ntmps64
  go_wp2_with fail
  generalize hW1 : World.alloc _ _ = W1
  have gW1 : Nx w W1 := by subst hW1; exact (by repeat (first | exact Nx.refl _ | assumption | apply Nx.alloc | apply Nx.drew | apply Nx.drewN | (refine Nx.setCell ?_ (by first | (simp; done) | (simp; omega) | omega) _) | refine Nx.trans ?_ (by assumption)))
  have sW1 : W1.heap.size = w.heap.size + 1 := by subst hW1; simp
  have X0 : Bx W1 (w.heap.size) 68 [V 0, .slice none 0 0] := by subst hW1; have h := Bx.alloc w 68 [V 0, .slice none 0 0]; simpa using h
  have X0_0 := X0.cell (j := 0) rfl
  have X0_1 := X0.cell (j := 1) rfl
  have X0_z := X0.lt
  have HsW1 := Lib.hid sW1
  have lW1 : w.heap.size + 1 ≤ W1.heap.size := by omega
  clear hW1 sW1
  refine (l1Draw_c br P _ (Hr.out.nx gW1) hP0 hP).mono ?_
  rintro e w3 ⟨nn, B, d, es, rfl, hv, hl, ho3, r3, x3⟩
  replace X0 := X0.rx x3 (by omega)
  have hz3 := x3.size
  clear X0_0 X0_1 X0_z
  have hnn1 := hv.1
  have hnn2 := hv.2.1
  obtain ⟨n, rfl⟩ : ∃ n : Nat, nn = n := ⟨nn.toNat, hv.nat.symm⟩
  have hR := hv.inR
  rw [Int.toNat_natCast] at hR
  have hfree := forest_free hR
  have hfl := forest_len n es
  have hfor := fun w' h => l2Forest_c n B d es w' h (by omega) (by omega) hR hv.apart
  go_wp2_with fail
  generalize hW4 : World.alloc _ _ = W4
  have gW4 : Nx w3 W4 := by subst hW4; exact (by repeat (first | exact Nx.refl _ | assumption | apply Nx.alloc | apply Nx.drew | apply Nx.drewN | (refine Nx.setCell ?_ (by first | (simp; done) | (simp; omega) | omega) _) | refine Nx.trans ?_ (by assumption)))
  have sW4 : W4.heap.size = w3.heap.size + 1 := by subst hW4; simp
  have Y : Bx W4 (w3.heap.size) 68 [V n, .slice B es.length d] := by subst hW4; have h := Bx.alloc w3 68 [V n, .slice B es.length d]; simpa using h
  have Y_0 := Y.cell (j := 0) rfl
  have Y_1 := Y.cell (j := 1) rfl
  have Y_z := Y.lt
  have HsW4 := Lib.hid sW4
  have lW4 : w3.heap.size + 1 ≤ W4.heap.size := by omega
  clear hW4 sW4
  have X0' := X0.nx gW4
  generalize forestL n es = E at *
  have Hfor := Lib.hid hfor
  have Hv := Lib.hid hv
  have Hfree := Lib.hid hfree
  have Ho3 := Lib.hid ho3
  have hd : Nx W4 W4.drew := .drew (.refl _)
  have hne0 : w.heap.size ≠ w3.heap.size := by omega
  clear hfor hv hfree ho3 hR
  have kp : ∀ w', Nx W4 w' → (fun w_ => Rx w.heap.size W4 w_ ∧ w_.cell? ⟨w3.heap.size, 0, none⟩ = some (V n) ∧ w_.cell? ⟨w3.heap.size, 1, none⟩ = some (.slice B es.length d)) w' := fun w' h => ⟨h.rx _, h.cell Y_z Y_0, h.cell Y_z Y_1⟩
  have kp2 : ∀ w', Rx w.heap.size W4 w' → (fun w_ => Rx w.heap.size W4 w_ ∧ w_.cell? ⟨w3.heap.size, 0, none⟩ = some (V n) ∧ w_.cell? ⟨w3.heap.size, 1, none⟩ = some (.slice B es.length d)) w' := fun w' h => ⟨h, World.grownBy.cell h Y_0 (by simp; omega), World.grownBy.cell h Y_1 (by simp; omega)⟩
  go_region_held3 (fun w_ => Rx w.heap.size W4 w_ ∧ w_.cell? ⟨w3.heap.size, 0, none⟩ = some (V n) ∧ w_.cell? ⟨w3.heap.size, 1, none⟩ = some (.slice B es.length d))
    (first | exact kp _ hd | exact kp _ hn45 | exact kp2 _ (((hn45.rx _).setCell _ _).setCell _ _))
    ((go_at_call 77; (with_reducible refine (Hfor.out _ ((Ho3.out.nx gW4).nx hd).edgesAt).mono ?_); rintro e w5 ⟨F, f5, rfl, ho5, hn5⟩; have hn45 := hd.trans hn5; have X5 := X0'.nx hn45; have r0 := X5.cell (j := 0) rfl; have r1 := X5.cell (j := 1) rfl; have rf := X5.free))
  all_goals go_wp2
  all_goals refine bodyPost_ret (v := .agg #[V n, .slice F E.length f5]) (by simp [results, Try.f64, go_sem, *]) rfl ?_
  all_goals have hfin := (((gW4.trans hn45).rx w.heap.size).setCell 0 (V n)).setCell 1 (.slice F E.length f5)
  all_goals exact ⟨n, F, f5, E, rfl, by omega, by omega, by omega, Hfree.out, ((ho5.far (by first | omega | (simp [size_drew_]; omega)) _).far (by first | omega | (simp [size_drew_]; omega)) _).mono (by first | omega | (simp [size_drew_]; omega)), r3.kept hfin (fun k e => by injection e with e; omega), Rx.past (Rx.trans (gW1.rx br) x3) hfin (fun j e => by injection e with e; omega)⟩

/-- some list in a row of the call's own -/
def SomeL (w : World) (e : Ending) (w' : World) : Prop :=
  ∃ A c xs, e = .returned (.slice A xs.length c) ∧ 1 ≤ xs.length ∧ xs.length ≤ 31 ∧ OwnI w' w.heap.size 3 A c xs ∧ Nx w w'
set_option maxRecDepth 100000 in
set_option maxHeartbeats 4000000 in
theorem l6Tour_c (A : Option Addr) (n c : Nat) (w : World) (hnc : n ≤ c) (hb : BytesAt w w.heap.size A n) :
    Calls Try.prog 35 #[.slice A n c] w (SomeL w) := by
  go_enter Try.func35, Try.ntmps35
  go_wp2_with fail
  refine (open_l A n c _ hnc hb).mono ?_
  rintro e w1 ⟨rfl, r1, hn1⟩
  clear hb
  go_wp2_with fail
  refine (l6Draw_c w.heap.size 0 _ r1 (by omega) (by omega)).mono ?_
  rintro e w2 ⟨nn, B, d, E, rfl, h1, h2, h3, hF, ho2, r2, x2⟩
  have N2 : Nx w w2 := Rx.nx hn1 x2 (Nat.le_refl _)
  have hz1 : w.heap.size < w1.heap.size := r1.lt
  have hz2 := x2.size
  have HF := Lib.hid hF
  have Ho2 := Lib.hid ho2
  clear r1 x2 hF ho2
  go_wp2_with fail
  generalize hW3 : World.alloc _ _ = W3
  have gW3 : Nx w2 W3 := by subst hW3; exact (by repeat (first | exact Nx.refl _ | assumption | apply Nx.alloc | apply Nx.drew | apply Nx.drewN | (refine Nx.setCell ?_ (by first | (simp; done) | (simp; omega) | omega) _) | refine Nx.trans ?_ (by assumption)))
  have sW3 : W3.heap.size = w2.heap.size + 1 := by subst hW3; simp
  have Y : Bx W3 (w2.heap.size) 68 [V nn, .slice B E.length d] := by subst hW3; have h := Bx.alloc w2 68 [V nn, .slice B E.length d]; simpa using h
  have Y_0 := Y.cell (j := 0) rfl
  have Y_1 := Y.cell (j := 1) rfl
  have Y_z := Y.lt
  have HsW3 := Lib.hid sW3
  have lW3 : w2.heap.size + 1 ≤ W3.heap.size := by omega
  clear hW3 sW3
  have r3 := r2.nx gW3
  have ho3 := Ho2.out.nx gW3
  have hlt3 := ho3.lt
  have Ho3 := Lib.hid ho3
  have Hlt3 := Lib.hid hlt3
  have N3 := N2.trans gW3
  have hE3 := Lib.hid ho3.edgesAt
  clear ho3 hlt3 r2
  have kp : ∀ w', Rx w.heap.size W3 w' → (fun w_ => Rx w.heap.size W3 w_ ∧ w_.cell? ⟨w2.heap.size, 0, none⟩ = some (V nn) ∧ w_.cell? ⟨w2.heap.size, 1, none⟩ = some (.slice B E.length d)) w' := fun w' h => ⟨h, World.grownBy.cell h Y_0 (by simp; omega), World.grownBy.cell h Y_1 (by simp; omega)⟩
  go_upto_region 3 with (fail)
  go_cut [5] from 10 to 16 (fun s5 wc => ∃ (A' : Option Addr) (c' : Nat) (zs : List Int), s5 = .slice A' zs.length c' ∧ 1 ≤ zs.length ∧ zs.length ≤ 31 ∧ OwnI wc W3.heap.size 3 A' c' zs ∧ RdL wc w.heap.size 61 ∧ Nx w wc ∧ W3.heap.size ≤ wc.heap.size)
  case first =>
    go_region_held3 (fun w_ => Rx w.heap.size W3 w_ ∧ w_.cell? ⟨w2.heap.size, 0, none⟩ = some (V nn) ∧ w_.cell? ⟨w2.heap.size, 1, none⟩ = some (.slice B E.length d))
      (first | exact kp _ hx5 | exact kp _ hx4 | exact kp _ (Rx.trans hx4 (Nx.rx (by exact (by (repeat (first | exact Nx.refl _ | assumption | apply Nx.alloc | apply Nx.drew | apply Nx.drewN | (refine Nx.setCell ?_ (by first | (simp; done) | (simp; omega) | omega) _) | refine Nx.trans ?_ (by assumption))); done)) _)) | exact kp _ (Nx.rx (by exact (by (repeat (first | exact Nx.refl _ | assumption | apply Nx.alloc | apply Nx.drew | apply Nx.drewN | (refine Nx.setCell ?_ (by first | (simp; done) | (simp; omega) | omega) _) | refine Nx.trans ?_ (by assumption))); done)) _))
      (first
        | (go_at_call 50; (with_reducible refine (pick_l w.heap.size (0 + 60) nn _ (r3.nx (by exact (by (repeat (first | exact Nx.refl _ | assumption | apply Nx.alloc | apply Nx.drew | apply Nx.drewN | (refine Nx.setCell ?_ (by first | (simp; done) | (simp; omega) | omega) _) | refine Nx.trans ?_ (by assumption))); done))) (by omega) (by omega) (by omega)).mono ?_); rintro e w4 ⟨y, rfl, hy0, hy1, r4, x4⟩; have hx4 : Rx w.heap.size W3 w4 := Rx.trans (Nx.rx (by exact (by (repeat (first | exact Nx.refl _ | assumption | apply Nx.alloc | apply Nx.drew | apply Nx.drewN | (refine Nx.setCell ?_ (by first | (simp; done) | (simp; omega) | omega) _) | refine Nx.trans ?_ (by assumption))); done)) _) x4; have hz4 := x4.size; (try simp [size_drew_] at hz4))
        | (go_at_call 65; (refine (l6Walk_c nn B d E HF.out h2 (by omega) 16 y (-1) (some ⟨_, 0, none⟩) 0 0 [] W3.heap.size _ (below_le _ _ _) hy0 (hy1 (by omega)) (hE3.out.gr (r := some w.heap.size) (by first | exact hx4 | exact Rx.trans hx4 (Nx.rx (by exact (by (repeat (first | exact Nx.refl _ | assumption | apply Nx.alloc | apply Nx.drew | apply Nx.drewN | (refine Nx.setCell ?_ (by first | (simp; done) | (simp; omega) | omega) _) | refine Nx.trans ?_ (by assumption))); done)) _)) (fun q hq e => by injection e with e; have := (Hlt3.out q hq).1; omega)) (by first | exact OwnI.empty w4 W3.heap.size 3 (hx4.size) | exact (OwnI.empty W3 W3.heap.size 3 (Nat.le_refl _)).kept x4 (apart_ne fun q hq => by simp [blk] at hq; omega) | exact ((OwnI.empty W3 W3.heap.size 3 (Nat.le_refl _)).nx (by exact (by (repeat (first | exact Nx.refl _ | assumption | apply Nx.alloc | apply Nx.drew | apply Nx.drewN | (refine Nx.setCell ?_ (by first | (simp; done) | (simp; omega) | omega) _) | refine Nx.trans ?_ (by assumption))); done))).kept x4 (apart_ne fun q hq => by simp [blk] at hq; omega)) rfl (by have := below_le E y (-1); omega) (by first | exact hx4.size | exact Nat.le_trans hx4.size (Nx.size (by exact (by (repeat (first | exact Nx.refl _ | assumption | apply Nx.alloc | apply Nx.drew | apply Nx.drewN | (refine Nx.setCell ?_ (by first | (simp; done) | (simp; omega) | omega) _) | refine Nx.trans ?_ (by assumption))); done)))) (fun q hq e => by have h := (Hlt3.out q hq).2; simp [blk] at e; omega)).mono ?_); rintro e w5 ⟨A5, c5, zs, rfl, ho5, hz1', hz2', hg5, hb5⟩; have hx5 : Rx w.heap.size W3 w5 := Rx.past (by first | exact hx4 | exact Rx.trans hx4 (Nx.rx (by exact (by (repeat (first | exact Nx.refl _ | assumption | apply Nx.alloc | apply Nx.drew | apply Nx.drewN | (refine Nx.setCell ?_ (by first | (simp; done) | (simp; omega) | omega) _) | refine Nx.trans ?_ (by assumption))); done)) _)) hg5 (fun q hq => by simp [blk] at hq; omega); have r5 : RdL w5 w.heap.size 61 := (by first | exact RdL.kept (r4.nx (by exact (by (repeat (first | exact Nx.refl _ | assumption | apply Nx.alloc | apply Nx.drew | apply Nx.drewN | (refine Nx.setCell ?_ (by first | (simp; done) | (simp; omega) | omega) _) | refine Nx.trans ?_ (by assumption))); done))) hg5 (fun q hq => by simp [blk] at hq; omega) | exact RdL.kept r4 hg5 (fun q hq => by simp [blk] at hq; omega))))
    all_goals go_wp2
    all_goals go_meet
    all_goals exact ⟨A5, c5, zs, rfl, hz1', by have := below_le E y (-1); omega, by rw [List.nil_append] at ho5; exact ho5, r5, Rx.nx N3 hx5 (Nat.le_refl _), hx5.size⟩
  obtain ⟨A5, c5, zs, rfl, hl1, hl2, ho5, r5, N5, z5⟩ := hcut
  obtain ⟨w5, hw5⟩ : ∃ v, v = wc := ⟨_, rfl⟩
  subst hw5
  have hb5 : w.heap.size < W3.heap.size := by have := N3.size; omega
  have HO := Lib.hid ho5
  clear kp ho5 Y Y_0 Y_1 Y_z
  by_cases hz1 : zs.length = 1
  · have HZ1 := Lib.hid hz1
    have hz1b : (((zs.length : Nat) : Int) == 1) = true := by simp; omega
    clear hz1
    go_wp2_with fail
    refine (pick_l w.heap.size 61 2 _ r5 (by omega) (by omega) (by omega)).mono ?_
    rintro e w6 ⟨y6, rfl, hy6a, hy6b, r6, x6⟩
    have N6 : Nx w w6 := Rx.nx N5 x6 (Nat.le_refl _)
    have ho6 := HO.out.kept x6 (apart_ne fun q hq => by have := (HO.out.lt q hq).1; omega)
    have z6 := x6.size
    have HO6 := Lib.hid ho6
    clear ho6 HO
    by_cases h6 : y6 = 0
    · subst h6
      clear hy6a hy6b
      have r7 := r6.nx (Nx.alloc (Nx.refl _) (.cells #[V 0, V 1, V 0, V 2, V 0] 3))
      have N7 : Nx w (w6.alloc (.cells #[V 0, V 1, V 0, V 2, V 0] 3)) := N6.alloc _
      have ho7 : OwnI (w6.alloc (.cells #[V 0, V 1, V 0, V 2, V 0] 3)) W3.heap.size 3 (some ⟨w6.heap.size, 0, none⟩) 5 [0, 1, 0, 2, 0] := World.ownsRow_lit w6 #[V 0, V 1, V 0, V 2, V 0] 5 (Nat.le_trans (by omega) z6) (by simp [maxLen]) rfl
      have HO := Lib.hid ho7
      have z7 : W3.heap.size ≤ (w6.alloc (.cells #[V 0, V 1, V 0, V 2, V 0] 3)).heap.size := by simp; omega
      clear ho7 HO6 r6
      -- a row of one's own in the world w7: A', c', zs; the reader r7 at 62; N7 : Nx w w7
      go_wp2_with fail
      refine (pick_l w.heap.size 62 10 _ r7 (by omega) (by omega) (by omega)).mono ?_
      rintro e w8 ⟨y8, rfl, hy8a, hy8b, r8, x8⟩
      have N8 : Nx w w8 := Rx.nx N7 x8 (Nat.le_refl _)
      have ho8 := HO.out.kept x8 (apart_ne fun q hq => by have := (HO.out.lt q hq).1; omega)
      have z8 := x8.size
      by_cases h8 : y8 = 0
      · subst h8
        obtain ⟨g8, hg8e, hg8, hg8b⟩ := ho8.at (by simp)
        injection hg8e with hg8e
        injection hg8e with hg8e
        subst hg8e
        have HO8 := Lib.hid ho8
        clear ho8 hy8a hy8b
        go_wp2_with fail
        refine (pick_l w.heap.size (62 + 1) 5 _ r8 (by omega) (by omega) (by omega)).mono ?_
        rintro e w9 ⟨y9, rfl, hy9a, hy9b, r9, x9⟩
        have N9 : Nx w w9 := Rx.nx N8 x9 (Nat.le_refl _)
        have ho9 := HO8.out.kept x9 (apart_ne fun q hq => by have := (HO8.out.lt q hq).1; omega)
        have z9 := x9.size
        obtain ⟨j, rfl⟩ := Int.eq_ofNat_of_zero_le hy9a
        have hj : j < 5 := by have := hy9b (by omega); omega
        have HO9 := Lib.hid ho9
        clear ho9 hy9a hy9b
        go_wp2_with fail
        generalize hW9 : World.alloc _ _ = W9
        have gW9 : Nx w9 W9 := by subst hW9; exact (by repeat (first | exact Nx.refl _ | assumption | apply Nx.alloc | apply Nx.drew | apply Nx.drewN | (refine Nx.setCell ?_ (by first | (simp; done) | (simp; omega) | omega) _) | refine Nx.trans ?_ (by assumption)))
        have sW9 : W9.heap.size = w9.heap.size + 1 := by subst hW9; simp
        have L9 : Bx W9 (w9.heap.size) 3 [V 0, V 1, V 15, V 16, V (-1)] := by subst hW9; have h := Bx.alloc w9 3 [V 0, V 1, V 15, V 16, V (-1)]; simpa using h
        have L9_0 := L9.cell (j := 0) rfl
        have L9_1 := L9.cell (j := 1) rfl
        have L9_2 := L9.cell (j := 2) rfl
        have L9_3 := L9.cell (j := 3) rfl
        have L9_4 := L9.cell (j := 4) rfl
        have L9_z := L9.lt
        have HsW9 := Lib.hid sW9
        have lW9 : w9.heap.size + 1 ≤ W9.heap.size := by omega
        clear hW9 sW9
        refine (num_l w.heap.size (62 + 1 + 1) (some ⟨w9.heap.size, 0, none⟩) 5 [0, 1, 15, 16, -1] _ (r9.nx gW9) (by omega) (L9.ints (xs := [0, 1, 15, 16, -1])) (by simp) (by simp) (fun b off e => by injection e with e; injection e with e; omega)).mono ?_
        rintro e w10 ⟨y10, rfl, _, r10, x10⟩
        have N10 : Nx w w10 := Rx.nx (N9.trans gW9) x10 (Nat.le_refl _)
        have ho10 := (HO9.out.nx gW9).kept x10 (apart_ne fun q hq => by have := (HO9.out.lt q hq).1; omega)
        have f10 := ho10.free
        have c10 := ho10.cell hj
        have hjl : (j : Int) < (5 : Int) := by omega
        have Ho10 := Lib.hid ho10
        generalize ([0, 1, 0, 2, 0] : List Int)[j] = old at *
        clear ho10
        go_wp2
        go_ret
        exact ⟨_, _, ([0, 1, 0, 2, 0] : List Int).set j y10, by rw [List.length_set]; rfl, by rw [List.length_set]; simp, by rw [List.length_set]; simp, (Ho10.out.set j y10).mono (by omega), N10.setCell (by simp; omega) _⟩
      · have h8b : (y8 == 0) = false := by simpa using h8
        have HO8 := Lib.hid ho8
        clear ho8 hy8b
        go_wp2
        go_ret
        exact ⟨_, _, [0, 1, 0, 2, 0], rfl, by simp, by simp, HO8.out.mono (by omega), N8⟩
    · have h6b : (y6 == 0) = false := by simpa using h6
      clear hy6b
      -- a row of one's own in the world w6: A', c', zs; the reader r6 at 62; N6 : Nx w w6
      go_wp2_with fail
      refine (pick_l w.heap.size 62 10 _ r6 (by omega) (by omega) (by omega)).mono ?_
      rintro e w8 ⟨y8, rfl, hy8a, hy8b, r8, x8⟩
      have N8 : Nx w w8 := Rx.nx N6 x8 (Nat.le_refl _)
      have ho8 := HO6.out.kept x8 (apart_ne fun q hq => by have := (HO6.out.lt q hq).1; omega)
      have z8 := x8.size
      by_cases h8 : y8 = 0
      · subst h8
        obtain ⟨g8, rfl, hg8, hg8b⟩ := ho8.at (by omega)
        have HO8 := Lib.hid ho8
        clear ho8 hy8a hy8b
        go_wp2_with fail
        refine (pick_l w.heap.size (62 + 1) (zs.length : Nat) _ r8 (by omega) (by omega) (by omega)).mono ?_
        rintro e w9 ⟨y9, rfl, hy9a, hy9b, r9, x9⟩
        have N9 : Nx w w9 := Rx.nx N8 x9 (Nat.le_refl _)
        have ho9 := HO8.out.kept x9 (apart_ne fun q hq => by have := (HO8.out.lt q hq).1; omega)
        have z9 := x9.size
        obtain ⟨j, rfl⟩ := Int.eq_ofNat_of_zero_le hy9a
        have hj : j < zs.length := by have := hy9b (by omega); omega
        have HO9 := Lib.hid ho9
        clear ho9 hy9a hy9b
        go_wp2_with fail
        generalize hW9 : World.alloc _ _ = W9
        have gW9 : Nx w9 W9 := by subst hW9; exact (by repeat (first | exact Nx.refl _ | assumption | apply Nx.alloc | apply Nx.drew | apply Nx.drewN | (refine Nx.setCell ?_ (by first | (simp; done) | (simp; omega) | omega) _) | refine Nx.trans ?_ (by assumption)))
        have sW9 : W9.heap.size = w9.heap.size + 1 := by subst hW9; simp
        have L9 : Bx W9 (w9.heap.size) 3 [V 0, V 1, V 15, V 16, V (-1)] := by subst hW9; have h := Bx.alloc w9 3 [V 0, V 1, V 15, V 16, V (-1)]; simpa using h
        have L9_0 := L9.cell (j := 0) rfl
        have L9_1 := L9.cell (j := 1) rfl
        have L9_2 := L9.cell (j := 2) rfl
        have L9_3 := L9.cell (j := 3) rfl
        have L9_4 := L9.cell (j := 4) rfl
        have L9_z := L9.lt
        have HsW9 := Lib.hid sW9
        have lW9 : w9.heap.size + 1 ≤ W9.heap.size := by omega
        clear hW9 sW9
        refine (num_l w.heap.size (62 + 1 + 1) (some ⟨w9.heap.size, 0, none⟩) 5 [0, 1, 15, 16, -1] _ (r9.nx gW9) (by omega) (L9.ints (xs := [0, 1, 15, 16, -1])) (by simp) (by simp) (fun b off e => by injection e with e; injection e with e; omega)).mono ?_
        rintro e w10 ⟨y10, rfl, _, r10, x10⟩
        have N10 : Nx w w10 := Rx.nx (N9.trans gW9) x10 (Nat.le_refl _)
        have ho10 := (HO9.out.nx gW9).kept x10 (apart_ne fun q hq => by have := (HO9.out.lt q hq).1; omega)
        have f10 := ho10.free
        have c10 := ho10.cell hj
        have hjl : (j : Int) < (zs.length : Int) := by omega
        have Ho10 := Lib.hid ho10
        generalize zs[j] = old at *
        clear ho10
        go_wp2
        go_ret
        exact ⟨_, _, zs.set j y10, by rw [List.length_set]; rfl, by rw [List.length_set]; omega, by rw [List.length_set]; omega, (Ho10.out.set j y10).mono (by omega), N10.setCell (by simp; omega) _⟩
      · have h8b : (y8 == 0) = false := by simpa using h8
        have HO8 := Lib.hid ho8
        clear ho8 hy8b
        go_wp2
        go_ret
        exact ⟨_, _, zs, rfl, by omega, by omega, HO8.out.mono (by omega), N8⟩
  · have hz1b : (((zs.length : Nat) : Int) == 1) = false := by simp; omega
    -- a row of one's own in the world w5: A', c', zs; the reader r5 at 61; N5 : Nx w w5
    go_wp2_with fail
    refine (pick_l w.heap.size 61 10 _ r5 (by omega) (by omega) (by omega)).mono ?_
    rintro e w8 ⟨y8, rfl, hy8a, hy8b, r8, x8⟩
    have N8 : Nx w w8 := Rx.nx N5 x8 (Nat.le_refl _)
    have ho8 := HO.out.kept x8 (apart_ne fun q hq => by have := (HO.out.lt q hq).1; omega)
    have z8 := x8.size
    by_cases h8 : y8 = 0
    · subst h8
      obtain ⟨g8, rfl, hg8, hg8b⟩ := ho8.at (by omega)
      have HO8 := Lib.hid ho8
      clear ho8 hy8a hy8b
      go_wp2_with fail
      refine (pick_l w.heap.size (61 + 1) (zs.length : Nat) _ r8 (by omega) (by omega) (by omega)).mono ?_
      rintro e w9 ⟨y9, rfl, hy9a, hy9b, r9, x9⟩
      have N9 : Nx w w9 := Rx.nx N8 x9 (Nat.le_refl _)
      have ho9 := HO8.out.kept x9 (apart_ne fun q hq => by have := (HO8.out.lt q hq).1; omega)
      have z9 := x9.size
      obtain ⟨j, rfl⟩ := Int.eq_ofNat_of_zero_le hy9a
      have hj : j < zs.length := by have := hy9b (by omega); omega
      have HO9 := Lib.hid ho9
      clear ho9 hy9a hy9b
      go_wp2_with fail
      generalize hW9 : World.alloc _ _ = W9
      have gW9 : Nx w9 W9 := by subst hW9; exact (by repeat (first | exact Nx.refl _ | assumption | apply Nx.alloc | apply Nx.drew | apply Nx.drewN | (refine Nx.setCell ?_ (by first | (simp; done) | (simp; omega) | omega) _) | refine Nx.trans ?_ (by assumption)))
      have sW9 : W9.heap.size = w9.heap.size + 1 := by subst hW9; simp
      have L9 : Bx W9 (w9.heap.size) 3 [V 0, V 1, V 15, V 16, V (-1)] := by subst hW9; have h := Bx.alloc w9 3 [V 0, V 1, V 15, V 16, V (-1)]; simpa using h
      have L9_0 := L9.cell (j := 0) rfl
      have L9_1 := L9.cell (j := 1) rfl
      have L9_2 := L9.cell (j := 2) rfl
      have L9_3 := L9.cell (j := 3) rfl
      have L9_4 := L9.cell (j := 4) rfl
      have L9_z := L9.lt
      have HsW9 := Lib.hid sW9
      have lW9 : w9.heap.size + 1 ≤ W9.heap.size := by omega
      clear hW9 sW9
      refine (num_l w.heap.size (61 + 1 + 1) (some ⟨w9.heap.size, 0, none⟩) 5 [0, 1, 15, 16, -1] _ (r9.nx gW9) (by omega) (L9.ints (xs := [0, 1, 15, 16, -1])) (by simp) (by simp) (fun b off e => by injection e with e; injection e with e; omega)).mono ?_
      rintro e w10 ⟨y10, rfl, _, r10, x10⟩
      have N10 : Nx w w10 := Rx.nx (N9.trans gW9) x10 (Nat.le_refl _)
      have ho10 := (HO9.out.nx gW9).kept x10 (apart_ne fun q hq => by have := (HO9.out.lt q hq).1; omega)
      have f10 := ho10.free
      have c10 := ho10.cell hj
      have hjl : (j : Int) < (zs.length : Int) := by omega
      have Ho10 := Lib.hid ho10
      generalize zs[j] = old at *
      clear ho10
      go_wp2
      go_ret
      exact ⟨_, _, zs.set j y10, by rw [List.length_set]; rfl, by rw [List.length_set]; omega, by rw [List.length_set]; omega, (Ho10.out.set j y10).mono (by omega), N10.setCell (by simp; omega) _⟩
    · have h8b : (y8 == 0) = false := by simpa using h8
      have HO8 := Lib.hid ho8
      clear ho8 hy8b
      go_wp2
      go_ret
      exact ⟨_, _, zs, rfl, by omega, by omega, HO8.out.mono (by omega), N8⟩
end Go.Proofs.Ytbceoigmcomlbaa
