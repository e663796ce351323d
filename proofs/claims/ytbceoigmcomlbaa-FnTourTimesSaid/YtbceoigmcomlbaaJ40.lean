import Derived.Test.YtbceoigmcomlbaaJ39
/- Contracts of the draws of tours: DrawTourValid, DrawTourDepths, l6Node, DrawTurnTour, DrawTourBelow, DrawSplitTour. -/
namespace Go.Proofs.Ytbceoigmcomlbaa
open Go.RowKit set_option linter.unusedVariables false set_option linter.unusedSimpArgs false

theorem drawTourValid_c (A : Option Addr) (n c : Nat) (w : World) (hnc : n ≤ c) (hb : BytesAt w w.heap.size A n) : Calls Try.prog 12 #[.slice A n c] w (SomeL w) := by
  have h := l6Tour_c A n c w hnc hb
  have H := Lib.hid h
  clear h hb
  go_enter Try.func12, Try.ntmps12
  go_wp2_with fail
  refine H.out.mono ?_
  rintro e w1 ⟨A1, c1, xs, rfl, h1, h2, h3, h4⟩
  go_wp2
  go_ret
  exact ⟨A1, c1, xs, rfl, h1, h2, h3, h4⟩
theorem drawTourDepths_c (A : Option Addr) (n c : Nat) (w : World) (hnc : n ≤ c) (hb : BytesAt w w.heap.size A n) : Calls Try.prog 29 #[.slice A n c] w (SomeL w) := by
  have h := l6Tour_c A n c w hnc hb
  have H := Lib.hid h
  clear h hb
  go_enter Try.func29, Try.ntmps29
  go_wp2_with fail
  refine H.out.mono ?_
  rintro e w1 ⟨A1, c1, xs, rfl, h1, h2, h3, h4⟩
  go_wp2
  go_ret
  exact ⟨A1, c1, xs, rfl, h1, h2, h3, h4⟩
/-- some list and some number -/
def SomeLN (w : World) (e : Ending) (w' : World) : Prop :=
  ∃ A c xs v, e = .returned (.tuple #[.slice A xs.length c, V v]) ∧ 1 ≤ xs.length ∧ xs.length ≤ 31 ∧ OwnI w' w.heap.size 3 A c xs ∧ Nx w w'
set_option maxRecDepth 100000 in
set_option maxHeartbeats 4000000 in
theorem l6Node_c (A : Option Addr) (n c : Nat) (w : World) (hnc : n ≤ c) (hb : BytesAt w w.heap.size A n) : Calls Try.prog 63 #[.slice A n c] w (SomeLN w) := by
  have h := l6Tour_c A n c w hnc hb
  have H := Lib.hid h
  have Hb := Lib.hid hb
  clear h hb
  go_enter Try.func63, Try.ntmps63
  go_wp2_with fail
  refine H.out.mono ?_
  rintro e w1 ⟨B, d, xs, rfl, h1, h2, ho1, hn1⟩
  go_wp2_with fail
  refine (open_l A n c _ hnc (Hb.out.nx hn1 hn1.size)).mono ?_
  rintro e w2 ⟨rfl, r2, hn2⟩
  have hz1 := hn1.size
  go_wp2_with fail
  refine (pick_l w1.heap.size 0 10 _ r2 (by omega) (by omega) (by omega)).mono ?_
  rintro e w3 ⟨y, rfl, hy0, hy1, r3, x3⟩
  have hn3 : Nx w1 w3 := Rx.nx hn2 x3 (Nat.le_refl _)
  have ho3 := ho1.nx hn3
  have hz3 := x3.size
  have hz2 := r2.lt
  have Ho3 := Lib.hid ho3
  have hlt1 := ho1.lt
  have Hlt1 := Lib.hid hlt1
  obtain ⟨g, rfl, hg1, hg2⟩ := ho1.at (by omega)
  clear ho1 ho3 hlt1
  by_cases h6 : y = 0
  · subst h6
    go_wp2_with fail
    generalize hW4 : World.alloc _ _ = W4
    have gW4 : Nx w3 W4 := by subst hW4; exact (by repeat (first | exact Nx.refl _ | assumption | apply Nx.alloc | apply Nx.drew | apply Nx.drewN | (refine Nx.setCell ?_ (by first | (simp; done) | (simp; omega) | omega) _) | refine Nx.trans ?_ (by assumption)))
    have sW4 : W4.heap.size = w3.heap.size + 1 := by subst hW4; simp
    have L4 : Bx W4 (w3.heap.size) 3 [V 15, V (-1), V 16, V 0] := by subst hW4; have h := Bx.alloc w3 3 [V 15, V (-1), V 16, V 0]; simpa using h
    have L4_0 := L4.cell (j := 0) rfl
    have L4_1 := L4.cell (j := 1) rfl
    have L4_2 := L4.cell (j := 2) rfl
    have L4_3 := L4.cell (j := 3) rfl
    have L4_z := L4.lt
    have HsW4 := Lib.hid sW4
    have lW4 : w3.heap.size + 1 ≤ W4.heap.size := by omega
    clear hW4 sW4
    refine (num_l w1.heap.size (0 + 1) (some ⟨w3.heap.size, 0, none⟩) 4 [15, -1, 16, 0] _ (r3.nx gW4) (by omega) (L4.ints (xs := [15, -1, 16, 0])) (by simp) (by simp) (fun b off e => by injection e with e; injection e with e; omega)).mono ?_
    rintro e w5 ⟨v, rfl, _, r5, x5⟩
    have hn5 : Nx w1 w5 := Rx.nx (hn3.trans gW4) x5 (Nat.le_refl _)
    have ho5 := (Ho3.out.nx gW4).kept x5 (apart_ne fun q hq => by have := (Hlt1.out q hq).2; omega)
    have Ho5 := Lib.hid ho5
    clear ho5
    go_wp2
    go_ret2
    exact ⟨_, d, xs, v, rfl, h1, h2, Ho5.out, hn1.trans hn5⟩
  · have h6b : (y == 0) = false := by simpa using h6
    clear hy1
    have hcs := fun (j : Nat) (hj : j < xs.length) => Ho3.out.cell hj
    have kp : ∀ w', Rx w1.heap.size w3 w' → (fun w_ => Rx w1.heap.size w3 w_ ∧ ∀ (j : Nat) (h : j < xs.length), w_.cell? ⟨g, j, none⟩ = some (V xs[j])) w' := fun w' h => ⟨h, fun j hj => World.grownBy.cell h (hcs j hj) (by simp; omega)⟩
    have Hcs := Lib.hid hcs
    clear hcs
    go_wp2_with fail
    first | (go_region_held3 (fun w_ => Rx w1.heap.size w3 w_ ∧ ∀ (j : Nat) (h : j < xs.length), w_.cell? ⟨g, j, none⟩ = some (V xs[j]))
      (first | exact kp _ hx6 | exact kp _ (Nx.rx (by exact (by (repeat (first | exact Nx.refl _ | assumption | apply Nx.alloc | apply Nx.drew | apply Nx.drewN | (refine Nx.setCell ?_ (by first | (simp; done) | (simp; omega) | omega) _) | refine Nx.trans ?_ (by assumption))); done)) _))
      ((go_at_call 50; (with_reducible refine (pick_l w1.heap.size (0 + 1) (xs.length : Nat) _ (r3.nx (by exact (by (repeat (first | exact Nx.refl _ | assumption | apply Nx.alloc | apply Nx.drew | apply Nx.drewN | (refine Nx.setCell ?_ (by first | (simp; done) | (simp; omega) | omega) _) | refine Nx.trans ?_ (by assumption))); done))) (by omega) (by omega) (by omega)).mono ?_); rintro e w6 ⟨y6, rfl, hy6a, hy6b, r6, x6⟩; have hx6 : Rx w1.heap.size w3 w6 := Rx.trans (Nx.rx (by exact (by (repeat (first | exact Nx.refl _ | assumption | apply Nx.alloc | apply Nx.drew | apply Nx.drewN | (refine Nx.setCell ?_ (by first | (simp; done) | (simp; omega) | omega) _) | refine Nx.trans ?_ (by assumption))); done)) _) x6; obtain ⟨j, rfl⟩ := Int.eq_ofNat_of_zero_le hy6a; have hj : j < xs.length := (by have := hy6b (by omega); omega); have hji : (j : Int) < (xs.length : Int) := (by omega); have hj0 : (0 : Int) ≤ (j : Int) := (by omega); have c6 := World.grownBy.cell hx6 (Hcs.out j hj) (by simp; omega)))) | fail
    have ho6 := Ho3.out.kept hx6 (apart_ne fun q hq => by have := (Hlt1.out q hq).2; omega)
    have Ho6 := Lib.hid ho6
    clear ho6
    go_wp2
    go_ret2
    exact ⟨_, d, xs, _, rfl, h1, h2, Ho6.out, hn1.trans (Rx.nx hn3 hx6 (Nat.le_refl _))⟩
theorem drawTurnTour_c (A : Option Addr) (n c : Nat) (w : World) (hnc : n ≤ c) (hb : BytesAt w w.heap.size A n) : Calls Try.prog 33 #[.slice A n c] w (SomeLN w) := by
  have h := l6Node_c A n c w hnc hb
  have H := Lib.hid h
  clear h hb
  go_enter Try.func33, Try.ntmps33
  go_wp2_with fail
  refine H.out.mono ?_
  rintro e w1 ⟨A1, c1, xs, v, rfl, h1, h2, h3, h4⟩
  go_wp2
  go_ret2
  exact ⟨A1, c1, xs, v, rfl, h1, h2, h3, h4⟩
theorem drawTourBelow_c (A : Option Addr) (n c : Nat) (w : World) (hnc : n ≤ c) (hb : BytesAt w w.heap.size A n) : Calls Try.prog 31 #[.slice A n c] w (SomeLN w) := by
  have h := l6Node_c A n c w hnc hb
  have H := Lib.hid h
  clear h hb
  go_enter Try.func31, Try.ntmps31
  go_wp2_with fail
  refine H.out.mono ?_
  rintro e w1 ⟨A1, c1, xs, v, rfl, h1, h2, h3, h4⟩
  go_wp2
  go_ret2
  exact ⟨A1, c1, xs, v, rfl, h1, h2, h3, h4⟩

/-- some list and some edge -/
def SomeLE (w : World) (e : Ending) (w' : World) : Prop :=
  ∃ A c xs u v, e = .returned (.tuple #[.slice A xs.length c, Ed u v]) ∧ 1 ≤ xs.length ∧ xs.length ≤ 31 ∧ OwnI w' w.heap.size 3 A c xs ∧ Nx w w'
set_option maxRecDepth 100000 in
set_option maxHeartbeats 4000000 in
theorem drawSplitTour_c (A : Option Addr) (n c : Nat) (w : World) (hnc : n ≤ c) (hb : BytesAt w w.heap.size A n) : Calls Try.prog 16 #[.slice A n c] w (SomeLE w) := by
  have Hb := Lib.hid hb
  clear hb
  go_enter Try.func16, Try.ntmps16
  go_wp2_with fail
  generalize hW1 : World.alloc _ _ = W1
  have gW1 : Nx w W1 := by subst hW1; exact (by repeat (first | exact Nx.refl _ | assumption | apply Nx.alloc | apply Nx.drew | apply Nx.drewN | (refine Nx.setCell ?_ (by first | (simp; done) | (simp; omega) | omega) _) | refine Nx.trans ?_ (by assumption)))
  have sW1 : W1.heap.size = w.heap.size + 1 := by subst hW1; simp
  have X0 : Bx W1 (w.heap.size) 30 [V 0, V 0] := by subst hW1; have h := Bx.alloc w 30 [V 0, V 0]; simpa using h
  have X0_0 := X0.cell (j := 0) rfl
  have X0_1 := X0.cell (j := 1) rfl
  have X0_z := X0.lt
  have HsW1 := Lib.hid sW1
  have lW1 : w.heap.size + 1 ≤ W1.heap.size := by omega
  clear hW1 sW1
  refine (l6Tour_c A n c _ hnc (Hb.out.nx gW1 gW1.size)).mono ?_
  rintro e w2 ⟨B, d, xs, rfl, h1, h2, ho2, hn2⟩
  have hz1 := hn2.size
  replace X0 := X0.nx hn2
  clear X0_0 X0_1 X0_z
  have hlt2 := ho2.lt
  obtain ⟨g, rfl, hg1, hg2⟩ := ho2.at (by omega)
  have HO := Lib.hid ho2
  have Hlt2 := Lib.hid hlt2
  clear ho2 hlt2
  go_wp2_with fail
  refine (open_l A n c _ hnc (Hb.out.nx (gW1.trans hn2) (gW1.trans hn2).size)).mono ?_
  rintro e w3 ⟨rfl, r3, hn3⟩
  have hz3 := r3.lt
  by_cases hlen : xs.length < 2
  · have hl0 : decide ((xs.length : Int) < 2) = true := decide_eq_true (by omega)
    have hl1 : ¬ (2 : Int) ≤ (xs.length : Int) := by omega
    go_wp2_with fail
    generalize hW6 : World.alloc _ _ = W6
    have gW6 : Nx w3 W6 := by subst hW6; exact (by repeat (first | exact Nx.refl _ | assumption | apply Nx.alloc | apply Nx.drew | apply Nx.drewN | (refine Nx.setCell ?_ (by first | (simp; done) | (simp; omega) | omega) _) | refine Nx.trans ?_ (by assumption)))
    have sW6 : W6.heap.size = w3.heap.size + 1 := by subst hW6; simp
    have L6 : Bx W6 (w3.heap.size) 3 [V 0, V 1] := by subst hW6; have h := Bx.alloc w3 3 [V 0, V 1]; simpa using h
    have L6_0 := L6.cell (j := 0) rfl
    have L6_1 := L6.cell (j := 1) rfl
    have L6_z := L6.lt
    have HsW6 := Lib.hid sW6
    have lW6 : w3.heap.size + 1 ≤ W6.heap.size := by omega
    clear hW6 sW6
    refine (num_l w2.heap.size (0) (some ⟨w3.heap.size, 0, none⟩) 2 [0, 1] _ (r3.nx gW6) (by omega) (L6.ints (xs := [0, 1])) (by simp) (by simp) (fun b off e => by injection e with e; injection e with e; omega)).mono ?_
    rintro e w7 ⟨v7, rfl, _, r7, x7⟩
    have hn7 : Nx w2 w7 := Rx.nx (hn3.trans gW6) x7 (Nat.le_refl _)
    have z7 := x7.size
    go_wp2_with fail
    generalize hW8 : World.alloc _ _ = W8
    have gW8 : Nx w7 W8 := by subst hW8; exact (by repeat (first | exact Nx.refl _ | assumption | apply Nx.alloc | apply Nx.drew | apply Nx.drewN | (refine Nx.setCell ?_ (by first | (simp; done) | (simp; omega) | omega) _) | refine Nx.trans ?_ (by assumption)))
    have sW8 : W8.heap.size = w7.heap.size + 1 := by subst hW8; simp
    have L8 : Bx W8 (w7.heap.size) 3 [V 2, V 15, V 1] := by subst hW8; have h := Bx.alloc w7 3 [V 2, V 15, V 1]; simpa using h
    have L8_0 := L8.cell (j := 0) rfl
    have L8_1 := L8.cell (j := 1) rfl
    have L8_2 := L8.cell (j := 2) rfl
    have L8_z := L8.lt
    have HsW8 := Lib.hid sW8
    have lW8 : w7.heap.size + 1 ≤ W8.heap.size := by omega
    clear hW8 sW8
    refine (num_l w2.heap.size (0 + 1) (some ⟨w7.heap.size, 0, none⟩) 3 [2, 15, 1] _ (r7.nx gW8) (by omega) (L8.ints (xs := [2, 15, 1])) (by simp) (by simp) (fun b off e => by injection e with e; injection e with e; omega)).mono ?_
    rintro e w9 ⟨v9, rfl, _, r9, x9⟩
    have hn9 : Nx w2 w9 := Rx.nx (hn7.trans gW8) x9 (Nat.le_refl _)
    have X9 := X0.nx hn9
    have q0 := X9.cell (j := 0) rfl
    have q1 := X9.cell (j := 1) rfl
    have qf := X9.free
    have ho9 := HO.out.nx hn9
    have Ho9 := Lib.hid ho9
    have NN := (gW1.trans hn2).trans hn9
    clear ho9 L6 L8 L6_0 L6_1 L6_z L8_0 L8_1 L8_2 L8_z
    go_wp2
    refine bodyPost_ret (v := .tuple #[.slice (some ⟨g, 0, none⟩) xs.length d, Ed v7 v9]) (by simp [results, Try.f16, go_sem, *]) rfl ?_
    exact ⟨_, d, xs, v7, v9, rfl, h1, h2, ((Ho9.out.far (by simp; omega) _).far (by simp; omega) _).mono (by omega), (by repeat (first | exact Nx.refl _ | assumption | apply Nx.alloc | apply Nx.drew | apply Nx.drewN | (refine Nx.setCell ?_ (by first | (simp; done) | (simp; omega) | omega) _) | refine Nx.trans ?_ (by assumption)))⟩
  · have hl0 : decide ((xs.length : Int) < 2) = false := decide_eq_false (by omega)
    go_wp2_with fail
    refine (pick_l w2.heap.size 0 10 _ r3 (by omega) (by omega) (by omega)).mono ?_
    rintro e w4 ⟨y, rfl, hy0, hy1, r4, x4⟩
    have hn4 : Nx w2 w4 := Rx.nx hn3 x4 (Nat.le_refl _)
    have hz4 := x4.size
    by_cases h6 : y = 0
    · subst h6
      go_wp2_with fail
      generalize hW6 : World.alloc _ _ = W6
      have gW6 : Nx w4 W6 := by subst hW6; exact (by repeat (first | exact Nx.refl _ | assumption | apply Nx.alloc | apply Nx.drew | apply Nx.drewN | (refine Nx.setCell ?_ (by first | (simp; done) | (simp; omega) | omega) _) | refine Nx.trans ?_ (by assumption)))
      have sW6 : W6.heap.size = w4.heap.size + 1 := by subst hW6; simp
      have L6 : Bx W6 (w4.heap.size) 3 [V 0, V 1] := by subst hW6; have h := Bx.alloc w4 3 [V 0, V 1]; simpa using h
      have L6_0 := L6.cell (j := 0) rfl
      have L6_1 := L6.cell (j := 1) rfl
      have L6_z := L6.lt
      have HsW6 := Lib.hid sW6
      have lW6 : w4.heap.size + 1 ≤ W6.heap.size := by omega
      clear hW6 sW6
      refine (num_l w2.heap.size (0 + 1) (some ⟨w4.heap.size, 0, none⟩) 2 [0, 1] _ (r4.nx gW6) (by omega) (L6.ints (xs := [0, 1])) (by simp) (by simp) (fun b off e => by injection e with e; injection e with e; omega)).mono ?_
      rintro e w7 ⟨v7, rfl, _, r7, x7⟩
      have hn7 : Nx w2 w7 := Rx.nx (hn4.trans gW6) x7 (Nat.le_refl _)
      have z7 := x7.size
      go_wp2_with fail
      generalize hW8 : World.alloc _ _ = W8
      have gW8 : Nx w7 W8 := by subst hW8; exact (by repeat (first | exact Nx.refl _ | assumption | apply Nx.alloc | apply Nx.drew | apply Nx.drewN | (refine Nx.setCell ?_ (by first | (simp; done) | (simp; omega) | omega) _) | refine Nx.trans ?_ (by assumption)))
      have sW8 : W8.heap.size = w7.heap.size + 1 := by subst hW8; simp
      have L8 : Bx W8 (w7.heap.size) 3 [V 2, V 15, V 1] := by subst hW8; have h := Bx.alloc w7 3 [V 2, V 15, V 1]; simpa using h
      have L8_0 := L8.cell (j := 0) rfl
      have L8_1 := L8.cell (j := 1) rfl
      have L8_2 := L8.cell (j := 2) rfl
      have L8_z := L8.lt
      have HsW8 := Lib.hid sW8
      have lW8 : w7.heap.size + 1 ≤ W8.heap.size := by omega
      clear hW8 sW8
      refine (num_l w2.heap.size (0 + 1 + 1) (some ⟨w7.heap.size, 0, none⟩) 3 [2, 15, 1] _ (r7.nx gW8) (by omega) (L8.ints (xs := [2, 15, 1])) (by simp) (by simp) (fun b off e => by injection e with e; injection e with e; omega)).mono ?_
      rintro e w9 ⟨v9, rfl, _, r9, x9⟩
      have hn9 : Nx w2 w9 := Rx.nx (hn7.trans gW8) x9 (Nat.le_refl _)
      have X9 := X0.nx hn9
      have q0 := X9.cell (j := 0) rfl
      have q1 := X9.cell (j := 1) rfl
      have qf := X9.free
      have ho9 := HO.out.nx hn9
      have Ho9 := Lib.hid ho9
      have NN := (gW1.trans hn2).trans hn9
      clear ho9 L6 L8 L6_0 L6_1 L6_z L8_0 L8_1 L8_2 L8_z
      go_wp2
      refine bodyPost_ret (v := .tuple #[.slice (some ⟨g, 0, none⟩) xs.length d, Ed v7 v9]) (by simp [results, Try.f16, go_sem, *]) rfl ?_
      exact ⟨_, d, xs, v7, v9, rfl, h1, h2, ((Ho9.out.far (by simp; omega) _).far (by simp; omega) _).mono (by omega), (by repeat (first | exact Nx.refl _ | assumption | apply Nx.alloc | apply Nx.drew | apply Nx.drewN | (refine Nx.setCell ?_ (by first | (simp; done) | (simp; omega) | omega) _) | refine Nx.trans ?_ (by assumption)))⟩
    · have h6b : (y == 0) = false := by simpa using h6
      have hwl : IntKind.i64.wrap ((xs.length : Int) - 1) = ((xs.length - 1 : Nat) : Int) := by rw [IntKind.wrap_i64]; omega
      clear hy1
      obtain ⟨m, hm⟩ : ∃ m, xs.length - 1 = m := ⟨_, rfl⟩
      have hm1 : ((xs.length : Nat) : Int) - 1 = (m : Int) := by omega
      have hmb : m ≤ 31 := by omega
      rw [hm] at hwl
      have Hm := Lib.hid hm
      clear hm
      go_wp2_with fail
      refine (pick_l w2.heap.size (0 + 1) _ _ r4 (by omega) (by omega) (by omega)).mono ?_
      rintro e w5 ⟨y5, rfl, hy5a, hy5b, r5, x5⟩
      have hn5 : Nx w2 w5 := Rx.nx hn4 x5 (Nat.le_refl _)
      have hz5 := x5.size
      obtain ⟨j, rfl⟩ := Int.eq_ofNat_of_zero_le hy5a
      have hjm : j + 1 < xs.length := by have := Hm.out; have := hy5b (by omega); omega
      clear hy5b hy5a hwl hm1
      have ho5 := HO.out.nx hn5
      have c1 := ho5.cell (k := j) (by omega)
      have c2 := ho5.cell hjm
      generalize xs[j] = p at *
      generalize xs[j + 1] = q at *
      obtain ⟨kk, hkk⟩ : ∃ kk, j + 1 = kk := ⟨_, rfl⟩
      rw [hkk] at c2 hjm
      have hk1 : IntKind.i64.wrap (1 + (j : Int)) = (kk : Int) := by rw [IntKind.wrap_i64]; omega
      have hk1' : 1 + (j : Int) = (kk : Int) := by omega
      have hk2 : IntKind.i64.wrap ((kk : Int) - 1) = (j : Int) := by rw [IntKind.wrap_i64]; omega
      have hjl : j < xs.length := by omega
      have hjl2 : (j : Int) < (xs.length : Int) := by omega
      have hkl2 : (kk : Int) < (xs.length : Int) := by omega
      have Hk2 := Lib.hid hk2
      have HO5 := Lib.hid ho5
      have X5 := X0.nx hn5
      have Hcon := Lib.hid (fun w' => l1Edge_c p q w')
      clear hkk hk2 ho5
      go_wp2
      generalize min p q = e1 at *
      generalize max p q = e2 at *
      have hk2 := Hk2.out
      have hd : Nx w5 w5.drew := .drew (.refl _)
      have hgz : g < w5.heap.size := by omega
      have kp : ∀ w', Rx w.heap.size w5 w' → (fun w_ => Rx w.heap.size w5 w_ ∧ w_.cell? ⟨g, j, none⟩ = some (V p) ∧ w_.cell? ⟨g, kk, none⟩ = some (V q)) w' := fun w' h => ⟨h, World.grownBy.cell h c1 (by simp; omega), World.grownBy.cell h c2 (by simp; omega)⟩
      go_region_held3 (fun w_ => Rx w.heap.size w5 w_ ∧ w_.cell? ⟨g, j, none⟩ = some (V p) ∧ w_.cell? ⟨g, kk, none⟩ = some (V q))
        (first | exact kp _ (((hn56.rx _).setCell _ _).setCell _ _) | exact kp _ (hn56.rx _) | exact kp _ (hd.rx _))
        ((go_at_call 52; (with_reducible refine (Hcon.out _).mono ?_); rintro e w6 ⟨rfl, hx6⟩; have hn56 := hd.trans hx6; have X6 := X5.nx hn56; have r0 := X6.cell (j := 0) rfl; have r1 := X6.cell (j := 1) rfl; have rf := X6.free))
      have ho6 := HO5.out.nx hn56
      have Ho6 := Lib.hid ho6
      have NN := ((gW1.trans hn2).trans hn5).trans hn56
      clear ho6 hk2
      go_wp2
      refine bodyPost_ret (v := .tuple #[.slice (some ⟨g, 0, none⟩) xs.length d, Ed e1 e2]) (by simp [results, Try.f16, go_sem, *]) rfl ?_
      exact ⟨_, d, xs, e1, e2, rfl, h1, h2, ((Ho6.out.far (by simp; omega) _).far (by simp; omega) _).mono (by omega), (by repeat (first | exact Nx.refl _ | assumption | apply Nx.alloc | apply Nx.drew | apply Nx.drewN | (refine Nx.setCell ?_ (by first | (simp; done) | (simp; omega) | omega) _) | refine Nx.trans ?_ (by assumption)))⟩
end Go.Proofs.Ytbceoigmcomlbaa
