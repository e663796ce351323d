/- Contracts: common, cutNode; l1Alone, l5Other, l5Cycle. -/
import Derived.Test.YtjchabeiaajgiaaC5
import Derived.Test.YtjchabeiaajgiaaY3
namespace Go.Proofs.Ytjchabeiaajgiaa
open Go.RowKit set_option linter.unusedVariables false set_option linter.unusedSimpArgs false

theorem edgesOneA {w : World} {b : Nat} {x y : Int} (hb : b < w.heap.size) (h0 : w.cell? ⟨b, 0, none⟩ = some (V x)) (h1 : w.cell? ⟨b, 1, none⟩ = some (V y)) : EdgesAt w (some ⟨b, 0, none⟩) [(x, y)] := fun _ =>
  ⟨b, 0, rfl, hb, fun k hk => by simp at hk; subst hk; exact ⟨h0, h1⟩⟩

/-- what common returns -/
def comV (e f : Int × Int) : Value := match com e f with
  | none => .tuple #[V 0, V 0, V 0, .bool false]
  | some (v, x, y) => .tuple #[V v, V x, V y, .bool true]
theorem comV_none {e f : Int × Int} (h : com e f = none) : comV e f = .tuple #[V 0, V 0, V 0, .bool false] := by simp [comV, h]
theorem comV_some {e f : Int × Int} {v x y : Int} (h : com e f = some (v, x, y)) : comV e f = .tuple #[V v, V x, V y, .bool true] := by simp [comV, h]

set_option maxRecDepth 100000 in
set_option maxHeartbeats 2000000 in
theorem common_c (a b c d : Int) (w : World) : Calls Try.prog 135 #[Ed a b, Ed c d] w (RetV (comV (a, b) (c, d)) w) := by
  by_cases e1 : (a == c) = true
  · rw [comV_some (v := a) (x := b) (y := d) (by simp at e1; simp [com, e1])]
    go_enter Try.func135, Try.ntmps135
    go_wp2
    generalize hW1 : World.alloc _ _ = W1
    have gW1 : Nx w W1 := by subst hW1; exact (by repeat (first | exact Nx.refl _ | assumption | apply Nx.alloc | apply Nx.drew | apply Nx.drewN | (refine Nx.setCell ?_ (by first | (simp; done) | (simp; omega) | omega) _) | refine Nx.trans ?_ (by assumption)))
    have sW1 : W1.heap.size = w.heap.size + 2 := by subst hW1; simp
    have X0 : Bx W1 (w.heap.size) 36 [V a, V b] := by subst hW1; have h := Bx.alloc w 36 [V a, V b]; have h := h.nx (Nx.alloc (Nx.refl _) (.cells #[V c, V d] 36)); simpa using h
    have X1 : Bx W1 (w.heap.size + 1) 36 [V c, V d] := by subst hW1; have h := Bx.alloc (w.alloc (.cells #[V a, V b] 36)) 36 [V c, V d]; simpa using h
    have X0_0 := X0.cell (j := 0) rfl
    have X0_1 := X0.cell (j := 1) rfl
    have X0_z := X0.lt
    have X1_0 := X1.cell (j := 0) rfl
    have X1_1 := X1.cell (j := 1) rfl
    have X1_z := X1.lt
    have HsW1 := Lib.hid sW1
    have lW1 : w.heap.size + 2 ≤ W1.heap.size := by omega
    clear hW1 sW1
    go_quiet (fail)
    go_wp2
    refine bodyPost_ret (v := .tuple #[V a, V b, V d, .bool true]) (by simp [results, Try.f135, go_sem, *]) rfl ?_
    exact RetV.mk rfl (gW1.drewN _)
  · have e1 : (a == c) = false := by simpa using e1
    by_cases e2 : (a == d) = true
    · rw [comV_some (v := a) (x := b) (y := c) (by simp at e1 e2; simp [com, e1, e2])]
      go_enter Try.func135, Try.ntmps135
      go_wp2
      generalize hW1 : World.alloc _ _ = W1
      have gW1 : Nx w W1 := by subst hW1; exact (by repeat (first | exact Nx.refl _ | assumption | apply Nx.alloc | apply Nx.drew | apply Nx.drewN | (refine Nx.setCell ?_ (by first | (simp; done) | (simp; omega) | omega) _) | refine Nx.trans ?_ (by assumption)))
      have sW1 : W1.heap.size = w.heap.size + 2 := by subst hW1; simp
      have X0 : Bx W1 (w.heap.size) 36 [V a, V b] := by subst hW1; have h := Bx.alloc w 36 [V a, V b]; have h := h.nx (Nx.alloc (Nx.refl _) (.cells #[V c, V d] 36)); simpa using h
      have X1 : Bx W1 (w.heap.size + 1) 36 [V c, V d] := by subst hW1; have h := Bx.alloc (w.alloc (.cells #[V a, V b] 36)) 36 [V c, V d]; simpa using h
      have X0_0 := X0.cell (j := 0) rfl
      have X0_1 := X0.cell (j := 1) rfl
      have X0_z := X0.lt
      have X1_0 := X1.cell (j := 0) rfl
      have X1_1 := X1.cell (j := 1) rfl
      have X1_z := X1.lt
      have HsW1 := Lib.hid sW1
      have lW1 : w.heap.size + 2 ≤ W1.heap.size := by omega
      clear hW1 sW1
      go_quiet (fail)
      go_wp2
      refine bodyPost_ret (v := .tuple #[V a, V b, V c, .bool true]) (by simp [results, Try.f135, go_sem, *]) rfl ?_
      exact RetV.mk rfl (gW1.drewN _)
    · have e2 : (a == d) = false := by simpa using e2
      by_cases e3 : (b == c) = true
      · rw [comV_some (v := b) (x := a) (y := d) (by simp at e1 e2 e3; simp [com, e1, e2, e3])]
        go_enter Try.func135, Try.ntmps135
        go_wp2
        generalize hW1 : World.alloc _ _ = W1
        have gW1 : Nx w W1 := by subst hW1; exact (by repeat (first | exact Nx.refl _ | assumption | apply Nx.alloc | apply Nx.drew | apply Nx.drewN | (refine Nx.setCell ?_ (by first | (simp; done) | (simp; omega) | omega) _) | refine Nx.trans ?_ (by assumption)))
        have sW1 : W1.heap.size = w.heap.size + 2 := by subst hW1; simp
        have X0 : Bx W1 (w.heap.size) 36 [V a, V b] := by subst hW1; have h := Bx.alloc w 36 [V a, V b]; have h := h.nx (Nx.alloc (Nx.refl _) (.cells #[V c, V d] 36)); simpa using h
        have X1 : Bx W1 (w.heap.size + 1) 36 [V c, V d] := by subst hW1; have h := Bx.alloc (w.alloc (.cells #[V a, V b] 36)) 36 [V c, V d]; simpa using h
        have X0_0 := X0.cell (j := 0) rfl
        have X0_1 := X0.cell (j := 1) rfl
        have X0_z := X0.lt
        have X1_0 := X1.cell (j := 0) rfl
        have X1_1 := X1.cell (j := 1) rfl
        have X1_z := X1.lt
        have HsW1 := Lib.hid sW1
        have lW1 : w.heap.size + 2 ≤ W1.heap.size := by omega
        clear hW1 sW1
        go_quiet (fail)
        go_wp2
        refine bodyPost_ret (v := .tuple #[V b, V a, V d, .bool true]) (by simp [results, Try.f135, go_sem, *]) rfl ?_
        exact RetV.mk rfl (gW1.drewN _)
      · have e3 : (b == c) = false := by simpa using e3
        by_cases e4 : (b == d) = true
        · rw [comV_some (v := b) (x := a) (y := c) (by simp at e1 e2 e3 e4; simp [com, e1, e2, e3, e4])]
          go_enter Try.func135, Try.ntmps135
          go_wp2
          generalize hW1 : World.alloc _ _ = W1
          have gW1 : Nx w W1 := by subst hW1; exact (by repeat (first | exact Nx.refl _ | assumption | apply Nx.alloc | apply Nx.drew | apply Nx.drewN | (refine Nx.setCell ?_ (by first | (simp; done) | (simp; omega) | omega) _) | refine Nx.trans ?_ (by assumption)))
          have sW1 : W1.heap.size = w.heap.size + 2 := by subst hW1; simp
          have X0 : Bx W1 (w.heap.size) 36 [V a, V b] := by subst hW1; have h := Bx.alloc w 36 [V a, V b]; have h := h.nx (Nx.alloc (Nx.refl _) (.cells #[V c, V d] 36)); simpa using h
          have X1 : Bx W1 (w.heap.size + 1) 36 [V c, V d] := by subst hW1; have h := Bx.alloc (w.alloc (.cells #[V a, V b] 36)) 36 [V c, V d]; simpa using h
          have X0_0 := X0.cell (j := 0) rfl
          have X0_1 := X0.cell (j := 1) rfl
          have X0_z := X0.lt
          have X1_0 := X1.cell (j := 0) rfl
          have X1_1 := X1.cell (j := 1) rfl
          have X1_z := X1.lt
          have HsW1 := Lib.hid sW1
          have lW1 : w.heap.size + 2 ≤ W1.heap.size := by omega
          clear hW1 sW1
          go_quiet (fail)
          go_wp2
          refine bodyPost_ret (v := .tuple #[V b, V a, V c, .bool true]) (by simp [results, Try.f135, go_sem, *]) rfl ?_
          exact RetV.mk rfl (gW1.drewN _)
        · have e4 : (b == d) = false := by simpa using e4
          rw [comV_none (by simp at e1 e2 e3 e4; simp [com, e1, e2, e3, e4])]
          go_enter Try.func135, Try.ntmps135
          go_wp2
          refine bodyPost_ret (v := .tuple #[V 0, V 0, V 0, .bool false]) (by simp [results, Try.f135, go_sem, *]) rfl ?_
          exact RetV.mk rfl (by repeat (first | exact Nx.refl _ | assumption | apply Nx.alloc | apply Nx.drew | apply Nx.drewN | (refine Nx.setCell ?_ (by first | (simp; done) | (simp; omega) | omega) _) | refine Nx.trans ?_ (by assumption)))

/-- the closure of cutNode: does the edge touch the node? -/
theorem nodeIs_c (b : Nat) (u x y : Int) (w : World) (h0 : w.cell? ⟨b, 0, none⟩ = some (V u)) :
    Calls Try.prog 156 #[Ed x y, .pointer (some ⟨b, 0, none⟩)] w (RetV (.bool (decide (x = u ∨ y = u))) w) := by
  have hb : b < w.heap.size := World.block_lt_of_cell? w _ h0
  by_cases e1 : (x == u) = true
  · go_enter Try.func156, Try.ntmps156
    go_wp2
    go_ret
    exact RetV.bool (by simp at e1; simp [e1]) (by repeat (first | exact Nx.refl _ | assumption | apply Nx.alloc | apply Nx.drew | apply Nx.drewN | (refine Nx.setCell ?_ (by first | (simp; done) | (simp; omega) | omega) _) | refine Nx.trans ?_ (by assumption)))
  · have e1 : (x == u) = false := by simpa using e1
    by_cases e2 : (y == u) = true
    · go_enter Try.func156, Try.ntmps156
      go_wp2
      go_ret
      exact RetV.bool (by simp at e2; simp [e2]) (by repeat (first | exact Nx.refl _ | assumption | apply Nx.alloc | apply Nx.drew | apply Nx.drewN | (refine Nx.setCell ?_ (by first | (simp; done) | (simp; omega) | omega) _) | refine Nx.trans ?_ (by assumption)))
    · have e2 : (y == u) = false := by simpa using e2
      go_enter Try.func156, Try.ntmps156
      go_wp2
      go_ret
      exact RetV.bool (by simp at e1 e2; simp [e1, e2]) (by repeat (first | exact Nx.refl _ | assumption | apply Nx.alloc | apply Nx.drew | apply Nx.drewN | (refine Nx.setCell ?_ (by first | (simp; done) | (simp; omega) | omega) _) | refine Nx.trans ?_ (by assumption)))

set_option maxRecDepth 100000 in
set_option maxHeartbeats 2000000 in
theorem cutNode_c (n : Int) (A : Option Addr) (c : Nat) (es : List (Int × Int)) (u : Int) (w : World) (hx : EdgesAt w A es) (hl : es.length ≤ 1048576) :
    Calls Try.prog 128 #[.agg #[V n, .slice A es.length c], V u] w (RetG 36 n (aloneL es u) w) := by
  have Hys := Lib.hid (show (es.filter fun e => !decide (e.1 = u ∨ e.2 = u)) = aloneL es u from rfl)
  generalize aloneL es u = ys at Hys ⊢
  go_enter Try.func128, Try.ntmps128
  go_wp2_with fail
  generalize hW1 : World.alloc _ _ = W1
  have gW1 : Nx w W1 := by subst hW1; exact (by repeat (first | exact Nx.refl _ | assumption | apply Nx.alloc | apply Nx.drew | apply Nx.drewN | (refine Nx.setCell ?_ (by first | (simp; done) | (simp; omega) | omega) _) | refine Nx.trans ?_ (by assumption)))
  have sW1 : W1.heap.size = w.heap.size + 3 := by subst hW1; simp
  have X0 : Bx W1 (w.heap.size) 26 [V n, .slice A es.length c] := by subst hW1; have h := Bx.alloc w 26 [V n, .slice A es.length c]; have h := h.nx (Nx.alloc (Nx.refl _) (.cells #[V u] 3)); have h := h.nx (Nx.alloc (Nx.refl _) (.cells #[V 0, .slice none 0 0] 26)); simpa using h
  have X1 : Bx W1 (w.heap.size + 1) 3 [V u] := by subst hW1; have h := Bx.alloc (w.alloc (.cells #[V n, .slice A es.length c] 26)) 3 [V u]; have h := h.nx (Nx.alloc (Nx.refl _) (.cells #[V 0, .slice none 0 0] 26)); simpa using h
  have X2 : Bx W1 (w.heap.size + 2) 26 [V 0, .slice none 0 0] := by subst hW1; have h := Bx.alloc ((w.alloc (.cells #[V n, .slice A es.length c] 26)).alloc (.cells #[V u] 3)) 26 [V 0, .slice none 0 0]; simpa using h
  have X0_0 := X0.cell (j := 0) rfl
  have X0_1 := X0.cell (j := 1) rfl
  have X0_z := X0.lt
  have X1_0 := X1.cell (j := 0) rfl
  have X1_z := X1.lt
  have X2_0 := X2.cell (j := 0) rfl
  have X2_1 := X2.cell (j := 1) rfl
  have X2_z := X2.lt
  have HsW1 := Lib.hid sW1
  have lW1 : w.heap.size + 3 ≤ W1.heap.size := by omega
  clear hW1 sW1
  refine (without_c 156 #[] #[.pointer (some ⟨w.heap.size + 1, 0, none⟩)] (fun f => decide (f.1 = u ∨ f.2 = u)) (enters_of Try.func156 (by rfl) rfl) n A c es _ (hx.nx gW1) hl (fun W x y _ hW => ?_)).mono ?_
  · have hWn : Nx W1 W := ⟨hW.os, hW.tape, hW.output, hW.size, fun k hk => hW.block k hk (by simp)⟩
    exact nodeIs_c (w.heap.size + 1) u x y W (hWn.cell X1_z X1_0)
  rintro e w2 ⟨B, d, rfl, ho2, hn2⟩
  rw [Hys.out] at ho2 ⊢
  replace X2 := X2.nx hn2
  have r0 := X2.cell (j := 0) rfl
  have r1 := X2.cell (j := 1) rfl
  have rf := X2.free
  have r2 := X2.lt
  clear X0_0 X0_1 X1_0 X2_0 X2_1
  go_wp2
  refine bodyPost_ret (v := .agg #[V n, .slice B ys.length d]) (by simp [results, Try.f128, go_sem, *]) rfl ?_
  refine ⟨B, d, rfl, ?_, (by repeat (first | exact Nx.refl _ | assumption | apply Nx.alloc | apply Nx.drew | apply Nx.drewN | (refine Nx.setCell ?_ (by first | (simp; done) | (simp; omega) | omega) _) | refine Nx.trans ?_ (by assumption)))⟩
  exact ((ho2.far (by simp; omega) _).far (by simp; omega) _).mono (by omega)

theorem l5Other_c (a b u : Int) (w : World) : Calls Try.prog 176 #[Ed a b, V u] w (RetV (V (oth (a, b) u)) w) := by
  by_cases e1 : (u == a) = true
  · go_enter Try.func176, Try.ntmps176
    go_wp2
    go_ret
    exact RetV.int (by simp at e1; simp [oth, e1]) (by repeat (first | exact Nx.refl _ | assumption | apply Nx.alloc | apply Nx.drew | apply Nx.drewN | (refine Nx.setCell ?_ (by first | (simp; done) | (simp; omega) | omega) _) | refine Nx.trans ?_ (by assumption)))
  · have e1 : (u == a) = false := by simpa using e1
    by_cases e2 : (u == b) = true
    · go_enter Try.func176, Try.ntmps176
      go_wp2
      go_ret
      exact RetV.int (by simp at e1 e2; simp [oth, e2]; intro h; omega) (by repeat (first | exact Nx.refl _ | assumption | apply Nx.alloc | apply Nx.drew | apply Nx.drewN | (refine Nx.setCell ?_ (by first | (simp; done) | (simp; omega) | omega) _) | refine Nx.trans ?_ (by assumption)))
    · have e2 : (u == b) = false := by simpa using e2
      go_enter Try.func176, Try.ntmps176
      go_wp2
      go_ret
      exact RetV.int (by simp at e1 e2; simp [oth, e1, e2]) (by repeat (first | exact Nx.refl _ | assumption | apply Nx.alloc | apply Nx.drew | apply Nx.drewN | (refine Nx.setCell ?_ (by first | (simp; done) | (simp; omega) | omega) _) | refine Nx.trans ?_ (by assumption)))

theorem alone_step {es : Es} {u : Int} {x : Int × Int} {k : Nat} (h : es[k]? = some x) : aloneL (es.take (k + 1)) u = aloneL (es.take k) u ++ if x.1 = u ∨ x.2 = u then [] else [x] := by
  unfold aloneL
  rw [filter_take_succ _ h]
  by_cases hx : x.1 = u ∨ x.2 = u <;> simp [hx]

set_option maxRecDepth 100000 in
set_option maxHeartbeats 4000000 in
theorem l1Alone_c (n : Int) (A : Option Addr) (c : Nat) (es : List (Int × Int)) (u : Int) (w : World) (hx : EdgesAt w A es) (hl : es.length ≤ 1048576) :
    Calls Try.prog 133 #[.agg #[V n, .slice A es.length c], V u] w (RetG 36 n (aloneL es u) w) := by
  obtain ⟨i0, hi, hz0, hz1, hz2⟩ := info_parts infoE
  have Hi := Lib.hid hi
  have Hz0 := Lib.hid hz0
  have Hz1 := Lib.hid hz1
  have Hz2 := Lib.hid hz2
  clear hi hz0 hz1 hz2
  go_enter Try.func133, Try.ntmps133
  go_wp2_with fail
  generalize hW1 : World.alloc _ _ = W1
  have gW1 : Nx w W1 := by subst hW1; exact (by repeat (first | exact Nx.refl _ | assumption | apply Nx.alloc | apply Nx.drew | apply Nx.drewN | (refine Nx.setCell ?_ (by first | (simp; done) | (simp; omega) | omega) _) | refine Nx.trans ?_ (by assumption)))
  have sW1 : W1.heap.size = w.heap.size + 4 := by subst hW1; simp
  have X0 : Bx W1 (w.heap.size) 26 [V n, .slice A es.length c] := by subst hW1; have h := Bx.alloc w 26 [V n, .slice A es.length c]; have h := h.nx (Nx.alloc (Nx.refl _) (.cells #[V 0, .slice none 0 0] 26)); have h := h.nx (Nx.alloc (Nx.refl _) (.cells #[] 36)); have h := h.nx (Nx.alloc (Nx.refl _) (.cells #[V n, .slice (some ⟨w.heap.size + 2, 0, none⟩) 0 0] 26)); simpa using h
  have X1 : Bx W1 (w.heap.size + 1) 26 [V 0, .slice none 0 0] := by subst hW1; have h := Bx.alloc (w.alloc (.cells #[V n, .slice A es.length c] 26)) 26 [V 0, .slice none 0 0]; have h := h.nx (Nx.alloc (Nx.refl _) (.cells #[] 36)); have h := h.nx (Nx.alloc (Nx.refl _) (.cells #[V n, .slice (some ⟨w.heap.size + 2, 0, none⟩) 0 0] 26)); simpa using h
  have X2 : Bx W1 (w.heap.size + 2) 36 [] := by subst hW1; have h := Bx.alloc ((w.alloc (.cells #[V n, .slice A es.length c] 26)).alloc (.cells #[V 0, .slice none 0 0] 26)) 36 []; have h := h.nx (Nx.alloc (Nx.refl _) (.cells #[V n, .slice (some ⟨w.heap.size + 2, 0, none⟩) 0 0] 26)); simpa using h
  have X3 : Bx W1 (w.heap.size + 3) 26 [V n, .slice (some ⟨w.heap.size + 2, 0, none⟩) 0 0] := by subst hW1; have h := Bx.alloc (((w.alloc (.cells #[V n, .slice A es.length c] 26)).alloc (.cells #[V 0, .slice none 0 0] 26)).alloc (.cells #[] 36)) 26 [V n, .slice (some ⟨w.heap.size + 2, 0, none⟩) 0 0]; simpa using h
  have X0_0 := X0.cell (j := 0) rfl
  have X0_1 := X0.cell (j := 1) rfl
  have X0_z := X0.lt
  have X1_0 := X1.cell (j := 0) rfl
  have X1_1 := X1.cell (j := 1) rfl
  have X1_z := X1.lt
  have X2_z := X2.lt
  have X3_0 := X3.cell (j := 0) rfl
  have X3_1 := X3.cell (j := 1) rfl
  have X3_z := X3.lt
  have HsW1 := Lib.hid sW1
  have lW1 : w.heap.size + 4 ≤ W1.heap.size := by omega
  clear hW1 sW1
  have ho1 : OwnE W1 (w.heap.size + 2) 36 _ 0 [] := X2.emptyE (Nat.le_refl _)
  go_loopg [6] es.length (fun gk i wr => ∃ (k : Nat) (A' : Option Addr) (c' : Nat) (L : Es), k + gk = es.length ∧ i = .int .i64 k ∧ L = aloneL (es.take k) u ∧ Bx wr (w.heap.size + 3) 26 [V n, .slice A' L.length c'] ∧ OwnE wr (w.heap.size + 2) 36 A' c' L ∧ (∀ j, blk A' = some j → j = w.heap.size + 2 ∨ W1.heap.size ≤ j) ∧ Gx (fun k => k = w.heap.size + 2 ∨ k = w.heap.size + 3) W1 wr)
  case atStart => exact ⟨0, _, 0, [], by omega, rfl, by simp [aloneL], X3, ho1, fun j h => by simp [blk] at h; omega, Gx.refl _ _⟩
  case round =>
    obtain ⟨k, A', c', L, hk, rfl, hL, hbo, hown, hA', hgx⟩ := hrel
    have hsz := hgx.size
    have Y0 := hgx.bx X0 (by omega)
    have Y0_0 := Y0.cell (j := 0) rfl
    have Y0_1 := Y0.cell (j := 1) rfl
    have Y1 := hgx.bx X1 (by omega)
    have q0 := hbo.cell (j := 0) rfl
    have q1 := hbo.cell (j := 1) rfl
    have HL := Lib.hid hL
    have hlen : L.length ≤ k := by rw [hL]; exact Nat.le_trans (aloneL_len _ _) (List.length_take_le _ _)
    clear hL
    by_cases hlt : k < es.length
    · have hek : es[k]? = some es[k] := List.getElem?_eq_getElem hlt
      have hst := alone_step (u := u) hek
      obtain ⟨b, off, rfl, hbl2, hc⟩ := hx (by omega)
      have h1 := hgx.cell (by omega) (by omega) (gW1.cell (p := ⟨b, off + k * 2, none⟩) hbl2 (hc k hlt).1)
      have h2 := hgx.cell (by omega) (by omega) (gW1.cell (p := ⟨b, off + k * 2 + 1, none⟩) hbl2 (hc k hlt).2)
      clear hc hek X0 X1 X2 X3 X0_0 X0_1 X1_0 X1_1 X3_0 X3_1 hx ho1
      generalize es[k] = e at *
      obtain ⟨x, y⟩ := e
      rw [← HL.out] at hst
      have Hst := Lib.hid hst
      have HA' := Lib.hid hA'
      clear hst hA'
      have hbz : b < wr.heap.size := by have := gW1.size; omega
      have qz := hbo.lt
      have Yz := Y0.lt
      have hgxr : Gx (fun k => k = w.heap.size + 2 ∨ k = w.heap.size + 3) W1 wr := hgx
      have skip : (x = u ∨ y = u) → aloneL (es.take (k + 1)) u = L := fun h => by rw [Hst.out]; simp [h]
      have keep : (¬ (x = u ∨ y = u)) → aloneL (es.take (k + 1)) u = L ++ [(x, y)] := fun h => by rw [Hst.out]; simp [h]
      have Skip := Lib.hid skip
      have Keep := Lib.hid keep
      clear skip keep
      by_cases e1 : (x != u) = true
      · by_cases e2 : (y != u) = true
        · have hk2 := Keep.out (by simp at e1 e2; simp [e1, e2])
          have Hk2 := Lib.hid hk2
          clear hk2
          have hb3d := hbo.nx (.drew (.refl _))
          have hnd : Nx wr (wr.alloc (.cells #[V x, V y] 36)).drew := .drew (.alloc (.refl _) _)
          have heo : EdgesAt (wr.alloc (.cells #[V x, V y] 36)) (some ⟨wr.heap.size, 0, none⟩) [(x, y)] := edgesOneA (by simp) (cellN rfl rfl) (cellN rfl rfl)
          replace heo := heo.nx (Nx.drew (Nx.refl _))
          have ho3d := hown.nx hnd
          go_wp2
          go_region_law (refine stepEs (A := A') (c := c') (c' := 1) L [(x, y)] rfl rfl Try.underlying24 Hi.out Hz0.out Hz1.out Hz2.out rfl (by go_simp) ho3d (by go_simp) heo (by simp; omega) (by simp; omega) ?_; intro A2 c2 w5 ho5 hgr5 hbl5; have hb5 := (hbo.nx hnd).grown hgr5 (fun h => by rcases HA'.out _ h with h | h <;> omega); have r0 := hb5.cell (j := 0) rfl; have r1 := hb5.cell (j := 1) rfl; have rf := hb5.free)
          all_goals go_wp2
          all_goals go_roundg (gk - 1)
          all_goals first
            | omega
            | (refine ⟨k + 1, A2, c2, L ++ [(x, y)], by omega, by go_num, by rw [Hk2.out], ?_, ?_, ?_, ?_⟩
               · rw [List.length_append]
                 exact hb5.set (j := 1) _
               · exact ho5.other (fun k hk e => by rcases hbl5 with h | h; rw [h] at hk; rcases HA'.out _ hk with h | h <;> omega; rw [h] at hk; injection hk with hk; simp at hk; omega) _ _
               · intro j hj
                 rcases hbl5 with h | h
                 · exact HA'.out j (h ▸ hj)
                 · rw [h] at hj; injection hj with hj; simp at hj; exact .inr (by omega)
               · exact ((hgxr.nx hnd).grown hgr5 (fun j hj => by rcases HA'.out _ hj with h | h; exact .inl (.inl h); exact .inr h)).setCell (.inl (.inr rfl)) _ _)
        · have e2 : (y != u) = false := by simpa using e2
          go_wp2
          go_roundg (gk - 1)
          case measure => omega
          case rel => exact ⟨k + 1, A', c', L, by omega, by go_num, by rw [Skip.out (by simp at e2; simp [e2])], hbo, hown, HA'.out, hgxr⟩
      · have e1 : (x != u) = false := by simpa using e1
        go_wp2
        go_roundg (gk - 1)
        case measure => omega
        case rel => exact ⟨k + 1, A', c', L, by omega, by go_num, by rw [Skip.out (by simp at e1; simp [e1])], hbo, hown, HA'.out, hgxr⟩
    · have he : es.take k = es := List.take_of_length_le (by omega)
      have hbl : L = aloneL es u := by rw [HL.out, he]
      subst hbl
      have Y1_0 := Y1.cell (j := 0) rfl
      have Y1_1 := Y1.cell (j := 1) rfl
      have Yf := Y1.free
      have hnw : Nx w wr := hgx.back gW1 (fun k hk => by omega)
      have Hown := Lib.hid hown
      clear hown HL he
      generalize aloneL es u = L at *
      go_wp2
      refine bodyPost_ret (v := .agg #[V n, .slice A' L.length c']) (by simp [results, Try.f133, go_sem, *]) rfl ?_
      refine ⟨A', c', rfl, ?_, (by repeat (first | exact Nx.refl _ | assumption | apply Nx.alloc | apply Nx.drew | apply Nx.drewN | (refine Nx.setCell ?_ (by first | (simp; done) | (simp; omega) | omega) _) | refine Nx.trans ?_ (by assumption)))⟩
      have hne : ∀ k, blk A' = some k → k ≠ w.heap.size + 1 := fun k hk e => by rcases hA' _ hk with h | h <;> omega
      exact ((Hown.out.other hne _ _).other hne _ _).mono (by omega)
end Go.Proofs.Ytjchabeiaajgiaa
