/- Contract: PutEdge of the program. -/
import Derived.Test.YtjchabeiaajgiaaI3
namespace Go.Proofs.Ytjchabeiaajgiaa
open Go.RowKit set_option linter.unusedVariables false set_option linter.unusedSimpArgs false

theorem bxN0 {w : World} {a b : Value} {t : TypeId} : Bx (w.alloc (.cells #[a, b] t)) w.heap.size t [a, b] := Bx.alloc w t [a, b]
theorem bxN1 {w : World} {o : Obj} {a b : Value} {t : TypeId} : Bx ((w.alloc o).alloc (.cells #[a, b] t)) (w.heap.size + 1) t [a, b] := by
  have h := Bx.alloc (w.alloc o) t [a, b]
  simpa using h

set_option maxRecDepth 100000 in
set_option maxHeartbeats 8000000 in
theorem iPutEdge_c (n : Int) (A : Option Addr) (c : Nat) (es : List (Int × Int)) (u v : Int) (w : World) (hx : EdgesAt w A es) (hl : es.length ≤ 1048576) :
    Calls Try.prog 59 #[.agg #[V n, .slice A es.length c], Ed u v] w (RetGB 36 (putN n es (u, v)) (putE n es (u, v)) (putB n es (u, v)) w) := by
  have hgv := iGraphValid_c n A c es
  by_cases hv : Valid n es
  · rw [show decide (Valid n es) = true by simpa using hv] at hgv
    have Hgv := Lib.hid hgv
    have hhas := has_c n A c es u v
    clear hgv
    by_cases hm : (u, v) ∈ es
    · rw [show decide ((u, v) ∈ es) = true by simpa using hm] at hhas
      have Hhas := Lib.hid hhas
      obtain ⟨e1, e2, e3⟩ := put_no (fun h : PutP n es (u, v) => h.2.1 hm)
      rw [e1, e2, e3]
      clear e1 e2 e3 hv hm hhas
      go_enter Try.func59, Try.ntmps59
      go_wp2_with fail
      generalize hW1 : World.alloc _ _ = W1
      have gW1 : Nx w W1 := by subst hW1; exact (by repeat (first | exact Nx.refl _ | assumption | apply Nx.alloc | apply Nx.drew | apply Nx.drewN | (refine Nx.setCell ?_ (by first | (simp; done) | (simp; omega) | omega) _) | refine Nx.trans ?_ (by assumption)))
      have sW1 : W1.heap.size = w.heap.size + 3 := by subst hW1; simp
      have X0 : Bx W1 (w.heap.size) 26 [V n, .slice A es.length c] := by subst hW1; have h := Bx.alloc w 26 [V n, .slice A es.length c]; have h := h.nx (Nx.alloc (Nx.refl _) (.cells #[V u, V v] 36)); have h := h.nx (Nx.alloc (Nx.refl _) (.cells #[V 0, .slice none 0 0] 26)); simpa using h
      have X1 : Bx W1 (w.heap.size + 1) 36 [V u, V v] := by subst hW1; have h := Bx.alloc (w.alloc (.cells #[V n, .slice A es.length c] 26)) 36 [V u, V v]; have h := h.nx (Nx.alloc (Nx.refl _) (.cells #[V 0, .slice none 0 0] 26)); simpa using h
      have X2 : Bx W1 (w.heap.size + 2) 26 [V 0, .slice none 0 0] := by subst hW1; have h := Bx.alloc ((w.alloc (.cells #[V n, .slice A es.length c] 26)).alloc (.cells #[V u, V v] 36)) 26 [V 0, .slice none 0 0]; simpa using h
      have X0_0 := X0.cell (j := 0) rfl
      have X0_1 := X0.cell (j := 1) rfl
      have X0_z := X0.lt
      have X1_0 := X1.cell (j := 0) rfl
      have X1_1 := X1.cell (j := 1) rfl
      have X1_z := X1.lt
      have X2_0 := X2.cell (j := 0) rfl
      have X2_1 := X2.cell (j := 1) rfl
      have X2_z := X2.lt
      have HsW1 := Lib.hid sW1
      have lW1 : w.heap.size + 3 ≤ W1.heap.size := by omega
      clear hW1 sW1
      refine (Hgv.out _ (hx.nx gW1) (by omega)).mono ?_
      rintro e w2 ⟨rfl, hn2⟩
      replace X0 := X0.nx hn2
      replace X0_0 := X0.cell (j := 0) rfl
      replace X0_1 := X0.cell (j := 1) rfl
      replace X0_z := X0.lt
      replace X1 := X1.nx hn2
      replace X1_0 := X1.cell (j := 0) rfl
      replace X1_1 := X1.cell (j := 1) rfl
      replace X1_z := X1.lt
      replace X2 := X2.nx hn2
      replace X2_0 := X2.cell (j := 0) rfl
      replace X2_1 := X2.cell (j := 1) rfl
      replace X2_z := X2.lt
      go_wp2_with fail
      refine (Hhas.out _ ((hx.nx gW1).nx hn2) (by omega)).mono ?_
      rintro e w3 ⟨rfl, hn3⟩
      replace X0 := X0.nx hn3
      replace X0_0 := X0.cell (j := 0) rfl
      replace X0_1 := X0.cell (j := 1) rfl
      replace X0_z := X0.lt
      replace X1 := X1.nx hn3
      replace X1_0 := X1.cell (j := 0) rfl
      replace X1_1 := X1.cell (j := 1) rfl
      replace X1_z := X1.lt
      replace X2 := X2.nx hn3
      replace X2_0 := X2.cell (j := 0) rfl
      replace X2_1 := X2.cell (j := 1) rfl
      replace X2_z := X2.lt
      have hn03 : Nx w w3 := (gW1.trans hn2).trans hn3
      have rf := X2.free
      go_wp2
      refine bodyPost_ret (v := .tuple #[.agg #[V 0, .slice none 0 0], .bool false]) (by simp [results, Try.f59, go_sem, *]) rfl ?_
      exact ⟨none, 0, rfl, OwnE.nil _ _ _, (by repeat (first | exact Nx.refl _ | assumption | apply Nx.alloc | apply Nx.drew | apply Nx.drewN | (refine Nx.setCell ?_ (by first | (simp; done) | (simp; omega) | omega) _) | refine Nx.trans ?_ (by assumption)))⟩
    · rw [show decide ((u, v) ∈ es) = false by simpa using hm] at hhas
      have Hhas := Lib.hid hhas
      have Hv := Lib.hid hv
      have Hm := Lib.hid hm
      have Hpi := Lib.hid (putL_ins es (u, v) hm)
      have Hso := Lib.hid hv.sorted
      have hpl := putL_length es (u, v)
      have hpl2 : (putL es (u, v)).length ≤ 1048577 := by omega
      have hloc := locE_le es (u, v)
      clear hv hm hpl hhas
      go_enter Try.func59, Try.ntmps59
      go_wp2_with fail
      generalize hW1 : World.alloc _ _ = W1
      have gW1 : Nx w W1 := by subst hW1; exact (by repeat (first | exact Nx.refl _ | assumption | apply Nx.alloc | apply Nx.drew | apply Nx.drewN | (refine Nx.setCell ?_ (by first | (simp; done) | (simp; omega) | omega) _) | refine Nx.trans ?_ (by assumption)))
      have sW1 : W1.heap.size = w.heap.size + 3 := by subst hW1; simp
      have X0 : Bx W1 (w.heap.size) 26 [V n, .slice A es.length c] := by subst hW1; have h := Bx.alloc w 26 [V n, .slice A es.length c]; have h := h.nx (Nx.alloc (Nx.refl _) (.cells #[V u, V v] 36)); have h := h.nx (Nx.alloc (Nx.refl _) (.cells #[V 0, .slice none 0 0] 26)); simpa using h
      have X1 : Bx W1 (w.heap.size + 1) 36 [V u, V v] := by subst hW1; have h := Bx.alloc (w.alloc (.cells #[V n, .slice A es.length c] 26)) 36 [V u, V v]; have h := h.nx (Nx.alloc (Nx.refl _) (.cells #[V 0, .slice none 0 0] 26)); simpa using h
      have X2 : Bx W1 (w.heap.size + 2) 26 [V 0, .slice none 0 0] := by subst hW1; have h := Bx.alloc ((w.alloc (.cells #[V n, .slice A es.length c] 26)).alloc (.cells #[V u, V v] 36)) 26 [V 0, .slice none 0 0]; simpa using h
      have X0_0 := X0.cell (j := 0) rfl
      have X0_1 := X0.cell (j := 1) rfl
      have X0_z := X0.lt
      have X1_0 := X1.cell (j := 0) rfl
      have X1_1 := X1.cell (j := 1) rfl
      have X1_z := X1.lt
      have X2_0 := X2.cell (j := 0) rfl
      have X2_1 := X2.cell (j := 1) rfl
      have X2_z := X2.lt
      have HsW1 := Lib.hid sW1
      have lW1 : w.heap.size + 3 ≤ W1.heap.size := by omega
      clear hW1 sW1
      refine (Hgv.out _ (hx.nx gW1) (by omega)).mono ?_
      rintro e w2 ⟨rfl, hn2⟩
      replace X0 := X0.nx hn2
      replace X0_0 := X0.cell (j := 0) rfl
      replace X0_1 := X0.cell (j := 1) rfl
      replace X0_z := X0.lt
      replace X1 := X1.nx hn2
      replace X1_0 := X1.cell (j := 0) rfl
      replace X1_1 := X1.cell (j := 1) rfl
      replace X1_z := X1.lt
      replace X2 := X2.nx hn2
      replace X2_0 := X2.cell (j := 0) rfl
      replace X2_1 := X2.cell (j := 1) rfl
      replace X2_z := X2.lt
      go_wp2_with fail
      refine (Hhas.out _ ((hx.nx gW1).nx hn2) (by omega)).mono ?_
      rintro e w3 ⟨rfl, hn3⟩
      replace X0 := X0.nx hn3
      replace X0_0 := X0.cell (j := 0) rfl
      replace X0_1 := X0.cell (j := 1) rfl
      replace X0_z := X0.lt
      replace X1 := X1.nx hn3
      replace X1_0 := X1.cell (j := 0) rfl
      replace X1_1 := X1.cell (j := 1) rfl
      replace X1_z := X1.lt
      replace X2 := X2.nx hn3
      replace X2_0 := X2.cell (j := 0) rfl
      replace X2_1 := X2.cell (j := 1) rfl
      replace X2_z := X2.lt
      have hn03 : Nx w w3 := (gW1.trans hn2).trans hn3
      have hg3 := hx.nx hn03
      go_wp2_with fail
      refine (bsearchE_c A c es u v _ hg3 (by omega) Hso.out).mono ?_
      rintro e w4 ⟨fb, rfl, hn4⟩
      replace X0 := X0.nx hn4
      replace X0_0 := X0.cell (j := 0) rfl
      replace X0_1 := X0.cell (j := 1) rfl
      replace X0_z := X0.lt
      replace X1 := X1.nx hn4
      replace X1_0 := X1.cell (j := 0) rfl
      replace X1_1 := X1.cell (j := 1) rfl
      replace X1_z := X1.lt
      replace X2 := X2.nx hn4
      replace X2_0 := X2.cell (j := 0) rfl
      replace X2_1 := X2.cell (j := 1) rfl
      replace X2_z := X2.lt
      have hn04 : Nx w w4 := hn03.trans hn4
      have hg4 := hx.nx hn04
      have gz4 : W1.heap.size ≤ w4.heap.size := Nat.le_trans hn2.size (Nat.le_trans hn3.size hn4.size)
      generalize locE es (u, v) = k at *
      go_upto_region 4 with (fail)
      go_cut [8] from 9 (fun s8 wc => ∃ (b8 : Nat) (B5 : Option Addr) (d5 : Nat), s8 = .pointer (some ⟨b8, 0, none⟩) ∧ Nx w4 wc ∧ b8 < wc.heap.size ∧ wc.cell? ⟨b8, 0, none⟩ = some (V n) ∧ wc.cell? ⟨b8, 1, none⟩ = some (.slice B5 (insL es k (u, v)).length d5) ∧ OwnE wc w4.heap.size 36 B5 d5 (insL es k (u, v)))
      case first =>
        have kp : ∀ w', Nx w4 w' → (fun w_ => Nx w4 w_ ∧ w_.cell? ⟨w.heap.size, 0, none⟩ = some (V n) ∧ w_.cell? ⟨w.heap.size, 1, none⟩ = some (.slice A es.length c) ∧ w_.cell? ⟨w.heap.size + 1, 0, none⟩ = some (V u) ∧ w_.cell? ⟨w.heap.size + 1, 1, none⟩ = some (V v)) w' := fun w' h => ⟨h, h.cell X0_z X0_0, h.cell X0_z X0_1, h.cell X1_z X1_0, h.cell X1_z X1_1⟩
        go_region_held3 (fun w_ => Nx w4 w_ ∧ w_.cell? ⟨w.heap.size, 0, none⟩ = some (V n) ∧ w_.cell? ⟨w.heap.size, 1, none⟩ = some (.slice A es.length c) ∧ w_.cell? ⟨w.heap.size + 1, 0, none⟩ = some (V u) ∧ w_.cell? ⟨w.heap.size + 1, 1, none⟩ = some (V v))
          (exact kp _ (by (repeat (first | exact Nx.refl _ | assumption | apply Nx.alloc | apply Nx.drew | apply Nx.drewN | (refine Nx.setCell ?_ (by first | (simp; done) | (simp; omega) | omega) _) | refine Nx.trans ?_ (by assumption))); done))
          (first
            | (go_at_call 103; (with_reducible refine (cloneE_c A c es _ (hg4.nx (by (repeat (first | exact Nx.refl _ | assumption | apply Nx.alloc | apply Nx.drew | apply Nx.drewN | (refine Nx.setCell ?_ (by first | (simp; done) | (simp; omega) | omega) _) | refine Nx.trans ?_ (by assumption))); done)) (by omega)).mono ?_); rintro e w5 ⟨B3, d3, rfl, ho5, hn5⟩; have hs5 : w4.heap.size ≤ w5.heap.size := Nx.size (by exact (by (repeat (first | exact Nx.refl _ | assumption | apply Nx.alloc | apply Nx.drew | apply Nx.drewN | (refine Nx.setCell ?_ (by first | (simp; done) | (simp; omega) | omega) _) | refine Nx.trans ?_ (by assumption))); done)); have hb5 := ho5.mono (base' := w4.heap.size) (Nx.size (by exact (by (repeat (first | exact Nx.refl _ | assumption | apply Nx.alloc | apply Nx.drew | apply Nx.drewN | (refine Nx.setCell ?_ (by first | (simp; done) | (simp; omega) | omega) _) | refine Nx.trans ?_ (by assumption))); done))); obtain ⟨hc5, hf5, hz5⟩ := hn5.rules; (try simp [size_drew_] at hz5); (try (have hq5_0 : w4.heap.size < w5.heap.size := (by have h := hn5.size; first | omega | (simp [size_drew_] at h; omega)))); (try (have hq5_1 : w4.heap.size + 1 < w5.heap.size := (by have h := hn5.size; first | omega | (simp [size_drew_] at h; omega)))))
            | (go_at_call 102; (with_reducible refine (insertE_c w4.heap.size B3 d3 k es u v _ _ (hb5.nx (by (repeat (first | exact Nx.refl _ | assumption | apply Nx.alloc | apply Nx.drew | apply Nx.drewN | (refine Nx.setCell ?_ (by first | (simp; done) | (simp; omega) | omega) _) | refine Nx.trans ?_ (by assumption))); done)) (by omega) hloc (Nx.size (by exact (by (repeat (first | exact Nx.refl _ | assumption | apply Nx.alloc | apply Nx.drew | apply Nx.drewN | (refine Nx.setCell ?_ (by first | (simp; done) | (simp; omega) | omega) _) | refine Nx.trans ?_ (by assumption))); done))) (by first | exact bxN1.nx (by (repeat (first | exact Nx.refl _ | assumption | apply Nx.alloc | apply Nx.drew | apply Nx.drewN | (refine Nx.setCell ?_ (by first | (simp; done) | (simp; omega) | omega) _) | refine Nx.trans ?_ (by assumption))); done) | exact bxN0.nx (by (repeat (first | exact Nx.refl _ | assumption | apply Nx.alloc | apply Nx.drew | apply Nx.drewN | (refine Nx.setCell ?_ (by first | (simp; done) | (simp; omega) | omega) _) | refine Nx.trans ?_ (by assumption))); done)) (fun j hj e => by have h := ho5.lt j hj; first | omega | (simp [size_drew_] at h e; omega) | (simp [size_drew_] at h; omega))).mono ?_); rintro e w6 ⟨B5, d5, rfl, ho6, hg6, hbl6⟩; have hz6 := hg6.size; (try simp [size_drew_] at hz6); have hn6 : Nx w4 w6 := Nx.grown (by exact (by (repeat (first | exact Nx.refl _ | assumption | apply Nx.alloc | apply Nx.drew | apply Nx.drewN | (refine Nx.setCell ?_ (by first | (simp; done) | (simp; omega) | omega) _) | refine Nx.trans ?_ (by assumption))); done)) hg6 (fun j hj => (hb5.lt j hj).1); (try (have hk0 := hg6.block (w4.heap.size) (by first | omega | (simp [size_drew_]; done) | (simp [size_drew_]; omega)) (fun h => by have h2 := ho5.lt _ h.symm; first | omega | (simp [size_drew_] at h2; done) | (simp [size_drew_] at h2; omega)); have hka0 : w6.cell? ⟨w4.heap.size, 0, none⟩ = some (.int .i64 0) := (World.cell?_of_block (a := ⟨w4.heap.size, 0, none⟩) hk0).trans (by first | (go_simp; done) | fail); have hkb0 : w6.cell? ⟨w4.heap.size, 1, none⟩ = some (.slice none 0 0) := (World.cell?_of_block (a := ⟨w4.heap.size, 1, none⟩) hk0).trans (by first | (go_simp; done) | fail); have hkf0 : ∀ o, w6.frozen? ⟨w4.heap.size, o, none⟩ = false := fun o => (World.frozen?_of_block (a := ⟨w4.heap.size, o, none⟩) hk0).trans (by first | (go_simp; done) | fail); clear hk0)); (try (have hk1 := hg6.block (w4.heap.size + 1) (by first | omega | (simp [size_drew_]; done) | (simp [size_drew_]; omega)) (fun h => by have h2 := ho5.lt _ h.symm; first | omega | (simp [size_drew_] at h2; done) | (simp [size_drew_] at h2; omega)); have hka1 : w6.cell? ⟨w4.heap.size + 1, 0, none⟩ = some (.int .i64 0) := (World.cell?_of_block (a := ⟨w4.heap.size + 1, 0, none⟩) hk1).trans (by first | (go_simp; done) | fail); have hkb1 : w6.cell? ⟨w4.heap.size + 1, 1, none⟩ = some (.slice none 0 0) := (World.cell?_of_block (a := ⟨w4.heap.size + 1, 1, none⟩) hk1).trans (by first | (go_simp; done) | fail); have hkf1 : ∀ o, w6.frozen? ⟨w4.heap.size + 1, o, none⟩ = false := fun o => (World.frozen?_of_block (a := ⟨w4.heap.size + 1, o, none⟩) hk1).trans (by first | (go_simp; done) | fail); clear hk1)); (try (have hk2 := hg6.block (w5.heap.size) (by first | omega | (simp [size_drew_]; done) | (simp [size_drew_]; omega)) (fun h => by have h2 := ho5.lt _ h.symm; first | omega | (simp [size_drew_] at h2; done) | (simp [size_drew_] at h2; omega)); have hka2 : w6.cell? ⟨w5.heap.size, 0, none⟩ = some (.int .i64 0) := (World.cell?_of_block (a := ⟨w5.heap.size, 0, none⟩) hk2).trans (by first | (go_simp; done) | fail); have hkb2 : w6.cell? ⟨w5.heap.size, 1, none⟩ = some (.slice none 0 0) := (World.cell?_of_block (a := ⟨w5.heap.size, 1, none⟩) hk2).trans (by first | (go_simp; done) | fail); have hkf2 : ∀ o, w6.frozen? ⟨w5.heap.size, o, none⟩ = false := fun o => (World.frozen?_of_block (a := ⟨w5.heap.size, o, none⟩) hk2).trans (by first | (go_simp; done) | fail); clear hk2)); (try (have hk3 := hg6.block (w5.heap.size + 1) (by first | omega | (simp [size_drew_]; done) | (simp [size_drew_]; omega)) (fun h => by have h2 := ho5.lt _ h.symm; first | omega | (simp [size_drew_] at h2; done) | (simp [size_drew_] at h2; omega)); have hka3 : w6.cell? ⟨w5.heap.size + 1, 0, none⟩ = some (.int .i64 0) := (World.cell?_of_block (a := ⟨w5.heap.size + 1, 0, none⟩) hk3).trans (by first | (go_simp; done) | fail); have hkb3 : w6.cell? ⟨w5.heap.size + 1, 1, none⟩ = some (.slice none 0 0) := (World.cell?_of_block (a := ⟨w5.heap.size + 1, 1, none⟩) hk3).trans (by first | (go_simp; done) | fail); have hkf3 : ∀ o, w6.frozen? ⟨w5.heap.size + 1, o, none⟩ = false := fun o => (World.frozen?_of_block (a := ⟨w5.heap.size + 1, o, none⟩) hk3).trans (by first | (go_simp; done) | fail); clear hk3))))
        all_goals go_wp2
        all_goals go_meet
        all_goals exact ⟨_, B5, d5, rfl, (by (repeat (first | exact Nx.refl _ | assumption | apply Nx.alloc | apply Nx.drew | apply Nx.drewN | (refine Nx.setCell ?_ (by first | (simp; done) | (simp; omega) | omega) _) | refine Nx.trans ?_ (by assumption))); done), (by first | (simp; done) | omega | (simp; omega) | (simp [size_drew_, size_set_]; omega)), (by go_simp), (by go_simp), (by (repeat (refine OwnE.other ?_ (fun k hk e => by have h := ho6.lt k hk; first | omega | (rcases hbl6 with h2 | h2 <;> (rw [h2] at hk; first | (have h3 := ho5.lt k hk; first | omega | (simp [size_drew_] at h3; omega)) | (injection hk with hk; first | omega | (simp [size_drew_] at hk; omega))))) _ _)); exact ho6.nx (by (repeat (first | exact Nx.refl _ | assumption | apply Nx.alloc | apply Nx.drew | apply Nx.drewN | (refine Nx.setCell ?_ (by first | (simp; done) | (simp; omega) | omega) _) | refine Nx.trans ?_ (by assumption))); done))⟩
      obtain ⟨b8, B5, d5, rfl, hnc, hbz, hb0, hb1, ho5⟩ := hcut
      replace X2 := X2.nx hnc
      replace X2_0 := X2.cell (j := 0) rfl
      replace X2_1 := X2.cell (j := 1) rfl
      replace X2_z := X2.lt
      rw [← Hpi.out] at hb1 ho5
      have hgv2 := iGraphValid_c n B5 d5 (putL es (u, v)) _ ho5.edgesAt (by omega)
      have hnw : Nx w wc := hn04.trans hnc
      have hsz := hnc.size
      by_cases hv2 : Valid n (putL es (u, v))
      · rw [show decide (Valid n (putL es (u, v))) = true by simpa using hv2] at hgv2
        obtain ⟨e1, e2, e3⟩ := put_yes (⟨Hv.out, Hm.out, hv2⟩ : PutP n es (u, v))
        have H1 := Lib.hid e1
        have H2 := Lib.hid e2
        have H3 := Lib.hid e3
        have Hg2 := Lib.hid hgv2
        clear e1 e2 e3 hv2 hgv2
        go_wp2_with fail
        refine Hg2.out.mono ?_
        rintro e w5 ⟨rfl, hn5⟩
        replace X2 := X2.nx hn5
        replace X2_0 := X2.cell (j := 0) rfl
        replace X2_1 := X2.cell (j := 1) rfl
        replace X2_z := X2.lt
        replace hb0 := hn5.cell hbz hb0
        replace hb1 := hn5.cell hbz hb1
        have rf := X2.free
        replace ho5 := ho5.nx hn5
        have hnw5 := hnw.trans hn5
        clear hn5 hnc
        generalize putL es (u, v) = ys at *
        go_wp2
        refine bodyPost_ret (v := .tuple #[.agg #[V n, .slice B5 ys.length d5], .bool true]) (by simp [results, Try.f59, go_sem, *]) rfl ?_
        refine ⟨B5, d5, by rw [H1.out, H2.out, H3.out], ?_, (by repeat (first | exact Nx.refl _ | assumption | apply Nx.alloc | apply Nx.drew | apply Nx.drewN | (refine Nx.setCell ?_ (by first | (simp; done) | (simp; omega) | omega) _) | refine Nx.trans ?_ (by assumption)))⟩
        rw [H2.out]
        exact ((ho5.far (by simp; omega) _).far (by simp; omega) _).mono (by omega)
      · rw [show decide (Valid n (putL es (u, v))) = false by simpa using hv2] at hgv2
        obtain ⟨e1, e2, e3⟩ := put_no (fun h : PutP n es (u, v) => hv2 h.2.2)
        have H1 := Lib.hid e1
        have H2 := Lib.hid e2
        have H3 := Lib.hid e3
        have Hg2 := Lib.hid hgv2
        clear e1 e2 e3 hv2 hgv2
        go_wp2_with fail
        refine Hg2.out.mono ?_
        rintro e w5 ⟨rfl, hn5⟩
        replace X2 := X2.nx hn5
        replace X2_0 := X2.cell (j := 0) rfl
        replace X2_1 := X2.cell (j := 1) rfl
        replace X2_z := X2.lt
        have rf := X2.free
        have hnw5 := hnw.trans hn5
        clear hn5 hnc
        go_wp2
        refine bodyPost_ret (v := .tuple #[.agg #[V 0, .slice none 0 0], .bool false]) (by simp [results, Try.f59, go_sem, *]) rfl ?_
        refine ⟨none, 0, by rw [H1.out, H2.out, H3.out]; rfl, ?_, (by repeat (first | exact Nx.refl _ | assumption | apply Nx.alloc | apply Nx.drew | apply Nx.drewN | (refine Nx.setCell ?_ (by first | (simp; done) | (simp; omega) | omega) _) | refine Nx.trans ?_ (by assumption)))⟩
        rw [H2.out]
        exact OwnE.nil _ _ _
  · rw [show decide (Valid n es) = false by simpa using hv] at hgv
    have Hgv := Lib.hid hgv
    obtain ⟨e1, e2, e3⟩ := put_no (fun h : PutP n es (u, v) => hv h.1)
    rw [e1, e2, e3]
    clear e1 e2 e3 hgv hv
    go_enter Try.func59, Try.ntmps59
    go_wp2_with fail
    generalize hW1 : World.alloc _ _ = W1
    have gW1 : Nx w W1 := by subst hW1; exact (by repeat (first | exact Nx.refl _ | assumption | apply Nx.alloc | apply Nx.drew | apply Nx.drewN | (refine Nx.setCell ?_ (by first | (simp; done) | (simp; omega) | omega) _) | refine Nx.trans ?_ (by assumption)))
    have sW1 : W1.heap.size = w.heap.size + 3 := by subst hW1; simp
    have X0 : Bx W1 (w.heap.size) 26 [V n, .slice A es.length c] := by subst hW1; have h := Bx.alloc w 26 [V n, .slice A es.length c]; have h := h.nx (Nx.alloc (Nx.refl _) (.cells #[V u, V v] 36)); have h := h.nx (Nx.alloc (Nx.refl _) (.cells #[V 0, .slice none 0 0] 26)); simpa using h
    have X1 : Bx W1 (w.heap.size + 1) 36 [V u, V v] := by subst hW1; have h := Bx.alloc (w.alloc (.cells #[V n, .slice A es.length c] 26)) 36 [V u, V v]; have h := h.nx (Nx.alloc (Nx.refl _) (.cells #[V 0, .slice none 0 0] 26)); simpa using h
    have X2 : Bx W1 (w.heap.size + 2) 26 [V 0, .slice none 0 0] := by subst hW1; have h := Bx.alloc ((w.alloc (.cells #[V n, .slice A es.length c] 26)).alloc (.cells #[V u, V v] 36)) 26 [V 0, .slice none 0 0]; simpa using h
    have X0_0 := X0.cell (j := 0) rfl
    have X0_1 := X0.cell (j := 1) rfl
    have X0_z := X0.lt
    have X1_0 := X1.cell (j := 0) rfl
    have X1_1 := X1.cell (j := 1) rfl
    have X1_z := X1.lt
    have X2_0 := X2.cell (j := 0) rfl
    have X2_1 := X2.cell (j := 1) rfl
    have X2_z := X2.lt
    have HsW1 := Lib.hid sW1
    have lW1 : w.heap.size + 3 ≤ W1.heap.size := by omega
    clear hW1 sW1
    refine (Hgv.out _ (hx.nx gW1) (by omega)).mono ?_
    rintro e w2 ⟨rfl, hn2⟩
    replace X0 := X0.nx hn2
    replace X0_0 := X0.cell (j := 0) rfl
    replace X0_1 := X0.cell (j := 1) rfl
    replace X0_z := X0.lt
    replace X1 := X1.nx hn2
    replace X1_0 := X1.cell (j := 0) rfl
    replace X1_1 := X1.cell (j := 1) rfl
    replace X1_z := X1.lt
    replace X2 := X2.nx hn2
    replace X2_0 := X2.cell (j := 0) rfl
    replace X2_1 := X2.cell (j := 1) rfl
    replace X2_z := X2.lt
    have rf := X2.free
    have hn02 : Nx w w2 := gW1.trans hn2
    go_wp2
    refine bodyPost_ret (v := .tuple #[.agg #[V 0, .slice none 0 0], .bool false]) (by simp [results, Try.f59, go_sem, *]) rfl ?_
    exact ⟨none, 0, rfl, OwnE.nil _ _ _, (by repeat (first | exact Nx.refl _ | assumption | apply Nx.alloc | apply Nx.drew | apply Nx.drewN | (refine Nx.setCell ?_ (by first | (simp; done) | (simp; omega) | omega) _) | refine Nx.trans ?_ (by assumption)))⟩
end Go.Proofs.Ytjchabeiaajgiaa
