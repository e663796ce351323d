/- Contracts: PutEdge of both sides. -/
import Derived.Test.YtmagbdcmanchmaaI2
import Derived.Test.YtmagbdcmanchmaaC4
import Derived.Test.YtmagbdcmanchmaaD1
import Derived.Test.YtmagbdcmanchmaaZ
import Derived.Deep.Cut
namespace Go.Proofs.Ytmagbdcmanchmaa
open Go.RowKit set_option linter.unusedVariables false set_option linter.unusedSimpArgs false

theorem ltE_total {a b : Int × Int} (h : a ≠ b) : ltE a b ∨ ltE b a := by
  obtain ⟨a1, a2⟩ := a
  obtain ⟨b1, b2⟩ := b
  simp only [ltE]
  have : ¬ (a1 = b1 ∧ a2 = b2) := fun e => h (by rw [e.1, e.2])
  omega
theorem ltE_asymm {a b : Int × Int} (h : ltE a b) : ¬ ltE b a := by unfold ltE at *; omega
theorem putL_ins : ∀ (es : Es) (e : Int × Int), e ∉ es → putL es e = insL es (locE es e) e
  | [], e, _ => by simp [putL, insL, locE]
  | x :: xs, e, h => by
    have hx : x ≠ e := fun h2 => h (by simp [h2])
    have hxs : e ∉ xs := fun h2 => h (by simp [h2])
    have ih := putL_ins xs e hxs
    unfold putL
    by_cases hl : ltE e x
    · have hn : ¬ ltE x e := ltE_asymm hl
      have : locE (x :: xs) e = 0 := by unfold locE; simp [List.findIdx_cons, hn]
      rw [if_pos hl, this]
      simp [insL]
    · have hn : ltE x e := (ltE_total hx).resolve_right hl
      have : locE (x :: xs) e = locE xs e + 1 := by unfold locE; simp [List.findIdx_cons, hn]
      rw [if_neg hl, this, ih]
      simp [insL]
theorem Valid.sorted {n : Int} {es : Es} (h : Valid n es) : ∀ (i j : Nat) (a b : Int × Int), i < j → es[i]? = some a → es[j]? = some b → ltE a b := by
  intro i j
  induction j with
  | zero => intro a b hij; omega
  | succ j ih =>
    intro a b hij ha hb
    have hj : j + 1 < es.length := (List.getElem?_eq_some_iff.1 hb).1
    have hd : es[j]? = some es[j] := List.getElem?_eq_getElem (by omega)
    have h1 := (h.2.2.2 (j + 1) hj b hb).2.2.2 es[j] (by omega) (by simp)
    rcases Nat.lt_succ_iff_lt_or_eq.1 hij with h2 | rfl
    · exact ltE_trans (ih a es[j] h2 ha hd) h1
    · rw [hd] at ha; injection ha with ha; subst ha; exact h1

/-- can the edge be put? -/
def PutP (n : Int) (es : Es) (e : Int × Int) : Prop := Valid n es ∧ e ∉ es ∧ Valid n (putL es e)
noncomputable instance (n : Int) (es : Es) (e : Int × Int) : Decidable (PutP n es e) := Classical.propDecidable _
/-- what PutEdge returns -/
noncomputable def putN (n : Int) (es : Es) (e : Int × Int) : Int := if PutP n es e then n else 0
noncomputable def putE (n : Int) (es : Es) (e : Int × Int) : Es := if PutP n es e then putL es e else []
noncomputable def putB (n : Int) (es : Es) (e : Int × Int) : Bool := decide (PutP n es e)
theorem putE_len (n : Int) (es : Es) (e : Int × Int) : (putE n es e).length ≤ 40 := by
  unfold putE; split
  · rename_i h; exact h.2.2.2.2.1
  · simp
theorem put_no {n : Int} {es : Es} {e : Int × Int} (h : ¬ PutP n es e) : putN n es e = 0 ∧ putE n es e = [] ∧ putB n es e = false := ⟨if_neg h, if_neg h, by simp [putB, h]⟩
theorem put_yes {n : Int} {es : Es} {e : Int × Int} (h : PutP n es e) : putN n es e = n ∧ putE n es e = putL es e ∧ putB n es e = true := ⟨if_pos h, if_pos h, by simp [putB, h]⟩

set_option maxRecDepth 100000 in
set_option maxHeartbeats 4000000 in
theorem sPutEdge_c (n : Int) (A : Option Addr) (c : Nat) (es : List (Int × Int)) (u v : Int) (w : World) (hx : EdgesAt w A es) (hl : es.length ≤ 1048576) :
    Calls Try.prog 48 #[.agg #[V n, .slice A es.length c], Ed u v] w (RetGB 40 (putN n es (u, v)) (putE n es (u, v)) (putB n es (u, v)) w) := by
  have hgv := sGraphValid_c n A c es
  by_cases hv : Valid n es
  · rw [show decide (Valid n es) = true by simpa using hv] at hgv
    have Hgv := Lib.hid hgv
    clear hgv
    by_cases hm : (u, v) ∈ es
    · obtain ⟨e1, e2, e3⟩ := put_no (fun h : PutP n es (u, v) => h.2.1 hm)
      rw [e1, e2, e3]
      have hi0 : 0 ≤ idxE es (u, v) := (idxE_nonneg es (u, v)).2 hm
      clear e1 e2 e3 hv hm
      go_enter Try.func48, Try.ntmps48
      go_wp2_with fail
      generalize hW1 : World.alloc _ _ = W1
      have gW1 : Nx w W1 := by subst hW1; exact (by repeat (first | exact Nx.refl _ | assumption | apply Nx.alloc | apply Nx.drew | apply Nx.drewN | (refine Nx.setCell ?_ (by first | (simp; done) | (simp; omega) | omega) _) | refine Nx.trans ?_ (by assumption)))
      have sW1 : W1.heap.size = w.heap.size + 3 := by subst hW1; simp
      have X0 : Bx W1 (w.heap.size) 29 [V n, .slice A es.length c] := by subst hW1; have h := Bx.alloc w 29 [V n, .slice A es.length c]; have h := h.nx (Nx.alloc (Nx.refl _) (.cells #[V u, V v] 40)); have h := h.nx (Nx.alloc (Nx.refl _) (.cells #[V 0, .slice none 0 0] 29)); simpa using h
      have X1 : Bx W1 (w.heap.size + 1) 40 [V u, V v] := by subst hW1; have h := Bx.alloc (w.alloc (.cells #[V n, .slice A es.length c] 29)) 40 [V u, V v]; have h := h.nx (Nx.alloc (Nx.refl _) (.cells #[V 0, .slice none 0 0] 29)); simpa using h
      have X2 : Bx W1 (w.heap.size + 2) 29 [V 0, .slice none 0 0] := by subst hW1; have h := Bx.alloc ((w.alloc (.cells #[V n, .slice A es.length c] 29)).alloc (.cells #[V u, V v] 40)) 29 [V 0, .slice none 0 0]; simpa using h
      have X0_0 := X0.cell (j := 0) rfl
      have X0_1 := X0.cell (j := 1) rfl
      have X0_z := X0.lt
      have X1_0 := X1.cell (j := 0) rfl
      have X1_1 := X1.cell (j := 1) rfl
      have X1_z := X1.lt
      have X2_0 := X2.cell (j := 0) rfl
      have X2_1 := X2.cell (j := 1) rfl
      have X2_z := X2.lt
      have HsW1 := Lib.hid sW1
      have lW1 : w.heap.size + 3 ≤ W1.heap.size := by omega
      clear hW1 sW1
      refine (Hgv.out _ (hx.nx gW1) (by omega)).mono ?_
      rintro e w2 ⟨rfl, hn2⟩
      replace X0 := X0.nx hn2
      replace X0_0 := X0.cell (j := 0) rfl
      replace X0_1 := X0.cell (j := 1) rfl
      replace X0_z := X0.lt
      replace X1 := X1.nx hn2
      replace X1_0 := X1.cell (j := 0) rfl
      replace X1_1 := X1.cell (j := 1) rfl
      replace X1_z := X1.lt
      replace X2 := X2.nx hn2
      replace X2_0 := X2.cell (j := 0) rfl
      replace X2_1 := X2.cell (j := 1) rfl
      replace X2_z := X2.lt
      go_wp2_with fail
      refine (l1Find_c A c es u v _ ((hx.nx gW1).nx hn2) (by omega)).mono ?_
      rintro e w3 ⟨rfl, hn3⟩
      replace X0 := X0.nx hn3
      replace X0_0 := X0.cell (j := 0) rfl
      replace X0_1 := X0.cell (j := 1) rfl
      replace X0_z := X0.lt
      replace X1 := X1.nx hn3
      replace X1_0 := X1.cell (j := 0) rfl
      replace X1_1 := X1.cell (j := 1) rfl
      replace X1_z := X1.lt
      replace X2 := X2.nx hn3
      replace X2_0 := X2.cell (j := 0) rfl
      replace X2_1 := X2.cell (j := 1) rfl
      replace X2_z := X2.lt
      have hn03 : Nx w w3 := (gW1.trans hn2).trans hn3
      have rf := X2.free
      generalize idxE es (u, v) = ix at *
      go_wp2
      refine bodyPost_ret (v := .tuple #[.agg #[V 0, .slice none 0 0], .bool false]) (by simp [results, Try.f48, go_sem, *]) rfl ?_
      exact ⟨none, 0, rfl, OwnE.nil _ _ _, (by repeat (first | exact Nx.refl _ | assumption | apply Nx.alloc | apply Nx.drew | apply Nx.drewN | (refine Nx.setCell ?_ (by first | (simp; done) | (simp; omega) | omega) _) | refine Nx.trans ?_ (by assumption)))⟩
    · have hi0 : ¬ 0 ≤ idxE es (u, v) := fun h => hm ((idxE_nonneg es (u, v)).1 h)
      have Hv := Lib.hid hv
      have Hm := Lib.hid hm
      have hpl := putL_length es (u, v)
      have hpl2 : (putL es (u, v)).length ≤ 1048577 := by omega
      clear hv hm hpl
      go_enter Try.func48, Try.ntmps48
      go_wp2_with fail
      generalize hW1 : World.alloc _ _ = W1
      have gW1 : Nx w W1 := by subst hW1; exact (by repeat (first | exact Nx.refl _ | assumption | apply Nx.alloc | apply Nx.drew | apply Nx.drewN | (refine Nx.setCell ?_ (by first | (simp; done) | (simp; omega) | omega) _) | refine Nx.trans ?_ (by assumption)))
      have sW1 : W1.heap.size = w.heap.size + 3 := by subst hW1; simp
      have X0 : Bx W1 (w.heap.size) 29 [V n, .slice A es.length c] := by subst hW1; have h := Bx.alloc w 29 [V n, .slice A es.length c]; have h := h.nx (Nx.alloc (Nx.refl _) (.cells #[V u, V v] 40)); have h := h.nx (Nx.alloc (Nx.refl _) (.cells #[V 0, .slice none 0 0] 29)); simpa using h
      have X1 : Bx W1 (w.heap.size + 1) 40 [V u, V v] := by subst hW1; have h := Bx.alloc (w.alloc (.cells #[V n, .slice A es.length c] 29)) 40 [V u, V v]; have h := h.nx (Nx.alloc (Nx.refl _) (.cells #[V 0, .slice none 0 0] 29)); simpa using h
      have X2 : Bx W1 (w.heap.size + 2) 29 [V 0, .slice none 0 0] := by subst hW1; have h := Bx.alloc ((w.alloc (.cells #[V n, .slice A es.length c] 29)).alloc (.cells #[V u, V v] 40)) 29 [V 0, .slice none 0 0]; simpa using h
      have X0_0 := X0.cell (j := 0) rfl
      have X0_1 := X0.cell (j := 1) rfl
      have X0_z := X0.lt
      have X1_0 := X1.cell (j := 0) rfl
      have X1_1 := X1.cell (j := 1) rfl
      have X1_z := X1.lt
      have X2_0 := X2.cell (j := 0) rfl
      have X2_1 := X2.cell (j := 1) rfl
      have X2_z := X2.lt
      have HsW1 := Lib.hid sW1
      have lW1 : w.heap.size + 3 ≤ W1.heap.size := by omega
      clear hW1 sW1
      refine (Hgv.out _ (hx.nx gW1) (by omega)).mono ?_
      rintro e w2 ⟨rfl, hn2⟩
      replace X0 := X0.nx hn2
      replace X0_0 := X0.cell (j := 0) rfl
      replace X0_1 := X0.cell (j := 1) rfl
      replace X0_z := X0.lt
      replace X1 := X1.nx hn2
      replace X1_0 := X1.cell (j := 0) rfl
      replace X1_1 := X1.cell (j := 1) rfl
      replace X1_z := X1.lt
      replace X2 := X2.nx hn2
      replace X2_0 := X2.cell (j := 0) rfl
      replace X2_1 := X2.cell (j := 1) rfl
      replace X2_z := X2.lt
      go_wp2_with fail
      refine (l1Find_c A c es u v _ ((hx.nx gW1).nx hn2) (by omega)).mono ?_
      rintro e w3 ⟨rfl, hn3⟩
      replace X0 := X0.nx hn3
      replace X0_0 := X0.cell (j := 0) rfl
      replace X0_1 := X0.cell (j := 1) rfl
      replace X0_z := X0.lt
      replace X1 := X1.nx hn3
      replace X1_0 := X1.cell (j := 0) rfl
      replace X1_1 := X1.cell (j := 1) rfl
      replace X1_z := X1.lt
      replace X2 := X2.nx hn3
      replace X2_0 := X2.cell (j := 0) rfl
      replace X2_1 := X2.cell (j := 1) rfl
      replace X2_z := X2.lt
      have hn03 : Nx w w3 := (gW1.trans hn2).trans hn3
      have gz3 : W1.heap.size ≤ w3.heap.size := Nat.le_trans hn2.size hn3.size
      have hg3 := hx.nx hn03
      generalize idxE es (u, v) = ix at *
      go_upto_region 3 with (fail)
      go_cut [6] from 7 (fun s6 wc => ∃ (b6 : Nat) (B4 : Option Addr) (d4 : Nat), s6 = .pointer (some ⟨b6, 0, none⟩) ∧ Nx w3 wc ∧ b6 < wc.heap.size ∧ wc.cell? ⟨b6, 0, none⟩ = some (V n) ∧ wc.cell? ⟨b6, 1, none⟩ = some (.slice B4 (putL es (u, v)).length d4) ∧ OwnE wc w3.heap.size 40 B4 d4 (putL es (u, v)))
      case first =>
        have kp : ∀ w', Nx w3 w' → (fun w_ => Nx w3 w_ ∧ w_.cell? ⟨w.heap.size, 0, none⟩ = some (V n) ∧ w_.cell? ⟨w.heap.size, 1, none⟩ = some (.slice A es.length c) ∧ w_.cell? ⟨w.heap.size + 1, 0, none⟩ = some (V u) ∧ w_.cell? ⟨w.heap.size + 1, 1, none⟩ = some (V v)) w' := fun w' h => ⟨h, h.cell X0_z X0_0, h.cell X0_z X0_1, h.cell X1_z X1_0, h.cell X1_z X1_1⟩
        go_region_held3 (fun w_ => Nx w3 w_ ∧ w_.cell? ⟨w.heap.size, 0, none⟩ = some (V n) ∧ w_.cell? ⟨w.heap.size, 1, none⟩ = some (.slice A es.length c) ∧ w_.cell? ⟨w.heap.size + 1, 0, none⟩ = some (V u) ∧ w_.cell? ⟨w.heap.size + 1, 1, none⟩ = some (V v))
          (exact kp _ (by repeat (first | exact Nx.refl _ | assumption | apply Nx.alloc | apply Nx.drew | apply Nx.drewN | (refine Nx.setCell ?_ (by first | (simp; done) | (simp; omega) | omega) _) | refine Nx.trans ?_ (by assumption))))
          (first | (go_at_call 77; (with_reducible refine (l1Put_c A c es u v _ (hg3.nx (by repeat (first | exact Nx.refl _ | assumption | apply Nx.alloc | apply Nx.drew | apply Nx.drewN | (refine Nx.setCell ?_ (by first | (simp; done) | (simp; omega) | omega) _) | refine Nx.trans ?_ (by assumption)))) (by omega)).mono ?_); rintro e w4 ⟨B4, d4, rfl, ho4, hn4⟩; have hs4 : w3.heap.size ≤ w4.heap.size := Nx.size (by exact (by repeat (first | exact Nx.refl _ | assumption | apply Nx.alloc | apply Nx.drew | apply Nx.drewN | (refine Nx.setCell ?_ (by first | (simp; done) | (simp; omega) | omega) _) | refine Nx.trans ?_ (by assumption)))); obtain ⟨hc4, hf4, hz4⟩ := hn4.rules; (try (have hq4_0 : w3.heap.size < w4.heap.size := (by have h := hn4.size; first | omega | (simp [size_drew_] at h; omega))))))
        all_goals go_wp2
        all_goals go_meet
        all_goals exact ⟨_, B4, d4, rfl, (by repeat (first | exact Nx.refl _ | assumption | apply Nx.alloc | apply Nx.drew | apply Nx.drewN | (refine Nx.setCell ?_ (by first | (simp; done) | (simp; omega) | omega) _) | refine Nx.trans ?_ (by assumption))), (by first | (simp; done) | omega | (simp; omega) | (simp [size_drew_, size_set_]; omega)), (by go_simp), (by go_simp), (by have h4 := ho4.mono (base' := w3.heap.size) (Nx.size (by exact (by repeat (first | exact Nx.refl _ | assumption | apply Nx.alloc | apply Nx.drew | apply Nx.drewN | (refine Nx.setCell ?_ (by first | (simp; done) | (simp; omega) | omega) _) | refine Nx.trans ?_ (by assumption))))); (repeat (refine OwnE.other ?_ (fun k hk e => by have h := ho4.lt k hk; first | omega | (simp at h; omega) | (simp [size_drew_, size_set_] at h; omega)) _ _)); exact h4.nx (by repeat (first | exact Nx.refl _ | assumption | apply Nx.alloc | apply Nx.drew | apply Nx.drewN | (refine Nx.setCell ?_ (by first | (simp; done) | (simp; omega) | omega) _) | refine Nx.trans ?_ (by assumption))))⟩
      obtain ⟨b6, B4, d4, rfl, hnc, hbz, hb0, hb1, ho4⟩ := hcut
      replace X2 := X2.nx hnc
      replace X2_0 := X2.cell (j := 0) rfl
      replace X2_1 := X2.cell (j := 1) rfl
      replace X2_z := X2.lt
      have hgv2 := sGraphValid_c n B4 d4 (putL es (u, v)) _ ho4.edgesAt (by omega)
      have hnw : Nx w wc := hn03.trans hnc
      have hsz := hnc.size
      by_cases hv2 : Valid n (putL es (u, v))
      · rw [show decide (Valid n (putL es (u, v))) = true by simpa using hv2] at hgv2
        obtain ⟨e1, e2, e3⟩ := put_yes (⟨Hv.out, Hm.out, hv2⟩ : PutP n es (u, v))
        have H1 := Lib.hid e1
        have H2 := Lib.hid e2
        have H3 := Lib.hid e3
        have Hg2 := Lib.hid hgv2
        clear e1 e2 e3 hv2 hgv2
        go_wp2_with fail
        refine Hg2.out.mono ?_
        rintro e w5 ⟨rfl, hn5⟩
        replace X2 := X2.nx hn5
        replace X2_0 := X2.cell (j := 0) rfl
        replace X2_1 := X2.cell (j := 1) rfl
        replace X2_z := X2.lt
        replace hb0 := hn5.cell hbz hb0
        replace hb1 := hn5.cell hbz hb1
        have rf := X2.free
        have ho5 := ho4.nx hn5
        have hnw5 := hnw.trans hn5
        clear hn5 hnc
        generalize putL es (u, v) = ys at *
        go_wp2
        refine bodyPost_ret (v := .tuple #[.agg #[V n, .slice B4 ys.length d4], .bool true]) (by simp [results, Try.f48, go_sem, *]) rfl ?_
        refine ⟨B4, d4, by rw [H1.out, H2.out, H3.out], ?_, (by repeat (first | exact Nx.refl _ | assumption | apply Nx.alloc | apply Nx.drew | apply Nx.drewN | (refine Nx.setCell ?_ (by first | (simp; done) | (simp; omega) | omega) _) | refine Nx.trans ?_ (by assumption)))⟩
        rw [H2.out]
        exact ((ho5.far (by simp; omega) _).far (by simp; omega) _).mono (by omega)
      · rw [show decide (Valid n (putL es (u, v))) = false by simpa using hv2] at hgv2
        obtain ⟨e1, e2, e3⟩ := put_no (fun h : PutP n es (u, v) => hv2 h.2.2)
        have H1 := Lib.hid e1
        have H2 := Lib.hid e2
        have H3 := Lib.hid e3
        have Hg2 := Lib.hid hgv2
        clear e1 e2 e3 hv2 hgv2
        go_wp2_with fail
        refine Hg2.out.mono ?_
        rintro e w5 ⟨rfl, hn5⟩
        replace X2 := X2.nx hn5
        replace X2_0 := X2.cell (j := 0) rfl
        replace X2_1 := X2.cell (j := 1) rfl
        replace X2_z := X2.lt
        have rf := X2.free
        have hnw5 := hnw.trans hn5
        clear hn5 hnc
        go_wp2
        refine bodyPost_ret (v := .tuple #[.agg #[V 0, .slice none 0 0], .bool false]) (by simp [results, Try.f48, go_sem, *]) rfl ?_
        refine ⟨none, 0, by rw [H1.out, H2.out, H3.out]; rfl, ?_, (by repeat (first | exact Nx.refl _ | assumption | apply Nx.alloc | apply Nx.drew | apply Nx.drewN | (refine Nx.setCell ?_ (by first | (simp; done) | (simp; omega) | omega) _) | refine Nx.trans ?_ (by assumption)))⟩
        rw [H2.out]
        exact OwnE.nil _ _ _
  · rw [show decide (Valid n es) = false by simpa using hv] at hgv
    have Hgv := Lib.hid hgv
    obtain ⟨e1, e2, e3⟩ := put_no (fun h : PutP n es (u, v) => hv h.1)
    rw [e1, e2, e3]
    clear e1 e2 e3 hgv hv
    go_enter Try.func48, Try.ntmps48
    go_wp2_with fail
    generalize hW1 : World.alloc _ _ = W1
    have gW1 : Nx w W1 := by subst hW1; exact (by repeat (first | exact Nx.refl _ | assumption | apply Nx.alloc | apply Nx.drew | apply Nx.drewN | (refine Nx.setCell ?_ (by first | (simp; done) | (simp; omega) | omega) _) | refine Nx.trans ?_ (by assumption)))
    have sW1 : W1.heap.size = w.heap.size + 3 := by subst hW1; simp
    have X0 : Bx W1 (w.heap.size) 29 [V n, .slice A es.length c] := by subst hW1; have h := Bx.alloc w 29 [V n, .slice A es.length c]; have h := h.nx (Nx.alloc (Nx.refl _) (.cells #[V u, V v] 40)); have h := h.nx (Nx.alloc (Nx.refl _) (.cells #[V 0, .slice none 0 0] 29)); simpa using h
    have X1 : Bx W1 (w.heap.size + 1) 40 [V u, V v] := by subst hW1; have h := Bx.alloc (w.alloc (.cells #[V n, .slice A es.length c] 29)) 40 [V u, V v]; have h := h.nx (Nx.alloc (Nx.refl _) (.cells #[V 0, .slice none 0 0] 29)); simpa using h
    have X2 : Bx W1 (w.heap.size + 2) 29 [V 0, .slice none 0 0] := by subst hW1; have h := Bx.alloc ((w.alloc (.cells #[V n, .slice A es.length c] 29)).alloc (.cells #[V u, V v] 40)) 29 [V 0, .slice none 0 0]; simpa using h
    have X0_0 := X0.cell (j := 0) rfl
    have X0_1 := X0.cell (j := 1) rfl
    have X0_z := X0.lt
    have X1_0 := X1.cell (j := 0) rfl
    have X1_1 := X1.cell (j := 1) rfl
    have X1_z := X1.lt
    have X2_0 := X2.cell (j := 0) rfl
    have X2_1 := X2.cell (j := 1) rfl
    have X2_z := X2.lt
    have HsW1 := Lib.hid sW1
    have lW1 : w.heap.size + 3 ≤ W1.heap.size := by omega
    clear hW1 sW1
    refine (Hgv.out _ (hx.nx gW1) (by omega)).mono ?_
    rintro e w2 ⟨rfl, hn2⟩
    replace X0 := X0.nx hn2
    replace X0_0 := X0.cell (j := 0) rfl
    replace X0_1 := X0.cell (j := 1) rfl
    replace X0_z := X0.lt
    replace X1 := X1.nx hn2
    replace X1_0 := X1.cell (j := 0) rfl
    replace X1_1 := X1.cell (j := 1) rfl
    replace X1_z := X1.lt
    replace X2 := X2.nx hn2
    replace X2_0 := X2.cell (j := 0) rfl
    replace X2_1 := X2.cell (j := 1) rfl
    replace X2_z := X2.lt
    have rf := X2.free
    have hn02 : Nx w w2 := gW1.trans hn2
    go_wp2
    refine bodyPost_ret (v := .tuple #[.agg #[V 0, .slice none 0 0], .bool false]) (by simp [results, Try.f48, go_sem, *]) rfl ?_
    exact ⟨none, 0, rfl, OwnE.nil _ _ _, (by repeat (first | exact Nx.refl _ | assumption | apply Nx.alloc | apply Nx.drew | apply Nx.drewN | (refine Nx.setCell ?_ (by first | (simp; done) | (simp; omega) | omega) _) | refine Nx.trans ?_ (by assumption)))⟩
end Go.Proofs.Ytmagbdcmanchmaa
