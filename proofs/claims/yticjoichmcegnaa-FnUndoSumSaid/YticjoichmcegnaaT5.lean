/- Contract: SetsValid of the program. -/
import Derived.Test.YticjoichmcegnaaT4
namespace Go.Proofs.Yticjoichmcegnaa
open Go.RowKit set_option linter.unusedVariables false set_option linter.unusedSimpArgs false

noncomputable instance (P Z : List Int) (T : Es) : Decidable (SV P Z T) := Classical.propDecidable _
theorem sv_no {P Z : List Int} {T : Es} (h : ¬ SV P Z T) : decide (SV P Z T) = false := by simpa using h

set_option maxRecDepth 100000 in
set_option maxHeartbeats 2000000 in
theorem replay_no (n : Int) (hn : ¬ (1 ≤ n ∧ n ≤ 16)) (A : Option Addr) (c : Nat) (ts : Es) (w : World) (hx : EdgesAt w A ts) (hl : ts.length ≤ 1048576) :
    Calls Try.prog 68 #[V n, .slice A ts.length c] w (RetV (tupT false (St none 0 0 none 0 0 none 0 0)) w) := by
  have Hn := Lib.hid (fun w => iNewSets_no n hn w)
  clear hn
  go_enter Try.func68, Try.ntmps68
  go_wp2_with fail
  generalize hW1 : World.alloc _ _ = W1
  have gW1 : Nx w W1 := by subst hW1; exact (by repeat (first | exact Nx.refl _ | assumption | apply Nx.alloc | apply Nx.drew | apply Nx.drewN | (refine Nx.setCell ?_ (by first | (simp; done) | (simp; omega) | omega) _) | refine Nx.trans ?_ (by assumption)))
  have sW1 : W1.heap.size = w.heap.size + 1 := by subst hW1; simp
  have X0 : Bx W1 (w.heap.size) 37 [.slice none 0 0, .slice none 0 0, .slice none 0 0] := by subst hW1; have h := Bx.alloc w 37 [.slice none 0 0, .slice none 0 0, .slice none 0 0]; simpa using h
  have X0_0 := X0.cell (j := 0) rfl
  have X0_1 := X0.cell (j := 1) rfl
  have X0_2 := X0.cell (j := 2) rfl
  have X0_z := X0.lt
  have HsW1 := Lib.hid sW1
  have lW1 : w.heap.size + 1 ≤ W1.heap.size := by omega
  clear hW1 sW1
  refine (Hn.out _).mono ?_
  rintro e w2 ⟨rfl, hn2⟩
  replace X0 := X0.nx hn2
  replace X0_0 := X0.cell (j := 0) rfl
  replace X0_1 := X0.cell (j := 1) rfl
  replace X0_2 := X0.cell (j := 2) rfl
  replace X0_z := X0.lt
  have hs12 := hn2.size
  go_wp2_with fail
  generalize hW3 : World.alloc w2 _ = W3
  have gn3 : Nx w2 W3 := by subst hW3; exact (by repeat (first | exact Nx.refl _ | assumption | apply Nx.alloc | apply Nx.drew | apply Nx.drewN | (refine Nx.setCell ?_ (by first | (simp; done) | (simp; omega) | omega) _) | refine Nx.trans ?_ (by assumption)))
  have G : Bx W3 w2.heap.size 37 [.slice none 0 0, .slice none 0 0, .slice none 0 0] := by subst hW3; exact Bx.alloc w2 37 [.slice none 0 0, .slice none 0 0, .slice none 0 0]
  clear hW3
  replace X0 := X0.nx gn3
  replace X0_0 := X0.cell (j := 0) rfl
  replace X0_1 := X0.cell (j := 1) rfl
  replace X0_2 := X0.cell (j := 2) rfl
  replace X0_z := X0.lt
  have hn03 : Nx w W3 := (gW1.trans hn2).trans gn3
  go_loopg [7, 17] ts.length (fun gk o i wr => ∃ (k : Nat), k + gk = ts.length ∧ i = .int .i64 k ∧ o = .bool false ∧ Nx W3 wr)
  case atStart => exact ⟨0, by omega, rfl, rfl, Nx.refl _⟩
  case round =>
    obtain ⟨k, hk, rfl, rfl, hn⟩ := hrel
    replace X0 := X0.nx hn
    replace X0_0 := X0.cell (j := 0) rfl
    replace X0_1 := X0.cell (j := 1) rfl
    replace X0_2 := X0.cell (j := 2) rfl
    replace X0_z := X0.lt
    replace G := G.nx hn
    replace G_0 := G.cell (j := 0) rfl
    replace G_1 := G.cell (j := 1) rfl
    replace G_2 := G.cell (j := 2) rfl
    replace G_z := G.lt
    have X0_f := X0.free
    by_cases hlt : k < ts.length
    · obtain ⟨t, ht⟩ : ∃ t, ts[k]? = some t := ⟨_, List.getElem?_eq_getElem hlt⟩
      obtain ⟨b1, off, rfl, hb1, h1, h2⟩ := (hx.nx (hn03.trans hn)).rd ht
      obtain ⟨x, y⟩ := t
      simp only at h1 h2
      clear ht
      go_wp2
      go_roundg (gk - 1)
      case measure => omega
      case rel => exact ⟨k + 1, by omega, by go_num, rfl, (by repeat (first | exact Nx.refl _ | assumption | apply Nx.alloc | apply Nx.drew | apply Nx.drewN | (refine Nx.setCell ?_ (by first | (simp; done) | (simp; omega) | omega) _) | refine Nx.trans ?_ (by assumption)))⟩
    · have hnw := hn03.trans hn
      go_wp2
      refine bodyPost_ret (v := tupT false (St none 0 0 none 0 0 none 0 0)) (by simp [results, Try.f68, go_sem, *]) rfl ?_
      exact RetV.mk rfl (by repeat (first | exact Nx.refl _ | assumption | apply Nx.alloc | apply Nx.drew | apply Nx.drewN | (refine Nx.setCell ?_ (by first | (simp; done) | (simp; omega) | omega) _) | refine Nx.trans ?_ (by assumption)))

set_option maxRecDepth 100000 in
set_option maxHeartbeats 4000000 in
theorem iSetsValid_c (A B C : Option Addr) (ca cb cc n m l : Nat) (P Z : List Int) (T : Es) (w : World) (hA : IntsAt w A P) (hB : IntsAt w B Z) (hC : EdgesAt w C T) (h1 : P.length = n) (h2 : Z.length = m) (h3 : T.length = l) (l1 : n ≤ 1048576) (l2 : m ≤ 1048576) (l3 : l ≤ 1048576) :
    Calls Try.prog 21 #[St A n ca B m cb C l cc] w (RetV (.bool (decide (SV P Z T))) w) := by
  by_cases hr : 1 ≤ n ∧ n ≤ 16
  · have hrp := fun w' hx => replay_c n hr.1 hr.2 C cc T w' hx (by omega)
    have hsv : SV P Z T ↔ ((rpS n T).2 = true ∧ (rpS n T).1.P = P ∧ (rpS n T).1.Z = Z) := by unfold SV; rw [h1]; exact ⟨fun h => h.2.2, fun h => ⟨hr.1, hr.2, h⟩⟩
    have hinv := rpS_inv (n := n) hr.1 T
    have hlp := hinv.lp
    have hlz := hinv.lz
    have hval : decide (SV P Z T) = ((rpS n T).2 && (decide ((rpS n T).1.P = P) && decide ((rpS n T).1.Z = Z))) := by
      rw [Bool.eq_iff_iff]; simp [hsv]
    rw [hval]
    rw [h3] at hrp
    generalize (rpS n T).2 = b at *
    generalize (rpS n T).1 = s at *
    have he1 := fun (X : Option Addr) (cx : Nat) w' hx hy => equalI_c X A cx ca s.P P w' hx hy (by omega) (by omega)
    have he2 := fun (X : Option Addr) (cx : Nat) w' hx hy => equalI_c X B cx cb s.Z Z w' hx hy (by omega) (by omega)
    rw [h1] at he1
    rw [h2] at he2
    obtain ⟨p, hp⟩ : ∃ p, decide (s.P = P) = p := ⟨_, rfl⟩
    obtain ⟨q, hq⟩ : ∃ q, decide (s.Z = Z) = q := ⟨_, rfl⟩
    rw [hp] at he1 ⊢
    rw [hq] at he2 ⊢
    have Hrp := Lib.hid hrp
    have He1 := Lib.hid he1
    have He2 := Lib.hid he2
    have HA := Lib.hid hA
    have HB := Lib.hid hB
    have HC := Lib.hid hC
    clear hrp he1 he2 hp hq hval hsv hinv hlp hlz hA hB hC h1 h2 h3
    go_enter Try.func21, Try.ntmps21
    go_wp2_with fail
    generalize hW1 : World.alloc _ _ = W1
    have gW1 : Nx w W1 := by subst hW1; exact (by repeat (first | exact Nx.refl _ | assumption | apply Nx.alloc | apply Nx.drew | apply Nx.drewN | (refine Nx.setCell ?_ (by first | (simp; done) | (simp; omega) | omega) _) | refine Nx.trans ?_ (by assumption)))
    have sW1 : W1.heap.size = w.heap.size + 1 := by subst hW1; simp
    have X0 : Bx W1 (w.heap.size) 37 [.slice A n ca, .slice B m cb, .slice C l cc] := by subst hW1; have h := Bx.alloc w 37 [.slice A n ca, .slice B m cb, .slice C l cc]; simpa using h
    have X0_0 := X0.cell (j := 0) rfl
    have X0_1 := X0.cell (j := 1) rfl
    have X0_2 := X0.cell (j := 2) rfl
    have X0_z := X0.lt
    have HsW1 := Lib.hid sW1
    have lW1 : w.heap.size + 1 ≤ W1.heap.size := by omega
    clear hW1 sW1
    refine (Hrp.out _ (HC.out.nx gW1)).mono ?_
    rintro e w2 ⟨A2, ca2, B2, cb2, C2, cc2, rfl, hA2, hB2, _, _, _, _, hn2⟩
    replace X0 := X0.nx hn2
    replace X0_0 := X0.cell (j := 0) rfl
    replace X0_1 := X0.cell (j := 1) rfl
    replace X0_2 := X0.cell (j := 2) rfl
    replace X0_z := X0.lt
    have ia := Lib.hid hA2.intsAt
    have ib := Lib.hid hB2.intsAt
    clear hA2 hB2
    have hn02 := gW1.trans hn2
    cases b with
    | false =>
      go_wp2
      go_ret
      exact RetV.bool rfl (by repeat (first | exact Nx.refl _ | assumption | apply Nx.alloc | apply Nx.drew | apply Nx.drewN | (refine Nx.setCell ?_ (by first | (simp; done) | (simp; omega) | omega) _) | refine Nx.trans ?_ (by assumption)))
    | true =>
      go_wp2_with fail
      generalize hW3 : World.alloc _ _ = W3
      have gW3 : Nx w2 W3 := by subst hW3; exact (by repeat (first | exact Nx.refl _ | assumption | apply Nx.alloc | apply Nx.drew | apply Nx.drewN | (refine Nx.setCell ?_ (by first | (simp; done) | (simp; omega) | omega) _) | refine Nx.trans ?_ (by assumption)))
      have sW3 : W3.heap.size = w2.heap.size + 1 := by subst hW3; simp
      have G : Bx W3 (w2.heap.size) 37 [.slice A2 s.P.length ca2, .slice B2 s.Z.length cb2, .slice C2 s.T.length cc2] := by subst hW3; have h := Bx.alloc w2 37 [.slice A2 s.P.length ca2, .slice B2 s.Z.length cb2, .slice C2 s.T.length cc2]; simpa using h
      have G_0 := G.cell (j := 0) rfl
      have G_1 := G.cell (j := 1) rfl
      have G_2 := G.cell (j := 2) rfl
      have G_z := G.lt
      have HsW3 := Lib.hid sW3
      have lW3 : w2.heap.size + 1 ≤ W3.heap.size := by omega
      clear hW3 sW3
      replace X0 := X0.nx gW3
      replace X0_0 := X0.cell (j := 0) rfl
      replace X0_1 := X0.cell (j := 1) rfl
      replace X0_2 := X0.cell (j := 2) rfl
      replace X0_z := X0.lt
      refine (He1.out A2 ca2 _ (ia.out.nx gW3) (HA.out.nx (hn02.trans gW3))).mono ?_
      rintro e w4 ⟨rfl, hn4⟩
      replace X0 := X0.nx hn4
      replace X0_0 := X0.cell (j := 0) rfl
      replace X0_1 := X0.cell (j := 1) rfl
      replace X0_2 := X0.cell (j := 2) rfl
      replace X0_z := X0.lt
      replace G := G.nx hn4
      replace G_0 := G.cell (j := 0) rfl
      replace G_1 := G.cell (j := 1) rfl
      replace G_2 := G.cell (j := 2) rfl
      replace G_z := G.lt
      have hn04 := (hn02.trans gW3).trans hn4
      cases p with
      | false =>
        go_wp2
        go_ret
        exact RetV.bool rfl (by repeat (first | exact Nx.refl _ | assumption | apply Nx.alloc | apply Nx.drew | apply Nx.drewN | (refine Nx.setCell ?_ (by first | (simp; done) | (simp; omega) | omega) _) | refine Nx.trans ?_ (by assumption)))
      | true =>
        go_wp2_with fail
        refine (He2.out B2 cb2 _ (ib.out.nx (gW3.trans hn4)) (HB.out.nx hn04)).mono ?_
        rintro e w5 ⟨rfl, hn5⟩
        have hn05 := hn04.trans hn5
        cases q with
        | false =>
          go_wp2
          go_ret
          exact RetV.bool rfl (by repeat (first | exact Nx.refl _ | assumption | apply Nx.alloc | apply Nx.drew | apply Nx.drewN | (refine Nx.setCell ?_ (by first | (simp; done) | (simp; omega) | omega) _) | refine Nx.trans ?_ (by assumption)))
        | true =>
          go_wp2
          go_ret
          exact RetV.bool rfl (by repeat (first | exact Nx.refl _ | assumption | apply Nx.alloc | apply Nx.drew | apply Nx.drewN | (refine Nx.setCell ?_ (by first | (simp; done) | (simp; omega) | omega) _) | refine Nx.trans ?_ (by assumption)))
  · rw [sv_no (fun h => hr (by rw [← h1]; exact ⟨h.1, h.2.1⟩))]
    have hrp := fun w' hx => replay_no (n : Int) (by omega) C cc T w' hx (by omega)
    rw [h3] at hrp
    have Hrp := Lib.hid hrp
    have HC := Lib.hid hC
    clear hrp hA hB hC h1 h2 h3
    go_enter Try.func21, Try.ntmps21
    go_wp2_with fail
    generalize hW1 : World.alloc _ _ = W1
    have gW1 : Nx w W1 := by subst hW1; exact (by repeat (first | exact Nx.refl _ | assumption | apply Nx.alloc | apply Nx.drew | apply Nx.drewN | (refine Nx.setCell ?_ (by first | (simp; done) | (simp; omega) | omega) _) | refine Nx.trans ?_ (by assumption)))
    have sW1 : W1.heap.size = w.heap.size + 1 := by subst hW1; simp
    have X0 : Bx W1 (w.heap.size) 37 [.slice A n ca, .slice B m cb, .slice C l cc] := by subst hW1; have h := Bx.alloc w 37 [.slice A n ca, .slice B m cb, .slice C l cc]; simpa using h
    have X0_0 := X0.cell (j := 0) rfl
    have X0_1 := X0.cell (j := 1) rfl
    have X0_2 := X0.cell (j := 2) rfl
    have X0_z := X0.lt
    have HsW1 := Lib.hid sW1
    have lW1 : w.heap.size + 1 ≤ W1.heap.size := by omega
    clear hW1 sW1
    refine (Hrp.out _ (HC.out.nx gW1)).mono ?_
    rintro e w2 ⟨rfl, hn2⟩
    have hn02 := gW1.trans hn2
    go_wp2
    go_ret
    exact RetV.bool rfl (by repeat (first | exact Nx.refl _ | assumption | apply Nx.alloc | apply Nx.drew | apply Nx.drewN | (refine Nx.setCell ?_ (by first | (simp; done) | (simp; omega) | omega) _) | refine Nx.trans ?_ (by assumption)))
end Go.Proofs.Yticjoichmcegnaa
