/- Contract: SetsValid of the reference. -/
import Derived.Test.YticjoichmcegnaaTB
import Derived.Test.YticjoichmcegnaaT7
import Derived.Test.YticjoichmcegnaaT5
import Derived.Deep.DeepCutAuto
namespace Go.Proofs.Yticjoichmcegnaa
open Go.RowKit set_option linter.unusedVariables false set_option linter.unusedSimpArgs false

theorem rpS_stOk {n : Nat} {T : Es} (h : (rpS n T).2 = true) {k : Nat} {t : Int × Int} (ht : T[k]? = some t) : stOk (rpS n (T.take k)).1.P (rpS n (T.take k)).1.Z (rpS n (T.take k)).1.T.length t = true := by
  have h1 := rpS_take_ok h (k + 1)
  have h2 := rpS_take_ok h k
  rw [rpS_take ht] at h1
  unfold rp1 at h1
  rw [if_pos h2] at h1
  exact h1
theorem rpS_next {n : Nat} {T : Es} {k : Nat} {t : Int × Int} (ht : T[k]? = some t) (h : (rpS n (T.take k)).2 = true) (hk : stOk (rpS n (T.take k)).1.P (rpS n (T.take k)).1.Z (rpS n (T.take k)).1.T.length t = true) :
    rpS n (T.take (k + 1)) = (stS (rpS n (T.take k)).1 t, true) := by
  rw [rpS_take ht]
  unfold rp1
  rw [if_pos h, hk]
theorem unS_T (s : SS) (a b : Int) : ∃ t, (unS s a b).T = s.T ++ [t] := by
  unfold unS
  split
  · exact ⟨_, rfl⟩
  · split
    · exact ⟨_, rfl⟩
    · exact ⟨_, rfl⟩
theorem stS_T {s : SS} {t : Int × Int} : (stS s t).T = s.T ∨ (stS s t).T = s.T ++ [t] := by
  unfold stS
  split
  · exact .inr rfl
  · exact .inl rfl
theorem unS_P (s : SS) (a b : Int) : (unS s a b).P.length = s.P.length := by
  unfold unS
  split
  · rfl
  · split <;> simp [up_length]
theorem unS_Z (s : SS) (a b : Int) : (unS s a b).Z.length = s.Z.length := by
  unfold unS
  split
  · rfl
  · split <;> simp [up_length]
/-- what a round of the reference's check shows -/
theorem round_no {n k : Nat} {P Z : List Int} {T : Es} {c r : Int} (hP : P.length = n) (ht : T[k]? = some (c, r)) (h : ∀ ra, Up (rpS n (T.take k)).1.P (elt (c, r)) ra → 0 ≤ elt (c, r) → elt (c, r) < n → 0 ≤ r → r < n → lk (rpS n (T.take k)).1.P r = -1 → unS (rpS n (T.take k)).1 ra r = stS (rpS n (T.take k)).1 (c, r) → False)
    (he : 1 ≤ n → n ≤ 16 → 0 ≤ elt (c, r) → elt (c, r) < n → ∃ ra, Up (rpS n (T.take k)).1.P (elt (c, r)) ra) : ¬ SV P Z T := fun hv => by
  have h0 : (rpS n T).2 = true := by rw [← hP]; exact hv.2.2.1
  have h1 := rpS_stOk h0 ht
  have hn1 : 1 ≤ n := hP ▸ hv.1
  have hn16 : n ≤ 16 := hP ▸ hv.2.1
  obtain ⟨e0, e1, r0, r1, r2, hu⟩ := step_yes (rpS_inv (by rw [← hP]; exact hv.1) (T.take k)) h1
  obtain ⟨ra, hra⟩ := he hn1 hn16 e0 e1
  exact h ra hra e0 e1 r0 r1 r2 (hu ra hra)
/-- each element lies under a root -/
theorem Up.ex {n : Nat} {s : SS} (h : Inv n s) (hn : n ≤ 16) : ∀ (f : Nat) (x : Int), 0 ≤ x → x < n → (17 - lk s.Z x).toNat ≤ f → ∃ y, Up s.P x y
  | 0, x, h0, h1, hf => by have := h.top x h0 h1; omega
  | f + 1, x, h0, h1, hf => by
    by_cases e : lk s.P x = -1
    · exact ⟨x, .root e⟩
    · rcases h.par x h0 h1 with hp | ⟨p0, p1, p2⟩
      · exact absurd hp e
      · have o1 := h.one x h0 h1
        have t1 := h.top _ p0 p1
        obtain ⟨y, hy⟩ := Up.ex h hn f (lk s.P x) p0 p1 (by omega)
        exact ⟨y, .step e hy⟩

set_option maxRecDepth 100000 in
set_option maxHeartbeats 16000000 in
theorem sSetsValid_c (A B C : Option Addr) (ca cb cc n m l : Nat) (P Z : List Int) (T : Es) (w : World) (hA : IntsAt w A P) (hB : IntsAt w B Z) (hC : EdgesAt w C T) (h1 : P.length = n) (h2 : Z.length = m) (h3 : T.length = l) (l1 : n ≤ 1048576) (l2 : m ≤ 1048576) (l3 : l ≤ 1048576) :
    Calls Try.prog 22 #[St A n ca B m cb C l cc] w (RetV (.bool (decide (SV P Z T))) w) := by
  by_cases hr : 1 ≤ n ∧ n ≤ 16
  · by_cases hl : l ≤ 100
    · obtain ⟨n1, n16⟩ := hr
      have HA := Lib.hid hA
      have HB := Lib.hid hB
      have HC := Lib.hid hC
      have H1 := Lib.hid h1
      have H2 := Lib.hid h2
      have H3 := Lib.hid h3
      have HI := Lib.hid (fun k => rpS_inv (n := n) n1 (T.take k))
      have Hsv : Hid (SV P Z T ↔ ((rpS n T).2 = true ∧ (rpS n T).1.P = P ∧ (rpS n T).1.Z = Z)) := Lib.hid (by unfold SV; rw [h1]; exact ⟨fun h => h.2.2, fun h => ⟨n1, n16, h⟩⟩)
      clear hA hB hC h1 h2 h3
      go_enter Try.func22, Try.ntmps22
      go_wp2_with fail
      generalize hW1 : World.alloc _ _ = W1
      have gW1 : Nx w W1 := by subst hW1; exact (by repeat (first | exact Nx.refl _ | assumption | apply Nx.alloc | apply Nx.drew | apply Nx.drewN | (refine Nx.setCell ?_ (by first | (simp; done) | (simp; omega) | omega) _) | refine Nx.trans ?_ (by assumption)))
      have sW1 : W1.heap.size = w.heap.size + 1 := by subst hW1; simp
      have X0 : Bx W1 (w.heap.size) 37 [.slice A n ca, .slice B m cb, .slice C l cc] := by subst hW1; have h := Bx.alloc w 37 [.slice A n ca, .slice B m cb, .slice C l cc]; simpa using h
      have X0_0 := X0.cell (j := 0) rfl
      have X0_1 := X0.cell (j := 1) rfl
      have X0_2 := X0.cell (j := 2) rfl
      have X0_z := X0.lt
      have HsW1 := Lib.hid sW1
      have lW1 : w.heap.size + 1 ≤ W1.heap.size := by omega
      clear hW1 sW1
      have N := gW1
      refine (l3New_c n n16 _).mono ?_
      rintro e w2 ⟨A2, ca2, B2, cb2, rfl, oA, oB, oAB, hn2⟩
      replace X0 := X0.nx hn2
      replace X0_0 := X0.cell (j := 0) rfl
      replace X0_1 := X0.cell (j := 1) rfl
      replace X0_2 := X0.cell (j := 2) rfl
      replace X0_z := X0.lt
      replace N := N.trans hn2
      have z2 := hn2.size
      go_wp2_with fail
      generalize hW3 : World.alloc _ _ = W3
      have gW3 : Nx w2 W3 := by subst hW3; exact (by repeat (first | exact Nx.refl _ | assumption | apply Nx.alloc | apply Nx.drew | apply Nx.drewN | (refine Nx.setCell ?_ (by first | (simp; done) | (simp; omega) | omega) _) | refine Nx.trans ?_ (by assumption)))
      have sW3 : W3.heap.size = w2.heap.size + 1 := by subst hW3; simp
      have G : Bx W3 (w2.heap.size) 37 [.slice A2 n ca2, .slice B2 n cb2, .slice none 0 0] := by subst hW3; have h := Bx.alloc w2 37 [.slice A2 n ca2, .slice B2 n cb2, .slice none 0 0]; simpa using h
      have G_0 := G.cell (j := 0) rfl
      have G_1 := G.cell (j := 1) rfl
      have G_2 := G.cell (j := 2) rfl
      have G_z := G.lt
      have HsW3 := Lib.hid sW3
      have lW3 : w2.heap.size + 1 ≤ W3.heap.size := by omega
      clear hW3 sW3
      replace X0 := X0.nx gW3
      replace X0_0 := X0.cell (j := 0) rfl
      replace X0_1 := X0.cell (j := 1) rfl
      replace X0_2 := X0.cell (j := 2) rfl
      replace X0_z := X0.lt
      replace N := N.trans gW3
      have iA := (oA.nx gW3).intsAt
      have iB := (oB.nx gW3).intsAt
      have HiA := Lib.hid iA
      have HiB := Lib.hid iB
      clear oA oB oAB hn2 gW1 gW3 iA iB
      go_loopg [5, 6, 7] l (fun gk i _ _ wr => ∃ (k : Nat), k + gk = l ∧ i = .int .i64 k ∧ Nx w wr ∧ Bx wr w.heap.size 37 [.slice A n ca, .slice B m cb, .slice C l cc] ∧ Hid ((rpS n (T.take k)).2 = true) ∧ w2.heap.size < wr.heap.size ∧
        ∃ A' ca' B' cb' C' cc', Bx wr w2.heap.size 37 [.slice A' n ca', .slice B' n cb', .slice C' k cc'] ∧ IntsAt wr A' (rpS n (T.take k)).1.P ∧ IntsAt wr B' (rpS n (T.take k)).1.Z ∧ EdgesAt wr C' (rpS n (T.take k)).1.T)
      case atStart => exact ⟨0, by omega, rfl, N, X0, Lib.hid (by simp [rpS]), by omega, A2, ca2, B2, cb2, none, 0, G, by simpa [rpS, newS, reps] using HiA.out, by simpa [rpS, newS, reps] using HiB.out, fun h => by simp [rpS, newS] at h⟩
      case round =>
        clear N X0 X0_0 X0_1 X0_2 X0_z G G_0 G_1 G_2 G_z HiA HiB
        obtain ⟨k, hk, rfl, N, X0, Hok, hgz, A', ca', B', cb', C', cc', G, iA, iB, iC⟩ := hrel
        have X0_0 := X0.cell (j := 0) rfl
        have X0_1 := X0.cell (j := 1) rfl
        have X0_2 := X0.cell (j := 2) rfl
        have X0_z := X0.lt
        have G_0 := G.cell (j := 0) rfl
        have G_1 := G.cell (j := 1) rfl
        have G_2 := G.cell (j := 2) rfl
        have HT := Lib.hid (rpS_T (n := n) _ Hok.out).1
        have HiA := Lib.hid iA
        have HiB := Lib.hid iB
        have HiC := Lib.hid iC
        clear iA iB iC
        have hinv := HI.out k
        have Hinv := Lib.hid hinv
        clear hinv
        by_cases hlt : k < l
        · obtain ⟨t, ht⟩ : ∃ t, T[k]? = some t := ⟨_, List.getElem?_eq_getElem (by rw [H3.out]; exact hlt)⟩
          obtain ⟨bc, off, rfl, hbc, r1w, r2w⟩ := HC.out.rd ht
          obtain ⟨c, r⟩ := t
          simp only at r1w r2w
          have R1 := Lib.hid r1w
          have R2 := Lib.hid r2w
          have r1 := N.cell hbc r1w
          have r2 := N.cell hbc r2w
          have hbc2 := Nat.lt_of_lt_of_le hbc N.size
          clear r1w r2w
          have Ht := Lib.hid ht
          have hno := fun h he => round_no (Z := Z) H1.out ht h he
          have Hno := Lib.hid hno
          have hstep := rpS_next (n := n) ht Hok.out
          have Hstep := Lib.hid hstep
          have hyes := fun h => step_yes (c := c) (r := r) Hinv.out h
          have Hyes := Lib.hid hyes
          have hne := fun a b e d g h i j => step_no (c := c) (r := r) Hinv.out a b e d g h i j
          have Hne := Lib.hid hne
          have Hex := Lib.hid (fun a b d => Up.ex Hinv.out n16 a b d)
          clear ht hno hstep hyes hne
          have HTl : Hid ((rpS n (T.take k)).1.T.length = k) := Lib.hid (by rw [HT.out, List.length_take, H3.out]; omega)
          go_upto_if 45 with (fail)
          go_cut [6, 7] from 25 to 84 (fun s6 s7 wc => s6 = V (elt (c, r)) ∧ s7 = V r ∧ wc = wr)
          case first =>
            by_cases hc : c < 0
            · have d : decide (c < 0) = true := by simpa using hc
              have hv := Lib.hid (show elt (c, r) = r by simp [elt, hc])
              go_wp2
              go_meet
              exact ⟨by rw [hv.out], rfl, rfl⟩
            · have d : decide (c < 0) = false := by simpa using hc
              have hv := Lib.hid (show elt (c, r) = c by simp [elt, hc])
              go_wp2
              go_meet
              exact ⟨by rw [hv.out], rfl, rfl⟩
          obtain ⟨rfl, rfl, rfl⟩ := hcut
          obtain ⟨e, he⟩ : ∃ e, elt (c, r) = e := ⟨_, rfl⟩
          rw [he] at Hno Hne Hyes ⊢
          have He := Lib.hid he
          clear he
          by_cases f1 : e < 0
          · have d1 : decide (e < 0) = true := by simpa using f1
            have hsv := Hno.out (fun ra _ q0 q1 q2 q3 q4 _ => by omega) (fun _ _ q0 q1 => Hex.out 17 _ q0 q1 (by have := Hinv.out.one _ q0 q1; omega))
            have Hv := Lib.hid hsv
            clear hsv
            go_wp2_with fail
            go_ret
            exact RetV.bool (by simp [Hv.out]) (by repeat (first | exact Nx.refl _ | assumption | apply Nx.alloc | apply Nx.drew | apply Nx.drewN | (refine Nx.setCell ?_ (by first | (simp; done) | (simp; omega) | omega) _) | refine Nx.trans ?_ (by assumption)))
          have d1 : decide (e < 0) = false := by simpa using f1
          by_cases f2 : (n : Int) ≤ e
          · have d2 : decide ((n : Int) ≤ e) = true := by simpa using f2
            have hsv := Hno.out (fun ra _ q0 q1 q2 q3 q4 _ => by omega) (fun _ _ q0 q1 => Hex.out 17 _ q0 q1 (by have := Hinv.out.one _ q0 q1; omega))
            have Hv := Lib.hid hsv
            clear hsv
            go_wp2_with fail
            go_ret
            exact RetV.bool (by simp [Hv.out]) (by repeat (first | exact Nx.refl _ | assumption | apply Nx.alloc | apply Nx.drew | apply Nx.drewN | (refine Nx.setCell ?_ (by first | (simp; done) | (simp; omega) | omega) _) | refine Nx.trans ?_ (by assumption)))
          have d2 : decide ((n : Int) ≤ e) = false := by simpa using f2
          by_cases f3 : r < 0
          · have d3 : decide (r < 0) = true := by simpa using f3
            have hsv := Hno.out (fun ra _ q0 q1 q2 q3 q4 _ => by omega) (fun _ _ q0 q1 => Hex.out 17 _ q0 q1 (by have := Hinv.out.one _ q0 q1; omega))
            have Hv := Lib.hid hsv
            clear hsv
            go_wp2_with fail
            go_ret
            exact RetV.bool (by simp [Hv.out]) (by repeat (first | exact Nx.refl _ | assumption | apply Nx.alloc | apply Nx.drew | apply Nx.drewN | (refine Nx.setCell ?_ (by first | (simp; done) | (simp; omega) | omega) _) | refine Nx.trans ?_ (by assumption)))
          have d3 : decide (r < 0) = false := by simpa using f3
          by_cases f4 : (n : Int) ≤ r
          · have d4 : decide ((n : Int) ≤ r) = true := by simpa using f4
            have hsv := Hno.out (fun ra _ q0 q1 q2 q3 q4 _ => by omega) (fun _ _ q0 q1 => Hex.out 17 _ q0 q1 (by have := Hinv.out.one _ q0 q1; omega))
            have Hv := Lib.hid hsv
            clear hsv
            go_wp2_with fail
            go_ret
            exact RetV.bool (by simp [Hv.out]) (by repeat (first | exact Nx.refl _ | assumption | apply Nx.alloc | apply Nx.drew | apply Nx.drewN | (refine Nx.setCell ?_ (by first | (simp; done) | (simp; omega) | omega) _) | refine Nx.trans ?_ (by assumption)))
          have d4 : decide ((n : Int) ≤ r) = false := by simpa using f4
          obtain ⟨en, rfl⟩ := Int.eq_ofNat_of_zero_le (show 0 ≤ e by omega)
          obtain ⟨rn, rfl⟩ := Int.eq_ofNat_of_zero_le (show 0 ≤ r by omega)
          go_wp2_with fail
          refine (l3Root_c A' B' C' n ca' n cb' k cc' (rpS n (T.take k)).1 rn _ HiA.out Hinv.out n16 (by omega)).mono ?_
          rintro e w4 ⟨y, rfl, hy, hyn, hn4⟩
          replace X0 := X0.nx hn4
          replace X0_0 := X0.cell (j := 0) rfl
          replace X0_1 := X0.cell (j := 1) rfl
          replace X0_2 := X0.cell (j := 2) rfl
          replace X0_z := X0.lt
          replace G := G.nx hn4
          replace G_0 := G.cell (j := 0) rfl
          replace G_1 := G.cell (j := 1) rfl
          replace G_2 := G.cell (j := 2) rfl
          replace G_z := G.lt
          replace N := N.trans hn4
          replace r1 := N.cell hbc R1.out
          replace r2 := N.cell hbc R2.out
          replace hbc2 := Nat.lt_of_lt_of_le hbc N.size
          have jA := Lib.hid (HiA.out.nx hn4)
          have jB := Lib.hid (HiB.out.nx hn4)
          have jC := Lib.hid (HiC.out.nx hn4)
          have z4 := hn4.size
          clear hn4 HiA HiB HiC
          by_cases f5 : y = rn
          · subst f5
            have d5 : ((y : Int) != (y : Int)) = false := by simp
            have Hr := Lib.hid (Up.end_ hy)
            clear hy
            go_wp2_with fail
            refine (l3Unite_c A' B' C' n ca' cb' k cc' (rpS n (T.take k)).1 en y _ jA.out jB.out jC.out Hinv.out (by omega) n16 HTl.out (by omega) (by omega) (by omega)).mono ?_
            rintro e w5 ⟨a, b, ha, hb, _, _, A5, ca5, B5, cb5, C5, cc5, rfl, oA, oB, oC, _, _, _, hn5⟩
            have eb : (b : Int) = y := hb.only (.root Hr.out)
            rw [eb] at oA oB oC ⊢
            replace X0 := X0.nx hn5
            replace X0_0 := X0.cell (j := 0) rfl
            replace X0_1 := X0.cell (j := 1) rfl
            replace X0_2 := X0.cell (j := 2) rfl
            replace X0_z := X0.lt
            replace G := G.nx hn5
            replace G_0 := G.cell (j := 0) rfl
            replace G_1 := G.cell (j := 1) rfl
            replace G_2 := G.cell (j := 2) rfl
            replace G_z := G.lt
            replace N := N.trans hn5
            replace r1 := N.cell hbc R1.out
            replace r2 := N.cell hbc R2.out
            replace hbc2 := Nat.lt_of_lt_of_le hbc N.size
            have z5 := hn5.size
            have G_f := G.free
            obtain ⟨t2, ht2⟩ := unS_T (rpS n (T.take k)).1 (a : Int) (y : Int)
            have hl1 : (unS (rpS n (T.take k)).1 (a : Int) (y : Int)).P.length = n := by rw [unS_P, Hinv.out.lp]
            have hl2 : (unS (rpS n (T.take k)).1 (a : Int) (y : Int)).Z.length = n := by rw [unS_Z, Hinv.out.lz]
            have hl3 : (unS (rpS n (T.take k)).1 (a : Int) (y : Int)).T.length = k + 1 := by rw [ht2, List.length_append, HTl.out]; rfl
            rw [hl1, hl2, hl3]
            have hT : (unS (rpS n (T.take k)).1 (a : Int) (y : Int)).T[k]? = some t2 := by rw [ht2, List.getElem?_append_right (by rw [HTl.out]; omega), HTl.out]; simp
            have Ha := Lib.hid ha
            have HT2 := Lib.hid ht2
            have HTk := Lib.hid hT
            clear hl1 hl2 hl3 ht2 hT ha hb eb
            go_upto_region 15 with (fail)
            generalize hW6 : World.setCell _ _ _ = W6
            have g6 : w5.grownBy W6 (some w2.heap.size) := by subst hW6; exact grown_trans (grown_trans (grown_setCell _ _ _ _) (grown_setCell _ _ _ _)) (grown_setCell _ _ _ _)
            have G6 : Bx W6 w2.heap.size 37 [.slice A5 n ca5, .slice B5 n cb5, .slice C5 (k + 1) cc5] := by subst hW6; simpa using ((G.set (j := 0) (.slice A5 n ca5)).set (j := 1) (.slice B5 n cb5)).set (j := 2) (.slice C5 (k + 1) cc5)
            clear hW6
            have z6 := g6.size
            replace N := N.grown g6 (fun k e => by injection e with e; omega)
            replace X0 := X0.grown g6 (by simp; omega)
            replace oA := oA.kept g6 (apart_ne fun k hk => by have := (oA.lt k hk).1; omega)
            replace oB := oB.kept g6 (apart_ne fun k hk => by have := (oB.lt k hk).1; omega)
            replace oC := oC.kept g6 (apart_ne fun k hk => by have := (oC.lt k hk).1; omega)
            clear g6 G G_0 G_1 G_2 G_z G_f X0_0 X0_1 X0_2 X0_z
            have X0_0 := X0.cell (j := 0) rfl
            have X0_1 := X0.cell (j := 1) rfl
            have X0_2 := X0.cell (j := 2) rfl
            have X0_z := X0.lt
            have G_0 := G6.cell (j := 0) rfl
            have G_1 := G6.cell (j := 1) rfl
            have G_2 := G6.cell (j := 2) rfl
            have G_z := G6.lt
            replace r1 := N.cell hbc R1.out
            replace r2 := N.cell hbc R2.out
            replace hbc2 := Nat.lt_of_lt_of_le hbc N.size
            obtain ⟨b2, off2, rfl, hb2, q1, q2⟩ := oC.edgesAt.rd HTk.out
            obtain ⟨c2, y2⟩ := t2
            simp only at q1 q2
            have iA := Lib.hid oA.intsAt
            have iB := Lib.hid oB.intsAt
            have iC := Lib.hid oC.edgesAt
            clear oA oB oC
            by_cases f6 : c2 = c ∧ y2 = (y : Int)
            · obtain ⟨rfl, rfl⟩ := f6
              have hk : stOk (rpS n (T.take k)).1.P (rpS n (T.take k)).1.Z (rpS n (T.take k)).1.T.length (c2, (y : Int)) = true := by
                cases hh : stOk (rpS n (T.take k)).1.P (rpS n (T.take k)).1.Z (rpS n (T.take k)).1.T.length (c2, (y : Int)) with
                | true => rfl
                | false => exact absurd HT2.out (Hne.out (by rw [HTl.out]; omega) hh (by omega) (by omega) Hr.out (a : Int) Ha.out (by omega) (by omega))
              have hn1 := Hstep.out hk
              have hu := (Hyes.out hk).2.2.2.2.2 (a : Int) Ha.out
              have Hn1 := Lib.hid hn1
              have Hu := Lib.hid hu
              clear hk hn1 hu
              go_wp2_with fail
              go_quiet (fail)
              go_wp2
              go_roundg (gk - 1)
              case measure => omega
              case rel => exact ⟨k + 1, by omega, by go_num, N.drewN _, X0.nx (Nx.drewN (.refl _) _), Lib.hid (by rw [Hn1.out]), by first | exact G_z | (simpa using G_z), A5, ca5, B5, cb5, _, cc5, G6.nx (Nx.drewN (.refl _) _), by rw [Hn1.out, ← Hu.out]; exact iA.out.nx (Nx.drewN (.refl _) _), by rw [Hn1.out, ← Hu.out]; exact iB.out.nx (Nx.drewN (.refl _) _), by rw [Hn1.out, ← Hu.out]; exact iC.out.nx (Nx.drewN (.refl _) _)⟩
            · have hsv := Hno.out (fun ra hra q0 q1 q2 q3 q4 hu => f6 (by
                have e1 : (a : Int) = ra := Ha.out.only hra
                subst e1
                have h2 := HT2.out
                rw [hu] at h2
                have h3 := stS_T (s := (rpS n (T.take k)).1) (t := (c, (y : Int)))
                rcases h3 with h3 | h3
                · rw [h3] at h2
                  have := congrArg List.length h2
                  simp at this
                · rw [h3] at h2
                  have := snoc_inj h2
                  injection this with i1 i2
                  exact ⟨i1.symm, i2.symm⟩)) (fun _ _ q0 q1 => Hex.out 17 _ q0 q1 (by have := Hinv.out.one _ q0 q1; omega))
              have Hv := Lib.hid hsv
              clear hsv
              by_cases f7 : (c2 == c) = true
              · have f8 : (y2 == (y : Int)) = false := by simp at f7; simp; intro h; exact f6 ⟨f7, h⟩
                clear f6
                go_wp2_with fail
                go_quiet (fail)
                go_wp2
                go_ret
                exact RetV.bool (by simp [Hv.out]) (N.drewN _)
              · have f7 : (c2 == c) = false := by simpa using f7
                clear f6
                go_wp2_with fail
                go_quiet (fail)
                go_wp2
                go_ret
                exact RetV.bool (by simp [Hv.out]) (N.drewN _)
          · have d5 : ((y : Int) != (rn : Int)) = true := by simp; omega
            have hsv := Hno.out (fun ra _ q0 q1 q2 q3 q4 _ => by have := hy.only (.root q4); omega) (fun _ _ q0 q1 => Hex.out 17 _ q0 q1 (by have := Hinv.out.one _ q0 q1; omega))
            have Hv := Lib.hid hsv
            clear hsv hy
            go_wp2_with fail
            go_ret
            exact RetV.bool (by simp [Hv.out]) (by repeat (first | exact Nx.refl _ | assumption | apply Nx.alloc | apply Nx.drew | apply Nx.drewN | (refine Nx.setCell ?_ (by first | (simp; done) | (simp; omega) | omega) _) | refine Nx.trans ?_ (by assumption)))
        · obtain rfl : k = l := by omega
          have e1 : T.take k = T := List.take_of_length_le (by rw [H3.out]; omega)
          have e1' := Lib.hid e1
          have lT : (rpS n (T.take k)).1.T = T := by rw [HT.out, e1]
          have hv : decide ((rpS n (T.take k)).1.P = P ∧ (rpS n (T.take k)).1.Z = Z ∧ (rpS n (T.take k)).1.T = T) = decide (SV P Z T) := by
            rw [decide_eq_decide, Hsv.out]
            have := Hok.out
            rw [e1] at this
            simp only [lT, and_true]
            rw [e1]
            exact ⟨fun h => ⟨this, h⟩, fun h => h.2⟩
          have Hv := Lib.hid hv
          clear hv e1 lT
          go_wp2_with fail
          refine (l3Same_c A' B' C' A B C ca' cb' cc' ca cb cc n n k n m k (rpS n (T.take k)).1.P (rpS n (T.take k)).1.Z P Z (rpS n (T.take k)).1.T T _ HiA.out HiB.out HiC.out (HA.out.nx N) (HB.out.nx N) (HC.out.nx N) Hinv.out.lp Hinv.out.lz (by rw [HT.out, e1'.out, H3.out]) H1.out H2.out H3.out l1 (by omega) l3 l1 l2 l3).mono ?_
          rintro e w5 ⟨rfl, hn5⟩
          rw [Hv.out]
          go_wp2
          go_ret
          exact RetV.bool rfl (N.trans hn5)
    · have hsv : ¬ SV P Z T := fun h => hl (by rw [← h3]; exact h.steps)
      rw [sv_no hsv]
      have d1 : decide ((n : Int) < 1) = false := by simp; omega
      have d2 : decide (16 < (n : Int)) = false := by simp; omega
      have d3 : decide (100 < (l : Int)) = true := by simp; omega
      obtain ⟨n1, n16⟩ := hr
      clear hA hB hC h1 h2 h3 hsv hl
      go_enter Try.func22, Try.ntmps22
      go_wp2_with fail
      go_ret
      exact RetV.bool rfl (by repeat (first | exact Nx.refl _ | assumption | apply Nx.alloc | apply Nx.drew | apply Nx.drewN | (refine Nx.setCell ?_ (by first | (simp; done) | (simp; omega) | omega) _) | refine Nx.trans ?_ (by assumption)))
  · rw [sv_no (fun h => hr (by rw [← h1]; exact ⟨h.1, h.2.1⟩))]
    clear hA hB hC h1 h2 h3
    by_cases h : n < 1
    · have d1 : decide ((n : Int) < 1) = true := by simp; omega
      clear hr h
      go_enter Try.func22, Try.ntmps22
      go_wp2_with fail
      go_ret
      exact RetV.bool rfl (by repeat (first | exact Nx.refl _ | assumption | apply Nx.alloc | apply Nx.drew | apply Nx.drewN | (refine Nx.setCell ?_ (by first | (simp; done) | (simp; omega) | omega) _) | refine Nx.trans ?_ (by assumption)))
    · have d1 : decide ((n : Int) < 1) = false := by simp; omega
      have d2 : decide (16 < (n : Int)) = true := by simp; omega
      clear hr h
      go_enter Try.func22, Try.ntmps22
      go_wp2_with fail
      go_ret
      exact RetV.bool rfl (by repeat (first | exact Nx.refl _ | assumption | apply Nx.alloc | apply Nx.drew | apply Nx.drewN | (refine Nx.setCell ?_ (by first | (simp; done) | (simp; omega) | omega) _) | refine Nx.trans ?_ (by assumption)))
end Go.Proofs.Yticjoichmcegnaa
