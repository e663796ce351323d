/- FnPartsMore: the walk. -/
import Derived.Test.YtmagbdcmanchmaaQ0
import Derived.Test.YtmagbdcmanchmaaN1
import Derived.Test.YtmagbdcmanchmaaN2
namespace Go.Proofs.Ytmagbdcmanchmaa
open Go.RowKit

theorem Valid.out_ {n : Int} {es : Es} (h : Valid n es) (e : Int × Int) : Valid n (outE es e) := by
  have hp : es.Pairwise ltE := List.pairwise_iff_getElem.2 fun i j hi hj hij => h.sorted i j _ _ hij (List.getElem?_eq_getElem hi) (List.getElem?_eq_getElem hj)
  have hg : Good n (outE es e) := ⟨fun y hy => h.pair (outE_sub y hy), hp.filter _⟩
  have := outE_len es e
  exact hg.valid h.1 h.2.1 (by have := h.2.2.1; omega)

/-- what is known of the two lists of labels -/
def More (n k : Nat) (a b : List Int) (m : Nat) : Prop :=
  a.length = m ∧ b.length = m ∧ (∀ (i : Nat) (x y : Int), a[i]? = some x → b[i]? = some y → x ≤ y) ∧ (k = n ∧ a = b ∨ k = n + 1 ∧ a ≠ b)
theorem more_of {n : Int} {es : Es} {u v : Int} (h : Valid n es) : More (partCnt n es) (partCnt n (outE es (u, v))) (partsOf n es) (partsOf n (outE es (u, v))) n.toNat := by
  have hv2 := h.out_ (u, v)
  have l1 := labels_length h.inR
  have l2 := labels_length hv2.inR
  obtain ⟨h1, h2, h3⟩ := parts_more (u := u) (v := v) h.inR
  unfold partCnt
  rw [partsOf_yes h, partsOf_yes hv2, l1, l2]
  refine ⟨l1, l2, fun i x y hx hy => ?_, ?_⟩
  · have hi : i < n.toNat := by rw [← l1]; exact (List.getElem?_eq_some_iff.1 hx).1
    have := h1 i hi
    unfold lk at this
    simp only [Int.toNat_natCast, hx, hy, Option.getD_some] at this
    exact this
  · rcases h2 with h2 | h2
    · exact .inl ⟨h2, h3.1 h2⟩
    · exact .inr ⟨h2, fun e => by have := h3.2 e; omega⟩

set_option maxRecDepth 100000 in
set_option maxHeartbeats 8000000 in
theorem fnPartsMore_walk (w : World) (A : Option Addr) (n c : Nat) (hnc : n ≤ c) (hb : BytesAt w w.heap.size A n) :
    Calls Try.prog 7 #[.slice A n c] w (RetV (.bool true) w) := by
  by_cases hbig : (n : Int) > 1048576
  · go_enter Try.func7, Try.ntmps7
    go_wp2
    go_ret
    exact RetV.bool rfl (by repeat (first | exact Nx.refl _ | assumption | apply Nx.alloc | apply Nx.drew | apply Nx.drewN | (refine Nx.setCell ?_ (by first | (simp; done) | (simp; omega) | omega) _) | refine Nx.trans ?_ (by assumption)))
  · go_enter Try.func7, Try.ntmps7
    go_wp2_with fail
    refine (drawCutEdge_c A n c _ hnc hb).mono ?_
    rintro e w1 ⟨nn, B, d, es, u, v, rfl, h1, h2, h3, ho, N⟩
    have hg := ho.edgesAt
    clear ho hb
    by_cases hp : HasB nn es u v
    · have Hi := iCut_yes nn B d es u v hp
      have Hs := sCut_yes nn B d es u v hp
      have hlx := outE_len es (u, v)
      have HM := Lib.hid (more_of (u := u) (v := v) hp.1)
      have hnt : ((nn.toNat : Nat) : Int) = nn := by omega
      have hk1 : partCnt nn es ≤ 16 := by unfold partCnt; exact Nat.le_trans (cntTo_le _ _) (partsOf_length nn es)
      have hk2 : partCnt nn (outE es (u, v)) ≤ 16 := by unfold partCnt; exact Nat.le_trans (cntTo_le _ _) (partsOf_length nn _)
      clear hp
      generalize outE es (u, v) = ys at *
      go_wp2_with fail
      generalize hW2 : World.alloc _ _ = W2
      have gW2 : Nx w1 W2 := by subst hW2; exact (by repeat (first | exact Nx.refl _ | assumption | apply Nx.alloc | apply Nx.drew | apply Nx.drewN | (refine Nx.setCell ?_ (by first | (simp; done) | (simp; omega) | omega) _) | refine Nx.trans ?_ (by assumption)))
      have sW2 : W2.heap.size = w1.heap.size + 2 := by subst hW2; simp
      have G : Bx W2 (w1.heap.size) 29 [V nn, .slice B es.length d] := by subst hW2; have h := Bx.alloc w1 29 [V nn, .slice B es.length d]; have h := h.nx (Nx.alloc (Nx.refl _) (.cells #[V u, V v] 40)); simpa using h
      have E : Bx W2 (w1.heap.size + 1) 40 [V u, V v] := by subst hW2; have h := Bx.alloc (w1.alloc (.cells #[V nn, .slice B es.length d] 29)) 40 [V u, V v]; simpa using h
      have G_0 := G.cell (j := 0) rfl
      have G_1 := G.cell (j := 1) rfl
      have G_z := G.lt
      have E_0 := E.cell (j := 0) rfl
      have E_1 := E.cell (j := 1) rfl
      have E_z := E.lt
      have HsW2 := Lib.hid sW2
      have lW2 : w1.heap.size + 2 ≤ W2.heap.size := by omega
      clear hW2 sW2
      replace hg := hg.nx gW2
      replace N := N.trans gW2
      refine (Hi _ hg (by omega)).mono ?_
      rintro e w3 ⟨C, k, rfl, ho3, hn3⟩
      replace G := G.nx hn3
      replace G_0 := G.cell (j := 0) rfl
      replace G_1 := G.cell (j := 1) rfl
      replace G_z := G.lt
      replace E := E.nx hn3
      replace E_0 := E.cell (j := 0) rfl
      replace E_1 := E.cell (j := 1) rfl
      replace E_z := E.lt
      replace hg := hg.nx hn3
      replace N := N.trans hn3
      have hx := ho3.edgesAt
      clear ho3
      go_wp2_with fail
      generalize hW4 : World.alloc _ _ = W4
      have gW4 : Nx w3 W4 := by subst hW4; exact (by repeat (first | exact Nx.refl _ | assumption | apply Nx.alloc | apply Nx.drew | apply Nx.drewN | (refine Nx.setCell ?_ (by first | (simp; done) | (simp; omega) | omega) _) | refine Nx.trans ?_ (by assumption)))
      have sW4 : W4.heap.size = w3.heap.size + 1 := by subst hW4; simp
      have X : Bx W4 (w3.heap.size) 29 [V nn, .slice C ys.length k] := by subst hW4; have h := Bx.alloc w3 29 [V nn, .slice C ys.length k]; simpa using h
      have X_0 := X.cell (j := 0) rfl
      have X_1 := X.cell (j := 1) rfl
      have X_z := X.lt
      have HsW4 := Lib.hid sW4
      have lW4 : w3.heap.size + 1 ≤ W4.heap.size := by omega
      clear hW4 sW4
      replace G := G.nx gW4
      replace G_0 := G.cell (j := 0) rfl
      replace G_1 := G.cell (j := 1) rfl
      replace G_z := G.lt
      replace E := E.nx gW4
      replace E_0 := E.cell (j := 0) rfl
      replace E_1 := E.cell (j := 1) rfl
      replace E_z := E.lt
      replace hg := hg.nx gW4
      replace hx := hx.nx gW4
      replace N := N.trans gW4
      refine (Hs _ hg (by omega)).mono ?_
      rintro e w5 ⟨D, m, rfl, ho5, hn5⟩
      replace G := G.nx hn5
      replace G_0 := G.cell (j := 0) rfl
      replace G_1 := G.cell (j := 1) rfl
      replace G_z := G.lt
      replace E := E.nx hn5
      replace E_0 := E.cell (j := 0) rfl
      replace E_1 := E.cell (j := 1) rfl
      replace E_z := E.lt
      replace X := X.nx hn5
      replace X_0 := X.cell (j := 0) rfl
      replace X_1 := X.cell (j := 1) rfl
      replace X_z := X.lt
      replace hg := hg.nx hn5
      replace hx := hx.nx hn5
      replace N := N.trans hn5
      have hy := ho5.edgesAt
      clear ho5
      go_wp2_with fail
      generalize hW6 : World.alloc _ _ = W6
      have gW6 : Nx w5 W6 := by subst hW6; exact (by repeat (first | exact Nx.refl _ | assumption | apply Nx.alloc | apply Nx.drew | apply Nx.drewN | (refine Nx.setCell ?_ (by first | (simp; done) | (simp; omega) | omega) _) | refine Nx.trans ?_ (by assumption)))
      have sW6 : W6.heap.size = w5.heap.size + 1 := by subst hW6; simp
      have Y : Bx W6 (w5.heap.size) 29 [V nn, .slice D ys.length m] := by subst hW6; have h := Bx.alloc w5 29 [V nn, .slice D ys.length m]; simpa using h
      have Y_0 := Y.cell (j := 0) rfl
      have Y_1 := Y.cell (j := 1) rfl
      have Y_z := Y.lt
      have HsW6 := Lib.hid sW6
      have lW6 : w5.heap.size + 1 ≤ W6.heap.size := by omega
      clear hW6 sW6
      replace G := G.nx gW6
      replace G_0 := G.cell (j := 0) rfl
      replace G_1 := G.cell (j := 1) rfl
      replace G_z := G.lt
      replace E := E.nx gW6
      replace E_0 := E.cell (j := 0) rfl
      replace E_1 := E.cell (j := 1) rfl
      replace E_z := E.lt
      replace X := X.nx gW6
      replace X_0 := X.cell (j := 0) rfl
      replace X_1 := X.cell (j := 1) rfl
      replace X_z := X.lt
      replace hg := hg.nx gW6
      replace hx := hx.nx gW6
      replace hy := hy.nx gW6
      replace N := N.trans gW6
      refine (same_yes nn C D k m ys _ hx hy (by omega)).mono ?_
      rintro e w7 ⟨rfl, hn7⟩
      replace G := G.nx hn7
      replace G_0 := G.cell (j := 0) rfl
      replace G_1 := G.cell (j := 1) rfl
      replace G_z := G.lt
      replace E := E.nx hn7
      replace E_0 := E.cell (j := 0) rfl
      replace E_1 := E.cell (j := 1) rfl
      replace E_z := E.lt
      replace X := X.nx hn7
      replace X_0 := X.cell (j := 0) rfl
      replace X_1 := X.cell (j := 1) rfl
      replace X_z := X.lt
      replace Y := Y.nx hn7
      replace Y_0 := Y.cell (j := 0) rfl
      replace Y_1 := Y.cell (j := 1) rfl
      replace Y_z := Y.lt
      replace hg := hg.nx hn7
      replace hx := hx.nx hn7
      replace hy := hy.nx hn7
      replace N := N.trans hn7
      go_wp2_with fail
      refine (iPartCount_c nn B d es _ hg (by omega)).mono ?_
      rintro e w8 ⟨rfl, hn8⟩
      replace G := G.nx hn8
      replace G_0 := G.cell (j := 0) rfl
      replace G_1 := G.cell (j := 1) rfl
      replace G_z := G.lt
      replace E := E.nx hn8
      replace E_0 := E.cell (j := 0) rfl
      replace E_1 := E.cell (j := 1) rfl
      replace E_z := E.lt
      replace X := X.nx hn8
      replace X_0 := X.cell (j := 0) rfl
      replace X_1 := X.cell (j := 1) rfl
      replace X_z := X.lt
      replace Y := Y.nx hn8
      replace Y_0 := Y.cell (j := 0) rfl
      replace Y_1 := Y.cell (j := 1) rfl
      replace Y_z := Y.lt
      replace hg := hg.nx hn8
      replace hx := hx.nx hn8
      replace hy := hy.nx hn8
      replace N := N.trans hn8
      go_wp2_with fail
      refine (iPartCount_c nn C k ys _ hx (by omega)).mono ?_
      rintro e w9 ⟨rfl, hn9⟩
      replace G := G.nx hn9
      replace G_0 := G.cell (j := 0) rfl
      replace G_1 := G.cell (j := 1) rfl
      replace G_z := G.lt
      replace E := E.nx hn9
      replace E_0 := E.cell (j := 0) rfl
      replace E_1 := E.cell (j := 1) rfl
      replace E_z := E.lt
      replace X := X.nx hn9
      replace X_0 := X.cell (j := 0) rfl
      replace X_1 := X.cell (j := 1) rfl
      replace X_z := X.lt
      replace Y := Y.nx hn9
      replace Y_0 := Y.cell (j := 0) rfl
      replace Y_1 := Y.cell (j := 1) rfl
      replace Y_z := Y.lt
      replace hg := hg.nx hn9
      replace hx := hx.nx hn9
      replace hy := hy.nx hn9
      replace N := N.trans hn9
      go_wp2_with fail
      refine (iPartsOf_c nn B d es _ hg (by omega)).mono ?_
      rintro e w10 ⟨P, pd, rfl, hoa, hn10⟩
      replace G := G.nx hn10
      replace G_0 := G.cell (j := 0) rfl
      replace G_1 := G.cell (j := 1) rfl
      replace G_z := G.lt
      replace E := E.nx hn10
      replace E_0 := E.cell (j := 0) rfl
      replace E_1 := E.cell (j := 1) rfl
      replace E_z := E.lt
      replace X := X.nx hn10
      replace X_0 := X.cell (j := 0) rfl
      replace X_1 := X.cell (j := 1) rfl
      replace X_z := X.lt
      replace Y := Y.nx hn10
      replace Y_0 := Y.cell (j := 0) rfl
      replace Y_1 := Y.cell (j := 1) rfl
      replace Y_z := Y.lt
      replace hg := hg.nx hn10
      replace hx := hx.nx hn10
      replace hy := hy.nx hn10
      replace N := N.trans hn10
      have ha := hoa.intsAt
      clear hoa
      have hal := partsOf_length nn es
      go_wp2_with fail
      refine (iPartsOf_c nn C k ys _ hx (by omega)).mono ?_
      rintro e w11 ⟨Q, qd, rfl, hob, hn11⟩
      replace G := G.nx hn11
      replace G_0 := G.cell (j := 0) rfl
      replace G_1 := G.cell (j := 1) rfl
      replace G_z := G.lt
      replace E := E.nx hn11
      replace E_0 := E.cell (j := 0) rfl
      replace E_1 := E.cell (j := 1) rfl
      replace E_z := E.lt
      replace X := X.nx hn11
      replace X_0 := X.cell (j := 0) rfl
      replace X_1 := X.cell (j := 1) rfl
      replace X_z := X.lt
      replace Y := Y.nx hn11
      replace Y_0 := Y.cell (j := 0) rfl
      replace Y_1 := Y.cell (j := 1) rfl
      replace Y_z := Y.lt
      replace hg := hg.nx hn11
      replace hx := hx.nx hn11
      replace hy := hy.nx hn11
      replace ha := ha.nx hn11
      replace N := N.trans hn11
      have hb := hob.intsAt
      clear hob
      have hbl := partsOf_length nn ys
      generalize partsOf nn es = La at *
      generalize partsOf nn ys = Lb at *
      generalize partCnt nn es = pn at *
      generalize partCnt nn ys = pk at *
      generalize nn.toNat = nt at *
      subst hnt
      go_wp2
      go_loopw [13] (fun i wr => ∃ j : Nat, j ≤ nt ∧ i = .int .i64 j ∧ Nx w11 wr) (fun i _ => nt - (intOf i).toNat)
      case atStart => exact ⟨0, by omega, rfl, Nx.refl _⟩
      case round =>
        obtain ⟨j, hj, rfl, hn⟩ := hrel
        replace G := G.nx hn
        replace G_0 := G.cell (j := 0) rfl
        replace G_1 := G.cell (j := 1) rfl
        replace G_z := G.lt
        replace ha := ha.nx hn
        replace hb := hb.nx hn
        replace N := N.trans hn
        by_cases hlt : j < nt
        · have hla := HM.out.1
          have hlb := HM.out.2.1
          obtain ⟨b, off, rfl, hbb, hc⟩ := ha (by omega)
          obtain ⟨b', off', rfl, hbb', hc'⟩ := hb (by omega)
          have e1 := hc j (by omega)
          have e2 := hc' j (by omega)
          have hle := HM.out.2.2.1 j _ _ (List.getElem?_eq_getElem (by omega)) (List.getElem?_eq_getElem (by omega))
          generalize La[j] = p at *
          generalize Lb[j] = q at *
          have hpq : decide (p > q) = false := by simp; omega
          have hja : (j : Int) < La.length := by omega
          have hjb : (j : Int) < Lb.length := by omega
          clear hc hc' hla hlb
          go_wp2
          go_quiet (fail)
          go_wp2
          go_roundw
          case rel => exact ⟨j + 1, by omega, by go_num, (by repeat (first | exact Nx.refl _ | assumption | apply Nx.alloc | apply Nx.drew | apply Nx.drewN | (refine Nx.setCell ?_ (by first | (simp; done) | (simp; omega) | omega) _) | refine Nx.trans ?_ (by assumption)))⟩
          case measure => simp [intOf]; omega
        · have HW : IntKind.i64.wrap ((pn : Int) + 1) = (pn : Int) + 1 := by rw [IntKind.wrap_i64]; omega
          rcases HM.out.2.2.2 with ⟨rfl, rfl⟩ | ⟨rfl, hne⟩
          · have Hd := dyInts_c P Q pd qd La La
            rw [show decide (La = La) = true by simp] at Hd
            clear HM
            go_wp2_with fail
            refine (Hd _ ha hb (by omega) (by omega)).mono ?_
            rintro e w12 ⟨rfl, hn12⟩
            replace G := G.nx hn12
            replace G_0 := G.cell (j := 0) rfl
            replace G_1 := G.cell (j := 1) rfl
            replace G_z := G.lt
            replace N := N.trans hn12
            go_wp2
            go_ret
            exact RetV.bool rfl (by repeat (first | exact Nx.refl _ | assumption | apply Nx.alloc | apply Nx.drew | apply Nx.drewN | (refine Nx.setCell ?_ (by first | (simp; done) | (simp; omega) | omega) _) | refine Nx.trans ?_ (by assumption)))
          · have Hd := dyInts_c P Q pd qd La Lb
            rw [show decide (La = Lb) = false by simpa using hne] at Hd
            clear HM
            have hq1 : (((pn + 1 : Nat) : Int) == (pn : Int)) = false := by simp; omega
            have hq2 : (((pn + 1 : Nat) : Int) == (pn : Int) + 1) = true := by simp
            generalize hpk : pn + 1 = pk at *
            go_wp2_with fail
            refine (Hd _ ha hb (by omega) (by omega)).mono ?_
            rintro e w12 ⟨rfl, hn12⟩
            replace G := G.nx hn12
            replace G_0 := G.cell (j := 0) rfl
            replace G_1 := G.cell (j := 1) rfl
            replace G_z := G.lt
            replace N := N.trans hn12
            go_wp2
            go_ret
            exact RetV.bool rfl (by repeat (first | exact Nx.refl _ | assumption | apply Nx.alloc | apply Nx.drew | apply Nx.drewN | (refine Nx.setCell ?_ (by first | (simp; done) | (simp; omega) | omega) _) | refine Nx.trans ?_ (by assumption)))
    · have Hi := iCut_no nn B d es u v hp
      have Hs := sCut_no nn B d es u v hp
      clear hp
      go_wp2_with fail
      generalize hW2 : World.alloc _ _ = W2
      have gW2 : Nx w1 W2 := by subst hW2; exact (by repeat (first | exact Nx.refl _ | assumption | apply Nx.alloc | apply Nx.drew | apply Nx.drewN | (refine Nx.setCell ?_ (by first | (simp; done) | (simp; omega) | omega) _) | refine Nx.trans ?_ (by assumption)))
      have sW2 : W2.heap.size = w1.heap.size + 2 := by subst hW2; simp
      have G : Bx W2 (w1.heap.size) 29 [V nn, .slice B es.length d] := by subst hW2; have h := Bx.alloc w1 29 [V nn, .slice B es.length d]; have h := h.nx (Nx.alloc (Nx.refl _) (.cells #[V u, V v] 40)); simpa using h
      have E : Bx W2 (w1.heap.size + 1) 40 [V u, V v] := by subst hW2; have h := Bx.alloc (w1.alloc (.cells #[V nn, .slice B es.length d] 29)) 40 [V u, V v]; simpa using h
      have G_0 := G.cell (j := 0) rfl
      have G_1 := G.cell (j := 1) rfl
      have G_z := G.lt
      have E_0 := E.cell (j := 0) rfl
      have E_1 := E.cell (j := 1) rfl
      have E_z := E.lt
      have HsW2 := Lib.hid sW2
      have lW2 : w1.heap.size + 2 ≤ W2.heap.size := by omega
      clear hW2 sW2
      replace hg := hg.nx gW2
      replace N := N.trans gW2
      refine (Hi _ hg (by omega)).mono ?_
      rintro e w3 ⟨C, k, rfl, ho3, hn3⟩
      replace G := G.nx hn3
      replace G_0 := G.cell (j := 0) rfl
      replace G_1 := G.cell (j := 1) rfl
      replace G_z := G.lt
      replace E := E.nx hn3
      replace E_0 := E.cell (j := 0) rfl
      replace E_1 := E.cell (j := 1) rfl
      replace E_z := E.lt
      replace hg := hg.nx hn3
      replace N := N.trans hn3
      have hx := ho3.edgesAt
      clear ho3
      go_wp2_with fail
      generalize hW4 : World.alloc _ _ = W4
      have gW4 : Nx w3 W4 := by subst hW4; exact (by repeat (first | exact Nx.refl _ | assumption | apply Nx.alloc | apply Nx.drew | apply Nx.drewN | (refine Nx.setCell ?_ (by first | (simp; done) | (simp; omega) | omega) _) | refine Nx.trans ?_ (by assumption)))
      have sW4 : W4.heap.size = w3.heap.size + 1 := by subst hW4; simp
      have X : Bx W4 (w3.heap.size) 29 [V 0, .slice C 0 k] := by subst hW4; have h := Bx.alloc w3 29 [V 0, .slice C 0 k]; simpa using h
      have X_0 := X.cell (j := 0) rfl
      have X_1 := X.cell (j := 1) rfl
      have X_z := X.lt
      have HsW4 := Lib.hid sW4
      have lW4 : w3.heap.size + 1 ≤ W4.heap.size := by omega
      clear hW4 sW4
      replace G := G.nx gW4
      replace G_0 := G.cell (j := 0) rfl
      replace G_1 := G.cell (j := 1) rfl
      replace G_z := G.lt
      replace E := E.nx gW4
      replace E_0 := E.cell (j := 0) rfl
      replace E_1 := E.cell (j := 1) rfl
      replace E_z := E.lt
      replace hg := hg.nx gW4
      replace hx := hx.nx gW4
      replace N := N.trans gW4
      refine (Hs _ hg (by omega)).mono ?_
      rintro e w5 ⟨D, m, rfl, ho5, hn5⟩
      replace G := G.nx hn5
      replace G_0 := G.cell (j := 0) rfl
      replace G_1 := G.cell (j := 1) rfl
      replace G_z := G.lt
      replace E := E.nx hn5
      replace E_0 := E.cell (j := 0) rfl
      replace E_1 := E.cell (j := 1) rfl
      replace E_z := E.lt
      replace X := X.nx hn5
      replace X_0 := X.cell (j := 0) rfl
      replace X_1 := X.cell (j := 1) rfl
      replace X_z := X.lt
      replace hg := hg.nx hn5
      replace hx := hx.nx hn5
      replace N := N.trans hn5
      have hy := ho5.edgesAt
      clear ho5
      go_wp2_with fail
      generalize hW6 : World.alloc _ _ = W6
      have gW6 : Nx w5 W6 := by subst hW6; exact (by repeat (first | exact Nx.refl _ | assumption | apply Nx.alloc | apply Nx.drew | apply Nx.drewN | (refine Nx.setCell ?_ (by first | (simp; done) | (simp; omega) | omega) _) | refine Nx.trans ?_ (by assumption)))
      have sW6 : W6.heap.size = w5.heap.size + 1 := by subst hW6; simp
      have Y : Bx W6 (w5.heap.size) 29 [V 0, .slice D 0 m] := by subst hW6; have h := Bx.alloc w5 29 [V 0, .slice D 0 m]; simpa using h
      have Y_0 := Y.cell (j := 0) rfl
      have Y_1 := Y.cell (j := 1) rfl
      have Y_z := Y.lt
      have HsW6 := Lib.hid sW6
      have lW6 : w5.heap.size + 1 ≤ W6.heap.size := by omega
      clear hW6 sW6
      replace G := G.nx gW6
      replace G_0 := G.cell (j := 0) rfl
      replace G_1 := G.cell (j := 1) rfl
      replace G_z := G.lt
      replace E := E.nx gW6
      replace E_0 := E.cell (j := 0) rfl
      replace E_1 := E.cell (j := 1) rfl
      replace E_z := E.lt
      replace X := X.nx gW6
      replace X_0 := X.cell (j := 0) rfl
      replace X_1 := X.cell (j := 1) rfl
      replace X_z := X.lt
      replace hg := hg.nx gW6
      replace hx := hx.nx gW6
      replace hy := hy.nx gW6
      replace N := N.trans gW6
      refine (same_yes 0 C D k m [] _ hx hy (by simp)).mono ?_
      rintro e w7 ⟨rfl, hn7⟩
      replace G := G.nx hn7
      replace G_0 := G.cell (j := 0) rfl
      replace G_1 := G.cell (j := 1) rfl
      replace G_z := G.lt
      replace E := E.nx hn7
      replace E_0 := E.cell (j := 0) rfl
      replace E_1 := E.cell (j := 1) rfl
      replace E_z := E.lt
      replace X := X.nx hn7
      replace X_0 := X.cell (j := 0) rfl
      replace X_1 := X.cell (j := 1) rfl
      replace X_z := X.lt
      replace Y := Y.nx hn7
      replace Y_0 := Y.cell (j := 0) rfl
      replace Y_1 := Y.cell (j := 1) rfl
      replace Y_z := Y.lt
      replace hg := hg.nx hn7
      replace hx := hx.nx hn7
      replace hy := hy.nx hn7
      replace N := N.trans hn7
      go_wp2_with fail
      refine (same_yes 0 C D k m [] _ hx hy (by simp)).mono ?_
      rintro e w8 ⟨rfl, hn8⟩
      replace G := G.nx hn8
      replace G_0 := G.cell (j := 0) rfl
      replace G_1 := G.cell (j := 1) rfl
      replace G_z := G.lt
      replace E := E.nx hn8
      replace E_0 := E.cell (j := 0) rfl
      replace E_1 := E.cell (j := 1) rfl
      replace E_z := E.lt
      replace X := X.nx hn8
      replace X_0 := X.cell (j := 0) rfl
      replace X_1 := X.cell (j := 1) rfl
      replace X_z := X.lt
      replace Y := Y.nx hn8
      replace Y_0 := Y.cell (j := 0) rfl
      replace Y_1 := Y.cell (j := 1) rfl
      replace Y_z := Y.lt
      replace hg := hg.nx hn8
      replace hx := hx.nx hn8
      replace hy := hy.nx hn8
      replace N := N.trans hn8
      go_wp2
      go_ret
      exact RetV.bool rfl (by repeat (first | exact Nx.refl _ | assumption | apply Nx.alloc | apply Nx.drew | apply Nx.drewN | (refine Nx.setCell ?_ (by first | (simp; done) | (simp; omega) | omega) _) | refine Nx.trans ?_ (by assumption)))
end Go.Proofs.Ytmagbdcmanchmaa
