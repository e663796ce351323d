/- Contract: l3Undo of the reference. -/
import Derived.Test.YticjoichmcegnaaTC
import Derived.Deep.CutBlock
namespace Go.Proofs.Yticjoichmcegnaa
open Go.RowKit set_option linter.unusedVariables false set_option linter.unusedSimpArgs false

theorem OwnE.init {w : World} {base c : Nat} {t : TypeId} {A : Option Addr} {es : Es} {e : Int × Int} (h : OwnE w base t A c (es ++ [e])) : OwnE w base t A c es := by
  obtain ⟨_, h2⟩ := h
  rcases h2 with ⟨_, h2⟩ | ⟨g, cap, cur, hv, hb, hg, hle, hm, hs, ht⟩
  · simp at h2
  · refine ⟨cellsE_length es, .inr ⟨g, cap, cur, ?_, hb, hg, by simp at hle; omega, hm, hs, ?_⟩⟩
    · injection hv with e1 e2 e3
      rw [e1, e3]
    · rw [cellsE_append] at ht
      have h2 := congrArg (List.take (es.length * 2)) ht
      rw [List.take_take, Nat.min_eq_left (by simp; omega)] at h2
      rw [h2]
      have e2 := cellsE_length es
      rw [List.take_append_of_le_length (by omega), List.take_of_length_le (by omega)]
theorem WkE.some {w : World} {base c : Nat} {t : TypeId} {A : Option Addr} {es : Es} {e : Int × Int} (h : WkE w base t A c (es ++ [e])) : OwnE w base t A c (es ++ [e]) := by
  rcases h with h | ⟨h, _⟩
  · exact h
  · simp at h
/-- a step less -/
theorem SBW.cut {w : World} {base gb ca cb cc : Nat} {s : SS} {T : Es} {t : Int × Int} {A B C : Option Addr} (h : SBW w base gb s A ca B cb C cc) (hT : s.T = T ++ [t]) :
    SBW (w.setCell ⟨gb, 2, none⟩ (.slice C T.length cc)) base gb ⟨s.P, s.Z, T⟩ A ca B cb C cc := by
  have hg2 := grown_setCell w gb 2 (.slice C T.length cc)
  have hc := h.c
  rw [hT] at hc
  have h1 := h.bx.set (j := 2) (.slice C T.length cc)
  exact ⟨by simpa using h1, h.a.kept hg2 (apart_ne h.ga), h.b.kept hg2 (apart_ne h.gb'), .inl (hc.some.init.kept hg2 (apart_ne h.gc)), h.ab, h.ac, h.bc, h.ga, h.gb', h.gc⟩
theorem rpS_back {n : Nat} {T : Es} (h : (rpS n T).2 = true) (hn : 1 ≤ n) {j : Nat} {t : Int × Int} (ht : T[j]? = some t) :
    (rpS n (T.take (j + 1))).1 = ⟨stP (rpS n (T.take j)).1.P t, stZ (rpS n (T.take j)).1.Z t, T.take j ++ [t]⟩ ∧ unP (stP (rpS n (T.take j)).1.P t) t = (rpS n (T.take j)).1.P ∧ unZ (stZ (rpS n (T.take j)).1.Z t) t = (rpS n (T.take j)).1.Z ∧
    (rpS n (T.take j)).1.T = T.take j ∧ (t.1 = -1 ∨ (0 ≤ t.1 ∧ t.1 < n)) ∧ 0 ≤ t.2 ∧ t.2 < n := by
  have hk := rpS_stOk h ht
  have hj := rpS_take_ok h j
  have hi := rpS_inv hn (T.take j)
  have hT := (rpS_T _ hj).1
  have h1 := rpS_next ht hj hk
  obtain ⟨_, hr, hc⟩ := stOk_parts hk
  have lp := hi.lp
  have hr' := isRt_iff.1 hr
  refine ⟨?_, (un_step hi hk).1, (un_step hi hk).2, hT, ?_, hr'.1, by omega⟩
  · rw [h1]
    unfold stS
    simp only [hk, if_true]
    rw [hT]
  · rcases hc with hc | ⟨_, hc, _⟩
    · exact .inl hc
    · have := isRt_iff.1 hc
      exact .inr ⟨this.1, by omega⟩

set_option maxRecDepth 100000 in
set_option maxHeartbeats 16000000 in
theorem l3Undo_c (A B C : Option Addr) (n ca cb l cc k : Nat) (P Z : List Int) (T : Es) (w : World) (hA : IntsAt w A P) (hB : IntsAt w B Z) (hC : EdgesAt w C T) (h1 : P.length = n) (h3 : T.length = l) (hv : SV P Z T) (hk : k ≤ l) :
    Calls Try.prog 81 #[St A n ca B n cb C l cc, V k] w (RetSW (rpS n (T.take (l - k))).1 id w) := by
  have hinv := hv.inv
  rw [h1] at hinv
  have hn1 : 1 ≤ n := h1 ▸ hv.1
  have hn16 : n ≤ 16 := h1 ▸ hv.2.1
  have hok : (rpS n T).2 = true := h1 ▸ hv.2.2.1
  have hl100 : l ≤ 100 := h3 ▸ hv.steps
  have hS0 : (rpS n (T.take l)).1 = ⟨P, Z, T⟩ := by
    rw [List.take_of_length_le (by omega)]
    have e1 : (rpS n T).1.P = P := h1 ▸ hv.2.2.2.1
    have e2 : (rpS n T).1.Z = Z := h1 ▸ hv.2.2.2.2
    have e3 := (rpS_T T hok).1
    cases hh : (rpS n T).1 with
    | mk p z t => rw [hh] at e1 e2 e3; simp only at e1 e2 e3; rw [e1, e2, e3]
  have HA := Lib.hid hA
  have HB := Lib.hid hB
  have HC := Lib.hid hC
  have H1 := Lib.hid h1
  have H3 := Lib.hid h3
  have Hback := Lib.hid (fun (j : Nat) (t : Int × Int) ht => rpS_back hok hn1 (j := j) (t := t) ht)
  have Hinv := Lib.hid (fun j => rpS_inv (n := n) hn1 (T.take j))
  have HS0 := Lib.hid hS0
  have HT := Lib.hid (fun j => (rpS_T _ (rpS_take_ok hok j)).1)
  have hcopy := fun w' a b c => l3Copy_c A B C ca cb cc n n l ⟨P, Z, T⟩ w' a b c h1 hinv.lz h3 (by omega) (by omega) (by omega) (by omega) (by omega)
  have Hcopy := Lib.hid hcopy
  have HZ := Lib.hid hinv.lz
  clear hA hB hC h1 h3 hinv hcopy hv hok hS0
  go_enter Try.func81, Try.ntmps81
  go_wp2_with fail
  generalize hW1 : World.alloc _ _ = W1
  have gW1 : Nx w W1 := by subst hW1; exact (by repeat (first | exact Nx.refl _ | assumption | apply Nx.alloc | apply Nx.drew | apply Nx.drewN | (refine Nx.setCell ?_ (by first | (simp; done) | (simp; omega) | omega) _) | refine Nx.trans ?_ (by assumption)))
  have sW1 : W1.heap.size = w.heap.size + 2 := by subst hW1; simp
  have X0 : Bx W1 (w.heap.size) 37 [.slice A n ca, .slice B n cb, .slice C l cc] := by subst hW1; have h := Bx.alloc w 37 [.slice A n ca, .slice B n cb, .slice C l cc]; have h := h.nx (Nx.alloc (Nx.refl _) (.cells #[.slice none 0 0, .slice none 0 0, .slice none 0 0] 37)); simpa using h
  have X1 : Bx W1 (w.heap.size + 1) 37 [.slice none 0 0, .slice none 0 0, .slice none 0 0] := by subst hW1; have h := Bx.alloc (w.alloc (.cells #[.slice A n ca, .slice B n cb, .slice C l cc] 37)) 37 [.slice none 0 0, .slice none 0 0, .slice none 0 0]; simpa using h
  have X0_0 := X0.cell (j := 0) rfl
  have X0_1 := X0.cell (j := 1) rfl
  have X0_2 := X0.cell (j := 2) rfl
  have X0_z := X0.lt
  have X1_0 := X1.cell (j := 0) rfl
  have X1_1 := X1.cell (j := 1) rfl
  have X1_2 := X1.cell (j := 2) rfl
  have X1_z := X1.lt
  have HsW1 := Lib.hid sW1
  have lW1 : w.heap.size + 2 ≤ W1.heap.size := by omega
  clear hW1 sW1
  have N := gW1
  refine (Hcopy.out _ (HA.out.nx N) (HB.out.nx N) (HC.out.nx N)).mono ?_
  rintro e w2 ⟨A2, ca2, B2, cb2, C2, cc2, rfl, oA, oB, oC, sAB, sAC, sBC, hn2⟩
  simp only at oA oB oC
  replace X1 := X1.nx hn2
  replace X1_0 := X1.cell (j := 0) rfl
  replace X1_1 := X1.cell (j := 1) rfl
  replace X1_2 := X1.cell (j := 2) rfl
  replace X1_z := X1.lt
  replace N := N.trans hn2
  have z2 := hn2.size
  simp only [H1.out, H3.out]
  rw [show Z.length = n from HZ.out]
  go_wp2_with fail
  generalize hW3 : World.alloc _ _ = W3
  have gW3 : Nx w2 W3 := by subst hW3; exact (by repeat (first | exact Nx.refl _ | assumption | apply Nx.alloc | apply Nx.drew | apply Nx.drewN | (refine Nx.setCell ?_ (by first | (simp; done) | (simp; omega) | omega) _) | refine Nx.trans ?_ (by assumption)))
  have sW3 : W3.heap.size = w2.heap.size + 1 := by subst hW3; simp
  have OUT : Bx W3 (w2.heap.size) 37 [.slice A2 n ca2, .slice B2 n cb2, .slice C2 l cc2] := by subst hW3; have h := Bx.alloc w2 37 [.slice A2 n ca2, .slice B2 n cb2, .slice C2 l cc2]; simpa using h
  have OUT_0 := OUT.cell (j := 0) rfl
  have OUT_1 := OUT.cell (j := 1) rfl
  have OUT_2 := OUT.cell (j := 2) rfl
  have OUT_z := OUT.lt
  have HsW3 := Lib.hid sW3
  have lW3 : w2.heap.size + 1 ≤ W3.heap.size := by omega
  clear hW3 sW3
  replace X1 := X1.nx gW3
  replace X1_0 := X1.cell (j := 0) rfl
  replace X1_1 := X1.cell (j := 1) rfl
  replace X1_2 := X1.cell (j := 2) rfl
  replace X1_z := X1.lt
  replace N := N.trans gW3
  have h3 : SBW W3 W1.heap.size w2.heap.size ⟨P, Z, T⟩ A2 ca2 B2 cb2 C2 cc2 := ⟨by simp only [H1.out, H3.out]; rw [show Z.length = n from HZ.out]; exact OUT, oA.nx gW3, oB.nx gW3, oC.nx gW3, sAB, sAC, sBC, fun k hk => by have := (oA.lt k hk).2; omega, fun k hk => by have := (oB.lt k hk).2; omega, fun k hk => by have := (oC.lt k hk).2; omega⟩
  obtain ⟨gA, rfl, _, _⟩ := oA.at (by rw [H1.out]; omega)
  obtain ⟨gB, rfl, _, _⟩ := oB.at (by rw [show Z.length = n from HZ.out]; omega)
  rw [← HS0.out] at h3
  have H03 := Lib.hid h3
  clear oA oB oC sAB sAC sBC hn2 gW1 gW3 h3 X0 X0_0 X0_1 X0_2 X0_z
  go_loopg [6, 7] k (fun gk i _ wr => ∃ (q j : Nat), q + gk = k ∧ q + j = l ∧ i = .int .i64 q ∧ Nx w wr ∧ Bx wr (w.heap.size + 1) 37 [.slice none 0 0, .slice none 0 0, .slice none 0 0] ∧ SBW wr W1.heap.size w2.heap.size (rpS n (T.take j)).1 (some ⟨gA, 0, none⟩) ca2 (some ⟨gB, 0, none⟩) cb2 C2 cc2)
  case atStart => exact ⟨0, l, by omega, by omega, rfl, N, X1, H03.out⟩
  case round =>
    clear N X1 X1_0 X1_1 X1_2 X1_z OUT OUT_0 OUT_1 OUT_2 OUT_z H03
    obtain ⟨q, j, hq, hj, rfl, N, X1, h⟩ := hrel
    have lp := (Hinv.out j).lp
    have lz := (Hinv.out j).lz
    have lt : (rpS n (T.take j)).1.T.length = j := by rw [HT.out, List.length_take, H3.out]; omega
    have G := h.bx
    rw [lp, lz, lt] at G
    have G_0 := G.cell (j := 0) rfl
    have G_1 := G.cell (j := 1) rfl
    have G_2 := G.cell (j := 2) rfl
    have G_z := G.lt
    have G_f := G.free
    by_cases hlt : q < k
    · obtain ⟨j, rfl⟩ : ∃ i, j = i + 1 := ⟨j - 1, by omega⟩
      obtain ⟨t, ht⟩ : ∃ t, T[j]? = some t := ⟨_, List.getElem?_eq_getElem (by rw [H3.out]; omega)⟩
      obtain ⟨b1, b2, b3, b4, b5, b6, b7⟩ := Hback.out _ _ ht
      rw [b1] at h
      obtain ⟨c, r⟩ := t
      simp only at b5 b6 b7
      have hc := h.c.some
      have hcap := hc.cap
      obtain ⟨gC, rfl, gC1, gC2⟩ := hc.at (by simp)
      have ej : (T.take j).length = j := by rw [List.length_take, H3.out]; omega
      obtain ⟨r1, r2⟩ := hc.cell (k := j) (by simp [ej])
      simp [List.getElem_append, ej] at r1 r2
      have hlen : (T.take j ++ [(c, r)]).length ≤ cc2 := hc.cap
      rw [List.length_append, ej] at hlen
      simp at hlen
      have hinv := Hinv.out (j + 1)
      rw [b1] at hinv
      have hSj : (rpS n (T.take j)).1 = ⟨unP (stP (rpS n (T.take j)).1.P (c, r)) (c, r), unZ (stZ (rpS n (T.take j)).1.Z (c, r)) (c, r), T.take j⟩ := by have e : ∀ s : SS, s.T = T.take j → s = ⟨s.P, s.Z, T.take j⟩ := fun s h => (by rw [← h]); rw [b2, b3]; exact e _ b4
      clear b1 b2 b3 b4 ht hc hcap lp lz lt
      generalize stP (rpS n (T.take j)).1.P (c, r) = P5 at *
      generalize stZ (rpS n (T.take j)).1.Z (c, r) = Z5 at *
      have HSj := Lib.hid hSj
      have lP := Lib.hid hinv.lp
      have lZ := Lib.hid hinv.lz
      have hbd := hinv.bd hn16
      have Hbd := Lib.hid hbd
      have Ej := Lib.hid ej
      have Hh := Lib.hid h
      have ltA : gA < wr.heap.size := (h.a.lt gA rfl).2
      have ltB : gB < wr.heap.size := (h.b.lt gB rfl).2
      clear hSj hinv hbd ej h
      go_upto_block 1 with (fail)
      go_cut [6] from 15 to 56 (fun s6 wc => s6 = V q ∧ SBW wc W1.heap.size w2.heap.size (rpS n (T.take j)).1 (some ⟨gA, 0, none⟩) ca2 (some ⟨gB, 0, none⟩) cb2 (some ⟨gC, 0, none⟩) cc2 ∧ Nx w wc ∧ Bx wc (w.heap.size + 1) 37 [.slice none 0 0, .slice none 0 0, .slice none 0 0])
      case first =>
        go_upto_region 7 with (fail)
        generalize hW5 : World.alloc _ _ = W5
        have h5 : SBW W5 W1.heap.size w2.heap.size ⟨P5, Z5, T.take j⟩ (some ⟨gA, 0, none⟩) ca2 (some ⟨gB, 0, none⟩) cb2 (some ⟨gC, 0, none⟩) cc2 := by
          subst hW5
          have := (Hh.out.cut (T := T.take j) (t := (c, r)) rfl).nx (Nx.alloc (.refl _) (.cells #[V c, V r] 98))
          rw [Ej.out] at this
          exact this
        have L : Bx W5 wr.heap.size 98 [V c, V r] := by subst hW5; have := Bx.alloc (wr.setCell ⟨w2.heap.size, 2, none⟩ (.slice (some ⟨gC, 0, none⟩) j cc2)) 98 [V c, V r]; rw [size_set_] at this; exact this
        have n5 : Nx w W5 := by subst hW5; exact (N.setCell (by simp; omega) _).alloc _
        have x5 : Bx W5 (w.heap.size + 1) 37 [.slice none 0 0, .slice none 0 0, .slice none 0 0] := by subst hW5; exact (X1.far (by simp; omega) _).nx (Nx.alloc (.refl _) _)
        clear hW5 Hh N X1 G G_0 G_1 G_2 G_z G_f r1 r2
        have G := h5.bx
        simp only [lP.out, lZ.out, Ej.out] at G
        have G_0 := G.cell (j := 0) rfl
        have G_1 := G.cell (j := 1) rfl
        have G_2 := G.cell (j := 2) rfl
        have G_z := G.lt
        have L_0 := L.cell (j := 0) rfl
        have L_1 := L.cell (j := 1) rfl
        have L_z := L.lt
        by_cases hc0 : 0 ≤ c
        · have d : decide (0 ≤ c) = true := by simpa using hc0
          obtain ⟨cn, rfl⟩ := Int.eq_ofNat_of_zero_le hc0
          obtain ⟨rn, rfl⟩ := Int.eq_ofNat_of_zero_le b6
          have hcn : cn < n := by rcases b5 with h | h <;> omega
          have hrn : rn < n := by omega
          have hcP : cn < P5.length := by rw [show P5.length = n from lP.out]; exact hcn
          have hcZ : cn < Z5.length := by rw [show Z5.length = n from lZ.out]; exact hcn
          have hrZ : rn < Z5.length := by rw [show Z5.length = n from lZ.out]; exact hrn
          have p1 := h5.a.cell (k := cn) hcP
          have p2 := h5.a.free
          simp only at p1
          generalize P5[cn] = p0 at p1
          have ngA := h5.ga gA rfl
          have ngB := h5.gb' gB rfl
          have nAB : gA ≠ gB := by have := h5.ab; unfold Apart blk at this; simpa using this
          have nLA : gA ≠ wr.heap.size := by omega
          have nLB : gB ≠ wr.heap.size := by omega
          have gA0 := (h5.a.lt gA rfl).1
          have gB0 := (h5.b.lt gB rfl).1
          have Hh5 := Lib.hid h5
          clear h5 b5
          go_upto_region 9 with (fail)
          generalize hW6 : World.setCell W5 _ _ = W6
          have h6 : SBW W6 W1.heap.size w2.heap.size ⟨P5.set cn (-1), Z5, T.take j⟩ (some ⟨gA, 0, none⟩) ca2 (some ⟨gB, 0, none⟩) cb2 (some ⟨gC, 0, none⟩) cc2 := by subst hW6; exact Hh5.out.setP cn (-1)
          have hx6 : W5.grownBy W6 (some gA) := by subst hW6; exact grown_setCell _ _ _ _
          have n6 : Nx w W6 := n5.grown hx6 (fun k e => by injection e with e; omega)
          have x6 := x5.grown hx6 (by simp; omega)
          replace G := G.grown hx6 (by simp; omega)
          replace L := L.grown hx6 (by simp; omega)
          clear hW6 Hh5 n5 x5 hx6 p1 p2 G_0 G_1 G_2 G_z L_0 L_1 L_z
          have G_0 := G.cell (j := 0) rfl
          have G_1 := G.cell (j := 1) rfl
          have G_2 := G.cell (j := 2) rfl
          have G_z := G.lt
          have L_0 := L.cell (j := 0) rfl
          have L_1 := L.cell (j := 1) rfl
          have L_z := L.lt
          have q1 := h6.b.cell (k := rn) hrZ
          have q2 := h6.b.cell (k := cn) hcZ
          have q3 := h6.b.free
          simp only at q1 q2
          have lr : Z5[rn] = lk Z5 (rn : Int) := by simp [lk, hrZ]
          have lc : Z5[cn] = lk Z5 (cn : Int) := by simp [lk, hcZ]
          simp only [lr] at q1
          simp only [lc] at q2
          have zr := Hbd.out (rn : Int) (by omega) (by omega)
          have zc := Hbd.out (cn : Int) (by omega) (by omega)
          simp only at zr zc
          have hun : (⟨unP P5 ((cn : Int), (rn : Int)), unZ Z5 ((cn : Int), (rn : Int)), T.take j⟩ : SS) = ⟨P5.set cn (-1), Z5.set rn (lk Z5 (rn : Int) - lk Z5 (cn : Int)), T.take j⟩ := by
            unfold unP unZ
            simp [up]
          rw [hun] at HSj
          obtain ⟨vr, hvr⟩ : ∃ v, lk Z5 (rn : Int) = v := ⟨_, rfl⟩
          obtain ⟨vc, hvc⟩ : ∃ v, lk Z5 (cn : Int) = v := ⟨_, rfl⟩
          rw [hvr] at q1 zr HSj
          rw [hvc] at q2 zc HSj
          have hsub : IntKind.i64.wrap (vr - vc) = vr - vc := IntWalk.i64_in _ (by omega)
          clear hvr hvc lr lc hun hcP hcZ hrZ Hbd
          have z6 := n6.size
          go_big_region
          go_wp2
          go_meet
          refine ⟨rfl, ?_, ?_, ?_⟩
          · rw [HSj.out]; exact (h6.setZ rn (vr - vc)).nx (.drew (.refl _))
          · exact (n6.setCell (by simp; omega) _).trans (.drew (.refl _))
          · exact (x6.far (by simp; omega) _).nx (.drew (.refl _))
        · have hcv : c = -1 := by omega
          subst hcv
          have Hh := Lib.hid h5
          go_wp2
          go_meet
          exact ⟨rfl, by rw [HSj.out]; exact Hh.out, n5, x5⟩
      obtain ⟨rfl, h8, n8, x8⟩ := hcut
      have Hh8 := Lib.hid h8
      clear h8 N X1 G G_0 G_1 G_2 G_z G_f r1 r2
      go_wp2
      go_roundg (gk - 1)
      case measure => omega
      case rel => exact ⟨q + 1, j, by omega, by omega, by go_num, n8, x8, Hh8.out⟩
    · have hqk : q = k := by omega
      subst hqk
      have hj2 : l - q = j := by omega
      have hcp := fun w' a b c => l3Copy_c (some ⟨gA, 0, none⟩) (some ⟨gB, 0, none⟩) C2 ca2 cb2 cc2 n n j (rpS n (T.take j)).1 w' a b c lp lz lt (by omega) (by omega) (by omega) (by omega) (by omega)
      have Hcp := Lib.hid hcp
      have iA := Lib.hid h.a.intsAt
      have iB := Lib.hid h.b.intsAt
      have iC := Lib.hid h.c.edgesAt
      have X1_0 := X1.cell (j := 0) rfl
      have X1_1 := X1.cell (j := 1) rfl
      have X1_2 := X1.cell (j := 2) rfl
      have X1_z := X1.lt
      have Hj2 := Lib.hid hj2
      clear hcp h lp lz lt hj2
      go_wp2_with fail
      refine (Hcp.out _ iA.out iB.out iC.out).mono ?_
      rintro e w5 ⟨A5, ca5, B5, cb5, C5, cc5, rfl, oA, oB, oC, tAB, tAC, tBC, hn5⟩
      replace X1 := X1.nx hn5
      replace X1_0 := X1.cell (j := 0) rfl
      replace X1_1 := X1.cell (j := 1) rfl
      replace X1_2 := X1.cell (j := 2) rfl
      replace X1_z := X1.lt
      have X1_f := X1.free
      have HoA := Lib.hid oA
      have HoB := Lib.hid oB
      have HoC := Lib.hid oC
      have z5 := N.size
      clear oA oB oC
      obtain ⟨s, hs⟩ : ∃ s, (rpS n (T.take j)).1 = s := ⟨_, rfl⟩
      rw [hs] at HoA HoB HoC ⊢
      have Hs := Lib.hid hs
      clear hs
      go_wp2
      refine bodyPost_ret (v := id (St A5 s.P.length ca5 B5 s.Z.length cb5 C5 s.T.length cc5)) (by simp [results, Try.f81, go_sem, *]) rfl ?_
      rw [Hj2.out, Hs.out]
      refine ⟨A5, ca5, B5, cb5, C5, cc5, rfl, ?_, ?_, ?_, tAB, tAC, tBC, ?_⟩
      · exact OwnI.mono (base := wr.heap.size) (((HoA.out.far (by first | (simp; done) | (simp; omega)) _).far (by first | (simp; done) | (simp; omega)) _).far (by first | (simp; done) | (simp; omega)) _) (by omega)
      · exact OwnI.mono (base := wr.heap.size) (((HoB.out.far (by first | (simp; done) | (simp; omega)) _).far (by first | (simp; done) | (simp; omega)) _).far (by first | (simp; done) | (simp; omega)) _) (by omega)
      · exact WkE.mono (base := wr.heap.size) (((HoC.out.far (by first | (simp; done) | (simp; omega)) _).far (by first | (simp; done) | (simp; omega)) _).far (by first | (simp; done) | (simp; omega)) _) (by omega)
      · exact (((N.trans hn5).setCell (by first | (simp; done) | (simp; omega)) _).setCell (by first | (simp; done) | (simp; omega)) _).setCell (by first | (simp; done) | (simp; omega)) _
end Go.Proofs.Yticjoichmcegnaa
