/- Contracts: l4Cut, nodesBy, CutNodesOf of both. -/
import Derived.Test.YtjchabeiaajgiaaNC
import Derived.Test.YtjchabeiaajgiaaF2
import Derived.Test.YtjchabeiaajgiaaP3
import Derived.Test.YtjchabeiaajgiaaY9
namespace Go.Proofs.Ytjchabeiaajgiaa
open Go.RowKit set_option linter.unusedVariables false set_option linter.unusedSimpArgs false

set_option maxRecDepth 100000 in
set_option maxHeartbeats 4000000 in
theorem l4Cut_c (n : Nat) (A : Option Addr) (c : Nat) (es : List (Int × Int)) (v : Int) (w : World) (hx : EdgesAt w A es) (hl : es.length ≤ 1048576) (hn16 : n ≤ 16) (hr : InR n es) (hd : ∀ e ∈ es, e.1 ≠ e.2) :
    Calls Try.prog 94 #[.agg #[V n, .slice A es.length c], V v] w (RetV (.bool (cutB n es v)) w) := by
  have hnx := fun w' h => l1Next_c n A c es v w' h hl (by omega)
  have hal := fun w' h => l1Alone_c n A c es v w' h hl
  have hll : (aloneL es v).length ≤ 1048576 := Nat.le_trans (List.length_filter_le _ _) hl
  have hj := fun B d x y w' h h1 h2 => l2Joined_c n B d (aloneL es v) x y w' h hll hn16 (hr.alone v) (fun e he => hd e (List.mem_filter.1 he).1) h1 h2
  have hbd : ∀ y ∈ nextL n es v, 0 ≤ y ∧ y < n := fun y h => mem_next_bd h
  have hxl := nextL_len n es v
  have hcb : cutB n es v = (nextL n es v).any fun y => !connB n (aloneL es v) ((nextL n es v)[0]?.getD 0) y := rfl
  have hrefl : ∀ x, connB n (aloneL es v) x x = true := fun x => by unfold connB; simp
  rw [hcb]
  generalize nextL n es v = xs at *
  generalize aloneL es v = al at *
  generalize connB n al = cb at *
  have Hnx := Lib.hid hnx
  have Hal := Lib.hid hal
  have Hj := Lib.hid hj
  have Hbd := Lib.hid hbd
  have HX := Lib.hid hx
  have Hrefl := Lib.hid hrefl
  clear hnx hal hj hbd hx hr hd hcb hll hrefl
  go_enter Try.func94, Try.ntmps94
  go_wp2_with fail
  generalize hW1 : World.alloc _ _ = W1
  have gW1 : Nx w W1 := by subst hW1; exact (by repeat (first | exact Nx.refl _ | assumption | apply Nx.alloc | apply Nx.drew | apply Nx.drewN | (refine Nx.setCell ?_ (by first | (simp; done) | (simp; omega) | omega) _) | refine Nx.trans ?_ (by assumption)))
  have sW1 : W1.heap.size = w.heap.size + 1 := by subst hW1; simp
  have X0 : Bx W1 (w.heap.size) 26 [V n, .slice A es.length c] := by subst hW1; have h := Bx.alloc w 26 [V n, .slice A es.length c]; simpa using h
  have X0_0 := X0.cell (j := 0) rfl
  have X0_1 := X0.cell (j := 1) rfl
  have X0_z := X0.lt
  have HsW1 := Lib.hid sW1
  have lW1 : w.heap.size + 1 ≤ W1.heap.size := by omega
  clear hW1 sW1
  have N := gW1
  refine (Hnx.out _ (HX.out.nx N)).mono ?_
  rintro e w2 ⟨B, b, rfl, oB, hn2⟩
  replace X0 := X0.nx hn2
  replace X0_0 := X0.cell (j := 0) rfl
  replace X0_1 := X0.cell (j := 1) rfl
  replace X0_z := X0.lt
  replace N := N.trans hn2
  go_wp2_with fail
  refine (Hal.out _ (HX.out.nx N)).mono ?_
  rintro e w3 ⟨D, d, rfl, oD, hn3⟩
  replace X0 := X0.nx hn3
  replace X0_0 := X0.cell (j := 0) rfl
  replace X0_1 := X0.cell (j := 1) rfl
  replace X0_z := X0.lt
  replace N := N.trans hn3
  have iB := (oB.nx hn3).intsAt
  have iD := oD.edgesAt
  clear oB oD
  go_wp2_with fail
  generalize hW4 : World.alloc _ _ = W4
  have gW4 : Nx w3 W4 := by subst hW4; exact (by repeat (first | exact Nx.refl _ | assumption | apply Nx.alloc | apply Nx.drew | apply Nx.drewN | (refine Nx.setCell ?_ (by first | (simp; done) | (simp; omega) | omega) _) | refine Nx.trans ?_ (by assumption)))
  have sW4 : W4.heap.size = w3.heap.size + 1 := by subst hW4; simp
  have G : Bx W4 (w3.heap.size) 26 [V n, .slice D al.length d] := by subst hW4; have h := Bx.alloc w3 26 [V n, .slice D al.length d]; simpa using h
  have G_0 := G.cell (j := 0) rfl
  have G_1 := G.cell (j := 1) rfl
  have G_z := G.lt
  have HsW4 := Lib.hid sW4
  have lW4 : w3.heap.size + 1 ≤ W4.heap.size := by omega
  clear hW4 sW4
  replace X0 := X0.nx gW4
  replace X0_0 := X0.cell (j := 0) rfl
  replace X0_1 := X0.cell (j := 1) rfl
  replace X0_z := X0.lt
  replace iB := iB.nx gW4
  replace iD := iD.nx gW4
  replace N := N.trans gW4
  have HB := Lib.hid iB
  have HD := Lib.hid iD
  clear iB iD
  go_loopg [7] xs.length (fun gk i wr => ∃ k : Nat, 1 ≤ k ∧ xs.length ≤ k + gk ∧ i = .int .i64 k ∧ k ≤ xs.length + 1 ∧ Nx W4 wr ∧ ∀ j, j < k → ∀ y, xs[j]? = some y → cb (xs[0]?.getD 0) y = true)
  case atStart =>
    refine ⟨1, by omega, by omega, rfl, by omega, Nx.refl _, fun j hj y hy => ?_⟩
    have e : j = 0 := by omega
    subst e
    rw [hy]
    exact Hrefl.out y
  case round =>
    obtain ⟨k, hk1, hk, rfl, hk2, hn, hall⟩ := hrel
    replace G := G.nx hn
    replace G_0 := G.cell (j := 0) rfl
    replace G_1 := G.cell (j := 1) rfl
    replace G_z := G.lt
    have Hall := Lib.hid hall
    clear hall
    by_cases hlt : k < xs.length
    · obtain ⟨x0, h0⟩ : ∃ x, xs[0]? = some x := ⟨_, List.getElem?_eq_getElem (by omega)⟩
      obtain ⟨y, hy⟩ : ∃ x, xs[k]? = some x := ⟨_, List.getElem?_eq_getElem hlt⟩
      obtain ⟨b1, o1, rfl, hb1, r1⟩ := (HB.out.nx hn).rd h0
      obtain ⟨b2, o2, hB2, hb2, r2⟩ := (HB.out.nx hn).rd hy
      injection hB2 with hB2
      injection hB2 with e1 e2
      subst e1 e2
      rw [Nat.add_zero] at r1
      have m0 : 0 < xs.length := by omega
      have m1 : ¬ xs.length = 0 := by omega
      have m2 : ¬ (xs.length : Int) ≤ 0 := by omega
      have bx0 := Hbd.out x0 (List.mem_of_getElem? h0)
      have by0 := Hbd.out y (List.mem_of_getElem? hy)
      have H0 := Lib.hid h0
      have Hy := Lib.hid hy
      clear h0 hy
      go_wp2_with fail
      (refine tail_quiet 8 (by kernel_rfl) (by kernel_rfl) (fun W5 gW5 => ?_); obtain ⟨hcW5, hfW5, hzW5⟩ := gW5.rules; simp only [List.take_succ_cons, List.take_zero, List.drop_succ_cons, List.drop_zero]; (repeat go_big_quiet_step (fail)); with_reducible refine wpQuiet_nil ?_)
      go_wp2_with fail
      refine (Hj.out D d x0 y _ (HD.out.nx (hn.trans gW5)) ⟨bx0.1, bx0.2⟩ ⟨by0.1, by0.2⟩).mono ?_
      rintro e w6 ⟨rfl, hn6⟩
      have hn46 := (hn.trans gW5).trans hn6
      cases hq : cb x0 y with
      | true =>
        have Hq := Lib.hid hq
        clear hq
        go_wp2
        go_roundg (gk - 1)
        case measure => omega
        case rel =>
          refine ⟨k + 1, by omega, by omega, by go_num, by omega, hn46, fun j hj z hz => ?_⟩
          rcases Nat.lt_succ_iff_lt_or_eq.1 hj with h | rfl
          · exact Hall.out j h z hz
          · rw [Hy.out] at hz; injection hz with hz; subst hz; rw [H0.out]; exact Hq.out
      | false =>
        have Hq := Lib.hid hq
        clear hq
        go_wp2
        go_ret
        exact RetV.bool (by
          symm
          refine List.any_eq_true.2 ⟨y, List.mem_of_getElem? Hy.out, ?_⟩
          rw [H0.out]
          simp [Hq.out]) (N.trans hn46)
    · go_wp2
      go_ret
      exact RetV.bool (by
        symm
        refine List.any_eq_false.2 fun y hy => ?_
        obtain ⟨j, hj, rfl⟩ := List.getElem_of_mem hy
        simp [Hall.out j (by omega) _ (List.getElem?_eq_getElem hj)]) (N.trans hn)

/-- the first k numbers that fulfil p -/
def byK (p : Int → Bool) (k : Nat) : List Int := ((List.range k).map Int.ofNat).filter p
theorem byK_succ (p : Int → Bool) (k : Nat) : byK p (k + 1) = byK p k ++ (if p (k : Int) = true then [(k : Int)] else []) := by
  unfold byK
  rw [List.range_succ, List.map_append, List.filter_append]
  congr 1
  show List.filter p [((k : Nat) : Int)] = _
  by_cases h : p (k : Int) = true
  · rw [if_pos h, List.filter_cons_of_pos h]; rfl
  · rw [if_neg h, List.filter_cons_of_neg h]; rfl
theorem byK_len (p : Int → Bool) (k : Nat) : (byK p k).length ≤ k := by
  have := List.length_filter_le p ((List.range k).map Int.ofNat)
  simpa [byK] using this

set_option maxRecDepth 100000 in
set_option maxHeartbeats 4000000 in
theorem nodesBy_c (g : Nat) (bd lb : Array Value) (p : Int → Bool) (eg : ∀ args w, (callFunc g args).run Try.prog w = .ok (.enter g args) w) (n : Nat) (A : Option Addr) (m c : Nat) (w : World) (hn : n ≤ 1048576)
    (hp : ∀ (W : World) (k : Nat), k < n → Nx w W → Calls Try.prog g (bd.push (V k) ++ lb) W (RetV (.bool (p k)) W)) :
    Calls Try.prog 95 #[.agg #[V n, .slice A m c], .func (.func g) bd lb] w (RetI 3 (byK p n) w) := by
  obtain ⟨i0, hi, hz0, hz1, hz2⟩ := info_parts infoI
  have Hi := Lib.hid hi
  have Hz0 := Lib.hid hz0
  have Hz1 := Lib.hid hz1
  have Hz2 := Lib.hid hz2
  have Hp := Lib.hid hp
  clear hi hz0 hz1 hz2 hp
  go_enter Try.func95, Try.ntmps95
  go_wp2
  generalize hW1 : World.alloc _ _ = W1
  have gW1 : Nx w W1 := by subst hW1; exact (by repeat (first | exact Nx.refl _ | assumption | apply Nx.alloc | apply Nx.drew | apply Nx.drewN | (refine Nx.setCell ?_ (by first | (simp; done) | (simp; omega) | omega) _) | refine Nx.trans ?_ (by assumption)))
  have sW1 : W1.heap.size = w.heap.size + 2 := by subst hW1; simp
  have X0 : Bx W1 (w.heap.size) 26 [V n, .slice A m c] := by subst hW1; have h := Bx.alloc w 26 [V n, .slice A m c]; have h := h.nx (Nx.alloc (Nx.refl _) (.cells #[] 3)); simpa using h
  have X1 : Bx W1 (w.heap.size + 1) 3 [] := by subst hW1; have h := Bx.alloc (w.alloc (.cells #[V n, .slice A m c] 26)) 3 []; simpa using h
  have X0_0 := X0.cell (j := 0) rfl
  have X0_1 := X0.cell (j := 1) rfl
  have X0_z := X0.lt
  have X1_z := X1.lt
  have HsW1 := Lib.hid sW1
  have lW1 : w.heap.size + 2 ≤ W1.heap.size := by omega
  clear hW1 sW1
  have ho0 : OwnI W1 (w.heap.size + 1) 3 _ 0 [] := X1.emptyI (Nat.le_refl _)
  go_loopg [5, 6, 10] n (fun gk out _ i wr => ∃ (k : Nat) (A' : Option Addr) (c' : Nat), k + gk = n ∧ i = .int .i64 k ∧ out = .slice A' (byK p k).length c' ∧ OwnI wr (w.heap.size + 1) 3 A' c' (byK p k) ∧ Nx w wr)
  case atStart => exact ⟨0, some ⟨w.heap.size + 1, 0, none⟩, 0, by omega, rfl, by simp [byK], by simpa [byK] using ho0, gW1⟩
  case round =>
    clear X0 X0_0 X0_1 X0_z X1 ho0
    obtain ⟨k, A', c', hk, rfl, rfl, hown, hn0⟩ := hrel
    have z0 := hn0.size
    by_cases hlt : k < n
    · have hst := byK_succ p k
      have hlen := byK_len p k
      generalize byK p k = L at *
      have Hst := Lib.hid hst
      have Hown := Lib.hid hown
      clear hst hown
      go_wp2_with fail
      refine (Hp.out _ k hlt hn0).mono ?_
      rintro e w3 ⟨rfl, hn3⟩
      have ho3 := Lib.hid (Hown.out.nx hn3)
      have hn03 := hn0.trans hn3
      have zsz := (Hown.out.nx hn3).lt
      have z3 := hn3.size
      cases hq : p (k : Int) with
      | true =>
        have hL : Hid (byK p (k + 1) = L ++ [(k : Int)]) := Lib.hid (by rw [Hst.out, if_pos hq])
        clear hq
        go_wp2_with (at_builtin; go_must (refine appI (base := w.heap.size + 1) (t := 3) L _ k rfl rfl Try.underlying27 Hi.out Hz0.out Hz1.out Hz2.out rfl rfl (ho3.out.nx (by repeat (first | exact Nx.refl _ | assumption | apply Nx.alloc | apply Nx.drew | apply Nx.drewN | (refine Nx.setCell ?_ (by first | (simp; done) | (simp; omega) | omega) _) | refine Nx.trans ?_ (by assumption)))) rfl (cellN (by simp) rfl) (by omega) (by simp; omega) ?_; intro A2 c2 w4 hown4 hnx4 hgr4 hbl4))
        go_roundg (gk - 1)
        case measure => omega
        case rel => exact ⟨k + 1, A2, c2, by omega, by go_num, by rw [hL.out]; simp, by rw [hL.out]; exact hown4, hnx4 w (by omega) (hn03.alloc _)⟩
      | false =>
        have hL : Hid (byK p (k + 1) = L) := Lib.hid (by rw [Hst.out, if_neg (by simp [hq]), List.append_nil])
        clear hq
        go_wp2
        go_roundg (gk - 1)
        case measure => omega
        case rel => exact ⟨k + 1, A', c', by omega, by go_num, by rw [hL.out], by rw [hL.out]; exact ho3.out, hn03⟩
    · obtain rfl : k = n := by omega
      go_wp2
      go_ret
      exact ⟨A', c', rfl, hown.mono (by omega), hn0⟩

open Classical in
noncomputable def cutsOf (n : Int) (es : Es) : List Int := if Valid n es then byK (cutB n.toNat es) n.toNat else []
theorem cutsOf_yes {n : Int} {es : Es} (h : Valid n es) : cutsOf n es = byK (cutB n.toNat es) n.toNat := if_pos h
theorem cutsOf_no {n : Int} {es : Es} (h : ¬ Valid n es) : cutsOf n es = [] := if_neg h
theorem cutsOf_length (n : Int) (es : Es) : (cutsOf n es).length ≤ 16 := by
  by_cases h : Valid n es
  · rw [cutsOf_yes h]; have := byK_len (cutB n.toNat es) n.toNat; have := h.2.1; omega
  · rw [cutsOf_no h]; simp
theorem Valid.ends {n : Int} {es : Es} (h : Valid n es) : ∀ e ∈ es, 0 ≤ e.1 ∧ e.1 < e.2 ∧ e.2 < (n.toNat : Int) := fun e he => by
  obtain ⟨j, hj⟩ := List.mem_iff_getElem?.1 he
  have := h.2.2.2 j (List.getElem?_eq_some_iff.1 hj).1 e hj
  have := h.1
  omega

set_option maxRecDepth 100000 in
set_option maxHeartbeats 4000000 in
theorem iCutNodesOf_c (n : Int) (A : Option Addr) (c : Nat) (es : List (Int × Int)) (w : World) (hx : EdgesAt w A es) (hl : es.length ≤ 1048576) :
    Calls Try.prog 47 #[.agg #[V n, .slice A es.length c]] w (RetI 3 (cutsOf n es) w) := by
  have hgv := iGraphValid_c n A c es
  by_cases hv : Valid n es
  · rw [cutsOf_yes hv]
    rw [show decide (Valid n es) = true by simpa using hv] at hgv
    have Hgv := Lib.hid hgv
    have hcn := fun v W h => isCutNode_c n.toNat A c es v W h hl (by have := hv.2.1; omega) hv.inR hv.apart hv.nodupB hv.ends
    have h01 := hv.1
    have h16 := hv.2.1
    clear hgv hv
    obtain ⟨k, rfl⟩ := Int.eq_ofNat_of_zero_le (show 0 ≤ n by omega)
    simp only [Int.toNat_natCast] at hcn ⊢
    have Hcn := Lib.hid hcn
    clear hcn
    go_enter Try.func47, Try.ntmps47
    go_wp2_with fail
    generalize hW1 : World.alloc _ _ = W1
    have gW1 : Nx w W1 := by subst hW1; exact (by repeat (first | exact Nx.refl _ | assumption | apply Nx.alloc | apply Nx.drew | apply Nx.drewN | (refine Nx.setCell ?_ (by first | (simp; done) | (simp; omega) | omega) _) | refine Nx.trans ?_ (by assumption)))
    have sW1 : W1.heap.size = w.heap.size + 1 := by subst hW1; simp
    have X0 : Bx W1 (w.heap.size) 26 [V k, .slice A es.length c] := by subst hW1; have h := Bx.alloc w 26 [V k, .slice A es.length c]; simpa using h
    have X0_0 := X0.cell (j := 0) rfl
    have X0_1 := X0.cell (j := 1) rfl
    have X0_z := X0.lt
    have HsW1 := Lib.hid sW1
    have lW1 : w.heap.size + 1 ≤ W1.heap.size := by omega
    clear hW1 sW1
    have N := gW1
    refine (Hgv.out _ (hx.nx N) (by omega)).mono ?_
    rintro e w2 ⟨rfl, hn2⟩
    replace X0 := X0.nx hn2
    replace X0_0 := X0.cell (j := 0) rfl
    replace X0_1 := X0.cell (j := 1) rfl
    replace X0_z := X0.lt
    replace N := N.trans hn2
    go_wp2_with fail
    refine (nodesBy_c 91 #[.agg #[V k, .slice A es.length c]] #[] (cutB k es) (enters_of Try.func91 (by rfl) rfl) k A es.length c _ (by omega) (fun W j hj hW => Hcn.out j W (hx.nx (N.trans hW)))).mono ?_
    rintro e w3 ⟨B, d, rfl, ho, hn3⟩
    have z3 := N.size
    have Ho := Lib.hid ho
    clear ho
    go_wp2
    go_ret
    exact ⟨B, d, rfl, Ho.out.mono (by omega), N.trans hn3⟩
  · rw [cutsOf_no hv]
    rw [show decide (Valid n es) = false by simpa using hv] at hgv
    have Hgv := Lib.hid hgv
    clear hgv hv
    go_enter Try.func47, Try.ntmps47
    go_wp2_with fail
    generalize hW1 : World.alloc _ _ = W1
    have gW1 : Nx w W1 := by subst hW1; exact (by repeat (first | exact Nx.refl _ | assumption | apply Nx.alloc | apply Nx.drew | apply Nx.drewN | (refine Nx.setCell ?_ (by first | (simp; done) | (simp; omega) | omega) _) | refine Nx.trans ?_ (by assumption)))
    have sW1 : W1.heap.size = w.heap.size + 1 := by subst hW1; simp
    have X0 : Bx W1 (w.heap.size) 26 [V n, .slice A es.length c] := by subst hW1; have h := Bx.alloc w 26 [V n, .slice A es.length c]; simpa using h
    have X0_0 := X0.cell (j := 0) rfl
    have X0_1 := X0.cell (j := 1) rfl
    have X0_z := X0.lt
    have HsW1 := Lib.hid sW1
    have lW1 : w.heap.size + 1 ≤ W1.heap.size := by omega
    clear hW1 sW1
    have N := gW1
    refine (Hgv.out _ (hx.nx N) (by omega)).mono ?_
    rintro e w2 ⟨rfl, hn2⟩
    replace X0 := X0.nx hn2
    replace X0_0 := X0.cell (j := 0) rfl
    replace X0_1 := X0.cell (j := 1) rfl
    replace X0_z := X0.lt
    replace N := N.trans hn2
    go_wp2
    go_ret
    exact ⟨none, 0, rfl, OwnI.nil _ _ _, N⟩

end Go.Proofs.Ytjchabeiaajgiaa
