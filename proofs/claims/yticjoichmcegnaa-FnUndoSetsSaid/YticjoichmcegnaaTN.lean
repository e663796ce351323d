/- FnUndoSets: the walk. -/
import Derived.Test.YticjoichmcegnaaTM
namespace Go.Proofs.Yticjoichmcegnaa
open Go.RowKit set_option linter.unusedVariables false set_option linter.unusedSimpArgs false

set_option maxRecDepth 100000 in
set_option maxHeartbeats 8000000 in
theorem fnUndoSets_walk (w : World) (A : Option Addr) (m c : Nat) (hmc : m ≤ c) (hb : BytesAt w w.heap.size A m) :
    Calls Try.prog 6 #[.slice A m c] w (RetV (.bool true) w) := by
  by_cases hbig : (m : Int) > 1048576
  · go_enter Try.func6, Try.ntmps6
    go_wp2
    go_ret
    exact RetV.bool rfl (by repeat (first | exact Nx.refl _ | assumption | apply Nx.alloc | apply Nx.drew | apply Nx.drewN | (refine Nx.setCell ?_ (by first | (simp; done) | (simp; omega) | omega) _) | refine Nx.trans ?_ (by assumption)))
  · go_enter Try.func6, Try.ntmps6
    go_wp2_with fail
    refine (drawUndoSets_c A m c _ hmc hb).mono ?_
    rintro e w1 ⟨k, hk0, hk5, ⟨P, Z, T⟩, n, hP, hZ, n1, n16, hT, A0, c0, A1, c1, A2, c2, rfl, oA, oB, oC, _, _, _, N⟩
    simp only at hP hZ hT oA oB oC
    have hcap := oC.cap
    have zw1 := N.size
    have hr : Rds w1 0 w1.heap.size ⟨P, Z, T⟩ A0 A1 A2 := ⟨oA.intsAt, oB.intsAt, oC.edgesAt, fun k hk => ⟨Nat.zero_le _, (oA.lt k hk).2⟩, fun k hk => ⟨Nat.zero_le _, (oB.lt k hk).2⟩, fun k hk => ⟨Nat.zero_le _, (oC.lt k hk).2⟩⟩
    obtain ⟨l, hl⟩ : ∃ l, T.length = l := ⟨_, rfl⟩
    simp only [hP, hZ, hl] at hT hcap ⊢
    clear oA oB oC hb
    by_cases hv : SV P Z T ∧ 0 ≤ k ∧ k ≤ l
    · obtain ⟨hv, k0, kl⟩ := hv
      obtain ⟨k, rfl⟩ := Int.eq_ofNat_of_zero_le k0
      have hkT : k ≤ T.length := by omega
      have him := fun A B C ca cb cc w' a b c d => ((iUndo_yes A B C ca cb cc k P Z T w' a b c d hv hkT).mono fun _ _ h => h.r.n (n1 := n) (n2 := n) (n3 := l - k) (by rw [(backS_inv hv k).lp, hP]) (by rw [(backS_inv hv k).lz, hP]) (by rw [backS_T hv, List.length_take]; omega))
      have hsp := fun A B C ca cb cc w' a b c => ((sUndo_yes A B C ca cb cc k P Z T w' a b c hv hkT).mono fun _ _ h => h.d.n (n1 := n) (n2 := n) (n3 := l - k) (by rw [(backS_inv hv k).lp, hP]) (by rw [(backS_inv hv k).lz, hP]) (by rw [backS_T hv, List.length_take]; omega))
      obtain ⟨j, hj⟩ : ∃ j, l - k = j := ⟨_, rfl⟩
      rw [hP, hZ, hl] at him hsp
      rw [hj] at him hsp
      have Him := Lib.hid him
      have Hsp := Lib.hid hsp
      have Hdy := Lib.hid (fun lo hi lo' hi' A B C A' B' C' ca cb cc ca' cb' cc' w' h h' => dyS_yes lo hi lo' hi' n n j (backS P T k) A B C A' B' C' ca cb cc ca' cb' cc' w' h h' (by rw [(backS_inv hv k).lp, hP]) (by rw [(backS_inv hv k).lz, hP]) (by rw [backS_T hv, List.length_take]; omega) (by omega) (by omega) (by omega))
      have h0 : (newS n).P.length = n ∧ (newS n).Z.length = n ∧ (newS n).T.length = 0 := by simp [newS]
      have hall := fun A B C ca cb cc w' a b c d => ((iUndo_yes A B C ca cb cc T.length P Z T w' a b c d hv (Nat.le_refl _)).mono fun _ _ h => RetR.n (s := newS n) (by have := h.r; rwa [backS_all, hP] at this) h0.1 h0.2.1 h0.2.2)
      have hvu := backS_SV hv k
      have hsvu := fun A B C ca cb cc w' a b c => iSetsValid_c A B C ca cb cc n n j (backS P T k).P (backS P T k).Z (backS P T k).T w' a b c (by rw [(backS_inv hv k).lp, hP]) (by rw [(backS_inv hv k).lz, hP]) (by rw [backS_T hv, List.length_take]; omega) (by omega) (by omega) (by omega)
      rw [decide_eq_true hvu] at hsvu
      have hrest := fun A B C ca cb cc w' a b c d => ((iUndo_yes A B C ca cb cc (backS P T k).T.length (backS P T k).P (backS P T k).Z (backS P T k).T w' a b c d hvu (Nat.le_refl _)).mono fun _ _ h => RetR.n (s := newS n) (by have := h.r; rwa [backS_all, (backS_inv hv k).lp, hP] at this) h0.1 h0.2.1 h0.2.2)
      rw [hP, hZ, hl] at hall
      rw [(backS_inv hv k).lp, (backS_inv hv k).lz, hP, show (backS P T k).T.length = j by rw [backS_T hv, List.length_take]; omega] at hrest
      have hnew := fun w' => (iNewSets_c n n1 n16 w').mono fun e w'' h => (show RetRn (newS n) n n 0 (tupT true) w' e w'' by
        obtain ⟨A, ca, B, cb, e1, h1, h2, h3, h4⟩ := h
        exact ⟨A, ca, B, cb, none, 0, e1, Nat.le_refl _, ⟨by simpa [newS, reps] using h1.intsAt, by simpa [newS, reps] using h2.intsAt, fun h => by simp [newS] at h, h1.lt, h2.lt, fun k hk => by cases hk⟩, h4⟩)
      have Hdy0 := Lib.hid (fun lo hi lo' hi' A B C A' B' C' ca cb cc ca' cb' cc' w' h h' => dyS_yes lo hi lo' hi' n n 0 (newS n) A B C A' B' C' ca cb cc ca' cb' cc' w' h h' h0.1 h0.2.1 h0.2.2 (by omega) (by omega) (by omega))
      have Hall := Lib.hid hall
      have Hrest := Lib.hid hrest
      have Hnew := Lib.hid hnew
      have Hsvu := Lib.hid hsvu
      have hsub : IntKind.i64.wrap ((l : Int) - (k : Int)) = (j : Int) := by rw [IntWalk.i64_in _ (by omega)]; omega
      clear him hsp hall hrest hnew hsvu hvu h0 hP hZ hl hj hv
      go_wp2_with fail
      generalize hW2 : World.alloc _ _ = W2
      have gW2 : Nx w1 W2 := by subst hW2; exact (by repeat (first | exact Nx.refl _ | assumption | apply Nx.alloc | apply Nx.drew | apply Nx.drewN | (refine Nx.setCell ?_ (by first | (simp; done) | (simp; omega) | omega) _) | refine Nx.trans ?_ (by assumption)))
      have sW2 : W2.heap.size = w1.heap.size + 1 := by subst hW2; simp
      have S : Bx W2 (w1.heap.size) 37 [.slice A0 n c0, .slice A1 n c1, .slice A2 l c2] := by subst hW2; have h := Bx.alloc w1 37 [.slice A0 n c0, .slice A1 n c1, .slice A2 l c2]; simpa using h
      have S_0 := S.cell (j := 0) rfl
      have S_1 := S.cell (j := 1) rfl
      have S_2 := S.cell (j := 2) rfl
      have S_z := S.lt
      have HsW2 := Lib.hid sW2
      have lW2 : w1.heap.size + 1 ≤ W2.heap.size := by omega
      clear hW2 sW2
      replace hr := hr.nx gW2
      replace N := N.trans gW2
      refine (Him.out A0 A1 A2 c0 c1 c2 _ hr.a hr.b hr.c hcap).mono ?_
      rintro e w3 ⟨B0, b0, B1, b1, B2, b2, rfl, hb2, hu, hn3⟩
      replace S := S.nx hn3
      replace S_0 := S.cell (j := 0) rfl
      replace S_1 := S.cell (j := 1) rfl
      replace S_2 := S.cell (j := 2) rfl
      replace S_z := S.lt
      replace hr := hr.nx hn3
      replace N := N.trans hn3
      go_wp2_with fail
      generalize hW4 : World.alloc _ _ = W4
      have gW4 : Nx w3 W4 := by subst hW4; exact (by repeat (first | exact Nx.refl _ | assumption | apply Nx.alloc | apply Nx.drew | apply Nx.drewN | (refine Nx.setCell ?_ (by first | (simp; done) | (simp; omega) | omega) _) | refine Nx.trans ?_ (by assumption)))
      have sW4 : W4.heap.size = w3.heap.size + 1 := by subst hW4; simp
      have U : Bx W4 (w3.heap.size) 37 [.slice B0 n b0, .slice B1 n b1, .slice B2 j b2] := by subst hW4; have h := Bx.alloc w3 37 [.slice B0 n b0, .slice B1 n b1, .slice B2 j b2]; simpa using h
      have U_0 := U.cell (j := 0) rfl
      have U_1 := U.cell (j := 1) rfl
      have U_2 := U.cell (j := 2) rfl
      have U_z := U.lt
      have HsW4 := Lib.hid sW4
      have lW4 : w3.heap.size + 1 ≤ W4.heap.size := by omega
      clear hW4 sW4
      replace S := S.nx gW4
      replace S_0 := S.cell (j := 0) rfl
      replace S_1 := S.cell (j := 1) rfl
      replace S_2 := S.cell (j := 2) rfl
      replace S_z := S.lt
      replace hr := hr.nx gW4
      replace hu := hu.nx gW4
      replace N := N.trans gW4
      refine (Hsp.out A0 A1 A2 c0 c1 c2 _ hr.a hr.b hr.c).mono ?_
      rintro e w5 ⟨D0, d0, D1, d1, D2, d2, rfl, hw, hn5⟩
      replace S := S.nx hn5
      replace S_0 := S.cell (j := 0) rfl
      replace S_1 := S.cell (j := 1) rfl
      replace S_2 := S.cell (j := 2) rfl
      replace S_z := S.lt
      replace U := U.nx hn5
      replace U_0 := U.cell (j := 0) rfl
      replace U_1 := U.cell (j := 1) rfl
      replace U_2 := U.cell (j := 2) rfl
      replace U_z := U.lt
      replace hr := hr.nx hn5
      replace hu := hu.nx hn5
      replace N := N.trans hn5
      go_wp2_with fail
      generalize hW6 : World.alloc _ _ = W6
      have gW6 : Nx w5 W6 := by subst hW6; exact (by repeat (first | exact Nx.refl _ | assumption | apply Nx.alloc | apply Nx.drew | apply Nx.drewN | (refine Nx.setCell ?_ (by first | (simp; done) | (simp; omega) | omega) _) | refine Nx.trans ?_ (by assumption)))
      have sW6 : W6.heap.size = w5.heap.size + 1 := by subst hW6; simp
      have Q : Bx W6 (w5.heap.size) 37 [.slice D0 n d0, .slice D1 n d1, .slice D2 j d2] := by subst hW6; have h := Bx.alloc w5 37 [.slice D0 n d0, .slice D1 n d1, .slice D2 j d2]; simpa using h
      have Q_0 := Q.cell (j := 0) rfl
      have Q_1 := Q.cell (j := 1) rfl
      have Q_2 := Q.cell (j := 2) rfl
      have Q_z := Q.lt
      have HsW6 := Lib.hid sW6
      have lW6 : w5.heap.size + 1 ≤ W6.heap.size := by omega
      clear hW6 sW6
      replace S := S.nx gW6
      replace S_0 := S.cell (j := 0) rfl
      replace S_1 := S.cell (j := 1) rfl
      replace S_2 := S.cell (j := 2) rfl
      replace S_z := S.lt
      replace U := U.nx gW6
      replace U_0 := U.cell (j := 0) rfl
      replace U_1 := U.cell (j := 1) rfl
      replace U_2 := U.cell (j := 2) rfl
      replace U_z := U.lt
      replace hr := hr.nx gW6
      replace hu := hu.nx gW6
      replace hw := hw.nx gW6
      replace N := N.trans gW6
      refine (Hdy.out _ _ _ _ B0 B1 B2 D0 D1 D2 b0 b1 b2 d0 d1 d2 _ hu hw).mono ?_
      rintro e w7 ⟨rfl, hn7⟩
      replace S := S.nx hn7
      replace S_0 := S.cell (j := 0) rfl
      replace S_1 := S.cell (j := 1) rfl
      replace S_2 := S.cell (j := 2) rfl
      replace S_z := S.lt
      replace U := U.nx hn7
      replace U_0 := U.cell (j := 0) rfl
      replace U_1 := U.cell (j := 1) rfl
      replace U_2 := U.cell (j := 2) rfl
      replace U_z := U.lt
      replace hr := hr.nx hn7
      replace hu := hu.nx hn7
      replace N := N.trans hn7
      clear hw Q Q_0 Q_1 Q_2 Q_z
      go_wp2_with fail
      refine (Hall.out A0 A1 A2 c0 c1 c2 _ hr.a hr.b hr.c hcap).mono ?_
      rintro e w8 ⟨E0, e0, E1, e1, E2, e2, rfl, _, ha, hn8⟩
      replace S := S.nx hn8
      replace S_0 := S.cell (j := 0) rfl
      replace S_1 := S.cell (j := 1) rfl
      replace S_2 := S.cell (j := 2) rfl
      replace S_z := S.lt
      replace U := U.nx hn8
      replace U_0 := U.cell (j := 0) rfl
      replace U_1 := U.cell (j := 1) rfl
      replace U_2 := U.cell (j := 2) rfl
      replace U_z := U.lt
      replace hr := hr.nx hn8
      replace hu := hu.nx hn8
      replace N := N.trans hn8
      go_wp2_with fail
      generalize hW9 : World.alloc _ _ = W9
      have gW9 : Nx w8 W9 := by subst hW9; exact (by repeat (first | exact Nx.refl _ | assumption | apply Nx.alloc | apply Nx.drew | apply Nx.drewN | (refine Nx.setCell ?_ (by first | (simp; done) | (simp; omega) | omega) _) | refine Nx.trans ?_ (by assumption)))
      have sW9 : W9.heap.size = w8.heap.size + 1 := by subst hW9; simp
      have L : Bx W9 (w8.heap.size) 37 [.slice E0 n e0, .slice E1 n e1, .slice E2 0 e2] := by subst hW9; have h := Bx.alloc w8 37 [.slice E0 n e0, .slice E1 n e1, .slice E2 0 e2]; simpa using h
      have L_0 := L.cell (j := 0) rfl
      have L_1 := L.cell (j := 1) rfl
      have L_2 := L.cell (j := 2) rfl
      have L_z := L.lt
      have HsW9 := Lib.hid sW9
      have lW9 : w8.heap.size + 1 ≤ W9.heap.size := by omega
      clear hW9 sW9
      replace S := S.nx gW9
      replace S_0 := S.cell (j := 0) rfl
      replace S_1 := S.cell (j := 1) rfl
      replace S_2 := S.cell (j := 2) rfl
      replace S_z := S.lt
      replace U := U.nx gW9
      replace U_0 := U.cell (j := 0) rfl
      replace U_1 := U.cell (j := 1) rfl
      replace U_2 := U.cell (j := 2) rfl
      replace U_z := U.lt
      replace hr := hr.nx gW9
      replace hu := hu.nx gW9
      replace ha := ha.nx gW9
      replace N := N.trans gW9
      refine (Hnew.out _).mono ?_
      rintro e w10 ⟨F0, f0, F1, f1, F2, f2, rfl, _, hf, hn10⟩
      replace S := S.nx hn10
      replace S_0 := S.cell (j := 0) rfl
      replace S_1 := S.cell (j := 1) rfl
      replace S_2 := S.cell (j := 2) rfl
      replace S_z := S.lt
      replace U := U.nx hn10
      replace U_0 := U.cell (j := 0) rfl
      replace U_1 := U.cell (j := 1) rfl
      replace U_2 := U.cell (j := 2) rfl
      replace U_z := U.lt
      replace L := L.nx hn10
      replace L_0 := L.cell (j := 0) rfl
      replace L_1 := L.cell (j := 1) rfl
      replace L_2 := L.cell (j := 2) rfl
      replace L_z := L.lt
      replace hr := hr.nx hn10
      replace hu := hu.nx hn10
      replace ha := ha.nx hn10
      replace N := N.trans hn10
      go_wp2_with fail
      generalize hW11 : World.alloc _ _ = W11
      have gW11 : Nx w10 W11 := by subst hW11; exact (by repeat (first | exact Nx.refl _ | assumption | apply Nx.alloc | apply Nx.drew | apply Nx.drewN | (refine Nx.setCell ?_ (by first | (simp; done) | (simp; omega) | omega) _) | refine Nx.trans ?_ (by assumption)))
      have sW11 : W11.heap.size = w10.heap.size + 1 := by subst hW11; simp
      have F : Bx W11 (w10.heap.size) 37 [.slice F0 n f0, .slice F1 n f1, .slice F2 0 f2] := by subst hW11; have h := Bx.alloc w10 37 [.slice F0 n f0, .slice F1 n f1, .slice F2 0 f2]; simpa using h
      have F_0 := F.cell (j := 0) rfl
      have F_1 := F.cell (j := 1) rfl
      have F_2 := F.cell (j := 2) rfl
      have F_z := F.lt
      have HsW11 := Lib.hid sW11
      have lW11 : w10.heap.size + 1 ≤ W11.heap.size := by omega
      clear hW11 sW11
      replace S := S.nx gW11
      replace S_0 := S.cell (j := 0) rfl
      replace S_1 := S.cell (j := 1) rfl
      replace S_2 := S.cell (j := 2) rfl
      replace S_z := S.lt
      replace U := U.nx gW11
      replace U_0 := U.cell (j := 0) rfl
      replace U_1 := U.cell (j := 1) rfl
      replace U_2 := U.cell (j := 2) rfl
      replace U_z := U.lt
      replace L := L.nx gW11
      replace L_0 := L.cell (j := 0) rfl
      replace L_1 := L.cell (j := 1) rfl
      replace L_2 := L.cell (j := 2) rfl
      replace L_z := L.lt
      replace hr := hr.nx gW11
      replace hu := hu.nx gW11
      replace ha := ha.nx gW11
      replace hf := hf.nx gW11
      replace N := N.trans gW11
      refine (Hrest.out B0 B1 B2 b0 b1 b2 _ hu.a hu.b hu.c hb2).mono ?_
      rintro e w12 ⟨G0, g0, G1, g1, G2, g2, rfl, _, hg, hn12⟩
      replace S := S.nx hn12
      replace S_0 := S.cell (j := 0) rfl
      replace S_1 := S.cell (j := 1) rfl
      replace S_2 := S.cell (j := 2) rfl
      replace S_z := S.lt
      replace U := U.nx hn12
      replace U_0 := U.cell (j := 0) rfl
      replace U_1 := U.cell (j := 1) rfl
      replace U_2 := U.cell (j := 2) rfl
      replace U_z := U.lt
      replace L := L.nx hn12
      replace L_0 := L.cell (j := 0) rfl
      replace L_1 := L.cell (j := 1) rfl
      replace L_2 := L.cell (j := 2) rfl
      replace L_z := L.lt
      replace F := F.nx hn12
      replace F_0 := F.cell (j := 0) rfl
      replace F_1 := F.cell (j := 1) rfl
      replace F_2 := F.cell (j := 2) rfl
      replace F_z := F.lt
      replace hr := hr.nx hn12
      replace hu := hu.nx hn12
      replace ha := ha.nx hn12
      replace hf := hf.nx hn12
      replace N := N.trans hn12
      go_wp2_with fail
      generalize hW13 : World.alloc _ _ = W13
      have gW13 : Nx w12 W13 := by subst hW13; exact (by repeat (first | exact Nx.refl _ | assumption | apply Nx.alloc | apply Nx.drew | apply Nx.drewN | (refine Nx.setCell ?_ (by first | (simp; done) | (simp; omega) | omega) _) | refine Nx.trans ?_ (by assumption)))
      have sW13 : W13.heap.size = w12.heap.size + 1 := by subst hW13; simp
      have G : Bx W13 (w12.heap.size) 37 [.slice G0 n g0, .slice G1 n g1, .slice G2 0 g2] := by subst hW13; have h := Bx.alloc w12 37 [.slice G0 n g0, .slice G1 n g1, .slice G2 0 g2]; simpa using h
      have G_0 := G.cell (j := 0) rfl
      have G_1 := G.cell (j := 1) rfl
      have G_2 := G.cell (j := 2) rfl
      have G_z := G.lt
      have HsW13 := Lib.hid sW13
      have lW13 : w12.heap.size + 1 ≤ W13.heap.size := by omega
      clear hW13 sW13
      replace S := S.nx gW13
      replace S_0 := S.cell (j := 0) rfl
      replace S_1 := S.cell (j := 1) rfl
      replace S_2 := S.cell (j := 2) rfl
      replace S_z := S.lt
      replace U := U.nx gW13
      replace U_0 := U.cell (j := 0) rfl
      replace U_1 := U.cell (j := 1) rfl
      replace U_2 := U.cell (j := 2) rfl
      replace U_z := U.lt
      replace L := L.nx gW13
      replace L_0 := L.cell (j := 0) rfl
      replace L_1 := L.cell (j := 1) rfl
      replace L_2 := L.cell (j := 2) rfl
      replace L_z := L.lt
      replace F := F.nx gW13
      replace F_0 := F.cell (j := 0) rfl
      replace F_1 := F.cell (j := 1) rfl
      replace F_2 := F.cell (j := 2) rfl
      replace F_z := F.lt
      replace hu := hu.nx gW13
      replace ha := ha.nx gW13
      replace hf := hf.nx gW13
      replace hg := hg.nx gW13
      replace N := N.trans gW13
      refine (Hsvu.out B0 B1 B2 b0 b1 b2 _ hu.a hu.b hu.c).mono ?_
      rintro e w14 ⟨rfl, hn14⟩
      replace S := S.nx hn14
      replace S_0 := S.cell (j := 0) rfl
      replace S_1 := S.cell (j := 1) rfl
      replace S_2 := S.cell (j := 2) rfl
      replace S_z := S.lt
      replace U := U.nx hn14
      replace U_0 := U.cell (j := 0) rfl
      replace U_1 := U.cell (j := 1) rfl
      replace U_2 := U.cell (j := 2) rfl
      replace U_z := U.lt
      replace L := L.nx hn14
      replace L_0 := L.cell (j := 0) rfl
      replace L_1 := L.cell (j := 1) rfl
      replace L_2 := L.cell (j := 2) rfl
      replace L_z := L.lt
      replace F := F.nx hn14
      replace F_0 := F.cell (j := 0) rfl
      replace F_1 := F.cell (j := 1) rfl
      replace F_2 := F.cell (j := 2) rfl
      replace F_z := F.lt
      replace G := G.nx hn14
      replace G_0 := G.cell (j := 0) rfl
      replace G_1 := G.cell (j := 1) rfl
      replace G_2 := G.cell (j := 2) rfl
      replace G_z := G.lt
      replace ha := ha.nx hn14
      replace hf := hf.nx hn14
      replace hg := hg.nx hn14
      replace N := N.trans hn14
      go_wp2_with fail
      refine (Hdy0.out _ _ _ _ E0 E1 E2 F0 F1 F2 e0 e1 e2 f0 f1 f2 _ ha hf).mono ?_
      rintro e w15 ⟨rfl, hn15⟩
      replace F := F.nx hn15
      replace F_0 := F.cell (j := 0) rfl
      replace F_1 := F.cell (j := 1) rfl
      replace F_2 := F.cell (j := 2) rfl
      replace F_z := F.lt
      replace G := G.nx hn15
      replace G_0 := G.cell (j := 0) rfl
      replace G_1 := G.cell (j := 1) rfl
      replace G_2 := G.cell (j := 2) rfl
      replace G_z := G.lt
      replace hf := hf.nx hn15
      replace hg := hg.nx hn15
      replace N := N.trans hn15
      go_wp2_with fail
      refine (Hdy0.out _ _ _ _ G0 G1 G2 F0 F1 F2 g0 g1 g2 f0 f1 f2 _ hg hf).mono ?_
      rintro e w16 ⟨rfl, hn16⟩
      replace F := F.nx hn16
      replace F_0 := F.cell (j := 0) rfl
      replace F_1 := F.cell (j := 1) rfl
      replace F_2 := F.cell (j := 2) rfl
      replace F_z := F.lt
      replace N := N.trans hn16
      go_wp2
      go_ret
      exact RetV.bool rfl N
    · have hv' : ¬ (SV P Z T ∧ 0 ≤ k ∧ k ≤ T.length) := by rw [hl]; exact hv
      have him := fun A B C ca cb cc w' a b c => ((iUndo_no A B C ca cb cc k P Z T w' a b c hv' (by omega) (by omega) (by omega)).mono fun _ _ h => (RetV.r h).n (n1 := 0) (n2 := 0) (n3 := 0) rfl rfl rfl)
      have hsp := fun A B C ca cb cc w' a b c => ((sUndo_no A B C ca cb cc k P Z T w' a b c hv' (by omega) (by omega) (by omega)).mono fun _ _ h => (RetV.d h).n (n1 := 0) (n2 := 0) (n3 := 0) rfl rfl rfl)
      rw [hP, hZ, hl] at him hsp
      have Him := Lib.hid him
      have Hsp := Lib.hid hsp
      have Hdy := Lib.hid (fun lo hi lo' hi' A B C A' B' C' ca cb cc ca' cb' cc' w' h h' => dyS_yes lo hi lo' hi' 0 0 0 nilS A B C A' B' C' ca cb cc ca' cb' cc' w' h h' rfl rfl rfl (by omega) (by omega) (by omega))
      clear him hsp hv hv' hP hZ hl
      go_wp2_with fail
      generalize hW2 : World.alloc _ _ = W2
      have gW2 : Nx w1 W2 := by subst hW2; exact (by repeat (first | exact Nx.refl _ | assumption | apply Nx.alloc | apply Nx.drew | apply Nx.drewN | (refine Nx.setCell ?_ (by first | (simp; done) | (simp; omega) | omega) _) | refine Nx.trans ?_ (by assumption)))
      have sW2 : W2.heap.size = w1.heap.size + 1 := by subst hW2; simp
      have S : Bx W2 (w1.heap.size) 37 [.slice A0 n c0, .slice A1 n c1, .slice A2 l c2] := by subst hW2; have h := Bx.alloc w1 37 [.slice A0 n c0, .slice A1 n c1, .slice A2 l c2]; simpa using h
      have S_0 := S.cell (j := 0) rfl
      have S_1 := S.cell (j := 1) rfl
      have S_2 := S.cell (j := 2) rfl
      have S_z := S.lt
      have HsW2 := Lib.hid sW2
      have lW2 : w1.heap.size + 1 ≤ W2.heap.size := by omega
      clear hW2 sW2
      replace hr := hr.nx gW2
      replace N := N.trans gW2
      refine (Him.out A0 A1 A2 c0 c1 c2 _ hr.a hr.b hr.c).mono ?_
      rintro e w3 ⟨B0, b0, B1, b1, B2, b2, rfl, _, hu, hn3⟩
      replace S := S.nx hn3
      replace S_0 := S.cell (j := 0) rfl
      replace S_1 := S.cell (j := 1) rfl
      replace S_2 := S.cell (j := 2) rfl
      replace S_z := S.lt
      replace hr := hr.nx hn3
      replace N := N.trans hn3
      go_wp2_with fail
      generalize hW4 : World.alloc _ _ = W4
      have gW4 : Nx w3 W4 := by subst hW4; exact (by repeat (first | exact Nx.refl _ | assumption | apply Nx.alloc | apply Nx.drew | apply Nx.drewN | (refine Nx.setCell ?_ (by first | (simp; done) | (simp; omega) | omega) _) | refine Nx.trans ?_ (by assumption)))
      have sW4 : W4.heap.size = w3.heap.size + 1 := by subst hW4; simp
      have U : Bx W4 (w3.heap.size) 37 [.slice B0 0 b0, .slice B1 0 b1, .slice B2 0 b2] := by subst hW4; have h := Bx.alloc w3 37 [.slice B0 0 b0, .slice B1 0 b1, .slice B2 0 b2]; simpa using h
      have U_0 := U.cell (j := 0) rfl
      have U_1 := U.cell (j := 1) rfl
      have U_2 := U.cell (j := 2) rfl
      have U_z := U.lt
      have HsW4 := Lib.hid sW4
      have lW4 : w3.heap.size + 1 ≤ W4.heap.size := by omega
      clear hW4 sW4
      replace S := S.nx gW4
      replace S_0 := S.cell (j := 0) rfl
      replace S_1 := S.cell (j := 1) rfl
      replace S_2 := S.cell (j := 2) rfl
      replace S_z := S.lt
      replace hr := hr.nx gW4
      replace hu := hu.nx gW4
      replace N := N.trans gW4
      refine (Hsp.out A0 A1 A2 c0 c1 c2 _ hr.a hr.b hr.c).mono ?_
      rintro e w5 ⟨D0, d0, D1, d1, D2, d2, rfl, hw, hn5⟩
      replace S := S.nx hn5
      replace S_0 := S.cell (j := 0) rfl
      replace S_1 := S.cell (j := 1) rfl
      replace S_2 := S.cell (j := 2) rfl
      replace S_z := S.lt
      replace U := U.nx hn5
      replace U_0 := U.cell (j := 0) rfl
      replace U_1 := U.cell (j := 1) rfl
      replace U_2 := U.cell (j := 2) rfl
      replace U_z := U.lt
      replace hr := hr.nx hn5
      replace hu := hu.nx hn5
      replace N := N.trans hn5
      go_wp2_with fail
      generalize hW6 : World.alloc _ _ = W6
      have gW6 : Nx w5 W6 := by subst hW6; exact (by repeat (first | exact Nx.refl _ | assumption | apply Nx.alloc | apply Nx.drew | apply Nx.drewN | (refine Nx.setCell ?_ (by first | (simp; done) | (simp; omega) | omega) _) | refine Nx.trans ?_ (by assumption)))
      have sW6 : W6.heap.size = w5.heap.size + 1 := by subst hW6; simp
      have Q : Bx W6 (w5.heap.size) 37 [.slice D0 0 d0, .slice D1 0 d1, .slice D2 0 d2] := by subst hW6; have h := Bx.alloc w5 37 [.slice D0 0 d0, .slice D1 0 d1, .slice D2 0 d2]; simpa using h
      have Q_0 := Q.cell (j := 0) rfl
      have Q_1 := Q.cell (j := 1) rfl
      have Q_2 := Q.cell (j := 2) rfl
      have Q_z := Q.lt
      have HsW6 := Lib.hid sW6
      have lW6 : w5.heap.size + 1 ≤ W6.heap.size := by omega
      clear hW6 sW6
      replace U := U.nx gW6
      replace U_0 := U.cell (j := 0) rfl
      replace U_1 := U.cell (j := 1) rfl
      replace U_2 := U.cell (j := 2) rfl
      replace U_z := U.lt
      replace hu := hu.nx gW6
      replace hw := hw.nx gW6
      replace N := N.trans gW6
      refine (Hdy.out _ _ _ _ B0 B1 B2 D0 D1 D2 b0 b1 b2 d0 d1 d2 _ hu hw).mono ?_
      rintro e w7 ⟨rfl, hn7⟩
      replace U := U.nx hn7
      replace U_0 := U.cell (j := 0) rfl
      replace U_1 := U.cell (j := 1) rfl
      replace U_2 := U.cell (j := 2) rfl
      replace U_z := U.lt
      replace Q := Q.nx hn7
      replace Q_0 := Q.cell (j := 0) rfl
      replace Q_1 := Q.cell (j := 1) rfl
      replace Q_2 := Q.cell (j := 2) rfl
      replace Q_z := Q.lt
      replace hu := hu.nx hn7
      replace hw := hw.nx hn7
      replace N := N.trans hn7
      go_wp2_with fail
      refine (Hdy.out _ _ _ _ B0 B1 B2 D0 D1 D2 b0 b1 b2 d0 d1 d2 _ hu hw).mono ?_
      rintro e w8 ⟨rfl, hn8⟩
      replace U := U.nx hn8
      replace U_0 := U.cell (j := 0) rfl
      replace U_1 := U.cell (j := 1) rfl
      replace U_2 := U.cell (j := 2) rfl
      replace U_z := U.lt
      replace N := N.trans hn8
      go_wp2
      go_ret
      exact RetV.bool rfl N
end Go.Proofs.Yticjoichmcegnaa
