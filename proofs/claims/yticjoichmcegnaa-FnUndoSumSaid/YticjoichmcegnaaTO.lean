/- FnUndoSum: the walk. -/
import Derived.Test.YticjoichmcegnaaTM
namespace Go.Proofs.Yticjoichmcegnaa
open Go.RowKit set_option linter.unusedVariables false set_option linter.unusedSimpArgs false

set_option maxRecDepth 100000 in
set_option maxHeartbeats 8000000 in
theorem fnUndoSum_walk (w : World) (A : Option Addr) (m c : Nat) (hmc : m ≤ c) (hb : BytesAt w w.heap.size A m) :
    Calls Try.prog 7 #[.slice A m c] w (RetV (.bool true) w) := by
  by_cases hbig : (m : Int) > 1048576
  · go_enter Try.func7, Try.ntmps7
    go_wp2
    go_ret
    exact RetV.bool rfl (by repeat (first | exact Nx.refl _ | assumption | apply Nx.alloc | apply Nx.drew | apply Nx.drewN | (refine Nx.setCell ?_ (by first | (simp; done) | (simp; omega) | omega) _) | refine Nx.trans ?_ (by assumption)))
  · go_enter Try.func7, Try.ntmps7
    go_wp2_with fail
    refine (drawUndoSets_c A m c _ hmc hb).mono ?_
    rintro e w1 ⟨k, hk0, hk5, ⟨P, Z, T⟩, n, hP, hZ, n1, n16, hT, A0, c0, A1, c1, A2, c2, rfl, oA, oB, oC, _, _, _, N⟩
    simp only at hP hZ hT oA oB oC
    have hcap := oC.cap
    have zw1 := N.size
    have hr : Rds w1 0 w1.heap.size ⟨P, Z, T⟩ A0 A1 A2 := ⟨oA.intsAt, oB.intsAt, oC.edgesAt, fun k hk => ⟨Nat.zero_le _, (oA.lt k hk).2⟩, fun k hk => ⟨Nat.zero_le _, (oB.lt k hk).2⟩, fun k hk => ⟨Nat.zero_le _, (oC.lt k hk).2⟩⟩
    obtain ⟨l, hl⟩ : ∃ l, T.length = l := ⟨_, rfl⟩
    simp only [hP, hZ, hl] at hT hcap ⊢
    clear oA oB oC hb
    by_cases hv : SV P Z T ∧ 0 ≤ k ∧ k ≤ l
    · obtain ⟨hv, k0, kl⟩ := hv
      obtain ⟨k, rfl⟩ := Int.eq_ofNat_of_zero_le k0
      have hkT : k ≤ T.length := by omega
      have him := fun A B C ca cb cc w' a b c d => ((iUndo_yes A B C ca cb cc k P Z T w' a b c d hv hkT).mono fun _ _ h => h.r.n (n1 := n) (n2 := n) (n3 := l - k) (by rw [(backS_inv hv k).lp, hP]) (by rw [(backS_inv hv k).lz, hP]) (by rw [backS_T hv, List.length_take]; omega))
      have hsp := fun A B C ca cb cc w' a b c => ((sUndo_yes A B C ca cb cc k P Z T w' a b c hv hkT).mono fun _ _ h => h.d.n (n1 := n) (n2 := n) (n3 := l - k) (by rw [(backS_inv hv k).lp, hP]) (by rw [(backS_inv hv k).lz, hP]) (by rw [backS_T hv, List.length_take]; omega))
      obtain ⟨j, hj⟩ : ∃ j, l - k = j := ⟨_, rfl⟩
      rw [hP, hZ, hl] at him hsp
      rw [hj] at him hsp
      have Him := Lib.hid him
      have Hsp := Lib.hid hsp
      have Hdy := Lib.hid (fun lo hi lo' hi' A B C A' B' C' ca cb cc ca' cb' cc' w' h h' => dyS_yes lo hi lo' hi' n n j (backS P T k) A B C A' B' C' ca cb cc ca' cb' cc' w' h h' (by rw [(backS_inv hv k).lp, hP]) (by rw [(backS_inv hv k).lz, hP]) (by rw [backS_T hv, List.length_take]; omega) (by omega) (by omega) (by omega))
      have hone := fun (i : Nat) (hi : i < k) A B C ca cb cc w' a b c d => ((iUndo_yes A B C ca cb cc 1 (backS P T i).P (backS P T i).Z (backS P T i).T w' a b c d (backS_SV hv i) (by rw [backS_T hv, List.length_take]; omega)).mono fun _ _ h => RetR.n (s := backS P T (i + 1)) (n1 := n) (n2 := n) (n3 := l - i - 1) (by have := h.r; rwa [backS_back hv i 1 (by omega)] at this) (by rw [(backS_inv hv (i + 1)).lp, hP]) (by rw [(backS_inv hv (i + 1)).lz, hP]) (by rw [backS_T hv, List.length_take]; omega))
      have hone' : ∀ (i jj : Nat), i < k → jj = l - i → ∀ A B C ca cb cc w', IntsAt w' A (backS P T i).P → IntsAt w' B (backS P T i).Z → EdgesAt w' C (backS P T i).T → jj ≤ cc → Calls Try.prog 27 #[St A n ca B n cb C jj cc, V 1] w' (RetRn (backS P T (i + 1)) n n (jj - 1) (tupT true) w') := fun i jj hi hjj A B C ca cb cc w' a b c d => by
        have h := hone i hi A B C ca cb cc w' a b c (by rw [backS_T hv, List.length_take]; omega)
        rw [(backS_inv hv i).lp, (backS_inv hv i).lz, hP, show (backS P T i).T.length = jj by rw [backS_T hv, List.length_take]; omega, ← hjj] at h
        exact h
      have Hone := Lib.hid hone'
      have Hz := Lib.hid (backS_zero hv)
      clear him hsp hone hone' hP hZ hl hv
      go_wp2_with fail
      generalize hW2 : World.alloc _ _ = W2
      have gW2 : Nx w1 W2 := by subst hW2; exact (by repeat (first | exact Nx.refl _ | assumption | apply Nx.alloc | apply Nx.drew | apply Nx.drewN | (refine Nx.setCell ?_ (by first | (simp; done) | (simp; omega) | omega) _) | refine Nx.trans ?_ (by assumption)))
      have sW2 : W2.heap.size = w1.heap.size + 1 := by subst hW2; simp
      have S : Bx W2 (w1.heap.size) 37 [.slice A0 n c0, .slice A1 n c1, .slice A2 l c2] := by subst hW2; have h := Bx.alloc w1 37 [.slice A0 n c0, .slice A1 n c1, .slice A2 l c2]; simpa using h
      have S_0 := S.cell (j := 0) rfl
      have S_1 := S.cell (j := 1) rfl
      have S_2 := S.cell (j := 2) rfl
      have S_z := S.lt
      have HsW2 := Lib.hid sW2
      have lW2 : w1.heap.size + 1 ≤ W2.heap.size := by omega
      clear hW2 sW2
      replace hr := hr.nx gW2
      replace N := N.trans gW2
      refine (Him.out A0 A1 A2 c0 c1 c2 _ hr.a hr.b hr.c hcap).mono ?_
      rintro e w3 ⟨B0, b0, B1, b1, B2, b2, rfl, hb2, hu, hn3⟩
      replace S := S.nx hn3
      replace S_0 := S.cell (j := 0) rfl
      replace S_1 := S.cell (j := 1) rfl
      replace S_2 := S.cell (j := 2) rfl
      replace S_z := S.lt
      replace hr := hr.nx hn3
      replace N := N.trans hn3
      go_wp2_with fail
      generalize hW4 : World.alloc _ _ = W4
      have gW4 : Nx w3 W4 := by subst hW4; exact (by repeat (first | exact Nx.refl _ | assumption | apply Nx.alloc | apply Nx.drew | apply Nx.drewN | (refine Nx.setCell ?_ (by first | (simp; done) | (simp; omega) | omega) _) | refine Nx.trans ?_ (by assumption)))
      have sW4 : W4.heap.size = w3.heap.size + 1 := by subst hW4; simp
      have U : Bx W4 (w3.heap.size) 37 [.slice B0 n b0, .slice B1 n b1, .slice B2 j b2] := by subst hW4; have h := Bx.alloc w3 37 [.slice B0 n b0, .slice B1 n b1, .slice B2 j b2]; simpa using h
      have U_0 := U.cell (j := 0) rfl
      have U_1 := U.cell (j := 1) rfl
      have U_2 := U.cell (j := 2) rfl
      have U_z := U.lt
      have HsW4 := Lib.hid sW4
      have lW4 : w3.heap.size + 1 ≤ W4.heap.size := by omega
      clear hW4 sW4
      replace S := S.nx gW4
      replace S_0 := S.cell (j := 0) rfl
      replace S_1 := S.cell (j := 1) rfl
      replace S_2 := S.cell (j := 2) rfl
      replace S_z := S.lt
      replace hr := hr.nx gW4
      replace hu := hu.nx gW4
      replace N := N.trans gW4
      refine (Hsp.out A0 A1 A2 c0 c1 c2 _ hr.a hr.b hr.c).mono ?_
      rintro e w5 ⟨D0, d0, D1, d1, D2, d2, rfl, hw, hn5⟩
      replace S := S.nx hn5
      replace S_0 := S.cell (j := 0) rfl
      replace S_1 := S.cell (j := 1) rfl
      replace S_2 := S.cell (j := 2) rfl
      replace S_z := S.lt
      replace U := U.nx hn5
      replace U_0 := U.cell (j := 0) rfl
      replace U_1 := U.cell (j := 1) rfl
      replace U_2 := U.cell (j := 2) rfl
      replace U_z := U.lt
      replace hr := hr.nx hn5
      replace hu := hu.nx hn5
      replace N := N.trans hn5
      go_wp2_with fail
      generalize hW6 : World.alloc _ _ = W6
      have gW6 : Nx w5 W6 := by subst hW6; exact (by repeat (first | exact Nx.refl _ | assumption | apply Nx.alloc | apply Nx.drew | apply Nx.drewN | (refine Nx.setCell ?_ (by first | (simp; done) | (simp; omega) | omega) _) | refine Nx.trans ?_ (by assumption)))
      have sW6 : W6.heap.size = w5.heap.size + 1 := by subst hW6; simp
      have Q : Bx W6 (w5.heap.size) 37 [.slice D0 n d0, .slice D1 n d1, .slice D2 j d2] := by subst hW6; have h := Bx.alloc w5 37 [.slice D0 n d0, .slice D1 n d1, .slice D2 j d2]; simpa using h
      have Q_0 := Q.cell (j := 0) rfl
      have Q_1 := Q.cell (j := 1) rfl
      have Q_2 := Q.cell (j := 2) rfl
      have Q_z := Q.lt
      have HsW6 := Lib.hid sW6
      have lW6 : w5.heap.size + 1 ≤ W6.heap.size := by omega
      clear hW6 sW6
      replace S := S.nx gW6
      replace S_0 := S.cell (j := 0) rfl
      replace S_1 := S.cell (j := 1) rfl
      replace S_2 := S.cell (j := 2) rfl
      replace S_z := S.lt
      replace U := U.nx gW6
      replace U_0 := U.cell (j := 0) rfl
      replace U_1 := U.cell (j := 1) rfl
      replace U_2 := U.cell (j := 2) rfl
      replace U_z := U.lt
      replace hr := hr.nx gW6
      replace hu := hu.nx gW6
      replace hw := hw.nx gW6
      replace N := N.trans gW6
      refine (Hdy.out _ _ _ _ B0 B1 B2 D0 D1 D2 b0 b1 b2 d0 d1 d2 _ hu hw).mono ?_
      rintro e w7 ⟨rfl, hn7⟩
      replace S := S.nx hn7
      replace S_0 := S.cell (j := 0) rfl
      replace S_1 := S.cell (j := 1) rfl
      replace S_2 := S.cell (j := 2) rfl
      replace S_z := S.lt
      replace U := U.nx hn7
      replace U_0 := U.cell (j := 0) rfl
      replace U_1 := U.cell (j := 1) rfl
      replace U_2 := U.cell (j := 2) rfl
      replace U_z := U.lt
      replace hr := hr.nx hn7
      replace hu := hu.nx hn7
      replace N := N.trans hn7
      clear hw Q Q_0 Q_1 Q_2 Q_z
      go_wp2_with fail
      generalize hW8 : World.alloc _ _ = W8
      have gW8 : Nx w7 W8 := by subst hW8; exact (by repeat (first | exact Nx.refl _ | assumption | apply Nx.alloc | apply Nx.drew | apply Nx.drewN | (refine Nx.setCell ?_ (by first | (simp; done) | (simp; omega) | omega) _) | refine Nx.trans ?_ (by assumption)))
      have sW8 : W8.heap.size = w7.heap.size + 1 := by subst hW8; simp
      have X : Bx W8 (w7.heap.size) 37 [.slice A0 n c0, .slice A1 n c1, .slice A2 l c2] := by subst hW8; have h := Bx.alloc w7 37 [.slice A0 n c0, .slice A1 n c1, .slice A2 l c2]; simpa using h
      have X_0 := X.cell (j := 0) rfl
      have X_1 := X.cell (j := 1) rfl
      have X_2 := X.cell (j := 2) rfl
      have X_z := X.lt
      have HsW8 := Lib.hid sW8
      have lW8 : w7.heap.size + 1 ≤ W8.heap.size := by omega
      clear hW8 sW8
      replace U := U.nx gW8
      replace U_0 := U.cell (j := 0) rfl
      replace U_1 := U.cell (j := 1) rfl
      replace U_2 := U.cell (j := 2) rfl
      replace U_z := U.lt
      replace hr := hr.nx gW8
      replace hu := hu.nx gW8
      replace N := N.trans gW8
      have hr0 : Rds W8 0 W8.heap.size (backS P T 0) A0 A1 A2 := by rw [Hz.out]; exact ⟨hr.a, hr.b, hr.c, fun k hk => by have := hr.la k hk; omega, fun k hk => by have := hr.lb k hk; omega, fun k hk => by have := hr.lc k hk; omega⟩
      have hn7w : w7.heap.size < W8.heap.size := X_z
      have q3w : w3.heap.size < w7.heap.size := by have := hn7.size; have := lW6; have := hn5.size; omega
      have q1w : w1.heap.size ≤ w7.heap.size := by have := hn3.size; omega
      have Hu := Lib.hid hu
      have Hr0 := Lib.hid hr0
      have HX := Lib.hid X
      have HU := Lib.hid U
      go_loopg [10, 11, 12] k (fun gk i _ _ wr => ∃ (q : Nat), q + gk = k ∧ i = .int .i64 q ∧ Nx w wr ∧ w7.heap.size < wr.heap.size ∧ Bx wr w3.heap.size 37 [.slice B0 n b0, .slice B1 n b1, .slice B2 j b2] ∧ Rds wr W2.heap.size w3.heap.size (backS P T k) B0 B1 B2 ∧ ∃ A' ca' B' cb' C' cc' lo hi, l - q ≤ cc' ∧ Bx wr w7.heap.size 37 [.slice A' n ca', .slice B' n cb', .slice C' (l - q) cc'] ∧ Rds wr lo hi (backS P T q) A' B' C' ∧ (hi ≤ w7.heap.size ∨ w7.heap.size < lo))
      case atStart => exact ⟨0, by omega, rfl, N, hn7w, HU.out, Hu.out, A0, c0, A1, c1, A2, c2, 0, w1.heap.size, by simpa using hcap, by simpa using HX.out, ⟨Hr0.out.a, Hr0.out.b, Hr0.out.c, fun k hk => by have := hr.la k hk; omega, fun k hk => by have := hr.lb k hk; omega, fun k hk => by have := hr.lc k hk; omega⟩, .inl q1w⟩
      case round =>
        clear N X X_0 X_1 X_2 X_z U U_0 U_1 U_2 U_z HU HX Hr0 Hu hr0 hr hu
        obtain ⟨q, hq, rfl, N, hz, U, hu, A', ca', B', cb', C', cc', lo, hi, hcc, X, hx, hlo⟩ := hrel
        obtain ⟨jj, hjj⟩ : ∃ jj, l - q = jj := ⟨_, rfl⟩
        rw [hjj] at hcc X
        have Hjj := Lib.hid hjj
        have X_0 := X.cell (j := 0) rfl
        have X_1 := X.cell (j := 1) rfl
        have X_2 := X.cell (j := 2) rfl
        have X_z := X.lt
        have U_0 := U.cell (j := 0) rfl
        have U_1 := U.cell (j := 1) rfl
        have U_2 := U.cell (j := 2) rfl
        have U_z := U.lt
        by_cases hlt : q < k
        · have hon := fun A B C ca cb cc w' a b c d => Hone.out q jj hlt hjj.symm A B C ca cb cc w' a b c d
          have Hon := Lib.hid hon
          clear hjj hon
          go_wp2_with fail
          refine (Hon.out A' B' C' ca' cb' cc' _ hx.a hx.b hx.c hcc).mono ?_
          rintro e w9 ⟨A9, c9, B9, d9, C9, e9, rfl, hc9, h9, hn9⟩
          replace X := X.nx hn9
          replace X_0 := X.cell (j := 0) rfl
          replace X_1 := X.cell (j := 1) rfl
          replace X_2 := X.cell (j := 2) rfl
          replace X_z := X.lt
          replace U := U.nx hn9
          replace U_0 := U.cell (j := 0) rfl
          replace U_1 := U.cell (j := 1) rfl
          replace U_2 := U.cell (j := 2) rfl
          replace U_z := U.lt
          replace hu := hu.nx hn9
          replace N := N.trans hn9
          clear hx hlo
          go_upto_region 15 with (fail)
          generalize hW10 : World.alloc _ _ = W10
          have gW10 : Nx w9 W10 := by subst hW10; exact (by repeat (first | exact Nx.refl _ | assumption | apply Nx.alloc | apply Nx.drew | apply Nx.drewN | (refine Nx.setCell ?_ (by first | (simp; done) | (simp; omega) | omega) _) | refine Nx.trans ?_ (by assumption)))
          have sW10 : W10.heap.size = w9.heap.size + 1 := by subst hW10; simp
          have Y : Bx W10 (w9.heap.size) 37 [.slice A9 n c9, .slice B9 n d9, .slice C9 (jj - 1) e9] := by subst hW10; have h := Bx.alloc w9 37 [.slice A9 n c9, .slice B9 n d9, .slice C9 (jj - 1) e9]; simpa using h
          have Y_0 := Y.cell (j := 0) rfl
          have Y_1 := Y.cell (j := 1) rfl
          have Y_2 := Y.cell (j := 2) rfl
          have Y_z := Y.lt
          have HsW10 := Lib.hid sW10
          have lW10 : w9.heap.size + 1 ≤ W10.heap.size := by omega
          clear hW10 sW10
          replace X := X.nx gW10
          replace X_0 := X.cell (j := 0) rfl
          replace X_1 := X.cell (j := 1) rfl
          replace X_2 := X.cell (j := 2) rfl
          replace X_z := X.lt
          replace U := U.nx gW10
          replace U_0 := U.cell (j := 0) rfl
          replace U_1 := U.cell (j := 1) rfl
          replace U_2 := U.cell (j := 2) rfl
          replace U_z := U.lt
          replace hu := hu.nx gW10
          replace h9 := h9.nx gW10
          replace N := N.trans gW10
          have X_f := X.free
          have z9 := hn9.size
          have Hu := Lib.hid hu
          have H9 := Lib.hid h9
          clear hu h9 hn9 gW10
          go_wp2
          go_roundg (gk - 1)
          case measure => omega
          case rel =>
            have g : W10.grownBy (((W10.setCell ⟨w7.heap.size, 0, none⟩ (.slice A9 n c9)).setCell ⟨w7.heap.size, 1, none⟩ (.slice B9 n d9)).setCell ⟨w7.heap.size, 2, none⟩ (.slice C9 (jj - 1) e9)) (some w7.heap.size) := grown_trans (grown_trans (grown_setCell _ _ _ _) (grown_setCell _ _ _ _)) (grown_setCell _ _ _ _)
            have gx : Gx (fun k => w7.heap.size ≤ k ∧ k < w7.heap.size + 1) W10 _ := (Gx.refl _ W10).grown g (fun j e => .inl (by injection e with e; omega))
            have hj1 : l - (q + 1) = jj - 1 := by have := Hjj.out; omega
            have zN := q1w
            refine ⟨q + 1, by omega, by go_num, N.grown g (fun k e => by injection e with e; omega), by have := g.size; omega, U.grown g (by simp; omega), Hu.out.gx gx (.inl (by omega)), A9, c9, B9, d9, C9, e9, wr.heap.size, w9.heap.size, by rw [hj1]; exact hc9, ?_, H9.out.gx gx (.inr (by omega)), .inr (by omega)⟩
            rw [hj1]
            simpa using ((X.set (j := 0) (.slice A9 n c9)).set (j := 1) (.slice B9 n d9)).set (j := 2) (.slice C9 (jj - 1) e9)
        · obtain rfl : q = k := by omega
          have hjj2 : jj = j := by omega
          subst hjj2
          go_wp2_with fail
          refine (Hdy.out _ _ _ _ A' B' C' B0 B1 B2 ca' cb' cc' b0 b1 b2 _ hx hu).mono ?_
          rintro e w9 ⟨rfl, hn9⟩
          replace U := U.nx hn9
          replace U_0 := U.cell (j := 0) rfl
          replace U_1 := U.cell (j := 1) rfl
          replace U_2 := U.cell (j := 2) rfl
          replace U_z := U.lt
          replace N := N.trans hn9
          go_wp2
          go_ret
          exact RetV.bool rfl N
    · have hv' : ¬ (SV P Z T ∧ 0 ≤ k ∧ k ≤ T.length) := by rw [hl]; exact hv
      have him := fun A B C ca cb cc w' a b c => ((iUndo_no A B C ca cb cc k P Z T w' a b c hv' (by omega) (by omega) (by omega)).mono fun _ _ h => (RetV.r h).n (n1 := 0) (n2 := 0) (n3 := 0) rfl rfl rfl)
      have hsp := fun A B C ca cb cc w' a b c => ((sUndo_no A B C ca cb cc k P Z T w' a b c hv' (by omega) (by omega) (by omega)).mono fun _ _ h => (RetV.d h).n (n1 := 0) (n2 := 0) (n3 := 0) rfl rfl rfl)
      rw [hP, hZ, hl] at him hsp
      have Him := Lib.hid him
      have Hsp := Lib.hid hsp
      have Hdy := Lib.hid (fun lo hi lo' hi' A B C A' B' C' ca cb cc ca' cb' cc' w' h h' => dyS_yes lo hi lo' hi' 0 0 0 nilS A B C A' B' C' ca cb cc ca' cb' cc' w' h h' rfl rfl rfl (by omega) (by omega) (by omega))
      clear him hsp hv hv' hP hZ hl
      go_wp2_with fail
      generalize hW2 : World.alloc _ _ = W2
      have gW2 : Nx w1 W2 := by subst hW2; exact (by repeat (first | exact Nx.refl _ | assumption | apply Nx.alloc | apply Nx.drew | apply Nx.drewN | (refine Nx.setCell ?_ (by first | (simp; done) | (simp; omega) | omega) _) | refine Nx.trans ?_ (by assumption)))
      have sW2 : W2.heap.size = w1.heap.size + 1 := by subst hW2; simp
      have S : Bx W2 (w1.heap.size) 37 [.slice A0 n c0, .slice A1 n c1, .slice A2 l c2] := by subst hW2; have h := Bx.alloc w1 37 [.slice A0 n c0, .slice A1 n c1, .slice A2 l c2]; simpa using h
      have S_0 := S.cell (j := 0) rfl
      have S_1 := S.cell (j := 1) rfl
      have S_2 := S.cell (j := 2) rfl
      have S_z := S.lt
      have HsW2 := Lib.hid sW2
      have lW2 : w1.heap.size + 1 ≤ W2.heap.size := by omega
      clear hW2 sW2
      replace hr := hr.nx gW2
      replace N := N.trans gW2
      refine (Him.out A0 A1 A2 c0 c1 c2 _ hr.a hr.b hr.c).mono ?_
      rintro e w3 ⟨B0, b0, B1, b1, B2, b2, rfl, _, hu, hn3⟩
      replace S := S.nx hn3
      replace S_0 := S.cell (j := 0) rfl
      replace S_1 := S.cell (j := 1) rfl
      replace S_2 := S.cell (j := 2) rfl
      replace S_z := S.lt
      replace hr := hr.nx hn3
      replace N := N.trans hn3
      go_wp2_with fail
      generalize hW4 : World.alloc _ _ = W4
      have gW4 : Nx w3 W4 := by subst hW4; exact (by repeat (first | exact Nx.refl _ | assumption | apply Nx.alloc | apply Nx.drew | apply Nx.drewN | (refine Nx.setCell ?_ (by first | (simp; done) | (simp; omega) | omega) _) | refine Nx.trans ?_ (by assumption)))
      have sW4 : W4.heap.size = w3.heap.size + 1 := by subst hW4; simp
      have U : Bx W4 (w3.heap.size) 37 [.slice B0 0 b0, .slice B1 0 b1, .slice B2 0 b2] := by subst hW4; have h := Bx.alloc w3 37 [.slice B0 0 b0, .slice B1 0 b1, .slice B2 0 b2]; simpa using h
      have U_0 := U.cell (j := 0) rfl
      have U_1 := U.cell (j := 1) rfl
      have U_2 := U.cell (j := 2) rfl
      have U_z := U.lt
      have HsW4 := Lib.hid sW4
      have lW4 : w3.heap.size + 1 ≤ W4.heap.size := by omega
      clear hW4 sW4
      replace S := S.nx gW4
      replace S_0 := S.cell (j := 0) rfl
      replace S_1 := S.cell (j := 1) rfl
      replace S_2 := S.cell (j := 2) rfl
      replace S_z := S.lt
      replace hr := hr.nx gW4
      replace hu := hu.nx gW4
      replace N := N.trans gW4
      refine (Hsp.out A0 A1 A2 c0 c1 c2 _ hr.a hr.b hr.c).mono ?_
      rintro e w5 ⟨D0, d0, D1, d1, D2, d2, rfl, hw, hn5⟩
      replace S := S.nx hn5
      replace S_0 := S.cell (j := 0) rfl
      replace S_1 := S.cell (j := 1) rfl
      replace S_2 := S.cell (j := 2) rfl
      replace S_z := S.lt
      replace U := U.nx hn5
      replace U_0 := U.cell (j := 0) rfl
      replace U_1 := U.cell (j := 1) rfl
      replace U_2 := U.cell (j := 2) rfl
      replace U_z := U.lt
      replace hr := hr.nx hn5
      replace hu := hu.nx hn5
      replace N := N.trans hn5
      go_wp2_with fail
      generalize hW6 : World.alloc _ _ = W6
      have gW6 : Nx w5 W6 := by subst hW6; exact (by repeat (first | exact Nx.refl _ | assumption | apply Nx.alloc | apply Nx.drew | apply Nx.drewN | (refine Nx.setCell ?_ (by first | (simp; done) | (simp; omega) | omega) _) | refine Nx.trans ?_ (by assumption)))
      have sW6 : W6.heap.size = w5.heap.size + 1 := by subst hW6; simp
      have Q : Bx W6 (w5.heap.size) 37 [.slice D0 0 d0, .slice D1 0 d1, .slice D2 0 d2] := by subst hW6; have h := Bx.alloc w5 37 [.slice D0 0 d0, .slice D1 0 d1, .slice D2 0 d2]; simpa using h
      have Q_0 := Q.cell (j := 0) rfl
      have Q_1 := Q.cell (j := 1) rfl
      have Q_2 := Q.cell (j := 2) rfl
      have Q_z := Q.lt
      have HsW6 := Lib.hid sW6
      have lW6 : w5.heap.size + 1 ≤ W6.heap.size := by omega
      clear hW6 sW6
      replace U := U.nx gW6
      replace U_0 := U.cell (j := 0) rfl
      replace U_1 := U.cell (j := 1) rfl
      replace U_2 := U.cell (j := 2) rfl
      replace U_z := U.lt
      replace hu := hu.nx gW6
      replace hw := hw.nx gW6
      replace N := N.trans gW6
      refine (Hdy.out _ _ _ _ B0 B1 B2 D0 D1 D2 b0 b1 b2 d0 d1 d2 _ hu hw).mono ?_
      rintro e w7 ⟨rfl, hn7⟩
      replace U := U.nx hn7
      replace U_0 := U.cell (j := 0) rfl
      replace U_1 := U.cell (j := 1) rfl
      replace U_2 := U.cell (j := 2) rfl
      replace U_z := U.lt
      replace Q := Q.nx hn7
      replace Q_0 := Q.cell (j := 0) rfl
      replace Q_1 := Q.cell (j := 1) rfl
      replace Q_2 := Q.cell (j := 2) rfl
      replace Q_z := Q.lt
      replace hu := hu.nx hn7
      replace hw := hw.nx hn7
      replace N := N.trans hn7
      go_wp2_with fail
      refine (Hdy.out _ _ _ _ B0 B1 B2 D0 D1 D2 b0 b1 b2 d0 d1 d2 _ hu hw).mono ?_
      rintro e w8 ⟨rfl, hn8⟩
      replace U := U.nx hn8
      replace U_0 := U.cell (j := 0) rfl
      replace U_1 := U.cell (j := 1) rfl
      replace U_2 := U.cell (j := 2) rfl
      replace U_z := U.lt
      replace N := N.trans hn8
      go_wp2
      go_ret
      exact RetV.bool rfl N
end Go.Proofs.Yticjoichmcegnaa
