/- FnSetsShallow: the walk. -/
import Derived.Test.YticjoichmcegnaaTK
import Derived.Test.YticjoichmcegnaaTG
namespace Go.Proofs.Yticjoichmcegnaa
open Go.RowKit set_option linter.unusedVariables false set_option linter.unusedSimpArgs false

set_option maxRecDepth 100000 in
set_option maxHeartbeats 8000000 in
theorem fnSetsShallow_walk (w : World) (A : Option Addr) (m c : Nat) (hmc : m ≤ c) (hb : BytesAt w w.heap.size A m) :
    Calls Try.prog 4 #[.slice A m c] w (RetV (.bool true) w) := by
  by_cases hbig : (m : Int) > 1048576
  · go_enter Try.func4, Try.ntmps4
    go_wp2
    go_ret
    exact RetV.bool rfl (by repeat (first | exact Nx.refl _ | assumption | apply Nx.alloc | apply Nx.drew | apply Nx.drewN | (refine Nx.setCell ?_ (by first | (simp; done) | (simp; omega) | omega) _) | refine Nx.trans ?_ (by assumption)))
  · go_enter Try.func4, Try.ntmps4
    go_wp2_with fail
    refine (drawSetsValid_c A m c _ hmc hb).mono ?_
    rintro e w1 ⟨⟨P, Z, T⟩, n, hP, hZ, n1, n16, hT, A0, c0, A1, c1, A2, c2, rfl, oA, oB, oC, _, _, _, N⟩
    simp only at hP hZ hT oA oB oC
    have hA := oA.intsAt
    have hB := oB.intsAt
    have hC := oC.edgesAt
    simp only [hP, hZ]
    obtain ⟨l, hl⟩ : ∃ l, T.length = l := ⟨_, rfl⟩
    simp only [hl] at hT ⊢
    have Hiv := Lib.hid (fun w' a b c => iSetsValid_c A0 A1 A2 c0 c1 c2 n n l P Z T w' a b c hP hZ hl (by omega) (by omega) (by omega))
    have Hsv := Lib.hid (fun w' a b c => sSetsValid_c A0 A1 A2 c0 c1 c2 n n l P Z T w' a b c hP hZ hl (by omega) (by omega) (by omega))
    have HA := Lib.hid hA
    have HB := Lib.hid hB
    have HC := Lib.hid hC
    clear oA oB oC hb hA hB hC
    by_cases hv : SV P Z T
    · have hinv := hv.inv
      rw [hP] at hinv
      rw [decide_eq_true hv] at Hiv Hsv
      have Hone := Lib.hid (show ∀ x : Int, 0 ≤ x → x < n → 1 ≤ lk Z x from hinv.one)
      have Htop := Lib.hid (show ∀ x : Int, 0 ≤ x → x < n → lk Z x ≤ n from hinv.top)
      have Hpar := Lib.hid (show ∀ x : Int, 0 ≤ x → x < n → lk P x = -1 ∨ (0 ≤ lk P x ∧ lk P x < n ∧ 2 * lk Z x ≤ lk Z (lk P x)) from hinv.par)
      have HP := Lib.hid hP
      have HZ := Lib.hid hZ
      clear hv hinv hP hZ hl hT
      go_wp2_with fail
      generalize hW2 : World.alloc _ _ = W2
      have gW2 : Nx w1 W2 := by subst hW2; exact (by repeat (first | exact Nx.refl _ | assumption | apply Nx.alloc | apply Nx.drew | apply Nx.drewN | (refine Nx.setCell ?_ (by first | (simp; done) | (simp; omega) | omega) _) | refine Nx.trans ?_ (by assumption)))
      have sW2 : W2.heap.size = w1.heap.size + 1 := by subst hW2; simp
      have G : Bx W2 (w1.heap.size) 37 [.slice A0 n c0, .slice A1 n c1, .slice A2 l c2] := by subst hW2; have h := Bx.alloc w1 37 [.slice A0 n c0, .slice A1 n c1, .slice A2 l c2]; simpa using h
      have G_0 := G.cell (j := 0) rfl
      have G_1 := G.cell (j := 1) rfl
      have G_2 := G.cell (j := 2) rfl
      have G_z := G.lt
      have HsW2 := Lib.hid sW2
      have lW2 : w1.heap.size + 1 ≤ W2.heap.size := by omega
      clear hW2 sW2
      replace N := N.trans gW2
      have K : Nx w1 W2 := gW2
      refine (Hiv.out _ (HA.out.nx K) (HB.out.nx K) (HC.out.nx K)).mono ?_
      rintro e w3 ⟨rfl, hn3⟩
      replace G := G.nx hn3
      replace G_0 := G.cell (j := 0) rfl
      replace G_1 := G.cell (j := 1) rfl
      replace G_2 := G.cell (j := 2) rfl
      replace G_z := G.lt
      replace N := N.trans hn3
      replace K := K.trans hn3
      go_wp2_with fail
      refine (Hsv.out _ (HA.out.nx K) (HB.out.nx K) (HC.out.nx K)).mono ?_
      rintro e w4 ⟨rfl, hn4⟩
      replace G := G.nx hn4
      replace G_0 := G.cell (j := 0) rfl
      replace G_1 := G.cell (j := 1) rfl
      replace G_2 := G.cell (j := 2) rfl
      replace G_z := G.lt
      replace N := N.trans hn4
      replace K := K.trans hn4
      go_wp2_with fail
      go_loopg [5, 6, 7] n (fun gk i _ _ wr => ∃ k : Nat, k + gk = n ∧ i = .int .i64 k ∧ Nx w4 wr)
      case atStart => exact ⟨0, by omega, rfl, Nx.refl _⟩
      case round =>
        obtain ⟨k, hk, rfl, hn5⟩ := hrel
        replace G := G.nx hn5
        replace G_0 := G.cell (j := 0) rfl
        replace G_1 := G.cell (j := 1) rfl
        replace G_2 := G.cell (j := 2) rfl
        replace G_z := G.lt
        obtain ⟨gko, rfl⟩ : ∃ g : Nat, g = gk := ⟨_, rfl⟩
        obtain ⟨wo, rfl⟩ : ∃ x : World, x = wr := ⟨_, rfl⟩
        replace N := N.trans hn5
        replace K := K.trans hn5
        by_cases hlt : k < n
        · go_wp2_with fail
          go_loopg [6, 7] 17 (fun gk d a wr => ∃ (y dd : Nat), d = .int .i64 dd ∧ a = V y ∧ y < n ∧ Hid (((2 ^ dd : Nat) : Int) ≤ lk Z y) ∧ dd ≤ 4 ∧ (17 - lk Z y).toNat ≤ gk ∧ Nx wo wr)
          case atStart => exact ⟨k, 0, rfl, rfl, hlt, Lib.hid (by have := Hone.out k (by omega) (by omega); simpa using this), by omega, by have := Hone.out k (by omega) (by omega); omega, Nx.refl _⟩
          case round =>
            obtain ⟨y, dd, rfl, rfl, hy, hd, hd4, hm, hn6⟩ := hrel
            replace G := G.nx hn6
            replace G_0 := G.cell (j := 0) rfl
            replace G_1 := G.cell (j := 1) rfl
            replace G_2 := G.cell (j := 2) rfl
            replace G_z := G.lt
            have K6 := K.trans hn6
            obtain ⟨b1, o1, rfl, hb1, r1⟩ := (HA.out.nx K6).atLk (x := y) (by rw [HP.out]; omega)
            have hone := Hone.out y (by omega) (by omega)
            have htop := Htop.out y (by omega) (by omega)
            have hpar := Hpar.out y (by omega) (by omega)
            obtain ⟨p, hp⟩ : ∃ p, lk P (y : Int) = p := ⟨_, rfl⟩
            rw [hp] at r1 hpar
            clear hp
            by_cases hr : p = -1
            · subst hr
              clear hpar
              have d4 : decide (4 < (dd : Int)) = false := by simp; omega
              go_wp2
              go_roundg (gko - 1)
              case measure => omega
              case rel => exact ⟨k + 1, by omega, by go_num, hn5.trans hn6⟩
            · obtain ⟨p0, p1, p2⟩ : 0 ≤ p ∧ p < n ∧ 2 * lk Z y ≤ lk Z p := by rcases hpar with h | h; exact absurd h hr; exact h
              obtain ⟨p, rfl⟩ := Int.eq_ofNat_of_zero_le p0
              have htop2 := Htop.out p (by omega) (by omega)
              have hdd : dd ≠ 4 := by
                rintro rfl
                have h4 := hd.out
                have h5 : ((2 ^ 4 : Nat) : Int) = 16 := by rfl
                omega
              obtain ⟨b2, o2, rfl, hb2, r2⟩ := (HB.out.nx K6).atLk (x := p) (by rw [HZ.out]; omega)
              obtain ⟨b3, o3, hB3, _, r3⟩ := (HB.out.nx K6).atLk (x := y) (by rw [HZ.out]; omega)
              injection hB3 with hB3
              injection hB3 with hB4 hB5
              subst hB4 hB5
              obtain ⟨zy, hzy⟩ : ∃ z, lk Z (y : Int) = z := ⟨_, rfl⟩
              obtain ⟨zp, hzp⟩ : ∃ z, lk Z (p : Int) = z := ⟨_, rfl⟩
              have Hnew := Lib.hid (show ((2 ^ (dd + 1) : Nat) : Int) ≤ lk Z (p : Int) by have := hd.out; rw [Nat.pow_succ]; omega)
              have Hm := Lib.hid (show (17 - lk Z (p : Int)).toNat + 1 ≤ gk by omega)
              rw [hzy] at r3 hone htop p2
              rw [hzp] at r2 p2 htop2
              have hmul : IntKind.i64.wrap (2 * zy) = 2 * zy := IntWalk.i64_in _ (by omega)
              have dz : decide (zp < 2 * zy) = false := by simp; omega
              clear hzy hzp hpar hm hd
              go_wp2_with fail
              go_quiet (fail)
              go_wp2
              go_roundg (gk - 1)
              case measure => have := Hm.out; omega
              case rel => exact ⟨p, dd + 1, by go_num, rfl, by omega, Hnew.out, by omega, by have := Hm.out; omega, hn6.drewN _⟩
        · go_wp2
          go_ret
          exact RetV.bool rfl N
    · rw [sv_no hv] at Hiv Hsv
      clear hv hP hZ hl hT
      go_wp2_with fail
      generalize hW2 : World.alloc _ _ = W2
      have gW2 : Nx w1 W2 := by subst hW2; exact (by repeat (first | exact Nx.refl _ | assumption | apply Nx.alloc | apply Nx.drew | apply Nx.drewN | (refine Nx.setCell ?_ (by first | (simp; done) | (simp; omega) | omega) _) | refine Nx.trans ?_ (by assumption)))
      have sW2 : W2.heap.size = w1.heap.size + 1 := by subst hW2; simp
      have G : Bx W2 (w1.heap.size) 37 [.slice A0 n c0, .slice A1 n c1, .slice A2 l c2] := by subst hW2; have h := Bx.alloc w1 37 [.slice A0 n c0, .slice A1 n c1, .slice A2 l c2]; simpa using h
      have G_0 := G.cell (j := 0) rfl
      have G_1 := G.cell (j := 1) rfl
      have G_2 := G.cell (j := 2) rfl
      have G_z := G.lt
      have HsW2 := Lib.hid sW2
      have lW2 : w1.heap.size + 1 ≤ W2.heap.size := by omega
      clear hW2 sW2
      replace N := N.trans gW2
      have K : Nx w1 W2 := gW2
      refine (Hiv.out _ (HA.out.nx K) (HB.out.nx K) (HC.out.nx K)).mono ?_
      rintro e w3 ⟨rfl, hn3⟩
      replace G := G.nx hn3
      replace G_0 := G.cell (j := 0) rfl
      replace G_1 := G.cell (j := 1) rfl
      replace G_2 := G.cell (j := 2) rfl
      replace G_z := G.lt
      replace N := N.trans hn3
      replace K := K.trans hn3
      go_wp2_with fail
      refine (Hsv.out _ (HA.out.nx K) (HB.out.nx K) (HC.out.nx K)).mono ?_
      rintro e w4 ⟨rfl, hn4⟩
      replace G := G.nx hn4
      replace G_0 := G.cell (j := 0) rfl
      replace G_1 := G.cell (j := 1) rfl
      replace G_2 := G.cell (j := 2) rfl
      replace G_z := G.lt
      replace N := N.trans hn4
      replace K := K.trans hn4
      go_wp2_with fail
      refine (Hsv.out _ (HA.out.nx K) (HB.out.nx K) (HC.out.nx K)).mono ?_
      rintro e w5 ⟨rfl, hn5⟩
      replace N := N.trans hn5
      go_wp2
      go_ret
      exact RetV.bool rfl N
end Go.Proofs.Yticjoichmcegnaa
