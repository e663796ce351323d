/- FnLinkRoots: the walk. Printed by gen_TL.py. -/
import Derived.Test.YtbceoigmcomlbaaJAL
namespace Go.Proofs.Ytbceoigmcomlbaa
open Go.RowKit
set_option linter.unusedVariables false
set_option linter.unusedSimpArgs false
set_option maxRecDepth 100000 in
set_option maxHeartbeats 1000000 in
theorem fnLinkRoots_walk (w : World) (A : Option Addr) (n c : Nat) (hnc : n ≤ c) (hb : BytesAt w w.heap.size A n) :
    Calls Try.prog 6 #[.slice A n c] w (RetV (.bool true) w) := by
  by_cases hbig : (n : Int) > 1048576
  · go_enter Try.func6, Try.ntmps6
    go_wp2
    go_ret
    exact RetV.bool rfl (by repeat (first | exact Nx.refl _ | assumption | apply Nx.alloc | apply Nx.drew | apply Nx.drewN | (refine Nx.setCell ?_ (by first | (simp; done) | (simp; omega) | omega) _) | refine Nx.trans ?_ (by assumption)))
  · go_enter Try.func6, Try.ntmps6
    go_wp2_with fail
    refine (drawLinkTours_c A n c _ hnc hb).mono ?_
    rintro e w1 ⟨A1, d1, xs, A2, d2, ys, x, y, rfl, h1, h2, ho1, ho2, N⟩
    have hx := ho1.intsAt
    have hd1 := ho1.cap
    have hy := ho2.intsAt
    have hd2 := ho2.cap
    clear ho1 ho2 hb
    by_cases hp : linkOk xs ys x y
    · obtain ⟨L, T, D, r, h0, g0, e1, e2, e3, e4, e5, e6, e7, e8, lL, lT, lD, l1L, l1x⟩ := linkRoots_facts hp
      have Hh0 := Lib.hid h0
      have Hg0 := Lib.hid g0
      have He1 := Lib.hid e1
      have He2 := Lib.hid e2
      have He3 := Lib.hid e3
      have He4 := Lib.hid e4
      have He5 := Lib.hid e5
      have He6 := Lib.hid e6
      have He7 := Lib.hid e7
      have He8 := Lib.hid e8
      have HlD := Lib.hid lD
      clear h0 g0 e1 e2 e3 e4 e5 e6 e7 e8 lD
      clear hp
      have hl0 : (0 : Int) < (xs.length : Int) := by omega
      have hnl0 : 0 < xs.length := by omega
      have hl1 : (0 : Int) < (L.length : Int) := by omega
      have hnl1 : 0 < L.length := by omega
      go_wp2_with fail
      refine (iLink_t A1 A2 d1 d2 _ _ _ He1.out He2.out rfl rfl hd1 hd2 hx hy (by omega) (by omega)).mono ?_
      rintro e w2 ⟨AX1, cX1, rfl, hoX1, hn⟩
      replace hx := hx.nx hn
      replace hy := hy.nx hn
      replace N := N.trans hn
      clear hn
      have X1 := hoX1.intsAt
      have capX1 := hoX1.cap
      clear hoX1
      go_wp2_with fail
      refine (sLink_t A1 A2 d1 d2 _ _ _ He1.out He2.out rfl rfl hd1 hd2 hx hy (by omega) (by omega)).mono ?_
      rintro e w3 ⟨AX2, cX2, rfl, hoX2, hn⟩
      replace hx := hx.nx hn
      replace hy := hy.nx hn
      replace X1 := X1.nx hn
      replace N := N.trans hn
      clear hn
      have X2 := hoX2.intsAt
      have capX2 := hoX2.cap
      clear hoX2
      go_wp2_with fail
      refine (same_i _ _ _ _ _ X1 X2 (by omega)).mono ?_
      rintro e w4 ⟨rfl, hn⟩
      replace hx := hx.nx hn
      replace hy := hy.nx hn
      replace X1 := X1.nx hn
      replace X2 := X2.nx hn
      replace N := N.trans hn
      clear hn
      go_wp2_with fail
      refine (iBelow_t _ _ _ _ He3.out He4.out rfl capX1 X1 (by omega)).mono ?_
      rintro e w5 ⟨AX3, cX3, rfl, hoX3, hn⟩
      replace hx := hx.nx hn
      replace hy := hy.nx hn
      replace X1 := X1.nx hn
      replace X2 := X2.nx hn
      replace N := N.trans hn
      clear hn
      have X3 := hoX3.intsAt
      have capX3 := hoX3.cap
      clear hoX3
      go_wp2_with fail
      refine (iTurn_t A2 d2 _ _ He5.out He6.out rfl hd2 hy (by omega)).mono ?_
      rintro e w6 ⟨AX4, cX4, rfl, hoX4, hn⟩
      replace hx := hx.nx hn
      replace hy := hy.nx hn
      replace X1 := X1.nx hn
      replace X2 := X2.nx hn
      replace X3 := X3.nx hn
      replace N := N.trans hn
      clear hn
      have X4 := hoX4.intsAt
      have capX4 := hoX4.cap
      clear hoX4
      go_wp2_with fail
      refine (iDepths_t _ _ _ _ He7.out He8.out rfl capX1 X1 (by omega)).mono ?_
      rintro e w7 ⟨AX5, cX5, rfl, hoX5, hn⟩
      replace hx := hx.nx hn
      replace hy := hy.nx hn
      replace X1 := X1.nx hn
      replace X2 := X2.nx hn
      replace X3 := X3.nx hn
      replace X4 := X4.nx hn
      replace N := N.trans hn
      clear hn
      have X5 := hoX5.intsAt
      have capX5 := hoX5.cap
      clear hoX5
      obtain ⟨bhx, offhx, rfl, hblhx, hchx⟩ := hx.rd Hh0.out
      simp only [Nat.add_zero] at hchx
      obtain ⟨bX1, offX1, rfl, hblX1, hcX1⟩ := X1.rd Hg0.out
      simp only [Nat.add_zero] at hcX1
      have hl : (D.length : Int) = (L.length : Int) := by rw [HlD.out]
      have Hy0 : Hid (∀ q, Nx w7 q → Calls Try.prog 19 #[.slice AX3 T.length cX3, .slice AX4 T.length cX4] q (RetV (.bool true) q)) := Lib.hid (fun q hq => same_i AX3 AX4 cX3 cX4 q (X3.nx hq) (X4.nx hq) (by omega))
      clear X3 X4 X5 X2 hy X1 hx
      go_wp2_with fail
      have kp : ∀ w', Nx w7 w' → (fun w_ => Nx w7 w_ ∧ w_.cell? ⟨bX1, offX1, none⟩ = some (V r) ∧ w_.cell? ⟨bhx, offhx, none⟩ = some (V r)) w' := fun w' h => ⟨h, h.cell (p := ⟨bX1, offX1, none⟩) hblX1 hcX1, h.cell (p := ⟨bhx, offhx, none⟩) hblhx hchx⟩
      first | (go_region_held3 (fun w_ => Nx w7 w_ ∧ w_.cell? ⟨bX1, offX1, none⟩ = some (V r) ∧ w_.cell? ⟨bhx, offhx, none⟩ = some (V r))
        (exact kp _ (by (repeat (first | exact Nx.refl _ | assumption | apply Nx.alloc | apply Nx.drew | apply Nx.drewN | (refine Nx.setCell ?_ (by first | (simp; done) | (simp; omega) | omega) _) | refine Nx.trans ?_ (by assumption))); done))
        (first | (go_at_call 19; (with_reducible refine (Hy0.out _ (by (repeat (first | exact Nx.refl _ | assumption | apply Nx.alloc | apply Nx.drew | apply Nx.drewN | (refine Nx.setCell ?_ (by first | (simp; done) | (simp; omega) | omega) _) | refine Nx.trans ?_ (by assumption))); done)).mono ?_); rintro e w8 ⟨rfl, hn8⟩; have hs8 : w7.heap.size ≤ w8.heap.size := Nx.size (by exact (by (repeat (first | exact Nx.refl _ | assumption | apply Nx.alloc | apply Nx.drew | apply Nx.drewN | (refine Nx.setCell ?_ (by first | (simp; done) | (simp; omega) | omega) _) | refine Nx.trans ?_ (by assumption))); done))))) | fail
      all_goals go_wp2
      all_goals go_ret
      all_goals exact RetV.bool (by first | rfl | simp | simp [hl]) (N.trans (by (repeat (first | exact Nx.refl _ | assumption | apply Nx.alloc | apply Nx.drew | apply Nx.drewN | (refine Nx.setCell ?_ (by first | (simp; done) | (simp; omega) | omega) _) | refine Nx.trans ?_ (by assumption))); done))
    · have e1 := Lib.hid (tLink_no hp)
      have e2 : Hid (decide (linkOk xs ys x y) = false) := Lib.hid (decide_eq_false hp)
      clear hp
      go_wp2_with fail
      refine (iLink_t A1 A2 d1 d2 _ _ _ e1.out e2.out rfl rfl hd1 hd2 hx hy (by omega) (by omega)).mono ?_
      rintro e w2 ⟨AX1, cX1, rfl, hoX1, hn⟩
      replace hx := hx.nx hn
      replace hy := hy.nx hn
      replace N := N.trans hn
      clear hn
      have X1 := hoX1.intsAt
      have capX1 := hoX1.cap
      clear hoX1
      go_wp2_with fail
      refine (sLink_t A1 A2 d1 d2 _ _ _ e1.out e2.out rfl rfl hd1 hd2 hx hy (by omega) (by omega)).mono ?_
      rintro e w3 ⟨AX2, cX2, rfl, hoX2, hn⟩
      replace hx := hx.nx hn
      replace hy := hy.nx hn
      replace X1 := X1.nx hn
      replace N := N.trans hn
      clear hn
      have X2 := hoX2.intsAt
      have capX2 := hoX2.cap
      clear hoX2
      go_wp2_with fail
      refine (same_i (xs := []) _ _ _ _ _ X1 X2 (by simp)).mono ?_
      rintro e w4 ⟨rfl, hn⟩
      replace hx := hx.nx hn
      replace hy := hy.nx hn
      replace X1 := X1.nx hn
      replace X2 := X2.nx hn
      replace N := N.trans hn
      clear hn
      go_wp2_with fail
      refine (same_i (xs := []) _ _ _ _ _ X1 X2 (by simp)).mono ?_
      rintro e w5 ⟨rfl, hn⟩
      replace hx := hx.nx hn
      replace hy := hy.nx hn
      replace X1 := X1.nx hn
      replace X2 := X2.nx hn
      replace N := N.trans hn
      clear hn
      go_wp2
      go_ret
      exact RetV.bool (by first | rfl | simp) (by repeat (first | exact Nx.refl _ | assumption | apply Nx.alloc | apply Nx.drew | apply Nx.drewN | (refine Nx.setCell ?_ (by first | (simp; done) | (simp; omega) | omega) _) | refine Nx.trans ?_ (by assumption)))
end Go.Proofs.Ytbceoigmcomlbaa
