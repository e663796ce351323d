/- FnTurnTour: the walk. Printed by gen_TL.py. -/
import Derived.Test.YtbceoigmcomlbaaJ46
namespace Go.Proofs.Ytbceoigmcomlbaa
open Go.RowKit
set_option linter.unusedVariables false
set_option linter.unusedSimpArgs false
theorem turnTour_facts {xs : List Int} {v : Int} (h : TV xs ∧ v ∈ xs) : ∃ T U r E, xs[0]? = some r ∧ T[0]? = some v ∧ U[0]? = some r ∧ tTurn xs v = T ∧ turnB xs v = true ∧ tEdges xs = E ∧ decide (TV xs) = true ∧ tEdges T = E ∧ decide (TV T) = true ∧ tTurn T r = U ∧ turnB T r = true ∧ tEdges U = E ∧ decide (TV U) = true ∧ T.length ≤ 31 ∧ 1 ≤ T.length ∧ U.length ≤ 31 ∧ 1 ≤ U.length ∧ E.length ≤ 30 := by
  obtain ⟨hT, hv⟩ := h
  obtain ⟨r, hr⟩ : ∃ r, xs[0]? = some r := ⟨_, List.getElem?_eq_getElem hT.1.1⟩
  obtain ⟨t1, t2, t3, t4⟩ := turn_spec hT hv
  have hrm := (t2 r).2 (List.mem_of_getElem? hr)
  obtain ⟨u1, u2, u3, u4⟩ := turn_spec t1 hrm
  exact ⟨turnL xs v, turnL (turnL xs v) r, r, eset (stepsL xs), hr, t3, u3, tTurn_yes hT hv, decide_eq_true ⟨hT, hv⟩, tEdges_yes hT, decide_eq_true hT, by rw [tEdges_yes t1, t4], decide_eq_true t1, tTurn_yes t1 hrm, decide_eq_true ⟨t1, hrm⟩, by rw [tEdges_yes u1, u4, t4], decide_eq_true u1, t1.1.2.1, t1.1.1, u1.1.2.1, u1.1.1, tv_len hT⟩
set_option maxRecDepth 100000 in
set_option maxHeartbeats 1000000 in
theorem fnTurnTour_walk (w : World) (A : Option Addr) (n c : Nat) (hnc : n ≤ c) (hb : BytesAt w w.heap.size A n) :
    Calls Try.prog 11 #[.slice A n c] w (RetV (.bool true) w) := by
  by_cases hbig : (n : Int) > 1048576
  · go_enter Try.func11, Try.ntmps11
    go_wp2
    go_ret
    exact RetV.bool rfl (by repeat (first | exact Nx.refl _ | assumption | apply Nx.alloc | apply Nx.drew | apply Nx.drewN | (refine Nx.setCell ?_ (by first | (simp; done) | (simp; omega) | omega) _) | refine Nx.trans ?_ (by assumption)))
  · go_enter Try.func11, Try.ntmps11
    go_wp2_with fail
    refine (drawTurnTour_c A n c _ hnc hb).mono ?_
    rintro e w1 ⟨B, d, xs, v, rfl, h1, h2, ho, N⟩
    have hx := ho.intsAt
    have hd := ho.cap
    clear ho hb
    by_cases hp : TV xs ∧ v ∈ xs
    · obtain ⟨T, U, r, E, h0, g0, u0, e1, e2, e3, e4, e5, e6, e7, e8, e9, e10, lT, l1T, lU, l1U, lE⟩ := turnTour_facts hp
      have Hh0 := Lib.hid h0
      have Hg0 := Lib.hid g0
      have Hu0 := Lib.hid u0
      have He1 := Lib.hid e1
      have He2 := Lib.hid e2
      have He3 := Lib.hid e3
      have He4 := Lib.hid e4
      have He5 := Lib.hid e5
      have He6 := Lib.hid e6
      have He7 := Lib.hid e7
      have He8 := Lib.hid e8
      have He9 := Lib.hid e9
      have He10 := Lib.hid e10
      clear h0 g0 u0 e1 e2 e3 e4 e5 e6 e7 e8 e9 e10
      clear hp
      have hl0 : (0 : Int) < (xs.length : Int) := by omega
      have hnl0 : 0 < xs.length := by omega
      have hl1 : (0 : Int) < (T.length : Int) := by omega
      have hnl1 : 0 < T.length := by omega
      have hl2 : (0 : Int) < (U.length : Int) := by omega
      have hnl2 : 0 < U.length := by omega
      go_wp2_with fail
      refine (iTurn_t B d _ _ He1.out He2.out rfl hd hx (by omega)).mono ?_
      rintro e w2 ⟨AX1, cX1, rfl, hoX1, hn⟩
      replace hx := hx.nx hn
      replace N := N.trans hn
      clear hn
      have X1 := hoX1.intsAt
      have capX1 := hoX1.cap
      clear hoX1
      go_wp2_with fail
      refine (sTurn_t B d _ _ He1.out He2.out rfl hd hx (by omega)).mono ?_
      rintro e w3 ⟨AX2, cX2, rfl, hoX2, hn⟩
      replace hx := hx.nx hn
      replace X1 := X1.nx hn
      replace N := N.trans hn
      clear hn
      have X2 := hoX2.intsAt
      have capX2 := hoX2.cap
      clear hoX2
      go_wp2_with fail
      refine (same_i _ _ _ _ _ X1 X2 (by omega)).mono ?_
      rintro e w4 ⟨rfl, hn⟩
      replace hx := hx.nx hn
      replace X1 := X1.nx hn
      replace X2 := X2.nx hn
      replace N := N.trans hn
      clear hn
      go_wp2_with fail
      refine (iEdges_t _ _ _ _ He3.out He4.out rfl hd hx (by omega)).mono ?_
      rintro e w5 ⟨AE1, cE1, rfl, hoE1, hn⟩
      replace hx := hx.nx hn
      replace X1 := X1.nx hn
      replace X2 := X2.nx hn
      replace N := N.trans hn
      clear hn
      have E1 := hoE1.edgesAt
      have capE1 := hoE1.cap
      clear hoE1
      go_wp2_with fail
      refine (iEdges_t _ _ _ _ He5.out He6.out rfl capX1 X1 (by omega)).mono ?_
      rintro e w6 ⟨AE2, cE2, rfl, hoE2, hn⟩
      replace hx := hx.nx hn
      replace X1 := X1.nx hn
      replace X2 := X2.nx hn
      replace E1 := E1.nx hn
      replace N := N.trans hn
      clear hn
      have E2 := hoE2.edgesAt
      have capE2 := hoE2.cap
      clear hoE2
      obtain ⟨bhx, offhx, rfl, hblhx, hchx⟩ := hx.rd Hh0.out
      simp only [Nat.add_zero] at hchx
      go_wp2_with fail
      refine (iTurn_t _ _ _ _ He7.out He8.out rfl capX1 X1 (by omega)).mono ?_
      rintro e w7 ⟨AX3, cX3, rfl, hoX3, hn⟩
      replace hx := hx.nx hn
      replace X1 := X1.nx hn
      replace X2 := X2.nx hn
      replace E1 := E1.nx hn
      replace E2 := E2.nx hn
      replace N := N.trans hn
      clear hn
      have X3 := hoX3.intsAt
      have capX3 := hoX3.cap
      clear hoX3
      go_wp2_with fail
      refine (iEdges_t _ _ _ _ He9.out He10.out rfl capX3 X3 (by omega)).mono ?_
      rintro e w8 ⟨AE3, cE3, rfl, hoE3, hn⟩
      replace hx := hx.nx hn
      replace X1 := X1.nx hn
      replace X2 := X2.nx hn
      replace E1 := E1.nx hn
      replace E2 := E2.nx hn
      replace X3 := X3.nx hn
      replace N := N.trans hn
      clear hn
      have E3 := hoE3.edgesAt
      have capE3 := hoE3.cap
      clear hoE3
      obtain ⟨bX1, offX1, rfl, hblX1, hcX1⟩ := X1.rd Hg0.out
      simp only [Nat.add_zero] at hcX1
      obtain ⟨bX3, offX3, rfl, hblX3, hcX3⟩ := X3.rd Hu0.out
      simp only [Nat.add_zero] at hcX3
      obtain ⟨bq, offq, hq1, hblq, hcq⟩ := hx.rd Hh0.out
      injection hq1 with hq1
      injection hq1 with hqb hqo
      subst hqb hqo
      simp only [Nat.add_zero] at hcq
      have Hy0 : Hid (∀ q, Nx w8 q → Calls Try.prog 13 #[.slice (some ⟨bX1, offX1, none⟩) T.length cX1] q (RetV (.bool true) q)) := Lib.hid (fun q hq => iValid_t (some ⟨bX1, offX1, none⟩) cX1 T.length q He6.out rfl capX1 (X1.nx hq) (by omega))
      have Hy1 : Hid (∀ q, Nx w8 q → Calls Try.prog 22 #[.slice AE1 E.length cE1, .slice AE2 E.length cE2] q (RetV (.bool true) q)) := Lib.hid (fun q hq => same_e AE1 AE2 cE1 cE2 q (E1.nx hq) (E2.nx hq) (by omega))
      have Hy2 : Hid (∀ q, Nx w8 q → Calls Try.prog 22 #[.slice AE3 E.length cE3, .slice AE1 E.length cE1] q (RetV (.bool true) q)) := Lib.hid (fun q hq => same_e AE3 AE1 cE3 cE1 q (E3.nx hq) (E1.nx hq) (by omega))
      clear E1 E2 E3 X1 X3 hx capX1 X2 capX2 capX3 capE1 capE2 capE3 hd lE lT lU l1T l1U h1 h2 hnc hbig
      go_wp2_with fail
      have kp : ∀ w', Nx w8 w' → (fun w_ => Nx w8 w_ ∧ w_.cell? ⟨bX1, offX1, none⟩ = some (V v) ∧ w_.cell? ⟨bX3, offX3, none⟩ = some (V r) ∧ w_.cell? ⟨bhx, offhx, none⟩ = some (V r)) w' := fun w' h => ⟨h, h.cell (p := ⟨bX1, offX1, none⟩) hblX1 hcX1, h.cell (p := ⟨bX3, offX3, none⟩) hblX3 hcX3, h.cell (p := ⟨bhx, offhx, none⟩) hblq hcq⟩
      first | (go_region_held3 (fun w_ => Nx w8 w_ ∧ w_.cell? ⟨bX1, offX1, none⟩ = some (V v) ∧ w_.cell? ⟨bX3, offX3, none⟩ = some (V r) ∧ w_.cell? ⟨bhx, offhx, none⟩ = some (V r))
        (exact kp _ (by (repeat (first | exact Nx.refl _ | assumption | apply Nx.alloc | apply Nx.drew | apply Nx.drewN | (refine Nx.setCell ?_ (by first | (simp; done) | (simp; omega) | omega) _) | refine Nx.trans ?_ (by assumption))); done))
        (first | (go_at_call 13; (with_reducible refine (Hy0.out _ (by (repeat (first | exact Nx.refl _ | assumption | apply Nx.alloc | apply Nx.drew | apply Nx.drewN | (refine Nx.setCell ?_ (by first | (simp; done) | (simp; omega) | omega) _) | refine Nx.trans ?_ (by assumption))); done)).mono ?_); rintro e w9 ⟨rfl, hn9⟩; have hs9 : w8.heap.size ≤ w9.heap.size := Nx.size (by exact (by (repeat (first | exact Nx.refl _ | assumption | apply Nx.alloc | apply Nx.drew | apply Nx.drewN | (refine Nx.setCell ?_ (by first | (simp; done) | (simp; omega) | omega) _) | refine Nx.trans ?_ (by assumption))); done))) | (go_at_call 22; (with_reducible refine (Hy1.out _ (by (repeat (first | exact Nx.refl _ | assumption | apply Nx.alloc | apply Nx.drew | apply Nx.drewN | (refine Nx.setCell ?_ (by first | (simp; done) | (simp; omega) | omega) _) | refine Nx.trans ?_ (by assumption))); done)).mono ?_); rintro e w10 ⟨rfl, hn10⟩; have hs10 : w8.heap.size ≤ w10.heap.size := Nx.size (by exact (by (repeat (first | exact Nx.refl _ | assumption | apply Nx.alloc | apply Nx.drew | apply Nx.drewN | (refine Nx.setCell ?_ (by first | (simp; done) | (simp; omega) | omega) _) | refine Nx.trans ?_ (by assumption))); done))) | (go_at_call 22; (with_reducible refine (Hy2.out _ (by (repeat (first | exact Nx.refl _ | assumption | apply Nx.alloc | apply Nx.drew | apply Nx.drewN | (refine Nx.setCell ?_ (by first | (simp; done) | (simp; omega) | omega) _) | refine Nx.trans ?_ (by assumption))); done)).mono ?_); rintro e w11 ⟨rfl, hn11⟩; have hs11 : w8.heap.size ≤ w11.heap.size := Nx.size (by exact (by (repeat (first | exact Nx.refl _ | assumption | apply Nx.alloc | apply Nx.drew | apply Nx.drewN | (refine Nx.setCell ?_ (by first | (simp; done) | (simp; omega) | omega) _) | refine Nx.trans ?_ (by assumption))); done))))) | fail
      all_goals go_wp2
      all_goals go_ret
      all_goals exact RetV.bool (by first | rfl | simp) (N.trans (by (repeat (first | exact Nx.refl _ | assumption | apply Nx.alloc | apply Nx.drew | apply Nx.drewN | (refine Nx.setCell ?_ (by first | (simp; done) | (simp; omega) | omega) _) | refine Nx.trans ?_ (by assumption))); done))
    · have e1 := Lib.hid (tTurn_no hp)
      have e2 : Hid (turnB xs v = false) := Lib.hid (decide_eq_false hp)
      clear hp
      go_wp2_with fail
      refine (iTurn_t B d _ _ e1.out e2.out rfl hd hx (by omega)).mono ?_
      rintro e w2 ⟨AX1, cX1, rfl, hoX1, hn⟩
      replace hx := hx.nx hn
      replace N := N.trans hn
      clear hn
      have X1 := hoX1.intsAt
      have capX1 := hoX1.cap
      clear hoX1
      go_wp2_with fail
      refine (sTurn_t B d _ _ e1.out e2.out rfl hd hx (by omega)).mono ?_
      rintro e w3 ⟨AX2, cX2, rfl, hoX2, hn⟩
      replace hx := hx.nx hn
      replace X1 := X1.nx hn
      replace N := N.trans hn
      clear hn
      have X2 := hoX2.intsAt
      have capX2 := hoX2.cap
      clear hoX2
      go_wp2_with fail
      refine (same_i (xs := []) _ _ _ _ _ X1 X2 (by simp)).mono ?_
      rintro e w4 ⟨rfl, hn⟩
      replace hx := hx.nx hn
      replace X1 := X1.nx hn
      replace X2 := X2.nx hn
      replace N := N.trans hn
      clear hn
      go_wp2_with fail
      refine (same_i (xs := []) _ _ _ _ _ X1 X2 (by simp)).mono ?_
      rintro e w5 ⟨rfl, hn⟩
      replace hx := hx.nx hn
      replace X1 := X1.nx hn
      replace X2 := X2.nx hn
      replace N := N.trans hn
      clear hn
      go_wp2
      go_ret
      exact RetV.bool (by first | rfl | simp) (by repeat (first | exact Nx.refl _ | assumption | apply Nx.alloc | apply Nx.drew | apply Nx.drewN | (refine Nx.setCell ?_ (by first | (simp; done) | (simp; omega) | omega) _) | refine Nx.trans ?_ (by assumption)))
end Go.Proofs.Ytbceoigmcomlbaa
