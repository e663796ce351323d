/- FnTourBelow: the walk. Printed by gen_TL.py. -/
import Derived.Test.YtbceoigmcomlbaaJ46
namespace Go.Proofs.Ytbceoigmcomlbaa
open Go.RowKit
set_option linter.unusedVariables false
set_option linter.unusedSimpArgs false
theorem tourBelow_facts {xs : List Int} {v : Int} (h : TV xs ∧ v ∈ xs) : ∃ X r, xs[0]? = some r ∧ X[0]? = some v ∧ tBelow xs v = X ∧ turnB xs v = true ∧ tBelow xs r = xs ∧ turnB xs r = true ∧ decide (TV X) = true ∧ X.length ≤ 31 ∧ 1 ≤ X.length := by
  obtain ⟨hT, hv⟩ := h
  obtain ⟨r, hr⟩ : ∃ r, xs[0]? = some r := ⟨_, List.getElem?_eq_getElem hT.1.1⟩
  obtain ⟨b1, b2, b3⟩ := below_spec hT hv
  have hrm := List.mem_of_getElem? hr
  obtain ⟨c1, c2, c3⟩ := below_spec hT hrm
  exact ⟨belowL xs v, r, hr, b2, tBelow_yes hT hv, decide_eq_true ⟨hT, hv⟩, by rw [tBelow_yes hT hrm]; exact c3 hr, decide_eq_true ⟨hT, hrm⟩, decide_eq_true b1, b1.1.2.1, b1.1.1⟩
set_option maxRecDepth 100000 in
set_option maxHeartbeats 1000000 in
theorem fnTourBelow_walk (w : World) (A : Option Addr) (n c : Nat) (hnc : n ≤ c) (hb : BytesAt w w.heap.size A n) :
    Calls Try.prog 8 #[.slice A n c] w (RetV (.bool true) w) := by
  by_cases hbig : (n : Int) > 1048576
  · go_enter Try.func8, Try.ntmps8
    go_wp2
    go_ret
    exact RetV.bool rfl (by repeat (first | exact Nx.refl _ | assumption | apply Nx.alloc | apply Nx.drew | apply Nx.drewN | (refine Nx.setCell ?_ (by first | (simp; done) | (simp; omega) | omega) _) | refine Nx.trans ?_ (by assumption)))
  · go_enter Try.func8, Try.ntmps8
    go_wp2_with fail
    refine (drawTourBelow_c A n c _ hnc hb).mono ?_
    rintro e w1 ⟨B, d, xs, v, rfl, h1, h2, ho, N⟩
    have hx := ho.intsAt
    have hd := ho.cap
    clear ho hb
    by_cases hp : TV xs ∧ v ∈ xs
    · obtain ⟨X, r, h0, g0, e1, e2, e3, e4, e5, lX, l1X⟩ := tourBelow_facts hp
      have Hh0 := Lib.hid h0
      have Hg0 := Lib.hid g0
      have He1 := Lib.hid e1
      have He2 := Lib.hid e2
      have He3 := Lib.hid e3
      have He4 := Lib.hid e4
      have He5 := Lib.hid e5
      clear h0 g0 e1 e2 e3 e4 e5
      clear hp
      have hl0 : (0 : Int) < (xs.length : Int) := by omega
      have hl1 : (0 : Int) < (X.length : Int) := by omega
      go_wp2_with fail
      refine (iBelow_t B d _ _ He1.out He2.out rfl hd hx (by omega)).mono ?_
      rintro e w2 ⟨AX1, cX1, rfl, hoX1, hn⟩
      replace hx := hx.nx hn
      replace N := N.trans hn
      clear hn
      have X1 := hoX1.intsAt
      have capX1 := hoX1.cap
      clear hoX1
      go_wp2_with fail
      refine (sBelow_t B d _ _ He1.out He2.out rfl hd hx (by omega)).mono ?_
      rintro e w3 ⟨AX2, cX2, rfl, hoX2, hn⟩
      replace hx := hx.nx hn
      replace X1 := X1.nx hn
      replace N := N.trans hn
      clear hn
      have X2 := hoX2.intsAt
      have capX2 := hoX2.cap
      clear hoX2
      go_wp2_with fail
      refine (same_i _ _ _ _ _ X1 X2 (by omega)).mono ?_
      rintro e w4 ⟨rfl, hn⟩
      replace hx := hx.nx hn
      replace X1 := X1.nx hn
      replace X2 := X2.nx hn
      replace N := N.trans hn
      clear hn
      obtain ⟨bhx, offhx, rfl, hblhx, hchx⟩ := hx.rd Hh0.out
      simp only [Nat.add_zero] at hchx
      go_wp2_with fail
      refine (iBelow_t _ d _ _ He3.out He4.out rfl hd hx (by omega)).mono ?_
      rintro e w5 ⟨AX3, cX3, rfl, hoX3, hn⟩
      replace hx := hx.nx hn
      replace X1 := X1.nx hn
      replace X2 := X2.nx hn
      replace N := N.trans hn
      clear hn
      have X3 := hoX3.intsAt
      have capX3 := hoX3.cap
      clear hoX3
      go_wp2_with fail
      refine (iValid_t _ _ _ _ He5.out rfl capX1 X1 (by omega)).mono ?_
      rintro e w6 ⟨rfl, hn⟩
      replace hx := hx.nx hn
      replace X1 := X1.nx hn
      replace X2 := X2.nx hn
      replace X3 := X3.nx hn
      replace N := N.trans hn
      clear hn
      obtain ⟨bX1, offX1, rfl, hblX1, hcX1⟩ := X1.rd Hg0.out
      simp only [Nat.add_zero] at hcX1
      go_wp2_with fail
      refine (same_i _ _ _ _ _ X3 hx (by omega)).mono ?_
      rintro e w7 ⟨rfl, hn⟩
      replace hx := hx.nx hn
      replace X1 := X1.nx hn
      replace X2 := X2.nx hn
      replace X3 := X3.nx hn
      replace N := N.trans hn
      clear hn
      go_wp2
      go_ret
      exact RetV.bool (by first | rfl | simp) (by repeat (first | exact Nx.refl _ | assumption | apply Nx.alloc | apply Nx.drew | apply Nx.drewN | (refine Nx.setCell ?_ (by first | (simp; done) | (simp; omega) | omega) _) | refine Nx.trans ?_ (by assumption)))
    · have e1 := Lib.hid (tBelow_no hp)
      have e2 : Hid (turnB xs v = false) := Lib.hid (decide_eq_false hp)
      clear hp
      go_wp2_with fail
      refine (iBelow_t B d _ _ e1.out e2.out rfl hd hx (by omega)).mono ?_
      rintro e w2 ⟨AX1, cX1, rfl, hoX1, hn⟩
      replace hx := hx.nx hn
      replace N := N.trans hn
      clear hn
      have X1 := hoX1.intsAt
      have capX1 := hoX1.cap
      clear hoX1
      go_wp2_with fail
      refine (sBelow_t B d _ _ e1.out e2.out rfl hd hx (by omega)).mono ?_
      rintro e w3 ⟨AX2, cX2, rfl, hoX2, hn⟩
      replace hx := hx.nx hn
      replace X1 := X1.nx hn
      replace N := N.trans hn
      clear hn
      have X2 := hoX2.intsAt
      have capX2 := hoX2.cap
      clear hoX2
      go_wp2_with fail
      refine (same_i (xs := []) _ _ _ _ _ X1 X2 (by simp)).mono ?_
      rintro e w4 ⟨rfl, hn⟩
      replace hx := hx.nx hn
      replace X1 := X1.nx hn
      replace X2 := X2.nx hn
      replace N := N.trans hn
      clear hn
      go_wp2_with fail
      refine (same_i (xs := []) _ _ _ _ _ X1 X2 (by simp)).mono ?_
      rintro e w5 ⟨rfl, hn⟩
      replace hx := hx.nx hn
      replace X1 := X1.nx hn
      replace X2 := X2.nx hn
      replace N := N.trans hn
      clear hn
      go_wp2
      go_ret
      exact RetV.bool (by first | rfl | simp) (by repeat (first | exact Nx.refl _ | assumption | apply Nx.alloc | apply Nx.drew | apply Nx.drewN | (refine Nx.setCell ?_ (by first | (simp; done) | (simp; omega) | omega) _) | refine Nx.trans ?_ (by assumption)))
end Go.Proofs.Ytbceoigmcomlbaa
