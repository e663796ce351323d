/- FnLinkTours: the walk. Printed by gen_TL.py. -/
import Derived.Test.YtbceoigmcomlbaaJAL
namespace Go.Proofs.Ytbceoigmcomlbaa
open Go.RowKit
set_option linter.unusedVariables false
set_option linter.unusedSimpArgs false
theorem wrap2 {a b c : Nat} (ha : a ≤ 62) (hb : b ≤ 62) (h : c = a + b + 1) : (c : Int) = IntKind.i64.wrap (IntKind.i64.wrap ((a : Int) + (b : Int)) + 1) := by
  have e : IntKind.i64.wrap ((a : Int) + (b : Int)) = (a : Int) + (b : Int) := by rw [IntKind.wrap_i64]; omega
  rw [e, IntKind.wrap_i64]; omega
theorem eofV_link {A B : List Int} {x y u v : Int} (h : linkOk A B x y) (he : eOf x y = (u, v)) : eofV x y = .tuple #[Ed u v, .bool true] := by
  have hx := h.1.2.1 x h.2.2.1
  have hy := h.2.1.2.1 y h.2.2.2.1
  have hne : x ≠ y := fun e => h.2.2.2.2 y h.2.2.2.1 (e ▸ h.2.2.1)
  unfold eOf at he
  injection he with h1 h2
  rw [eof_yes (by unfold okE; omega), h1, h2]
set_option maxRecDepth 100000 in
set_option maxHeartbeats 1000000 in
theorem fnLinkTours_walk (w : World) (A : Option Addr) (n c : Nat) (hnc : n ≤ c) (hb : BytesAt w w.heap.size A n) :
    Calls Try.prog 5 #[.slice A n c] w (RetV (.bool true) w) := by
  by_cases hbig : (n : Int) > 1048576
  · go_enter Try.func5, Try.ntmps5
    go_wp2
    go_ret
    exact RetV.bool rfl (by repeat (first | exact Nx.refl _ | assumption | apply Nx.alloc | apply Nx.drew | apply Nx.drewN | (refine Nx.setCell ?_ (by first | (simp; done) | (simp; omega) | omega) _) | refine Nx.trans ?_ (by assumption)))
  · go_enter Try.func5, Try.ntmps5
    go_wp2_with fail
    refine (drawLinkTours_c A n c _ hnc hb).mono ?_
    rintro e w1 ⟨A1, d1, xs, A2, d2, ys, x, y, rfl, h1, h2, ho1, ho2, N⟩
    have hx := ho1.intsAt
    have hd1 := ho1.cap
    have hy := ho2.intsAt
    have hd2 := ho2.cap
    clear ho1 ho2 hb
    by_cases hp : linkOk xs ys x y
    · obtain ⟨L, T, u, v, e0, e1, e2, e3, e4, e5, e6, e7, e8, lL, lT, lS⟩ := linkTours_facts hp
      have hof : Hid (eofV x y = .tuple #[Ed u v, .bool true]) := Lib.hid (eofV_link hp e0)
      have He1 := Lib.hid e1
      have He2 := Lib.hid e2
      have He3 := Lib.hid e3
      have He4 := Lib.hid e4
      have He5 := Lib.hid e5
      have He6 := Lib.hid e6
      have He7 := Lib.hid e7
      have He8 := Lib.hid e8
      have HlS := Lib.hid lS
      clear e1 e2 e3 e4 e5 e6 e7 e8 lS
      clear hp e0
      go_wp2_with fail
      refine (iLink_t A1 A2 d1 d2 _ _ _ He1.out He2.out rfl rfl hd1 hd2 hx hy (by omega) (by omega)).mono ?_
      rintro e w2 ⟨AX1, cX1, rfl, hoX1, hn⟩
      replace hx := hx.nx hn
      replace hy := hy.nx hn
      replace N := N.trans hn
      clear hn
      have X1 := hoX1.intsAt
      have capX1 := hoX1.cap
      clear hoX1
      go_wp2_with fail
      refine (sLink_t A1 A2 d1 d2 _ _ _ He1.out He2.out rfl rfl hd1 hd2 hx hy (by omega) (by omega)).mono ?_
      rintro e w3 ⟨AX2, cX2, rfl, hoX2, hn⟩
      replace hx := hx.nx hn
      replace hy := hy.nx hn
      replace X1 := X1.nx hn
      replace N := N.trans hn
      clear hn
      have X2 := hoX2.intsAt
      have capX2 := hoX2.cap
      clear hoX2
      go_wp2_with fail
      refine (same_i _ _ _ _ _ X1 X2 (by omega)).mono ?_
      rintro e w4 ⟨rfl, hn⟩
      replace hx := hx.nx hn
      replace hy := hy.nx hn
      replace X1 := X1.nx hn
      replace X2 := X2.nx hn
      replace N := N.trans hn
      clear hn
      go_wp2_with fail
      refine (hof.out ▸ iEdgeOf_c x y _).mono ?_
      rintro e w5 ⟨rfl, hn⟩
      replace hx := hx.nx hn
      replace hy := hy.nx hn
      replace X1 := X1.nx hn
      replace X2 := X2.nx hn
      replace N := N.trans hn
      clear hn
      go_wp2_with fail
      generalize hW6 : World.alloc _ _ = W6
      have gW6 : Nx w5 W6 := by subst hW6; exact (by repeat (first | exact Nx.refl _ | assumption | apply Nx.alloc | apply Nx.drew | apply Nx.drewN | (refine Nx.setCell ?_ (by first | (simp; done) | (simp; omega) | omega) _) | refine Nx.trans ?_ (by assumption)))
      have sW6 : W6.heap.size = w5.heap.size + 1 := by subst hW6; simp
      have X0 : Bx W6 (w5.heap.size) 30 [V u, V v] := by subst hW6; have h := Bx.alloc w5 30 [V u, V v]; simpa using h
      have X0_0 := X0.cell (j := 0) rfl
      have X0_1 := X0.cell (j := 1) rfl
      have X0_z := X0.lt
      have HsW6 := Lib.hid sW6
      have lW6 : w5.heap.size + 1 ≤ W6.heap.size := by omega
      clear hW6 sW6
      have hn := gW6
      clear gW6
      replace hx := hx.nx hn
      replace hy := hy.nx hn
      replace X1 := X1.nx hn
      replace X2 := X2.nx hn
      replace N := N.trans hn
      clear hn
      have hw6 : ∃ v, v = W6 := ⟨_, rfl⟩
      obtain ⟨w6, hw6⟩ := hw6
      subst hw6
      go_wp2_with fail
      refine (iSplit_t _ _ _ _ He3.out He4.out He5.out rfl capX1 X1 (by omega)).mono ?_
      rintro e w7 ⟨AX3, cX3, AX4, cX4, rfl, hoX3, hoX4, _, _, hn⟩
      replace hx := hx.nx hn
      replace hy := hy.nx hn
      replace X1 := X1.nx hn
      replace X2 := X2.nx hn
      replace X0 := X0.nx hn
      replace X0_0 := X0.cell (j := 0) rfl
      replace X0_1 := X0.cell (j := 1) rfl
      replace X0_z := X0.lt
      replace N := N.trans hn
      clear hn
      have X3 := hoX3.intsAt
      have capX3 := hoX3.cap
      clear hoX3
      have X4 := hoX4.intsAt
      have capX4 := hoX4.cap
      clear hoX4
      go_wp2_with fail
      refine (iTurn_t A2 d2 _ _ He6.out He7.out rfl hd2 hy (by omega)).mono ?_
      rintro e w8 ⟨AX5, cX5, rfl, hoX5, hn⟩
      replace hx := hx.nx hn
      replace hy := hy.nx hn
      replace X1 := X1.nx hn
      replace X2 := X2.nx hn
      replace X3 := X3.nx hn
      replace X4 := X4.nx hn
      replace X0 := X0.nx hn
      replace X0_0 := X0.cell (j := 0) rfl
      replace X0_1 := X0.cell (j := 1) rfl
      replace X0_z := X0.lt
      replace N := N.trans hn
      clear hn
      have X5 := hoX5.intsAt
      have capX5 := hoX5.cap
      clear hoX5
      go_wp2_with fail
      refine (iValid_t _ _ _ _ He8.out rfl capX1 X1 (by omega)).mono ?_
      rintro e w9 ⟨rfl, hn⟩
      replace hx := hx.nx hn
      replace hy := hy.nx hn
      replace X1 := X1.nx hn
      replace X2 := X2.nx hn
      replace X3 := X3.nx hn
      replace X4 := X4.nx hn
      replace X5 := X5.nx hn
      replace X0 := X0.nx hn
      replace X0_0 := X0.cell (j := 0) rfl
      replace X0_1 := X0.cell (j := 1) rfl
      replace X0_z := X0.lt
      replace N := N.trans hn
      clear hn
      go_wp2_with fail
      refine (same_i _ _ _ _ _ X3 hx (by omega)).mono ?_
      rintro e w10 ⟨rfl, hn⟩
      replace hx := hx.nx hn
      replace hy := hy.nx hn
      replace X1 := X1.nx hn
      replace X2 := X2.nx hn
      replace X3 := X3.nx hn
      replace X4 := X4.nx hn
      replace X5 := X5.nx hn
      replace X0 := X0.nx hn
      replace X0_0 := X0.cell (j := 0) rfl
      replace X0_1 := X0.cell (j := 1) rfl
      replace X0_z := X0.lt
      replace N := N.trans hn
      clear hn
      go_wp2_with fail
      refine (same_i _ _ _ _ _ X4 X5 (by omega)).mono ?_
      rintro e w11 ⟨rfl, hn⟩
      replace hx := hx.nx hn
      replace hy := hy.nx hn
      replace X1 := X1.nx hn
      replace X2 := X2.nx hn
      replace X3 := X3.nx hn
      replace X4 := X4.nx hn
      replace X5 := X5.nx hn
      replace X0 := X0.nx hn
      replace X0_0 := X0.cell (j := 0) rfl
      replace X0_1 := X0.cell (j := 1) rfl
      replace X0_z := X0.lt
      replace N := N.trans hn
      clear hn
      have hl := wrap2 h1 h2 HlS.out
      go_wp2
      go_ret
      have hl2 : decide (((L.length : Nat) : Int) = IntKind.i64.wrap (IntKind.i64.wrap ((xs.length : Int) + (ys.length : Int)) + 1)) = true := decide_eq_true hl
      exact RetV.bool (by first | simp [hl] | (simp; exact hl)) (by repeat (first | exact Nx.refl _ | assumption | apply Nx.alloc | apply Nx.drew | apply Nx.drewN | (refine Nx.setCell ?_ (by first | (simp; done) | (simp; omega) | omega) _) | refine Nx.trans ?_ (by assumption)))
    · have e1 := Lib.hid (tLink_no hp)
      have e2 : Hid (decide (linkOk xs ys x y) = false) := Lib.hid (decide_eq_false hp)
      clear hp
      go_wp2_with fail
      refine (iLink_t A1 A2 d1 d2 _ _ _ e1.out e2.out rfl rfl hd1 hd2 hx hy (by omega) (by omega)).mono ?_
      rintro e w2 ⟨AX1, cX1, rfl, hoX1, hn⟩
      replace hx := hx.nx hn
      replace hy := hy.nx hn
      replace N := N.trans hn
      clear hn
      have X1 := hoX1.intsAt
      have capX1 := hoX1.cap
      clear hoX1
      go_wp2_with fail
      refine (sLink_t A1 A2 d1 d2 _ _ _ e1.out e2.out rfl rfl hd1 hd2 hx hy (by omega) (by omega)).mono ?_
      rintro e w3 ⟨AX2, cX2, rfl, hoX2, hn⟩
      replace hx := hx.nx hn
      replace hy := hy.nx hn
      replace X1 := X1.nx hn
      replace N := N.trans hn
      clear hn
      have X2 := hoX2.intsAt
      have capX2 := hoX2.cap
      clear hoX2
      go_wp2_with fail
      refine (same_i (xs := []) _ _ _ _ _ X1 X2 (by simp)).mono ?_
      rintro e w4 ⟨rfl, hn⟩
      replace hx := hx.nx hn
      replace hy := hy.nx hn
      replace X1 := X1.nx hn
      replace X2 := X2.nx hn
      replace N := N.trans hn
      clear hn
      go_wp2_with fail
      refine (same_i (xs := []) _ _ _ _ _ X1 X2 (by simp)).mono ?_
      rintro e w5 ⟨rfl, hn⟩
      replace hx := hx.nx hn
      replace hy := hy.nx hn
      replace X1 := X1.nx hn
      replace X2 := X2.nx hn
      replace N := N.trans hn
      clear hn
      go_wp2
      go_ret
      exact RetV.bool (by first | rfl | simp) (by repeat (first | exact Nx.refl _ | assumption | apply Nx.alloc | apply Nx.drew | apply Nx.drewN | (refine Nx.setCell ?_ (by first | (simp; done) | (simp; omega) | omega) _) | refine Nx.trans ?_ (by assumption)))
end Go.Proofs.Ytbceoigmcomlbaa
