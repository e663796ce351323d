/- FnSplitNodes: the walk. Printed by gen_TL.py. -/
import Derived.Test.YtbceoigmcomlbaaJAL
namespace Go.Proofs.Ytbceoigmcomlbaa
open Go.RowKit
set_option linter.unusedVariables false
set_option linter.unusedSimpArgs false
theorem dyIn_v (A : Option Addr) (c n : Nat) (w : World) {xs : List Int} {x : Int} {b : Bool} (h : decide (x ∈ xs) = b) (hn : xs.length = n) (hx : IntsAt w A xs) (hl : n ≤ 1048576) : Calls Try.prog 20 #[.slice A n c, V x] w (RetV (.bool b) w) := (dyIn_t A c n w h hn hx hl).mono fun e w' h => ⟨h.1, h.2 ▸ Nx.refl _⟩
theorem wrap2x {a b c : Nat} (ha : a ≤ 31) (hb : b ≤ 31) (h : a + b + 1 = c) : IntKind.i64.wrap (IntKind.i64.wrap ((a : Int) + (b : Int)) + 1) = (c : Int) := by
  have e : IntKind.i64.wrap ((a : Int) + (b : Int)) = (a : Int) + (b : Int) := by rw [IntKind.wrap_i64]; omega
  rw [e, IntKind.wrap_i64]; omega
set_option maxRecDepth 100000 in
set_option maxHeartbeats 1000000 in
theorem fnSplitNodes_walk (w : World) (A : Option Addr) (n c : Nat) (hnc : n ≤ c) (hb : BytesAt w w.heap.size A n) :
    Calls Try.prog 10 #[.slice A n c] w (RetV (.bool true) w) := by
  by_cases hbig : (n : Int) > 1048576
  · go_enter Try.func10, Try.ntmps10
    go_wp2
    go_ret
    exact RetV.bool rfl (by repeat (first | exact Nx.refl _ | assumption | apply Nx.alloc | apply Nx.drew | apply Nx.drewN | (refine Nx.setCell ?_ (by first | (simp; done) | (simp; omega) | omega) _) | refine Nx.trans ?_ (by assumption)))
  · go_enter Try.func10, Try.ntmps10
    go_wp2_with fail
    refine (drawSplitTour_c A n c _ hnc hb).mono ?_
    rintro e w1 ⟨B, d, xs, u, v, rfl, h1, h2, ho, N⟩
    have hx := ho.intsAt
    have hd := ho.cap
    clear ho hb
    by_cases hp : spOk xs (u, v)
    · obtain ⟨X, Y, e1, e2, e3, hz, hor, lS, lX, lY⟩ := splitNodes_facts hp
      have He1 := Lib.hid e1
      have He2 := Lib.hid e2
      have He3 := Lib.hid e3
      have Hhz := Lib.hid hz
      have Hhor := Lib.hid hor
      have HlS := Lib.hid lS
      clear e1 e2 e3 hz hor lS
      clear hp
      go_wp2_with fail
      generalize hW2 : World.alloc _ _ = W2
      have gW2 : Nx w1 W2 := by subst hW2; exact (by repeat (first | exact Nx.refl _ | assumption | apply Nx.alloc | apply Nx.drew | apply Nx.drewN | (refine Nx.setCell ?_ (by first | (simp; done) | (simp; omega) | omega) _) | refine Nx.trans ?_ (by assumption)))
      have sW2 : W2.heap.size = w1.heap.size + 1 := by subst hW2; simp
      have X0 : Bx W2 (w1.heap.size) 30 [V u, V v] := by subst hW2; have h := Bx.alloc w1 30 [V u, V v]; simpa using h
      have X0_0 := X0.cell (j := 0) rfl
      have X0_1 := X0.cell (j := 1) rfl
      have X0_z := X0.lt
      have HsW2 := Lib.hid sW2
      have lW2 : w1.heap.size + 1 ≤ W2.heap.size := by omega
      clear hW2 sW2
      have hn := gW2
      clear gW2
      replace hx := hx.nx hn
      replace N := N.trans hn
      clear hn
      have hw2 : ∃ v, v = W2 := ⟨_, rfl⟩
      obtain ⟨w2, hw2⟩ := hw2
      subst hw2
      go_wp2_with fail
      refine (iSplit_t B d _ _ He1.out He2.out He3.out rfl hd hx (by omega)).mono ?_
      rintro e w3 ⟨AX1, cX1, AX2, cX2, rfl, hoX1, hoX2, _, _, hn⟩
      replace hx := hx.nx hn
      replace X0 := X0.nx hn
      replace X0_0 := X0.cell (j := 0) rfl
      replace X0_1 := X0.cell (j := 1) rfl
      replace X0_z := X0.lt
      replace N := N.trans hn
      clear hn
      have X1 := hoX1.intsAt
      have capX1 := hoX1.cap
      clear hoX1
      have X2 := hoX2.intsAt
      have capX2 := hoX2.cap
      clear hoX2
      go_wp2_with fail
      refine (sSplit_t B d _ _ He1.out He2.out He3.out rfl hd hx (by omega)).mono ?_
      rintro e w4 ⟨AX3, cX3, AX4, cX4, rfl, hoX3, hoX4, _, _, hn⟩
      replace hx := hx.nx hn
      replace X1 := X1.nx hn
      replace X2 := X2.nx hn
      replace X0 := X0.nx hn
      replace X0_0 := X0.cell (j := 0) rfl
      replace X0_1 := X0.cell (j := 1) rfl
      replace X0_z := X0.lt
      replace N := N.trans hn
      clear hn
      have X3 := hoX3.intsAt
      have capX3 := hoX3.cap
      clear hoX3
      have X4 := hoX4.intsAt
      have capX4 := hoX4.cap
      clear hoX4
      go_wp2_with fail
      refine (same_i _ _ _ _ _ X1 X3 (by omega)).mono ?_
      rintro e w5 ⟨rfl, hn⟩
      replace hx := hx.nx hn
      replace X1 := X1.nx hn
      replace X2 := X2.nx hn
      replace X3 := X3.nx hn
      replace X4 := X4.nx hn
      replace X0 := X0.nx hn
      replace X0_0 := X0.cell (j := 0) rfl
      replace X0_1 := X0.cell (j := 1) rfl
      replace X0_z := X0.lt
      replace N := N.trans hn
      clear hn
      go_wp2_with fail
      refine (same_i _ _ _ _ _ X2 X4 (by omega)).mono ?_
      rintro e w6 ⟨rfl, hn⟩
      replace hx := hx.nx hn
      replace X1 := X1.nx hn
      replace X2 := X2.nx hn
      replace X3 := X3.nx hn
      replace X4 := X4.nx hn
      replace X0 := X0.nx hn
      replace X0_0 := X0.cell (j := 0) rfl
      replace X0_1 := X0.cell (j := 1) rfl
      replace X0_z := X0.lt
      replace N := N.trans hn
      clear hn
      clear X3 X4
      go_wp2_with fail
      obtain ⟨v7, hv7⟩ : ∃ v, v = w6 := ⟨_, rfl⟩
      subst hv7
      go_loopg [11] xs.length (fun gk i wr => ∃ k : Nat, k + gk = xs.length ∧ i = .int .i64 k ∧ Nx v7 wr)
      case atStart => exact ⟨0, by omega, rfl, Nx.refl _⟩
      case round =>
        obtain ⟨k, hk, rfl, hn⟩ := hrel
        replace hx := hx.nx hn
        replace X1 := X1.nx hn
        replace X2 := X2.nx hn
        replace X0 := X0.nx hn
        replace X0_0 := X0.cell (j := 0) rfl
        replace X0_1 := X0.cell (j := 1) rfl
        replace X0_z := X0.lt
        replace N := N.trans hn
        have h7 := hn
        clear hn
        by_cases hlt : k < xs.length
        · obtain ⟨z, hek⟩ : ∃ x, xs[k]? = some x := ⟨_, List.getElem?_eq_getElem hlt⟩
          obtain ⟨b, off, rfl, hbl, hc⟩ := hx.rd hek
          obtain ⟨q, hq1, hq2⟩ := Hhz.out k z hek
          have hlti : (k : Int) < (xs.length : Int) := by omega
          have Hy0 : Hid (∀ q5, Nx wr q5 → Calls Try.prog 20 #[.slice AX1 X.length cX1, V z] q5 (RetV (.bool q) q5)) := Lib.hid (fun q5 hq => dyIn_v AX1 cX1 X.length q5 hq1 rfl (X1.nx hq) (by omega))
          have Hy1 : Hid (∀ q5, Nx wr q5 → Calls Try.prog 20 #[.slice AX2 Y.length cX2, V z] q5 (RetV (.bool (!q)) q5)) := Lib.hid (fun q5 hq => dyIn_v AX2 cX2 Y.length q5 hq2 rfl (X2.nx hq) (by omega))
          clear hek hq1 hq2 X1 X2 hx
          cases q
          · go_wp2_with fail
            have kp : ∀ w', Nx wr w' → (fun w_ => Nx wr w_ ∧ w_.cell? ⟨b, off + k, none⟩ = some (V z)) w' := fun w' h => ⟨h, h.cell (p := ⟨b, off + k, none⟩) hbl hc⟩
            first | (go_region_held3 (fun w_ => Nx wr w_ ∧ w_.cell? ⟨b, off + k, none⟩ = some (V z))
              (exact kp _ (by (repeat (first | exact Nx.refl _ | assumption | apply Nx.alloc | apply Nx.drew | apply Nx.drewN | (refine Nx.setCell ?_ (by first | (simp; done) | (simp; omega) | omega) _) | refine Nx.trans ?_ (by assumption))); done))
              (first | (go_at_call 20; (with_reducible refine (Hy0.out _ (by (repeat (first | exact Nx.refl _ | assumption | apply Nx.alloc | apply Nx.drew | apply Nx.drewN | (refine Nx.setCell ?_ (by first | (simp; done) | (simp; omega) | omega) _) | refine Nx.trans ?_ (by assumption))); done)).mono ?_); rintro e w21 ⟨rfl, hn21⟩; have hs21 : wr.heap.size ≤ w21.heap.size := Nx.size (by exact (by (repeat (first | exact Nx.refl _ | assumption | apply Nx.alloc | apply Nx.drew | apply Nx.drewN | (refine Nx.setCell ?_ (by first | (simp; done) | (simp; omega) | omega) _) | refine Nx.trans ?_ (by assumption))); done))) | (go_at_call 20; (with_reducible refine (Hy1.out _ (by (repeat (first | exact Nx.refl _ | assumption | apply Nx.alloc | apply Nx.drew | apply Nx.drewN | (refine Nx.setCell ?_ (by first | (simp; done) | (simp; omega) | omega) _) | refine Nx.trans ?_ (by assumption))); done)).mono ?_); rintro e w22 ⟨rfl, hn22⟩; have hs22 : wr.heap.size ≤ w22.heap.size := Nx.size (by exact (by (repeat (first | exact Nx.refl _ | assumption | apply Nx.alloc | apply Nx.drew | apply Nx.drewN | (refine Nx.setCell ?_ (by first | (simp; done) | (simp; omega) | omega) _) | refine Nx.trans ?_ (by assumption))); done))))) | fail
            all_goals go_wp2
            all_goals go_roundg (gk - 1)
            all_goals first | (case measure => omega) | skip
            all_goals exact ⟨k + 1, by omega, by go_num, h7.trans (by (repeat (first | exact Nx.refl _ | assumption | apply Nx.alloc | apply Nx.drew | apply Nx.drewN | (refine Nx.setCell ?_ (by first | (simp; done) | (simp; omega) | omega) _) | refine Nx.trans ?_ (by assumption))); done)⟩
          · go_wp2_with fail
            have kp : ∀ w', Nx wr w' → (fun w_ => Nx wr w_ ∧ w_.cell? ⟨b, off + k, none⟩ = some (V z)) w' := fun w' h => ⟨h, h.cell (p := ⟨b, off + k, none⟩) hbl hc⟩
            first | (go_region_held3 (fun w_ => Nx wr w_ ∧ w_.cell? ⟨b, off + k, none⟩ = some (V z))
              (exact kp _ (by (repeat (first | exact Nx.refl _ | assumption | apply Nx.alloc | apply Nx.drew | apply Nx.drewN | (refine Nx.setCell ?_ (by first | (simp; done) | (simp; omega) | omega) _) | refine Nx.trans ?_ (by assumption))); done))
              (first | (go_at_call 20; (with_reducible refine (Hy0.out _ (by (repeat (first | exact Nx.refl _ | assumption | apply Nx.alloc | apply Nx.drew | apply Nx.drewN | (refine Nx.setCell ?_ (by first | (simp; done) | (simp; omega) | omega) _) | refine Nx.trans ?_ (by assumption))); done)).mono ?_); rintro e w21 ⟨rfl, hn21⟩; have hs21 : wr.heap.size ≤ w21.heap.size := Nx.size (by exact (by (repeat (first | exact Nx.refl _ | assumption | apply Nx.alloc | apply Nx.drew | apply Nx.drewN | (refine Nx.setCell ?_ (by first | (simp; done) | (simp; omega) | omega) _) | refine Nx.trans ?_ (by assumption))); done))) | (go_at_call 20; (with_reducible refine (Hy1.out _ (by (repeat (first | exact Nx.refl _ | assumption | apply Nx.alloc | apply Nx.drew | apply Nx.drewN | (refine Nx.setCell ?_ (by first | (simp; done) | (simp; omega) | omega) _) | refine Nx.trans ?_ (by assumption))); done)).mono ?_); rintro e w22 ⟨rfl, hn22⟩; have hs22 : wr.heap.size ≤ w22.heap.size := Nx.size (by exact (by (repeat (first | exact Nx.refl _ | assumption | apply Nx.alloc | apply Nx.drew | apply Nx.drewN | (refine Nx.setCell ?_ (by first | (simp; done) | (simp; omega) | omega) _) | refine Nx.trans ?_ (by assumption))); done))))) | fail
            all_goals go_wp2
            all_goals go_roundg (gk - 1)
            all_goals first | (case measure => omega) | skip
            all_goals exact ⟨k + 1, by omega, by go_num, h7.trans (by (repeat (first | exact Nx.refl _ | assumption | apply Nx.alloc | apply Nx.drew | apply Nx.drewN | (refine Nx.setCell ?_ (by first | (simp; done) | (simp; omega) | omega) _) | refine Nx.trans ?_ (by assumption))); done)⟩
        · obtain ⟨q, hq1, hq2⟩ := Hhor.out
          have hl := wrap2x lX lY HlS.out
          have Hy0 : Hid (∀ q5, Nx wr q5 → Calls Try.prog 20 #[.slice AX1 X.length cX1, V u] q5 (RetV (.bool q) q5)) := Lib.hid (fun q5 hq => dyIn_v AX1 cX1 X.length q5 hq1 rfl (X1.nx hq) (by omega))
          have Hy1 : Hid (∀ q5, Nx wr q5 → Calls Try.prog 20 #[.slice AX1 X.length cX1, V v] q5 (RetV (.bool (!q)) q5)) := Lib.hid (fun q5 hq => dyIn_v AX1 cX1 X.length q5 hq2 rfl (X1.nx hq) (by omega))
          clear hq1 hq2 X1 X2 hx
          cases q
          · go_wp2_with fail
            have kp : ∀ w', Nx wr w' → (fun w_ => Nx wr w_ ∧ w_.cell? ⟨w1.heap.size, 0, none⟩ = some (V u) ∧ w_.cell? ⟨w1.heap.size, 1, none⟩ = some (V v)) w' := fun w' h => ⟨h, h.cell (p := ⟨w1.heap.size, 0, none⟩) X0_z X0_0, h.cell (p := ⟨w1.heap.size, 1, none⟩) X0_z X0_1⟩
            first | (go_region_held3 (fun w_ => Nx wr w_ ∧ w_.cell? ⟨w1.heap.size, 0, none⟩ = some (V u) ∧ w_.cell? ⟨w1.heap.size, 1, none⟩ = some (V v))
              (exact kp _ (by (repeat (first | exact Nx.refl _ | assumption | apply Nx.alloc | apply Nx.drew | apply Nx.drewN | (refine Nx.setCell ?_ (by first | (simp; done) | (simp; omega) | omega) _) | refine Nx.trans ?_ (by assumption))); done))
              (first | (go_at_call 20; (with_reducible refine (Hy0.out _ (by (repeat (first | exact Nx.refl _ | assumption | apply Nx.alloc | apply Nx.drew | apply Nx.drewN | (refine Nx.setCell ?_ (by first | (simp; done) | (simp; omega) | omega) _) | refine Nx.trans ?_ (by assumption))); done)).mono ?_); rintro e w21 ⟨rfl, hn21⟩; have hs21 : wr.heap.size ≤ w21.heap.size := Nx.size (by exact (by (repeat (first | exact Nx.refl _ | assumption | apply Nx.alloc | apply Nx.drew | apply Nx.drewN | (refine Nx.setCell ?_ (by first | (simp; done) | (simp; omega) | omega) _) | refine Nx.trans ?_ (by assumption))); done))) | (go_at_call 20; (with_reducible refine (Hy1.out _ (by (repeat (first | exact Nx.refl _ | assumption | apply Nx.alloc | apply Nx.drew | apply Nx.drewN | (refine Nx.setCell ?_ (by first | (simp; done) | (simp; omega) | omega) _) | refine Nx.trans ?_ (by assumption))); done)).mono ?_); rintro e w22 ⟨rfl, hn22⟩; have hs22 : wr.heap.size ≤ w22.heap.size := Nx.size (by exact (by (repeat (first | exact Nx.refl _ | assumption | apply Nx.alloc | apply Nx.drew | apply Nx.drewN | (refine Nx.setCell ?_ (by first | (simp; done) | (simp; omega) | omega) _) | refine Nx.trans ?_ (by assumption))); done))))) | fail
            all_goals go_wp2
            all_goals go_ret
            all_goals exact RetV.bool (by first | rfl | simp [hl] | (simp; exact hl)) (N.trans (by (repeat (first | exact Nx.refl _ | assumption | apply Nx.alloc | apply Nx.drew | apply Nx.drewN | (refine Nx.setCell ?_ (by first | (simp; done) | (simp; omega) | omega) _) | refine Nx.trans ?_ (by assumption))); done))
          · go_wp2_with fail
            have kp : ∀ w', Nx wr w' → (fun w_ => Nx wr w_ ∧ w_.cell? ⟨w1.heap.size, 0, none⟩ = some (V u) ∧ w_.cell? ⟨w1.heap.size, 1, none⟩ = some (V v)) w' := fun w' h => ⟨h, h.cell (p := ⟨w1.heap.size, 0, none⟩) X0_z X0_0, h.cell (p := ⟨w1.heap.size, 1, none⟩) X0_z X0_1⟩
            first | (go_region_held3 (fun w_ => Nx wr w_ ∧ w_.cell? ⟨w1.heap.size, 0, none⟩ = some (V u) ∧ w_.cell? ⟨w1.heap.size, 1, none⟩ = some (V v))
              (exact kp _ (by (repeat (first | exact Nx.refl _ | assumption | apply Nx.alloc | apply Nx.drew | apply Nx.drewN | (refine Nx.setCell ?_ (by first | (simp; done) | (simp; omega) | omega) _) | refine Nx.trans ?_ (by assumption))); done))
              (first | (go_at_call 20; (with_reducible refine (Hy0.out _ (by (repeat (first | exact Nx.refl _ | assumption | apply Nx.alloc | apply Nx.drew | apply Nx.drewN | (refine Nx.setCell ?_ (by first | (simp; done) | (simp; omega) | omega) _) | refine Nx.trans ?_ (by assumption))); done)).mono ?_); rintro e w21 ⟨rfl, hn21⟩; have hs21 : wr.heap.size ≤ w21.heap.size := Nx.size (by exact (by (repeat (first | exact Nx.refl _ | assumption | apply Nx.alloc | apply Nx.drew | apply Nx.drewN | (refine Nx.setCell ?_ (by first | (simp; done) | (simp; omega) | omega) _) | refine Nx.trans ?_ (by assumption))); done))) | (go_at_call 20; (with_reducible refine (Hy1.out _ (by (repeat (first | exact Nx.refl _ | assumption | apply Nx.alloc | apply Nx.drew | apply Nx.drewN | (refine Nx.setCell ?_ (by first | (simp; done) | (simp; omega) | omega) _) | refine Nx.trans ?_ (by assumption))); done)).mono ?_); rintro e w22 ⟨rfl, hn22⟩; have hs22 : wr.heap.size ≤ w22.heap.size := Nx.size (by exact (by (repeat (first | exact Nx.refl _ | assumption | apply Nx.alloc | apply Nx.drew | apply Nx.drewN | (refine Nx.setCell ?_ (by first | (simp; done) | (simp; omega) | omega) _) | refine Nx.trans ?_ (by assumption))); done))))) | fail
            all_goals go_wp2
            all_goals go_ret
            all_goals exact RetV.bool (by first | rfl | simp [hl] | (simp; exact hl)) (N.trans (by (repeat (first | exact Nx.refl _ | assumption | apply Nx.alloc | apply Nx.drew | apply Nx.drewN | (refine Nx.setCell ?_ (by first | (simp; done) | (simp; omega) | omega) _) | refine Nx.trans ?_ (by assumption))); done))
    · have e1 := Lib.hid (tSpl_no hp).1
      have e3 := Lib.hid (tSpl_no hp).2
      have e2 : Hid (decide (spOk xs (u, v)) = false) := Lib.hid (decide_eq_false hp)
      clear hp
      go_wp2_with fail
      generalize hW2 : World.alloc _ _ = W2
      have gW2 : Nx w1 W2 := by subst hW2; exact (by repeat (first | exact Nx.refl _ | assumption | apply Nx.alloc | apply Nx.drew | apply Nx.drewN | (refine Nx.setCell ?_ (by first | (simp; done) | (simp; omega) | omega) _) | refine Nx.trans ?_ (by assumption)))
      have sW2 : W2.heap.size = w1.heap.size + 1 := by subst hW2; simp
      have X0 : Bx W2 (w1.heap.size) 30 [V u, V v] := by subst hW2; have h := Bx.alloc w1 30 [V u, V v]; simpa using h
      have X0_0 := X0.cell (j := 0) rfl
      have X0_1 := X0.cell (j := 1) rfl
      have X0_z := X0.lt
      have HsW2 := Lib.hid sW2
      have lW2 : w1.heap.size + 1 ≤ W2.heap.size := by omega
      clear hW2 sW2
      have hn := gW2
      clear gW2
      replace hx := hx.nx hn
      replace N := N.trans hn
      clear hn
      have hw2 : ∃ v, v = W2 := ⟨_, rfl⟩
      obtain ⟨w2, hw2⟩ := hw2
      subst hw2
      go_wp2_with fail
      refine (iSplit_t B d _ _ e1.out e3.out e2.out rfl hd hx (by omega)).mono ?_
      rintro e w3 ⟨AX1, cX1, AX2, cX2, rfl, hoX1, hoX2, _, _, hn⟩
      replace hx := hx.nx hn
      replace X0 := X0.nx hn
      replace X0_0 := X0.cell (j := 0) rfl
      replace X0_1 := X0.cell (j := 1) rfl
      replace X0_z := X0.lt
      replace N := N.trans hn
      clear hn
      have X1 := hoX1.intsAt
      have capX1 := hoX1.cap
      clear hoX1
      have X2 := hoX2.intsAt
      have capX2 := hoX2.cap
      clear hoX2
      go_wp2_with fail
      refine (sSplit_t B d _ _ e1.out e3.out e2.out rfl hd hx (by omega)).mono ?_
      rintro e w4 ⟨AX3, cX3, AX4, cX4, rfl, hoX3, hoX4, _, _, hn⟩
      replace hx := hx.nx hn
      replace X1 := X1.nx hn
      replace X2 := X2.nx hn
      replace X0 := X0.nx hn
      replace X0_0 := X0.cell (j := 0) rfl
      replace X0_1 := X0.cell (j := 1) rfl
      replace X0_z := X0.lt
      replace N := N.trans hn
      clear hn
      have X3 := hoX3.intsAt
      have capX3 := hoX3.cap
      clear hoX3
      have X4 := hoX4.intsAt
      have capX4 := hoX4.cap
      clear hoX4
      go_wp2_with fail
      refine (same_i (xs := []) _ _ _ _ _ X1 X3 (by simp)).mono ?_
      rintro e w5 ⟨rfl, hn⟩
      replace hx := hx.nx hn
      replace X1 := X1.nx hn
      replace X2 := X2.nx hn
      replace X3 := X3.nx hn
      replace X4 := X4.nx hn
      replace X0 := X0.nx hn
      replace X0_0 := X0.cell (j := 0) rfl
      replace X0_1 := X0.cell (j := 1) rfl
      replace X0_z := X0.lt
      replace N := N.trans hn
      clear hn
      go_wp2_with fail
      refine (same_i (xs := []) _ _ _ _ _ X2 X4 (by simp)).mono ?_
      rintro e w6 ⟨rfl, hn⟩
      replace hx := hx.nx hn
      replace X1 := X1.nx hn
      replace X2 := X2.nx hn
      replace X3 := X3.nx hn
      replace X4 := X4.nx hn
      replace X0 := X0.nx hn
      replace X0_0 := X0.cell (j := 0) rfl
      replace X0_1 := X0.cell (j := 1) rfl
      replace X0_z := X0.lt
      replace N := N.trans hn
      clear hn
      go_wp2_with fail
      refine (same_i (xs := []) _ _ _ _ _ X1 X3 (by simp)).mono ?_
      rintro e w7 ⟨rfl, hn⟩
      replace hx := hx.nx hn
      replace X1 := X1.nx hn
      replace X2 := X2.nx hn
      replace X3 := X3.nx hn
      replace X4 := X4.nx hn
      replace X0 := X0.nx hn
      replace X0_0 := X0.cell (j := 0) rfl
      replace X0_1 := X0.cell (j := 1) rfl
      replace X0_z := X0.lt
      replace N := N.trans hn
      clear hn
      go_wp2_with fail
      refine (same_i (xs := []) _ _ _ _ _ X2 X4 (by simp)).mono ?_
      rintro e w8 ⟨rfl, hn⟩
      replace hx := hx.nx hn
      replace X1 := X1.nx hn
      replace X2 := X2.nx hn
      replace X3 := X3.nx hn
      replace X4 := X4.nx hn
      replace X0 := X0.nx hn
      replace X0_0 := X0.cell (j := 0) rfl
      replace X0_1 := X0.cell (j := 1) rfl
      replace X0_z := X0.lt
      replace N := N.trans hn
      clear hn
      go_wp2
      go_ret
      exact RetV.bool (by first | rfl | simp) (by repeat (first | exact Nx.refl _ | assumption | apply Nx.alloc | apply Nx.drew | apply Nx.drewN | (refine Nx.setCell ?_ (by first | (simp; done) | (simp; omega) | omega) _) | refine Nx.trans ?_ (by assumption)))
end Go.Proofs.Ytbceoigmcomlbaa
