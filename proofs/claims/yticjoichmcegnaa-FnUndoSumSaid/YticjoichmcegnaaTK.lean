/- Contracts: DrawSetsValid, DrawUndoSets. -/
import Derived.Test.YticjoichmcegnaaTJ
namespace Go.Proofs.Yticjoichmcegnaa
open Go.RowKit set_option linter.unusedVariables false set_option linter.unusedSimpArgs false

theorem drawSetsValid_c (A : Option Addr) (m c : Nat) (w : World) (hmc : m ≤ c) (hb : BytesAt w w.heap.size A m) :
    Calls Try.prog 20 #[.slice A m c] w (SomeS id w) := by
  go_enter Try.func20, Try.ntmps20
  go_wp2_with fail
  generalize hW1 : World.alloc _ _ = W1
  have gW1 : Nx w W1 := by subst hW1; exact (by repeat (first | exact Nx.refl _ | assumption | apply Nx.alloc | apply Nx.drew | apply Nx.drewN | (refine Nx.setCell ?_ (by first | (simp; done) | (simp; omega) | omega) _) | refine Nx.trans ?_ (by assumption)))
  have sW1 : W1.heap.size = w.heap.size + 1 := by subst hW1; simp
  have X0 : Bx W1 (w.heap.size) 37 [.slice none 0 0, .slice none 0 0, .slice none 0 0] := by subst hW1; have h := Bx.alloc w 37 [.slice none 0 0, .slice none 0 0, .slice none 0 0]; simpa using h
  have X0_0 := X0.cell (j := 0) rfl
  have X0_1 := X0.cell (j := 1) rfl
  have X0_2 := X0.cell (j := 2) rfl
  have X0_z := X0.lt
  have HsW1 := Lib.hid sW1
  have lW1 : w.heap.size + 1 ≤ W1.heap.size := by omega
  clear hW1 sW1
  have N := gW1
  refine (l3Draw_c A m c _ hmc (hb.nx gW1 (by omega))).mono ?_
  rintro e w2 ⟨s, n, hP, hZ, hn1, hn16, hT, B0, b0, B1, b1, B2, b2, rfl, oA, oB, oC, sAB, sAC, sBC, hn2⟩
  replace X0 := X0.nx hn2
  replace X0_0 := X0.cell (j := 0) rfl
  replace X0_1 := X0.cell (j := 1) rfl
  replace X0_2 := X0.cell (j := 2) rfl
  replace X0_z := X0.lt
  have X0_f := X0.free
  replace N := N.trans hn2
  have HoA := Lib.hid oA
  have HoB := Lib.hid oB
  have HoC := Lib.hid oC
  have HP := Lib.hid hP
  have HZ := Lib.hid hZ
  have HT := Lib.hid hT
  clear oA oB oC hP hZ hT
  go_wp2
  refine bodyPost_ret (v := id (St B0 s.P.length b0 B1 s.Z.length b1 B2 s.T.length b2)) (by simp [results, Try.f20, go_sem, *]) rfl ?_
  refine ⟨s, n, HP.out, HZ.out, hn1, hn16, HT.out, B0, b0, B1, b1, B2, b2, rfl, ?_, ?_, ?_, sAB, sAC, sBC, ?_⟩
  · exact ((((HoA.out.far (by simp; omega) _).far (by simp; omega) _).far (by simp; omega) _)).mono (by omega)
  · exact ((((HoB.out.far (by simp; omega) _).far (by simp; omega) _).far (by simp; omega) _)).mono (by omega)
  · exact ((((HoC.out.far (by simp; omega) _).far (by simp; omega) _).far (by simp; omega) _)).mono (by omega)
  · exact ((N.setCell (by simp) _).setCell (by simp) _).setCell (by simp) _

/-- some sets, and a number -/
def SomeSN (w : World) (e : Ending) (w' : World) : Prop := ∃ k : Int, -1 ≤ k ∧ k ≤ 5 ∧ SomeS (fun v => .tuple #[v, V k]) w e w'
set_option maxRecDepth 100000 in
set_option maxHeartbeats 8000000 in
theorem drawUndoSets_c (A : Option Addr) (m c : Nat) (w : World) (hmc : m ≤ c) (hb : BytesAt w w.heap.size A m) :
    Calls Try.prog 26 #[.slice A m c] w (SomeSN w) := by
  have Hb := Lib.hid hb
  clear hb
  go_enter Try.func26, Try.ntmps26
  go_wp2_with fail
  generalize hW1 : World.alloc _ _ = W1
  have gW1 : Nx w W1 := by subst hW1; exact (by repeat (first | exact Nx.refl _ | assumption | apply Nx.alloc | apply Nx.drew | apply Nx.drewN | (refine Nx.setCell ?_ (by first | (simp; done) | (simp; omega) | omega) _) | refine Nx.trans ?_ (by assumption)))
  have sW1 : W1.heap.size = w.heap.size + 1 := by subst hW1; simp
  have X0 : Bx W1 (w.heap.size) 37 [.slice none 0 0, .slice none 0 0, .slice none 0 0] := by subst hW1; have h := Bx.alloc w 37 [.slice none 0 0, .slice none 0 0, .slice none 0 0]; simpa using h
  have X0_0 := X0.cell (j := 0) rfl
  have X0_1 := X0.cell (j := 1) rfl
  have X0_2 := X0.cell (j := 2) rfl
  have X0_z := X0.lt
  have HsW1 := Lib.hid sW1
  have lW1 : w.heap.size + 1 ≤ W1.heap.size := by omega
  clear hW1 sW1
  have N := gW1
  refine (l3Draw_c A m c _ hmc (Hb.out.nx gW1 (by omega))).mono ?_
  rintro e w2 ⟨s, n, hP, hZ, hn1, hn16, hT, B0, b0, B1, b1, B2, b2, rfl, oA, oB, oC, sAB, sAC, sBC, hn2⟩
  replace X0 := X0.nx hn2
  replace X0_0 := X0.cell (j := 0) rfl
  replace X0_1 := X0.cell (j := 1) rfl
  replace X0_2 := X0.cell (j := 2) rfl
  replace X0_z := X0.lt
  replace N := N.trans hn2
  have z2 := hn2.size
  rw [hP, hZ]
  obtain ⟨l, hl⟩ : ∃ l, s.T.length = l := ⟨_, rfl⟩
  rw [hl]
  have HL := Lib.hid hl
  have HoA := Lib.hid oA
  have HoB := Lib.hid oB
  have HoC := Lib.hid oC
  have HP := Lib.hid hP
  have HZ := Lib.hid hZ
  have HT := Lib.hid hT
  clear oA oB oC hP hZ hT hl
  go_wp2_with fail
  generalize hW3 : World.alloc _ _ = W3
  have gW3 : Nx w2 W3 := by subst hW3; exact (by repeat (first | exact Nx.refl _ | assumption | apply Nx.alloc | apply Nx.drew | apply Nx.drewN | (refine Nx.setCell ?_ (by first | (simp; done) | (simp; omega) | omega) _) | refine Nx.trans ?_ (by assumption)))
  have sW3 : W3.heap.size = w2.heap.size + 1 := by subst hW3; simp
  have G : Bx W3 (w2.heap.size) 37 [.slice B0 n b0, .slice B1 n b1, .slice B2 l b2] := by subst hW3; have h := Bx.alloc w2 37 [.slice B0 n b0, .slice B1 n b1, .slice B2 l b2]; simpa using h
  have G_0 := G.cell (j := 0) rfl
  have G_1 := G.cell (j := 1) rfl
  have G_2 := G.cell (j := 2) rfl
  have G_z := G.lt
  have HsW3 := Lib.hid sW3
  have lW3 : w2.heap.size + 1 ≤ W3.heap.size := by omega
  clear hW3 sW3
  replace X0 := X0.nx gW3
  replace X0_0 := X0.cell (j := 0) rfl
  replace X0_1 := X0.cell (j := 1) rfl
  replace X0_2 := X0.cell (j := 2) rfl
  replace X0_z := X0.lt
  replace N := N.trans gW3
  have X0_f := X0.free
  have hi6 : IntsAt (W3.alloc (.cells #[V 1, V 2, V 0, V 3, V 5, V (-1)] 3)).drew (some ⟨W3.heap.size, 0, none⟩) [1, 2, 0, 3, 5, -1] := (Bx.ints (Bx.alloc W3 3 [V 1, V 2, V 0, V 3, V 5, V (-1)])).nx (.drew (.refl _))
  have hbw : Hid (∀ w', Nx w w' → BytesAt w' w'.heap.size A m) := Lib.hid fun w' h => Hb.out.nx h h.size
  have kp : ∀ w', Rx w.heap.size W3 w' → (fun w_ => Rx w.heap.size W3 w_ ∧ w_.cell? ⟨w2.heap.size, 0, none⟩ = some (.slice B0 n b0) ∧ w_.cell? ⟨w2.heap.size, 1, none⟩ = some (.slice B1 n b1) ∧ w_.cell? ⟨w2.heap.size, 2, none⟩ = some (.slice B2 l b2)) w' := fun w' h => ⟨h, World.grownBy.cell h G_0 (by simp; omega), World.grownBy.cell h G_1 (by simp; omega), World.grownBy.cell h G_2 (by simp; omega)⟩
  go_region_held3 (fun w_ => Rx w.heap.size W3 w_ ∧ w_.cell? ⟨w2.heap.size, 0, none⟩ = some (.slice B0 n b0) ∧ w_.cell? ⟨w2.heap.size, 1, none⟩ = some (.slice B1 n b1) ∧ w_.cell? ⟨w2.heap.size, 2, none⟩ = some (.slice B2 l b2))
    (first
      | (refine kp _ (Nx.rx (?_ : Nx W3 _) _); with_reducible (repeat (first | exact Nx.refl _ | assumption | apply Nx.alloc | apply Nx.drew | apply Nx.drewN | refine Nx.trans ?_ (by assumption))); done)
      | (refine kp _ ((((Nx.rx (?_ : Nx W3 _) _).setCell _ _).setCell _ _).setCell _ _); with_reducible (repeat (first | exact Nx.refl _ | assumption | apply Nx.alloc | apply Nx.drew | apply Nx.drewN | refine Nx.trans ?_ (by assumption))); done))
    (first
      | (go_at_call 59; (with_reducible refine (open_l A m c _ hmc (hbw.out _ (N.trans (by with_reducible (repeat (first | exact Nx.refl _ | assumption | apply Nx.alloc | apply Nx.drew | apply Nx.drewN | refine Nx.trans ?_ (by assumption))); done)))).mono ?_); rintro e w7 ⟨rfl, r7, hn7'⟩; (simp [size_drew_] at r7); have hn7 : Nx W3 w7 := (show Nx W3 _ from (by with_reducible (repeat (first | exact Nx.refl _ | assumption | apply Nx.alloc | apply Nx.drew | apply Nx.drewN | refine Nx.trans ?_ (by assumption))); done)).trans hn7'; have rl7 := r7.lt; (try with_reducible have hi8a := hi6.nx hn7'); have hi8b : IntsAt (w7.alloc (.cells #[V 1, V 2, V 0, V 3, V 5, V (-1)] 3)) (some ⟨w7.heap.size, 0, none⟩) [1, 2, 0, 3, 5, -1] := Bx.ints (Bx.alloc w7 3 [V 1, V 2, V 0, V 3, V 5, V (-1)]))
      | (go_at_call 80; (refine (num_l _ 0 _ 6 [1, 2, 0, 3, 5, -1] _ (r7.nx (by with_reducible (repeat (first | exact Nx.refl _ | assumption | apply Nx.alloc | apply Nx.drew | apply Nx.drewN | refine Nx.trans ?_ (by assumption))); done)) (by omega) (by with_reducible first | exact hi8a | exact hi8b) (by simp) (by simp) (ne_br (by first | omega | (simp [size_drew_]; done) | (simp [size_drew_]; omega)))).mono ?_); rintro e w8 ⟨v, rfl, hv, r8, x8'⟩; have N8 : Nx W3 w8 := (hn7.trans (show Nx w7 _ from (by with_reducible (repeat (first | exact Nx.refl _ | assumption | apply Nx.alloc | apply Nx.drew | apply Nx.drewN | refine Nx.trans ?_ (by assumption))); done))).grown x8' (fun k e => by injection e with e; first | omega | (simp at e; omega)); have Y := X0.nx N8; have Y_0 := Y.cell (j := 0) rfl; have Y_1 := Y.cell (j := 1) rfl; have Y_2 := Y.cell (j := 2) rfl; have Y_z := Y.lt; have Y_f := Y.free; have hvb : -1 ≤ v ∧ v ≤ 5 := (by simp at hv; omega)))
  all_goals clear kp hi6 hi8b rl7 hn7' hv X0 X0_0 X0_1 X0_2 X0_z X0_f G G_0 G_1 G_2
  all_goals go_wp2
  all_goals refine bodyPost_ret (v := .tuple #[St B0 n b0 B1 n b1 B2 l b2, V v]) (by simp [results, Try.f26, go_sem, *]) rfl ?_
  all_goals refine ⟨v, hvb.1, hvb.2, s, n, HP.out, HZ.out, hn1, hn16, HT.out, B0, b0, B1, b1, B2, b2, by simp [HP.out, HZ.out, HL.out], ?_, ?_, ?_, sAB, sAC, sBC, ?_⟩
  all_goals first
    | exact (((((HoA.out.nx gW3).nx N8).far (by simp; omega) _).far (by simp; omega) _).far (by simp; omega) _).mono (by omega)
    | exact (((((HoB.out.nx gW3).nx N8).far (by simp; omega) _).far (by simp; omega) _).far (by simp; omega) _).mono (by omega)
    | exact (((((HoC.out.nx gW3).nx N8).far (by simp; omega) _).far (by simp; omega) _).far (by simp; omega) _).mono (by omega)
    | exact (((N.trans N8).setCell (by simp) _).setCell (by simp) _).setCell (by simp) _
end Go.Proofs.Yticjoichmcegnaa
