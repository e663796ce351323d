/- Contracts: UndoSets of both. -/
import Derived.Test.YticjoichmcegnaaTE
import Derived.StillTailTactics
namespace Go.Proofs.Yticjoichmcegnaa
open Go.RowKit set_option linter.unusedVariables false set_option linter.unusedSimpArgs false

theorem EdgesAt.takeN {w : World} {A : Option Addr} {es : Es} (h : EdgesAt w A es) (k : Nat) : EdgesAt w A (es.take k) := fun h0 => by
  obtain ⟨b, off, e, hb, hc⟩ := h (by simp at h0; omega)
  exact ⟨b, off, e, hb, fun j hj => by have hj2 : j < es.length := (by simp at hj; omega); have := hc j hj2; simpa using this⟩
/-- the sets k steps back -/
def backS (P : List Int) (T : Es) (k : Nat) : SS := (rpS P.length (T.take (T.length - k))).1
theorem backS_ok {P Z : List Int} {T : Es} (h : SV P Z T) (k : Nat) : (rpS P.length (T.take (T.length - k))).2 = true := rpS_take_ok h.2.2.1 _
theorem backS_inv {P Z : List Int} {T : Es} (h : SV P Z T) (k : Nat) : Inv P.length (backS P T k) := rpS_inv h.1 _
theorem backS_T {P Z : List Int} {T : Es} (h : SV P Z T) (k : Nat) : (backS P T k).T = T.take (T.length - k) := (rpS_T _ (backS_ok h k)).1

set_option maxRecDepth 100000 in
set_option maxHeartbeats 4000000 in
theorem sUndo_yes (A B C : Option Addr) (ca cb cc k : Nat) (P Z : List Int) (T : Es) (w : World) (hA : IntsAt w A P) (hB : IntsAt w B Z) (hC : EdgesAt w C T) (hv : SV P Z T) (hk : k ≤ T.length) :
    Calls Try.prog 28 #[St A P.length ca B Z.length cb C T.length cc, V k] w (RetSW (backS P T k) (tupT true) w) := by
  have hlz : Z.length = P.length := hv.inv.lz
  have l1 : P.length ≤ 16 := hv.2.1
  have l3 := hv.steps
  have hsv := fun w' a b c => sSetsValid_c A B C ca cb cc P.length Z.length T.length P Z T w' a b c rfl rfl rfl (by omega) (by omega) (by omega)
  rw [decide_eq_true hv] at hsv
  have hun := fun w' a b c => l3Undo_c A B C P.length ca cb T.length cc k P Z T w' a b c rfl rfl hv hk
  rw [← hlz] at hun
  change ∀ w' a b c, Calls Try.prog 81 #[St A Z.length ca B Z.length cb C T.length cc, V k] w' (RetSW (rpS Z.length (T.take (T.length - k))).1 id w') at hun
  rw [hlz] at hun
  have hun' : ∀ w', IntsAt w' A P → IntsAt w' B Z → EdgesAt w' C T → Calls Try.prog 81 #[St A P.length ca B Z.length cb C T.length cc, V k] w' (RetSW (backS P T k) id w') := by
    rw [hlz]; exact hun
  clear hun
  generalize backS P T k = s at *
  have Hsv := Lib.hid hsv
  have Hun := Lib.hid hun'
  have d1 : decide ((k : Int) < 0) = false := by simp
  have d2 : decide ((T.length : Int) < (k : Int)) = false := by simp; omega
  obtain ⟨l, hl⟩ : ∃ l, T.length = l := ⟨_, rfl⟩
  obtain ⟨n, hn⟩ : ∃ l, P.length = l := ⟨_, rfl⟩
  obtain ⟨m, hm⟩ : ∃ l, Z.length = l := ⟨_, rfl⟩
  rw [hl] at d2 hk
  rw [hl, hn, hm] at Hsv Hun ⊢
  clear hsv hun' hlz l1 l3 hl hn hm hv
  go_enter Try.func28, Try.ntmps28
  go_wp2_with fail
  generalize hW1 : World.alloc _ _ = W1
  have gW1 : Nx w W1 := by subst hW1; exact (by repeat (first | exact Nx.refl _ | assumption | apply Nx.alloc | apply Nx.drew | apply Nx.drewN | (refine Nx.setCell ?_ (by first | (simp; done) | (simp; omega) | omega) _) | refine Nx.trans ?_ (by assumption)))
  have sW1 : W1.heap.size = w.heap.size + 2 := by subst hW1; simp
  have X0 : Bx W1 (w.heap.size) 37 [.slice A n ca, .slice B m cb, .slice C l cc] := by subst hW1; have h := Bx.alloc w 37 [.slice A n ca, .slice B m cb, .slice C l cc]; have h := h.nx (Nx.alloc (Nx.refl _) (.cells #[.slice none 0 0, .slice none 0 0, .slice none 0 0] 37)); simpa using h
  have X1 : Bx W1 (w.heap.size + 1) 37 [.slice none 0 0, .slice none 0 0, .slice none 0 0] := by subst hW1; have h := Bx.alloc (w.alloc (.cells #[.slice A n ca, .slice B m cb, .slice C l cc] 37)) 37 [.slice none 0 0, .slice none 0 0, .slice none 0 0]; simpa using h
  have X0_0 := X0.cell (j := 0) rfl
  have X0_1 := X0.cell (j := 1) rfl
  have X0_2 := X0.cell (j := 2) rfl
  have X0_z := X0.lt
  have X1_0 := X1.cell (j := 0) rfl
  have X1_1 := X1.cell (j := 1) rfl
  have X1_2 := X1.cell (j := 2) rfl
  have X1_z := X1.lt
  have HsW1 := Lib.hid sW1
  have lW1 : w.heap.size + 2 ≤ W1.heap.size := by omega
  clear hW1 sW1
  have N := gW1
  refine (Hsv.out _ (hA.nx N) (hB.nx N) (hC.nx N)).mono ?_
  rintro e w2 ⟨rfl, hn2⟩
  replace X0 := X0.nx hn2
  replace X0_0 := X0.cell (j := 0) rfl
  replace X0_1 := X0.cell (j := 1) rfl
  replace X0_2 := X0.cell (j := 2) rfl
  replace X0_z := X0.lt
  replace X1 := X1.nx hn2
  replace X1_0 := X1.cell (j := 0) rfl
  replace X1_1 := X1.cell (j := 1) rfl
  replace X1_2 := X1.cell (j := 2) rfl
  replace X1_z := X1.lt
  replace N := N.trans hn2
  go_wp2_with fail
  refine (Hun.out _ (hA.nx N) (hB.nx N) (hC.nx N)).mono ?_
  rintro e w5 ⟨A5, ca5, B5, cb5, C5, cc5, rfl, oA, oB, oC, tAB, tAC, tBC, hn5⟩
  replace X1 := X1.nx hn5
  replace X1_0 := X1.cell (j := 0) rfl
  replace X1_1 := X1.cell (j := 1) rfl
  replace X1_2 := X1.cell (j := 2) rfl
  replace X1_z := X1.lt
  have X1_f := X1.free
  have z5 := N.size
  have z2 := hn2.size
  have HoA := Lib.hid oA
  have HoB := Lib.hid oB
  have HoC := Lib.hid oC
  clear oA oB oC
  go_wp2
  refine bodyPost_ret (v := tupT true (St A5 s.P.length ca5 B5 s.Z.length cb5 C5 s.T.length cc5)) (by simp [results, Try.f28, go_sem, *]) rfl ?_
  refine ⟨A5, ca5, B5, cb5, C5, cc5, rfl, ?_, ?_, ?_, tAB, tAC, tBC, ?_⟩
  · exact OwnI.mono (base := w2.heap.size) (((HoA.out.far (by first | (simp; done) | (simp; omega)) _).far (by first | (simp; done) | (simp; omega)) _).far (by first | (simp; done) | (simp; omega)) _) (by omega)
  · exact OwnI.mono (base := w2.heap.size) (((HoB.out.far (by first | (simp; done) | (simp; omega)) _).far (by first | (simp; done) | (simp; omega)) _).far (by first | (simp; done) | (simp; omega)) _) (by omega)
  · exact WkE.mono (base := w2.heap.size) (((HoC.out.far (by first | (simp; done) | (simp; omega)) _).far (by first | (simp; done) | (simp; omega)) _).far (by first | (simp; done) | (simp; omega)) _) (by omega)
  · exact (((N.trans hn5).setCell (by first | (simp; done) | (simp; omega)) _).setCell (by first | (simp; done) | (simp; omega)) _).setCell (by first | (simp; done) | (simp; omega)) _

set_option maxRecDepth 100000 in
set_option maxHeartbeats 4000000 in
theorem iUndo_yes (A B C : Option Addr) (ca cb cc k : Nat) (P Z : List Int) (T : Es) (w : World) (hA : IntsAt w A P) (hB : IntsAt w B Z) (hC : EdgesAt w C T) (hcap : T.length ≤ cc) (hv : SV P Z T) (hk : k ≤ T.length) :
    Calls Try.prog 27 #[St A P.length ca B Z.length cb C T.length cc, V k] w (RetSS (backS P T k) (tupT true) w) := by
  have hlz : Z.length = P.length := hv.inv.lz
  have l1 : P.length ≤ 16 := hv.2.1
  have n1 : 1 ≤ P.length := hv.1
  have l3 := hv.steps
  have hsv := fun w' a b c => iSetsValid_c A B C ca cb cc P.length Z.length T.length P Z T w' a b c rfl rfl rfl (by omega) (by omega) (by omega)
  rw [decide_eq_true hv] at hsv
  have hrp := fun w' a => replay_c P.length n1 l1 C cc (T.take (T.length - k)) w' a (by rw [List.length_take]; omega)
  rw [show (rpS P.length (T.take (T.length - k))).2 = true from backS_ok hv k, show (T.take (T.length - k)).length = T.length - k by rw [List.length_take]; omega] at hrp
  change ∀ w' a, Calls Try.prog 68 #[V P.length, .slice C (T.length - k : Nat) cc] w' (RetSS (backS P T k) (tupT true) w') at hrp
  generalize backS P T k = s at *
  have hcut : ∀ w', EdgesAt w' C T → EdgesAt w' C (T.take (T.length - k)) := fun w' h => EdgesAt.takeN h _
  have Hcut := Lib.hid hcut
  have Hsv := Lib.hid hsv
  have Hrp := Lib.hid hrp
  obtain ⟨l, hl⟩ : ∃ l, T.length = l := ⟨_, rfl⟩
  obtain ⟨n, hn⟩ : ∃ l, P.length = l := ⟨_, rfl⟩
  obtain ⟨m, hm⟩ : ∃ l, Z.length = l := ⟨_, rfl⟩
  obtain ⟨T', hT'⟩ : ∃ x, T.take (T.length - k) = x := ⟨_, rfl⟩
  rw [hT'] at Hcut Hrp
  rw [hl] at hk l3 hcap Hrp
  rw [hl, hn, hm] at Hsv ⊢
  rw [hn] at Hrp
  have d1 : decide ((k : Int) < 0) = false := by simp
  have d2 : decide ((l : Int) < (k : Int)) = false := by simp; omega
  obtain ⟨j, hj⟩ : ∃ j, l - k = j := ⟨_, rfl⟩
  rw [hj] at Hrp
  have hsub : IntKind.i64.wrap ((l : Int) - (k : Int)) = (j : Int) := by rw [IntWalk.i64_in _ (by omega)]; omega
  have hjc : j ≤ cc := by omega
  have hjl : j ≤ l := by omega
  clear hsv hrp hcut hlz l1 hl hn hm hv n1 hT' hj
  go_enter Try.func27, Try.ntmps27
  go_wp2_with fail
  generalize hW1 : World.alloc _ _ = W1
  have gW1 : Nx w W1 := by subst hW1; exact (by repeat (first | exact Nx.refl _ | assumption | apply Nx.alloc | apply Nx.drew | apply Nx.drewN | (refine Nx.setCell ?_ (by first | (simp; done) | (simp; omega) | omega) _) | refine Nx.trans ?_ (by assumption)))
  have sW1 : W1.heap.size = w.heap.size + 2 := by subst hW1; simp
  have X0 : Bx W1 (w.heap.size) 37 [.slice A n ca, .slice B m cb, .slice C l cc] := by subst hW1; have h := Bx.alloc w 37 [.slice A n ca, .slice B m cb, .slice C l cc]; have h := h.nx (Nx.alloc (Nx.refl _) (.cells #[.slice none 0 0, .slice none 0 0, .slice none 0 0] 37)); simpa using h
  have X1 : Bx W1 (w.heap.size + 1) 37 [.slice none 0 0, .slice none 0 0, .slice none 0 0] := by subst hW1; have h := Bx.alloc (w.alloc (.cells #[.slice A n ca, .slice B m cb, .slice C l cc] 37)) 37 [.slice none 0 0, .slice none 0 0, .slice none 0 0]; simpa using h
  have X0_0 := X0.cell (j := 0) rfl
  have X0_1 := X0.cell (j := 1) rfl
  have X0_2 := X0.cell (j := 2) rfl
  have X0_z := X0.lt
  have X1_0 := X1.cell (j := 0) rfl
  have X1_1 := X1.cell (j := 1) rfl
  have X1_2 := X1.cell (j := 2) rfl
  have X1_z := X1.lt
  have HsW1 := Lib.hid sW1
  have lW1 : w.heap.size + 2 ≤ W1.heap.size := by omega
  clear hW1 sW1
  have N := gW1
  refine (Hsv.out _ (hA.nx N) (hB.nx N) (hC.nx N)).mono ?_
  rintro e w2 ⟨rfl, hn2⟩
  replace X0 := X0.nx hn2
  replace X0_0 := X0.cell (j := 0) rfl
  replace X0_1 := X0.cell (j := 1) rfl
  replace X0_2 := X0.cell (j := 2) rfl
  replace X0_z := X0.lt
  replace X1 := X1.nx hn2
  replace X1_0 := X1.cell (j := 0) rfl
  replace X1_1 := X1.cell (j := 1) rfl
  replace X1_2 := X1.cell (j := 2) rfl
  replace X1_z := X1.lt
  replace N := N.trans hn2
  go_wp2_with fail
  have kp : ∀ w', Rx (w.heap.size + 1) w2 w' → (fun w_ => Rx (w.heap.size + 1) w2 w_ ∧ w_.cell? ⟨w.heap.size, 0, none⟩ = some (.slice A n ca) ∧ w_.cell? ⟨w.heap.size, 2, none⟩ = some (.slice C l cc)) w' := fun w' h => ⟨h, World.grownBy.cell h X0_0 (by simp), World.grownBy.cell h X0_2 (by simp)⟩
  have hdr : Nx w2 w2.drew := .drew (.refl _)
  have hcd := Hcut.out _ (hC.nx (N.trans hdr))
  have X1_f := X1.free
  go_region_held3 (fun w_ => Rx (w.heap.size + 1) w2 w_ ∧ w_.cell? ⟨w.heap.size, 0, none⟩ = some (.slice A n ca) ∧ w_.cell? ⟨w.heap.size, 2, none⟩ = some (.slice C l cc))
    (first
      | (refine kp _ (Nx.rx (?_ : Nx w2 _) _); (repeat (first | exact Nx.refl _ | assumption | apply Nx.alloc | apply Nx.drew | apply Nx.drewN | refine Nx.trans ?_ (by assumption))); done)
      | (refine kp _ ((((Nx.rx (?_ : Nx w2 _) _).setCell _ _).setCell _ _).setCell _ _); (repeat (first | exact Nx.refl _ | assumption | apply Nx.alloc | apply Nx.drew | apply Nx.drewN | refine Nx.trans ?_ (by assumption))); done))
    (first
      | (go_at_call 68; (with_reducible refine (Hrp.out _ hcd).mono ?_); rintro e w5 ⟨A5, ca5, B5, cb5, C5, cc5, rfl, oA, oB, oC, tAB, tAC, tBC, hn25⟩; have hn5 : Nx w2 w5 := hdr.trans hn25; have Y1 := X1.nx hn5; have Y1_0 := Y1.cell (j := 0) rfl; have Y1_1 := Y1.cell (j := 1) rfl; have Y1_2 := Y1.cell (j := 2) rfl; have Y1_f := Y1.free; have Y1_z := Y1.lt))
  have z5 := N.size
  have z2 := hdr.size
  have HoA := Lib.hid oA
  have HoB := Lib.hid oB
  have HoC := Lib.hid oC
  clear oA oB oC kp hcd
  go_wp2
  refine bodyPost_ret (v := tupT true (St A5 s.P.length ca5 B5 s.Z.length cb5 C5 s.T.length cc5)) (by simp [results, Try.f27, go_sem, *]) rfl ?_
  have zd : w2.drew.heap.size = w2.heap.size := size_drew_ _
  refine ⟨A5, ca5, B5, cb5, C5, cc5, rfl, ?_, ?_, ?_, tAB, tAC, tBC, ?_⟩
  · exact OwnI.mono (base := w2.drew.heap.size) (((HoA.out.far (by rw [zd]; first | (simp; done) | (simp; omega)) _).far (by rw [zd]; first | (simp; done) | (simp; omega)) _).far (by rw [zd]; first | (simp; done) | (simp; omega)) _) (by omega)
  · exact OwnI.mono (base := w2.drew.heap.size) (((HoB.out.far (by rw [zd]; first | (simp; done) | (simp; omega)) _).far (by rw [zd]; first | (simp; done) | (simp; omega)) _).far (by rw [zd]; first | (simp; done) | (simp; omega)) _) (by omega)
  · exact OwnE.mono (base := w2.drew.heap.size) (((HoC.out.far (by rw [zd]; first | (simp; done) | (simp; omega)) _).far (by rw [zd]; first | (simp; done) | (simp; omega)) _).far (by rw [zd]; first | (simp; done) | (simp; omega)) _) (by omega)
  · exact (((N.trans hn5).setCell (by first | (simp; done) | (simp; omega)) _).setCell (by first | (simp; done) | (simp; omega)) _).setCell (by first | (simp; done) | (simp; omega)) _

set_option maxRecDepth 100000 in
set_option maxHeartbeats 4000000 in
theorem sUndo_no (A B C : Option Addr) (ca cb cc : Nat) (k : Int) (P Z : List Int) (T : Es) (w : World) (hA : IntsAt w A P) (hB : IntsAt w B Z) (hC : EdgesAt w C T) (hno : ¬ (SV P Z T ∧ 0 ≤ k ∧ k ≤ T.length)) (l1 : P.length ≤ 1048576) (l2 : Z.length ≤ 1048576) (l3 : T.length ≤ 1048576) :
    Calls Try.prog 28 #[St A P.length ca B Z.length cb C T.length cc, V k] w (RetV (tupT false (St none 0 0 none 0 0 none 0 0)) w) := by
  have hsv := fun w' a b c => sSetsValid_c A B C ca cb cc P.length Z.length T.length P Z T w' a b c rfl rfl rfl l1 l2 l3
  have hcase : decide (SV P Z T) = false ∨ (decide (SV P Z T) = true ∧ decide (k < 0) = true) ∨ (decide (SV P Z T) = true ∧ decide (k < 0) = false ∧ decide ((T.length : Int) < k) = true) := by
    by_cases h : SV P Z T
    · right
      by_cases h2 : k < 0
      · left; simp [h, h2]
      · right; refine ⟨by simp [h], by simpa using h2, ?_⟩; simp; exact Int.not_le.1 fun h3 => hno ⟨h, by omega, h3⟩
    · left; simp [h]
  obtain ⟨r, hr⟩ : ∃ r, decide (SV P Z T) = r := ⟨_, rfl⟩
  rw [hr] at hsv hcase
  clear hr hno
  have Hsv := Lib.hid hsv
  obtain ⟨l, hl⟩ : ∃ l, T.length = l := ⟨_, rfl⟩
  obtain ⟨n, hn⟩ : ∃ l, P.length = l := ⟨_, rfl⟩
  obtain ⟨m, hm⟩ : ∃ l, Z.length = l := ⟨_, rfl⟩
  rw [hl] at hcase l3
  rw [hl, hn, hm] at Hsv ⊢
  clear hsv hl hn hm
  rcases hcase with rfl | ⟨rfl, d1⟩ | ⟨rfl, d1, d2⟩
  all_goals go_enter Try.func28, Try.ntmps28
  all_goals go_wp2_with fail
  all_goals generalize hW1 : World.alloc _ _ = W1
  all_goals have N : Nx w W1 := by subst hW1; exact (by repeat (first | exact Nx.refl _ | assumption | apply Nx.alloc | apply Nx.drew | apply Nx.drewN | (refine Nx.setCell ?_ (by first | (simp; done) | (simp; omega) | omega) _) | refine Nx.trans ?_ (by assumption)))
  all_goals have X0 : Bx W1 w.heap.size 37 [.slice A n ca, .slice B m cb, .slice C l cc] := by subst hW1; have h := Bx.alloc w 37 [.slice A n ca, .slice B m cb, .slice C l cc]; have h := h.nx (Nx.alloc (Nx.refl _) (.cells #[.slice none 0 0, .slice none 0 0, .slice none 0 0] 37)); simpa using h
  all_goals have X1 : Bx W1 (w.heap.size + 1) 37 [.slice none 0 0, .slice none 0 0, .slice none 0 0] := by subst hW1; have h := Bx.alloc (w.alloc (.cells #[.slice A n ca, .slice B m cb, .slice C l cc] 37)) 37 [.slice none 0 0, .slice none 0 0, .slice none 0 0]; simpa using h
  all_goals clear hW1
  all_goals refine (Hsv.out _ (hA.nx N) (hB.nx N) (hC.nx N)).mono ?_
  all_goals rintro e w2 ⟨rfl, hn2⟩
  all_goals replace X0 := X0.nx hn2
  all_goals replace X1 := X1.nx hn2
  all_goals have X0_2 := X0.cell (j := 2) rfl
  all_goals have X1_0 := X1.cell (j := 0) rfl
  all_goals have X1_1 := X1.cell (j := 1) rfl
  all_goals have X1_2 := X1.cell (j := 2) rfl
  all_goals have X0_z := X0.lt
  all_goals have X1_z := X1.lt
  all_goals have X1_f := X1.free
  all_goals replace N := N.trans hn2
  all_goals go_wp2
  all_goals refine bodyPost_ret (v := tupT false (St none 0 0 none 0 0 none 0 0)) (by simp [results, Try.f28, go_sem, *]) rfl ?_
  all_goals exact RetV.mk rfl ((((N.setCell (by first | (simp; done) | (simp; omega)) _).setCell (by first | (simp; done) | (simp; omega)) _).setCell (by first | (simp; done) | (simp; omega)) _))

set_option maxRecDepth 100000 in
set_option maxHeartbeats 4000000 in
theorem iUndo_no (A B C : Option Addr) (ca cb cc : Nat) (k : Int) (P Z : List Int) (T : Es) (w : World) (hA : IntsAt w A P) (hB : IntsAt w B Z) (hC : EdgesAt w C T) (hno : ¬ (SV P Z T ∧ 0 ≤ k ∧ k ≤ T.length)) (l1 : P.length ≤ 1048576) (l2 : Z.length ≤ 1048576) (l3 : T.length ≤ 1048576) :
    Calls Try.prog 27 #[St A P.length ca B Z.length cb C T.length cc, V k] w (RetV (tupT false (St none 0 0 none 0 0 none 0 0)) w) := by
  have hsv := fun w' a b c => iSetsValid_c A B C ca cb cc P.length Z.length T.length P Z T w' a b c rfl rfl rfl l1 l2 l3
  have hcase : decide (SV P Z T) = false ∨ (decide (SV P Z T) = true ∧ decide (k < 0) = true) ∨ (decide (SV P Z T) = true ∧ decide (k < 0) = false ∧ decide ((T.length : Int) < k) = true) := by
    by_cases h : SV P Z T
    · right
      by_cases h2 : k < 0
      · left; simp [h, h2]
      · right; refine ⟨by simp [h], by simpa using h2, ?_⟩; simp; exact Int.not_le.1 fun h3 => hno ⟨h, by omega, h3⟩
    · left; simp [h]
  obtain ⟨r, hr⟩ : ∃ r, decide (SV P Z T) = r := ⟨_, rfl⟩
  rw [hr] at hsv hcase
  clear hr hno
  have Hsv := Lib.hid hsv
  obtain ⟨l, hl⟩ : ∃ l, T.length = l := ⟨_, rfl⟩
  obtain ⟨n, hn⟩ : ∃ l, P.length = l := ⟨_, rfl⟩
  obtain ⟨m, hm⟩ : ∃ l, Z.length = l := ⟨_, rfl⟩
  rw [hl] at hcase l3
  rw [hl, hn, hm] at Hsv ⊢
  clear hsv hl hn hm
  rcases hcase with rfl | ⟨rfl, d1⟩ | ⟨rfl, d1, d2⟩
  all_goals go_enter Try.func27, Try.ntmps27
  all_goals go_wp2_with fail
  all_goals generalize hW1 : World.alloc _ _ = W1
  all_goals have N : Nx w W1 := by subst hW1; exact (by repeat (first | exact Nx.refl _ | assumption | apply Nx.alloc | apply Nx.drew | apply Nx.drewN | (refine Nx.setCell ?_ (by first | (simp; done) | (simp; omega) | omega) _) | refine Nx.trans ?_ (by assumption)))
  all_goals have X0 : Bx W1 w.heap.size 37 [.slice A n ca, .slice B m cb, .slice C l cc] := by subst hW1; have h := Bx.alloc w 37 [.slice A n ca, .slice B m cb, .slice C l cc]; have h := h.nx (Nx.alloc (Nx.refl _) (.cells #[.slice none 0 0, .slice none 0 0, .slice none 0 0] 37)); simpa using h
  all_goals have X1 : Bx W1 (w.heap.size + 1) 37 [.slice none 0 0, .slice none 0 0, .slice none 0 0] := by subst hW1; have h := Bx.alloc (w.alloc (.cells #[.slice A n ca, .slice B m cb, .slice C l cc] 37)) 37 [.slice none 0 0, .slice none 0 0, .slice none 0 0]; simpa using h
  all_goals clear hW1
  all_goals refine (Hsv.out _ (hA.nx N) (hB.nx N) (hC.nx N)).mono ?_
  all_goals rintro e w2 ⟨rfl, hn2⟩
  all_goals replace X0 := X0.nx hn2
  all_goals replace X1 := X1.nx hn2
  all_goals have X0_2 := X0.cell (j := 2) rfl
  all_goals have X1_0 := X1.cell (j := 0) rfl
  all_goals have X1_1 := X1.cell (j := 1) rfl
  all_goals have X1_2 := X1.cell (j := 2) rfl
  all_goals have X0_z := X0.lt
  all_goals have X1_z := X1.lt
  all_goals have X1_f := X1.free
  all_goals replace N := N.trans hn2
  all_goals go_wp2
  all_goals refine bodyPost_ret (v := tupT false (St none 0 0 none 0 0 none 0 0)) (by simp [results, Try.f27, go_sem, *]) rfl ?_
  all_goals exact RetV.mk rfl ((((N.setCell (by first | (simp; done) | (simp; omega)) _).setCell (by first | (simp; done) | (simp; omega)) _).setCell (by first | (simp; done) | (simp; omega)) _))
end Go.Proofs.Yticjoichmcegnaa
