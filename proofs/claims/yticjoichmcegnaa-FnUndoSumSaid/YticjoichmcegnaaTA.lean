/- Contracts: sizes and copies of sets in the exact laws. -/
import Derived.Test.YticjoichmcegnaaS1
import Derived.Test.YticjoichmcegnaaT4
namespace Go.Proofs.Yticjoichmcegnaa
open Go.RowKit set_option linter.unusedVariables false set_option linter.unusedSimpArgs false

theorem szIntS_c (A : Option Addr) (n c : Nat) (left : Int) (w : World) (hl : 0 ≤ left) (hl' : left ≤ 1048576) (hn : n ≤ 9223372036854775807) :
    Calls Try.prog 74 #[.slice A n c, V left] w (RetS (V (szL n left)) w) := by
  by_cases h : left - n < 0
  · rw [show szL n left = -1 by simp [szL, h]]
    go_enter Try.func74, Try.ntmps74
    go_wp2
    go_ret
    exact RetS.int rfl
  · rw [show szL n left = left - n by simp [szL, h]]
    go_enter Try.func74, Try.ntmps74
    go_wp2
    go_ret
    exact RetS.int rfl
theorem szStepS_c (A : Option Addr) (n c : Nat) (left : Int) (w : World) (hl : 0 ≤ left) (hl' : left ≤ 1048576) (hn : n ≤ 9223372036854775807) :
    Calls Try.prog 75 #[.slice A n c, V left] w (RetS (V (szL n left)) w) := by
  by_cases h : left - n < 0
  · rw [show szL n left = -1 by simp [szL, h]]
    go_enter Try.func75, Try.ntmps75
    go_wp2
    go_ret
    exact RetS.int rfl
  · rw [show szL n left = left - n by simp [szL, h]]
    go_enter Try.func75, Try.ntmps75
    go_wp2
    go_ret
    exact RetS.int rfl
/-- what is left behind sets -/
def szS (n m l : Nat) (left : Int) : Int := if szL n left < 0 then -1 else if szL m (szL n left) < 0 then -1 else szL l (szL m (szL n left))
theorem szL_neg {n : Nat} {left : Int} (h : szL n left < 0) : szL n left = -1 := by
  unfold szL at *
  split at h
  · rename_i h1; rw [if_pos h1]
  · omega
theorem szS_ok {n m l : Nat} {left : Int} (h : ¬ szS n m l left < 0) : (n : Int) ≤ left ∧ (m : Int) ≤ left ∧ (l : Int) ≤ left ∧ 0 ≤ szS n m l left ∧ szS n m l left ≤ left := by
  unfold szS at *
  split at h
  · omega
  · split at h
    · omega
    · rename_i h1 h2
      rw [if_neg h1, if_neg h2]
      have a := szL_ok h1
      have b := szL_ok h2
      have c := szL_ok h
      omega
theorem szSets_c (A B C : Option Addr) (n m l ca cb cc : Nat) (left : Int) (w : World) (hl : 0 ≤ left) (hl' : left ≤ 1048576) (hn : n ≤ 9223372036854775807) (hm : m ≤ 9223372036854775807) (hk : l ≤ 9223372036854775807) :
    Calls Try.prog 23 #[St A n ca B m cb C l cc, V left] w (RetV (V (szS n m l left)) w) := by
  have e1 := fun w' => szIntS_c A n ca left w' hl hl' hn
  by_cases h1 : szL n left < 0
  · rw [show szS n m l left = -1 by simp [szS, h1]]
    rw [szL_neg h1] at e1
    have E1 := Lib.hid e1
    clear e1 h1
    go_enter Try.func23, Try.ntmps23
    go_wp2_with fail
    generalize hW1 : World.alloc _ _ = W1
    have gW1 : Nx w W1 := by subst hW1; exact (by repeat (first | exact Nx.refl _ | assumption | apply Nx.alloc | apply Nx.drew | apply Nx.drewN | (refine Nx.setCell ?_ (by first | (simp; done) | (simp; omega) | omega) _) | refine Nx.trans ?_ (by assumption)))
    have sW1 : W1.heap.size = w.heap.size + 1 := by subst hW1; simp
    have X0 : Bx W1 (w.heap.size) 42 [.slice A n ca, .slice B m cb, .slice C l cc] := by subst hW1; have h := Bx.alloc w 42 [.slice A n ca, .slice B m cb, .slice C l cc]; simpa using h
    have X0_0 := X0.cell (j := 0) rfl
    have X0_1 := X0.cell (j := 1) rfl
    have X0_2 := X0.cell (j := 2) rfl
    have X0_z := X0.lt
    have HsW1 := Lib.hid sW1
    have lW1 : w.heap.size + 1 ≤ W1.heap.size := by omega
    clear hW1 sW1
    refine (E1.out _).mono ?_
    rintro e w2 ⟨rfl, rfl⟩
    go_wp2
    go_ret
    exact RetV.int rfl gW1
  · obtain ⟨_, p0, p1⟩ := szL_ok h1
    have e2 := fun w' => szIntS_c B m cb (szL n left) w' (by omega) (by omega) hm
    by_cases h2 : szL m (szL n left) < 0
    · rw [show szS n m l left = -1 by simp [szS, h1, h2]]
      rw [szL_neg h2] at e2
      generalize szL n left = p at *
      have E1 := Lib.hid e1
      have E2 := Lib.hid e2
      clear e1 e2
      go_enter Try.func23, Try.ntmps23
      go_wp2_with fail
      generalize hW1 : World.alloc _ _ = W1
      have gW1 : Nx w W1 := by subst hW1; exact (by repeat (first | exact Nx.refl _ | assumption | apply Nx.alloc | apply Nx.drew | apply Nx.drewN | (refine Nx.setCell ?_ (by first | (simp; done) | (simp; omega) | omega) _) | refine Nx.trans ?_ (by assumption)))
      have sW1 : W1.heap.size = w.heap.size + 1 := by subst hW1; simp
      have X0 : Bx W1 (w.heap.size) 42 [.slice A n ca, .slice B m cb, .slice C l cc] := by subst hW1; have h := Bx.alloc w 42 [.slice A n ca, .slice B m cb, .slice C l cc]; simpa using h
      have X0_0 := X0.cell (j := 0) rfl
      have X0_1 := X0.cell (j := 1) rfl
      have X0_2 := X0.cell (j := 2) rfl
      have X0_z := X0.lt
      have HsW1 := Lib.hid sW1
      have lW1 : w.heap.size + 1 ≤ W1.heap.size := by omega
      clear hW1 sW1
      refine (E1.out _).mono ?_
      rintro e w2 ⟨rfl, rfl⟩
      go_wp2_with fail
      refine (E2.out _).mono ?_
      rintro e w2 ⟨rfl, rfl⟩
      go_wp2
      go_ret
      exact RetV.int rfl gW1
    · obtain ⟨_, q0, q1⟩ := szL_ok h2
      have e3 := fun w' => szStepS_c C l cc (szL m (szL n left)) w' (by omega) (by omega) hk
      have hs : szS n m l left = szL l (szL m (szL n left)) := by simp [szS, h1, h2]
      by_cases h3 : szL l (szL m (szL n left)) < 0
      · rw [hs, szL_neg h3]
        rw [szL_neg h3] at e3
        clear hs h3
        generalize szL m (szL n left) = q at *
        generalize szL n left = p at *
        have E1 := Lib.hid e1
        have E2 := Lib.hid e2
        have E3 := Lib.hid e3
        clear e1 e2 e3
        go_enter Try.func23, Try.ntmps23
        go_wp2_with fail
        generalize hW1 : World.alloc _ _ = W1
        have gW1 : Nx w W1 := by subst hW1; exact (by repeat (first | exact Nx.refl _ | assumption | apply Nx.alloc | apply Nx.drew | apply Nx.drewN | (refine Nx.setCell ?_ (by first | (simp; done) | (simp; omega) | omega) _) | refine Nx.trans ?_ (by assumption)))
        have sW1 : W1.heap.size = w.heap.size + 1 := by subst hW1; simp
        have X0 : Bx W1 (w.heap.size) 42 [.slice A n ca, .slice B m cb, .slice C l cc] := by subst hW1; have h := Bx.alloc w 42 [.slice A n ca, .slice B m cb, .slice C l cc]; simpa using h
        have X0_0 := X0.cell (j := 0) rfl
        have X0_1 := X0.cell (j := 1) rfl
        have X0_2 := X0.cell (j := 2) rfl
        have X0_z := X0.lt
        have HsW1 := Lib.hid sW1
        have lW1 : w.heap.size + 1 ≤ W1.heap.size := by omega
        clear hW1 sW1
        refine (E1.out _).mono ?_
        rintro e w2 ⟨rfl, rfl⟩
        go_wp2_with fail
        refine (E2.out _).mono ?_
        rintro e w2 ⟨rfl, rfl⟩
        go_wp2_with fail
        refine (E3.out _).mono ?_
        rintro e w2 ⟨rfl, rfl⟩
        go_wp2
        go_ret
        exact RetV.int rfl gW1
      · obtain ⟨_, r0, r1⟩ := szL_ok h3
        rw [hs]
        clear hs
        generalize szL l (szL m (szL n left)) = r at *
        generalize szL m (szL n left) = q at *
        generalize szL n left = p at *
        have E1 := Lib.hid e1
        have E2 := Lib.hid e2
        have E3 := Lib.hid e3
        clear e1 e2 e3
        go_enter Try.func23, Try.ntmps23
        go_wp2_with fail
        generalize hW1 : World.alloc _ _ = W1
        have gW1 : Nx w W1 := by subst hW1; exact (by repeat (first | exact Nx.refl _ | assumption | apply Nx.alloc | apply Nx.drew | apply Nx.drewN | (refine Nx.setCell ?_ (by first | (simp; done) | (simp; omega) | omega) _) | refine Nx.trans ?_ (by assumption)))
        have sW1 : W1.heap.size = w.heap.size + 1 := by subst hW1; simp
        have X0 : Bx W1 (w.heap.size) 42 [.slice A n ca, .slice B m cb, .slice C l cc] := by subst hW1; have h := Bx.alloc w 42 [.slice A n ca, .slice B m cb, .slice C l cc]; simpa using h
        have X0_0 := X0.cell (j := 0) rfl
        have X0_1 := X0.cell (j := 1) rfl
        have X0_2 := X0.cell (j := 2) rfl
        have X0_z := X0.lt
        have HsW1 := Lib.hid sW1
        have lW1 : w.heap.size + 1 ≤ W1.heap.size := by omega
        clear hW1 sW1
        refine (E1.out _).mono ?_
        rintro e w2 ⟨rfl, rfl⟩
        go_wp2_with fail
        refine (E2.out _).mono ?_
        rintro e w2 ⟨rfl, rfl⟩
        go_wp2_with fail
        refine (E3.out _).mono ?_
        rintro e w2 ⟨rfl, rfl⟩
        go_wp2
        go_ret
        exact RetV.int rfl gW1

set_option maxHeartbeats 1000000 in
theorem toIntS_c (A : Option Addr) (c : Nat) (es : List Int) (w : World) (hx : IntsAt w A es) (hl : es.length ≤ 1048576) :
    Calls Try.prog 76 #[.slice A es.length c] w (RetI 3 es w) := by
  obtain ⟨i0, hi, hz0, hz1, hz2⟩ := info_parts infoI
  have hmk := run_make_rowN (P := Try.prog) 34 3 i0 _ Try.underlying34 hi hz0 .i64 .i64 es.length es.length (Nat.le_refl _) (by rw [hz2]; omega) (by omega)
  rw [hz1] at hmk
  clear hi hz0 hz1 hz2
  go_enter Try.func76, Try.ntmps76
  go_wp2
  have hm := OwnI.made (w := w) (base := w.heap.size) (t := 3) es.length (Nat.le_refl _) (by omega)
  rw [Nat.mul_one] at hm
  have hnm : Nx w (w.alloc (.cells (madeCells #[V 0] es.length) 3)) := (by repeat (first | exact Nx.refl _ | assumption | apply Nx.alloc | apply Nx.drew | apply Nx.drewN | (refine Nx.setCell ?_ (by first | (simp; done) | (simp; omega) | omega) _) | refine Nx.trans ?_ (by assumption)))
  generalize w.alloc _ = W at *
  go_loopw [4] (fun i wr => ∃ (k : Nat) (xs : List Int), k ≤ es.length ∧ i = .int .i64 k ∧ Nx w wr ∧ xs.length = es.length ∧ OwnI wr w.heap.size 3 (some ⟨w.heap.size, 0, none⟩) es.length xs ∧ ∀ j, j < k → xs[j]? = es[j]?) (fun i _ => es.length - (intOf i).toNat)
  case atStart => exact ⟨0, _, by omega, rfl, hnm, by simp, hm, fun j hj => by omega⟩
  case round =>
    obtain ⟨k, xs, hk, rfl, hn, hxl, hown, hxs⟩ := hrel
    have Hxs := Lib.hid hxs
    have Hxl := Lib.hid hxl
    have hxk : k < es.length → k < xs.length := by omega
    clear hxs hxl hm hnm
    by_cases hlt : k < es.length
    · obtain ⟨x, hek⟩ : ∃ x, es[k]? = some x := ⟨_, List.getElem?_eq_getElem hlt⟩
      obtain ⟨b, off, rfl, hb, h1⟩ := (hx.nx hn).rd hek
      have c1 := hown.cell (hxk hlt)
      have f1 := hown.free
      have Hek := Lib.hid hek
      clear hx hek
      go_wp2
      go_roundw
      case rel => exact ⟨k + 1, xs.set k x, by omega, by go_num, (by repeat (first | exact Nx.refl _ | assumption | apply Nx.alloc | apply Nx.drew | apply Nx.drewN | (refine Nx.setCell ?_ (by first | (simp; done) | (simp; omega) | omega) _) | refine Nx.trans ?_ (by assumption))), by rw [List.length_set]; exact Hxl.out, hown.set k x, set_pref Hxs.out (hxk hlt) Hek.out⟩
      case measure => simp [intOf]; omega
    · go_wp2
      go_ret
      have hex : xs = es := pref_eq Hxl.out (fun j hj => Hxs.out j (by omega))
      subst hex
      exact ⟨_, _, rfl, hown, hn⟩

theorem toStep_c (x y : Int) (w : World) : Calls Try.prog 129 #[Ed x y] w (RetV (Ed x y) w) := by
  go_enter Try.func129, Try.ntmps129
  go_wp2
  refine bodyPost_ret (v := Ed x y) (by simp [results, Try.f129, go_sem, *]) rfl ?_
  exact RetV.mk rfl (by repeat (first | exact Nx.refl _ | assumption | apply Nx.alloc | apply Nx.drew | apply Nx.drewN | (refine Nx.setCell ?_ (by first | (simp; done) | (simp; omega) | omega) _) | refine Nx.trans ?_ (by assumption)))
set_option maxHeartbeats 1000000 in
theorem toStepS_c (A : Option Addr) (c : Nat) (es : List (Int × Int)) (w : World) (hx : EdgesAt w A es) (hl : es.length ≤ 1048576) :
    Calls Try.prog 77 #[.slice A es.length c] w (RetE 98 es w) := by
  obtain ⟨i0, hi, hz0, hz1, hz2⟩ := info_parts infoSt
  have hmk := run_make_rowN (P := Try.prog) 35 98 i0 _ Try.underlying35 hi hz0 .i64 .i64 es.length es.length (Nat.le_refl _) (by rw [hz2]; omega) (by omega)
  rw [hz1] at hmk
  clear hi hz0 hz1 hz2
  go_enter Try.func77, Try.ntmps77
  go_wp2
  have hm := OwnE.made (w := w) (base := w.heap.size) (t := 98) es.length (Nat.le_refl _) (by omega)
  have hnm : Nx w (w.alloc (.cells (madeCells #[V 0, V 0] (es.length * 2)) 98)) := (by repeat (first | exact Nx.refl _ | assumption | apply Nx.alloc | apply Nx.drew | apply Nx.drewN | (refine Nx.setCell ?_ (by first | (simp; done) | (simp; omega) | omega) _) | refine Nx.trans ?_ (by assumption)))
  generalize w.alloc _ = W at *
  go_loopw [4] (fun i wr => ∃ (k : Nat) (xs : List (Int × Int)), k ≤ es.length ∧ i = .int .i64 k ∧ Nx w wr ∧ xs.length = es.length ∧ OwnE wr w.heap.size 98 (some ⟨w.heap.size, 0, none⟩) es.length xs ∧ ∀ j, j < k → xs[j]? = es[j]?) (fun i _ => es.length - (intOf i).toNat)
  case atStart => exact ⟨0, _, by omega, rfl, hnm, by simp, hm, fun j hj => by omega⟩
  case round =>
    obtain ⟨k, xs, hk, rfl, hn, hxl, hown, hxs⟩ := hrel
    have Hxs := Lib.hid hxs
    have Hxl := Lib.hid hxl
    have hxk : k < es.length → k < xs.length := by omega
    clear hxs hxl hm hnm
    by_cases hlt : k < es.length
    · obtain ⟨b, off, rfl, hb, hc⟩ := hx (by omega)
      have h1 := hn.cell (p := ⟨b, off + k * 2, none⟩) hb (hc k hlt).1
      have h2 := hn.cell (p := ⟨b, off + k * 2 + 1, none⟩) hb (hc k hlt).2
      have hek : es[k]? = some es[k] := List.getElem?_eq_getElem hlt
      generalize es[k] = e at *
      obtain ⟨x, y⟩ := e
      have Hek := Lib.hid hek
      clear hc hx hek
      go_wp2_with (go_at_call 129; go_must (refine (toStep_c x y _).mono ?_; rintro e w1 ⟨rfl, hn1⟩; have ho1 := hown.nx hn1; obtain ⟨c1, c2⟩ := ho1.cell (hxk hlt); have f1 := ho1.free))
      go_roundw
      case rel => exact ⟨k + 1, xs.set k (x, y), by omega, by go_num, (by repeat (first | exact Nx.refl _ | assumption | apply Nx.alloc | apply Nx.drew | apply Nx.drewN | (refine Nx.setCell ?_ (by first | (simp; done) | (simp; omega) | omega) _) | refine Nx.trans ?_ (by assumption))), by rw [List.length_set]; exact Hxl.out, ho1.set k x y, set_pref Hxs.out (hxk hlt) Hek.out⟩
      case measure => simp [intOf]; omega
    · go_wp2
      go_ret
      have hex : xs = es := pref_eq Hxl.out (fun j hj => Hxs.out j (by omega))
      subst hex
      exact ⟨_, _, rfl, hown, hn⟩

theorem apart_if' {A B : Option Addr} (h : ∀ k, blk A = some k → blk B = some k → False) : Apart A B := by
  unfold Apart
  cases hA : blk A with
  | none => exact .inl rfl
  | some k => exact .inr fun e => h k hA e.symm
set_option maxHeartbeats 4000000 in
theorem toSets_c (A B C : Option Addr) (n m l ca cb cc : Nat) (s : SS) (w : World) (hA : IntsAt w A s.P) (hB : IntsAt w B s.Z) (hC : EdgesAt w C s.T) (h1 : s.P.length = n) (h2 : s.Z.length = m) (h3 : s.T.length = l) (l1 : n ≤ 1048576) (l2 : m ≤ 1048576) (l3 : l ≤ 1048576) :
    Calls Try.prog 24 #[St A n ca B m cb C l cc] w (RetSS s id w) := by
  subst h1 h2 h3
  go_enter Try.func24, Try.ntmps24
  go_wp2_with fail
  generalize hW1 : World.alloc _ _ = W1
  have gW1 : Nx w W1 := by subst hW1; exact (by repeat (first | exact Nx.refl _ | assumption | apply Nx.alloc | apply Nx.drew | apply Nx.drewN | (refine Nx.setCell ?_ (by first | (simp; done) | (simp; omega) | omega) _) | refine Nx.trans ?_ (by assumption)))
  have sW1 : W1.heap.size = w.heap.size + 3 := by subst hW1; simp
  have X0 : Bx W1 (w.heap.size) 42 [.slice A s.P.length ca, .slice B s.Z.length cb, .slice C s.T.length cc] := by subst hW1; have h := Bx.alloc w 42 [.slice A s.P.length ca, .slice B s.Z.length cb, .slice C s.T.length cc]; have h := h.nx (Nx.alloc (Nx.refl _) (.cells #[.slice none 0 0, .slice none 0 0, .slice none 0 0] 37)); have h := h.nx (Nx.alloc (Nx.refl _) (.cells #[.slice none 0 0, .slice none 0 0, .slice none 0 0] 37)); simpa using h
  have X1 : Bx W1 (w.heap.size + 1) 37 [.slice none 0 0, .slice none 0 0, .slice none 0 0] := by subst hW1; have h := Bx.alloc (w.alloc (.cells #[.slice A s.P.length ca, .slice B s.Z.length cb, .slice C s.T.length cc] 42)) 37 [.slice none 0 0, .slice none 0 0, .slice none 0 0]; have h := h.nx (Nx.alloc (Nx.refl _) (.cells #[.slice none 0 0, .slice none 0 0, .slice none 0 0] 37)); simpa using h
  have X2 : Bx W1 (w.heap.size + 2) 37 [.slice none 0 0, .slice none 0 0, .slice none 0 0] := by subst hW1; have h := Bx.alloc ((w.alloc (.cells #[.slice A s.P.length ca, .slice B s.Z.length cb, .slice C s.T.length cc] 42)).alloc (.cells #[.slice none 0 0, .slice none 0 0, .slice none 0 0] 37)) 37 [.slice none 0 0, .slice none 0 0, .slice none 0 0]; simpa using h
  have X0_0 := X0.cell (j := 0) rfl
  have X0_1 := X0.cell (j := 1) rfl
  have X0_2 := X0.cell (j := 2) rfl
  have X0_z := X0.lt
  have X1_0 := X1.cell (j := 0) rfl
  have X1_1 := X1.cell (j := 1) rfl
  have X1_2 := X1.cell (j := 2) rfl
  have X1_z := X1.lt
  have X2_0 := X2.cell (j := 0) rfl
  have X2_1 := X2.cell (j := 1) rfl
  have X2_2 := X2.cell (j := 2) rfl
  have X2_z := X2.lt
  have HsW1 := Lib.hid sW1
  have lW1 : w.heap.size + 3 ≤ W1.heap.size := by omega
  clear hW1 sW1
  have HA := Lib.hid hA
  have HB := Lib.hid hB
  have HC := Lib.hid hC
  clear hA hB hC
  have N := gW1
  refine (toIntS_c A ca s.P _ (HA.out.nx N) l1).mono ?_
  rintro e w2 ⟨A2, ca2, rfl, oA, hn2⟩
  have LA := fun k hk => (oA.lt k hk).2
  replace X0 := X0.nx hn2
  replace X0_0 := X0.cell (j := 0) rfl
  replace X0_1 := X0.cell (j := 1) rfl
  replace X0_2 := X0.cell (j := 2) rfl
  replace X0_z := X0.lt
  replace X1 := X1.nx hn2
  replace X1_0 := X1.cell (j := 0) rfl
  replace X1_1 := X1.cell (j := 1) rfl
  replace X1_2 := X1.cell (j := 2) rfl
  replace X1_z := X1.lt
  replace X2 := X2.nx hn2
  replace X2_0 := X2.cell (j := 0) rfl
  replace X2_1 := X2.cell (j := 1) rfl
  replace X2_2 := X2.cell (j := 2) rfl
  replace X2_z := X2.lt
  have X2_f := X2.free
  have z2 := hn2.size
  go_wp2_with fail
  generalize hW3 : World.setCell w2 _ _ = W3
  have g : w2.grownBy W3 (some (w.heap.size + 2)) := by subst hW3; exact grown_setCell _ _ _ _
  replace N := (N.trans hn2).grown g (fun k e => by injection e with e; omega)
  replace X2 : Bx W3 (w.heap.size + 2) 37 [.slice A2 s.P.length ca2, .slice none 0 0, .slice none 0 0] := by subst hW3; simpa using X2.set (j := 0) (.slice A2 s.P.length ca2)
  replace X0 := X0.grown g (by simp)
  replace X1 := X1.grown g (by simp)
  replace oA := oA.kept g (apart_ne fun k hk => by have := (oA.lt k hk).1; omega)
  have z3 := g.size
  clear hW3 g X0_0 X0_1 X0_2 X0_z X1_0 X1_1 X1_2 X1_z X2_0 X2_1 X2_2 X2_z X2_f
  have X0_0 := X0.cell (j := 0) rfl
  have X0_1 := X0.cell (j := 1) rfl
  have X0_2 := X0.cell (j := 2) rfl
  have X0_z := X0.lt
  have X1_0 := X1.cell (j := 0) rfl
  have X1_1 := X1.cell (j := 1) rfl
  have X1_2 := X1.cell (j := 2) rfl
  have X1_z := X1.lt
  have X2_0 := X2.cell (j := 0) rfl
  have X2_1 := X2.cell (j := 1) rfl
  have X2_2 := X2.cell (j := 2) rfl
  have X2_z := X2.lt
  refine (toIntS_c B cb s.Z _ (HB.out.nx N) l2).mono ?_
  rintro e w4 ⟨B2, cb2, rfl, oB, hn4⟩
  have LB := fun k hk => (oB.lt k hk).2
  replace X0 := X0.nx hn4
  replace X0_0 := X0.cell (j := 0) rfl
  replace X0_1 := X0.cell (j := 1) rfl
  replace X0_2 := X0.cell (j := 2) rfl
  replace X0_z := X0.lt
  replace X1 := X1.nx hn4
  replace X1_0 := X1.cell (j := 0) rfl
  replace X1_1 := X1.cell (j := 1) rfl
  replace X1_2 := X1.cell (j := 2) rfl
  replace X1_z := X1.lt
  replace X2 := X2.nx hn4
  replace X2_0 := X2.cell (j := 0) rfl
  replace X2_1 := X2.cell (j := 1) rfl
  replace X2_2 := X2.cell (j := 2) rfl
  replace X2_z := X2.lt
  have X2_f := X2.free
  have z4 := hn4.size
  replace oA := oA.nx hn4
  go_wp2_with fail
  generalize hW5 : World.setCell w4 _ _ = W5
  have g : w4.grownBy W5 (some (w.heap.size + 2)) := by subst hW5; exact grown_setCell _ _ _ _
  replace N := (N.trans hn4).grown g (fun k e => by injection e with e; omega)
  replace X2 : Bx W5 (w.heap.size + 2) 37 [.slice A2 s.P.length ca2, .slice B2 s.Z.length cb2, .slice none 0 0] := by subst hW5; simpa using X2.set (j := 1) (.slice B2 s.Z.length cb2)
  replace X0 := X0.grown g (by simp)
  replace X1 := X1.grown g (by simp)
  replace oA := oA.kept g (apart_ne fun k hk => by have := (oA.lt k hk).1; omega)
  replace oB := oB.kept g (apart_ne fun k hk => by have := (oB.lt k hk).1; omega)
  have z5 := g.size
  clear hW5 g X0_0 X0_1 X0_2 X0_z X1_0 X1_1 X1_2 X1_z X2_0 X2_1 X2_2 X2_z X2_f
  have X0_0 := X0.cell (j := 0) rfl
  have X0_1 := X0.cell (j := 1) rfl
  have X0_2 := X0.cell (j := 2) rfl
  have X0_z := X0.lt
  have X1_0 := X1.cell (j := 0) rfl
  have X1_1 := X1.cell (j := 1) rfl
  have X1_2 := X1.cell (j := 2) rfl
  have X1_z := X1.lt
  have X2_0 := X2.cell (j := 0) rfl
  have X2_1 := X2.cell (j := 1) rfl
  have X2_2 := X2.cell (j := 2) rfl
  have X2_z := X2.lt
  refine (toStepS_c C cc s.T _ (HC.out.nx N) l3).mono ?_
  rintro e w6 ⟨C2, cc2, rfl, oC, hn6⟩
  replace X0 := X0.nx hn6
  replace X0_0 := X0.cell (j := 0) rfl
  replace X0_1 := X0.cell (j := 1) rfl
  replace X0_2 := X0.cell (j := 2) rfl
  replace X0_z := X0.lt
  replace X1 := X1.nx hn6
  replace X1_0 := X1.cell (j := 0) rfl
  replace X1_1 := X1.cell (j := 1) rfl
  replace X1_2 := X1.cell (j := 2) rfl
  replace X1_z := X1.lt
  replace X2 := X2.nx hn6
  replace X2_0 := X2.cell (j := 0) rfl
  replace X2_1 := X2.cell (j := 1) rfl
  replace X2_2 := X2.cell (j := 2) rfl
  replace X2_z := X2.lt
  have X2_f := X2.free
  have X1_f := X1.free
  have HoA := Lib.hid (oA.nx hn6)
  have HoB := Lib.hid (oB.nx hn6)
  have HoC := Lib.hid oC
  replace N := N.trans hn6
  clear oA oB oC
  go_wp2
  refine bodyPost_ret (v := id (St A2 s.P.length ca2 B2 s.Z.length cb2 C2 s.T.length cc2)) (by simp [results, Try.f24, go_sem, *]) rfl ?_
  clear X0_0 X0_1 X0_2 X0_z X1_0 X1_1 X1_2 X1_z X2_0 X2_1 X2_2 X2_z X2_f X1_f
  refine ⟨A2, ca2, B2, cb2, C2, cc2, rfl, ?_, ?_, ?_, apart_if' fun k h1 h2 => ?_, apart_if' fun k h1 h2 => ?_, apart_if' fun k h1 h2 => ?_, ?_⟩
  · exact OwnI.mono (base := W1.heap.size) ((((HoA.out.far (by simp; omega) _).far (by simp; omega) _).far (by simp; omega) _).far (by simp; omega) _) (by omega)
  · exact OwnI.mono (base := W3.heap.size) ((((HoB.out.far (by simp; omega) _).far (by simp; omega) _).far (by simp; omega) _).far (by simp; omega) _) (by omega)
  · exact OwnE.mono (base := W5.heap.size) ((((HoC.out.far (by simp; omega) _).far (by simp; omega) _).far (by simp; omega) _).far (by simp; omega) _) (by omega)
  · have := LA k h1; have := (HoB.out.lt k h2).1; omega
  · have := LA k h1; have := (HoC.out.lt k h2).1; omega
  · have := LB k h1; have := (HoC.out.lt k h2).1; omega
  · exact N.setCell (by first | (simp; done) | (simp; omega)) _ |>.setCell (by first | (simp; done) | (simp; omega)) _ |>.setCell (by first | (simp; done) | (simp; omega)) _ |>.setCell (by first | (simp; done) | (simp; omega)) _
end Go.Proofs.Yticjoichmcegnaa
