/- Contract: l3Of of the reference: sets of the parts of a graph. -/
import Derived.Test.YticjoichmcegnaaTC
import Derived.Test.YticjoichmcegnaaD3
namespace Go.Proofs.Yticjoichmcegnaa
open Go.RowKit set_option linter.unusedVariables false set_option linter.unusedSimpArgs false

theorem Inv.bare {n : Nat} {s : SS} (h : Inv n s) (T : Es) : Inv n ⟨s.P, s.Z, T⟩ := ⟨h.lp, h.lz, h.one, h.top, h.par, h.sum⟩
theorem Inv.un {n : Nat} {s : SS} (h : Inv n s) {a b : Int} (a0 : 0 ≤ a) (a1 : a < n) (a2 : lk s.P a = -1) (b0 : 0 ≤ b) (b1 : b < n) (b2 : lk s.P b = -1) : Inv n (unS s a b) := by
  have ra : isRt s.P a = true := isRt_iff.2 ⟨a0, by rw [h.lp]; exact a1, a2⟩
  have rb : isRt s.P b = true := isRt_iff.2 ⟨b0, by rw [h.lp]; exact b1, b2⟩
  unfold unS
  by_cases e : a = b
  · rw [if_pos e]; exact h.bare _
  · rw [if_neg e]
    have h0 := h.bare []
    have key : ∀ x y : Int, x ≠ y → x ≠ -1 → isRt s.P x = true → isRt s.P y = true → isAb s.Z y x = true → ∀ T : Es, Inv n ⟨up s.P x y, up s.Z y (lk s.Z y + lk s.Z x), T⟩ := fun x y hne hx rx ry hab T => by
      have hk : stOk s.P s.Z ([] : Es).length (x, y) = true := by unfold stOk; simp [rx, ry, hab, hne]
      have := h0.step hk
      have e1 : stP s.P (x, y) = up s.P x y := if_neg hx
      have e2 : stZ s.Z (x, y) = up s.Z y (lk s.Z y + lk s.Z x) := if_neg hx
      simp only at this
      rw [e1, e2] at this
      exact this.bare T
    split
    · rename_i hc
      exact key a b e (by omega) ra rb (by unfold isAb; simp; omega) _
    · rename_i hc
      exact key b a (Ne.symm e) (by omega) rb ra (by unfold isAb; simp; omega) _
section
variable {w w' : World} {base gb ca cb cc : Nat} {s : SS} {A B C : Option Addr}
theorem SB.keptR {row : Option Nat} (h : SB w base gb s A ca B cb C cc) (hg : w.grownBy w' row) (hne : ∀ k, row = some k → k < base ∧ k ≠ gb) : SB w' base gb s A ca B cb C cc := by
  have ne : ∀ {X : Option Addr}, (∀ k, blk X = some k → base ≤ k) → (blk X = none ∨ blk X ≠ row) := fun {X} hx => by
    cases hb : blk X with
    | none => exact .inl rfl
    | some k => exact .inr fun e => by have := hx k hb; have := (hne k e.symm).1; omega
  exact ⟨h.bx.grown hg (fun e => (hne gb e).2 rfl), h.a.kept hg (ne fun k hk => (h.a.lt k hk).1), h.b.kept hg (ne fun k hk => (h.b.lt k hk).1), h.c.kept hg (ne fun k hk => (h.c.lt k hk).1), h.ab, h.ac, h.bc, h.ga, h.gb', h.gc⟩
/-- the end of a step turns -/
theorem SB.setR {g : Nat} (h : SB w base gb s A ca B cb (some ⟨g, 0, none⟩) cc) (i : Nat) (hi : i < s.T.length) (v : Int) : SB (w.setCell ⟨g, i * 2 + 1, none⟩ (V v)) base gb ⟨s.P, s.Z, s.T.set i (s.T[i].1, v)⟩ A ca B cb (some ⟨g, 0, none⟩) cc := by
  have hg := grown_setCell w g (i * 2 + 1) (V v)
  have hne : g ≠ gb := h.gc g rfl
  exact ⟨by have := h.bx.far (p := ⟨g, i * 2 + 1, none⟩) hne (V v); simpa using this, h.a.kept hg h.ac, h.b.kept hg h.bc, h.c.set1 i hi v, h.ab, h.ac, h.bc, h.ga, h.gb', h.gc⟩
end

def OfS (n m : Nat) (w : World) (e : Ending) (w' : World) : Prop := ∃ s : SS, Inv n s ∧ s.T.length = m ∧ RetSS s id w e w'

set_option maxRecDepth 100000 in
set_option maxHeartbeats 8000000 in
theorem l3Of_c (n : Nat) (A : Option Addr) (c : Nat) (es : Es) (w : World) (hv : Valid n es) (hl : es.length ≤ 23) (hx : EdgesAt w A es) :
    Calls Try.prog 126 #[.agg #[V n, .slice A es.length c]] w (OfS n es.length w) := by
  have hn1 : 1 ≤ n := by have := hv.1; omega
  have hn16 : n ≤ 16 := by have := hv.2.1; omega
  have hends : ∀ e ∈ es, 0 ≤ e.1 ∧ e.1 < n ∧ 0 ≤ e.2 ∧ e.2 < n := fun e he => by
    obtain ⟨j, hj⟩ := List.mem_iff_getElem?.1 he
    have := hv.2.2.2 j (List.getElem?_eq_some_iff.1 hj).1 e hj
    omega
  have He := Lib.hid hends
  have HX := Lib.hid hx
  clear hv hends hx
  go_enter Try.func126, Try.ntmps126
  go_wp2_with fail
  generalize hW1 : World.alloc _ _ = W1
  have gW1 : Nx w W1 := by subst hW1; exact (by repeat (first | exact Nx.refl _ | assumption | apply Nx.alloc | apply Nx.drew | apply Nx.drewN | (refine Nx.setCell ?_ (by first | (simp; done) | (simp; omega) | omega) _) | refine Nx.trans ?_ (by assumption)))
  have sW1 : W1.heap.size = w.heap.size + 2 := by subst hW1; simp
  have X0 : Bx W1 (w.heap.size) 25 [V n, .slice A es.length c] := by subst hW1; have h := Bx.alloc w 25 [V n, .slice A es.length c]; have h := h.nx (Nx.alloc (Nx.refl _) (.cells #[.slice none 0 0, .slice none 0 0, .slice none 0 0] 37)); simpa using h
  have X1 : Bx W1 (w.heap.size + 1) 37 [.slice none 0 0, .slice none 0 0, .slice none 0 0] := by subst hW1; have h := Bx.alloc (w.alloc (.cells #[V n, .slice A es.length c] 25)) 37 [.slice none 0 0, .slice none 0 0, .slice none 0 0]; simpa using h
  have X0_0 := X0.cell (j := 0) rfl
  have X0_1 := X0.cell (j := 1) rfl
  have X0_z := X0.lt
  have X1_0 := X1.cell (j := 0) rfl
  have X1_1 := X1.cell (j := 1) rfl
  have X1_2 := X1.cell (j := 2) rfl
  have X1_z := X1.lt
  have HsW1 := Lib.hid sW1
  have lW1 : w.heap.size + 2 ≤ W1.heap.size := by omega
  clear hW1 sW1
  have N := gW1
  refine (l3New_c n hn16 _).mono ?_
  rintro e w2 ⟨A2, ca2, B2, cb2, rfl, oA, oB, oAB, hn2⟩
  replace X0 := X0.nx hn2
  replace X0_0 := X0.cell (j := 0) rfl
  replace X0_1 := X0.cell (j := 1) rfl
  replace X0_z := X0.lt
  replace X1 := X1.nx hn2
  replace X1_0 := X1.cell (j := 0) rfl
  replace X1_1 := X1.cell (j := 1) rfl
  replace X1_2 := X1.cell (j := 2) rfl
  replace X1_z := X1.lt
  replace N := N.trans hn2
  have z2 := hn2.size
  go_wp2_with fail
  generalize hW3 : World.alloc _ _ = W3
  have gW3 : Nx w2 W3 := by subst hW3; exact (by repeat (first | exact Nx.refl _ | assumption | apply Nx.alloc | apply Nx.drew | apply Nx.drewN | (refine Nx.setCell ?_ (by first | (simp; done) | (simp; omega) | omega) _) | refine Nx.trans ?_ (by assumption)))
  have sW3 : W3.heap.size = w2.heap.size + 1 := by subst hW3; simp
  have G : Bx W3 (w2.heap.size) 37 [.slice A2 n ca2, .slice B2 n cb2, .slice none 0 0] := by subst hW3; have h := Bx.alloc w2 37 [.slice A2 n ca2, .slice B2 n cb2, .slice none 0 0]; simpa using h
  have G_0 := G.cell (j := 0) rfl
  have G_1 := G.cell (j := 1) rfl
  have G_2 := G.cell (j := 2) rfl
  have G_z := G.lt
  have HsW3 := Lib.hid sW3
  have lW3 : w2.heap.size + 1 ≤ W3.heap.size := by omega
  clear hW3 sW3
  replace X0 := X0.nx gW3
  replace X0_0 := X0.cell (j := 0) rfl
  replace X0_1 := X0.cell (j := 1) rfl
  replace X0_z := X0.lt
  replace X1 := X1.nx gW3
  replace X1_0 := X1.cell (j := 0) rfl
  replace X1_1 := X1.cell (j := 1) rfl
  replace X1_2 := X1.cell (j := 2) rfl
  replace X1_z := X1.lt
  replace N := N.trans gW3
  have h0 : SB W3 W1.heap.size w2.heap.size (newS n) A2 ca2 B2 cb2 none 0 := ⟨by simpa [newS] using G, oA.nx gW3, oB.nx gW3, OwnE.nil _ _ _, oAB, by unfold Apart blk; cases A2 <;> simp, by unfold Apart blk; cases B2 <;> simp, fun k hk => by have := (oA.lt k hk).2; omega, fun k hk => by have := (oB.lt k hk).2; omega, fun k hk => by cases hk⟩
  have H0 := Lib.hid h0
  have HN := Lib.hid (newS_inv n hn1)
  clear oA oB oAB hn2 gW1 gW3 h0 G
  go_loopg [4] es.length (fun gk i wr => ∃ (k : Nat) (s : SS), k + gk = es.length ∧ i = .int .i64 k ∧ Nx w wr ∧ Bx wr w.heap.size 25 [V n, .slice A es.length c] ∧ Bx wr (w.heap.size + 1) 37 [.slice none 0 0, .slice none 0 0, .slice none 0 0] ∧ Inv n s ∧ s.T.length = k ∧ SetAt wr W1.heap.size w2.heap.size s)
  case atStart => exact ⟨0, newS n, by omega, rfl, N, X0, X1, HN.out, rfl, A2, ca2, B2, cb2, none, 0, H0.out⟩
  case round =>
    clear N X0 X0_0 X0_1 X0_z X1 X1_0 X1_1 X1_2 X1_z G_0 G_1 G_2 G_z H0 HN
    obtain ⟨k, s, hk, rfl, N, X0, X1, hinv, hT, A', ca', B', cb', C', cc', h⟩ := hrel
    have X0_0 := X0.cell (j := 0) rfl
    have X0_1 := X0.cell (j := 1) rfl
    have X0_z := X0.lt
    have X1_0 := X1.cell (j := 0) rfl
    have X1_1 := X1.cell (j := 1) rfl
    have X1_2 := X1.cell (j := 2) rfl
    have X1_z := X1.lt
    have G := h.bx
    rw [hinv.lp, hinv.lz, hT] at G
    have G_0 := G.cell (j := 0) rfl
    have G_1 := G.cell (j := 1) rfl
    have G_2 := G.cell (j := 2) rfl
    have G_z := G.lt
    have G_f := G.free
    have gz0 : w2.heap.size < wr.heap.size := G_z
    have Hinv := Lib.hid hinv
    have HT := Lib.hid hT
    have Hh := Lib.hid h
    clear hinv hT h
    by_cases hlt : k < es.length
    · obtain ⟨e, he⟩ : ∃ e, es[k]? = some e := ⟨_, List.getElem?_eq_getElem hlt⟩
      obtain ⟨b, off, rfl, hb, r1, r2⟩ := HX.out.rd he
      have hends := He.out e (List.mem_of_getElem? he)
      obtain ⟨x, y⟩ := e
      simp only at r1 r2 hends
      obtain ⟨x0, x1, y0, y1⟩ := hends
      obtain ⟨x, rfl⟩ := Int.eq_ofNat_of_zero_le x0
      obtain ⟨y, rfl⟩ := Int.eq_ofNat_of_zero_le y0
      replace r1 := N.cell hb r1
      replace r2 := N.cell hb r2
      replace hb := Nat.lt_of_lt_of_le hb N.size
      clear he
      have hun := fun w' a b c => l3Unite_c A' B' C' n ca' cb' k cc' s x y w' a b c Hinv.out (by omega) hn16 HT.out (by omega) (by omega) (by omega)
      have Hun := Lib.hid hun
      clear hun
      go_wp2_with fail
      (refine tail_quiet 13 (by kernel_rfl) (by kernel_rfl) (fun W4 gW4 => ?_); obtain ⟨hcW4, hfW4, hzW4⟩ := gW4.rules; simp only [List.take_succ_cons, List.take_zero, List.drop_succ_cons, List.drop_zero]; (repeat go_big_quiet_step (fail)); with_reducible refine wpQuiet_nil ?_)
      go_wp2_with fail
      refine (Hun.out _ (Hh.out.a.intsAt.nx gW4) (Hh.out.b.intsAt.nx gW4) (Hh.out.c.edgesAt.nx gW4)).mono ?_
      rintro e w5 ⟨a, b', ha, hb', a1, b1, A5, ca5, B5, cb5, C5, cc5, rfl, oA, oB, oC, sAB, sAC, sBC, hn5⟩
      have hn5' := gW4.trans hn5
      have hi5 := Hinv.out.un (a := a) (b := b') (by omega) (by rw [← Hinv.out.lp]; exact a1) ha.end_ (by omega) (by rw [← Hinv.out.lp]; exact b1) hb'.end_
      have hT5 : (unS s (a : Int) (b' : Int)).T.length = k + 1 := by
        obtain ⟨t, ht⟩ := unS_T s (a : Int) (b' : Int)
        rw [ht, List.length_append, HT.out]; rfl
      generalize unS s (a : Int) (b' : Int) = s2 at *
      replace X0 := X0.nx hn5'
      replace X0_0 := X0.cell (j := 0) rfl
      replace X0_1 := X0.cell (j := 1) rfl
      replace X0_z := X0.lt
      replace X1 := X1.nx hn5'
      replace X1_0 := X1.cell (j := 0) rfl
      replace X1_1 := X1.cell (j := 1) rfl
      replace X1_2 := X1.cell (j := 2) rfl
      replace X1_z := X1.lt
      replace G := G.nx hn5'
      replace G_0 := G.cell (j := 0) rfl
      replace G_1 := G.cell (j := 1) rfl
      replace G_2 := G.cell (j := 2) rfl
      replace G_z := G.lt
      have G_f := G.free
      replace N := N.trans hn5'
      have z5 := gW4.size
      have Hi5 := Lib.hid hi5
      have HT5 := Lib.hid hT5
      have HoA := Lib.hid oA
      have HoB := Lib.hid oB
      have HoC := Lib.hid oC
      rw [hi5.lp, hi5.lz, hT5]
      clear oA oB oC hi5 hT5 ha hb' Hh Hinv HT r1 r2 Hun
      go_wp2
      go_roundg (gk - 1)
      case measure => omega
      case rel =>
        have g : w5.grownBy (((w5.setCell ⟨w2.heap.size, 0, none⟩ (.slice A5 n ca5)).setCell ⟨w2.heap.size, 1, none⟩ (.slice B5 n cb5)).setCell ⟨w2.heap.size, 2, none⟩ (.slice C5 (k + 1) cc5)) (some w2.heap.size) := grown_trans (grown_trans (grown_setCell _ _ _ _) (grown_setCell _ _ _ _)) (grown_setCell _ _ _ _)
        refine ⟨k + 1, s2, by omega, by go_num, N.grown g (fun k e => by injection e with e; omega), X0.grown g (by simp; omega), X1.grown g (by simp; omega), Hi5.out, HT5.out, A5, ca5, B5, cb5, C5, cc5, ?_⟩
        have lt : ∀ k, W4.heap.size ≤ k → k ≠ w2.heap.size := fun k hk => by omega
        refine ⟨?_, ((HoA.out.kept g (apart_ne fun k hk => lt k (HoA.out.lt k hk).1)).mono (by omega)), ((HoB.out.kept g (apart_ne fun k hk => lt k (HoB.out.lt k hk).1)).mono (by omega)), ((HoC.out.kept g (apart_ne fun k hk => lt k (HoC.out.lt k hk).1)).mono (by omega)), sAB, sAC, sBC, fun k hk => lt k (HoA.out.lt k hk).1, fun k hk => lt k (HoB.out.lt k hk).1, fun k hk => lt k (HoC.out.lt k hk).1⟩
        rw [Hi5.out.lp, Hi5.out.lz, HT5.out]
        simpa using ((G.set (j := 0) (.slice A5 n ca5)).set (j := 1) (.slice B5 n cb5)).set (j := 2) (.slice C5 (k + 1) cc5)
    · obtain rfl : k = es.length := by omega
      have X1_f := X1.free
      have zN := N.size
      go_wp2
      refine bodyPost_ret (v := id (St A' n ca' B' n cb' C' es.length cc')) (by simp [results, Try.f126, go_sem, *]) rfl ?_
      refine ⟨s, Hinv.out, HT.out, RetSS.of (((Hh.out.far (by omega) (by omega) _).far (by omega) (by omega) _).far (by omega) (by omega) _) (by omega) ?_ (by simp [Hinv.out.lp, Hinv.out.lz, HT.out])⟩
      exact ((N.setCell (by first | (simp; done) | (simp; omega)) _).setCell (by first | (simp; done) | (simp; omega)) _).setCell (by first | (simp; done) | (simp; omega)) _
end Go.Proofs.Yticjoichmcegnaa
