/- Contracts: BlocksOf of both sides. -/
import Derived.Test.YtjchabeiaajgiaaY8
import Derived.Test.YtjchabeiaajgiaaP3
namespace Go.Proofs.Ytjchabeiaajgiaa
open Go.RowKit set_option linter.unusedVariables false set_option linter.unusedSimpArgs false

theorem Valid.edOk {n : Int} {es : Es} (h : Valid n es) : EdOk n.toNat es := fun e he => by have := h.pair he; omega
theorem Valid.srtB {n : Int} {es : Es} (h : Valid n es) : ∀ (i j : Nat) (a b : Int × Int), i < j → es[i]? = some a → es[j]? = some b → ltE a b := by
  intro i j a b hij
  induction j generalizing b with
  | zero => omega
  | succ j ih =>
    intro ha hb
    have hj1 : j + 1 < es.length := (List.getElem?_eq_some_iff.1 hb).1
    obtain ⟨d, hd⟩ : ∃ d, es[j]? = some d := ⟨_, List.getElem?_eq_getElem (by omega)⟩
    have hok := h.2.2.2 (j + 1) hj1
    unfold okAt at hok
    have h2 : ltE d b := by
      have := hok
      simp [hb, hd] at this
      exact this.2.2.2
    rcases Nat.lt_succ_iff_lt_or_eq.1 hij with hlt | rfl
    · have h1 := ih d hlt ha hd
      unfold ltE at *
      omega
    · rw [ha] at hd; injection hd with hd; rw [hd]; exact h2
theorem Valid.prwB {n : Int} {es : Es} (h : Valid n es) : es.Pairwise ltE := List.pairwise_iff_getElem.2 fun i j hi hj hij => h.srtB i j _ _ hij (List.getElem?_eq_getElem hi) (List.getElem?_eq_getElem hj)
theorem Valid.nodupB {n : Int} {es : Es} (h : Valid n es) : es.Nodup := h.prwB.imp fun {a b} hab e => by subst e; unfold ltE at hab; omega

open Classical in
/-- what BlocksOf returns -/
noncomputable def blocksOf (n : Int) (es : Es) : List Es := if Valid n es then blocksL n.toNat es else []
theorem blocksOf_yes {n : Int} {es : Es} (h : Valid n es) : blocksOf n es = blocksL n.toNat es := if_pos h
theorem blocksOf_no {n : Int} {es : Es} (h : ¬ Valid n es) : blocksOf n es = [] := if_neg h
theorem blocksOf_len (n : Int) (es : Es) : (blocksOf n es).length ≤ 40 ∧ ∀ b ∈ blocksOf n es, b.length ≤ 40 := by
  by_cases h : Valid n es
  · rw [blocksOf_yes h]
    have h40 := h.2.2.1
    exact ⟨Nat.le_trans (blocksL_length _ _) h40, fun b hb => Nat.le_trans (blocksL_len hb) h40⟩
  · rw [blocksOf_no h]; simp

set_option maxRecDepth 100000 in
set_option maxHeartbeats 4000000 in
theorem iBlocksOf_c (n : Int) (A : Option Addr) (c : Nat) (es : List (Int × Int)) (w : World) (hx : EdgesAt w A es) (hl : es.length ≤ 1048576) (hcap : es.length ≤ c) :
    Calls Try.prog 48 #[.agg #[V n, .slice A es.length c]] w (RetQ 24 36 (blocksOf n es) w) := by
  have hgv := iGraphValid_c n A c es
  by_cases hv : Valid n es
  · rw [blocksOf_yes hv]
    rw [show decide (Valid n es) = true by simpa using hv] at hgv
    have Hgv := Lib.hid hgv
    have h16 := hv.2.1
    have h40 := hv.2.2.1
    have ht := fun w hx => blocks_c n.toNat A c es w hx h40 hcap (by omega) hv.edOk hv.nodupB
    rw [hv.nat] at ht
    have Ht := Lib.hid ht
    have HLl := Lib.hid (blkL_length n.toNat es)
    have HLg := Lib.hid (fun k x (h : (blkL n.toNat es)[k]? = some x) => blkL_get h)
    obtain ⟨bs, hbs⟩ : ∃ bs, blocksL n.toNat es = bs := ⟨_, rfl⟩
    have hbs2 : blkTo (blkL n.toNat es) es es.length = bs := hbs
    rw [hbs]
    have Hbs := Lib.hid hbs2
    clear hgv ht hv hbs hbs2
    obtain ⟨i0, hi, hz0, hz1, hz2⟩ := info_parts infoEE
    have Hi := Lib.hid hi
    have Hz0 := Lib.hid hz0
    have Hz1 := Lib.hid hz1
    have Hz2 := Lib.hid hz2
    clear hi hz0 hz1 hz2
    go_enter Try.func48, Try.ntmps48
    go_wp2_with fail
    generalize hW1 : World.alloc _ _ = W1
    have gW1 : Nx w W1 := by subst hW1; exact (by repeat (first | exact Nx.refl _ | assumption | apply Nx.alloc | apply Nx.drew | apply Nx.drewN | (refine Nx.setCell ?_ (by first | (simp; done) | (simp; omega) | omega) _) | refine Nx.trans ?_ (by assumption)))
    have sW1 : W1.heap.size = w.heap.size + 1 := by subst hW1; simp
    have X0 : Bx W1 (w.heap.size) 26 [V n, .slice A es.length c] := by subst hW1; have h := Bx.alloc w 26 [V n, .slice A es.length c]; simpa using h
    have X0_0 := X0.cell (j := 0) rfl
    have X0_1 := X0.cell (j := 1) rfl
    have X0_z := X0.lt
    have HsW1 := Lib.hid sW1
    have lW1 : w.heap.size + 1 ≤ W1.heap.size := by omega
    clear hW1 sW1
    refine (Hgv.out _ (hx.nx gW1) (by omega)).mono ?_
    rintro e w2 ⟨rfl, hn2⟩
    replace X0 := X0.nx hn2
    replace X0_0 := X0.cell (j := 0) rfl
    replace X0_1 := X0.cell (j := 1) rfl
    replace X0_z := X0.lt
    have hxw := hx
    replace hx := (hx.nx gW1).nx hn2
    go_wp2_with fail
    have hq0 := OwnQ.empty w2 w2.heap.size 24 36 (Nat.le_refl _)
    generalize hW3 : World.alloc _ _ = W3 at *
    have gn3 : Nx w2 W3 := by subst hW3; exact (by repeat (first | exact Nx.refl _ | assumption | apply Nx.alloc | apply Nx.drew | apply Nx.drewN | (refine Nx.setCell ?_ (by first | (simp; done) | (simp; omega) | omega) _) | refine Nx.trans ?_ (by assumption)))
    have gs3 : w2.heap.size < W3.heap.size := by subst hW3; simp
    clear hW3
    replace X0 := X0.nx gn3
    replace X0_0 := X0.cell (j := 0) rfl
    replace X0_1 := X0.cell (j := 1) rfl
    replace X0_z := X0.lt
    replace hx := hx.nx gn3
    refine (Ht.out _ hx).mono ?_
    rintro e w4 ⟨B, d, rfl, ho4, hn4⟩
    replace X0 := X0.nx hn4
    replace X0_0 := X0.cell (j := 0) rfl
    replace X0_1 := X0.cell (j := 1) rfl
    replace X0_z := X0.lt
    replace hx := hx.nx hn4
    replace hq0 := hq0.nx hn4
    have hL := ho4.intsAt
    have hz4 := hn4.size
    have hBk : ∀ k, blk B = some k → ¬ k = w2.heap.size := fun k hk => by have := (ho4.lt k hk).1; omega
    have hB2 : w2.heap.size < w4.heap.size := by omega
    have hB1 : w.heap.size < w2.heap.size := by have := hn2.size; omega
    have hn04 : Nx w w4 := ((gW1.trans hn2).trans gn3).trans hn4
    have hbase := (gW1.trans hn2).size
    have hn24 := gn3.trans hn4
    generalize blkL n.toNat es = L at *
    rw [HLl.out]
    have HL := Lib.hid hL
    have HBk := Lib.hid hBk
    clear Ht ho4 hL hBk hx
    go_wp2
    go_loopg [3, 15] es.length (fun gk out i wr => ∃ (k : Nat) (A' : Option Addr) (c' : Nat) (q : List Row), k + gk = es.length ∧ i = .int .i64 k ∧ out = .slice A' q.length c' ∧ rowsOf q = blkTo L es k ∧ OwnQ wr w2.heap.size 24 36 A' c' q ∧ (∀ j, blk A' = some j → j = w2.heap.size ∨ w4.heap.size ≤ j) ∧ Gx (fun k => k = w2.heap.size) w4 wr)
    case atStart => exact ⟨0, some ⟨w2.heap.size, 0, none⟩, 0, [], by omega, rfl, rfl, rfl, hq0, fun j h => by simp [blk] at h; omega, Gx.refl _ _⟩
    case round =>
      obtain ⟨k, A', c', q, hk, rfl, rfl, hq, hown, hA', hgx⟩ := hrel
      have hsz := hgx.size
      have hql : q.length ≤ k := by rw [← rowsOf_length, hq]; exact blkTo_len _ _ _
      have hnw : Nx w wr := hgx.back hn04 (fun k hk => by omega)
      have Y0 := hgx.bx X0 (by omega)
      have Y0_0 := Y0.cell (j := 0) rfl
      have Y0_1 := Y0.cell (j := 1) rfl
      have Y0_z := Y0.lt
      have Hq := Lib.hid hq
      have HA' := Lib.hid hA'
      have Hown := Lib.hid hown
      clear hq hA' hown hq0
      by_cases hlt : k < es.length
      · obtain ⟨x, hLx⟩ : ∃ x, L[k]? = some x := ⟨_, List.getElem?_eq_getElem (by have := HLl.out; omega)⟩
        have hst := blkTo_step (es := es) hLx
        have hLr := hgx.ints HL.out HBk.out
        have hxr := hxw.nx hnw
        obtain ⟨b2, off2, rfl, hb2, h3⟩ := hLr.rd hLx
        have Hst := Lib.hid hst
        clear hst hLx
        by_cases e1 : ((k : Int) == x) = true
        · have hbc := block_c n A (some ⟨b2, off2, none⟩) c d es L es.length x wr hxr hLr hl HLl.out rfl
          go_wp2_with fail
          refine hbc.mono ?_
          rintro e w5 ⟨C, k5, rfl, ho5, hn5⟩
          have e1 : (k : Int) = x := by simpa using e1
          subst e1
          have hbl := blkAt_len L es k
          generalize blkAt L es k = bb at *
          clear hbc hxr hLr
          go_wp2_with (at_builtin; go_must (refine appV (base := w2.heap.size) (t := 24) (q.map Row.val) w5.heap.size (.slice C bb.length k5) 24 rfl rfl Try.underlying69 Hi.out Hz0.out Hz1.out Hz2.out (by omega) rfl (by rw [List.length_map]; rfl) ((Hown.out.1.nx hn5).nx (by repeat (first | exact Nx.refl _ | assumption | apply Nx.alloc | apply Nx.drew | apply Nx.drewN | (refine Nx.setCell ?_ (by first | (simp; done) | (simp; omega) | omega) _) | refine Nx.trans ?_ (by assumption)))) rfl (cellN (by simp) rfl) rfl (by rw [List.length_map]; omega) (by have := hn5.size; simp; omega) ?_; intro A2 c2 w6 hown6 hnx6 hgr6 hbl6))
          go_roundg (gk - 1)
          case measure => omega
          case rel =>
            have hnb : Nx wr (w5.alloc (.cells #[.slice C bb.length k5] 24)) := hn5.alloc _
            refine ⟨k + 1, A2, c2, q ++ [(C, k5, bb)], by omega, by go_num, by simp, ?_, ?_, ?_, ?_⟩
            · rw [Hst.out, ← Hq.out]; simp [rowsOf]
            · exact Hown.out.push (r := (C, k5, bb)) (by omega) hnb (ho5.nx (by repeat (first | exact Nx.refl _ | assumption | apply Nx.alloc | apply Nx.drew | apply Nx.drewN | (refine Nx.setCell ?_ (by first | (simp; done) | (simp; omega) | omega) _) | refine Nx.trans ?_ (by assumption)))) hgr6 hown6 hbl6
            · intro j hj
              rcases hbl6 with h | h
              · exact HA'.out j (h ▸ hj)
              · rw [h] at hj; injection hj with hj; simp at hj; have := hn5.size; exact .inr (by omega)
            · exact (hgx.nx hnb).grown hgr6 HA'.out
        · have e1 : ((k : Int) == x) = false := by simpa using e1
          go_wp2
          go_roundg (gk - 1)
          case measure => omega
          case rel =>
            have e1 : ¬ x = k := by intro h; subst h; simp at e1
            exact ⟨k + 1, A', c', q, by omega, by go_num, rfl, by rw [Hst.out, if_neg e1, List.append_nil]; exact Hq.out, Hown.out, HA'.out, hgx⟩
      · go_wp2
        go_ret
        have hkl : k = es.length := by omega
        have hq := Hq.out
        rw [hkl, Hbs.out] at hq
        exact ⟨A', c', q, by rw [← hq, rowsOf_length]; rfl, hq, Hown.out.mono hbase, hnw⟩
  · rw [blocksOf_no hv]
    rw [show decide (Valid n es) = false by simpa using hv] at hgv
    have Hgv := Lib.hid hgv
    clear hgv hv
    go_enter Try.func48, Try.ntmps48
    go_wp2_with fail
    generalize hW1 : World.alloc _ _ = W1
    have gW1 : Nx w W1 := by subst hW1; exact (by repeat (first | exact Nx.refl _ | assumption | apply Nx.alloc | apply Nx.drew | apply Nx.drewN | (refine Nx.setCell ?_ (by first | (simp; done) | (simp; omega) | omega) _) | refine Nx.trans ?_ (by assumption)))
    have sW1 : W1.heap.size = w.heap.size + 1 := by subst hW1; simp
    have X0 : Bx W1 (w.heap.size) 26 [V n, .slice A es.length c] := by subst hW1; have h := Bx.alloc w 26 [V n, .slice A es.length c]; simpa using h
    have X0_0 := X0.cell (j := 0) rfl
    have X0_1 := X0.cell (j := 1) rfl
    have X0_z := X0.lt
    have HsW1 := Lib.hid sW1
    have lW1 : w.heap.size + 1 ≤ W1.heap.size := by omega
    clear hW1 sW1
    refine (Hgv.out _ (hx.nx gW1) (by omega)).mono ?_
    rintro e w2 ⟨rfl, hn2⟩
    replace X0 := X0.nx hn2
    replace X0_0 := X0.cell (j := 0) rfl
    replace X0_1 := X0.cell (j := 1) rfl
    replace X0_z := X0.lt
    go_wp2
    go_ret
    exact ⟨none, 0, [], rfl, rfl, OwnQ.nil _ _ _ _, gW1.trans hn2⟩
end Go.Proofs.Ytjchabeiaajgiaa
