/- Contracts: dyBlocks, dyLess; FnBlocksOrder: the walk. -/
import Derived.Test.YticjoichmcegnaaY12
import Derived.Test.YticjoichmcegnaaY13
import Derived.Test.YticjoichmcegnaaN3
namespace Go.Proofs.Yticjoichmcegnaa
open Go.RowKit set_option linter.unusedVariables false set_option linter.unusedSimpArgs false

set_option maxRecDepth 100000 in
set_option maxHeartbeats 2000000 in
theorem dyBlocks_c (A A' : Option Addr) (c c' : Nat) (q q' : List Row) (xs ys : List Es) (w : World) (hq : rowsOf q = xs) (hq' : rowsOf q' = ys) (hx : RowsAt w A q) (hy : RowsAt w A' q') (hl : xs.length ≤ 1048576) (hl' : ys.length ≤ 1048576)
    (hi : ∀ b ∈ xs, b.length ≤ 1048576) (hi' : ∀ b ∈ ys, b.length ≤ 1048576) :
    Calls Try.prog 49 #[.slice A xs.length c, .slice A' ys.length c'] w (RetV (.bool (decide (xs = ys))) w) := by
  have Hx := Lib.hid hx
  have Hy := Lib.hid hy
  have Hq := Lib.hid hq
  have Hq' := Lib.hid hq'
  have Hi := Lib.hid hi
  have Hi' := Lib.hid hi'
  clear hx hy hi hi' hq hq'
  by_cases hlen : xs.length = ys.length
  · have hne : ((xs.length : Int) != (ys.length : Int)) = false := by simp [hlen]
    have Hlen := Lib.hid hlen
    have hlt0 : ∀ k, k < xs.length → k < ys.length := fun k h => by omega
    have Hlt0 := Lib.hid hlt0
    clear hlen hlt0
    go_enter Try.func49, Try.ntmps49
    go_wp2
    go_loopg [5] xs.length (fun gk i wr => ∃ k : Nat, k + gk = xs.length ∧ i = .int .i64 k ∧ Nx w wr ∧ ∀ j, j < k → xs[j]? = ys[j]?)
    case atStart => exact ⟨0, by omega, rfl, Nx.refl _, fun j hj => by omega⟩
    case round =>
      obtain ⟨k, hk, rfl, hn, he⟩ := hrel
      have He := Lib.hid he
      clear he
      by_cases hlt : k < xs.length
      · have hlt' := Hlt0.out k hlt
        obtain ⟨B1, c1, h1⟩ := rowsOf_at Hq.out hlt
        obtain ⟨B2, c2, h2⟩ := rowsOf_at Hq'.out hlt'
        obtain ⟨b, off, rfl, hb, r1, x1⟩ := (Hx.out.nx hn).rd h1
        obtain ⟨b', off', rfl, hb', r2, x2⟩ := (Hy.out.nx hn).rd h2
        simp only at r1 r2 x1 x2
        have l1 := Hi.out _ (List.getElem_mem hlt)
        have l2 := Hi'.out _ (List.getElem_mem hlt')
        have ha : xs[k]? = some xs[k] := List.getElem?_eq_getElem hlt
        have hd : ys[k]? = some ys[k] := List.getElem?_eq_getElem hlt'
        generalize xs[k] = p at *
        generalize ys[k] = t at *
        have Ha := Lib.hid ha
        have Hd := Lib.hid hd
        clear ha hd h1 h2
        have hc := fun w1 h1 h2 => dyEdges_c B1 B2 c1 c2 p t w1 h1 h2 l1 l2
        obtain ⟨bq, hbq⟩ : ∃ bq, decide (p = t) = bq := ⟨_, rfl⟩
        rw [hbq] at hc
        have Hc := Lib.hid hc
        have Hbq := Lib.hid hbq
        clear hc hbq
        have kp : ∀ w', Nx wr w' → Nx wr w' ∧ w'.cell? ⟨b, off + k, none⟩ = some (.slice B1 p.length c1) ∧ w'.cell? ⟨b', off' + k, none⟩ = some (.slice B2 t.length c2) := fun w' h => ⟨h, h.cell hb r1, h.cell hb' r2⟩
        have hdr : Nx wr wr.drew := .drew (.refl _)
        cases bq with
        | true =>
          go_wp2_with fail
          go_region_held3 (fun w_ => Nx wr w_ ∧ w_.cell? ⟨b, off + k, none⟩ = some (.slice B1 p.length c1) ∧ w_.cell? ⟨b', off' + k, none⟩ = some (.slice B2 t.length c2))
            (first | exact kp _ hdr | exact kp _ hn3)
            (first | (go_at_call 112; (with_reducible refine (Hc.out _ (x1.nx hdr) (x2.nx hdr)).mono ?_); rintro e w3 ⟨rfl, hn23⟩; have hn3 : Nx wr w3 := hdr.trans hn23))
          go_wp2
          go_roundg (gk - 1)
          case measure => omega
          case rel => exact ⟨k + 1, by omega, by go_num, hn.trans hn3, pref_step He.out Ha.out (by rw [Hd.out, of_decide_eq_true Hbq.out])⟩
        | false =>
          go_wp2_with fail
          go_region_held3 (fun w_ => Nx wr w_ ∧ w_.cell? ⟨b, off + k, none⟩ = some (.slice B1 p.length c1) ∧ w_.cell? ⟨b', off' + k, none⟩ = some (.slice B2 t.length c2))
            (first | exact kp _ hdr | exact kp _ hn3)
            (first | (go_at_call 112; (with_reducible refine (Hc.out _ (x1.nx hdr) (x2.nx hdr)).mono ?_); rintro e w3 ⟨rfl, hn23⟩; have hn3 : Nx wr w3 := hdr.trans hn23))
          go_wp2
          go_ret
          exact RetV.bool (by
            have : xs ≠ ys := pref_ne Ha.out Hd.out (of_decide_eq_false Hbq.out)
            simp [this]) (hn.trans hn3)
      · go_wp2
        go_ret
        exact RetV.bool (by
          have : xs = ys := pref_eq Hlen.out (fun j hj => He.out j (by have := Hlen.out; omega))
          simp [this]) hn
  · have hne : ((xs.length : Int) != (ys.length : Int)) = true := by simp; omega
    have Hlen := Lib.hid hlen
    clear hlen
    go_enter Try.func49, Try.ntmps49
    go_wp2
    go_ret
    exact RetV.bool (by
      have : xs ≠ ys := fun e => Hlen.out (by rw [e])
      simp [this]) (by repeat (first | exact Nx.refl _ | assumption | apply Nx.alloc | apply Nx.drew | apply Nx.drewN | (refine Nx.setCell ?_ (by first | (simp; done) | (simp; omega) | omega) _) | refine Nx.trans ?_ (by assumption)))

theorem dyLess_c (a1 a2 b1 b2 : Int) (w : World) : Calls Try.prog 51 #[Ed a1 a2, Ed b1 b2] w (RetV (.bool (decide (ltE (a1, a2) (b1, b2)))) w) := by
  by_cases h1 : a1 < b1
  · go_enter Try.func51, Try.ntmps51
    go_wp2
    go_ret
    exact RetV.bool (by simp [ltE, h1]) (by repeat (first | exact Nx.refl _ | assumption | apply Nx.alloc | apply Nx.drew | apply Nx.drewN | (refine Nx.setCell ?_ (by first | (simp; done) | (simp; omega) | omega) _) | refine Nx.trans ?_ (by assumption)))
  · by_cases h2 : (a1 == b1) = true
    · by_cases h3 : a2 < b2
      · go_enter Try.func51, Try.ntmps51
        go_wp2
        go_ret
        exact RetV.bool (by simp at h2; simp [ltE, h2, h3]) (by repeat (first | exact Nx.refl _ | assumption | apply Nx.alloc | apply Nx.drew | apply Nx.drewN | (refine Nx.setCell ?_ (by first | (simp; done) | (simp; omega) | omega) _) | refine Nx.trans ?_ (by assumption)))
      · go_enter Try.func51, Try.ntmps51
        go_wp2
        go_ret
        exact RetV.bool (by simp at h2; simp [ltE, h2]; omega) (by repeat (first | exact Nx.refl _ | assumption | apply Nx.alloc | apply Nx.drew | apply Nx.drewN | (refine Nx.setCell ?_ (by first | (simp; done) | (simp; omega) | omega) _) | refine Nx.trans ?_ (by assumption)))
    · have h2 : (a1 == b1) = false := by simpa using h2
      go_enter Try.func51, Try.ntmps51
      go_wp2
      go_ret
      exact RetV.bool (by simp at h2; simp [ltE, h2]; omega) (by repeat (first | exact Nx.refl _ | assumption | apply Nx.alloc | apply Nx.drew | apply Nx.drewN | (refine Nx.setCell ?_ (by first | (simp; done) | (simp; omega) | omega) _) | refine Nx.trans ?_ (by assumption)))
theorem dyB_yes (A A' : Option Addr) (c c' : Nat) (q q' : List Row) (xs : List Es) (w : World) (hq : rowsOf q = xs) (hq' : rowsOf q' = xs) (hx : RowsAt w A q) (hy : RowsAt w A' q') (hl : xs.length ≤ 1048576)
    (hi : ∀ b ∈ xs, b.length ≤ 1048576) :
    Calls Try.prog 49 #[.slice A xs.length c, .slice A' xs.length c'] w (RetV (.bool true) w) := by
  have h1 := dyBlocks_c A A' c c' q q' xs xs w hq hq' hx hy hl hl hi hi
  rwa [show decide (xs = xs) = true by simp] at h1
theorem dyL_yes {a1 a2 b1 b2 : Int} (h : ltE (a1, a2) (b1, b2)) (w : World) : Calls Try.prog 51 #[Ed a1 a2, Ed b1 b2] w (RetV (.bool true) w) := by
  have h1 := dyLess_c a1 a2 b1 b2 w
  rwa [show decide (ltE (a1, a2) (b1, b2)) = true by simpa using h] at h1
theorem EdgesAt.hd {w : World} {A : Option Addr} {es : Es} {x : Int × Int} (h : EdgesAt w A es) (hx : es[0]? = some x) : ∃ b off, A = some ⟨b, off, none⟩ ∧ b < w.heap.size ∧ w.cell? ⟨b, off, none⟩ = some (V x.1) ∧ w.cell? ⟨b, off + 1, none⟩ = some (V x.2) := by
  obtain ⟨b, off, e, hb, h1, h2⟩ := h.rd hx
  exact ⟨b, off, e, hb, by simpa using h1, by simpa using h2⟩

set_option maxRecDepth 100000 in
set_option maxHeartbeats 8000000 in
theorem fnBlocksOrder_walk (w : World) (A : Option Addr) (n c : Nat) (hnc : n ≤ c) (hb : BytesAt w w.heap.size A n) :
    Calls Try.prog 11 #[.slice A n c] w (RetV (.bool true) w) := by
  by_cases hbig : (n : Int) > 1048576
  · go_enter Try.func11, Try.ntmps11
    go_wp2
    go_ret
    exact RetV.bool rfl (by repeat (first | exact Nx.refl _ | assumption | apply Nx.alloc | apply Nx.drew | apply Nx.drewN | (refine Nx.setCell ?_ (by first | (simp; done) | (simp; omega) | omega) _) | refine Nx.trans ?_ (by assumption)))
  · go_enter Try.func11, Try.ntmps11
    go_wp2_with fail
    refine (drawBlocksOf_c A n c _ hnc hb).mono ?_
    rintro e w1 ⟨nn, B, d, es, rfl, h1, h2, h3, ho, N⟩
    have hcap := ho.cap
    have hg := ho.edgesAt
    clear ho hb
    have hbl := blocksOf_len nn es
    have Hib := Lib.hid (fun w hx => iBlocksOf_c nn B d es w hx (by omega) hcap)
    have Hsb := Lib.hid (fun w hx => sBlocksOf_c nn B d es w hx (by omega))
    have hgv := fun w hx => iGraphValid_c nn B d es w hx (by omega)
    by_cases hp : Valid nn es
    · have hord := blocksL_order (n := nn.toNat) hp.prwB
      rw [← blocksOf_yes hp] at hord
      rw [show decide (Valid nn es) = true by simpa using hp] at hgv
      have Hgv := Lib.hid hgv
      generalize blocksOf nn es = bs at *
      have Hord := Lib.hid hord
      have hl1 : bs.length ≤ 1048576 := by have := hbl.1; omega
      have Hl2 := Lib.hid (fun b (hb : b ∈ bs) => Nat.le_trans (hbl.2 b hb) (by omega : 40 ≤ 1048576))
      clear hgv hp hord hbl hcap
      go_wp2_with fail
      generalize hW2 : World.alloc _ _ = W2
      have gW2 : Nx w1 W2 := by subst hW2; exact (by repeat (first | exact Nx.refl _ | assumption | apply Nx.alloc | apply Nx.drew | apply Nx.drewN | (refine Nx.setCell ?_ (by first | (simp; done) | (simp; omega) | omega) _) | refine Nx.trans ?_ (by assumption)))
      have sW2 : W2.heap.size = w1.heap.size + 1 := by subst hW2; simp
      have G : Bx W2 (w1.heap.size) 25 [V nn, .slice B es.length d] := by subst hW2; have h := Bx.alloc w1 25 [V nn, .slice B es.length d]; simpa using h
      have G_0 := G.cell (j := 0) rfl
      have G_1 := G.cell (j := 1) rfl
      have G_z := G.lt
      have HsW2 := Lib.hid sW2
      have lW2 : w1.heap.size + 1 ≤ W2.heap.size := by omega
      clear hW2 sW2
      replace hg := hg.nx gW2
      replace N := N.trans gW2
      refine (Hib.out _ hg).mono ?_
      rintro e w3 ⟨A3, c3, q3, rfl, hq3, ho3, hn3⟩
      replace G := G.nx hn3
      replace G_0 := G.cell (j := 0) rfl
      replace G_1 := G.cell (j := 1) rfl
      replace G_z := G.lt
      replace hg := hg.nx hn3
      replace N := N.trans hn3
      have hx := ho3.rowsAt
      have Hq3 := Lib.hid hq3
      clear ho3 hq3
      go_wp2_with fail
      refine (Hsb.out _ hg).mono ?_
      rintro e w4 ⟨A4, c4, q4, rfl, hq4, ho4, hn4⟩
      replace G := G.nx hn4
      replace G_0 := G.cell (j := 0) rfl
      replace G_1 := G.cell (j := 1) rfl
      replace G_z := G.lt
      replace hg := hg.nx hn4
      replace hx := hx.nx hn4
      replace N := N.trans hn4
      have hy := ho4.rowsAt
      have Hq4 := Lib.hid hq4
      clear ho4 hq4
      go_wp2_with fail
      refine (dyB_yes A3 A4 c3 c4 q3 q4 bs _ Hq3.out Hq4.out hx hy hl1 Hl2.out).mono ?_
      rintro e w5 ⟨rfl, hn5⟩
      replace G := G.nx hn5
      replace G_0 := G.cell (j := 0) rfl
      replace G_1 := G.cell (j := 1) rfl
      replace G_z := G.lt
      replace hg := hg.nx hn5
      replace hx := hx.nx hn5
      replace N := N.trans hn5
      go_wp2_with fail
      refine (Hgv.out _ hg).mono ?_
      rintro e w6 ⟨rfl, hn6⟩
      replace G := G.nx hn6
      replace G_0 := G.cell (j := 0) rfl
      replace G_1 := G.cell (j := 1) rfl
      replace G_z := G.lt
      replace hg := hg.nx hn6
      replace hx := hx.nx hn6
      replace N := N.trans hn6
      have Hx := Lib.hid hx
      clear hx hy
      go_wp2
      go_loopg [5] bs.length (fun gk i wr => ∃ j : Nat, j + gk = bs.length ∧ i = .int .i64 j ∧ Nx w6 wr)
      case atStart => exact ⟨0, by omega, rfl, Nx.refl _⟩
      case round =>
        obtain ⟨j, hj, rfl, hn⟩ := hrel
        obtain ⟨gko, rfl⟩ : ∃ g : Nat, g = gk := ⟨_, rfl⟩
        obtain ⟨wo, rfl⟩ : ∃ x : World, x = wr := ⟨_, rfl⟩
        by_cases hlt : j < bs.length
        · -- the front of a block is in front of the next
          obtain ⟨X, cX, hr⟩ := rowsOf_at Hq3.out hlt
          obtain ⟨b, off, rfl, hbb, r1, x1⟩ := (Hx.out.nx hn).rd hr
          simp only at r1 x1
          have hmem := List.getElem_mem hlt
          have hsrt := (Hord.out.2 _ hmem).1
          have hpos := (Hord.out.2 _ hmem).2
          have hcl := Hl2.out _ hmem
          have hjl : bs[j]? = some bs[j] := List.getElem?_eq_getElem hlt
          have Hx1 := Lib.hid x1
          have inner : ∀ (wz : World), Nx wo wz → True := fun _ _ => trivial
          clear inner
          by_cases hj0 : 0 < j
          · have hlt' : j - 1 < bs.length := by omega
            obtain ⟨Y, cY, hr2⟩ := rowsOf_at Hq3.out hlt'
            obtain ⟨b', off', hA', hbb', r2, x2⟩ := (Hx.out.nx hn).rd hr2
            injection hA' with hA'
            injection hA' with hA1 hA2
            subst hA1 hA2
            simp only at r2 x2
            obtain ⟨⟨p1, p2⟩, ⟨s1, s2⟩, f1, f2, f3⟩ := List.pairwise_iff_getElem.1 Hord.out.1 (j - 1) j hlt' hlt (by omega)
            obtain ⟨g1, o1, rfl, gz1, y1, y2⟩ := x2.hd f1
            obtain ⟨g2, o2, rfl, gz2, y3, y4⟩ := x1.hd f2
            simp only at y1 y2 y3 y4
            have hpos2 : 0 < (bs[j - 1]).length := (List.getElem?_eq_some_iff.1 f1).1
            generalize bs[j - 1] = prev at *
            generalize bs[j] = cur at *
            have Hsrt := Lib.hid hsrt
            have F3 := Lib.hid f3
            clear f1 f2 hr hr2 x1 x2 hmem hjl hsrt f3
            go_wp2_with fail
            (refine tail_quiet 16 (by kernel_rfl) (by kernel_rfl) (fun W3 gW3 => ?_); obtain ⟨hcW3, hfW3, hzW3⟩ := gW3.rules; simp only [List.take_succ_cons, List.take_zero, List.drop_succ_cons, List.drop_zero]; (repeat go_big_quiet_step (fail)); with_reducible refine wpQuiet_nil ?_)
            go_wp2_with fail
            refine (dyL_yes F3.out _).mono ?_
            rintro e w8 ⟨rfl, hn8⟩
            have hn38 := gW3.trans hn8
            replace r1 := hn38.cell (p := ⟨b, off + j, none⟩) hbb r1
            replace hbb := Nat.lt_of_lt_of_le hbb hn38.size
            have Hx1 := Lib.hid (Hx1.out.nx hn38)
            clear hcW3 hfW3 hzW3 y1 y2 y3 y4 r2
            go_wp2_with fail
            obtain ⟨w11, rfl⟩ : ∃ x : World, x = w8 := ⟨_, rfl⟩
            go_loopg [6] (cur.length - 1) (fun gk i wr => ∃ k : Nat, k + gk = cur.length ∧ 1 ≤ k ∧ i = .int .i64 k ∧ Nx w11 wr)
            case atStart => exact ⟨1, by omega, by omega, rfl, Nx.refl _⟩
            case round =>
              obtain ⟨k, hk, hk1, rfl, hn9⟩ := hrel
              replace r1 := hn9.cell (p := ⟨b, off + j, none⟩) hbb r1
              replace hbb := Nat.lt_of_lt_of_le hbb hn9.size
              by_cases hlk : k < cur.length
              · obtain ⟨p, hp⟩ : ∃ p, cur[k - 1]? = some p := ⟨_, List.getElem?_eq_getElem (by omega)⟩
                obtain ⟨q, hq⟩ : ∃ q, cur[k]? = some q := ⟨_, List.getElem?_eq_getElem hlk⟩
                have hlt2 : ltE p q := by
                  have h := List.pairwise_iff_getElem.1 Hsrt.out (k - 1) k (by omega) hlk (by omega)
                  rw [(List.getElem?_eq_some_iff.1 hp).2, (List.getElem?_eq_some_iff.1 hq).2] at h
                  exact h
                obtain ⟨g1, o1, hX1, gz1, y1, y2⟩ := (Hx1.out.nx hn9).rd hp
                obtain ⟨g2, o2, hX2, gz2, y3, y4⟩ := (Hx1.out.nx hn9).rd hq
                rw [hX1] at hX2
                injection hX2 with hX2
                injection hX2 with hX3 hX4
                subst hX3 hX4
                first | subst hX1 | (injection hX1 with hX1; injection hX1 with hXa hXb; subst hXa hXb)
                obtain ⟨p1, p2⟩ := p
                obtain ⟨s1, s2⟩ := q
                simp only at y1 y2 y3 y4
                have Hlt2 := Lib.hid hlt2
                have hk0 : 0 < k := by omega
                have hk2 : k - 1 < cur.length := by omega
                clear hlt2 hp hq
                go_wp2_with fail
                (refine tail_quiet 15 (by kernel_rfl) (by kernel_rfl) (fun W5 gW5 => ?_); obtain ⟨hcW5, hfW5, hzW5⟩ := gW5.rules; simp only [List.take_succ_cons, List.take_zero, List.drop_succ_cons, List.drop_zero]; (repeat go_big_quiet_step (fail)); with_reducible refine wpQuiet_nil ?_)
                go_wp2_with fail
                refine (dyL_yes Hlt2.out _).mono ?_
                rintro e w10 ⟨rfl, hn10⟩
                have hn510 := gW5.trans hn10
                clear hcW5 hfW5 hzW5
                go_wp2
                go_roundg (gk - 1)
                case measure => omega
                case rel => exact ⟨k + 1, by omega, by omega, by go_num, hn9.trans hn510⟩
              · go_wp2
                go_roundg (gko - 1)
                case measure => omega
                case rel => exact ⟨j + 1, by omega, by go_num, (hn.trans (hn38)).trans hn9⟩
          · generalize bs[j] = cur at *
            have Hsrt := Lib.hid hsrt
            have hn12 : Nx wo (wo.drewN 0) := .drewN (.refl _) _
            clear hr hmem hjl hsrt hn12 x1
            go_wp2_with fail
            go_quiet (fail)
            have hn12 : Nx wo (wo.drewN nq) := .drewN (.refl _) _
            replace r1 := hn12.cell (p := ⟨b, off + j, none⟩) hbb r1
            replace hbb := Nat.lt_of_lt_of_le hbb hn12.size
            have Hx1 := Lib.hid (Hx1.out.nx hn12)
            generalize wo.drewN nq = w11 at *
            go_wp2_with fail
            go_loopg [6] (cur.length - 1) (fun gk i wr => ∃ k : Nat, k + gk = cur.length ∧ 1 ≤ k ∧ i = .int .i64 k ∧ Nx w11 wr)
            case atStart => exact ⟨1, by omega, by omega, rfl, Nx.refl _⟩
            case round =>
              obtain ⟨k, hk, hk1, rfl, hn9⟩ := hrel
              replace r1 := hn9.cell (p := ⟨b, off + j, none⟩) hbb r1
              replace hbb := Nat.lt_of_lt_of_le hbb hn9.size
              by_cases hlk : k < cur.length
              · obtain ⟨p, hp⟩ : ∃ p, cur[k - 1]? = some p := ⟨_, List.getElem?_eq_getElem (by omega)⟩
                obtain ⟨q, hq⟩ : ∃ q, cur[k]? = some q := ⟨_, List.getElem?_eq_getElem hlk⟩
                have hlt2 : ltE p q := by
                  have h := List.pairwise_iff_getElem.1 Hsrt.out (k - 1) k (by omega) hlk (by omega)
                  rw [(List.getElem?_eq_some_iff.1 hp).2, (List.getElem?_eq_some_iff.1 hq).2] at h
                  exact h
                obtain ⟨g1, o1, hX1, gz1, y1, y2⟩ := (Hx1.out.nx hn9).rd hp
                obtain ⟨g2, o2, hX2, gz2, y3, y4⟩ := (Hx1.out.nx hn9).rd hq
                rw [hX1] at hX2
                injection hX2 with hX2
                injection hX2 with hX3 hX4
                subst hX3 hX4
                first | subst hX1 | (injection hX1 with hX1; injection hX1 with hXa hXb; subst hXa hXb)
                obtain ⟨p1, p2⟩ := p
                obtain ⟨s1, s2⟩ := q
                simp only at y1 y2 y3 y4
                have Hlt2 := Lib.hid hlt2
                have hk0 : 0 < k := by omega
                have hk2 : k - 1 < cur.length := by omega
                clear hlt2 hp hq
                go_wp2_with fail
                (refine tail_quiet 15 (by kernel_rfl) (by kernel_rfl) (fun W5 gW5 => ?_); obtain ⟨hcW5, hfW5, hzW5⟩ := gW5.rules; simp only [List.take_succ_cons, List.take_zero, List.drop_succ_cons, List.drop_zero]; (repeat go_big_quiet_step (fail)); with_reducible refine wpQuiet_nil ?_)
                go_wp2_with fail
                refine (dyL_yes Hlt2.out _).mono ?_
                rintro e w10 ⟨rfl, hn10⟩
                have hn510 := gW5.trans hn10
                clear hcW5 hfW5 hzW5
                go_wp2
                go_roundg (gk - 1)
                case measure => omega
                case rel => exact ⟨k + 1, by omega, by omega, by go_num, hn9.trans hn510⟩
              · go_wp2
                go_roundg (gko - 1)
                case measure => omega
                case rel => exact ⟨j + 1, by omega, by go_num, (hn.trans (hn12)).trans hn9⟩
        · go_wp2
          go_ret
          exact RetV.bool rfl (N.trans hn)
    · rw [show decide (Valid nn es) = false by simpa using hp] at hgv
      have Hgv := Lib.hid hgv
      generalize blocksOf nn es = bs at *
      have hl1 : bs.length ≤ 1048576 := by have := hbl.1; omega
      have Hl2 := Lib.hid (fun b (hb : b ∈ bs) => Nat.le_trans (hbl.2 b hb) (by omega : 40 ≤ 1048576))
      clear hgv hp hbl hcap
      go_wp2_with fail
      generalize hW2 : World.alloc _ _ = W2
      have gW2 : Nx w1 W2 := by subst hW2; exact (by repeat (first | exact Nx.refl _ | assumption | apply Nx.alloc | apply Nx.drew | apply Nx.drewN | (refine Nx.setCell ?_ (by first | (simp; done) | (simp; omega) | omega) _) | refine Nx.trans ?_ (by assumption)))
      have sW2 : W2.heap.size = w1.heap.size + 1 := by subst hW2; simp
      have G : Bx W2 (w1.heap.size) 25 [V nn, .slice B es.length d] := by subst hW2; have h := Bx.alloc w1 25 [V nn, .slice B es.length d]; simpa using h
      have G_0 := G.cell (j := 0) rfl
      have G_1 := G.cell (j := 1) rfl
      have G_z := G.lt
      have HsW2 := Lib.hid sW2
      have lW2 : w1.heap.size + 1 ≤ W2.heap.size := by omega
      clear hW2 sW2
      replace hg := hg.nx gW2
      replace N := N.trans gW2
      refine (Hib.out _ hg).mono ?_
      rintro e w3 ⟨A3, c3, q3, rfl, hq3, ho3, hn3⟩
      replace G := G.nx hn3
      replace G_0 := G.cell (j := 0) rfl
      replace G_1 := G.cell (j := 1) rfl
      replace G_z := G.lt
      replace hg := hg.nx hn3
      replace N := N.trans hn3
      have hx := ho3.rowsAt
      have Hq3 := Lib.hid hq3
      clear ho3 hq3
      go_wp2_with fail
      refine (Hsb.out _ hg).mono ?_
      rintro e w4 ⟨A4, c4, q4, rfl, hq4, ho4, hn4⟩
      replace G := G.nx hn4
      replace G_0 := G.cell (j := 0) rfl
      replace G_1 := G.cell (j := 1) rfl
      replace G_z := G.lt
      replace hg := hg.nx hn4
      replace hx := hx.nx hn4
      replace N := N.trans hn4
      have hy := ho4.rowsAt
      have Hq4 := Lib.hid hq4
      clear ho4 hq4
      go_wp2_with fail
      refine (dyB_yes A3 A4 c3 c4 q3 q4 bs _ Hq3.out Hq4.out hx hy hl1 Hl2.out).mono ?_
      rintro e w5 ⟨rfl, hn5⟩
      replace G := G.nx hn5
      replace G_0 := G.cell (j := 0) rfl
      replace G_1 := G.cell (j := 1) rfl
      replace G_z := G.lt
      replace hg := hg.nx hn5
      replace hx := hx.nx hn5
      replace N := N.trans hn5
      go_wp2_with fail
      refine (Hgv.out _ hg).mono ?_
      rintro e w6 ⟨rfl, hn6⟩
      replace G := G.nx hn6
      replace G_0 := G.cell (j := 0) rfl
      replace G_1 := G.cell (j := 1) rfl
      replace G_z := G.lt
      replace hg := hg.nx hn6
      replace hx := hx.nx hn6
      replace N := N.trans hn6
      go_wp2_with fail
      refine (Hsb.out _ hg).mono ?_
      rintro e w7 ⟨A7, c7, q7, rfl, hq7, ho7, hn7⟩
      replace G := G.nx hn7
      replace G_0 := G.cell (j := 0) rfl
      replace G_1 := G.cell (j := 1) rfl
      replace G_z := G.lt
      replace hg := hg.nx hn7
      replace hx := hx.nx hn7
      replace N := N.trans hn7
      have hy := ho7.rowsAt
      have Hq7 := Lib.hid hq7
      clear ho7 hq7
      go_wp2_with fail
      refine (dyB_yes A3 A7 c3 c7 q3 q7 bs _ Hq3.out Hq7.out hx hy hl1 Hl2.out).mono ?_
      rintro e w8 ⟨rfl, hn8⟩
      replace G := G.nx hn8
      replace G_0 := G.cell (j := 0) rfl
      replace G_1 := G.cell (j := 1) rfl
      replace G_z := G.lt
      replace hg := hg.nx hn8
      replace hx := hx.nx hn8
      replace N := N.trans hn8
      go_wp2
      go_ret
      exact RetV.bool rfl N
end Go.Proofs.Yticjoichmcegnaa
