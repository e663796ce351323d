/- FnBridgesOf: the walk. -/
import Derived.Test.YtjchabeiaajgiaaJC
import Derived.Test.YtjchabeiaajgiaaC7
import Derived.Deep.RegionHeld3
import Derived.BigQuiet
import Derived.Deep.QuietTactic
import Derived.Deep.Cut
import Derived.Deep.CutRange
namespace Go.Proofs.Ytjchabeiaajgiaa
open Go.RowKit set_option linter.unusedVariables false set_option linter.unusedSimpArgs false

theorem dyE_yes (A A' : Option Addr) (c c' : Nat) (xs : List (Int × Int)) (w : World) (hx : EdgesAt w A xs) (hy : EdgesAt w A' xs) (hl : xs.length ≤ 1048576) :
    Calls Try.prog 33 #[.slice A xs.length c, .slice A' xs.length c'] w (RetV (.bool true) w) := by
  have h1 := dyEdges_c A A' c c' xs xs w hx hy hl hl
  rwa [show decide (xs = xs) = true by simp] at h1
theorem se_bridge {n : Int} {es : Es} (h : Valid n es) {a b : Int} (he : (a, b) ∈ es) : isBr n es a b = lowBridge (seOf n es) a b ∧ decide ((a, b) ∈ bridgesOf n es) = lowBridge (seOf n es) a b := by
  have hE : ∀ e ∈ es, 0 ≤ e.1 ∧ e.1 < e.2 ∧ e.2 < (n.toNat : Int) := fun e he => by have := h.pair he; have := h.nat; omega
  have hb := (se_found h).bridge hE h.inR he
  rw [isBr_yes ⟨h, he⟩, hb]
  refine ⟨rfl, ?_⟩
  rw [bridgesOf_yes h, ← hb]
  have hm : (a, b) ∈ bridgesL n.toNat es ↔ bridgeB n.toNat es (a, b) = true := by unfold bridgesL; rw [List.mem_filter]; exact ⟨fun h => h.2, fun h => ⟨he, h⟩⟩
  cases hq : bridgeB n.toNat es (a, b) <;> simp [hm, hq]

set_option maxRecDepth 100000 in
set_option maxHeartbeats 8000000 in
theorem fnBridgesOf_walk (w : World) (A : Option Addr) (n c : Nat) (hnc : n ≤ c) (hb : BytesAt w w.heap.size A n) :
    Calls Try.prog 6 #[.slice A n c] w (RetV (.bool true) w) := by
  by_cases hbig : (n : Int) > 1048576
  · go_enter Try.func6, Try.ntmps6
    go_wp2
    go_ret
    exact RetV.bool rfl (by repeat (first | exact Nx.refl _ | assumption | apply Nx.alloc | apply Nx.drew | apply Nx.drewN | (refine Nx.setCell ?_ (by first | (simp; done) | (simp; omega) | omega) _) | refine Nx.trans ?_ (by assumption)))
  · go_enter Try.func6, Try.ntmps6
    go_wp2_with fail
    refine (drawBridgesOf_c A n c _ hnc hb).mono ?_
    rintro e w1 ⟨nn, B, d, es, rfl, h1, h2, h3, ho, N⟩
    have hg := ho.edgesAt
    clear ho hb
    have hLl := bridgesOf_length nn es
    have Hib := Lib.hid (fun w h => iBridgesOf_c nn B d es w h (by omega))
    have Hsb := Lib.hid (fun w h => sBridgesOf_c nn B d es w h (by omega))
    have hgv := fun w h => iGraphValid_c nn B d es w h (by omega)
    by_cases hp : Valid nn es
    · have hlen := seOf_len nn es
      have His := Lib.hid (fun w h => (iSearchOf_c nn B d es w h (by omega)).mono fun _ _ h => h.q)
      unfold RetQe at His
      rw [show decide (Valid nn es) = true by simpa using hp] at His hgv
      have Hgv := Lib.hid hgv
      have Hbr := Lib.hid (fun a b he => se_bridge hp (a := a) (b := b) he)
      have Hbi := Lib.hid (fun a b w h => iIsBridge_c nn B d es a b w h (by omega))
      have Hends := Lib.hid (fun e he => hp.pair (e := e) he)
      have hfd := (se_found hp).ok
      have hlN := hfd.ln
      have hlP := hfd.lp
      have hlL := hfd.ll
      have h01 := hp.1
      generalize seOf nn es = s at *
      obtain ⟨m, hm⟩ : ∃ m : Nat, nn = m := ⟨nn.toNat, by omega⟩
      subst hm
      rw [Int.toNat_natCast] at hlN hlP hlL
      simp only [hlN, hlP, hlL] at His
      have HlN := Lib.hid hlN
      have HlP := Lib.hid hlP
      have HlL := Lib.hid hlL
      generalize bridgesOf (m : Int) es = L at *
      have Hdh := Lib.hid (fun A c x y w h => dyHas_c A c L x y w h (by omega))
      clear hp hgv hfd hlN hlP hlL hlen h01
      go_wp2_with fail
      generalize hW2 : World.alloc _ _ = W2
      have gW2 : Nx w1 W2 := by subst hW2; exact (by repeat (first | exact Nx.refl _ | assumption | apply Nx.alloc | apply Nx.drew | apply Nx.drewN | (refine Nx.setCell ?_ (by first | (simp; done) | (simp; omega) | omega) _) | refine Nx.trans ?_ (by assumption)))
      have sW2 : W2.heap.size = w1.heap.size + 1 := by subst hW2; simp
      have G : Bx W2 (w1.heap.size) 26 [V (m : Nat), .slice B es.length d] := by subst hW2; have h := Bx.alloc w1 26 [V (m : Nat), .slice B es.length d]; simpa using h
      have G_0 := G.cell (j := 0) rfl
      have G_1 := G.cell (j := 1) rfl
      have G_z := G.lt
      have HsW2 := Lib.hid sW2
      have lW2 : w1.heap.size + 1 ≤ W2.heap.size := by omega
      clear hW2 sW2
      replace hg := hg.nx gW2
      replace N := N.trans gW2
      refine (Hib.out _ hg).mono ?_
      rintro e w3 ⟨C, k, rfl, ho3, hn3⟩
      replace G := G.nx hn3
      replace G_0 := G.cell (j := 0) rfl
      replace G_1 := G.cell (j := 1) rfl
      replace G_z := G.lt
      replace hg := hg.nx hn3
      replace N := N.trans hn3
      have hx := ho3.edgesAt
      clear ho3
      go_wp2_with fail
      refine (Hsb.out _ hg).mono ?_
      rintro e w4 ⟨D, q, rfl, ho4, hn4⟩
      replace G := G.nx hn4
      replace G_0 := G.cell (j := 0) rfl
      replace G_1 := G.cell (j := 1) rfl
      replace G_z := G.lt
      replace hg := hg.nx hn4
      replace hx := hx.nx hn4
      replace N := N.trans hn4
      have hy := ho4.edgesAt
      clear ho4
      go_wp2_with fail
      refine (dyE_yes C D k q L _ hx hy (by omega)).mono ?_
      rintro e w5 ⟨rfl, hn5⟩
      replace G := G.nx hn5
      replace G_0 := G.cell (j := 0) rfl
      replace G_1 := G.cell (j := 1) rfl
      replace G_z := G.lt
      replace hg := hg.nx hn5
      replace hx := hx.nx hn5
      replace N := N.trans hn5
      go_wp2_with fail
      refine (Hgv.out _ hg).mono ?_
      rintro e w6 ⟨rfl, hn6⟩
      replace G := G.nx hn6
      replace G_0 := G.cell (j := 0) rfl
      replace G_1 := G.cell (j := 1) rfl
      replace G_z := G.lt
      replace hg := hg.nx hn6
      replace hx := hx.nx hn6
      replace N := N.trans hn6
      clear hy
      go_wp2_with fail
      refine (His.out _ hg).mono ?_
      rintro e w7 ⟨F0, f0, F1, f1, F2, f2, rfl, of, hn7⟩
      replace G := G.nx hn7
      replace G_0 := G.cell (j := 0) rfl
      replace G_1 := G.cell (j := 1) rfl
      replace G_z := G.lt
      replace hg := hg.nx hn7
      replace hx := hx.nx hn7
      replace N := N.trans hn7
      go_wp2_with fail
      generalize hW8 : World.alloc _ _ = W8
      have gW8 : Nx w7 W8 := by subst hW8; exact (by repeat (first | exact Nx.refl _ | assumption | apply Nx.alloc | apply Nx.drew | apply Nx.drewN | (refine Nx.setCell ?_ (by first | (simp; done) | (simp; omega) | omega) _) | refine Nx.trans ?_ (by assumption)))
      have sW8 : W8.heap.size = w7.heap.size + 1 := by subst hW8; simp
      have F : Bx W8 (w7.heap.size) 48 [.slice F0 m f0, .slice F1 m f1, .slice F2 m f2] := by subst hW8; have h := Bx.alloc w7 48 [.slice F0 m f0, .slice F1 m f1, .slice F2 m f2]; simpa using h
      have F_0 := F.cell (j := 0) rfl
      have F_1 := F.cell (j := 1) rfl
      have F_2 := F.cell (j := 2) rfl
      have F_z := F.lt
      have HsW8 := Lib.hid sW8
      have lW8 : w7.heap.size + 1 ≤ W8.heap.size := by omega
      clear hW8 sW8
      replace G := G.nx gW8
      replace G_0 := G.cell (j := 0) rfl
      replace G_1 := G.cell (j := 1) rfl
      replace G_z := G.lt
      replace hg := hg.nx gW8
      replace hx := hx.nx gW8
      replace N := N.trans gW8
      have iN := of.a.intsAt.nx gW8
      have iP := of.b.intsAt.nx gW8
      have iL := of.c.intsAt.nx gW8
      clear of
      go_wp2
      go_loopg [7] es.length (fun gk i wr => ∃ j : Nat, j + gk = es.length ∧ i = .int .i64 j ∧ Nx W8 wr)
      case atStart => exact ⟨0, by omega, rfl, Nx.refl _⟩
      case round =>
        obtain ⟨j, hj, rfl, hn⟩ := hrel
        replace G := G.nx hn
        replace G_0 := G.cell (j := 0) rfl
        replace G_1 := G.cell (j := 1) rfl
        replace G_z := G.lt
        replace F := F.nx hn
        replace F_0 := F.cell (j := 0) rfl
        replace F_1 := F.cell (j := 1) rfl
        replace F_2 := F.cell (j := 2) rfl
        replace F_z := F.lt
        replace hg := hg.nx hn
        replace hx := hx.nx hn
        replace iN := iN.nx hn
        replace iP := iP.nx hn
        replace iL := iL.nx hn
        replace N := N.trans hn
        by_cases hlt : j < es.length
        · obtain ⟨⟨a, b⟩, hje⟩ : ∃ x, es[j]? = some x := ⟨_, List.getElem?_eq_getElem hlt⟩
          have hmem := List.mem_of_getElem? hje
          obtain ⟨hbi1, hbi2⟩ := Hbr.out a b hmem
          have hend := Hends.out _ hmem
          simp only at hend
          obtain ⟨a, rfl⟩ := Int.eq_ofNat_of_zero_le (show 0 ≤ a by omega)
          obtain ⟨b, rfl⟩ := Int.eq_ofNat_of_zero_le (show 0 ≤ b by omega)
          have Hg := Lib.hid hg
          obtain ⟨be, oe, rfl, ze, re1, re2⟩ := hg.rd hje
          simp only at re1 re2
          have lNa : a < s.N.length := by rw [HlN.out]; omega
          have lNb : b < s.N.length := by rw [HlN.out]; omega
          have lPa : a < s.P.length := by rw [HlP.out]; omega
          have lPb : b < s.P.length := by rw [HlP.out]; omega
          have lLa : a < s.L.length := by rw [HlL.out]; omega
          have lLb : b < s.L.length := by rw [HlL.out]; omega
          have ham : a < m := by omega
          have hbm : b < m := by omega
          obtain ⟨bN, oN, rfl, zN, rNa⟩ := iN.lk lNa
          obtain ⟨bP, oP, rfl, zP, rPa⟩ := iP.lk lPa
          obtain ⟨bL, oL, rfl, zL, rLa⟩ := iL.lk lLa
          obtain ⟨_, _, hq1, _, rNb⟩ := iN.lk lNb
          obtain ⟨_, _, hq2, _, rPb⟩ := iP.lk lPb
          obtain ⟨_, _, hq3, _, rLb⟩ := iL.lk lLb
          injection hq1 with hq1; injection hq1 with hq11 hq12; subst hq11 hq12
          injection hq2 with hq2; injection hq2 with hq21 hq22; subst hq21 hq22
          injection hq3 with hq3; injection hq3 with hq31 hq32; subst hq31 hq32
          obtain ⟨bv, hbv⟩ : ∃ x, lowBridge s a b = x := ⟨_, rfl⟩
          rw [hbv] at hbi1 hbi2
          have hbv2 : bv = ((decide (lk s.P b = a) && decide (lk s.N a < lk s.L b)) || (decide (lk s.P a = b) && decide (lk s.N b < lk s.L a))) := hbv.symm
          generalize lk s.N (a : Int) = Na at *
          generalize lk s.N (b : Int) = Nb at *
          generalize lk s.P (a : Int) = Pa at *
          generalize lk s.P (b : Int) = Pb at *
          generalize lk s.L (a : Int) = La at *
          generalize lk s.L (b : Int) = Lb at *
          have Hbv := Lib.hid hbv2
          have hcb := fun w h => Hbi.out a b w h
          have hcd := fun A c w h => Hdh.out A c a b w h
          rw [hbi1] at hcb
          rw [hbi2] at hcd
          have Hcb := Lib.hid hcb
          have Hcd := Lib.hid hcd
          have hbb : (bv != bv) = false := by cases bv <;> rfl
          clear hmem hje hend hbi1 hbi2 hbv hbv2 iN iP iL lNa lNb lPa lPb lLa lLb hcb hcd hg
          go_upto_region 12 with (fail)
          generalize hW9 : World.alloc _ _ = W9
          have gW9 : Nx wr W9 := by subst hW9; exact (by repeat (first | exact Nx.refl _ | assumption | apply Nx.alloc | apply Nx.drew | apply Nx.drewN | (refine Nx.setCell ?_ (by first | (simp; done) | (simp; omega) | omega) _) | refine Nx.trans ?_ (by assumption)))
          have sW9 : W9.heap.size = wr.heap.size + 1 := by subst hW9; simp
          have E : Bx W9 (wr.heap.size) 36 [V (a : Nat), V (b : Nat)] := by subst hW9; have h := Bx.alloc wr 36 [V (a : Nat), V (b : Nat)]; simpa using h
          have E_0 := E.cell (j := 0) rfl
          have E_1 := E.cell (j := 1) rfl
          have E_z := E.lt
          have HsW9 := Lib.hid sW9
          have lW9 : wr.heap.size + 1 ≤ W9.heap.size := by omega
          clear hW9 sW9
          replace G := G.nx gW9
          replace G_0 := G.cell (j := 0) rfl
          replace G_1 := G.cell (j := 1) rfl
          replace G_z := G.lt
          replace F := F.nx gW9
          replace F_0 := F.cell (j := 0) rfl
          replace F_1 := F.cell (j := 1) rfl
          replace F_2 := F.cell (j := 2) rfl
          replace F_z := F.lt
          replace hx := hx.nx gW9
          replace N := N.trans gW9
          have hg := Hg.out.nx gW9
          have HN9 := Lib.hid (hn.trans gW9)
          replace rNa := gW9.cell zN rNa
          replace rNb := gW9.cell zN rNb
          replace rPa := gW9.cell zP rPa
          replace rPb := gW9.cell zP rPb
          replace rLa := gW9.cell zL rLa
          replace rLb := gW9.cell zL rLb
          replace zN := Nat.lt_of_lt_of_le zN gW9.size
          replace zP := Nat.lt_of_lt_of_le zP gW9.size
          replace zL := Nat.lt_of_lt_of_le zL gW9.size
          clear re1 re2 Hg
          go_cut [9] from 53 to 102 (fun s9 wc => s9 = .bool bv ∧ Nx W9 wc)
          case first =>
            by_cases q1 : Pb = (a : Int)
            · have g1 : (Pb == (a : Int)) = true := by simpa using q1
              by_cases q2 : Na < Lb
              · have g2 : decide (Na < Lb) = true := by simpa using q2
                have v : bv = true := by rw [Hbv.out]; simp [q1, q2]
                clear q1 q2
                go_quiet (fail)
                go_wp2
                go_meet
                exact ⟨by rw [v], .drewN (.refl _) _⟩
              · have g2 : decide (Na < Lb) = false := by simpa using q2
                by_cases q3 : Pa = (b : Int)
                · have g3 : (Pa == (b : Int)) = true := by simpa using q3
                  by_cases q4 : Nb < La
                  · have g4 : decide (Nb < La) = true := by simpa using q4
                    have v : bv = true := by rw [Hbv.out]; simp [q3, q4]
                    clear q1 q2 q3 q4
                    go_quiet (fail)
                    go_wp2
                    go_meet
                    exact ⟨by rw [v], .drewN (.refl _) _⟩
                  · have g4 : decide (Nb < La) = false := by simpa using q4
                    have v : bv = false := by rw [Hbv.out]; simp [q1, q2, q3, q4]
                    clear q1 q2 q3 q4
                    go_quiet (fail)
                    go_wp2
                    go_meet
                    exact ⟨by rw [v], .drewN (.refl _) _⟩
                · have g3 : (Pa == (b : Int)) = false := by simpa using q3
                  have v : bv = false := by rw [Hbv.out]; simp [q1, q2, q3]
                  clear q1 q2 q3
                  go_quiet (fail)
                  go_wp2
                  go_meet
                  exact ⟨by rw [v], .drewN (.refl _) _⟩
            · have g1 : (Pb == (a : Int)) = false := by simpa using q1
              by_cases q3 : Pa = (b : Int)
              · have g3 : (Pa == (b : Int)) = true := by simpa using q3
                by_cases q4 : Nb < La
                · have g4 : decide (Nb < La) = true := by simpa using q4
                  have v : bv = true := by rw [Hbv.out]; simp [q3, q4]
                  clear q1 q3 q4
                  go_quiet (fail)
                  go_wp2
                  go_meet
                  exact ⟨by rw [v], .drewN (.refl _) _⟩
                · have g4 : decide (Nb < La) = false := by simpa using q4
                  have v : bv = false := by rw [Hbv.out]; simp [q1, q3, q4]
                  clear q1 q3 q4
                  go_quiet (fail)
                  go_wp2
                  go_meet
                  exact ⟨by rw [v], .drewN (.refl _) _⟩
              · have g3 : (Pa == (b : Int)) = false := by simpa using q3
                have v : bv = false := by rw [Hbv.out]; simp [q1, q3]
                clear q1 q3
                go_quiet (fail)
                go_wp2
                go_meet
                exact ⟨by rw [v], .drewN (.refl _) _⟩
          obtain ⟨rfl, nc⟩ := hcut
          obtain ⟨W10, hW10⟩ : ∃ v, v = wc := ⟨_, rfl⟩
          subst hW10
          clear rNa rNb rPa rPb rLa rLb zN zP zL
          replace G := G.nx nc
          replace G_0 := G.cell (j := 0) rfl
          replace G_1 := G.cell (j := 1) rfl
          replace G_z := G.lt
          replace F := F.nx nc
          replace F_0 := F.cell (j := 0) rfl
          replace F_1 := F.cell (j := 1) rfl
          replace F_2 := F.cell (j := 2) rfl
          replace F_z := F.lt
          replace E := E.nx nc
          replace E_0 := E.cell (j := 0) rfl
          replace E_1 := E.cell (j := 1) rfl
          replace E_z := E.lt
          replace hg := hg.nx nc
          replace hx := hx.nx nc
          replace N := N.trans nc
          have HN10 := Lib.hid (HN9.out.trans nc)
          go_wp2_with fail
          refine (Hcb.out _ hg).mono ?_
          rintro e w11 ⟨rfl, hn11⟩
          replace G := G.nx hn11
          replace G_0 := G.cell (j := 0) rfl
          replace G_1 := G.cell (j := 1) rfl
          replace G_z := G.lt
          replace F := F.nx hn11
          replace F_0 := F.cell (j := 0) rfl
          replace F_1 := F.cell (j := 1) rfl
          replace F_2 := F.cell (j := 2) rfl
          replace F_z := F.lt
          replace E := E.nx hn11
          replace E_0 := E.cell (j := 0) rfl
          replace E_1 := E.cell (j := 1) rfl
          replace E_z := E.lt
          replace hg := hg.nx hn11
          replace hx := hx.nx hn11
          replace N := N.trans hn11
          go_wp2_with fail
          refine (Hcd.out C k _ hx).mono ?_
          rintro e w12 ⟨rfl, hn12⟩
          replace G := G.nx hn12
          replace G_0 := G.cell (j := 0) rfl
          replace G_1 := G.cell (j := 1) rfl
          replace G_z := G.lt
          replace N := N.trans hn12
          go_wp2
          go_roundg (gk - 1)
          case measure => omega
          case rel => exact ⟨j + 1, by omega, by go_num, HN10.out.trans (hn11.trans hn12)⟩
        · go_wp2
          go_ret
          exact RetV.bool rfl N
    · have hL := bridgesOf_no hp
      rw [hL] at Hib Hsb
      rw [show decide (Valid nn es) = false by simpa using hp] at hgv
      have Hgv := Lib.hid hgv
      clear hp hL hgv hLl
      go_wp2_with fail
      generalize hW2 : World.alloc _ _ = W2
      have gW2 : Nx w1 W2 := by subst hW2; exact (by repeat (first | exact Nx.refl _ | assumption | apply Nx.alloc | apply Nx.drew | apply Nx.drewN | (refine Nx.setCell ?_ (by first | (simp; done) | (simp; omega) | omega) _) | refine Nx.trans ?_ (by assumption)))
      have sW2 : W2.heap.size = w1.heap.size + 1 := by subst hW2; simp
      have G : Bx W2 (w1.heap.size) 26 [V nn, .slice B es.length d] := by subst hW2; have h := Bx.alloc w1 26 [V nn, .slice B es.length d]; simpa using h
      have G_0 := G.cell (j := 0) rfl
      have G_1 := G.cell (j := 1) rfl
      have G_z := G.lt
      have HsW2 := Lib.hid sW2
      have lW2 : w1.heap.size + 1 ≤ W2.heap.size := by omega
      clear hW2 sW2
      replace hg := hg.nx gW2
      replace N := N.trans gW2
      refine (Hib.out _ hg).mono ?_
      rintro e w3 ⟨C, k, rfl, ho3, hn3⟩
      replace G := G.nx hn3
      replace G_0 := G.cell (j := 0) rfl
      replace G_1 := G.cell (j := 1) rfl
      replace G_z := G.lt
      replace hg := hg.nx hn3
      replace N := N.trans hn3
      have hx := ho3.edgesAt
      clear ho3
      go_wp2_with fail
      refine (Hsb.out _ hg).mono ?_
      rintro e w4 ⟨D, q, rfl, ho4, hn4⟩
      replace G := G.nx hn4
      replace G_0 := G.cell (j := 0) rfl
      replace G_1 := G.cell (j := 1) rfl
      replace G_z := G.lt
      replace hg := hg.nx hn4
      replace hx := hx.nx hn4
      replace N := N.trans hn4
      have hy := ho4.edgesAt
      clear ho4
      go_wp2_with fail
      refine (dyE_yes C D k q [] _ hx hy (by simp)).mono ?_
      rintro e w5 ⟨rfl, hn5⟩
      replace G := G.nx hn5
      replace G_0 := G.cell (j := 0) rfl
      replace G_1 := G.cell (j := 1) rfl
      replace G_z := G.lt
      replace hg := hg.nx hn5
      replace hx := hx.nx hn5
      replace N := N.trans hn5
      go_wp2_with fail
      refine (Hgv.out _ hg).mono ?_
      rintro e w6 ⟨rfl, hn6⟩
      replace G := G.nx hn6
      replace G_0 := G.cell (j := 0) rfl
      replace G_1 := G.cell (j := 1) rfl
      replace G_z := G.lt
      replace hg := hg.nx hn6
      replace hx := hx.nx hn6
      replace N := N.trans hn6
      go_wp2_with fail
      refine (Hsb.out _ hg).mono ?_
      rintro e w7 ⟨D2, q2, rfl, ho7, hn7⟩
      replace G := G.nx hn7
      replace G_0 := G.cell (j := 0) rfl
      replace G_1 := G.cell (j := 1) rfl
      replace G_z := G.lt
      replace hg := hg.nx hn7
      replace hx := hx.nx hn7
      replace N := N.trans hn7
      have hy := ho7.edgesAt
      clear ho7
      go_wp2_with fail
      refine (dyE_yes C D2 k q2 [] _ hx hy (by simp)).mono ?_
      rintro e w8 ⟨rfl, hn8⟩
      replace G := G.nx hn8
      replace G_0 := G.cell (j := 0) rfl
      replace G_1 := G.cell (j := 1) rfl
      replace G_z := G.lt
      replace hg := hg.nx hn8
      replace hx := hx.nx hn8
      replace N := N.trans hn8
      go_wp2
      go_ret
      exact RetV.bool rfl N
end Go.Proofs.Ytjchabeiaajgiaa
