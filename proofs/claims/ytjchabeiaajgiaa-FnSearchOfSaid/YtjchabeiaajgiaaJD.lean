/- FnSearchOf: the walk. -/
import Derived.Test.YtjchabeiaajgiaaJC
import Derived.Deep.RegionHeld3
import Derived.BigQuiet
import Derived.Deep.QuietTactic
namespace Go.Proofs.Ytjchabeiaajgiaa
open Go.RowKit set_option linter.unusedVariables false set_option linter.unusedSimpArgs false

set_option maxRecDepth 100000 in
set_option maxHeartbeats 8000000 in
theorem fnSearchOf_walk (w : World) (A : Option Addr) (n c : Nat) (hnc : n ≤ c) (hb : BytesAt w w.heap.size A n) :
    Calls Try.prog 5 #[.slice A n c] w (RetV (.bool true) w) := by
  by_cases hbig : (n : Int) > 1048576
  · go_enter Try.func5, Try.ntmps5
    go_wp2
    go_ret
    exact RetV.bool rfl (by repeat (first | exact Nx.refl _ | assumption | apply Nx.alloc | apply Nx.drew | apply Nx.drewN | (refine Nx.setCell ?_ (by first | (simp; done) | (simp; omega) | omega) _) | refine Nx.trans ?_ (by assumption)))
  · go_enter Try.func5, Try.ntmps5
    go_wp2_with fail
    refine (drawSearchOf_c A n c _ hnc hb).mono ?_
    rintro e w1 ⟨nn, B, d, es, rfl, h1, h2, h3, ho, N⟩
    have hg := ho.edgesAt
    clear ho hb
    have hlen := seOf_len nn es
    have His := Lib.hid (fun w h => (iSearchOf_c nn B d es w h (by omega)).mono fun _ _ h => h.q)
    have Hss := Lib.hid (fun w h => (sSearchOf_c nn B d es w h (by omega)).mono fun _ _ h => h.q)
    unfold RetQe at His Hss
    have Hdy := Lib.hid (fun lo hi lo' hi' A B C A' B' C' ca cb cc ca' cb' cc' w' h h' => dySearch_r lo hi lo' hi' (seOf nn es) A B C A' B' C' ca cb cc ca' cb' cc' w' h h' (by omega) (by omega) (by omega))
    by_cases hp : Valid nn es
    · rw [show decide (Valid nn es) = true by simpa using hp] at His Hss
      have hroots := se_roots hp
      have hpc := fun w h => iPartCount_c nn B d es w h (by omega)
      rw [← hroots] at hpc
      have Hpc := Lib.hid hpc
      have Hnode := Lib.hid (fun k hk => se_node hp (k := k) hk)
      have hHas := fun x y w h => iHasEdge_c nn B d es x y w h (by omega)
      have HHas := Lib.hid (fun x y (hxy : decide (HasB nn es x y) = true) w h => (show Calls Try.prog 29 #[.agg #[V nn, .slice B es.length d], Ed x y] w (RetV (.bool true) w) from hxy ▸ hHas x y w h))
      have hfd := (se_found hp).ok
      have hlN := hfd.ln
      have hlP := hfd.lp
      have hlL := hfd.ll
      have h01 := hp.1
      have hrs := fun k => rootsTo_succ (seOf nn es).P k
      have hrl := fun k => rootsTo_le (seOf nn es).P k
      have Hrs := Lib.hid hrs
      have Hrl := Lib.hid hrl
      have hr0 : rootsTo (seOf nn es).P 0 = 0 := rfl
      have Hr0 := Lib.hid hr0
      generalize seOf nn es = s at *
      obtain ⟨m, hm⟩ : ∃ m : Nat, nn = m := ⟨nn.toNat, by omega⟩
      subst hm
      rw [Int.toNat_natCast] at hlN hlP hlL Hpc Hnode
      simp only [hlN, hlP, hlL] at His Hss Hdy
      have HlN := Lib.hid hlN
      have HlP := Lib.hid hlP
      have HlL := Lib.hid hlL
      obtain ⟨me, hme⟩ : ∃ x, es.length = x := ⟨_, rfl⟩
      have He : Hid (decide True = true) := Lib.hid rfl
      simp only [hme] at His Hss HHas Hpc h3 ⊢
      clear hme hp hroots hpc hHas hfd hlN hlP hlL hlen hrs hrl hr0 He h01
      go_wp2_with fail
      generalize hW2 : World.alloc _ _ = W2
      have gW2 : Nx w1 W2 := by subst hW2; exact (by repeat (first | exact Nx.refl _ | assumption | apply Nx.alloc | apply Nx.drew | apply Nx.drewN | (refine Nx.setCell ?_ (by first | (simp; done) | (simp; omega) | omega) _) | refine Nx.trans ?_ (by assumption)))
      have sW2 : W2.heap.size = w1.heap.size + 1 := by subst hW2; simp
      have G : Bx W2 (w1.heap.size) 26 [V (m : Nat), .slice B me d] := by subst hW2; have h := Bx.alloc w1 26 [V (m : Nat), .slice B me d]; simpa using h
      have G_0 := G.cell (j := 0) rfl
      have G_1 := G.cell (j := 1) rfl
      have G_z := G.lt
      have HsW2 := Lib.hid sW2
      have lW2 : w1.heap.size + 1 ≤ W2.heap.size := by omega
      clear hW2 sW2
      replace hg := hg.nx gW2
      replace N := N.trans gW2
      refine (His.out _ hg).mono ?_
      rintro e w3 ⟨F0, f0, F1, f1, F2, f2, rfl, of, hn3⟩
      replace G := G.nx hn3
      replace G_0 := G.cell (j := 0) rfl
      replace G_1 := G.cell (j := 1) rfl
      replace G_z := G.lt
      replace hg := hg.nx hn3
      replace N := N.trans hn3
      go_wp2_with fail
      generalize hW4 : World.alloc _ _ = W4
      have gW4 : Nx w3 W4 := by subst hW4; exact (by repeat (first | exact Nx.refl _ | assumption | apply Nx.alloc | apply Nx.drew | apply Nx.drewN | (refine Nx.setCell ?_ (by first | (simp; done) | (simp; omega) | omega) _) | refine Nx.trans ?_ (by assumption)))
      have sW4 : W4.heap.size = w3.heap.size + 1 := by subst hW4; simp
      have F : Bx W4 (w3.heap.size) 48 [.slice F0 m f0, .slice F1 m f1, .slice F2 m f2] := by subst hW4; have h := Bx.alloc w3 48 [.slice F0 m f0, .slice F1 m f1, .slice F2 m f2]; simpa using h
      have F_0 := F.cell (j := 0) rfl
      have F_1 := F.cell (j := 1) rfl
      have F_2 := F.cell (j := 2) rfl
      have F_z := F.lt
      have HsW4 := Lib.hid sW4
      have lW4 : w3.heap.size + 1 ≤ W4.heap.size := by omega
      clear hW4 sW4
      replace G := G.nx gW4
      replace G_0 := G.cell (j := 0) rfl
      replace G_1 := G.cell (j := 1) rfl
      replace G_z := G.lt
      replace hg := hg.nx gW4
      replace N := N.trans gW4
      replace of := of.nx gW4
      refine (Hss.out _ hg).mono ?_
      rintro e w5 ⟨Y0, y0, Y1, y1, Y2, y2, rfl, oy, hn5⟩
      replace G := G.nx hn5
      replace G_0 := G.cell (j := 0) rfl
      replace G_1 := G.cell (j := 1) rfl
      replace G_z := G.lt
      replace F := F.nx hn5
      replace F_0 := F.cell (j := 0) rfl
      replace F_1 := F.cell (j := 1) rfl
      replace F_2 := F.cell (j := 2) rfl
      replace F_z := F.lt
      replace hg := hg.nx hn5
      replace N := N.trans hn5
      replace of := of.nx hn5
      go_wp2_with fail
      generalize hW6 : World.alloc _ _ = W6
      have gW6 : Nx w5 W6 := by subst hW6; exact (by repeat (first | exact Nx.refl _ | assumption | apply Nx.alloc | apply Nx.drew | apply Nx.drewN | (refine Nx.setCell ?_ (by first | (simp; done) | (simp; omega) | omega) _) | refine Nx.trans ?_ (by assumption)))
      have sW6 : W6.heap.size = w5.heap.size + 1 := by subst hW6; simp
      have Y : Bx W6 (w5.heap.size) 48 [.slice Y0 m y0, .slice Y1 m y1, .slice Y2 m y2] := by subst hW6; have h := Bx.alloc w5 48 [.slice Y0 m y0, .slice Y1 m y1, .slice Y2 m y2]; simpa using h
      have Y_0 := Y.cell (j := 0) rfl
      have Y_1 := Y.cell (j := 1) rfl
      have Y_2 := Y.cell (j := 2) rfl
      have Y_z := Y.lt
      have HsW6 := Lib.hid sW6
      have lW6 : w5.heap.size + 1 ≤ W6.heap.size := by omega
      clear hW6 sW6
      replace G := G.nx gW6
      replace G_0 := G.cell (j := 0) rfl
      replace G_1 := G.cell (j := 1) rfl
      replace G_z := G.lt
      replace F := F.nx gW6
      replace F_0 := F.cell (j := 0) rfl
      replace F_1 := F.cell (j := 1) rfl
      replace F_2 := F.cell (j := 2) rfl
      replace F_z := F.lt
      replace hg := hg.nx gW6
      replace N := N.trans gW6
      replace of := of.nx gW6
      replace oy := oy.nx gW6
      refine (Hdy.out _ _ _ _ F0 F1 F2 Y0 Y1 Y2 f0 f1 f2 y0 y1 y2 _ of oy).mono ?_
      rintro e w7 ⟨rfl, hn7⟩
      replace G := G.nx hn7
      replace G_0 := G.cell (j := 0) rfl
      replace G_1 := G.cell (j := 1) rfl
      replace G_z := G.lt
      replace F := F.nx hn7
      replace F_0 := F.cell (j := 0) rfl
      replace F_1 := F.cell (j := 1) rfl
      replace F_2 := F.cell (j := 2) rfl
      replace F_z := F.lt
      replace hg := hg.nx hn7
      replace N := N.trans hn7
      have iN := of.a.intsAt.nx hn7
      have iP := of.b.intsAt.nx hn7
      have iL := of.c.intsAt.nx hn7
      clear of oy Y Y_0 Y_1 Y_2 Y_z
      go_wp2
      go_loopg [8, 9] m (fun gk rv i wr => ∃ k : Nat, k + gk = m ∧ i = .int .i64 k ∧ rv = V (rootsTo s.P k) ∧ Nx w7 wr)
      case atStart => exact ⟨0, by omega, rfl, by rw [Hr0.out]; rfl, Nx.refl _⟩
      case round =>
        obtain ⟨k, hk, rfl, rfl, hn⟩ := hrel
        replace G := G.nx hn
        replace G_0 := G.cell (j := 0) rfl
        replace G_1 := G.cell (j := 1) rfl
        replace G_z := G.lt
        replace F := F.nx hn
        replace F_0 := F.cell (j := 0) rfl
        replace F_1 := F.cell (j := 1) rfl
        replace F_2 := F.cell (j := 2) rfl
        replace F_z := F.lt
        replace hg := hg.nx hn
        replace iN := iN.nx hn
        replace iP := iP.nx hn
        replace iL := iL.nx hn
        replace N := N.trans hn
        by_cases hlt : k < m
        · obtain ⟨n1, n2, n3, n4⟩ := Hnode.out k hlt
          have hst := Hrs.out k
          have hrk := Hrl.out k
          have hlN : k < s.N.length := by rw [HlN.out]; exact hlt
          have hlP : k < s.P.length := by rw [HlP.out]; exact hlt
          have hlL : k < s.L.length := by rw [HlL.out]; exact hlt
          obtain ⟨bN, oN, rfl, zN, rN⟩ := iN.lk hlN
          obtain ⟨bP, oP, rfl, zP, rP⟩ := iP.lk hlP
          obtain ⟨bL, oL, rfl, zL, rL⟩ := iL.lk hlL
          have Hdi : Hid (∀ q, Calls Try.prog 28 #[.slice (some ⟨bN, oN, none⟩) m f0, V ((k : Int) + 1)] (wr.drewN q) (fun e w' => e = .returned (.bool true) ∧ w' = wr.drewN q)) := Lib.hid fun q => by
            have h := dyIn_c (some ⟨bN, oN, none⟩) f0 m s.N ((k : Int) + 1) (wr.drewN q) HlN.out (iN.nx (.drewN (.refl _) _)) (by omega)
            rw [show decide (((k : Int) + 1) ∈ s.N) = true by simpa using n1] at h
            exact h.mono fun _ _ h => ⟨h.1, h.2.symm⟩
          have hw1 : IntKind.i64.wrap ((k : Int) + 1) = (k : Int) + 1 := IntWalk.i64_in _ (by omega)
          have HiN := Lib.hid iN
          generalize hvN : lk s.N (k : Int) = vN at *
          generalize hvL : lk s.L (k : Int) = vL at *
          generalize hvP : lk s.P (k : Int) = vP at *
          have hd1 : decide (vN < vL) = false := by simp; omega
          have hd2 : decide (vL < 1) = false := by simp; omega
          obtain ⟨r1, hr1⟩ : ∃ x, rootsTo s.P k = x := ⟨_, rfl⟩
          obtain ⟨r2, hr2⟩ : ∃ x, rootsTo s.P (k + 1) = x := ⟨_, rfl⟩
          rw [hr1, hr2] at hst
          rw [hr1] at hrk
          simp only [hr1]
          have Hr2 := Lib.hid hr2
          have HvN := Lib.hid hvN
          have Hst := Lib.hid hst
          have H4 := Lib.hid n4
          clear n1 n2 n3 n4 hst hr1 hr2 hlN hlP hlL iN iP iL hvN hvL hvP
          go_wp2_with fail
          go_quiet ((go_at_call 28; exact Calls.quiet_of_same (Hdi.out _)))
          generalize hW9 : World.drewN wr _ = W9
          have n9 : Nx wr W9 := by subst hW9; exact .drewN (.refl _) _
          replace G := G.nx n9
          replace G_0 := G.cell (j := 0) rfl
          replace G_1 := G.cell (j := 1) rfl
          replace G_z := G.lt
          replace F := F.nx n9
          replace F_0 := F.cell (j := 0) rfl
          replace F_1 := F.cell (j := 1) rfl
          replace F_2 := F.cell (j := 2) rfl
          replace F_z := F.lt
          replace hg := hg.nx n9
          replace rP := n9.cell zP rP
          replace zP := Nat.lt_of_lt_of_le zP n9.size
          replace rN := n9.cell zN rN
          replace zN := Nat.lt_of_lt_of_le zN n9.size
          replace N := N.trans n9
          have iN := HiN.out.nx n9
          clear hW9 rL zL HiN
          have n9 := Lib.hid n9
          rcases H4.out with hPk | ⟨p, hPk, hpm, hok, hhas, hnp⟩
          · subst hPk
            have hrr : r2 = r1 + 1 := by rw [Hst.out]; rfl
            have Hrr := Lib.hid hrr
            clear H4 hrr iN
            go_wp2
            go_roundg (gk - 1)
            case measure => omega
            case rel => exact ⟨k + 1, by omega, by go_num, by rw [Hr2.out, Hrr.out]; go_num, hn.trans n9.out⟩
          · subst hPk
            have hrr : r2 = r1 := by rw [Hst.out, if_neg (by omega)]; rfl
            have Hrr := Lib.hid hrr
            have hlq : p < s.N.length := by rw [HlN.out]; exact hpm
            obtain ⟨bq, oq, hAq, _, rQ⟩ := iN.lk hlq
            injection hAq with hAq
            injection hAq with hA1 hA2
            subst hA1 hA2
            generalize lk s.N (p : Int) = vQ at *
            have Hok := Lib.hid hok
            have Hhas := Lib.hid hhas
            have hd3 : decide (vN ≤ vQ) = false := by simp; omega
            clear H4 hrr hlq hok hhas iN
            go_wp2_with fail
            refine (iEof_yes Hok.out _).mono ?_
            rintro e w10 ⟨rfl, hn10⟩
            replace G := G.nx hn10
            replace G_0 := G.cell (j := 0) rfl
            replace G_1 := G.cell (j := 1) rfl
            replace G_z := G.lt
            replace F := F.nx hn10
            replace F_0 := F.cell (j := 0) rfl
            replace F_1 := F.cell (j := 1) rfl
            replace F_2 := F.cell (j := 2) rfl
            replace F_z := F.lt
            replace hg := hg.nx hn10
            replace rP := hn10.cell zP rP
            replace zP := Nat.lt_of_lt_of_le zP hn10.size
            replace rN := hn10.cell zN rN
            replace rQ := hn10.cell zN rQ
            replace zN := Nat.lt_of_lt_of_le zN hn10.size
            replace N := N.trans hn10
            go_wp2_with fail
            generalize hW11 : World.alloc _ _ = W11
            have gW11 : Nx w10 W11 := by subst hW11; exact (by repeat (first | exact Nx.refl _ | assumption | apply Nx.alloc | apply Nx.drew | apply Nx.drewN | (refine Nx.setCell ?_ (by first | (simp; done) | (simp; omega) | omega) _) | refine Nx.trans ?_ (by assumption)))
            have sW11 : W11.heap.size = w10.heap.size + 1 := by subst hW11; simp
            have E : Bx W11 (w10.heap.size) 36 [V (min (k : Int) p), V (max (k : Int) p)] := by subst hW11; have h := Bx.alloc w10 36 [V (min (k : Int) p), V (max (k : Int) p)]; simpa using h
            have E_0 := E.cell (j := 0) rfl
            have E_1 := E.cell (j := 1) rfl
            have E_z := E.lt
            have HsW11 := Lib.hid sW11
            have lW11 : w10.heap.size + 1 ≤ W11.heap.size := by omega
            clear hW11 sW11
            replace G := G.nx gW11
            replace G_0 := G.cell (j := 0) rfl
            replace G_1 := G.cell (j := 1) rfl
            replace G_z := G.lt
            replace F := F.nx gW11
            replace F_0 := F.cell (j := 0) rfl
            replace F_1 := F.cell (j := 1) rfl
            replace F_2 := F.cell (j := 2) rfl
            replace F_z := F.lt
            replace hg := hg.nx gW11
            replace N := N.trans gW11
            replace rP := gW11.cell zP rP
            replace zP := Nat.lt_of_lt_of_le zP gW11.size
            replace rN := gW11.cell zN rN
            replace rQ := gW11.cell zN rQ
            replace zN := Nat.lt_of_lt_of_le zN gW11.size
            have HN : Hid (Nx w7 W11) := Lib.hid (hn.trans (n9.out.trans (hn10.trans gW11)))
            generalize min (k : Int) (p : Int) = ex at *
            generalize max (k : Int) (p : Int) = ey at *
            have kp : ∀ w', Nx W11 w' → (fun w_ => Nx W11 w_ ∧ w_.cell? ⟨w1.heap.size, 0, none⟩ = some (V (m : Nat)) ∧ w_.cell? ⟨w1.heap.size, 1, none⟩ = some (.slice B me d) ∧ w_.cell? ⟨w3.heap.size, 0, none⟩ = some (.slice (some ⟨bN, oN, none⟩) m f0) ∧ w_.cell? ⟨w3.heap.size, 1, none⟩ = some (.slice (some ⟨bP, oP, none⟩) m f1) ∧ w_.cell? ⟨w10.heap.size, 0, none⟩ = some (V ex) ∧ w_.cell? ⟨w10.heap.size, 1, none⟩ = some (V ey) ∧ w_.cell? ⟨bN, oN + k, none⟩ = some (V vN) ∧ w_.cell? ⟨bN, oN + p, none⟩ = some (V vQ) ∧ w_.cell? ⟨bP, oP + k, none⟩ = some (V p)) w' := fun w' h => ⟨h, h.cell G_z G_0, h.cell G_z G_1, h.cell F_z F_0, h.cell F_z F_1, h.cell E_z E_0, h.cell E_z E_1, h.cell zN rN, h.cell zN rQ, h.cell zP rP⟩
            have hdr : Nx W11 W11.drew := .drew (.refl _)
            refine wp_region_held_drew (S := fun w_ => Nx W11 w_ ∧ w_.cell? ⟨w1.heap.size, 0, none⟩ = some (V (m : Nat)) ∧ w_.cell? ⟨w1.heap.size, 1, none⟩ = some (.slice B me d) ∧ w_.cell? ⟨w3.heap.size, 0, none⟩ = some (.slice (some ⟨bN, oN, none⟩) m f0) ∧ w_.cell? ⟨w3.heap.size, 1, none⟩ = some (.slice (some ⟨bP, oP, none⟩) m f1) ∧ w_.cell? ⟨w10.heap.size, 0, none⟩ = some (V ex) ∧ w_.cell? ⟨w10.heap.size, 1, none⟩ = some (V ey) ∧ w_.cell? ⟨bN, oN + k, none⟩ = some (V vN) ∧ w_.cell? ⟨bN, oN + p, none⟩ = some (V vQ) ∧ w_.cell? ⟨bP, oP + k, none⟩ = some (V p)) (by kernel_rfl) (kp _ hdr) (fun hHeld => ?_)
            refine wpAnyH_take (i := 0) (oi := ?oir1_0) (v := ?vr1_0) ?hir1_0 (by kernel_rfl) (by kernel_rfl) (by kernel_rfl) ?hQr1_0 (Or.inl ⟨?hwr1_0, ?hyr1_0⟩) (by assumption) ?restr1_0
            case hir1_0 => (simp only [List.getElem?_toArray, List.getElem?_cons_succ, List.getElem?_cons_zero]; rfl)
            case hwr1_0 => rfl
            case hyr1_0 => (intro w hSw; (try dsimp only at hSw); go_simp; (try with_reducible rfl))
            case hQr1_0 => exact fun _ _ _ h => h
            (try simp only [Act.put, List.setIfInBounds_toArray, List.set_cons_zero, List.set_cons_succ])
            refine wpAnyH_take (i := 1) (oi := ?oir1_1) (v := ?vr1_1) ?hir1_1 (by kernel_rfl) (by kernel_rfl) (by kernel_rfl) ?hQr1_1 (Or.inl ⟨?hwr1_1, ?hyr1_1⟩) (by assumption) ?restr1_1
            case hir1_1 => (simp only [List.getElem?_toArray, List.getElem?_cons_succ, List.getElem?_cons_zero]; rfl)
            case hwr1_1 => rfl
            case hyr1_1 => (intro w hSw; (try dsimp only at hSw); go_simp; (try with_reducible rfl))
            case hQr1_1 => exact fun _ _ _ h => h
            (try simp only [Act.put, List.setIfInBounds_toArray, List.set_cons_zero, List.set_cons_succ])
            refine wpAnyH_take (i := 2) (oi := ?oir1_2) (v := ?vr1_2) ?hir1_2 (by kernel_rfl) (by kernel_rfl) (by kernel_rfl) ?hQr1_2 (Or.inl ⟨?hwr1_2, ?hyr1_2⟩) (by assumption) ?restr1_2
            case hir1_2 => (simp only [List.getElem?_toArray, List.getElem?_cons_succ, List.getElem?_cons_zero]; rfl)
            case hwr1_2 => rfl
            case hyr1_2 => (intro w hSw; (try dsimp only at hSw); go_simp; (try with_reducible rfl))
            case hQr1_2 => exact fun _ _ _ h => h
            (try simp only [Act.put, List.setIfInBounds_toArray, List.set_cons_zero, List.set_cons_succ])
            refine wpAnyH_take (i := 3) (oi := ?oir1_3) (v := ?vr1_3) ?hir1_3 (by kernel_rfl) (by kernel_rfl) (by kernel_rfl) ?hQr1_3 (Or.inl ⟨?hwr1_3, ?hyr1_3⟩) (by assumption) ?restr1_3
            case hir1_3 => (simp only [List.getElem?_toArray, List.getElem?_cons_succ, List.getElem?_cons_zero]; rfl)
            case hwr1_3 => rfl
            case hyr1_3 => (intro w hSw; (try dsimp only at hSw); go_simp; (try with_reducible rfl))
            case hQr1_3 => exact fun _ _ _ h => h
            (try simp only [Act.put, List.setIfInBounds_toArray, List.set_cons_zero, List.set_cons_succ])
            refine wpAnyH_take (i := 4) (oi := ?oir1_4) (v := ?vr1_4) ?hir1_4 (by kernel_rfl) (by kernel_rfl) (by kernel_rfl) ?hQr1_4 (Or.inl ⟨?hwr1_4, ?hyr1_4⟩) (by assumption) ?restr1_4
            case hir1_4 => (simp only [List.getElem?_toArray, List.getElem?_cons_succ, List.getElem?_cons_zero]; rfl)
            case hwr1_4 => rfl
            case hyr1_4 => (intro w hSw; (try dsimp only at hSw); go_simp; (try with_reducible rfl))
            case hQr1_4 => exact fun _ _ _ h => h
            (try simp only [Act.put, List.setIfInBounds_toArray, List.set_cons_zero, List.set_cons_succ])
            refine wpAnyH_ready (rs := [5]) (by kernel_rfl) (by simp) ?_
            refine AllReadyH.cons rfl (fun K hK => ?_) AllReadyH.nil
            go_simp
            refine (HHas.out ex ey Hhas.out _ (hg.nx hdr)).mono ?_
            rintro e w12 ⟨rfl, hn12d⟩
            have hn12 : Nx W11 w12 := hdr.trans hn12d
            refine hK.out _ _ (kp _ hn12) (fun hHeld => ?_)
            clear hK K
            (try simp only [Act.put, List.setIfInBounds_toArray, List.set_cons_zero, List.set_cons_succ])
            refine wpAnyH_take (i := 6) (oi := ?oir1_6) (v := ?vr1_6) ?hir1_6 (by kernel_rfl) (by kernel_rfl) (by kernel_rfl) ?hQr1_6 (Or.inl ⟨?hwr1_6, ?hyr1_6⟩) (by assumption) ?restr1_6
            case hir1_6 => (simp only [List.getElem?_toArray, List.getElem?_cons_succ, List.getElem?_cons_zero]; rfl)
            case hwr1_6 => rfl
            case hyr1_6 => (intro w hSw; (try dsimp only at hSw); go_simp; (try with_reducible rfl))
            case hQr1_6 => exact fun _ _ _ h => h
            (try simp only [Act.put, List.setIfInBounds_toArray, List.set_cons_zero, List.set_cons_succ])
            refine wpAnyH_take (i := 7) (oi := ?oir1_7) (v := ?vr1_7) ?hir1_7 (by kernel_rfl) (by kernel_rfl) (by kernel_rfl) ?hQr1_7 (Or.inl ⟨?hwr1_7, ?hyr1_7⟩) (by assumption) ?restr1_7
            case hir1_7 => (simp only [List.getElem?_toArray, List.getElem?_cons_succ, List.getElem?_cons_zero]; rfl)
            case hwr1_7 => rfl
            case hyr1_7 => (intro w hSw; (try dsimp only at hSw); go_simp; (try with_reducible rfl))
            case hQr1_7 => exact fun _ _ _ h => h
            (try simp only [Act.put, List.setIfInBounds_toArray, List.set_cons_zero, List.set_cons_succ])
            refine wpAnyH_take (i := 8) (oi := ?oir1_8) (v := ?vr1_8) ?hir1_8 (by kernel_rfl) (by kernel_rfl) (by kernel_rfl) ?hQr1_8 (Or.inl ⟨?hwr1_8, ?hyr1_8⟩) (by assumption) ?restr1_8
            case hir1_8 => (simp only [List.getElem?_toArray, List.getElem?_cons_succ, List.getElem?_cons_zero]; rfl)
            case hwr1_8 => rfl
            case hyr1_8 => (intro w hSw; (try dsimp only at hSw); go_simp; (try with_reducible rfl))
            case hQr1_8 => exact fun _ _ _ h => h
            (try simp only [Act.put, List.setIfInBounds_toArray, List.set_cons_zero, List.set_cons_succ])
            refine wpAnyH_take (i := 9) (oi := ?oir1_9) (v := ?vr1_9) ?hir1_9 (by kernel_rfl) (by kernel_rfl) (by kernel_rfl) ?hQr1_9 (Or.inl ⟨?hwr1_9, ?hyr1_9⟩) (by assumption) ?restr1_9
            case hir1_9 => (simp only [List.getElem?_toArray, List.getElem?_cons_succ, List.getElem?_cons_zero]; rfl)
            case hwr1_9 => rfl
            case hyr1_9 => (intro w hSw; (try dsimp only at hSw); go_simp; (try with_reducible rfl))
            case hQr1_9 => exact fun _ _ _ h => h
            (try simp only [Act.put, List.setIfInBounds_toArray, List.set_cons_zero, List.set_cons_succ])
            refine wpAnyH_take (i := 10) (oi := ?oir1_10) (v := ?vr1_10) ?hir1_10 (by kernel_rfl) (by kernel_rfl) (by kernel_rfl) ?hQr1_10 (Or.inl ⟨?hwr1_10, ?hyr1_10⟩) (by assumption) ?restr1_10
            case hir1_10 => (simp only [List.getElem?_toArray, List.getElem?_cons_succ, List.getElem?_cons_zero]; rfl)
            case hwr1_10 => rfl
            case hyr1_10 => (intro w hSw; (try dsimp only at hSw); go_simp; (try with_reducible rfl))
            case hQr1_10 => exact fun _ _ _ h => h
            (try simp only [Act.put, List.setIfInBounds_toArray, List.set_cons_zero, List.set_cons_succ])
            refine wpAnyH_take (i := 11) (oi := ?oir1_11) (v := ?vr1_11) ?hir1_11 (by kernel_rfl) (by kernel_rfl) (by kernel_rfl) ?hQr1_11 (Or.inl ⟨?hwr1_11, ?hyr1_11⟩) (by assumption) ?restr1_11
            case hir1_11 => (simp only [List.getElem?_toArray, List.getElem?_cons_succ, List.getElem?_cons_zero]; rfl)
            case hwr1_11 => rfl
            case hyr1_11 => (intro w hSw; (try dsimp only at hSw); go_simp; (try with_reducible rfl))
            case hQr1_11 => exact fun _ _ _ h => h
            (try simp only [Act.put, List.setIfInBounds_toArray, List.set_cons_zero, List.set_cons_succ])
            refine wpAnyH_take (i := 12) (oi := ?oir1_12) (v := ?vr1_12) ?hir1_12 (by kernel_rfl) (by kernel_rfl) (by kernel_rfl) ?hQr1_12 (Or.inl ⟨?hwr1_12, ?hyr1_12⟩) (by assumption) ?restr1_12
            case hir1_12 => (simp only [List.getElem?_toArray, List.getElem?_cons_succ, List.getElem?_cons_zero]; rfl)
            case hwr1_12 => rfl
            case hyr1_12 => (intro w hSw; (try dsimp only at hSw); go_simp; (try with_reducible rfl))
            case hQr1_12 => exact fun _ _ _ h => h
            (try simp only [Act.put, List.setIfInBounds_toArray, List.set_cons_zero, List.set_cons_succ])
            refine wpAnyH_take (i := 13) (oi := ?oir1_13) (v := ?vr1_13) ?hir1_13 (by kernel_rfl) (by kernel_rfl) (by kernel_rfl) ?hQr1_13 (Or.inl ⟨?hwr1_13, ?hyr1_13⟩) (by assumption) ?restr1_13
            case hir1_13 => (simp only [List.getElem?_toArray, List.getElem?_cons_succ, List.getElem?_cons_zero]; rfl)
            case hwr1_13 => rfl
            case hyr1_13 => (intro w hSw; (try dsimp only at hSw); go_simp; (try with_reducible rfl))
            case hQr1_13 => exact fun _ _ _ h => h
            (try simp only [Act.put, List.setIfInBounds_toArray, List.set_cons_zero, List.set_cons_succ])
            refine wpAnyH_take (i := 14) (oi := ?oir1_14) (v := ?vr1_14) ?hir1_14 (by kernel_rfl) (by kernel_rfl) (by kernel_rfl) ?hQr1_14 (Or.inl ⟨?hwr1_14, ?hyr1_14⟩) (by assumption) ?restr1_14
            case hir1_14 => (simp only [List.getElem?_toArray, List.getElem?_cons_succ, List.getElem?_cons_zero]; rfl)
            case hwr1_14 => rfl
            case hyr1_14 => (intro w hSw; (try dsimp only at hSw); go_simp; (try with_reducible rfl))
            case hQr1_14 => exact fun _ _ _ h => h
            (try simp only [Act.put, List.setIfInBounds_toArray, List.set_cons_zero, List.set_cons_succ])
            refine wpAnyH_take (i := 15) (oi := ?oir1_15) (v := ?vr1_15) ?hir1_15 (by kernel_rfl) (by kernel_rfl) (by kernel_rfl) ?hQr1_15 (Or.inl ⟨?hwr1_15, ?hyr1_15⟩) (by assumption) ?restr1_15
            case hir1_15 => (simp only [List.getElem?_toArray, List.getElem?_cons_succ, List.getElem?_cons_zero]; rfl)
            case hwr1_15 => rfl
            case hyr1_15 => (intro w hSw; (try dsimp only at hSw); go_simp; (try with_reducible rfl))
            case hQr1_15 => exact fun _ _ _ h => h
            (try simp only [Act.put, List.setIfInBounds_toArray, List.set_cons_zero, List.set_cons_succ])
            refine wpAnyH_take (i := 16) (oi := ?oir1_16) (v := ?vr1_16) ?hir1_16 (by kernel_rfl) (by kernel_rfl) (by kernel_rfl) ?hQr1_16 (Or.inl ⟨?hwr1_16, ?hyr1_16⟩) (by assumption) ?restr1_16
            case hir1_16 => (simp only [List.getElem?_toArray, List.getElem?_cons_succ, List.getElem?_cons_zero]; rfl)
            case hwr1_16 => rfl
            case hyr1_16 => (intro w hSw; (try dsimp only at hSw); go_simp; (try with_reducible rfl))
            case hQr1_16 => exact fun _ _ _ h => h
            (try simp only [Act.put, List.setIfInBounds_toArray, List.set_cons_zero, List.set_cons_succ])
            refine wpAnyH_take (i := 17) (oi := ?oir1_17) (v := ?vr1_17) ?hir1_17 (by kernel_rfl) (by kernel_rfl) (by kernel_rfl) ?hQr1_17 (Or.inl ⟨?hwr1_17, ?hyr1_17⟩) (by assumption) ?restr1_17
            case hir1_17 => (simp only [List.getElem?_toArray, List.getElem?_cons_succ, List.getElem?_cons_zero]; rfl)
            case hwr1_17 => rfl
            case hyr1_17 => (intro w hSw; (try dsimp only at hSw); go_simp; (try with_reducible rfl))
            case hQr1_17 => exact fun _ _ _ h => h
            (try simp only [Act.put, List.setIfInBounds_toArray, List.set_cons_zero, List.set_cons_succ])
            refine wpAnyH_take (i := 18) (oi := ?oir1_18) (v := ?vr1_18) ?hir1_18 (by kernel_rfl) (by kernel_rfl) (by kernel_rfl) ?hQr1_18 (Or.inl ⟨?hwr1_18, ?hyr1_18⟩) (by assumption) ?restr1_18
            case hir1_18 => (simp only [List.getElem?_toArray, List.getElem?_cons_succ, List.getElem?_cons_zero]; rfl)
            case hwr1_18 => rfl
            case hyr1_18 => (intro w hSw; (try dsimp only at hSw); go_simp; (try with_reducible rfl))
            case hQr1_18 => exact fun _ _ _ h => h
            (try simp only [Act.put, List.setIfInBounds_toArray, List.set_cons_zero, List.set_cons_succ])
            refine wpAnyH_take (i := 19) (oi := ?oir1_19) (v := ?vr1_19) ?hir1_19 (by kernel_rfl) (by kernel_rfl) (by kernel_rfl) ?hQr1_19 (Or.inl ⟨?hwr1_19, ?hyr1_19⟩) (by assumption) ?restr1_19
            case hir1_19 => (simp only [List.getElem?_toArray, List.getElem?_cons_succ, List.getElem?_cons_zero]; rfl)
            case hwr1_19 => rfl
            case hyr1_19 => (intro w hSw; (try dsimp only at hSw); go_simp; (try with_reducible rfl))
            case hQr1_19 => exact fun _ _ _ h => h
            (try simp only [Act.put, List.setIfInBounds_toArray, List.set_cons_zero, List.set_cons_succ])
            refine wpAnyH_take (i := 20) (oi := ?oir1_20) (v := ?vr1_20) ?hir1_20 (by kernel_rfl) (by kernel_rfl) (by kernel_rfl) ?hQr1_20 (Or.inl ⟨?hwr1_20, ?hyr1_20⟩) (by assumption) ?restr1_20
            case hir1_20 => (simp only [List.getElem?_toArray, List.getElem?_cons_succ, List.getElem?_cons_zero]; rfl)
            case hwr1_20 => rfl
            case hyr1_20 => (intro w hSw; (try dsimp only at hSw); go_simp; (try with_reducible rfl))
            case hQr1_20 => exact fun _ _ _ h => h
            (try simp only [Act.put, List.setIfInBounds_toArray, List.set_cons_zero, List.set_cons_succ])
            refine wpAnyH_take (i := 21) (oi := ?oir1_21) (v := ?vr1_21) ?hir1_21 (by kernel_rfl) (by kernel_rfl) (by kernel_rfl) ?hQr1_21 (Or.inl ⟨?hwr1_21, ?hyr1_21⟩) (by assumption) ?restr1_21
            case hir1_21 => (simp only [List.getElem?_toArray, List.getElem?_cons_succ, List.getElem?_cons_zero]; rfl)
            case hwr1_21 => rfl
            case hyr1_21 => (intro w hSw; (try dsimp only at hSw); go_simp; (try with_reducible rfl))
            case hQr1_21 => exact fun _ _ _ h => h
            (try simp only [Act.put, List.setIfInBounds_toArray, List.set_cons_zero, List.set_cons_succ])
            refine wpAnyH_take (i := 22) (oi := ?oir1_22) (v := ?vr1_22) ?hir1_22 (by kernel_rfl) (by kernel_rfl) (by kernel_rfl) ?hQr1_22 (Or.inl ⟨?hwr1_22, ?hyr1_22⟩) (by assumption) ?restr1_22
            case hir1_22 => (simp only [List.getElem?_toArray, List.getElem?_cons_succ, List.getElem?_cons_zero]; rfl)
            case hwr1_22 => rfl
            case hyr1_22 => (intro w hSw; (try dsimp only at hSw); go_simp; (try with_reducible rfl))
            case hQr1_22 => exact fun _ _ _ h => h
            (try simp only [Act.put, List.setIfInBounds_toArray, List.set_cons_zero, List.set_cons_succ])
            refine wpAnyH_take (i := 23) (oi := ?oir1_23) (v := ?vr1_23) ?hir1_23 (by kernel_rfl) (by kernel_rfl) (by kernel_rfl) ?hQr1_23 (Or.inl ⟨?hwr1_23, ?hyr1_23⟩) (by assumption) ?restr1_23
            case hir1_23 => (simp only [List.getElem?_toArray, List.getElem?_cons_succ, List.getElem?_cons_zero]; rfl)
            case hwr1_23 => rfl
            case hyr1_23 => (intro w hSw; (try dsimp only at hSw); go_simp; (try with_reducible rfl))
            case hQr1_23 => exact fun _ _ _ h => h
            (try simp only [Act.put, List.setIfInBounds_toArray, List.set_cons_zero, List.set_cons_succ])
            refine wpAnyH_take (i := 24) (oi := ?oir1_24) (v := ?vr1_24) ?hir1_24 (by kernel_rfl) (by kernel_rfl) (by kernel_rfl) ?hQr1_24 (Or.inl ⟨?hwr1_24, ?hyr1_24⟩) (by assumption) ?restr1_24
            case hir1_24 => (simp only [List.getElem?_toArray, List.getElem?_cons_succ, List.getElem?_cons_zero]; rfl)
            case hwr1_24 => rfl
            case hyr1_24 => (intro w hSw; (try dsimp only at hSw); go_simp; (try with_reducible rfl))
            case hQr1_24 => exact fun _ _ _ h => h
            (try simp only [Act.put, List.setIfInBounds_toArray, List.set_cons_zero, List.set_cons_succ])
            refine wpAnyH_done (by kernel_rfl) ?_ _
            go_wp2
            go_roundg (gk - 1)
            case measure => omega
            case rel => exact ⟨k + 1, by omega, by go_num, by rw [Hr2.out, Hrr.out], HN.out.trans hn12⟩
        · obtain rfl : k = m := by omega
          go_wp2_with fail
          refine (Hpc.out _ hg).mono ?_
          rintro e w8 ⟨rfl, hn8⟩
          replace G := G.nx hn8
          replace G_0 := G.cell (j := 0) rfl
          replace G_1 := G.cell (j := 1) rfl
          replace G_z := G.lt
          replace N := N.trans hn8
          go_wp2
          go_ret
          exact RetV.bool (by simp) N
    · have hse := seOf_no hp
      rw [show decide (Valid nn es) = false by simpa using hp] at His Hss
      rw [hse] at His Hss Hdy
      clear hp hse hlen
      unfold noDS at *
      simp only [List.length_nil] at His Hss Hdy
      obtain ⟨me, hme⟩ : ∃ x, es.length = x := ⟨_, rfl⟩
      simp only [hme] at His Hss h3 ⊢
      clear hme
      go_wp2_with fail
      generalize hW2 : World.alloc _ _ = W2
      have gW2 : Nx w1 W2 := by subst hW2; exact (by repeat (first | exact Nx.refl _ | assumption | apply Nx.alloc | apply Nx.drew | apply Nx.drewN | (refine Nx.setCell ?_ (by first | (simp; done) | (simp; omega) | omega) _) | refine Nx.trans ?_ (by assumption)))
      have sW2 : W2.heap.size = w1.heap.size + 1 := by subst hW2; simp
      have G : Bx W2 (w1.heap.size) 26 [V nn, .slice B me d] := by subst hW2; have h := Bx.alloc w1 26 [V nn, .slice B me d]; simpa using h
      have G_0 := G.cell (j := 0) rfl
      have G_1 := G.cell (j := 1) rfl
      have G_z := G.lt
      have HsW2 := Lib.hid sW2
      have lW2 : w1.heap.size + 1 ≤ W2.heap.size := by omega
      clear hW2 sW2
      replace hg := hg.nx gW2
      replace N := N.trans gW2
      refine (His.out _ hg).mono ?_
      rintro e w3 ⟨F0, f0, F1, f1, F2, f2, rfl, of, hn3⟩
      replace G := G.nx hn3
      replace G_0 := G.cell (j := 0) rfl
      replace G_1 := G.cell (j := 1) rfl
      replace G_z := G.lt
      replace hg := hg.nx hn3
      replace N := N.trans hn3
      go_wp2_with fail
      generalize hW4 : World.alloc _ _ = W4
      have gW4 : Nx w3 W4 := by subst hW4; exact (by repeat (first | exact Nx.refl _ | assumption | apply Nx.alloc | apply Nx.drew | apply Nx.drewN | (refine Nx.setCell ?_ (by first | (simp; done) | (simp; omega) | omega) _) | refine Nx.trans ?_ (by assumption)))
      have sW4 : W4.heap.size = w3.heap.size + 1 := by subst hW4; simp
      have F : Bx W4 (w3.heap.size) 48 [.slice F0 0 f0, .slice F1 0 f1, .slice F2 0 f2] := by subst hW4; have h := Bx.alloc w3 48 [.slice F0 0 f0, .slice F1 0 f1, .slice F2 0 f2]; simpa using h
      have F_0 := F.cell (j := 0) rfl
      have F_1 := F.cell (j := 1) rfl
      have F_2 := F.cell (j := 2) rfl
      have F_z := F.lt
      have HsW4 := Lib.hid sW4
      have lW4 : w3.heap.size + 1 ≤ W4.heap.size := by omega
      clear hW4 sW4
      replace G := G.nx gW4
      replace G_0 := G.cell (j := 0) rfl
      replace G_1 := G.cell (j := 1) rfl
      replace G_z := G.lt
      replace hg := hg.nx gW4
      replace N := N.trans gW4
      replace of := of.nx gW4
      refine (Hss.out _ hg).mono ?_
      rintro e w5 ⟨Y0, y0, Y1, y1, Y2, y2, rfl, oy, hn5⟩
      replace G := G.nx hn5
      replace G_0 := G.cell (j := 0) rfl
      replace G_1 := G.cell (j := 1) rfl
      replace G_z := G.lt
      replace F := F.nx hn5
      replace F_0 := F.cell (j := 0) rfl
      replace F_1 := F.cell (j := 1) rfl
      replace F_2 := F.cell (j := 2) rfl
      replace F_z := F.lt
      replace hg := hg.nx hn5
      replace N := N.trans hn5
      replace of := of.nx hn5
      go_wp2_with fail
      generalize hW6 : World.alloc _ _ = W6
      have gW6 : Nx w5 W6 := by subst hW6; exact (by repeat (first | exact Nx.refl _ | assumption | apply Nx.alloc | apply Nx.drew | apply Nx.drewN | (refine Nx.setCell ?_ (by first | (simp; done) | (simp; omega) | omega) _) | refine Nx.trans ?_ (by assumption)))
      have sW6 : W6.heap.size = w5.heap.size + 1 := by subst hW6; simp
      have Y : Bx W6 (w5.heap.size) 48 [.slice Y0 0 y0, .slice Y1 0 y1, .slice Y2 0 y2] := by subst hW6; have h := Bx.alloc w5 48 [.slice Y0 0 y0, .slice Y1 0 y1, .slice Y2 0 y2]; simpa using h
      have Y_0 := Y.cell (j := 0) rfl
      have Y_1 := Y.cell (j := 1) rfl
      have Y_2 := Y.cell (j := 2) rfl
      have Y_z := Y.lt
      have HsW6 := Lib.hid sW6
      have lW6 : w5.heap.size + 1 ≤ W6.heap.size := by omega
      clear hW6 sW6
      replace G := G.nx gW6
      replace G_0 := G.cell (j := 0) rfl
      replace G_1 := G.cell (j := 1) rfl
      replace G_z := G.lt
      replace F := F.nx gW6
      replace F_0 := F.cell (j := 0) rfl
      replace F_1 := F.cell (j := 1) rfl
      replace F_2 := F.cell (j := 2) rfl
      replace F_z := F.lt
      replace hg := hg.nx gW6
      replace N := N.trans gW6
      replace of := of.nx gW6
      replace oy := oy.nx gW6
      refine (Hdy.out _ _ _ _ F0 F1 F2 Y0 Y1 Y2 f0 f1 f2 y0 y1 y2 _ of oy).mono ?_
      rintro e w7 ⟨rfl, hn7⟩
      replace G := G.nx hn7
      replace G_0 := G.cell (j := 0) rfl
      replace G_1 := G.cell (j := 1) rfl
      replace G_z := G.lt
      replace F := F.nx hn7
      replace F_0 := F.cell (j := 0) rfl
      replace F_1 := F.cell (j := 1) rfl
      replace F_2 := F.cell (j := 2) rfl
      replace F_z := F.lt
      replace Y := Y.nx hn7
      replace Y_0 := Y.cell (j := 0) rfl
      replace Y_1 := Y.cell (j := 1) rfl
      replace Y_2 := Y.cell (j := 2) rfl
      replace Y_z := Y.lt
      replace hg := hg.nx hn7
      replace N := N.trans hn7
      replace of := of.nx hn7
      replace oy := oy.nx hn7
      go_wp2_with fail
      refine (Hdy.out _ _ _ _ F0 F1 F2 Y0 Y1 Y2 f0 f1 f2 y0 y1 y2 _ of oy).mono ?_
      rintro e w8 ⟨rfl, hn8⟩
      replace G := G.nx hn8
      replace G_0 := G.cell (j := 0) rfl
      replace G_1 := G.cell (j := 1) rfl
      replace G_z := G.lt
      replace N := N.trans hn8
      go_wp2
      go_ret
      exact RetV.bool rfl N
end Go.Proofs.Ytjchabeiaajgiaa
