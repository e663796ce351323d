/- FnSameBlock: the walk. -/
import Derived.Test.YticjoichmcegnaaY16
import Derived.Test.YticjoichmcegnaaY12
import Derived.Test.YticjoichmcegnaaN4
namespace Go.Proofs.Yticjoichmcegnaa
open Go.RowKit set_option linter.unusedVariables false set_option linter.unusedSimpArgs false

/-- some block has both -/
def bothB (bs : List Es) (e f : Int × Int) : Bool := bs.any fun b => decide (e ∈ b) && decide (f ∈ b)
theorem bothB_step {bs : List Es} {e f : Int × Int} {k : Nat} {b : Es} (h : bs[k]? = some b) : bothB (bs.take (k + 1)) e f = (bothB (bs.take k) e f || (decide (e ∈ b) && decide (f ∈ b))) := by
  obtain ⟨h1, h2⟩ := List.getElem?_eq_some_iff.1 h
  unfold bothB
  rw [List.take_succ_eq_append_getElem h1, h2, List.any_append]
  simp
theorem sameBlk_both {n : Int} {es : Es} (e f : Int × Int) : sameBlk n es e f = bothB (blocksOf n es) e f := by
  by_cases hp : Valid n es
  · rw [blocksOf_yes hp]
    by_cases he : e ∈ es
    · by_cases hf : f ∈ es
      · rw [show sameBlk n es e f = sameL n.toNat es e f from sameBlk_yes (a := e.1) (b := e.2) (u := f.1) (v := f.2) ⟨hp, he⟩ ⟨hp, hf⟩]
        rw [Bool.eq_iff_iff, sameL_iff hp.nodupB he hf]
        simp [bothB]
      · have h1 : sameBlk n es e f = false := sameBlk_no2 (a := f.1) (b := f.2) (fun h => hf h.2)
        rw [h1]
        symm
        rw [Bool.eq_false_iff]
        intro h
        simp [bothB] at h
        obtain ⟨b, hb, _, h3⟩ := h
        exact hf (blocksL_mem hb f h3)
    · have h1 : sameBlk n es e f = false := sameBlk_no1 (a := e.1) (b := e.2) (fun h => he h.2)
      rw [h1]
      symm
      rw [Bool.eq_false_iff]
      intro h
      simp [bothB] at h
      obtain ⟨b, hb, h2, _⟩ := h
      exact he (blocksL_mem hb e h2)
  · rw [blocksOf_no hp]
    rw [show sameBlk n es e f = false from sameBlk_no1 (a := e.1) (b := e.2) (fun h => hp h.1)]
    simp [bothB]
theorem sameBlk_symm (n : Int) (es : Es) (e f : Int × Int) : sameBlk n es f e = sameBlk n es e f := by
  rw [sameBlk_both, sameBlk_both]
  unfold bothB
  congr 1
  funext b
  rw [Bool.and_comm]

set_option maxRecDepth 100000 in
set_option maxHeartbeats 8000000 in
theorem fnSameBlock_walk (w : World) (A : Option Addr) (n c : Nat) (hnc : n ≤ c) (hb : BytesAt w w.heap.size A n) :
    Calls Try.prog 12 #[.slice A n c] w (RetV (.bool true) w) := by
  by_cases hbig : (n : Int) > 1048576
  · go_enter Try.func12, Try.ntmps12
    go_wp2
    go_ret
    exact RetV.bool rfl (by repeat (first | exact Nx.refl _ | assumption | apply Nx.alloc | apply Nx.drew | apply Nx.drewN | (refine Nx.setCell ?_ (by first | (simp; done) | (simp; omega) | omega) _) | refine Nx.trans ?_ (by assumption)))
  · go_enter Try.func12, Try.ntmps12
    go_wp2_with fail
    refine (drawSameBlock_c A n c _ hnc hb).mono ?_
    rintro e w1 ⟨nn, B, d, es, u, v, x, y, rfl, h1, h2, h3, ho, N⟩
    have hcap := ho.cap
    have hg := ho.edgesAt
    clear ho hb
    have hbl := blocksOf_len nn es
    have Hib := Lib.hid (fun w hx => iBlocksOf_c nn B d es w hx (by omega) hcap)
    have hi1 := fun w hx => iSameBlock_c nn B d es u v x y w hx (by omega) hcap
    have hi2 := fun w hx => sSameBlock_c nn B d es u v x y w hx (by omega)
    have hi3 := fun w hx => iSameBlock_c nn B d es x y u v w hx (by omega) hcap
    rw [sameBlk_symm] at hi3
    rw [sameBlk_both] at hi1 hi2 hi3
    generalize blocksOf nn es = bs at *
    have hl1 : bs.length ≤ 1048576 := by have := hbl.1; omega
    have Hl2 := Lib.hid (fun b (hb : b ∈ bs) => Nat.le_trans (hbl.2 b hb) (by omega : 40 ≤ 1048576))
    obtain ⟨ok, hok⟩ : ∃ ok, bothB bs (u, v) (x, y) = ok := ⟨_, rfl⟩
    rw [hok] at hi1 hi2 hi3
    have Hok := Lib.hid hok
    have Hi1 := Lib.hid hi1
    have Hi2 := Lib.hid hi2
    have Hi3 := Lib.hid hi3
    have hne : (ok != ok) = false := by simp
    clear hi1 hi2 hi3 hok hbl hcap
    go_wp2_with fail
    generalize hW2 : World.alloc _ _ = W2
    have gW2 : Nx w1 W2 := by subst hW2; exact (by repeat (first | exact Nx.refl _ | assumption | apply Nx.alloc | apply Nx.drew | apply Nx.drewN | (refine Nx.setCell ?_ (by first | (simp; done) | (simp; omega) | omega) _) | refine Nx.trans ?_ (by assumption)))
    have sW2 : W2.heap.size = w1.heap.size + 3 := by subst hW2; simp
    have G : Bx W2 (w1.heap.size) 25 [V nn, .slice B es.length d] := by subst hW2; have h := Bx.alloc w1 25 [V nn, .slice B es.length d]; have h := h.nx (Nx.alloc (Nx.refl _) (.cells #[V u, V v] 31)); have h := h.nx (Nx.alloc (Nx.refl _) (.cells #[V x, V y] 31)); simpa using h
    have E : Bx W2 (w1.heap.size + 1) 31 [V u, V v] := by subst hW2; have h := Bx.alloc (w1.alloc (.cells #[V nn, .slice B es.length d] 25)) 31 [V u, V v]; have h := h.nx (Nx.alloc (Nx.refl _) (.cells #[V x, V y] 31)); simpa using h
    have F : Bx W2 (w1.heap.size + 2) 31 [V x, V y] := by subst hW2; have h := Bx.alloc ((w1.alloc (.cells #[V nn, .slice B es.length d] 25)).alloc (.cells #[V u, V v] 31)) 31 [V x, V y]; simpa using h
    have G_0 := G.cell (j := 0) rfl
    have G_1 := G.cell (j := 1) rfl
    have G_z := G.lt
    have E_0 := E.cell (j := 0) rfl
    have E_1 := E.cell (j := 1) rfl
    have E_z := E.lt
    have F_0 := F.cell (j := 0) rfl
    have F_1 := F.cell (j := 1) rfl
    have F_z := F.lt
    have HsW2 := Lib.hid sW2
    have lW2 : w1.heap.size + 3 ≤ W2.heap.size := by omega
    clear hW2 sW2
    replace hg := hg.nx gW2
    replace N := N.trans gW2
    refine (Hi1.out _ hg).mono ?_
    rintro e w3 ⟨rfl, hn3⟩
    replace G := G.nx hn3
    replace G_0 := G.cell (j := 0) rfl
    replace G_1 := G.cell (j := 1) rfl
    replace G_z := G.lt
    replace E := E.nx hn3
    replace E_0 := E.cell (j := 0) rfl
    replace E_1 := E.cell (j := 1) rfl
    replace E_z := E.lt
    replace F := F.nx hn3
    replace F_0 := F.cell (j := 0) rfl
    replace F_1 := F.cell (j := 1) rfl
    replace F_z := F.lt
    replace hg := hg.nx hn3
    replace N := N.trans hn3
    go_wp2_with fail
    refine (Hi2.out _ hg).mono ?_
    rintro e w4 ⟨rfl, hn4⟩
    replace G := G.nx hn4
    replace G_0 := G.cell (j := 0) rfl
    replace G_1 := G.cell (j := 1) rfl
    replace G_z := G.lt
    replace E := E.nx hn4
    replace E_0 := E.cell (j := 0) rfl
    replace E_1 := E.cell (j := 1) rfl
    replace E_z := E.lt
    replace F := F.nx hn4
    replace F_0 := F.cell (j := 0) rfl
    replace F_1 := F.cell (j := 1) rfl
    replace F_z := F.lt
    replace hg := hg.nx hn4
    replace N := N.trans hn4
    go_wp2_with fail
    refine (Hi3.out _ hg).mono ?_
    rintro e w5 ⟨rfl, hn5⟩
    replace G := G.nx hn5
    replace G_0 := G.cell (j := 0) rfl
    replace G_1 := G.cell (j := 1) rfl
    replace G_z := G.lt
    replace E := E.nx hn5
    replace E_0 := E.cell (j := 0) rfl
    replace E_1 := E.cell (j := 1) rfl
    replace E_z := E.lt
    replace F := F.nx hn5
    replace F_0 := F.cell (j := 0) rfl
    replace F_1 := F.cell (j := 1) rfl
    replace F_z := F.lt
    replace hg := hg.nx hn5
    replace N := N.trans hn5
    go_wp2_with fail
    refine (Hib.out _ hg).mono ?_
    rintro e w6 ⟨A3, c3, q3, rfl, hq3, ho3, hn6⟩
    replace G := G.nx hn6
    replace G_0 := G.cell (j := 0) rfl
    replace G_1 := G.cell (j := 1) rfl
    replace G_z := G.lt
    replace E := E.nx hn6
    replace E_0 := E.cell (j := 0) rfl
    replace E_1 := E.cell (j := 1) rfl
    replace E_z := E.lt
    replace F := F.nx hn6
    replace F_0 := F.cell (j := 0) rfl
    replace F_1 := F.cell (j := 1) rfl
    replace F_z := F.lt
    replace N := N.trans hn6
    have hx := ho3.rowsAt
    have Hq3 := Lib.hid hq3
    have Hx := Lib.hid hx
    have HE := Lib.hid E
    have HF := Lib.hid F
    clear ho3 hq3 hx G G_0 G_1 G_z E E_0 E_1 E_z F F_0 F_1 F_z hg hn3 hn4 hn5 hn6
    go_wp2
    go_loopg [8, 9] bs.length (fun gk bo i wr => ∃ (j : Nat) (b : Bool), j + gk = bs.length ∧ i = .int .i64 j ∧ bo = .bool b ∧ b = bothB (bs.take j) (u, v) (x, y) ∧ Nx w6 wr)
    case atStart => exact ⟨0, false, by omega, rfl, rfl, by simp [bothB], Nx.refl _⟩
    case round =>
      obtain ⟨j, b, hj, rfl, rfl, hbo, hn⟩ := hrel
      have Hbo := Lib.hid hbo
      clear hbo
      by_cases hlt : j < bs.length
      · obtain ⟨X, cX, hr⟩ := rowsOf_at Hq3.out hlt
        have hmem := List.getElem_mem hlt
        have hcl := Hl2.out _ hmem
        have hst := bothB_step (e := (u, v)) (f := (x, y)) (List.getElem?_eq_getElem hlt)
        generalize bs[j] = cur at *
        obtain ⟨b1, off, rfl, hbb, r1, x1⟩ := (Hx.out.nx hn).rd hr
        simp only at r1 x1
        have E := HE.out.nx hn
        have F := HF.out.nx hn
        have E_0 := E.cell (j := 0) rfl
        have E_1 := E.cell (j := 1) rfl
        have E_z := E.lt
        have F_0 := F.cell (j := 0) rfl
        have F_1 := F.cell (j := 1) rfl
        have F_z := F.lt
        have Hst := Lib.hid hst
        have X1 := Lib.hid x1
        clear hr hmem hst x1
        cases b with
        | true =>
          go_wp2_with fail
          go_quiet (fail)
          go_wp2
          go_roundg (gk - 1)
          case measure => omega
          case rel => exact ⟨j + 1, true, by omega, by go_num, rfl, by rw [Hst.out, ← Hbo.out]; rfl, hn.drewN _⟩
        | false =>
          have kp : ∀ w', Nx wr w' → Nx wr w' ∧ w'.cell? ⟨b1, off + j, none⟩ = some (.slice X cur.length cX) ∧ w'.cell? ⟨w1.heap.size + 1, 0, none⟩ = some (V u) ∧ w'.cell? ⟨w1.heap.size + 1, 1, none⟩ = some (V v) ∧ w'.cell? ⟨w1.heap.size + 2, 0, none⟩ = some (V x) ∧ w'.cell? ⟨w1.heap.size + 2, 1, none⟩ = some (V y) :=
            fun w' h => ⟨h, h.cell hbb r1, h.cell E_z E_0, h.cell E_z E_1, h.cell F_z F_0, h.cell F_z F_1⟩
          have hdr : Nx wr wr.drew := .drew (.refl _)
          have h1 := fun w' hx => dyHas_c X cX cur u v w' hx hcl
          have h2 := fun w' hx => dyHas_c X cX cur x y w' hx hcl
          obtain ⟨p, hp⟩ : ∃ p, decide ((u, v) ∈ cur) = p := ⟨_, rfl⟩
          obtain ⟨q, hq⟩ : ∃ q, decide ((x, y) ∈ cur) = q := ⟨_, rfl⟩
          rw [hp] at h1
          rw [hq] at h2
          have Hst := Lib.hid (show bothB (bs.take (j + 1)) (u, v) (x, y) = (p && q) by rw [Hst.out, ← Hbo.out, hp, hq]; rfl)
          have Hh1 := Lib.hid h1
          have Hh2 := Lib.hid h2
          clear h1 h2 hp hq
          have hx0 := X1.out.nx hdr
          cases p with
          | false =>
            go_wp2_with fail
            first | (go_region_with (go_at_call 53; (with_reducible refine (Hh1.out _ hx0).mono ?_); rintro e w7 ⟨rfl, hn67⟩; have hn7 : Nx wr w7 := hdr.trans hn67)) | fail
            all_goals go_wp2
            all_goals go_roundg (gk - 1)
            all_goals first
              | omega
              | exact ⟨j + 1, false, by omega, by go_num, rfl, by rw [Hst.out]; rfl, hn.trans hn7⟩
          | true =>
            go_wp2_with fail
            first | (go_region_held3 (fun w_ => Nx wr w_ ∧ w_.cell? ⟨b1, off + j, none⟩ = some (.slice X cur.length cX) ∧ w_.cell? ⟨w1.heap.size + 1, 0, none⟩ = some (V u) ∧ w_.cell? ⟨w1.heap.size + 1, 1, none⟩ = some (V v) ∧ w_.cell? ⟨w1.heap.size + 2, 0, none⟩ = some (V x) ∧ w_.cell? ⟨w1.heap.size + 2, 1, none⟩ = some (V y))
              (first | exact kp _ hdr | exact kp _ hn7 | exact kp _ hn8)
              (first
                | (go_at_call 53; (with_reducible refine (Hh2.out _ (X1.out.nx hn7)).mono ?_); rintro e w8 ⟨rfl, hn78⟩; have hn8 := hn7.trans hn78)
                | (go_at_call 53; (with_reducible refine (Hh1.out _ hx0).mono ?_); rintro e w7 ⟨rfl, hn67⟩; have hn7 : Nx wr w7 := hdr.trans hn67))) | fail
            all_goals go_wp2
            all_goals go_roundg (gk - 1)
            all_goals first
              | omega
              | exact ⟨j + 1, q, by omega, by go_num, rfl, by rw [Hst.out]; rfl, hn.trans hn8⟩
      · have hjl : bs.take j = bs := List.take_of_length_le (by omega)
        have hbo := Hbo.out
        rw [hjl, Hok.out] at hbo
        subst hbo
        go_wp2
        go_ret
        exact RetV.bool (by simp) (N.trans hn)
end Go.Proofs.Yticjoichmcegnaa
