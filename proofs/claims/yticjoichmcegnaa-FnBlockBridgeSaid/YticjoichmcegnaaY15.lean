/- FnBlockBridge: the walk. -/
import Derived.Test.YticjoichmcegnaaY14
import Derived.Test.YticjoichmcegnaaC6
namespace Go.Proofs.Yticjoichmcegnaa
open Go.RowKit set_option linter.unusedVariables false set_option linter.unusedSimpArgs false

set_option maxRecDepth 100000 in
set_option maxHeartbeats 8000000 in
theorem fnBlockBridge_walk (w : World) (A : Option Addr) (n c : Nat) (hnc : n ≤ c) (hb : BytesAt w w.heap.size A n) :
    Calls Try.prog 14 #[.slice A n c] w (RetV (.bool true) w) := by
  by_cases hbig : (n : Int) > 1048576
  · go_enter Try.func14, Try.ntmps14
    go_wp2
    go_ret
    exact RetV.bool rfl (by repeat (first | exact Nx.refl _ | assumption | apply Nx.alloc | apply Nx.drew | apply Nx.drewN | (refine Nx.setCell ?_ (by first | (simp; done) | (simp; omega) | omega) _) | refine Nx.trans ?_ (by assumption)))
  · go_enter Try.func14, Try.ntmps14
    go_wp2_with fail
    refine (drawBlocksOf_c A n c _ hnc hb).mono ?_
    rintro e w1 ⟨nn, B, d, es, rfl, h1, h2, h3, ho, N⟩
    have hcap := ho.cap
    have hg := ho.edgesAt
    clear ho hb
    have hbl := blocksOf_len nn es
    have Hib := Lib.hid (fun w hx => iBlocksOf_c nn B d es w hx (by omega) hcap)
    have Hsb := Lib.hid (fun w hx => sBlocksOf_c nn B d es w hx (by omega))
    have hgv := fun w hx => iGraphValid_c nn B d es w hx (by omega)
    by_cases hp : Valid nn es
    · have hbr : ∀ b ∈ blocksOf nn es, ∀ x y, (x, y) ∈ b → isBr nn es x y = (b.length == 1) := fun b hb x y hxy => by
        rw [blocksOf_yes hp] at hb
        rw [isBr_yes ⟨hp, blocksL_mem hb _ hxy⟩]
        exact bridge_block hp.edOk hp.nodupB hb hxy
      rw [show decide (Valid nn es) = true by simpa using hp] at hgv
      have Hgv := Lib.hid hgv
      generalize blocksOf nn es = bs at *
      have Hbr := Lib.hid hbr
      have hl1 : bs.length ≤ 1048576 := by have := hbl.1; omega
      have Hl2 := Lib.hid (fun b (hb : b ∈ bs) => Nat.le_trans (hbl.2 b hb) (by omega : 40 ≤ 1048576))
      clear hgv hp hbr hbl hcap
      go_wp2_with fail
      generalize hW2 : World.alloc _ _ = W2
      have gW2 : Nx w1 W2 := by subst hW2; exact (by repeat (first | exact Nx.refl _ | assumption | apply Nx.alloc | apply Nx.drew | apply Nx.drewN | (refine Nx.setCell ?_ (by first | (simp; done) | (simp; omega) | omega) _) | refine Nx.trans ?_ (by assumption)))
      have sW2 : W2.heap.size = w1.heap.size + 1 := by subst hW2; simp
      have G : Bx W2 (w1.heap.size) 25 [V nn, .slice B es.length d] := by subst hW2; have h := Bx.alloc w1 25 [V nn, .slice B es.length d]; simpa using h
      have G_0 := G.cell (j := 0) rfl
      have G_1 := G.cell (j := 1) rfl
      have G_z := G.lt
      have HsW2 := Lib.hid sW2
      have lW2 : w1.heap.size + 1 ≤ W2.heap.size := by omega
      clear hW2 sW2
      replace hg := hg.nx gW2
      replace N := N.trans gW2
      refine (Hib.out _ hg).mono ?_
      rintro e w3 ⟨A3, c3, q3, rfl, hq3, ho3, hn3⟩
      replace G := G.nx hn3
      replace G_0 := G.cell (j := 0) rfl
      replace G_1 := G.cell (j := 1) rfl
      replace G_z := G.lt
      replace hg := hg.nx hn3
      replace N := N.trans hn3
      have hx := ho3.rowsAt
      have Hq3 := Lib.hid hq3
      clear ho3 hq3
      go_wp2_with fail
      refine (Hsb.out _ hg).mono ?_
      rintro e w4 ⟨A4, c4, q4, rfl, hq4, ho4, hn4⟩
      replace G := G.nx hn4
      replace G_0 := G.cell (j := 0) rfl
      replace G_1 := G.cell (j := 1) rfl
      replace G_z := G.lt
      replace hg := hg.nx hn4
      replace hx := hx.nx hn4
      replace N := N.trans hn4
      have hy := ho4.rowsAt
      have Hq4 := Lib.hid hq4
      clear ho4 hq4
      go_wp2_with fail
      refine (dyB_yes A3 A4 c3 c4 q3 q4 bs _ Hq3.out Hq4.out hx hy hl1 Hl2.out).mono ?_
      rintro e w5 ⟨rfl, hn5⟩
      replace G := G.nx hn5
      replace G_0 := G.cell (j := 0) rfl
      replace G_1 := G.cell (j := 1) rfl
      replace G_z := G.lt
      replace hg := hg.nx hn5
      replace hx := hx.nx hn5
      replace N := N.trans hn5
      go_wp2_with fail
      refine (Hgv.out _ hg).mono ?_
      rintro e w6 ⟨rfl, hn6⟩
      replace G := G.nx hn6
      replace G_0 := G.cell (j := 0) rfl
      replace G_1 := G.cell (j := 1) rfl
      replace G_z := G.lt
      replace hg := hg.nx hn6
      replace hx := hx.nx hn6
      replace N := N.trans hn6
      have Hx := Lib.hid hx
      have HG := Lib.hid G
      have Hg := Lib.hid hg
      clear hx hy G G_0 G_1 G_z hg
      go_wp2
      go_loopg [5] bs.length (fun gk i wr => ∃ j : Nat, j + gk = bs.length ∧ i = .int .i64 j ∧ Nx w6 wr)
      case atStart => exact ⟨0, by omega, rfl, Nx.refl _⟩
      case round =>
        obtain ⟨j, hj, rfl, hn⟩ := hrel
        obtain ⟨gko, rfl⟩ : ∃ g : Nat, g = gk := ⟨_, rfl⟩
        by_cases hlt : j < bs.length
        · obtain ⟨X, cX, hr⟩ := rowsOf_at Hq3.out hlt
          have hmem := List.getElem_mem hlt
          have hcl := Hl2.out _ hmem
          have Hbb := Lib.hid (Hbr.out _ hmem)
          generalize bs[j] = cur at *
          have Hr := Lib.hid hr
          clear hr hmem
          go_wp2
          go_loopg [6] cur.length (fun gk i wr => ∃ k : Nat, k + gk = cur.length ∧ i = .int .i64 k ∧ Nx w6 wr)
          case atStart => exact ⟨0, by omega, rfl, hn⟩
          case round =>
            clear hn
            obtain ⟨k, hk, rfl, hn⟩ := hrel
            obtain ⟨b, off, rfl, hbb, r1, x1⟩ := (Hx.out.nx hn).rd Hr.out
            simp only at r1 x1
            have G := HG.out.nx hn
            have G_0 := G.cell (j := 0) rfl
            have G_1 := G.cell (j := 1) rfl
            have G_z := G.lt
            have hg := Hg.out.nx hn
            by_cases hlk : k < cur.length
            · obtain ⟨p, hp⟩ : ∃ p, cur[k]? = some p := ⟨_, List.getElem?_eq_getElem hlk⟩
              obtain ⟨g1, o1, rfl, gz1, y1, y2⟩ := x1.rd hp
              have hq := Hbb.out p.1 p.2 (List.mem_of_getElem? hp)
              obtain ⟨x, y⟩ := p
              simp only at y1 y2 hq
              have hib := fun w' hx => iIsBridge_c nn B d es x y w' hx (by omega)
              rw [hq] at hib
              have Hib := Lib.hid hib
              clear hp hq hib x1
              obtain ⟨lb, hlb⟩ : ∃ lb, (cur.length == 1) = lb := ⟨_, rfl⟩
              have hlb2 : ((cur.length : Int) == 1) = lb := by rw [← hlb]; rw [Bool.eq_iff_iff]; simp; omega
              rw [hlb] at Hib
              clear hlb
              have kp : ∀ w', Nx wr w' → Nx wr w' ∧ w'.cell? ⟨w1.heap.size, 0, none⟩ = some (V nn) ∧ w'.cell? ⟨w1.heap.size, 1, none⟩ = some (.slice B es.length d) ∧ w'.cell? ⟨b, off + j, none⟩ = some (.slice (some ⟨g1, o1, none⟩) cur.length cX) ∧ w'.cell? ⟨g1, o1 + k * 2, none⟩ = some (V x) ∧ w'.cell? ⟨g1, o1 + k * 2 + 1, none⟩ = some (V y) :=
                fun w' h => ⟨h, h.cell G_z G_0, h.cell G_z G_1, h.cell hbb r1, h.cell gz1 y1, h.cell gz1 y2⟩
              have hdr : Nx wr wr.drew := .drew (.refl _)
              go_wp2_with fail
              go_region_held3 (fun w_ => Nx wr w_ ∧ w_.cell? ⟨w1.heap.size, 0, none⟩ = some (V nn) ∧ w_.cell? ⟨w1.heap.size, 1, none⟩ = some (.slice B es.length d) ∧ w_.cell? ⟨b, off + j, none⟩ = some (.slice (some ⟨g1, o1, none⟩) cur.length cX) ∧ w_.cell? ⟨g1, o1 + k * 2, none⟩ = some (V x) ∧ w_.cell? ⟨g1, o1 + k * 2 + 1, none⟩ = some (V y))
                (first | exact kp _ hdr | exact kp _ hn7)
                (first
                  | (go_at_call 58; (with_reducible refine (Hib.out _ (hg.nx hdr)).mono ?_); rintro e w7 ⟨rfl, hn67⟩; have hn7 : Nx wr w7 := hdr.trans hn67))
              have hfin : (lb != lb) = false := by simp
              go_wp2
              go_roundg (gk - 1)
              case measure => omega
              case rel => exact ⟨k + 1, by omega, by go_num, hn.trans hn7⟩
            · go_wp2
              go_roundg (gko - 1)
              case measure => omega
              case rel => exact ⟨j + 1, by omega, by go_num, hn⟩
        · go_wp2
          go_ret
          exact RetV.bool rfl (N.trans hn)
    · rw [show decide (Valid nn es) = false by simpa using hp] at hgv
      have Hgv := Lib.hid hgv
      generalize blocksOf nn es = bs at *
      have hl1 : bs.length ≤ 1048576 := by have := hbl.1; omega
      have Hl2 := Lib.hid (fun b (hb : b ∈ bs) => Nat.le_trans (hbl.2 b hb) (by omega : 40 ≤ 1048576))
      clear hgv hp hbl hcap
      go_wp2_with fail
      generalize hW2 : World.alloc _ _ = W2
      have gW2 : Nx w1 W2 := by subst hW2; exact (by repeat (first | exact Nx.refl _ | assumption | apply Nx.alloc | apply Nx.drew | apply Nx.drewN | (refine Nx.setCell ?_ (by first | (simp; done) | (simp; omega) | omega) _) | refine Nx.trans ?_ (by assumption)))
      have sW2 : W2.heap.size = w1.heap.size + 1 := by subst hW2; simp
      have G : Bx W2 (w1.heap.size) 25 [V nn, .slice B es.length d] := by subst hW2; have h := Bx.alloc w1 25 [V nn, .slice B es.length d]; simpa using h
      have G_0 := G.cell (j := 0) rfl
      have G_1 := G.cell (j := 1) rfl
      have G_z := G.lt
      have HsW2 := Lib.hid sW2
      have lW2 : w1.heap.size + 1 ≤ W2.heap.size := by omega
      clear hW2 sW2
      replace hg := hg.nx gW2
      replace N := N.trans gW2
      refine (Hib.out _ hg).mono ?_
      rintro e w3 ⟨A3, c3, q3, rfl, hq3, ho3, hn3⟩
      replace G := G.nx hn3
      replace G_0 := G.cell (j := 0) rfl
      replace G_1 := G.cell (j := 1) rfl
      replace G_z := G.lt
      replace hg := hg.nx hn3
      replace N := N.trans hn3
      have hx := ho3.rowsAt
      have Hq3 := Lib.hid hq3
      clear ho3 hq3
      go_wp2_with fail
      refine (Hsb.out _ hg).mono ?_
      rintro e w4 ⟨A4, c4, q4, rfl, hq4, ho4, hn4⟩
      replace G := G.nx hn4
      replace G_0 := G.cell (j := 0) rfl
      replace G_1 := G.cell (j := 1) rfl
      replace G_z := G.lt
      replace hg := hg.nx hn4
      replace hx := hx.nx hn4
      replace N := N.trans hn4
      have hy := ho4.rowsAt
      have Hq4 := Lib.hid hq4
      clear ho4 hq4
      go_wp2_with fail
      refine (dyB_yes A3 A4 c3 c4 q3 q4 bs _ Hq3.out Hq4.out hx hy hl1 Hl2.out).mono ?_
      rintro e w5 ⟨rfl, hn5⟩
      replace G := G.nx hn5
      replace G_0 := G.cell (j := 0) rfl
      replace G_1 := G.cell (j := 1) rfl
      replace G_z := G.lt
      replace hg := hg.nx hn5
      replace hx := hx.nx hn5
      replace N := N.trans hn5
      go_wp2_with fail
      refine (Hgv.out _ hg).mono ?_
      rintro e w6 ⟨rfl, hn6⟩
      replace G := G.nx hn6
      replace G_0 := G.cell (j := 0) rfl
      replace G_1 := G.cell (j := 1) rfl
      replace G_z := G.lt
      replace hg := hg.nx hn6
      replace hx := hx.nx hn6
      replace N := N.trans hn6
      go_wp2_with fail
      refine (Hsb.out _ hg).mono ?_
      rintro e w7 ⟨A7, c7, q7, rfl, hq7, ho7, hn7⟩
      replace G := G.nx hn7
      replace G_0 := G.cell (j := 0) rfl
      replace G_1 := G.cell (j := 1) rfl
      replace G_z := G.lt
      replace hg := hg.nx hn7
      replace hx := hx.nx hn7
      replace N := N.trans hn7
      have hy := ho7.rowsAt
      have Hq7 := Lib.hid hq7
      clear ho7 hq7
      go_wp2_with fail
      refine (dyB_yes A3 A7 c3 c7 q3 q7 bs _ Hq3.out Hq7.out hx hy hl1 Hl2.out).mono ?_
      rintro e w8 ⟨rfl, hn8⟩
      replace G := G.nx hn8
      replace G_0 := G.cell (j := 0) rfl
      replace G_1 := G.cell (j := 1) rfl
      replace G_z := G.lt
      replace hg := hg.nx hn8
      replace hx := hx.nx hn8
      replace N := N.trans hn8
      go_wp2
      go_ret
      exact RetV.bool rfl N
end Go.Proofs.Yticjoichmcegnaa
