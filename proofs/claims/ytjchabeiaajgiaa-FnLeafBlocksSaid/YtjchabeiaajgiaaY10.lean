/- Contracts: l5Blocks, BlocksOf of the reference. -/
import Derived.Test.YtjchabeiaajgiaaY9
namespace Go.Proofs.Ytjchabeiaajgiaa
open Go.RowKit set_option linter.unusedVariables false set_option linter.unusedSimpArgs false

set_option maxRecDepth 100000 in
set_option maxHeartbeats 4000000 in
theorem l5Blocks_c (n : Nat) (A : Option Addr) (c : Nat) (es : List (Int × Int)) (w : World) (hxw : EdgesAt w A es) (h40 : es.length ≤ 40) (hn16 : n ≤ 16) (ho : EdOk n es) (hd : es.Nodup) :
    Calls Try.prog 92 #[.agg #[V n, .slice A es.length c]] w (RetQ 24 36 (blocksL n es) w) := by
  have ht := fun w hx => l5Labels_c n A c es w hx h40 hn16 ho hd
  have Ht := Lib.hid ht
  have HLl := Lib.hid (blkL_length n es)
  obtain ⟨bs, hbs⟩ : ∃ bs, blocksL n es = bs := ⟨_, rfl⟩
  have hbs2 : blkTo (blkL n es) es es.length = bs := hbs
  rw [hbs]
  have Hbs := Lib.hid hbs2
  clear ht ho hd hbs hbs2
  obtain ⟨i0, hi, hz0, hz1, hz2⟩ := info_parts infoEE
  have Hi := Lib.hid hi
  have Hz0 := Lib.hid hz0
  have Hz1 := Lib.hid hz1
  have Hz2 := Lib.hid hz2
  clear hi hz0 hz1 hz2
  obtain ⟨i1, hi, hz0, hz1, hz2⟩ := info_parts infoE
  have Gi := Lib.hid hi
  have Gz0 := Lib.hid hz0
  have Gz1 := Lib.hid hz1
  have Gz2 := Lib.hid hz2
  clear hi hz0 hz1 hz2
  go_enter Try.func92, Try.ntmps92
  go_wp2_with fail
  generalize hW2 : World.alloc w _ = w2
  have gn2 : Nx w w2 := by subst hW2; exact (by repeat (first | exact Nx.refl _ | assumption | apply Nx.alloc | apply Nx.drew | apply Nx.drewN | (refine Nx.setCell ?_ (by first | (simp; done) | (simp; omega) | omega) _) | refine Nx.trans ?_ (by assumption)))
  have hB1 : w.heap.size < w2.heap.size := by subst hW2; simp
  have X0 : Bx w2 w.heap.size 26 [V n, .slice A es.length c] := by subst hW2; exact Bx.alloc w 26 [V n, .slice A es.length c]
  have hq0 := OwnQ.empty w2 w2.heap.size 24 36 (Nat.le_refl _)
  rw [show w.heap.size + 1 = w2.heap.size by subst hW2; simp]
  clear hW2
  generalize hW3 : World.alloc w2 _ = W3 at *
  have gn3 : Nx w2 W3 := by subst hW3; exact (by repeat (first | exact Nx.refl _ | assumption | apply Nx.alloc | apply Nx.drew | apply Nx.drewN | (refine Nx.setCell ?_ (by first | (simp; done) | (simp; omega) | omega) _) | refine Nx.trans ?_ (by assumption)))
  have gs3 : w2.heap.size < W3.heap.size := by subst hW3; simp
  clear hW3
  replace X0 := X0.nx gn3
  replace X0_0 := X0.cell (j := 0) rfl
  replace X0_1 := X0.cell (j := 1) rfl
  replace X0_z := X0.lt
  refine (Ht.out _ (hxw.nx (gn2.trans gn3))).mono ?_
  rintro e w4 ⟨B, d, rfl, ho4, hn4⟩
  replace X0 := X0.nx hn4
  replace X0_0 := X0.cell (j := 0) rfl
  replace X0_1 := X0.cell (j := 1) rfl
  replace X0_z := X0.lt
  replace hq0 := hq0.nx hn4
  have hL := ho4.intsAt
  have hz4 := hn4.size
  have hBk : ∀ k, blk B = some k → ¬ k = w2.heap.size := fun k hk => by have := (ho4.lt k hk).1; omega
  have hB2 : w2.heap.size < w4.heap.size := by omega
  have hn04 : Nx w w4 := (gn2.trans gn3).trans hn4
  have hn24 := gn3.trans hn4
  generalize blkL n es = L at *
  rw [HLl.out]
  have HL := Lib.hid hL
  have HBk := Lib.hid hBk
  have Hxw := Lib.hid hxw
  clear Ht ho4 hL hBk hxw
  go_wp2
  go_loopg [3, 5] es.length (fun gk out i wr => ∃ (k : Nat) (A' : Option Addr) (c' : Nat) (q : List Row), k + gk = es.length ∧ i = .int .i64 k ∧ out = .slice A' q.length c' ∧ rowsOf q = blkTo L es k ∧ OwnQ wr w2.heap.size 24 36 A' c' q ∧ (∀ j, blk A' = some j → j = w2.heap.size ∨ w4.heap.size ≤ j) ∧ Gx (fun k => k = w2.heap.size) w4 wr)
  case atStart => exact ⟨0, some ⟨w2.heap.size, 0, none⟩, 0, [], by omega, rfl, rfl, rfl, hq0, fun j h => by simp [blk] at h; omega, Gx.refl _ _⟩
  case round =>
    obtain ⟨k, A', c', q, hk, rfl, rfl, hq, hown, hA', hgx⟩ := hrel
    obtain ⟨gko, rfl⟩ : ∃ g : Nat, g = gk := ⟨_, rfl⟩
    obtain ⟨w5, rfl⟩ : ∃ x : World, x = wr := ⟨_, rfl⟩
    have hsz := hgx.size
    have hql : q.length ≤ k := by rw [← rowsOf_length, hq]; exact blkTo_len _ _ _
    have hnw : Nx w w5 := hgx.back hn04 (fun k hk => by omega)
    have XB := hgx.bx X0 (by omega)
    have Hq := Lib.hid hq
    have HA' := Lib.hid hA'
    have Hown := Lib.hid hown
    have Hgx := Lib.hid hgx
    clear hq hA' hown hq0
    by_cases hlt : k < es.length
    · obtain ⟨x, hLx⟩ : ∃ x, L[k]? = some x := ⟨_, List.getElem?_eq_getElem (by have := HLl.out; omega)⟩
      have hst := blkTo_step (es := es) hLx
      have hLr := hgx.ints HL.out HBk.out
      have HLr := Lib.hid hLr
      have hxr := Hxw.out.nx hnw
      have HXr := Lib.hid hxr
      obtain ⟨b2, off2, rfl, hb2, h3⟩ := hLr.rd hLx
      have Hst := Lib.hid hst
      clear hst hLx hgx hLr hxr X0 X0_0 X0_1
      by_cases e1 : (x != (k : Int)) = false
      · go_wp2_with fail
        have ho0 := OwnE.empty w5 w5.heap.size 36 (Nat.le_refl _)
        go_loopg [6, 7] es.length (fun gk out i' wr => ∃ (j : Nat) (A5 : Option Addr) (c5 : Nat), j + gk = es.length ∧ i' = .int .i64 j ∧ out = .slice A5 (blkAt (L.take j) (es.take j) k).length c5 ∧ OwnE wr w5.heap.size 36 A5 c5 (blkAt (L.take j) (es.take j) k) ∧ Nx w5 wr)
        case atStart => exact ⟨0, some ⟨w5.heap.size, 0, none⟩, 0, by omega, rfl, by simp [blkAt_nil], by simp [blkAt_nil]; exact ho0, (by repeat (first | exact Nx.refl _ | assumption | apply Nx.alloc | apply Nx.drew | apply Nx.drewN | (refine Nx.setCell ?_ (by first | (simp; done) | (simp; omega) | omega) _) | refine Nx.trans ?_ (by assumption)))⟩
        case round =>
          clear ho0 h3
          obtain ⟨j, A5, c5, hj, rfl, rfl, ho5, hn5⟩ := hrel
          have X0 := XB.nx hn5
          have X0_0 := X0.cell (j := 0) rfl
          have X0_1 := X0.cell (j := 1) rfl
          have X0_z := X0.lt
          by_cases hltj : j < es.length
          · obtain ⟨e, he⟩ : ∃ e, es[j]? = some e := ⟨_, List.getElem?_eq_getElem hltj⟩
            obtain ⟨x0, hx0⟩ : ∃ x, L[j]? = some x := ⟨_, List.getElem?_eq_getElem (by have := HLl.out; omega)⟩
            have hst := blkAt_step (i := (k : Int)) hx0 he
            have hlen : (blkAt (L.take j) (es.take j) k).length ≤ j := Nat.le_trans (blkAt_len _ _ _) (List.length_take_le _ _)
            obtain ⟨b1, off, rfl, hb1, h1, h2⟩ := (HXr.out.nx hn5).rd he
            obtain ⟨b3, off3, hA3, hb3, h3⟩ := (HLr.out.nx hn5).rd hx0
            injection hA3 with hA3
            injection hA3 with hA1 hA2
            subst hA1 hA2
            obtain ⟨x, y⟩ := e
            have hsz5 := hn5.size
            generalize blkAt (L.take j) (es.take j) k = M at *
            have Hstj := Lib.hid hst
            have Hown5 := Lib.hid ho5
            clear hst ho5 he hx0
            by_cases e2 : (x0 == (k : Int)) = true
            · go_wp2_with (at_builtin; go_must (refine appE (base := w5.heap.size) (t := 36) M _ x y rfl rfl Try.underlying24 Gi.out Gz0.out Gz1.out Gz2.out rfl rfl (Hown5.out.nx (by repeat (first | exact Nx.refl _ | assumption | apply Nx.alloc | apply Nx.drew | apply Nx.drewN | (refine Nx.setCell ?_ (by first | (simp; done) | (simp; omega) | omega) _) | refine Nx.trans ?_ (by assumption)))) rfl (cellN (by simp) rfl) (cellN (by simp) rfl) (by omega) (by simp; omega) ?_; intro A2 c2 w3 hown3 hnx3 hgr3 hbl3))
              go_roundg (gk - 1)
              case measure => omega
              case rel =>
                have e2 : x0 = k := by simpa using e2
                exact ⟨j + 1, A2, c2, by omega, by go_num, by rw [Hstj.out, if_pos e2]; simp, by rw [Hstj.out, if_pos e2]; exact hown3, hnx3 w5 (Nat.le_refl _) (by repeat (first | exact Nx.refl _ | assumption | apply Nx.alloc | apply Nx.drew | apply Nx.drewN | (refine Nx.setCell ?_ (by first | (simp; done) | (simp; omega) | omega) _) | refine Nx.trans ?_ (by assumption)))⟩
            · have e2 : (x0 == (k : Int)) = false := by simpa using e2
              go_wp2
              go_roundg (gk - 1)
              case measure => omega
              case rel =>
                have e2 : x0 ≠ k := by simpa using e2
                exact ⟨j + 1, A5, c5, by omega, by go_num, by rw [Hstj.out, if_neg e2, List.append_nil], by rw [Hstj.out, if_neg e2, List.append_nil]; exact Hown5.out.nx (by repeat (first | exact Nx.refl _ | assumption | apply Nx.alloc | apply Nx.drew | apply Nx.drewN | (refine Nx.setCell ?_ (by first | (simp; done) | (simp; omega) | omega) _) | refine Nx.trans ?_ (by assumption))), (by repeat (first | exact Nx.refl _ | assumption | apply Nx.alloc | apply Nx.drew | apply Nx.drewN | (refine Nx.setCell ?_ (by first | (simp; done) | (simp; omega) | omega) _) | refine Nx.trans ?_ (by assumption)))⟩
          · have hjm : j = es.length := by omega
            have t1 : L.take j = L := List.take_of_length_le (by have := HLl.out; omega)
            have t2 : es.take j = es := List.take_of_length_le (by omega)
            rw [t1, t2] at ho5 ⊢
            have hbl := blkAt_len L es k
            obtain ⟨bb, hbb⟩ : ∃ bb, blkAt L es k = bb := ⟨_, rfl⟩
            rw [hbb] at ho5 hbl Hst ⊢
            have ho6 := Hown.out.1.nx hn5
            have Ho5 := Lib.hid ho5
            clear ho5 hbb t1 t2
            go_wp2_with (at_builtin; go_must (refine appV (base := w2.heap.size) (t := 24) (q.map Row.val) wr.heap.size (.slice A5 bb.length c5) 24 rfl rfl Try.underlying69 Hi.out Hz0.out Hz1.out Hz2.out (by omega) rfl (by rw [List.length_map]; rfl) (ho6.nx (by repeat (first | exact Nx.refl _ | assumption | apply Nx.alloc | apply Nx.drew | apply Nx.drewN | (refine Nx.setCell ?_ (by first | (simp; done) | (simp; omega) | omega) _) | refine Nx.trans ?_ (by assumption)))) rfl (cellN (by simp) rfl) rfl (by rw [List.length_map]; omega) (by have := hn5.size; simp; omega) ?_; intro A2 c2 w6 hown6 hnx6 hgr6 hbl6))
            go_roundg (gko - 1)
            case measure => omega
            case rel =>
              have e1 : x = k := by simpa using e1
              have hnb : Nx w5 (wr.alloc (.cells #[.slice A5 bb.length c5] 24)) := hn5.alloc _
              refine ⟨k + 1, A2, c2, q ++ [(A5, c5, bb)], by omega, by go_num, by simp, ?_, ?_, ?_, ?_⟩
              · rw [Hst.out, ← Hq.out]; simp [rowsOf, e1]
              · exact Hown.out.push (r := (A5, c5, bb)) (by omega) hnb (Ho5.out.nx (by repeat (first | exact Nx.refl _ | assumption | apply Nx.alloc | apply Nx.drew | apply Nx.drewN | (refine Nx.setCell ?_ (by first | (simp; done) | (simp; omega) | omega) _) | refine Nx.trans ?_ (by assumption)))) hgr6 hown6 hbl6
              · intro j hj
                rcases hbl6 with h | h
                · exact HA'.out j (h ▸ hj)
                · rw [h] at hj; injection hj with hj; simp at hj; have := hn5.size; exact .inr (by omega)
              · exact (Hgx.out.nx hnb).grown hgr6 HA'.out
      · have e1 : (x != (k : Int)) = true := by simpa using e1
        go_wp2
        go_roundg (gko - 1)
        case measure => omega
        case rel =>
          have e1 : ¬ x = k := by intro h; subst h; simp at e1
          exact ⟨k + 1, A', c', q, by omega, by go_num, rfl, by rw [Hst.out, if_neg e1, List.append_nil]; exact Hq.out, Hown.out, HA'.out, Hgx.out⟩
    · go_wp2
      go_ret
      have hkl : k = es.length := by omega
      have hq := Hq.out
      rw [hkl, Hbs.out] at hq
      exact ⟨A', c', q, by rw [← hq, rowsOf_length]; rfl, hq, Hown.out.mono (by omega), hnw⟩

end Go.Proofs.Ytjchabeiaajgiaa
