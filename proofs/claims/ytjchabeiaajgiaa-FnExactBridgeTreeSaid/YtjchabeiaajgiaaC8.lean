/- Contracts: the safe parts (l5Bare, safeParts, SafeParts of both sides). -/
import Derived.Test.YtjchabeiaajgiaaC7
namespace Go.Proofs.Ytjchabeiaajgiaa
open Go.RowKit
attribute [local go_sem ↓] Go.wp_at_zero Go.wp_at_succ

set_option maxRecDepth 100000 in
set_option maxHeartbeats 4000000 in
theorem l5Bare_c (n : Nat) (A : Option Addr) (c : Nat) (es : List (Int × Int)) (w : World) (hx : EdgesAt w A es) (hl : es.length ≤ 1048576) (hn16 : n ≤ 16) (hr : InR n es) (hd : ∀ e ∈ es, e.1 ≠ e.2) :
    Calls Try.prog 82 #[.agg #[V n, .slice A es.length c]] w (RetG 36 n (bareL n es) w) := by
  obtain ⟨i0, hi, hz0, hz1, hz2⟩ := info_parts infoE
  have Hi := Lib.hid hi
  have Hz0 := Lib.hid hz0
  have Hz1 := Lib.hid hz1
  have Hz2 := Lib.hid hz2
  clear hi hz0 hz1 hz2
  have Hbm := Lib.hid (bareL_mem (n := n) (es := es))
  have hbl := bridgesL_len n es
  go_enter Try.func82, Try.ntmps82
  go_wp2_with fail
  generalize hW1 : World.alloc _ _ = W1
  have gW1 : Nx w W1 := by subst hW1; exact (by repeat (first | exact Nx.refl _ | assumption | apply Nx.alloc | apply Nx.drew | apply Nx.drewN | (refine Nx.setCell ?_ (by first | (simp; done) | (simp; omega) | omega) _) | refine Nx.trans ?_ (by assumption)))
  have sW1 : W1.heap.size = w.heap.size + 4 := by subst hW1; simp
  have X0 : Bx W1 (w.heap.size) 26 [V n, .slice A es.length c] := by subst hW1; have h := Bx.alloc w 26 [V n, .slice A es.length c]; have h := h.nx (Nx.alloc (Nx.refl _) (.cells #[V 0, .slice none 0 0] 26)); have h := h.nx (Nx.alloc (Nx.refl _) (.cells #[] 36)); have h := h.nx (Nx.alloc (Nx.refl _) (.cells #[V n, .slice (some ⟨w.heap.size + 2, 0, none⟩) 0 0] 26)); simpa using h
  have X1 : Bx W1 (w.heap.size + 1) 26 [V 0, .slice none 0 0] := by subst hW1; have h := Bx.alloc (w.alloc (.cells #[V n, .slice A es.length c] 26)) 26 [V 0, .slice none 0 0]; have h := h.nx (Nx.alloc (Nx.refl _) (.cells #[] 36)); have h := h.nx (Nx.alloc (Nx.refl _) (.cells #[V n, .slice (some ⟨w.heap.size + 2, 0, none⟩) 0 0] 26)); simpa using h
  have X2 : Bx W1 (w.heap.size + 2) 36 [] := by subst hW1; have h := Bx.alloc ((w.alloc (.cells #[V n, .slice A es.length c] 26)).alloc (.cells #[V 0, .slice none 0 0] 26)) 36 []; have h := h.nx (Nx.alloc (Nx.refl _) (.cells #[V n, .slice (some ⟨w.heap.size + 2, 0, none⟩) 0 0] 26)); simpa using h
  have X3 : Bx W1 (w.heap.size + 3) 26 [V n, .slice (some ⟨w.heap.size + 2, 0, none⟩) 0 0] := by subst hW1; have h := Bx.alloc (((w.alloc (.cells #[V n, .slice A es.length c] 26)).alloc (.cells #[V 0, .slice none 0 0] 26)).alloc (.cells #[] 36)) 26 [V n, .slice (some ⟨w.heap.size + 2, 0, none⟩) 0 0]; simpa using h
  have X0_0 := X0.cell (j := 0) rfl
  have X0_1 := X0.cell (j := 1) rfl
  have X0_z := X0.lt
  have X1_0 := X1.cell (j := 0) rfl
  have X1_1 := X1.cell (j := 1) rfl
  have X1_z := X1.lt
  have X2_z := X2.lt
  have X3_0 := X3.cell (j := 0) rfl
  have X3_1 := X3.cell (j := 1) rfl
  have X3_z := X3.lt
  have HsW1 := Lib.hid sW1
  have lW1 : w.heap.size + 4 ≤ W1.heap.size := by omega
  clear hW1 sW1
  have ho1 : OwnE W1 (w.heap.size + 2) 36 _ 0 [] := X2.emptyE (Nat.le_refl _)
  refine (l4Bridges_c n A c es _ (hx.nx gW1) hl hn16 hr hd).mono ?_
  rintro e W2 ⟨Bb, db, rfl, hob, hn2⟩
  replace X0 := X0.nx hn2
  replace X0_0 := X0.cell (j := 0) rfl
  replace X0_1 := X0.cell (j := 1) rfl
  replace X0_z := X0.lt
  replace X1 := X1.nx hn2
  replace X1_0 := X1.cell (j := 0) rfl
  replace X1_1 := X1.cell (j := 1) rfl
  replace X1_z := X1.lt
  replace X3 := X3.nx hn2
  replace X3_0 := X3.cell (j := 0) rfl
  replace X3_1 := X3.cell (j := 1) rfl
  replace X3_z := X3.lt
  have g02 : Nx w W2 := gW1.trans hn2
  have ho2 := ho1.nx hn2
  have hbe := hob.edgesAt
  have hbk : ∀ k, blk Bb = some k → ¬ (k = w.heap.size + 2 ∨ k = w.heap.size + 3) := fun k hk => by have := (hob.lt k hk).1; omega
  have gz2 := hn2.size
  clear ho1 hob hr hd
  generalize bridgesL n es = bs at *
  go_wp2
  go_loopg [5] es.length (fun gk i wr => ∃ (k : Nat) (A' : Option Addr) (c' : Nat) (L : Es), k + gk = es.length ∧ i = .int .i64 k ∧ L = (es.take k).filter (fun e => decide (e ∉ bs)) ∧ Bx wr (w.heap.size + 3) 26 [V n, .slice A' L.length c'] ∧ OwnE wr (w.heap.size + 2) 36 A' c' L ∧ (∀ j, blk A' = some j → j = w.heap.size + 2 ∨ W2.heap.size ≤ j) ∧ Gx (fun k => k = w.heap.size + 2 ∨ k = w.heap.size + 3) W2 wr)
  case atStart => exact ⟨0, _, 0, [], by omega, rfl, by simp, X3, ho2, fun j h => by simp [blk] at h; omega, Gx.refl _ _⟩
  case round =>
    obtain ⟨k, A', c', L, hk, rfl, hL, hbo, hown, hA', hgx⟩ := hrel
    have hsz := hgx.size
    have Y0 := hgx.bx X0 (by omega)
    have Y0_0 := Y0.cell (j := 0) rfl
    have Y0_1 := Y0.cell (j := 1) rfl
    have Y1 := hgx.bx X1 (by omega)
    have q0 := hbo.cell (j := 0) rfl
    have q1 := hbo.cell (j := 1) rfl
    have HL := Lib.hid hL
    have hlen : L.length ≤ k := by rw [hL]; exact Nat.le_trans (List.length_filter_le _ _) (List.length_take_le _ _)
    clear hL
    by_cases hlt : k < es.length
    · have hek : es[k]? = some es[k] := List.getElem?_eq_getElem hlt
      have hst := filter_take_succ (fun e => decide (e ∉ bs)) hek
      obtain ⟨b, off, rfl, hbl2, hc⟩ := hx (by omega)
      have h1 := hgx.cell (by omega) (by omega) (g02.cell (p := ⟨b, off + k * 2, none⟩) hbl2 (hc k hlt).1)
      have h2 := hgx.cell (by omega) (by omega) (g02.cell (p := ⟨b, off + k * 2 + 1, none⟩) hbl2 (hc k hlt).2)
      have hbr := hgx.edges hbe hbk
      clear hc hek X0 X1 X3 X0_0 X0_1 X1_0 X1_1 X3_0 X3_1 hx ho2
      generalize es[k] = e at *
      obtain ⟨x, y⟩ := e
      rw [← HL.out] at hst
      have Hst := Lib.hid hst
      clear hst
      go_wp2_with fail
      refine (l1Find_c Bb db bs x y _ hbr (by omega)).mono ?_
      rintro e w3 ⟨rfl, hn3⟩
      have hgx3 := hgx.nx hn3
      replace Y0 := Y0.nx hn3
      replace Y0_0 := Y0.cell (j := 0) rfl
      replace Y0_1 := Y0.cell (j := 1) rfl
      have hb3 := hbo.nx hn3
      replace q0 := hb3.cell (j := 0) rfl
      replace q1 := hb3.cell (j := 1) rfl
      have ho3 := hown.nx hn3
      have hbz : b < wr.heap.size := by have := g02.size; omega
      replace h1 := hn3.cell (p := ⟨b, off + k * 2, none⟩) hbz h1
      replace h2 := hn3.cell (p := ⟨b, off + k * 2 + 1, none⟩) hbz h2
      have gz3 := hn3.size
      have qz := hb3.lt
      have Yz := Y0.lt
      clear hbr hbo hown hgx Y1
      by_cases hm : (x, y) ∈ bs
      · have hi0 : ¬ idxE bs (x, y) < 0 := by have := (idxE_nonneg bs (x, y)).2 hm; omega
        have hp : ¬ (decide ((x, y) ∉ bs)) = true := by simp [hm]
        have Hp := Lib.hid hp
        clear hm hp
        generalize idxE bs (x, y) = ix at *
        go_wp2
        go_roundg (gk - 1)
        case measure => omega
        case rel => exact ⟨k + 1, A', c', L, by omega, by go_num, by rw [Hst.out, if_neg Hp.out, List.append_nil], hb3, ho3, hA', hgx3⟩
      · have hi0 : idxE bs (x, y) < 0 := by have := mt (idxE_nonneg bs (x, y)).1 hm; omega
        have hp : (decide ((x, y) ∉ bs)) = true := by simp [hm]
        have Hp := Lib.hid hp
        have HA' := Lib.hid hA'
        clear hm hp hA'
        generalize idxE bs (x, y) = ix at *
        have hb3d := hb3.nx (.drew (.refl _))
        have hnd : Nx w3 (w3.alloc (.cells #[V x, V y] 36)).drew := .drew (.alloc (.refl _) _)
        have heo : EdgesAt (w3.alloc (.cells #[V x, V y] 36)) (some ⟨w3.heap.size, 0, none⟩) [(x, y)] := edgesOne (by simp) (cellN rfl rfl) (cellN rfl rfl)
        replace heo := heo.nx (Nx.drew (Nx.refl _))
        have ho3d := ho3.nx hnd
        go_wp2
        go_region_law (refine stepEs (A := A') (c := c') (c' := 1) L [(x, y)] rfl rfl Try.underlying24 Hi.out Hz0.out Hz1.out Hz2.out rfl (by go_simp) ho3d (by go_simp) heo (by simp; omega) (by simp; omega) ?_; intro A2 c2 w5 ho5 hgr5 hbl5; have hb5 := (hb3.nx hnd).grown hgr5 (fun h => by rcases HA'.out _ h with h | h <;> omega); have r0 := hb5.cell (j := 0) rfl; have r1 := hb5.cell (j := 1) rfl; have rf := hb5.free)
        all_goals go_wp2
        all_goals go_roundg (gk - 1)
        all_goals first
          | omega
          | (refine ⟨k + 1, A2, c2, L ++ [(x, y)], by omega, by go_num, by rw [Hst.out, if_pos Hp.out], ?_, ?_, ?_, ?_⟩
             · rw [List.length_append]
               exact hb5.set (j := 1) _
             · exact ho5.other (fun k hk e => by rcases hbl5 with h | h; rw [h] at hk; rcases HA'.out _ hk with h | h <;> omega; rw [h] at hk; injection hk with hk; simp at hk; omega) _ _
             · intro j hj
               rcases hbl5 with h | h
               · exact HA'.out j (h ▸ hj)
               · rw [h] at hj; injection hj with hj; simp at hj; exact .inr (by omega)
             · exact ((hgx3.nx hnd).grown hgr5 (fun j hj => by rcases HA'.out _ hj with h | h; exact .inl (.inl h); exact .inr h)).setCell (.inl (.inr rfl)) _ _)
    · have he : es.take k = es := List.take_of_length_le (by omega)
      have hbl : L = bareL n es := by rw [HL.out, he, ← Hbm.out]
      subst hbl
      have Y1_0 := Y1.cell (j := 0) rfl
      have Y1_1 := Y1.cell (j := 1) rfl
      have Yf := Y1.free
      have hnw : Nx w wr := hgx.back g02 (fun k hk => by omega)
      have Hown := Lib.hid hown
      clear hown Hbm HL he
      generalize bareL n es = L at *
      go_wp2
      refine bodyPost_ret (v := .agg #[V n, .slice A' L.length c']) (by simp [results, Try.f82, go_sem, *]) rfl ?_
      refine ⟨A', c', rfl, ?_, (by repeat (first | exact Nx.refl _ | assumption | apply Nx.alloc | apply Nx.drew | apply Nx.drewN | (refine Nx.setCell ?_ (by first | (simp; done) | (simp; omega) | omega) _) | refine Nx.trans ?_ (by assumption)))⟩
      have hne : ∀ k, blk A' = some k → k ≠ w.heap.size + 1 := fun k hk e => by rcases hA' _ hk with h | h <;> omega
      exact ((Hown.out.other hne _ _).other hne _ _).mono (by omega)
end Go.Proofs.Ytjchabeiaajgiaa
