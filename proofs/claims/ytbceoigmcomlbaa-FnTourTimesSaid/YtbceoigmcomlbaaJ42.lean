import Derived.Test.YtbceoigmcomlbaaJ40
import Derived.Test.YtbceoigmcomlbaaJ41
/- Contract: DrawLinkTours. -/
namespace Go.Proofs.Ytbceoigmcomlbaa
open Go.RowKit set_option linter.unusedVariables false set_option linter.unusedSimpArgs false

/-- two lists and two numbers -/
def SomeLL (w : World) (e : Ending) (w' : World) : Prop :=
  ∃ A c xs B d ys x y, e = .returned (.tuple #[.slice A xs.length c, .slice B ys.length d, V x, V y]) ∧ xs.length ≤ 62 ∧ ys.length ≤ 62 ∧ OwnI w' w.heap.size 3 A c xs ∧ OwnI w' w.heap.size 3 B d ys ∧ Nx w w'
theorem spA_pos {L : List Int} {e : Int × Int} (h : spOk L e) : 1 ≤ (tSplA L e).length ∧ 1 ≤ (tSplB L e).length := by
  obtain ⟨i, j, hp, hj, hA, hB⟩ := spOk_places h
  have hij := hp.lt
  rw [(tSpl_yes h).1, (tSpl_yes h).2, hA, hB]
  simp
  omega
/-- the entry at a place -/
def nthI (xs : List Int) (j : Nat) : Int := xs[j]?.getD 0
theorem nthI_eq {xs : List Int} {j : Nat} (h : j < xs.length) : nthI xs j = xs[j] := by unfold nthI; rw [List.getElem?_eq_getElem h]; rfl
set_option maxRecDepth 100000 in
set_option maxHeartbeats 1000000 in
theorem drawLinkTours_c (A : Option Addr) (n c : Nat) (w : World) (hnc : n ≤ c) (hb : BytesAt w w.heap.size A n) : Calls Try.prog 23 #[.slice A n c] w (SomeLL w) := by
  have h := drawSplitTour_c A n c w hnc hb
  have H := Lib.hid h
  have Hb := Lib.hid hb
  clear h hb
  go_enter Try.func23, Try.ntmps23
  go_wp2_with fail
  refine H.out.mono ?_
  rintro e w1 ⟨L, lc, xs, u, v, rfl, h1, h2, ho1, hn1⟩
  have hz1 := hn1.size
  have hcap := ho1.cap
  have Ho1 := Lib.hid ho1
  go_wp2_with fail
  generalize hW2 : World.alloc _ _ = W2
  have gW2 : Nx w1 W2 := by subst hW2; exact (by repeat (first | exact Nx.refl _ | assumption | apply Nx.alloc | apply Nx.drew | apply Nx.drewN | (refine Nx.setCell ?_ (by first | (simp; done) | (simp; omega) | omega) _) | refine Nx.trans ?_ (by assumption)))
  have sW2 : W2.heap.size = w1.heap.size + 1 := by subst hW2; simp
  have X0 : Bx W2 (w1.heap.size) 30 [V u, V v] := by subst hW2; have h := Bx.alloc w1 30 [V u, V v]; simpa using h
  have X0_0 := X0.cell (j := 0) rfl
  have X0_1 := X0.cell (j := 1) rfl
  have X0_z := X0.lt
  have HsW2 := Lib.hid sW2
  have lW2 : w1.heap.size + 1 ≤ W2.heap.size := by omega
  clear hW2 sW2
  refine (open_l A n c _ hnc (Hb.out.nx (hn1.trans gW2) (hn1.trans gW2).size)).mono ?_
  rintro e w3 ⟨rfl, r3, hn3⟩
  replace X0 := X0.nx hn3
  replace X0_0 := X0.cell (j := 0) rfl
  replace X0_1 := X0.cell (j := 1) rfl
  replace X0_z := X0.lt
  have hz3 := r3.lt
  have hpos : Hid (spOk xs (u, v) → 1 ≤ (tSplA xs (u, v)).length ∧ 1 ≤ (tSplB xs (u, v)).length) := Lib.hid spA_pos
  have hbA := tSplA_len xs (u, v)
  have hbB := tSplB_len xs (u, v)
  have hs := sSplitTour_c L lc xs.length xs u v w3 rfl hcap (ho1.nx (gW2.trans hn3)).intsAt (by omega)
  generalize tSplA xs (u, v) = pa at *
  generalize tSplB xs (u, v) = pb at *
  obtain ⟨q, hq⟩ : ∃ q, decide (spOk xs (u, v)) = q := ⟨_, rfl⟩
  rw [hq] at hs
  have Hs := Lib.hid hs
  have Hq := Lib.hid hq
  clear hs hq ho1
  go_wp2_with fail
  refine Hs.out.mono ?_
  rintro e w4 ⟨F, f, K, k, rfl, hoA, hoB, _, _, hn4⟩
  have N4 := (hn1.trans gW2).trans (hn3.trans hn4)
  have r4 := r3.nx hn4
  have hz4 := hn4.size
  have Ho4 := Lib.hid (Ho1.out.nx (gW2.trans (hn3.trans hn4)))
  have HoA := Lib.hid hoA
  have HoB := Lib.hid hoB
  obtain ⟨gl, rfl, hgl1, hgl2⟩ := Ho1.out.at (by omega)
  clear hoA hoB
  cases q with
  | false =>
    have ho4 := Ho4.out
    have c0 := ho4.cell (k := 0) (by omega)
    have hl0 : 0 < xs.length := by omega
    have hl1 : (0 : Int) < (xs.length : Int) := by omega
    have hglz : gl < w4.heap.size := by omega
    have HoK := Lib.hid ho4
    generalize xs[0] = x0 at *
    clear ho4
    go_wp2
    have kp : ∀ w', Nx w4 w' → (fun w_ => Nx w4 w_ ∧ w_.cell? ⟨gl, 0, none⟩ = some (V x0)) w' := fun w' h => ⟨h, h.cell (p := ⟨gl, 0, none⟩) hglz c0⟩
    first | (go_region_held3 (fun w_ => Nx w4 w_ ∧ w_.cell? ⟨gl, 0, none⟩ = some (V x0))
      (exact kp _ (by (repeat (first | exact Nx.refl _ | assumption | apply Nx.alloc | apply Nx.drew | apply Nx.drewN | (refine Nx.setCell ?_ (by first | (simp; done) | (simp; omega) | omega) _) | refine Nx.trans ?_ (by assumption))); done))
      (fail)) | fail
    all_goals go_wp2
    all_goals refine bodyPost_ret (v := .tuple #[.slice (some ⟨gl, 0, none⟩) xs.length lc, .slice (some ⟨w4.heap.size, 0, none⟩) 1 1, V x0, V 15]) (by simp [results, Try.f23, go_sem, *]) rfl ?_
    all_goals exact ⟨_, lc, xs, _, 1, [15], x0, 15, rfl, by omega, by simp, HoK.out.nx (by (repeat (first | exact Nx.refl _ | assumption | apply Nx.alloc | apply Nx.drew | apply Nx.drewN | (refine Nx.setCell ?_ (by first | (simp; done) | (simp; omega) | omega) _) | refine Nx.trans ?_ (by assumption))); done), OwnI.nx (w := w4.alloc (.cells #[V 15] 3)) (World.ownsRow_lit w4 #[V 15] 1 (Nat.le_trans (by omega) (Nat.le_refl _)) (by simp [maxLen]) rfl) (by (repeat (first | exact Nx.refl _ | assumption | apply Nx.alloc | apply Nx.drew | apply Nx.drewN | (refine Nx.setCell ?_ (by first | (simp; done) | (simp; omega) | omega) _) | refine Nx.trans ?_ (by assumption))); done), N4.trans (by (repeat (first | exact Nx.refl _ | assumption | apply Nx.alloc | apply Nx.drew | apply Nx.drewN | (refine Nx.setCell ?_ (by first | (simp; done) | (simp; omega) | omega) _) | refine Nx.trans ?_ (by assumption))); done)⟩
  | true =>
    obtain ⟨hpA, hpB⟩ := hpos.out (of_decide_eq_true Hq.out)
    go_wp2_with fail
    refine (pick_l W2.heap.size 0 8 _ r4 (by omega) (by omega) (by omega)).mono ?_
    rintro e w5 ⟨y, rfl, hy0, hy1, r5, x5⟩
    have hz5 := x5.size
    have N5 : Nx w w5 := Rx.nx N4 x5 (by omega)
    by_cases h6 : y = 0
    · subst h6
      have ho5 := Ho4.out.kept x5 (apart_ne fun q hq => by have := (Ho1.out.lt q hq).2; omega)
      have c0 := ho5.cell (k := 0) (by omega)
      have hl0 : 0 < xs.length := by omega
      have hl1 : (0 : Int) < (xs.length : Int) := by omega
      have hglz : gl < w5.heap.size := by omega
      have HoK := Lib.hid ho5
      generalize xs[0] = x0 at *
      clear ho5
      go_wp2
      have kp : ∀ w', Nx w5 w' → (fun w_ => Nx w5 w_ ∧ w_.cell? ⟨gl, 0, none⟩ = some (V x0)) w' := fun w' h => ⟨h, h.cell (p := ⟨gl, 0, none⟩) hglz c0⟩
      first | (go_region_held3 (fun w_ => Nx w5 w_ ∧ w_.cell? ⟨gl, 0, none⟩ = some (V x0))
        (exact kp _ (by (repeat (first | exact Nx.refl _ | assumption | apply Nx.alloc | apply Nx.drew | apply Nx.drewN | (refine Nx.setCell ?_ (by first | (simp; done) | (simp; omega) | omega) _) | refine Nx.trans ?_ (by assumption))); done))
        (fail)) | fail
      all_goals go_wp2
      all_goals refine bodyPost_ret (v := .tuple #[.slice (some ⟨gl, 0, none⟩) xs.length lc, .slice (some ⟨w5.heap.size, 0, none⟩) 1 1, V x0, V 15]) (by simp [results, Try.f23, go_sem, *]) rfl ?_
      all_goals exact ⟨_, lc, xs, _, 1, [15], x0, 15, rfl, by omega, by simp, HoK.out.nx (by (repeat (first | exact Nx.refl _ | assumption | apply Nx.alloc | apply Nx.drew | apply Nx.drewN | (refine Nx.setCell ?_ (by first | (simp; done) | (simp; omega) | omega) _) | refine Nx.trans ?_ (by assumption))); done), OwnI.nx (w := w5.alloc (.cells #[V 15] 3)) (World.ownsRow_lit w5 #[V 15] 1 (Nat.le_trans (by omega) (Nat.le_refl _)) (by simp [maxLen]) rfl) (by (repeat (first | exact Nx.refl _ | assumption | apply Nx.alloc | apply Nx.drew | apply Nx.drewN | (refine Nx.setCell ?_ (by first | (simp; done) | (simp; omega) | omega) _) | refine Nx.trans ?_ (by assumption))); done), N5.trans (by (repeat (first | exact Nx.refl _ | assumption | apply Nx.alloc | apply Nx.drew | apply Nx.drewN | (refine Nx.setCell ?_ (by first | (simp; done) | (simp; omega) | omega) _) | refine Nx.trans ?_ (by assumption))); done)⟩
    · have h6b : (y == 0) = false := by simpa using h6
      clear hy1
      obtain ⟨ga, rfl, hga1, hga2⟩ := HoA.out.at (by omega)
      obtain ⟨gb, rfl, hgb1, hgb2⟩ := HoB.out.at (by omega)
      have hoA5 := HoA.out.kept x5 (apart_ne fun q hq => by have := (HoA.out.lt q hq).1; omega)
      have hoB5 := HoB.out.kept x5 (apart_ne fun q hq => by have := (HoB.out.lt q hq).1; omega)
      have HA5 := Lib.hid hoA5
      have HB5 := Lib.hid hoB5
      have HcA := Lib.hid (fun (j : Nat) (hj : j < pa.length) => (show w5.cell? ⟨ga, j, none⟩ = some (V (nthI pa j)) by rw [nthI_eq hj]; exact hoA5.cell hj))
      have HcB := Lib.hid (fun (j : Nat) (hj : j < pb.length) => (show w5.cell? ⟨gb, j, none⟩ = some (V (nthI pb j)) by rw [nthI_eq hj]; exact hoB5.cell hj))
      have hba : ga ≠ W2.heap.size := by omega
      have hbb : gb ≠ W2.heap.size := by omega
      generalize hna : pa.length = na at *
      generalize hnb : pb.length = nb at *
      have Hna := Lib.hid hna
      have Hnb := Lib.hid hnb
      have kp : ∀ w', Rx W2.heap.size w5 w' → (fun w_ => Rx W2.heap.size w5 w_ ∧ (∀ (j : Nat) (h : j < na), w_.cell? ⟨ga, j, none⟩ = some (V (nthI pa j))) ∧ ∀ (j : Nat) (h : j < nb), w_.cell? ⟨gb, j, none⟩ = some (V (nthI pb j))) w' := fun w' h => ⟨h, fun j hj => World.grownBy.cell h (HcA.out j hj) (by simp; omega), fun j hj => World.grownBy.cell h (HcB.out j hj) (by simp; omega)⟩
      have r5' := r5.mono (P' := 5) (by omega)
      clear r5
      go_wp2_with fail
      first | (go_region_held3 (fun w_ => Rx W2.heap.size w5 w_ ∧ (∀ (j : Nat) (h : j < na), w_.cell? ⟨ga, j, none⟩ = some (V (nthI pa j))) ∧ ∀ (j : Nat) (h : j < nb), w_.cell? ⟨gb, j, none⟩ = some (V (nthI pb j)))
        (first | exact kp _ hxb2 | exact kp _ hxa2 | exact kp _ hxb | exact kp _ hxa | exact kp _ (Nx.rx (by exact (by (repeat (first | exact Nx.refl _ | assumption | apply Nx.alloc | apply Nx.drew | apply Nx.drewN | (refine Nx.setCell ?_ (by first | (simp; done) | (simp; omega) | omega) _) | refine Nx.trans ?_ (by assumption))); done)) _))
        (first
          | (go_at_call 50; (with_reducible refine (pick_l W2.heap.size 6 (nb : Nat) _ r6 (by omega) (by omega) (by omega)).mono ?_); rintro e w8 ⟨yb, rfl, hyb1, hyb2, r8, x8⟩; have hxb2 : Rx W2.heap.size w5 w8 := Rx.trans hxa x8; obtain ⟨jb, rfl⟩ := Int.eq_ofNat_of_zero_le hyb1; have hjb : jb < nb := (by have := hyb2 (by omega); omega); have hjbi : (jb : Int) < (nb : Int) := (by omega); have hjb0 : (0 : Int) ≤ (jb : Int) := (by omega))
          | (go_at_call 50; (with_reducible refine (pick_l W2.heap.size 6 (na : Nat) _ r7 (by omega) (by omega) (by omega)).mono ?_); rintro e w8 ⟨ya, rfl, hya1, hya2, r8, x8⟩; have hxa2 : Rx W2.heap.size w5 w8 := Rx.trans hxb x8; have hxb2 := hxa2; obtain ⟨ja, rfl⟩ := Int.eq_ofNat_of_zero_le hya1; have hja : ja < na := (by have := hya2 (by omega); omega); have hjai : (ja : Int) < (na : Int) := (by omega); have hja0 : (0 : Int) ≤ (ja : Int) := (by omega))
          | (go_at_call 50; (with_reducible refine (pick_l W2.heap.size 5 (na : Nat) _ (r5'.nx (by exact (by (repeat (first | exact Nx.refl _ | assumption | apply Nx.alloc | apply Nx.drew | apply Nx.drewN | (refine Nx.setCell ?_ (by first | (simp; done) | (simp; omega) | omega) _) | refine Nx.trans ?_ (by assumption))); done))) (by omega) (by omega) (by omega)).mono ?_); rintro e w6 ⟨ya, rfl, hya1, hya2, r6, x6⟩; have hxa : Rx W2.heap.size w5 w6 := Rx.trans (Nx.rx (by exact (by (repeat (first | exact Nx.refl _ | assumption | apply Nx.alloc | apply Nx.drew | apply Nx.drewN | (refine Nx.setCell ?_ (by first | (simp; done) | (simp; omega) | omega) _) | refine Nx.trans ?_ (by assumption))); done)) _) x6; obtain ⟨ja, rfl⟩ := Int.eq_ofNat_of_zero_le hya1; have hja : ja < na := (by have := hya2 (by omega); omega); have hjai : (ja : Int) < (na : Int) := (by omega); have hja0 : (0 : Int) ≤ (ja : Int) := (by omega))
          | (go_at_call 50; (with_reducible refine (pick_l W2.heap.size 5 (nb : Nat) _ (r5'.nx (by exact (by (repeat (first | exact Nx.refl _ | assumption | apply Nx.alloc | apply Nx.drew | apply Nx.drewN | (refine Nx.setCell ?_ (by first | (simp; done) | (simp; omega) | omega) _) | refine Nx.trans ?_ (by assumption))); done))) (by omega) (by omega) (by omega)).mono ?_); rintro e w7 ⟨yb, rfl, hyb1, hyb2, r7, x7⟩; have hxb : Rx W2.heap.size w5 w7 := Rx.trans (Nx.rx (by exact (by (repeat (first | exact Nx.refl _ | assumption | apply Nx.alloc | apply Nx.drew | apply Nx.drewN | (refine Nx.setCell ?_ (by first | (simp; done) | (simp; omega) | omega) _) | refine Nx.trans ?_ (by assumption))); done)) _) x7; obtain ⟨jb, rfl⟩ := Int.eq_ofNat_of_zero_le hyb1; have hjb : jb < nb := (by have := hyb2 (by omega); omega); have hjbi : (jb : Int) < (nb : Int) := (by omega); have hjb0 : (0 : Int) ≤ (jb : Int) := (by omega)))) | fail
      all_goals go_wp2
      all_goals refine bodyPost_ret (v := .tuple #[.slice (some ⟨ga, 0, none⟩) na f, .slice (some ⟨gb, 0, none⟩) nb k, V (nthI pa ja), V (nthI pb jb)]) (by simp [results, Try.f23, go_sem, *]) rfl ?_
      all_goals exact ⟨_, f, pa, _, k, pb, _, _, by rw [Hna.out, Hnb.out], by rw [Hna.out]; omega, by rw [Hnb.out]; omega, (HA5.out.kept hxb2 (apart_ne fun q hq => by have := (HoA.out.lt q hq).1; omega)).mono (by omega), (HB5.out.kept hxb2 (apart_ne fun q hq => by have := (HoB.out.lt q hq).1; omega)).mono (by omega), Rx.nx N5 hxb2 (by omega)⟩
end Go.Proofs.Ytbceoigmcomlbaa
