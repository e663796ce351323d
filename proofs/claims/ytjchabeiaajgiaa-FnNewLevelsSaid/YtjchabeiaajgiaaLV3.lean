/- Contract: LevelsValid, of levels that are all zero and a forest of all edges, at most one. -/
import Derived.Test.YtjchabeiaajgiaaLV2
import Derived.BigRegion
import Derived.Deep.Cut
import Derived.Deep.CutRange
namespace Go.Proofs.Ytjchabeiaajgiaa
open Go.RowKit set_option linter.unusedVariables false set_option linter.unusedSimpArgs false

theorem own_madeL {X : World} {g base n : Nat} {t : TypeId} (h : X.heap[g]? = some (.cells (madeCells #[V 0] n) t)) (hb : base ≤ g) (hn : n ≤ 1048576) : OwnI X base t (some ⟨g, 0, none⟩) n (List.replicate n 0) := by
  have e : (madeCells #[V 0] n).toList = (List.replicate n (0 : Int)).map V := by
    have := toList_madeCells_one (V 0) n
    simpa using this
  refine ⟨by simp, .inr ⟨g, n, _, by rw [List.length_replicate], hb, h, by simp, by simp [maxLen]; omega, by simp [size_madeCells], ?_⟩⟩
  rw [List.take_of_length_le (by simp [size_madeCells]), e]

set_option maxRecDepth 100000 in
set_option maxHeartbeats 8000000 in
theorem levelsValid_c (n : Nat) (es : Es) (hv : Valid n es) (hl : es.length ≤ 1) (G A B : Option Addr) (gc c1 c2 : Nat) (w : World) (hG : EdgesAt w G es) (hA : IntsAt w A (List.replicate es.length 0)) (hB : TrueAt w B es.length) :
    Calls Try.prog 13 #[LvV n G es.length gc A es.length c1 B es.length c2] w (RetV (.bool true) w) := by
  have h16 := hv.2.1
  have h01 := hv.1
  have hInR := hv.inR
  rw [Int.toNat_natCast] at hInR
  have hAp := hv.apart
  have hgv := fun w h => iGraphValid_c n G gc es w h (by omega)
  rw [show decide (Valid n es) = true by simpa using hv] at hgv
  have Hgv := Lib.hid hgv
  have Hcf := Lib.hid (fun w' h => containsFuncI_c 52 #[] #[] (fun _ => false) (enters_of Try.func52 (by rfl) rfl) A c1 (List.replicate es.length 0) w' h (by simp; omega) (fun W x hx hW => by
    obtain rfl : x = 0 := by rw [List.mem_replicate] at hx; exact hx.2
    exact lvClos1_c W))
  have Hab := Lib.hid (fun k (hk : k ≤ 4) f w' (hN : Nx w w') => above_c n G A B gc c1 c2 es k f w' (hG.nx hN) (hA.nx hN) (hB.nx hN) (by omega) hk)
  have lvR : ∀ k, InR n (lvE es k) := fun k => by unfold lvE; split; exact hInR; exact InR.nil n
  have lvD : ∀ k, ∀ e ∈ lvE es k, e.1 ≠ e.2 := fun k => by unfold lvE; split; exact hAp; simp
  have lvL : ∀ k, (lvE es k).length ≤ 1 := fun k => by unfold lvE; split; exact hl; simp
  have Hfo := Lib.hid (fun k A c w' h => (show Calls Try.prog 55 #[.agg #[V n, .slice A (lvE es k).length c]] w' (RetE 36 (lvE es k) w') by
    have := forest_c n A c (lvE es k) w' h (by have := lvL k; omega) (by omega) (lvR k) (lvD k)
    rwa [forest_small (lvL k) (lvR k) (lvD k)] at this))
  have Hpa := Lib.hid (fun k A c w' h => parts_c n A c (lvE es k) w' h (by have := lvL k; omega) (by omega) (lvR k) (lvD k))
  have Hpl := Lib.hid (fun k => labels_length (lvR k))
  have Hone := Lib.hid (fun k (hk : k ≠ 0) (x : Nat) => (show (labels n (lvE es k)).count (x : Int) ≤ 1 by rw [lvE_pos es hk]; exact count_one))
  have Hbd := Lib.hid (fun k (x : Nat) (hx : x < n) => (show 0 ≤ lk (labels n (lvE es k)) x ∧ lk (labels n (lvE es k)) x < n by
    have := labels_bd (lvR k) (x := x) (by omega) (by omega)
    omega))
  have HlvL := Lib.hid lvL
  have Heq := Lib.hid (fun k A A' c c' w' h h' => (show Calls Try.prog 56 #[.slice A (labels n (lvE es k)).length c, .slice A' (labels n (lvE es k)).length c'] w' (RetV (.bool true) w') by
    have hq := labels_length (lvR k)
    have := equalI_c A A' c c' (labels n (lvE es k)) (labels n (lvE es k)) w' h h' (by omega) (by omega)
    simpa using this))
  have HG := Lib.hid hG
  have HA := Lib.hid hA
  clear hgv lvR lvD lvL hv hInR hAp hB
  have hrl : (List.replicate es.length (0 : Int)).length = es.length := by simp
  have han : (List.replicate es.length (0 : Int)).any (fun _ => false) = false := by simp
  rw [hrl, han] at Hcf
  obtain ⟨m, hm⟩ : ∃ x, es.length = x := ⟨_, rfl⟩
  rw [hm] at Hcf Hab Hgv HA ⊢
  have Hm := Lib.hid hm
  clear hrl han hm hG hA
  obtain ⟨i0, hi, hz0, hz1, hz2⟩ := info_parts infoI
  have hmk := run_make_rowN (P := Try.prog) 27 3 i0 _ Try.underlying27 hi hz0 .i64 .i64 n n (Nat.le_refl _) (by rw [hz2]; omega) (by omega)
  rw [hz1] at hmk
  have Hmk := Lib.hid hmk
  clear hi hz0 hz1 hz2 hmk
  go_enter Try.func13, Try.ntmps13
  go_wp2_with fail
  generalize hW1 : World.alloc _ _ = W1
  have gW1 : Nx w W1 := by subst hW1; exact (by repeat (first | exact Nx.refl _ | assumption | apply Nx.alloc | apply Nx.drew | apply Nx.drewN | (refine Nx.setCell ?_ (by first | (simp; done) | (simp; omega) | omega) _) | refine Nx.trans ?_ (by assumption)))
  have sW1 : W1.heap.size = w.heap.size + 1 := by subst hW1; simp
  have L : Bx W1 (w.heap.size) 30 [V n, .slice G m gc, .slice A m c1, .slice B m c2] := by subst hW1; have h := Bx.alloc w 30 [V n, .slice G m gc, .slice A m c1, .slice B m c2]; simpa using h
  have L_0 := L.cell (j := 0) rfl
  have L_1 := L.cell (j := 1) rfl
  have L_2 := L.cell (j := 2) rfl
  have L_3 := L.cell (j := 3) rfl
  have L_z := L.lt
  have HsW1 := Lib.hid sW1
  have lW1 : w.heap.size + 1 ≤ W1.heap.size := by omega
  clear hW1 sW1
  have N := gW1
  refine (Hgv.out _ (HG.out.nx N)).mono ?_
  rintro e w2 ⟨rfl, hn2⟩
  replace L := L.nx hn2
  replace L_0 := L.cell (j := 0) rfl
  replace L_1 := L.cell (j := 1) rfl
  replace L_2 := L.cell (j := 2) rfl
  replace L_3 := L.cell (j := 3) rfl
  replace L_z := L.lt
  replace N := N.trans hn2
  go_wp2_with fail
  refine (Hcf.out _ (HA.out.nx N)).mono ?_
  rintro e w3 ⟨rfl, hn3⟩
  replace L := L.nx hn3
  replace L_0 := L.cell (j := 0) rfl
  replace L_1 := L.cell (j := 1) rfl
  replace L_2 := L.cell (j := 2) rfl
  replace L_3 := L.cell (j := 3) rfl
  replace L_z := L.lt
  replace N := N.trans hn3
  go_wp2
  go_loopg [36] 5 (fun gk i wr => ∃ k : Nat, k + gk = 5 ∧ i = .int .i64 k ∧ Nx w3 wr)
  case atStart => exact ⟨0, by omega, rfl, Nx.refl _⟩
  case round =>
    obtain ⟨k, hk, rfl, hn⟩ := hrel
    replace L := L.nx hn
    replace L_0 := L.cell (j := 0) rfl
    replace L_1 := L.cell (j := 1) rfl
    replace L_2 := L.cell (j := 2) rfl
    replace L_3 := L.cell (j := 3) rfl
    replace L_z := L.lt
    replace N := N.trans hn
    by_cases hlt : k < 5
    · go_upto_region 8 with (fail)
      generalize hW4 : World.alloc _ _ = W4
      have gW4 : Nx wr W4 := by subst hW4; exact (by repeat (first | exact Nx.refl _ | assumption | apply Nx.alloc | apply Nx.drew | apply Nx.drewN | (refine Nx.setCell ?_ (by first | (simp; done) | (simp; omega) | omega) _) | refine Nx.trans ?_ (by assumption)))
      have sW4 : W4.heap.size = wr.heap.size + 1 := by subst hW4; simp
      have K : Bx W4 (wr.heap.size) 3 [V k] := by subst hW4; have h := Bx.alloc wr 3 [V k]; simpa using h
      have K_0 := K.cell (j := 0) rfl
      have K_z := K.lt
      have HsW4 := Lib.hid sW4
      have lW4 : wr.heap.size + 1 ≤ W4.heap.size := by omega
      clear hW4 sW4
      replace L := L.nx gW4
      replace L_0 := L.cell (j := 0) rfl
      replace L_1 := L.cell (j := 1) rfl
      replace L_2 := L.cell (j := 2) rfl
      replace L_3 := L.cell (j := 3) rfl
      replace L_z := L.lt
      replace N := N.trans gW4
      have HT := Lib.hid (fun w' hN => Hab.out k (by omega) true w' hN)
      have HF := Lib.hid (fun w' hN => Hab.out k (by omega) false w' hN)
      have HP := Lib.hid (fun A c w' h => Hpa.out k A c w' h)
      have HO := Lib.hid (fun A c w' h => Hfo.out k A c w' h)
      have HE := Lib.hid (fun A A' c c' w' h h' => Heq.out k A A' c c' w' h h')
      have hEl := HlvL.out k
      have hpl := Hpl.out k
      have Hon := Lib.hid (Hone.out k)
      have Hb := Lib.hid (Hbd.out k)
      generalize lvE es k = E at *
      generalize labels n E = ls at *
      unfold RetG at HT HF
      obtain ⟨me, hme⟩ : ∃ x, E.length = x := ⟨_, rfl⟩
      unfold RetE at HO
      simp only [hme] at HT HF HP HO hEl
      unfold RetI at HP
      simp only [hpl] at HP HE
      have Hpl2 := Lib.hid hpl
      have Hme := Lib.hid hme
      clear hme hpl
      have HN4 := Lib.hid (hn.trans gW4)
      go_cut [4, 5] from 37 to 45 (fun s4 s5 wc => ∃ (b4 : Nat) (A4 : Option Addr) (d4 : Nat) (A5 : Option Addr) (d5 : Nat), s4 = .pointer (some ⟨b4, 0, none⟩) ∧ s5 = .slice A5 n d5 ∧ Nx W4 wc ∧ b4 < wc.heap.size ∧ wc.cell? ⟨b4, 0, none⟩ = some (V n) ∧ wc.cell? ⟨b4, 1, none⟩ = some (.slice A4 me d4) ∧ EdgesAt wc A4 E ∧ IntsAt wc A5 ls)
      case first =>
        have kp : ∀ w', Nx W4 w' → (fun w_ => Nx W4 w_ ∧ w_.cell? ⟨w.heap.size, 0, none⟩ = some (V n) ∧ w_.cell? ⟨w.heap.size, 1, none⟩ = some (.slice G m gc) ∧ w_.cell? ⟨w.heap.size, 2, none⟩ = some (.slice A m c1) ∧ w_.cell? ⟨w.heap.size, 3, none⟩ = some (.slice B m c2) ∧ w_.cell? ⟨wr.heap.size, 0, none⟩ = some (V k)) w' := fun w' h => ⟨h, h.cell L_z L_0, h.cell L_z L_1, h.cell L_z L_2, h.cell L_z L_3, h.cell K_z K_0⟩
        go_region_held3 (fun w_ => Nx W4 w_ ∧ w_.cell? ⟨w.heap.size, 0, none⟩ = some (V n) ∧ w_.cell? ⟨w.heap.size, 1, none⟩ = some (.slice G m gc) ∧ w_.cell? ⟨w.heap.size, 2, none⟩ = some (.slice A m c1) ∧ w_.cell? ⟨w.heap.size, 3, none⟩ = some (.slice B m c2) ∧ w_.cell? ⟨wr.heap.size, 0, none⟩ = some (V k))
          (exact kp _ (by (repeat (first | exact Nx.refl _ | assumption | apply Nx.alloc | apply Nx.drew | apply Nx.drewN | (refine Nx.setCell ?_ (by first | (simp; done) | (simp; omega) | omega) _) | refine Nx.trans ?_ (by assumption))); done))
          (first
            | (go_at_call 53; (with_reducible refine (HT.out _ (by (repeat (first | exact Nx.refl _ | assumption | apply Nx.alloc | apply Nx.drew | apply Nx.drewN | (refine Nx.setCell ?_ (by first | (simp; done) | (simp; omega) | omega) _) | refine Nx.trans ?_ (by assumption))); done)).mono ?_); rintro e wT ⟨BT, dT, rfl, hoT, hnT⟩; have hsT : W4.heap.size ≤ wT.heap.size := Nx.size (by exact (by (repeat (first | exact Nx.refl _ | assumption | apply Nx.alloc | apply Nx.drew | apply Nx.drewN | (refine Nx.setCell ?_ (by first | (simp; done) | (simp; omega) | omega) _) | refine Nx.trans ?_ (by assumption))); done)); obtain ⟨hcT, hfT, hzT⟩ := hnT.rules; (try simp [size_drew_] at hzT); (try (have hqT : W4.heap.size < wT.heap.size := (by have h := hnT.size; first | omega | (simp [size_drew_] at h; omega)))))
            | (go_at_call 53; (with_reducible refine (HF.out _ (by (repeat (first | exact Nx.refl _ | assumption | apply Nx.alloc | apply Nx.drew | apply Nx.drewN | (refine Nx.setCell ?_ (by first | (simp; done) | (simp; omega) | omega) _) | refine Nx.trans ?_ (by assumption))); done)).mono ?_); rintro e wF ⟨BF, dF, rfl, hoF, hnF⟩; have hsF : W4.heap.size ≤ wF.heap.size := Nx.size (by exact (by (repeat (first | exact Nx.refl _ | assumption | apply Nx.alloc | apply Nx.drew | apply Nx.drewN | (refine Nx.setCell ?_ (by first | (simp; done) | (simp; omega) | omega) _) | refine Nx.trans ?_ (by assumption))); done)); obtain ⟨hcF, hfF, hzF⟩ := hnF.rules; (try simp [size_drew_] at hzF); (try (have hqF : W4.heap.size < wF.heap.size := (by have h := hnF.size; first | omega | (simp [size_drew_] at h; omega)))); (try (have hqF2 : wT.heap.size < wF.heap.size := (by have h := hnF.size; first | omega | (simp [size_drew_] at h; omega)))))
            | (go_at_call 54; (with_reducible refine (HP.out BF dF _ (hoF.edgesAt.nx (by (repeat (first | exact Nx.refl _ | assumption | apply Nx.alloc | apply Nx.drew | apply Nx.drewN | (refine Nx.setCell ?_ (by first | (simp; done) | (simp; omega) | omega) _) | refine Nx.trans ?_ (by assumption))); done))).mono ?_); rintro e wP ⟨BP, dP, rfl, hoP, hnP⟩; have hsP : W4.heap.size ≤ wP.heap.size := Nx.size (by exact (by (repeat (first | exact Nx.refl _ | assumption | apply Nx.alloc | apply Nx.drew | apply Nx.drewN | (refine Nx.setCell ?_ (by first | (simp; done) | (simp; omega) | omega) _) | refine Nx.trans ?_ (by assumption))); done)); obtain ⟨hcP, hfP, hzP⟩ := hnP.rules; (try simp [size_drew_] at hzP); (try (have hqP : W4.heap.size < wP.heap.size := (by have h := hnP.size; first | omega | (simp [size_drew_] at h; omega)))); (try (have hqP2 : wT.heap.size < wP.heap.size := (by have h := hnP.size; first | omega | (simp [size_drew_] at h; omega)))); (try (have hqP3 : wF.heap.size < wP.heap.size := (by have h := hnP.size; first | omega | (simp [size_drew_] at h; omega))))))
        all_goals go_wp2
        all_goals go_meet
        all_goals exact ⟨_, BT, dT, BP, dP, rfl, rfl, (by (repeat (first | exact Nx.refl _ | assumption | apply Nx.alloc | apply Nx.drew | apply Nx.drewN | (refine Nx.setCell ?_ (by first | (simp; done) | (simp; omega) | omega) _) | refine Nx.trans ?_ (by assumption))); done), (by first | (simp; done) | omega | (simp; omega) | (simp [size_drew_, size_set_]; omega)), (by go_simp), (by go_simp),
          OwnE.edgesAt (base := W4.heap.size) (t := 36) (c := dT) (by have h4 := hoT.mono (base' := W4.heap.size) (Nx.size (by exact (by (repeat (first | exact Nx.refl _ | assumption | apply Nx.alloc | apply Nx.drew | apply Nx.drewN | (refine Nx.setCell ?_ (by first | (simp; done) | (simp; omega) | omega) _) | refine Nx.trans ?_ (by assumption))); done))); (repeat (refine OwnE.other ?_ (fun k hk e => by have h := hoT.lt k hk; first | omega | (simp at h; omega) | (simp [size_drew_, size_set_] at h; omega)) _ _)); exact h4.nx (by (repeat (first | exact Nx.refl _ | assumption | apply Nx.alloc | apply Nx.drew | apply Nx.drewN | (refine Nx.setCell ?_ (by first | (simp; done) | (simp; omega) | omega) _) | refine Nx.trans ?_ (by assumption))); done)),
          OwnI.intsAt (base := W4.heap.size) (t := 3) (c := dP) (by have h4 := hoP.mono (base' := W4.heap.size) (Nx.size (by exact (by (repeat (first | exact Nx.refl _ | assumption | apply Nx.alloc | apply Nx.drew | apply Nx.drewN | (refine Nx.setCell ?_ (by first | (simp; done) | (simp; omega) | omega) _) | refine Nx.trans ?_ (by assumption))); done))); (repeat (refine OwnI.other ?_ (fun k hk e => by have h := hoP.lt k hk; first | omega | (simp at h; omega) | (simp [size_drew_, size_set_] at h; omega)) _ _)); exact h4.nx (by (repeat (first | exact Nx.refl _ | assumption | apply Nx.alloc | apply Nx.drew | apply Nx.drewN | (refine Nx.setCell ?_ (by first | (simp; done) | (simp; omega) | omega) _) | refine Nx.trans ?_ (by assumption))); done))⟩
      obtain ⟨b4, A4, d4, A5, d5, rfl, rfl, nc, z4, f0, f1, e4, i5⟩ := hcut
      obtain ⟨W5, hW5⟩ : ∃ v, v = wc := ⟨_, rfl⟩
      subst hW5
      replace L := L.nx nc
      replace L_0 := L.cell (j := 0) rfl
      replace L_1 := L.cell (j := 1) rfl
      replace L_2 := L.cell (j := 2) rfl
      replace L_3 := L.cell (j := 3) rfl
      replace L_z := L.lt
      replace K := K.nx nc
      replace K_0 := K.cell (j := 0) rfl
      replace K_z := K.lt
      replace N := N.trans nc
      have HN5 := Lib.hid (HN4.out.trans nc)
      clear HT HF HN4
      obtain ⟨gko, rfl⟩ : ∃ g : Nat, g = gk := ⟨_, rfl⟩
      obtain ⟨wo, rfl⟩ : ∃ x : World, x = wr := ⟨_, rfl⟩
      have kp : ∀ w', Nx W5 w' → (fun w_ => Nx W5 w_ ∧ w_.cell? ⟨b4, 0, none⟩ = some (V n) ∧ w_.cell? ⟨b4, 1, none⟩ = some (.slice A4 me d4)) w' := fun w' h => ⟨h, h.cell z4 f0, h.cell z4 f1⟩
      have hdr : Nx W5 W5.drew := .drew (.refl _)
      go_wp2_with fail
      refine wp_region_held_drew (S := fun w_ => Nx W5 w_ ∧ w_.cell? ⟨b4, 0, none⟩ = some (V n) ∧ w_.cell? ⟨b4, 1, none⟩ = some (.slice A4 me d4)) (by kernel_rfl) (kp _ hdr) (fun hHeld => ?_)
      refine wpAnyH_take (i := 0) (oi := ?oir1_0) (v := ?vr1_0) ?hir1_0 (by kernel_rfl) (by kernel_rfl) (by kernel_rfl) ?hQr1_0 (Or.inl ⟨?hwr1_0, ?hyr1_0⟩) (by assumption) ?restr1_0
      case hir1_0 => (simp only [List.getElem?_toArray, List.getElem?_cons_succ, List.getElem?_cons_zero]; rfl)
      case hwr1_0 => rfl
      case hyr1_0 => (intro w hSw; (try dsimp only at hSw); go_simp; (try with_reducible rfl))
      case hQr1_0 => exact fun _ _ _ h => h
      (try simp only [Act.put, List.setIfInBounds_toArray, List.set_cons_zero, List.set_cons_succ])
      refine wpAnyH_take (i := 3) (oi := ?oir1_3) (v := ?vr1_3) ?hir1_3 (by kernel_rfl) (by kernel_rfl) (by kernel_rfl) ?hQr1_3 (Or.inl ⟨?hwr1_3, ?hyr1_3⟩) (by assumption) ?restr1_3
      case hir1_3 => (simp only [List.getElem?_toArray, List.getElem?_cons_succ, List.getElem?_cons_zero]; rfl)
      case hwr1_3 => rfl
      case hyr1_3 => (intro w hSw; (try dsimp only at hSw); go_simp; (try with_reducible rfl))
      case hQr1_3 => exact fun _ _ _ h => h
      (try simp only [Act.put, List.setIfInBounds_toArray, List.set_cons_zero, List.set_cons_succ])
      refine wpAnyH_take (i := 4) (oi := ?oir1_4) (v := ?vr1_4) ?hir1_4 (by kernel_rfl) (by kernel_rfl) (by kernel_rfl) ?hQr1_4 (Or.inl ⟨?hwr1_4, ?hyr1_4⟩) (by assumption) ?restr1_4
      case hir1_4 => (simp only [List.getElem?_toArray, List.getElem?_cons_succ, List.getElem?_cons_zero]; rfl)
      case hwr1_4 => rfl
      case hyr1_4 => (intro w hSw; (try dsimp only at hSw); go_simp; (try with_reducible rfl))
      case hQr1_4 => exact fun _ _ _ h => h
      (try simp only [Act.put, List.setIfInBounds_toArray, List.set_cons_zero, List.set_cons_succ])
      refine wpAnyH_take (i := 5) (oi := ?oir1_5) (v := ?vr1_5) ?hir1_5 (by kernel_rfl) (by kernel_rfl) (by kernel_rfl) ?hQr1_5 (Or.inl ⟨?hwr1_5, ?hyr1_5⟩) (by assumption) ?restr1_5
      case hir1_5 => (simp only [List.getElem?_toArray, List.getElem?_cons_succ, List.getElem?_cons_zero]; rfl)
      case hwr1_5 => rfl
      case hyr1_5 => (intro w hSw; (try dsimp only at hSw); go_simp; (try with_reducible rfl))
      case hQr1_5 => exact fun _ _ _ h => h
      (try simp only [Act.put, List.setIfInBounds_toArray, List.set_cons_zero, List.set_cons_succ])
      refine wpAnyH_ready (rs := [1]) (by kernel_rfl) (by simp) ?_
      refine AllReadyH.cons rfl (fun K hK => ?_) AllReadyH.nil
      go_simp
      refine (HO.out A4 d4 _ (e4.nx hdr)).mono ?_
      rintro e w6 ⟨A6, d6, rfl, _, hnd⟩
      have hn6 : Nx W5 w6 := hdr.trans hnd
      refine hK.out _ _ (kp _ hn6) (fun hHeld => ?_)
      clear hK K
      (try simp only [Act.put, List.setIfInBounds_toArray, List.set_cons_zero, List.set_cons_succ])
      refine wpAnyH_take (i := 2) (oi := ?oir1_2) (v := ?vr1_2) ?hir1_2 (by kernel_rfl) (by kernel_rfl) (by kernel_rfl) ?hQr1_2 (Or.inl ⟨?hwr1_2, ?hyr1_2⟩) (by assumption) ?restr1_2
      case hir1_2 => (simp only [List.getElem?_toArray, List.getElem?_cons_succ, List.getElem?_cons_zero]; rfl)
      case hwr1_2 => rfl
      case hyr1_2 => (intro w hSw; (try dsimp only at hSw); go_simp; (try with_reducible rfl))
      case hQr1_2 => exact fun _ _ _ h => h
      (try simp only [Act.put, List.setIfInBounds_toArray, List.set_cons_zero, List.set_cons_succ])
      refine wpAnyH_take (i := 6) (oi := ?oir1_6) (v := ?vr1_6) ?hir1_6 (by kernel_rfl) (by kernel_rfl) (by kernel_rfl) ?hQr1_6 (Or.inl ⟨?hwr1_6, ?hyr1_6⟩) (by assumption) ?restr1_6
      case hir1_6 => (simp only [List.getElem?_toArray, List.getElem?_cons_succ, List.getElem?_cons_zero]; rfl)
      case hwr1_6 => rfl
      case hyr1_6 => (intro w hSw; (try dsimp only at hSw); go_simp; (try with_reducible rfl))
      case hQr1_6 => exact fun _ _ _ h => h
      (try simp only [Act.put, List.setIfInBounds_toArray, List.set_cons_zero, List.set_cons_succ])
      refine wpAnyH_take (i := 7) (oi := ?oir1_7) (v := ?vr1_7) ?hir1_7 (by kernel_rfl) (by kernel_rfl) (by kernel_rfl) ?hQr1_7 (Or.inl ⟨?hwr1_7, ?hyr1_7⟩) (by assumption) ?restr1_7
      case hir1_7 => (simp only [List.getElem?_toArray, List.getElem?_cons_succ, List.getElem?_cons_zero]; rfl)
      case hwr1_7 => rfl
      case hyr1_7 => (intro w hSw; (try dsimp only at hSw); go_simp; (try with_reducible rfl))
      case hQr1_7 => exact fun _ _ _ h => h
      (try simp only [Act.put, List.setIfInBounds_toArray, List.set_cons_zero, List.set_cons_succ])
      refine wpAnyH_take (i := 8) (oi := ?oir1_8) (v := ?vr1_8) ?hir1_8 (by kernel_rfl) (by kernel_rfl) (by kernel_rfl) ?hQr1_8 (Or.inl ⟨?hwr1_8, ?hyr1_8⟩) (by assumption) ?restr1_8
      case hir1_8 => (simp only [List.getElem?_toArray, List.getElem?_cons_succ, List.getElem?_cons_zero]; rfl)
      case hwr1_8 => rfl
      case hyr1_8 => (intro w hSw; (try dsimp only at hSw); go_simp; (try with_reducible rfl))
      case hQr1_8 => exact fun _ _ _ h => h
      (try simp only [Act.put, List.setIfInBounds_toArray, List.set_cons_zero, List.set_cons_succ])
      refine wpAnyH_take (i := 10) (oi := ?oir1_10) (v := ?vr1_10) ?hir1_10 (by kernel_rfl) (by kernel_rfl) (by kernel_rfl) ?hQr1_10 (Or.inl ⟨?hwr1_10, ?hyr1_10⟩) (by assumption) ?restr1_10
      case hir1_10 => (simp only [List.getElem?_toArray, List.getElem?_cons_succ, List.getElem?_cons_zero]; rfl)
      case hwr1_10 => rfl
      case hyr1_10 => (intro w hSw; (try dsimp only at hSw); go_simp; (try with_reducible rfl))
      case hQr1_10 => exact fun _ _ _ h => h
      (try simp only [Act.put, List.setIfInBounds_toArray, List.set_cons_zero, List.set_cons_succ])
      refine wpAnyH_ready (rs := [9]) (by kernel_rfl) (by simp) ?_
      refine AllReadyH.cons rfl (fun K hK => ?_) AllReadyH.nil
      go_simp
      refine (HP.out A4 d4 _ (e4.nx hn6)).mono ?_
      rintro e w7 ⟨A7, d7, rfl, ho7, hnd7⟩
      have hn7 : Nx W5 w7 := hn6.trans hnd7
      refine hK.out _ _ (kp _ hn7) (fun hHeld => ?_)
      clear hK K
      (try simp only [Act.put, List.setIfInBounds_toArray, List.set_cons_zero, List.set_cons_succ])
      refine wpAnyH_ready (rs := [11]) (by kernel_rfl) (by simp) ?_
      refine AllReadyH.cons rfl (fun K hK => ?_) AllReadyH.nil
      go_simp
      refine (HE.out A7 A5 d7 d5 _ (ho7.intsAt) (i5.nx hn7)).mono ?_
      rintro e w8 ⟨rfl, hnd8⟩
      have hn8 : Nx W5 w8 := hn7.trans hnd8
      refine hK.out _ _ (kp _ hn8) (fun hHeld => ?_)
      clear hK K
      (try simp only [Act.put, List.setIfInBounds_toArray, List.set_cons_zero, List.set_cons_succ])
      refine wpAnyH_take (i := 12) (oi := ?oir1_12) (v := ?vr1_12) ?hir1_12 (by kernel_rfl) (by kernel_rfl) (by kernel_rfl) ?hQr1_12 (Or.inl ⟨?hwr1_12, ?hyr1_12⟩) (by assumption) ?restr1_12
      case hir1_12 => (simp only [List.getElem?_toArray, List.getElem?_cons_succ, List.getElem?_cons_zero]; rfl)
      case hwr1_12 => rfl
      case hyr1_12 => (intro w hSw; (try dsimp only at hSw); go_simp; (try with_reducible rfl))
      case hQr1_12 => exact fun _ _ _ h => h
      (try simp only [Act.put, List.setIfInBounds_toArray, List.set_cons_zero, List.set_cons_succ])
      refine wpAnyH_take (i := 13) (oi := ?oir1_13) (v := ?vr1_13) ?hir1_13 (by kernel_rfl) (by kernel_rfl) (by kernel_rfl) ?hQr1_13 (Or.inl ⟨?hwr1_13, ?hyr1_13⟩) (by assumption) ?restr1_13
      case hir1_13 => (simp only [List.getElem?_toArray, List.getElem?_cons_succ, List.getElem?_cons_zero]; rfl)
      case hwr1_13 => rfl
      case hyr1_13 => (intro w hSw; (try dsimp only at hSw); go_simp; (try with_reducible rfl))
      case hQr1_13 => exact fun _ _ _ h => h
      (try simp only [Act.put, List.setIfInBounds_toArray, List.set_cons_zero, List.set_cons_succ])
      refine wpAnyH_done (by kernel_rfl) ?_ _
      replace L := L.nx hn8
      replace L_0 := L.cell (j := 0) rfl
      replace L_1 := L.cell (j := 1) rfl
      replace L_2 := L.cell (j := 2) rfl
      replace L_3 := L.cell (j := 3) rfl
      replace L_z := L.lt
      replace K := K.nx hn8
      replace K_0 := K.cell (j := 0) rfl
      replace K_z := K.lt
      replace N := N.trans hn8
      replace i5 := i5.nx hn8
      have HN8 := Lib.hid (HN5.out.trans hn8)
      have hmk := Hmk.out
      have HL8 := Lib.hid L
      have HK8 := Lib.hid K
      clear kp hdr e4 f0 f1 z4 ho7 HO HP HE hnd hnd7 hnd8
      go_wp2
      generalize hX : World.alloc _ _ = X
      have nX : Nx w8 X := by subst hX; exact .alloc (.refl _) _
      have hXo : OwnI X w8.heap.size 3 (some ⟨w8.heap.size, 0, none⟩) n (List.replicate n 0) := own_madeL (by subst hX; exact heap_alloc_new _ _) (Nat.le_refl _) (by omega)
      replace L := L.nx nX
      replace L_0 := L.cell (j := 0) rfl
      replace L_1 := L.cell (j := 1) rfl
      replace L_2 := L.cell (j := 2) rfl
      replace L_3 := L.cell (j := 3) rfl
      replace L_z := L.lt
      replace K := K.nx nX
      replace K_0 := K.cell (j := 0) rfl
      replace K_z := K.lt
      replace N := N.trans nX
      clear hX hmk
      go_loopg [8, 65] n (fun gk _ i wr => ∃ j : Nat, j + gk = n ∧ i = .int .i64 j ∧ OwnI wr w8.heap.size 3 (some ⟨w8.heap.size, 0, none⟩) n (cnts n (ls.take j)) ∧ Nx w8 wr)
      case atStart => exact ⟨0, by omega, rfl, by rw [List.take_zero, cnts_nil]; exact hXo, nX⟩
      case round =>
        obtain ⟨j, hj, rfl, hown, hnr⟩ := hrel
        by_cases hlt2 : j < n
        · obtain ⟨hb0, hb1⟩ := Hb.out j hlt2
          have hjl : j < ls.length := by rw [Hpl2.out]; exact hlt2
          have hjx : ls[j]? = some (lk ls (j : Int)) := by simp [lk, hjl]
          generalize lk ls (j : Int) = xv at *
          obtain ⟨x, rfl⟩ := Int.eq_ofNat_of_zero_le hb0
          have hxn : x < n := by omega
          have hst := cnts_step (n := n) hjx hxn
          obtain ⟨bI, oI, hA5, zI, rI⟩ := (i5.nx hnr).rd hjx
          subst hA5
          have hcl := cnts_len n (ls.take j)
          have hxc : x < (cnts n (ls.take j)).length := by rw [hcl]; exact hxn
          have r1 := hown.cell hxc
          have hxv : (cnts n (ls.take j))[x] = (((ls.take j).count (x : Int) : Nat) : Int) := by
            have := cnts_get (L := ls.take j) hxn
            rw [List.getElem?_eq_getElem hxc] at this
            injection this
          rw [hxv] at r1
          have r3 := hown.free
          have hcnt : (ls.take j).count (x : Int) ≤ 16 := Nat.le_trans List.count_le_length (by rw [List.length_take]; omega)
          generalize (ls.take j).count (x : Int) = cn at *
          generalize cnts n (ls.take j) = cs at *
          have hnc : n = cs.length := hcl.symm
          have Hst := Lib.hid hst
          have Hown := Lib.hid hown
          have hz8 := hnr.size
          have HX := Lib.hid hXo
          clear hst hown hjx hjl hxv hb0 hb1 hXo hcl hnc i5 L K L_0 L_1 L_2 L_3 L_z K_0 K_z hxc
          go_wp2
          go_roundg (gk - 1)
          case measure => omega
          case rel => exact ⟨j + 1, by omega, by go_num, by rw [Hst.out]; exact Hown.out.set x _, hnr.setCell (by first | (simp; done) | (simp; omega)) _⟩
        · have hjn : ls.take j = ls := List.take_of_length_le (by rw [Hpl2.out]; omega)
          rw [hjn] at hown
          have L' := HL8.out.nx hnr
          have K' := HK8.out.nx hnr
          have hcl := cnts_len n ls
          have hnw : Nx w3 wr := HN8.out.trans hnr
          have hcf := containsFuncI_c 57 #[] #[.pointer (some ⟨w.heap.size, 0, none⟩), .pointer (some ⟨wo.heap.size, 0, none⟩)] (fun _ => false) (enters_of Try.func57 (by rfl) rfl) (some ⟨w8.heap.size, 0, none⟩) n (cnts n ls) wr hown.intsAt (by omega) (fun W x hx hW => by
            obtain ⟨i, hi⟩ := List.mem_iff_getElem?.1 hx
            have hin : i < n := by rw [← hcl]; exact (List.getElem?_eq_some_iff.1 hi).1
            rw [cnts_get hin] at hi
            injection hi with hi
            subst hi
            have hc1 : ls.count (i : Int) ≤ 1 ∨ k = 0 ∧ ls.count (i : Int) ≤ n := by
              by_cases hk0 : k = 0
              · exact .inr ⟨hk0, by rw [← Hpl2.out]; exact List.count_le_length⟩
              · exact .inl (Hon.out hk0 i)
            have := lvClos2_c n G A B m gc m c1 m c2 w.heap.size wo.heap.size k (ls.count (i : Int)) W (L'.nx hW) (K'.nx hW) (by omega) hc1
            simpa using this)
          rw [hcl, show (cnts n ls).any (fun _ => false) = false by simp] at hcf
          have Hcl := Lib.hid hcf
          clear hown hcl hcf L' K' L K L_0 L_1 L_2 L_3 L_z K_0 K_z i5 hXo hjn
          go_wp2_with fail
          refine Hcl.out.mono ?_
          rintro e w9 ⟨rfl, hn9⟩
          go_wp2
          go_roundg (gko - 1)
          case measure => omega
          case rel => exact ⟨k + 1, by omega, by go_num, hnw.trans hn9⟩
    · go_wp2
      go_ret
      exact RetV.bool rfl N
end Go.Proofs.Ytjchabeiaajgiaa
