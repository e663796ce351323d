/- FnGraphParts: the walk. -/
import Derived.Test.YticjoichmcegnaaQ7
import Derived.Deep.Cut
import Derived.Deep.RegionHeld3
namespace Go.Proofs.Yticjoichmcegnaa
open Go.RowKit set_option linter.unusedVariables false set_option linter.unusedSimpArgs false

set_option maxRecDepth 100000 in
set_option maxHeartbeats 8000000 in
theorem fnGraphParts_walk (w : World) (A : Option Addr) (n c : Nat) (hnc : n ≤ c) (hb : BytesAt w w.heap.size A n) :
    Calls Try.prog 3 #[.slice A n c] w (RetV (.bool true) w) := by
  by_cases hbig : (n : Int) > 1048576
  · go_enter Try.func3, Try.ntmps3
    go_wp2
    go_ret
    exact RetV.bool rfl (by repeat (first | exact Nx.refl _ | assumption | apply Nx.alloc | apply Nx.drew | apply Nx.drewN | (refine Nx.setCell ?_ (by first | (simp; done) | (simp; omega) | omega) _) | refine Nx.trans ?_ (by assumption)))
  · go_enter Try.func3, Try.ntmps3
    go_wp2_with fail
    refine (drawGraphValid_c A n c _ hnc hb).mono ?_
    rintro e w1 ⟨nn, B, d, es, rfl, h1, h2, h3, ho, N⟩
    have hg := ho.edgesAt
    have hcap := ho.cap
    clear ho hb
    generalize hv : decide (Valid nn es) = vb
    have HV := Lib.hid hv
    by_cases hok : vb = true ∧ 0 < es.length
    · obtain ⟨rfl, hpos⟩ := hok
      have hval : Valid nn es := by simpa using hv
      obtain ⟨m, u, v, x, y, T, I, hlen, he0, hem, hTl, hIl, vT, vI, hb0, hbm, oT, oI, aT, aI⟩ := parts_of hval hpos
      have Hb0 := Lib.hid hb0
      have Hbm := Lib.hid hbm
      have HT := Lib.hid oT
      have HI := Lib.hid oI
      have VT := Lib.hid (show decide (Valid nn T) = true by simpa using vT)
      have VI := Lib.hid (show decide (Valid nn I) = true by simpa using vI)
      have HTl := Lib.hid hTl
      have HIl := Lib.hid hIl
      obtain ⟨b, off, rfl, hbl, hc⟩ := hg hpos
      have a0 := hc 0 (by omega)
      have am := hc m (by omega)
      have q0 : es[0]'(by omega) = (u, v) := by
        have := List.getElem?_eq_getElem (show 0 < es.length by omega); rw [this] at he0; injection he0
      have qm : es[m]'(by omega) = (x, y) := by
        have := List.getElem?_eq_getElem (show m < es.length by omega); rw [this] at hem; injection hem
      rw [q0] at a0
      rw [qm] at am
      obtain ⟨a0, a1⟩ := a0
      obtain ⟨am0, am1⟩ := am
      simp only [Nat.zero_mul, Nat.add_zero] at a0 a1
      have AT := aT _ _ _ hg
      have AI := aI _ _ hg
      have sv := fun w hx => sVal_to nn (some ⟨b, off, none⟩) d es true HV.out w hx (by omega)
      have iv := fun w hx => iVal_to nn (some ⟨b, off, none⟩) d es true HV.out w hx (by omega)
      have c0 := fun w hx => iCut_to nn (some ⟨b, off, none⟩) d es T u v Hb0.out HT.out w hx (by omega)
      have cm := fun w hx => iCut_to nn (some ⟨b, off, none⟩) d es I x y Hbm.out HI.out w hx (by omega)
      have tv : ∀ A c w, EdgesAt w A T → Calls Try.prog 16 #[.agg #[V nn, .slice A m c]] w (RetV (.bool true) w) := fun A c w hx => by have h := iVal_to nn A c T true VT.out w hx (by omega); rw [hTl] at h; exact h
      have uv : ∀ A c w, EdgesAt w A I → Calls Try.prog 16 #[.agg #[V nn, .slice A m c]] w (RetV (.bool true) w) := fun A c w hx => by have h := iVal_to nn A c I true VI.out w hx (by omega); rw [hIl] at h; exact h
      have ts : ∀ A c A' c' w, EdgesAt w A T → EdgesAt w A' T → Calls Try.prog 19 #[.agg #[V nn, .slice A m c], .agg #[V nn, .slice A' m c']] w (RetV (.bool true) w) := fun A c A' c' w hx hy => by have h := same_yes nn A A' c c' T w hx hy (by omega); rw [hTl] at h; exact h
      have us : ∀ A c A' c' w, EdgesAt w A I → EdgesAt w A' I → Calls Try.prog 19 #[.agg #[V nn, .slice A m c], .agg #[V nn, .slice A' m c']] w (RetV (.bool true) w) := fun A c A' c' w hx hy => by have h := same_yes nn A A' c c' I w hx hy (by omega); rw [hIl] at h; exact h
      clear hval hv he0 hem vT vI hb0 hbm oT oI aT aI hc q0 qm
      have hwm : IntKind.i64.wrap (((m + 1 : Nat) : Int) - 1) = (m : Int) := by rw [IntKind.wrap_i64]; omega
      have hne0 : (((m + 1 : Nat) : Int) == 0) = false := by simp; omega
      generalize hM : m + 1 = M at *
      rw [hlen] at hcap sv iv c0 cm
      rw [hlen]
      have hmM : m < M := by omega
      have hM26 : M ≤ 26 := by omega
      have Hlen := Lib.hid hlen
      clear hpos h3 HTl HIl hlen
      go_wp2_with fail
      generalize hW2 : World.alloc _ _ = W2
      have gW2 : Nx w1 W2 := by subst hW2; exact (by repeat (first | exact Nx.refl _ | assumption | apply Nx.alloc | apply Nx.drew | apply Nx.drewN | (refine Nx.setCell ?_ (by first | (simp; done) | (simp; omega) | omega) _) | refine Nx.trans ?_ (by assumption)))
      have sW2 : W2.heap.size = w1.heap.size + 1 := by subst hW2; simp
      have G : Bx W2 (w1.heap.size) 25 [V nn, .slice (some ⟨b, off, none⟩) M d] := by subst hW2; have h := Bx.alloc w1 25 [V nn, .slice (some ⟨b, off, none⟩) M d]; simpa using h
      have G_0 := G.cell (j := 0) rfl
      have G_1 := G.cell (j := 1) rfl
      have G_z := G.lt
      have HsW2 := Lib.hid sW2
      have lW2 : w1.heap.size + 1 ≤ W2.heap.size := by omega
      clear hW2 sW2
      replace hg := hg.nx gW2
      replace AT := AT.nx gW2
      replace AI := AI.nx gW2
      replace N := N.trans gW2
      refine (iv _ hg).mono ?_
      rintro e w3 ⟨rfl, hn3⟩
      replace G := G.nx hn3
      replace G_0 := G.cell (j := 0) rfl
      replace G_1 := G.cell (j := 1) rfl
      replace G_z := G.lt
      replace hg := hg.nx hn3
      replace AT := AT.nx hn3
      replace AI := AI.nx hn3
      replace N := N.trans hn3
      go_wp2_with fail
      refine (sv _ hg).mono ?_
      rintro e w4 ⟨rfl, hn4⟩
      replace G := G.nx hn4
      replace G_0 := G.cell (j := 0) rfl
      replace G_1 := G.cell (j := 1) rfl
      replace G_z := G.lt
      replace hg := hg.nx hn4
      replace AT := AT.nx hn4
      replace AI := AI.nx hn4
      replace N := N.trans hn4
      have hn14 := (gW2.trans hn3).trans hn4
      have b0 := hn14.cell (p := ⟨b, off, none⟩) hbl a0
      have b1 := hn14.cell (p := ⟨b, off + 1, none⟩) hbl a1
      have b2 := hn14.cell (p := ⟨b, off + m * 2, none⟩) hbl am0
      have b3 := hn14.cell (p := ⟨b, off + m * 2 + 1, none⟩) hbl am1
      replace hbl : b < w4.heap.size := Nat.lt_of_lt_of_le hbl hn14.size
      clear a0 a1 am0 am1 hn14
      go_upto_region 8 with (fail)
      go_cut [6] from 12 (fun s6 wc => ∃ (b6 : Nat) (A6 : Option Addr) (d6 : Nat), s6 = .pointer (some ⟨b6, 0, none⟩) ∧ Nx w4 wc ∧ b6 < wc.heap.size ∧ wc.cell? ⟨b6, 0, none⟩ = some (V nn) ∧ wc.cell? ⟨b6, 1, none⟩ = some (.slice A6 m d6) ∧ EdgesAt wc A6 T)
      case first =>
        have kp : ∀ w', Nx w4 w' → (fun w_ => Nx w4 w_ ∧ w_.cell? ⟨w1.heap.size, 0, none⟩ = some (V nn) ∧ w_.cell? ⟨w1.heap.size, 1, none⟩ = some (.slice (some ⟨b, off, none⟩) M d)) w' := fun w' h => ⟨h, h.cell G_z G_0, h.cell G_z G_1⟩
        have hdd : (1 : Int) ≤ (d : Int) := by omega
        have hdm : (1 : Int) ≤ (M : Int) := by omega
        have hM1 : M - 1 = m := by omega
        by_cases hd1 : d = 1
        · go_region_held3 (fun w_ => Nx w4 w_ ∧ w_.cell? ⟨w1.heap.size, 0, none⟩ = some (V nn) ∧ w_.cell? ⟨w1.heap.size, 1, none⟩ = some (.slice (some ⟨b, off, none⟩) M d))
            (exact kp _ (by (repeat (first | exact Nx.refl _ | assumption | apply Nx.alloc | apply Nx.drew | apply Nx.drewN | (refine Nx.setCell ?_ (by first | (simp; done) | (simp; omega) | omega) _) | refine Nx.trans ?_ (by assumption))); done))
            (fail)
          all_goals go_wp2
          all_goals go_meet
          all_goals exact ⟨_, some ⟨b, off, none⟩, d - 1, rfl, (by (repeat (first | exact Nx.refl _ | assumption | apply Nx.alloc | apply Nx.drew | apply Nx.drewN | (refine Nx.setCell ?_ (by first | (simp; done) | (simp; omega) | omega) _) | refine Nx.trans ?_ (by assumption))); done), (by first | (simp; done) | omega | (simp; omega) | (simp [size_drew_, size_set_]; omega)), (by go_simp), (by go_simp), fun h0 => absurd h0 (by omega)⟩
        · go_region_held3 (fun w_ => Nx w4 w_ ∧ w_.cell? ⟨w1.heap.size, 0, none⟩ = some (V nn) ∧ w_.cell? ⟨w1.heap.size, 1, none⟩ = some (.slice (some ⟨b, off, none⟩) M d))
            (exact kp _ (by (repeat (first | exact Nx.refl _ | assumption | apply Nx.alloc | apply Nx.drew | apply Nx.drewN | (refine Nx.setCell ?_ (by first | (simp; done) | (simp; omega) | omega) _) | refine Nx.trans ?_ (by assumption))); done))
            (fail)
          all_goals go_wp2
          all_goals go_meet
          all_goals exact ⟨_, some ⟨b, off + 2, none⟩, d - 1, rfl, (by (repeat (first | exact Nx.refl _ | assumption | apply Nx.alloc | apply Nx.drew | apply Nx.drewN | (refine Nx.setCell ?_ (by first | (simp; done) | (simp; omega) | omega) _) | refine Nx.trans ?_ (by assumption))); done), (by first | (simp; done) | omega | (simp; omega) | (simp [size_drew_, size_set_]; omega)), (by go_simp), (by go_simp), AT.nx (by (repeat (first | exact Nx.refl _ | assumption | apply Nx.alloc | apply Nx.drew | apply Nx.drewN | (refine Nx.setCell ?_ (by first | (simp; done) | (simp; omega) | omega) _) | refine Nx.trans ?_ (by assumption))); done)⟩
      obtain ⟨b6, A6, d6, rfl, hnc6, hz6, f6, g6, AX6⟩ := hcut
      obtain ⟨v6, hv6⟩ : ∃ v, v = wc := ⟨_, rfl⟩
      subst hv6
      replace G := G.nx hnc6
      replace G_0 := G.cell (j := 0) rfl
      replace G_1 := G.cell (j := 1) rfl
      replace G_z := G.lt
      replace hg := hg.nx hnc6
      replace AT := AT.nx hnc6
      replace AI := AI.nx hnc6
      replace N := N.trans hnc6
      go_upto_region 9 with (fail)
      go_cut [7] from 12 (fun s7 wc => ∃ (b7 : Nat) (A7 : Option Addr) (d7 : Nat), s7 = .pointer (some ⟨b7, 0, none⟩) ∧ Nx v6 wc ∧ b7 < wc.heap.size ∧ wc.cell? ⟨b7, 0, none⟩ = some (V nn) ∧ wc.cell? ⟨b7, 1, none⟩ = some (.slice A7 m d7) ∧ EdgesAt wc A7 I)
      case first =>
        have hdm : (m : Int) ≤ (d : Int) := by omega
        have kp : ∀ w', Nx v6 w' → (fun w_ => Nx v6 w_ ∧ w_.cell? ⟨w1.heap.size, 0, none⟩ = some (V nn) ∧ w_.cell? ⟨w1.heap.size, 1, none⟩ = some (.slice (some ⟨b, off, none⟩) M d)) w' := fun w' h => ⟨h, h.cell G_z G_0, h.cell G_z G_1⟩
        go_region_held3 (fun w_ => Nx v6 w_ ∧ w_.cell? ⟨w1.heap.size, 0, none⟩ = some (V nn) ∧ w_.cell? ⟨w1.heap.size, 1, none⟩ = some (.slice (some ⟨b, off, none⟩) M d))
          (exact kp _ (by (repeat (first | exact Nx.refl _ | assumption | apply Nx.alloc | apply Nx.drew | apply Nx.drewN | (refine Nx.setCell ?_ (by first | (simp; done) | (simp; omega) | omega) _) | refine Nx.trans ?_ (by assumption))); done))
          (fail)
        all_goals go_wp2
        all_goals go_meet
        all_goals exact ⟨_, some ⟨b, off, none⟩, d, rfl, (by (repeat (first | exact Nx.refl _ | assumption | apply Nx.alloc | apply Nx.drew | apply Nx.drewN | (refine Nx.setCell ?_ (by first | (simp; done) | (simp; omega) | omega) _) | refine Nx.trans ?_ (by assumption))); done), (by first | (simp; done) | omega | (simp; omega) | (simp [size_drew_, size_set_]; omega)), (by go_simp), (by go_simp), AI.nx (by (repeat (first | exact Nx.refl _ | assumption | apply Nx.alloc | apply Nx.drew | apply Nx.drewN | (refine Nx.setCell ?_ (by first | (simp; done) | (simp; omega) | omega) _) | refine Nx.trans ?_ (by assumption))); done)⟩
      obtain ⟨b7, A7, d7, rfl, hnc7, hz7, f7, g7, AY⟩ := hcut
      obtain ⟨v7, hv7⟩ : ∃ v, v = wc := ⟨_, rfl⟩
      subst hv7
      replace G := G.nx hnc7
      replace G_0 := G.cell (j := 0) rfl
      replace G_1 := G.cell (j := 1) rfl
      replace G_z := G.lt
      replace hg := hg.nx hnc7
      replace AT := AT.nx hnc7
      replace AI := AI.nx hnc7
      replace AX6 := AX6.nx hnc7
      replace N := N.trans hnc7
      replace f6 := hnc7.cell hz6 f6
      replace g6 := hnc7.cell hz6 g6
      replace hz6 := Nat.lt_of_lt_of_le hz6 hnc7.size
      have hn47 := hnc6.trans hnc7
      replace b0 := hn47.cell (p := ⟨b, off, none⟩) hbl b0
      replace b1 := hn47.cell (p := ⟨b, off + 1, none⟩) hbl b1
      replace b2 := hn47.cell (p := ⟨b, off + m * 2, none⟩) hbl b2
      replace b3 := hn47.cell (p := ⟨b, off + m * 2 + 1, none⟩) hbl b3
      replace hbl := Nat.lt_of_lt_of_le hbl hn47.size
      clear hn47
      have hM0 : (0 : Int) < (M : Int) := by omega
      have hM0n : 0 < M := by omega
      have hM0e : ¬ M = 0 := by omega
      have hM0i : ¬ (M : Int) ≤ 0 := by omega
      have hmMi : (m : Int) < (M : Int) := by omega
      go_upto_region 10 with (fail)
      go_cut [8, 9] from 12 (fun s8 s9 wc => ∃ (b8 : Nat) (A8 : Option Addr) (d8 : Nat), s8 = .pointer (some ⟨b8, 0, none⟩) ∧ s9 = .bool true ∧ Nx v7 wc ∧ b8 < wc.heap.size ∧ wc.cell? ⟨b8, 0, none⟩ = some (V nn) ∧ wc.cell? ⟨b8, 1, none⟩ = some (.slice A8 m d8) ∧ EdgesAt wc A8 T)
      case first =>
        have kp : ∀ w', Nx v7 w' → (fun w_ => Nx v7 w_ ∧ w_.cell? ⟨w1.heap.size, 0, none⟩ = some (V nn) ∧ w_.cell? ⟨w1.heap.size, 1, none⟩ = some (.slice (some ⟨b, off, none⟩) M d) ∧ w_.cell? ⟨b, off, none⟩ = some (V u) ∧ w_.cell? ⟨b, off + 1, none⟩ = some (V v)) w' := fun w' h => ⟨h, h.cell G_z G_0, h.cell G_z G_1, h.cell (p := ⟨b, off, none⟩) hbl b0, h.cell (p := ⟨b, off + 1, none⟩) hbl b1⟩
        go_region_held3 (fun w_ => Nx v7 w_ ∧ w_.cell? ⟨w1.heap.size, 0, none⟩ = some (V nn) ∧ w_.cell? ⟨w1.heap.size, 1, none⟩ = some (.slice (some ⟨b, off, none⟩) M d) ∧ w_.cell? ⟨b, off, none⟩ = some (V u) ∧ w_.cell? ⟨b, off + 1, none⟩ = some (V v))
          (exact kp _ (by (repeat (first | exact Nx.refl _ | assumption | apply Nx.alloc | apply Nx.drew | apply Nx.drewN | (refine Nx.setCell ?_ (by first | (simp; done) | (simp; omega) | omega) _) | refine Nx.trans ?_ (by assumption))); done))
          (first | (go_at_call 18; (with_reducible refine (c0 _ (hg.nx (by (repeat (first | exact Nx.refl _ | assumption | apply Nx.alloc | apply Nx.drew | apply Nx.drewN | (refine Nx.setCell ?_ (by first | (simp; done) | (simp; omega) | omega) _) | refine Nx.trans ?_ (by assumption))); done))).mono ?_); rintro e w8 ⟨C8, d8, rfl, ho8, hn8⟩; have hs8 : v7.heap.size ≤ w8.heap.size := Nx.size (by exact (by (repeat (first | exact Nx.refl _ | assumption | apply Nx.alloc | apply Nx.drew | apply Nx.drewN | (refine Nx.setCell ?_ (by first | (simp; done) | (simp; omega) | omega) _) | refine Nx.trans ?_ (by assumption))); done)); obtain ⟨hc8, hf8, hz8⟩ := hn8.rules; (try simp [size_drew_] at hz8); (try (have hq8 : v7.heap.size < w8.heap.size := (by have h := hn8.size; first | omega | (simp [size_drew_] at h; omega))))))
        all_goals go_wp2
        all_goals go_meet
        all_goals exact ⟨_, C8, d8, rfl, rfl, (by (repeat (first | exact Nx.refl _ | assumption | apply Nx.alloc | apply Nx.drew | apply Nx.drewN | (refine Nx.setCell ?_ (by first | (simp; done) | (simp; omega) | omega) _) | refine Nx.trans ?_ (by assumption))); done), (by first | (simp; done) | omega | (simp; omega) | (simp [size_drew_, size_set_]; omega)), (by go_simp), (by go_simp), OwnE.edgesAt (base := v7.heap.size) (t := 31) (c := d8) (by have h4 := ho8.mono (base' := v7.heap.size) (Nx.size (by exact (by (repeat (first | exact Nx.refl _ | assumption | apply Nx.alloc | apply Nx.drew | apply Nx.drewN | (refine Nx.setCell ?_ (by first | (simp; done) | (simp; omega) | omega) _) | refine Nx.trans ?_ (by assumption))); done))); (repeat (refine OwnE.other ?_ (fun k hk e => by have h := ho8.lt k hk; first | omega | (simp at h; omega) | (simp [size_drew_, size_set_] at h; omega)) _ _)); exact h4.nx (by (repeat (first | exact Nx.refl _ | assumption | apply Nx.alloc | apply Nx.drew | apply Nx.drewN | (refine Nx.setCell ?_ (by first | (simp; done) | (simp; omega) | omega) _) | refine Nx.trans ?_ (by assumption))); done))⟩
      obtain ⟨b8, A8, d8, rfl, rfl, hnc8, hz8, f8, g8, AX8⟩ := hcut
      obtain ⟨v8, hv8⟩ : ∃ v, v = wc := ⟨_, rfl⟩
      subst hv8
      replace G := G.nx hnc8
      replace G_0 := G.cell (j := 0) rfl
      replace G_1 := G.cell (j := 1) rfl
      replace G_z := G.lt
      replace hg := hg.nx hnc8
      replace AX6 := AX6.nx hnc8
      replace AY := AY.nx hnc8
      replace N := N.trans hnc8
      replace f6 := hnc8.cell hz6 f6
      replace g6 := hnc8.cell hz6 g6
      replace hz6 := Nat.lt_of_lt_of_le hz6 hnc8.size
      replace f7 := hnc8.cell hz7 f7
      replace g7 := hnc8.cell hz7 g7
      replace hz7 := Nat.lt_of_lt_of_le hz7 hnc8.size
      replace b2 := hnc8.cell (p := ⟨b, off + m * 2, none⟩) hbl b2
      replace b3 := hnc8.cell (p := ⟨b, off + m * 2 + 1, none⟩) hbl b3
      replace hbl := Nat.lt_of_lt_of_le hbl hnc8.size
      go_upto_region 11 with (fail)
      go_cut [10, 11] from 12 (fun s8 s9 wc => ∃ (b8 : Nat) (A8 : Option Addr) (d8 : Nat), s8 = .pointer (some ⟨b8, 0, none⟩) ∧ s9 = .bool true ∧ Nx v8 wc ∧ b8 < wc.heap.size ∧ wc.cell? ⟨b8, 0, none⟩ = some (V nn) ∧ wc.cell? ⟨b8, 1, none⟩ = some (.slice A8 m d8) ∧ EdgesAt wc A8 I)
      case first =>
        have kp : ∀ w', Nx v8 w' → (fun w_ => Nx v8 w_ ∧ w_.cell? ⟨w1.heap.size, 0, none⟩ = some (V nn) ∧ w_.cell? ⟨w1.heap.size, 1, none⟩ = some (.slice (some ⟨b, off, none⟩) M d) ∧ w_.cell? ⟨b, off + m * 2, none⟩ = some (V x) ∧ w_.cell? ⟨b, off + m * 2 + 1, none⟩ = some (V y)) w' := fun w' h => ⟨h, h.cell G_z G_0, h.cell G_z G_1, h.cell (p := ⟨b, off + m * 2, none⟩) hbl b2, h.cell (p := ⟨b, off + m * 2 + 1, none⟩) hbl b3⟩
        go_region_held3 (fun w_ => Nx v8 w_ ∧ w_.cell? ⟨w1.heap.size, 0, none⟩ = some (V nn) ∧ w_.cell? ⟨w1.heap.size, 1, none⟩ = some (.slice (some ⟨b, off, none⟩) M d) ∧ w_.cell? ⟨b, off + m * 2, none⟩ = some (V x) ∧ w_.cell? ⟨b, off + m * 2 + 1, none⟩ = some (V y))
          (exact kp _ (by (repeat (first | exact Nx.refl _ | assumption | apply Nx.alloc | apply Nx.drew | apply Nx.drewN | (refine Nx.setCell ?_ (by first | (simp; done) | (simp; omega) | omega) _) | refine Nx.trans ?_ (by assumption))); done))
          (first | (go_at_call 18; (with_reducible refine (cm _ (hg.nx (by (repeat (first | exact Nx.refl _ | assumption | apply Nx.alloc | apply Nx.drew | apply Nx.drewN | (refine Nx.setCell ?_ (by first | (simp; done) | (simp; omega) | omega) _) | refine Nx.trans ?_ (by assumption))); done))).mono ?_); rintro e w9 ⟨C8, d8, rfl, ho8, hn8⟩; have hs8 : v8.heap.size ≤ w9.heap.size := Nx.size (by exact (by (repeat (first | exact Nx.refl _ | assumption | apply Nx.alloc | apply Nx.drew | apply Nx.drewN | (refine Nx.setCell ?_ (by first | (simp; done) | (simp; omega) | omega) _) | refine Nx.trans ?_ (by assumption))); done)); obtain ⟨hc8, hf8, hz8⟩ := hn8.rules; (try simp [size_drew_] at hz8); (try (have hq8 : v8.heap.size < w9.heap.size := (by have h := hn8.size; first | omega | (simp [size_drew_] at h; omega))))))
        all_goals go_wp2
        all_goals go_meet
        all_goals exact ⟨_, C8, d8, rfl, rfl, (by (repeat (first | exact Nx.refl _ | assumption | apply Nx.alloc | apply Nx.drew | apply Nx.drewN | (refine Nx.setCell ?_ (by first | (simp; done) | (simp; omega) | omega) _) | refine Nx.trans ?_ (by assumption))); done), (by first | (simp; done) | omega | (simp; omega) | (simp [size_drew_, size_set_]; omega)), (by go_simp), (by go_simp), OwnE.edgesAt (base := v8.heap.size) (t := 31) (c := d8) (by have h4 := ho8.mono (base' := v8.heap.size) (Nx.size (by exact (by (repeat (first | exact Nx.refl _ | assumption | apply Nx.alloc | apply Nx.drew | apply Nx.drewN | (refine Nx.setCell ?_ (by first | (simp; done) | (simp; omega) | omega) _) | refine Nx.trans ?_ (by assumption))); done))); (repeat (refine OwnE.other ?_ (fun k hk e => by have h := ho8.lt k hk; first | omega | (simp at h; omega) | (simp [size_drew_, size_set_] at h; omega)) _ _)); exact h4.nx (by (repeat (first | exact Nx.refl _ | assumption | apply Nx.alloc | apply Nx.drew | apply Nx.drewN | (refine Nx.setCell ?_ (by first | (simp; done) | (simp; omega) | omega) _) | refine Nx.trans ?_ (by assumption))); done))⟩
      obtain ⟨b10, A10, d10, rfl, rfl, hnc10, hz10, f10, g10, AX10⟩ := hcut
      obtain ⟨v9, hv10⟩ : ∃ v, v = wc := ⟨_, rfl⟩
      subst hv10
      replace G := G.nx hnc10
      replace G_0 := G.cell (j := 0) rfl
      replace G_1 := G.cell (j := 1) rfl
      replace G_z := G.lt
      replace hg := hg.nx hnc10
      replace AX6 := AX6.nx hnc10
      replace AY := AY.nx hnc10
      replace AX8 := AX8.nx hnc10
      replace N := N.trans hnc10
      replace f6 := hnc10.cell hz6 f6
      replace g6 := hnc10.cell hz6 g6
      replace hz6 := Nat.lt_of_lt_of_le hz6 hnc10.size
      replace f7 := hnc10.cell hz7 f7
      replace g7 := hnc10.cell hz7 g7
      replace hz7 := Nat.lt_of_lt_of_le hz7 hnc10.size
      replace f8 := hnc10.cell hz8 f8
      replace g8 := hnc10.cell hz8 g8
      replace hz8 := Nat.lt_of_lt_of_le hz8 hnc10.size
      go_wp2_with fail
      refine (tv A6 d6 _ AX6).mono ?_
      rintro e w20 ⟨rfl, hn20⟩
      replace AX6 := AX6.nx hn20
      replace AY := AY.nx hn20
      replace AX8 := AX8.nx hn20
      replace AX10 := AX10.nx hn20
      replace N := N.trans hn20
      replace f6 := hn20.cell hz6 f6
      replace g6 := hn20.cell hz6 g6
      replace hz6 := Nat.lt_of_lt_of_le hz6 hn20.size
      replace f7 := hn20.cell hz7 f7
      replace g7 := hn20.cell hz7 g7
      replace hz7 := Nat.lt_of_lt_of_le hz7 hn20.size
      replace f8 := hn20.cell hz8 f8
      replace g8 := hn20.cell hz8 g8
      replace hz8 := Nat.lt_of_lt_of_le hz8 hn20.size
      replace f10 := hn20.cell hz10 f10
      replace g10 := hn20.cell hz10 g10
      replace hz10 := Nat.lt_of_lt_of_le hz10 hn20.size
      go_wp2_with fail
      refine (uv A7 d7 _ AY).mono ?_
      rintro e w21 ⟨rfl, hn21⟩
      replace AX6 := AX6.nx hn21
      replace AY := AY.nx hn21
      replace AX8 := AX8.nx hn21
      replace AX10 := AX10.nx hn21
      replace N := N.trans hn21
      replace f6 := hn21.cell hz6 f6
      replace g6 := hn21.cell hz6 g6
      replace hz6 := Nat.lt_of_lt_of_le hz6 hn21.size
      replace f7 := hn21.cell hz7 f7
      replace g7 := hn21.cell hz7 g7
      replace hz7 := Nat.lt_of_lt_of_le hz7 hn21.size
      replace f8 := hn21.cell hz8 f8
      replace g8 := hn21.cell hz8 g8
      replace hz8 := Nat.lt_of_lt_of_le hz8 hn21.size
      replace f10 := hn21.cell hz10 f10
      replace g10 := hn21.cell hz10 g10
      replace hz10 := Nat.lt_of_lt_of_le hz10 hn21.size
      go_wp2_with fail
      refine (ts A6 d6 A8 d8 _ AX6 AX8).mono ?_
      rintro e w22 ⟨rfl, hn22⟩
      replace AX6 := AX6.nx hn22
      replace AY := AY.nx hn22
      replace AX8 := AX8.nx hn22
      replace AX10 := AX10.nx hn22
      replace N := N.trans hn22
      replace f6 := hn22.cell hz6 f6
      replace g6 := hn22.cell hz6 g6
      replace hz6 := Nat.lt_of_lt_of_le hz6 hn22.size
      replace f7 := hn22.cell hz7 f7
      replace g7 := hn22.cell hz7 g7
      replace hz7 := Nat.lt_of_lt_of_le hz7 hn22.size
      replace f8 := hn22.cell hz8 f8
      replace g8 := hn22.cell hz8 g8
      replace hz8 := Nat.lt_of_lt_of_le hz8 hn22.size
      replace f10 := hn22.cell hz10 f10
      replace g10 := hn22.cell hz10 g10
      replace hz10 := Nat.lt_of_lt_of_le hz10 hn22.size
      go_wp2_with fail
      refine (us A7 d7 A10 d10 _ AY AX10).mono ?_
      rintro e w23 ⟨rfl, hn23⟩
      replace N := N.trans hn23
      go_wp2
      go_ret
      exact RetV.bool rfl (by repeat (first | exact Nx.refl _ | assumption | apply Nx.alloc | apply Nx.drew | apply Nx.drewN | (refine Nx.setCell ?_ (by first | (simp; done) | (simp; omega) | omega) _) | refine Nx.trans ?_ (by assumption)))
    · have sv := fun w hx => sVal_to nn B d es vb HV.out w hx (by omega)
      have iv := fun w hx => iVal_to nn B d es vb HV.out w hx (by omega)
      have hcase : vb = false ∨ (vb = true ∧ es.length = 0) := by
        cases vb with
        | false => exact .inl rfl
        | true => exact .inr ⟨rfl, by rcases Nat.eq_zero_or_pos es.length with h | h; exact h; exact absurd ⟨rfl, h⟩ hok⟩
      clear hok hv
      rcases hcase with rfl | ⟨rfl, h0⟩
      · go_wp2_with fail
        generalize hW2 : World.alloc _ _ = W2
        have gW2 : Nx w1 W2 := by subst hW2; exact (by repeat (first | exact Nx.refl _ | assumption | apply Nx.alloc | apply Nx.drew | apply Nx.drewN | (refine Nx.setCell ?_ (by first | (simp; done) | (simp; omega) | omega) _) | refine Nx.trans ?_ (by assumption)))
        have sW2 : W2.heap.size = w1.heap.size + 1 := by subst hW2; simp
        have G : Bx W2 (w1.heap.size) 25 [V nn, .slice B es.length d] := by subst hW2; have h := Bx.alloc w1 25 [V nn, .slice B es.length d]; simpa using h
        have G_0 := G.cell (j := 0) rfl
        have G_1 := G.cell (j := 1) rfl
        have G_z := G.lt
        have HsW2 := Lib.hid sW2
        have lW2 : w1.heap.size + 1 ≤ W2.heap.size := by omega
        clear hW2 sW2
        replace hg := hg.nx gW2
        replace N := N.trans gW2
        refine (iv _ hg).mono ?_
        rintro e w3 ⟨rfl, hn3⟩
        replace G := G.nx hn3
        replace G_0 := G.cell (j := 0) rfl
        replace G_1 := G.cell (j := 1) rfl
        replace G_z := G.lt
        replace hg := hg.nx hn3
        replace N := N.trans hn3
        go_wp2_with fail
        refine (sv _ hg).mono ?_
        rintro e w4 ⟨rfl, hn4⟩
        replace G := G.nx hn4
        replace G_0 := G.cell (j := 0) rfl
        replace G_1 := G.cell (j := 1) rfl
        replace G_z := G.lt
        replace hg := hg.nx hn4
        replace N := N.trans hn4
        go_wp2_with fail
        refine (sv _ hg).mono ?_
        rintro e w5 ⟨rfl, hn5⟩
        replace G := G.nx hn5
        replace G_0 := G.cell (j := 0) rfl
        replace G_1 := G.cell (j := 1) rfl
        replace G_z := G.lt
        replace hg := hg.nx hn5
        replace N := N.trans hn5
        go_wp2
        go_ret
        exact RetV.bool rfl (by repeat (first | exact Nx.refl _ | assumption | apply Nx.alloc | apply Nx.drew | apply Nx.drewN | (refine Nx.setCell ?_ (by first | (simp; done) | (simp; omega) | omega) _) | refine Nx.trans ?_ (by assumption)))
      · rw [h0] at iv sv ⊢
        go_wp2_with fail
        generalize hW2 : World.alloc _ _ = W2
        have gW2 : Nx w1 W2 := by subst hW2; exact (by repeat (first | exact Nx.refl _ | assumption | apply Nx.alloc | apply Nx.drew | apply Nx.drewN | (refine Nx.setCell ?_ (by first | (simp; done) | (simp; omega) | omega) _) | refine Nx.trans ?_ (by assumption)))
        have sW2 : W2.heap.size = w1.heap.size + 1 := by subst hW2; simp
        have G : Bx W2 (w1.heap.size) 25 [V nn, .slice B 0 d] := by subst hW2; have h := Bx.alloc w1 25 [V nn, .slice B 0 d]; simpa using h
        have G_0 := G.cell (j := 0) rfl
        have G_1 := G.cell (j := 1) rfl
        have G_z := G.lt
        have HsW2 := Lib.hid sW2
        have lW2 : w1.heap.size + 1 ≤ W2.heap.size := by omega
        clear hW2 sW2
        replace hg := hg.nx gW2
        replace N := N.trans gW2
        refine (iv _ hg).mono ?_
        rintro e w3 ⟨rfl, hn3⟩
        replace G := G.nx hn3
        replace G_0 := G.cell (j := 0) rfl
        replace G_1 := G.cell (j := 1) rfl
        replace G_z := G.lt
        replace hg := hg.nx hn3
        replace N := N.trans hn3
        go_wp2_with fail
        refine (sv _ hg).mono ?_
        rintro e w4 ⟨rfl, hn4⟩
        replace G := G.nx hn4
        replace G_0 := G.cell (j := 0) rfl
        replace G_1 := G.cell (j := 1) rfl
        replace G_z := G.lt
        replace hg := hg.nx hn4
        replace N := N.trans hn4
        go_wp2_with fail
        refine (sv _ hg).mono ?_
        rintro e w5 ⟨rfl, hn5⟩
        replace G := G.nx hn5
        replace G_0 := G.cell (j := 0) rfl
        replace G_1 := G.cell (j := 1) rfl
        replace G_z := G.lt
        replace hg := hg.nx hn5
        replace N := N.trans hn5
        go_wp2
        go_ret
        exact RetV.bool rfl (by repeat (first | exact Nx.refl _ | assumption | apply Nx.alloc | apply Nx.drew | apply Nx.drewN | (refine Nx.setCell ?_ (by first | (simp; done) | (simp; omega) | omega) _) | refine Nx.trans ?_ (by assumption)))
end Go.Proofs.Yticjoichmcegnaa
