/- FnGraphText: the walk. -/
import Derived.Test.YtekepbcmjfdcjaaDoorPG9
import Derived.Test.YtekepbcmjfdcjaaDoorPG7
import Derived.Test.YtekepbcmjfdcjaaDoorG5
namespace Go.Proofs.YtekepbcmjfdcjaaDoor
open Go.RowKit set_option linter.unusedVariables false set_option linter.unusedSimpArgs false

theorem fmt_no {m : Int} {fs : Es} (h : ¬ Valid m fs) : fmtL m fs = [] := by simp [fmtL, h]
theorem fmt_len (m : Int) (fs : Es) : (fmtL m fs).length ≤ 300 := by
  by_cases h : Valid m fs
  · exact gtxt_len h
  · rw [fmt_no h]; simp
theorem PgIs.text {l : List UInt8} {n : Int} {es : Es} (h : PgIs l n es true) : fmtL n es = l := by
  rcases h with ⟨_, _, h⟩ | ⟨h, _⟩
  · exact h
  · cases h

set_option maxRecDepth 100000 in
set_option maxHeartbeats 8000000 in
theorem graphText_small (w : World) (A A2 : Option Addr) (n c n2 c2 : Nat) (hnc : n ≤ c) (hnc2 : n2 ≤ c2) (hn : ¬ (1048576 : Int) < n) (hn2 : ¬ (1048576 : Int) < n2) (hb : BytesAt w w.heap.size A n) (hb2 : BytesAt w w.heap.size A2 n2) (hV : Vars w) :
    Calls Tryd.prog 4 #[.slice A n c, .slice A2 n2 c2] w (RetV (.bool true) w) := by
  have hd1 : decide ((1048576 : Int) < (n : Int)) = false := decide_eq_false hn
  have hd2 : decide ((1048576 : Int) < (n2 : Int)) = false := decide_eq_false hn2
  have HV := Lib.hid hV
  have Hb2 := Lib.hid hb2
  have Hd2 := Lib.hid (fun w h => drawParseGraph_c A2 n2 c2 w hnc2 h)
  clear hV hb2
  go_enter Tryd.func4, Tryd.ntmps4
  go_wp2_with fail
  refine (drawFormatGraph_c A n c w hnc hb).mono ?_
  rintro e w1 ⟨nn, B, d, es, rfl, h1, h2, h3, oB, N⟩
  clear hb hn hn2
  obtain ⟨np, ep, b0, hp0, hvb, hsm⟩ : ∃ np ep b0, PgIs (fmtL nn es) np ep b0 ∧ decide (Valid nn es) = b0 ∧ (b0 = true → np = nn ∧ ep = es) := by
    by_cases hv : Valid nn es
    · exact ⟨nn, es, true, .inl ⟨rfl, hv, rfl⟩, by simpa using hv, fun _ => ⟨rfl, rfl⟩⟩
    · exact ⟨0, [], false, .inr ⟨rfl, rfl, rfl, fun m fs h => by rw [fmt_no hv]; exact fmt_pos h⟩, by simpa using hv, fun h => by cases h⟩
  have hel := hp0.len
  have hfl := fmt_len nn es
  have Hif := Lib.hid (fun w h => iFormatGraph_c nn B d es w h (by omega))
  have Hsf := Lib.hid (fun w h => sFormatGraph_c nn B d es w h (by omega))
  have Hiv := Lib.hid (fun w h => hvb ▸ iGraphValid_c nn B d es w h (by omega))
  have Hsv := Lib.hid (fun w h => hvb ▸ sGraphValid_c nn B d es w h (by omega))
  have Hp := Lib.hid (fun w h => iParse_c hp0 (by omega) w h)
  have Hsm : Hid ((b0 = true) → ∀ A' c' w, EdgesAt w A' ep → EdgesAt w B es → Calls Tryd.prog 15 #[.agg #[V np, .slice A' ep.length c'], .agg #[V nn, .slice B es.length d]] w (RetV (.bool true) w)) := Lib.hid (fun h0 A' c' w h h' => by
    obtain ⟨rfl, rfl⟩ := hsm h0
    have := iGraphSame_c np np A' B c' d ep ep w h h' (by omega) (by omega)
    simpa using this)
  clear hvb hsm hp0
  generalize fmtL nn es = S at *
  unfold RetPg at Hp
  have hSS : (S == S) = true := by simp
  have HoB := Lib.hid oB.edgesAt
  clear oB hfl h3
  obtain ⟨k1, hk1⟩ : ∃ x, es.length = x := ⟨_, rfl⟩
  obtain ⟨k2, hk2⟩ : ∃ x, ep.length = x := ⟨_, rfl⟩
  simp only [hk1, hk2] at Hif Hsf Hiv Hsv Hp Hsm hel ⊢
  clear hk1 hk2
  have M : Nx w1 w1 := .refl _
  go_wp2_with fail
  generalize hW2 : World.alloc _ _ = W2
  have gW2 : Nx w1 W2 := by subst hW2; exact (by repeat (first | exact Nx.refl _ | assumption | apply Nx.alloc | apply Nx.drew | apply Nx.drewN | (refine Nx.setCell ?_ (by first | (simp; done) | (simp; omega) | omega) _) | refine Nx.trans ?_ (by assumption)))
  have sW2 : W2.heap.size = w1.heap.size + 1 := by subst hW2; simp
  have X : Bx W2 (w1.heap.size) 24 [V nn, .slice B k1 d] := by subst hW2; have h := Bx.alloc w1 24 [V nn, .slice B k1 d]; simpa using h
  have X_0 := X.cell (j := 0) rfl
  have X_1 := X.cell (j := 1) rfl
  have X_z := X.lt
  have HsW2 := Lib.hid sW2
  have lW2 : w1.heap.size + 1 ≤ W2.heap.size := by omega
  clear hW2 sW2
  replace N := N.trans gW2
  replace M := M.trans gW2
  refine (Hif.out _ (HoB.out.nx M)).mono ?_
  rintro e w3 ⟨rfl, hn3⟩
  replace X := X.nx hn3
  replace X_0 := X.cell (j := 0) rfl
  replace X_1 := X.cell (j := 1) rfl
  replace X_z := X.lt
  replace N := N.trans hn3
  replace M := M.trans hn3
  go_wp2_with fail
  refine (Hp.out _ (HV.out.nx N)).mono ?_
  rintro e w4 ⟨G, g, rfl, oG, hn4⟩
  replace X := X.nx hn4
  replace X_0 := X.cell (j := 0) rfl
  replace X_1 := X.cell (j := 1) rfl
  replace X_z := X.lt
  replace N := N.trans hn4
  replace M := M.trans hn4
  go_wp2_with fail
  generalize hW5 : World.alloc _ _ = W5
  have gW5 : Nx w4 W5 := by subst hW5; exact (by repeat (first | exact Nx.refl _ | assumption | apply Nx.alloc | apply Nx.drew | apply Nx.drewN | (refine Nx.setCell ?_ (by first | (simp; done) | (simp; omega) | omega) _) | refine Nx.trans ?_ (by assumption)))
  have sW5 : W5.heap.size = w4.heap.size + 1 := by subst hW5; simp
  have Y : Bx W5 (w4.heap.size) 24 [V np, .slice G k2 g] := by subst hW5; have h := Bx.alloc w4 24 [V np, .slice G k2 g]; simpa using h
  have Y_0 := Y.cell (j := 0) rfl
  have Y_1 := Y.cell (j := 1) rfl
  have Y_z := Y.lt
  have HsW5 := Lib.hid sW5
  have lW5 : w4.heap.size + 1 ≤ W5.heap.size := by omega
  clear hW5 sW5
  replace X := X.nx gW5
  replace X_0 := X.cell (j := 0) rfl
  replace X_1 := X.cell (j := 1) rfl
  replace X_z := X.lt
  replace oG := oG.nx gW5
  replace N := N.trans gW5
  replace M := M.trans gW5
  refine (Hiv.out _ (HoB.out.nx M)).mono ?_
  rintro e w6 ⟨rfl, hn6⟩
  replace X := X.nx hn6
  replace X_0 := X.cell (j := 0) rfl
  replace X_1 := X.cell (j := 1) rfl
  replace X_z := X.lt
  replace Y := Y.nx hn6
  replace Y_0 := Y.cell (j := 0) rfl
  replace Y_1 := Y.cell (j := 1) rfl
  replace Y_z := Y.lt
  replace oG := oG.nx hn6
  replace N := N.trans hn6
  replace M := M.trans hn6
  go_wp2_with fail
  refine (Hsf.out _ (HoB.out.nx M)).mono ?_
  rintro e w7 ⟨rfl, hn7⟩
  replace X := X.nx hn7
  replace X_0 := X.cell (j := 0) rfl
  replace X_1 := X.cell (j := 1) rfl
  replace X_z := X.lt
  replace Y := Y.nx hn7
  replace Y_0 := Y.cell (j := 0) rfl
  replace Y_1 := Y.cell (j := 1) rfl
  replace Y_z := Y.lt
  replace oG := oG.nx hn7
  replace N := N.trans hn7
  replace M := M.trans hn7
  go_wp2_with fail
  refine (Hsv.out _ (HoB.out.nx M)).mono ?_
  rintro e w8 ⟨rfl, hn8⟩
  replace X := X.nx hn8
  replace X_0 := X.cell (j := 0) rfl
  replace X_1 := X.cell (j := 1) rfl
  replace X_z := X.lt
  replace Y := Y.nx hn8
  replace Y_0 := Y.cell (j := 0) rfl
  replace Y_1 := Y.cell (j := 1) rfl
  replace Y_z := Y.lt
  replace oG := oG.nx hn8
  replace N := N.trans hn8
  replace M := M.trans hn8
  have HoG := Lib.hid oG.edgesAt
  clear oG
  cases b0
  · go_wp2_with fail
    refine (Hd2.out _ (Hb2.out.nx N N.size)).mono ?_
    rintro e w10 ⟨T, rfl, hT, hn10⟩
    replace N := N.trans hn10
    clear M HoB HoG Hif Hsf Hiv Hsv Hp Hsm X X_0 X_1 X_z Y Y_0 Y_1 Y_z hn10 hSS
    obtain ⟨m', fs, b', hp'⟩ := pg_ex T
    have hel' := hp'.len
    have Hq := Lib.hid (fun w h => iParse_c hp' (by omega) w h)
    have Hr := Lib.hid (fun w => sParse_c hp' (by omega) w)
    have Hs2 := Lib.hid (fun F K f q w h h' => (show Calls Tryd.prog 15 #[.agg #[V m', .slice F fs.length f], .agg #[V m', .slice K fs.length q]] w (RetV (.bool true) w) by
      have := iGraphSame_c m' m' F K f q fs fs w h h' (by omega) (by omega)
      simpa using this))
    have Hft : Hid (b' = true → ∀ F f w, EdgesAt w F fs → Calls Tryd.prog 11 #[.agg #[V m', .slice F fs.length f]] w (RetV (Str T) w)) := Lib.hid (fun h0 F f w h => by
      subst h0
      have := iFormatGraph_c m' F f fs w h (by omega)
      rwa [hp'.text] at this)
    clear hp' hT
    unfold RetPg at Hq Hr
    have hTT : (T == T) = true := by simp
    have hbb : (b' == b') = true := by simp
    obtain ⟨k3, hk3⟩ : ∃ x, fs.length = x := ⟨_, rfl⟩
    simp only [hk3] at Hq Hr Hs2 Hft hel' ⊢
    clear hk3
    go_wp2_with fail
    refine (Hq.out _ (HV.out.nx N)).mono ?_
    rintro e w11 ⟨F, f, rfl, oF, hn11⟩
    replace N := N.trans hn11
    go_wp2_with fail
    generalize hW12 : World.alloc _ _ = W12
    have gW12 : Nx w11 W12 := by subst hW12; exact (by repeat (first | exact Nx.refl _ | assumption | apply Nx.alloc | apply Nx.drew | apply Nx.drewN | (refine Nx.setCell ?_ (by first | (simp; done) | (simp; omega) | omega) _) | refine Nx.trans ?_ (by assumption)))
    have sW12 : W12.heap.size = w11.heap.size + 1 := by subst hW12; simp
    have P : Bx W12 (w11.heap.size) 24 [V m', .slice F k3 f] := by subst hW12; have h := Bx.alloc w11 24 [V m', .slice F k3 f]; simpa using h
    have P_0 := P.cell (j := 0) rfl
    have P_1 := P.cell (j := 1) rfl
    have P_z := P.lt
    have HsW12 := Lib.hid sW12
    have lW12 : w11.heap.size + 1 ≤ W12.heap.size := by omega
    clear hW12 sW12
    replace oF := oF.nx gW12
    replace N := N.trans gW12
    refine (Hr.out _).mono ?_
    rintro e w13 ⟨K, q, rfl, oK, hn13⟩
    replace P := P.nx hn13
    replace P_0 := P.cell (j := 0) rfl
    replace P_1 := P.cell (j := 1) rfl
    replace P_z := P.lt
    replace oF := oF.nx hn13
    replace N := N.trans hn13
    go_wp2_with fail
    generalize hW14 : World.alloc _ _ = W14
    have gW14 : Nx w13 W14 := by subst hW14; exact (by repeat (first | exact Nx.refl _ | assumption | apply Nx.alloc | apply Nx.drew | apply Nx.drewN | (refine Nx.setCell ?_ (by first | (simp; done) | (simp; omega) | omega) _) | refine Nx.trans ?_ (by assumption)))
    have sW14 : W14.heap.size = w13.heap.size + 1 := by subst hW14; simp
    have Q : Bx W14 (w13.heap.size) 24 [V m', .slice K k3 q] := by subst hW14; have h := Bx.alloc w13 24 [V m', .slice K k3 q]; simpa using h
    have Q_0 := Q.cell (j := 0) rfl
    have Q_1 := Q.cell (j := 1) rfl
    have Q_z := Q.lt
    have HsW14 := Lib.hid sW14
    have lW14 : w13.heap.size + 1 ≤ W14.heap.size := by omega
    clear hW14 sW14
    replace P := P.nx gW14
    replace P_0 := P.cell (j := 0) rfl
    replace P_1 := P.cell (j := 1) rfl
    replace P_z := P.lt
    replace oF := oF.nx gW14
    replace oK := oK.nx gW14
    replace N := N.trans gW14
    refine (Hs2.out F K f q _ oF.edgesAt oK.edgesAt).mono ?_
    rintro e w15 ⟨rfl, hn15⟩
    replace P := P.nx hn15
    replace P_0 := P.cell (j := 0) rfl
    replace P_1 := P.cell (j := 1) rfl
    replace P_z := P.lt
    replace oF := oF.nx hn15
    replace N := N.trans hn15
    cases b'
    · go_wp2
      go_ret
      exact RetV.bool rfl N
    · go_wp2_with fail
      refine (Hft.out trivial F f _ oF.edgesAt).mono ?_
      rintro e w16 ⟨rfl, hn16⟩
      replace P := P.nx hn16
      replace P_0 := P.cell (j := 0) rfl
      replace P_1 := P.cell (j := 1) rfl
      replace P_z := P.lt
      replace N := N.trans hn16
      go_wp2
      go_ret
      exact RetV.bool rfl N
  · go_wp2_with fail
    refine (Hsm.out trivial G g _ (HoG.out) (HoB.out.nx M)).mono ?_
    rintro e w9 ⟨rfl, hn9⟩
    replace X := X.nx hn9
    replace X_0 := X.cell (j := 0) rfl
    replace X_1 := X.cell (j := 1) rfl
    replace X_z := X.lt
    replace Y := Y.nx hn9
    replace Y_0 := Y.cell (j := 0) rfl
    replace Y_1 := Y.cell (j := 1) rfl
    replace Y_z := Y.lt
    replace N := N.trans hn9
    go_wp2_with fail
    refine (Hd2.out _ (Hb2.out.nx N N.size)).mono ?_
    rintro e w10 ⟨T, rfl, hT, hn10⟩
    replace N := N.trans hn10
    clear M HoB HoG Hif Hsf Hiv Hsv Hp Hsm X X_0 X_1 X_z Y Y_0 Y_1 Y_z hn10 hSS
    obtain ⟨m', fs, b', hp'⟩ := pg_ex T
    have hel' := hp'.len
    have Hq := Lib.hid (fun w h => iParse_c hp' (by omega) w h)
    have Hr := Lib.hid (fun w => sParse_c hp' (by omega) w)
    have Hs2 := Lib.hid (fun F K f q w h h' => (show Calls Tryd.prog 15 #[.agg #[V m', .slice F fs.length f], .agg #[V m', .slice K fs.length q]] w (RetV (.bool true) w) by
      have := iGraphSame_c m' m' F K f q fs fs w h h' (by omega) (by omega)
      simpa using this))
    have Hft : Hid (b' = true → ∀ F f w, EdgesAt w F fs → Calls Tryd.prog 11 #[.agg #[V m', .slice F fs.length f]] w (RetV (Str T) w)) := Lib.hid (fun h0 F f w h => by
      subst h0
      have := iFormatGraph_c m' F f fs w h (by omega)
      rwa [hp'.text] at this)
    clear hp' hT
    unfold RetPg at Hq Hr
    have hTT : (T == T) = true := by simp
    have hbb : (b' == b') = true := by simp
    obtain ⟨k3, hk3⟩ : ∃ x, fs.length = x := ⟨_, rfl⟩
    simp only [hk3] at Hq Hr Hs2 Hft hel' ⊢
    clear hk3
    go_wp2_with fail
    refine (Hq.out _ (HV.out.nx N)).mono ?_
    rintro e w11 ⟨F, f, rfl, oF, hn11⟩
    replace N := N.trans hn11
    go_wp2_with fail
    generalize hW12 : World.alloc _ _ = W12
    have gW12 : Nx w11 W12 := by subst hW12; exact (by repeat (first | exact Nx.refl _ | assumption | apply Nx.alloc | apply Nx.drew | apply Nx.drewN | (refine Nx.setCell ?_ (by first | (simp; done) | (simp; omega) | omega) _) | refine Nx.trans ?_ (by assumption)))
    have sW12 : W12.heap.size = w11.heap.size + 1 := by subst hW12; simp
    have P : Bx W12 (w11.heap.size) 24 [V m', .slice F k3 f] := by subst hW12; have h := Bx.alloc w11 24 [V m', .slice F k3 f]; simpa using h
    have P_0 := P.cell (j := 0) rfl
    have P_1 := P.cell (j := 1) rfl
    have P_z := P.lt
    have HsW12 := Lib.hid sW12
    have lW12 : w11.heap.size + 1 ≤ W12.heap.size := by omega
    clear hW12 sW12
    replace oF := oF.nx gW12
    replace N := N.trans gW12
    refine (Hr.out _).mono ?_
    rintro e w13 ⟨K, q, rfl, oK, hn13⟩
    replace P := P.nx hn13
    replace P_0 := P.cell (j := 0) rfl
    replace P_1 := P.cell (j := 1) rfl
    replace P_z := P.lt
    replace oF := oF.nx hn13
    replace N := N.trans hn13
    go_wp2_with fail
    generalize hW14 : World.alloc _ _ = W14
    have gW14 : Nx w13 W14 := by subst hW14; exact (by repeat (first | exact Nx.refl _ | assumption | apply Nx.alloc | apply Nx.drew | apply Nx.drewN | (refine Nx.setCell ?_ (by first | (simp; done) | (simp; omega) | omega) _) | refine Nx.trans ?_ (by assumption)))
    have sW14 : W14.heap.size = w13.heap.size + 1 := by subst hW14; simp
    have Q : Bx W14 (w13.heap.size) 24 [V m', .slice K k3 q] := by subst hW14; have h := Bx.alloc w13 24 [V m', .slice K k3 q]; simpa using h
    have Q_0 := Q.cell (j := 0) rfl
    have Q_1 := Q.cell (j := 1) rfl
    have Q_z := Q.lt
    have HsW14 := Lib.hid sW14
    have lW14 : w13.heap.size + 1 ≤ W14.heap.size := by omega
    clear hW14 sW14
    replace P := P.nx gW14
    replace P_0 := P.cell (j := 0) rfl
    replace P_1 := P.cell (j := 1) rfl
    replace P_z := P.lt
    replace oF := oF.nx gW14
    replace oK := oK.nx gW14
    replace N := N.trans gW14
    refine (Hs2.out F K f q _ oF.edgesAt oK.edgesAt).mono ?_
    rintro e w15 ⟨rfl, hn15⟩
    replace P := P.nx hn15
    replace P_0 := P.cell (j := 0) rfl
    replace P_1 := P.cell (j := 1) rfl
    replace P_z := P.lt
    replace oF := oF.nx hn15
    replace N := N.trans hn15
    cases b'
    · go_wp2
      go_ret
      exact RetV.bool rfl N
    · go_wp2_with fail
      refine (Hft.out trivial F f _ oF.edgesAt).mono ?_
      rintro e w16 ⟨rfl, hn16⟩
      replace P := P.nx hn16
      replace P_0 := P.cell (j := 0) rfl
      replace P_1 := P.cell (j := 1) rfl
      replace P_z := P.lt
      replace N := N.trans hn16
      go_wp2
      go_ret
      exact RetV.bool rfl N

theorem fnGraphText_walk (w : World) (A A2 : Option Addr) (n c n2 c2 : Nat) (hnc : n ≤ c) (hnc2 : n2 ≤ c2) (hb : BytesAt w w.heap.size A n) (hb2 : BytesAt w w.heap.size A2 n2) (hV : Vars w) :
    Calls Tryd.prog 4 #[.slice A n c, .slice A2 n2 c2] w (RetV (.bool true) w) := by
  by_cases h1 : (1048576 : Int) < n
  · have hd1 : decide ((1048576 : Int) < (n : Int)) = true := decide_eq_true h1
    go_enter Tryd.func4, Tryd.ntmps4
    go_wp2
    go_ret
    exact RetV.bool rfl (by repeat (first | exact Nx.refl _ | assumption | apply Nx.alloc | apply Nx.drew | apply Nx.drewN | (refine Nx.setCell ?_ (by first | (simp; done) | (simp; omega) | omega) _) | refine Nx.trans ?_ (by assumption)))
  · by_cases h2 : (1048576 : Int) < n2
    · have hd1 : decide ((1048576 : Int) < (n : Int)) = false := decide_eq_false h1
      have hd2 : decide ((1048576 : Int) < (n2 : Int)) = true := decide_eq_true h2
      go_enter Tryd.func4, Tryd.ntmps4
      go_wp2
      go_ret
      exact RetV.bool rfl (by repeat (first | exact Nx.refl _ | assumption | apply Nx.alloc | apply Nx.drew | apply Nx.drewN | (refine Nx.setCell ?_ (by first | (simp; done) | (simp; omega) | omega) _) | refine Nx.trans ?_ (by assumption)))
    · exact graphText_small w A A2 n c n2 c2 hnc hnc2 h1 h2 hb hb2 hV
end Go.Proofs.YtekepbcmjfdcjaaDoor
