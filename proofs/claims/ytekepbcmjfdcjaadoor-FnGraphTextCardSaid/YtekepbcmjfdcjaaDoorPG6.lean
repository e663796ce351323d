/- Contract: ParseGraph of the program. -/
import Derived.Test.YtekepbcmjfdcjaaDoorPG5
namespace Go.Proofs.YtekepbcmjfdcjaaDoor
open Go.RowKit set_option linter.unusedVariables false set_option linter.unusedSimpArgs false
open Go.Lib (decDigits)

theorem splitK_ne (sep : List UInt8) (k : Nat) (s : List UInt8) : Lib.splitK sep 0 k s ≠ [] := by
  cases k with
  | zero => simp [Lib.splitK]
  | succ k => rw [Lib.splitK]; split <;> simp
theorem splitK_mem (sep : List UInt8) : ∀ (k : Nat) (s p : List UInt8), p ∈ Lib.splitK sep 0 k s → p.length ≤ s.length
  | 0, s, p, h => by simp [Lib.splitK] at h; rw [h]; exact Nat.le_refl _
  | k + 1, s, p, h => by
    rw [Lib.splitK] at h
    split at h
    · simp at h; rw [h]; exact Nat.le_refl _
    · rcases List.mem_cons.1 h with rfl | h
      · exact List.length_take_le' _ _
      · exact Nat.le_trans (splitK_mem sep k _ p h) (by simp)
theorem splitK_len (sep : List UInt8) : ∀ (k : Nat) (s : List UInt8), (Lib.splitK sep 0 k s).length ≤ k + 1
  | 0, s => by simp [Lib.splitK]
  | k + 1, s => by
    rw [Lib.splitK]
    split
    · simp
    · have := splitK_len sep k (s.drop ((Lib.index s sep).toNat + sep.length)); simp; omega
theorem cut_mem (l sep : List UInt8) : (Lib.cut l sep).1.length ≤ l.length ∧ (Lib.cut l sep).2.1.length ≤ l.length := by
  unfold Lib.cut
  split
  · exact ⟨by simp only [List.length_take]; omega, by simp⟩
  · simp
theorem pieces_len (l : List UInt8) : (piecesL l).length ≤ 42 := by
  unfold piecesL
  have := splitK_len [32] (min 42 (l.length + 1) - 1) l
  omega
theorem atoi_yes {u : Nat} (h : u < 17) (w : World) (hv : Vars w) : Calls Tryd.prog 21 #[Str (decDigits u)] w (RetV (.tuple #[V u, .nilIface]) w) := by
  refine (atoi_c (decDigits u) w hv (by have := (dec_len (u := u) (by omega)).2; omega)).mono ?_
  rintro e w' ⟨v, er, rfl, hr, hn⟩
  have ha := atoi_small h
  rcases hr with ⟨rfl, h1⟩ | ⟨_, h1⟩
  · rw [ha] at h1
    injection h1 with h1
    subst h1
    exact ⟨rfl, hn⟩
  · exact absurd ha (h1 _)
theorem cut_yes {u v : Nat} (hu : u < 17) (hvv : v < 17) (w : World) (hv : Vars w) : Calls Tryd.prog 22 #[Str (dashT (u, v)), Str [45]] w (fun e w' => ∃ f, e = .returned (.tuple #[Str (decDigits u), Str (decDigits v), .bool f]) ∧ Nx w w') := by
  have h := cut_c (dashT (u, v)) w hv (by have := dash_len hu hvv; omega)
  have hc := cut_dash (e := ((u : Int), (v : Int))) ⟨by simp, by simp; omega, by simp, by simp; omega⟩
  rw [hc.1, hc.2.1] at h
  exact h

set_option maxRecDepth 100000 in
set_option maxHeartbeats 8000000 in
theorem iParse_yes (m : Nat) (es : Es) (hv : Valid m es) (w : World) (hV : Vars w) :
    Calls Tryd.prog 6 #[Str (fmtL m es)] w (RetPg m es true w) := by
  have h1 := hv.1
  have h16 := hv.2.1
  have h40 := hv.2.2.1
  have hf : fmtL m es = gTxt m es := by unfold fmtL; rw [if_pos hv]; simp
  have hp := (piecesL_g (n := m) (by omega) (Sm.of hv) h40).1
  rw [← hf] at hp
  have hl := gtxt_len hv
  have hlne : (fmtL m es == []) = false := by simpa using fmt_pos hv
  have hlne2 : fmtL m es ≠ [] := fmt_pos hv
  have Hcut := Lib.hid (fun w h => (show Calls Tryd.prog 20 #[Str (fmtL m es), Str [32], V 42] w (RetSc (decDigits m :: es.map dashT) w) from hp ▸ splitN_c (fmtL m es) w h (by omega)))
  have Hnum := Lib.hid (fun w h => atoi_yes (u := m) (by omega) w h)
  have Hat := Lib.hid (fun u (hu : u < 17) w h => atoi_yes hu w h)
  have Hsm := Lib.hid (fun e he => val_small hv e he)
  have Hfm := Lib.hid (fun A c w h => iFormatGraph_c m A c es w h (by omega))
  generalize fmtL m es = l at *
  obtain ⟨i0, hi, hz0, hz1, hz2⟩ := info_parts infoE
  have Hi := Lib.hid hi
  have Hz0 := Lib.hid hz0
  have Hz1 := Lib.hid hz1
  have Hz2 := Lib.hid hz2
  obtain ⟨np, hnp⟩ : ∃ x, (decDigits m :: es.map dashT).length = x := ⟨_, rfl⟩
  have hnp2 : np = es.length + 1 := by rw [← hnp]; simp
  unfold RetSc at Hcut
  simp only [hnp] at Hcut
  clear hi hz0 hz1 hz2 hv hf hp hnp
  have HV := Lib.hid hV
  clear hV
  go_enter Tryd.func6, Tryd.ntmps6
  go_wp2_with fail
  generalize hW1 : World.alloc _ _ = W1
  have gW1 : Nx w W1 := by subst hW1; exact (by repeat (first | exact Nx.refl _ | assumption | apply Nx.alloc | apply Nx.drew | apply Nx.drewN | (refine Nx.setCell ?_ (by first | (simp; done) | (simp; omega) | omega) _) | refine Nx.trans ?_ (by assumption)))
  have sW1 : W1.heap.size = w.heap.size + 1 := by subst hW1; simp
  have R : Bx W1 (w.heap.size) 24 [V 0, .slice none 0 0] := by subst hW1; have h := Bx.alloc w 24 [V 0, .slice none 0 0]; simpa using h
  have R_0 := R.cell (j := 0) rfl
  have R_1 := R.cell (j := 1) rfl
  have R_z := R.lt
  have HsW1 := Lib.hid sW1
  have lW1 : w.heap.size + 1 ≤ W1.heap.size := by omega
  clear hW1 sW1
  have N := gW1
  refine (Hcut.out _ (HV.out.nx N)).mono ?_
  rintro e w2 ⟨A, c, rfl, hs, hcap, hn2⟩
  replace R := R.nx hn2
  replace R_0 := R.cell (j := 0) rfl
  replace R_1 := R.cell (j := 1) rfl
  replace R_z := R.lt
  replace N := N.trans hn2
  obtain ⟨b, off, rfl, zb, rd⟩ := hs (by simp)
  have r0 := rd 0 (decDigits m) rfl
  rw [Nat.add_zero] at r0
  have Rd := Lib.hid rd
  have hnp0 : 0 < np := by omega
  clear hs rd
  go_wp2_with fail
  have zw2 : w.heap.size < w2.heap.size := by have := hn2.size; omega
  refine (Hnum.out _ (HV.out.nx N)).mono ?_
  rintro e w3 ⟨rfl, hn3⟩
  replace R := R.nx hn3
  replace R_0 := R.cell (j := 0) rfl
  replace R_1 := R.cell (j := 1) rfl
  replace R_z := R.lt
  replace N := N.trans hn3
  have hcap1 : (1 : Int) ≤ (c : Int) := by omega
  have hnpi : (1 : Int) ≤ (np : Int) := by omega
  have hnpc : (np : Int) ≤ (c : Int) := by omega
  have Hnp2 := Lib.hid hnp2
  have zw3 : w.heap.size < w3.heap.size := by have := hn3.size; omega
  have z23 := hn3.size
  clear r0
  by_cases hc1 : c = 1
  · subst hc1
    obtain rfl : np = 1 := by omega
    have hes : es.length = 0 := by omega
    clear hnp2
    have hes2 : es = [] := List.eq_nil_of_length_eq_zero hes
    have Hes := Lib.hid hes2
    clear hes hes2
    go_wp2
    generalize hW4 : World.alloc _ _ = W4
    have gW4 : Nx w3 W4 := by subst hW4; exact (by repeat (first | exact Nx.refl _ | assumption | apply Nx.alloc | apply Nx.drew | apply Nx.drewN | (refine Nx.setCell ?_ (by first | (simp; done) | (simp; omega) | omega) _) | refine Nx.trans ?_ (by assumption)))
    have sW4 : W4.heap.size = w3.heap.size + 1 := by subst hW4; simp
    have O : Bx W4 (w3.heap.size) 24 [V m, .slice none 0 0] := by subst hW4; have h := Bx.alloc w3 24 [V m, .slice none 0 0]; simpa using h
    have O_0 := O.cell (j := 0) rfl
    have O_1 := O.cell (j := 1) rfl
    have O_z := O.lt
    have HsW4 := Lib.hid sW4
    have lW4 : w3.heap.size + 1 ≤ W4.heap.size := by omega
    clear hW4 sW4
    replace R := R.nx gW4
    replace R_0 := R.cell (j := 0) rfl
    replace R_1 := R.cell (j := 1) rfl
    replace R_z := R.lt
    replace N := N.trans gW4
    have z4 := gW4.size
    have N2 : Nx w2 W4 := hn3.trans gW4
    clear O_0 O_1 O_z R_0 R_1 R_z hnp0 hnpc hnpi hcap1
    go_loopg [31] es.length (fun gk i wr => ∃ (j : Nat) (A' : Option Addr) (c' : Nat), j + gk = es.length ∧ i = .int .i64 j ∧ Bx wr w3.heap.size 24 [V m, .slice A' (es.take j).length c'] ∧ OwnE wr W4.heap.size 41 A' c' (es.take j) ∧ Rx w3.heap.size W4 wr)
    case atStart => exact ⟨0, none, 0, by omega, rfl, by simpa using O, by simpa using (OwnE.nil W4 _ _), Rx.refl _ _⟩
    case round =>
      obtain ⟨j, A', c', hj, rfl, hbo, hown, hrx⟩ := hrel
      have hnx : Nx w wr := Rx.nx N hrx (by omega)
      have hsz := hrx.size
      have R' := R.grown hrx (by simp; omega)
      by_cases hlt : j < es.length
      · (rw [Hes.out] at hlt; simp at hlt)
      · have hje : es.take j = es := List.take_of_length_le (by omega)
        rw [hje] at hown hbo
        have q0 := hbo.cell (j := 0) rfl
        have q1 := hbo.cell (j := 1) rfl
        have qz := hbo.lt
        clear hje Rd
        go_wp2_with fail
        refine (Hfm.out A' c' _ hown.edgesAt).mono ?_
        rintro e w8 ⟨rfl, hn8⟩
        replace hbo := hbo.nx hn8
        replace hown := hown.nx hn8
        replace hnx := hnx.trans hn8
        have R8 := R'.nx hn8
        have q0 := hbo.cell (j := 0) rfl
        have q1 := hbo.cell (j := 1) rfl
        have qz := hbo.lt
        have R_0 := R8.cell (j := 0) rfl
        have R_1 := R8.cell (j := 1) rfl
        have R_f := R8.free
        have R_z := R8.lt
        go_wp2
        refine bodyPost_ret (v := .tuple #[.agg #[V m, .slice A' es.length c'], .bool true]) (by simp [results, Tryd.f6, go_sem, *]) rfl ?_
        exact ⟨A', c', rfl, ((hown.far (by simp; omega) _).far (by simp; omega) _).mono (by omega), (by repeat (first | exact Nx.refl _ | assumption | apply Nx.alloc | apply Nx.drew | apply Nx.drewN | (refine Nx.setCell ?_ (by first | (simp; done) | (simp; omega) | omega) _) | refine Nx.trans ?_ (by assumption)))⟩
  · have hc2 : ¬ (c : Int) = 1 := by omega
    go_wp2
    generalize hW4 : World.alloc _ _ = W4
    have gW4 : Nx w3 W4 := by subst hW4; exact (by repeat (first | exact Nx.refl _ | assumption | apply Nx.alloc | apply Nx.drew | apply Nx.drewN | (refine Nx.setCell ?_ (by first | (simp; done) | (simp; omega) | omega) _) | refine Nx.trans ?_ (by assumption)))
    have sW4 : W4.heap.size = w3.heap.size + 1 := by subst hW4; simp
    have O : Bx W4 (w3.heap.size) 24 [V m, .slice none 0 0] := by subst hW4; have h := Bx.alloc w3 24 [V m, .slice none 0 0]; simpa using h
    have O_0 := O.cell (j := 0) rfl
    have O_1 := O.cell (j := 1) rfl
    have O_z := O.lt
    have HsW4 := Lib.hid sW4
    have lW4 : w3.heap.size + 1 ≤ W4.heap.size := by omega
    clear hW4 sW4
    replace R := R.nx gW4
    replace R_0 := R.cell (j := 0) rfl
    replace R_1 := R.cell (j := 1) rfl
    replace R_z := R.lt
    replace N := N.trans gW4
    have z4 := gW4.size
    have N2 : Nx w2 W4 := hn3.trans gW4
    clear O_0 O_1 O_z R_0 R_1 R_z hnp0 hnpc hnpi hcap1
    go_loopg [31] es.length (fun gk i wr => ∃ (j : Nat) (A' : Option Addr) (c' : Nat), j + gk = es.length ∧ i = .int .i64 j ∧ Bx wr w3.heap.size 24 [V m, .slice A' (es.take j).length c'] ∧ OwnE wr W4.heap.size 41 A' c' (es.take j) ∧ Rx w3.heap.size W4 wr)
    case atStart => exact ⟨0, none, 0, by omega, rfl, by simpa using O, by simpa using (OwnE.nil W4 _ _), Rx.refl _ _⟩
    case round =>
      obtain ⟨j, A', c', hj, rfl, hbo, hown, hrx⟩ := hrel
      have hnx : Nx w wr := Rx.nx N hrx (by omega)
      have hsz := hrx.size
      have R' := R.grown hrx (by simp; omega)
      by_cases hlt : j < es.length
      · obtain ⟨e, he⟩ : ∃ e, es[j]? = some e := ⟨_, List.getElem?_eq_getElem hlt⟩
        have rj := World.grownBy.cell hrx (N2.cell zb (Rd.out (j + 1) (dashT e) (by simp [he]))) (by simp; omega)
        rw [show off + (j + 1) = off + 1 + j by omega] at rj
        obtain ⟨u, v, rfl, hu, hvv⟩ := Hsm.out e (List.mem_of_getElem? he)
        have hst : es.take (j + 1) = es.take j ++ [((u : Int), (v : Int))] := by
          obtain ⟨q1, q2⟩ := List.getElem?_eq_some_iff.1 he
          rw [List.take_succ_eq_append_getElem q1, q2]
        have hlen : (es.take j).length ≤ 40 := by simp; omega
        have hj1 : j < np - 1 := by omega
        have hct := fun w h => cut_yes hu hvv w h
        have ha1 := fun w h => Hat.out u hu w h
        have ha2 := fun w h => Hat.out v hvv w h
        generalize es.take j = Lj at *
        generalize dashT ((u : Int), (v : Int)) = de at *
        generalize decDigits u = du at *
        generalize decDigits v = dv at *
        have Hst := Lib.hid hst
        have Hct := Lib.hid hct
        have Ha1 := Lib.hid ha1
        have Ha2 := Lib.hid ha2
        have hV4 := Lib.hid (HV.out.nx hnx)
        have q1 := hbo.cell (j := 1) rfl
        have qz := hbo.lt
        clear hst hct ha1 ha2 he hu hvv
        go_wp2_with fail
        refine (Hct.out _ hV4.out).mono ?_
        rintro e w5 ⟨f, rfl, hn5⟩
        go_wp2_with fail
        refine (Ha1.out _ (hV4.out.nx hn5)).mono ?_
        rintro e w6 ⟨rfl, hn6⟩
        go_wp2_with fail
        refine (Ha2.out _ ((hV4.out.nx hn5).nx hn6)).mono ?_
        rintro e w7 ⟨rfl, hn7⟩
        have hn57 := (hn5.trans hn6).trans hn7
        have hb5 := hbo.nx hn57
        have ho5 := hown.nx hn57
        have hr5 : Rx w3.heap.size W4 w7 := hrx.trans (hn57.rx _)
        have q1 := hb5.cell (j := 1) rfl
        have qz := hb5.lt
        have z57 := hn57.size
        clear hbo hown hrx rj
        go_wp2_with (at_builtin; go_must (refine appE (base := W4.heap.size) (t := 41) Lj _ u v rfl rfl Tryd.underlying22 Hi.out Hz0.out Hz1.out Hz2.out rfl rfl (ho5.nx (by repeat (first | exact Nx.refl _ | assumption | apply Nx.alloc | apply Nx.drew | apply Nx.drewN | (refine Nx.setCell ?_ (by first | (simp; done) | (simp; omega) | omega) _) | refine Nx.trans ?_ (by assumption)))) rfl (by go_simp) (by go_simp) (by omega) (by simp; omega) ?_; intro A2 c2 w8 hown8 hnx8 hgr8 hbl8; have hb8 := (hb5.nx (Nx.alloc (Nx.refl _) _)).grown hgr8 (by intro e; have := ho5.lt _ e; omega); have r1 := hb8.cell (j := 1) rfl; have rf := hb8.free))
        have hr8 : Rx w3.heap.size W4 w8 := (hr5.alloc _).ownJ hgr8 (fun t ht => (ho5.lt t ht).1)
        go_roundg (gk - 1)
        case measure => omega
        case rel =>
          refine ⟨j + 1, A2, c2, by omega, by go_num, ?_, ?_, hr8.setCellJ _ _⟩
          · rw [Hst.out, List.length_append]
            exact hb8.set (j := 1) _
          · rw [Hst.out]
            exact hown8.far (by simp; omega) _
      · have hje : es.take j = es := List.take_of_length_le (by omega)
        rw [hje] at hown hbo
        have hnpj : np - 1 = j := by have := Hnp2.out; omega
        have q0 := hbo.cell (j := 0) rfl
        have q1 := hbo.cell (j := 1) rfl
        have qz := hbo.lt
        clear hje Rd
        go_wp2_with fail
        refine (Hfm.out A' c' _ hown.edgesAt).mono ?_
        rintro e w8 ⟨rfl, hn8⟩
        replace hbo := hbo.nx hn8
        replace hown := hown.nx hn8
        replace hnx := hnx.trans hn8
        have R8 := R'.nx hn8
        have q0 := hbo.cell (j := 0) rfl
        have q1 := hbo.cell (j := 1) rfl
        have qz := hbo.lt
        have R_0 := R8.cell (j := 0) rfl
        have R_1 := R8.cell (j := 1) rfl
        have R_f := R8.free
        have R_z := R8.lt
        go_wp2
        refine bodyPost_ret (v := .tuple #[.agg #[V m, .slice A' es.length c'], .bool true]) (by simp [results, Tryd.f6, go_sem, *]) rfl ?_
        exact ⟨A', c', rfl, ((hown.far (by simp; omega) _).far (by simp; omega) _).mono (by omega), (by repeat (first | exact Nx.refl _ | assumption | apply Nx.alloc | apply Nx.drew | apply Nx.drewN | (refine Nx.setCell ?_ (by first | (simp; done) | (simp; omega) | omega) _) | refine Nx.trans ?_ (by assumption)))⟩

set_option maxRecDepth 100000 in
set_option maxHeartbeats 16000000 in
theorem iParse_no (l : List UInt8) (hl : l.length ≤ 1048576) (hno : ∀ m fs, Valid m fs → fmtL m fs ≠ l) (w : World) (hV : Vars w) :
    Calls Tryd.prog 6 #[Str l] w (RetPg 0 [] false w) := by
  have hml : ∀ p ∈ piecesL l, p.length ≤ l.length := fun p h => splitK_mem [32] _ l p h
  have hne : piecesL l ≠ [] := splitK_ne [32] _ l
  have hpl := pieces_len l
  have Hcut := Lib.hid (fun w h => splitN_c l w h hl)
  generalize piecesL l = parts at *
  obtain ⟨p0, ps, rfl⟩ : ∃ p ps, parts = p :: ps := by
    cases parts with
    | nil => exact absurd rfl hne
    | cons p ps => exact ⟨p, ps, rfl⟩
  have Hnum := Lib.hid (fun w h => atoi_c p0 w h (Nat.le_trans (hml p0 (by simp)) hl))
  have Hno := Lib.hid hno
  have Hml := Lib.hid hml
  obtain ⟨i0, hi, hz0, hz1, hz2⟩ := info_parts infoE
  have Hi := Lib.hid hi
  have Hz0 := Lib.hid hz0
  have Hz1 := Lib.hid hz1
  have Hz2 := Lib.hid hz2
  obtain ⟨np, hnp⟩ : ∃ x, (p0 :: ps).length = x := ⟨_, rfl⟩
  have hnp2 : np = ps.length + 1 := by rw [← hnp]; simp
  unfold RetSc at Hcut
  simp only [hnp] at Hcut hpl
  clear hi hz0 hz1 hz2 hnp hno hml hne
  have HV := Lib.hid hV
  clear hV
  go_enter Tryd.func6, Tryd.ntmps6
  go_wp2_with fail
  generalize hW1 : World.alloc _ _ = W1
  have gW1 : Nx w W1 := by subst hW1; exact (by repeat (first | exact Nx.refl _ | assumption | apply Nx.alloc | apply Nx.drew | apply Nx.drewN | (refine Nx.setCell ?_ (by first | (simp; done) | (simp; omega) | omega) _) | refine Nx.trans ?_ (by assumption)))
  have sW1 : W1.heap.size = w.heap.size + 1 := by subst hW1; simp
  have R : Bx W1 (w.heap.size) 24 [V 0, .slice none 0 0] := by subst hW1; have h := Bx.alloc w 24 [V 0, .slice none 0 0]; simpa using h
  have R_0 := R.cell (j := 0) rfl
  have R_1 := R.cell (j := 1) rfl
  have R_z := R.lt
  have HsW1 := Lib.hid sW1
  have lW1 : w.heap.size + 1 ≤ W1.heap.size := by omega
  clear hW1 sW1
  have N := gW1
  refine (Hcut.out _ (HV.out.nx N)).mono ?_
  rintro e w2 ⟨A, c, rfl, hs, hcap, hn2⟩
  replace R := R.nx hn2
  replace R_0 := R.cell (j := 0) rfl
  replace R_1 := R.cell (j := 1) rfl
  replace R_z := R.lt
  replace N := N.trans hn2
  obtain ⟨b, off, rfl, zb, rd⟩ := hs (by simp)
  have r0 := rd 0 p0 rfl
  rw [Nat.add_zero] at r0
  have Rd := Lib.hid rd
  have hnp0 : 0 < np := by omega
  clear hs rd
  go_wp2_with fail
  have zw2 : w.heap.size < w2.heap.size := by have := hn2.size; omega
  refine (Hnum.out _ (HV.out.nx N)).mono ?_
  rintro e w3 ⟨v0, er, rfl, her, hn3⟩
  replace R := R.nx hn3
  replace R_0 := R.cell (j := 0) rfl
  replace R_1 := R.cell (j := 1) rfl
  replace R_z := R.lt
  replace N := N.trans hn3
  have hcap1 : (1 : Int) ≤ (c : Int) := by omega
  have hnpi : (1 : Int) ≤ (np : Int) := by omega
  have hnpc : (np : Int) ≤ (c : Int) := by omega
  have Hnp2 := Lib.hid hnp2
  have zw3 : w.heap.size < w3.heap.size := by have := hn3.size; omega
  have z23 := hn3.size
  clear r0
  rcases her with ⟨rfl, _⟩ | ⟨⟨te0, pe0, rfl⟩, _⟩
  · by_cases hc1 : c = 1
    · subst hc1
      obtain rfl : np = 1 := by omega
      have hes : ps.length = 0 := by omega
      clear hnp2
      have hes2 : ps = [] := List.eq_nil_of_length_eq_zero hes
      have Hes := Lib.hid hes2
      clear hes hes2
      go_wp2
      generalize hW4 : World.alloc _ _ = W4
      have gW4 : Nx w3 W4 := by subst hW4; exact (by repeat (first | exact Nx.refl _ | assumption | apply Nx.alloc | apply Nx.drew | apply Nx.drewN | (refine Nx.setCell ?_ (by first | (simp; done) | (simp; omega) | omega) _) | refine Nx.trans ?_ (by assumption)))
      have sW4 : W4.heap.size = w3.heap.size + 1 := by subst hW4; simp
      have O : Bx W4 (w3.heap.size) 24 [V v0, .slice none 0 0] := by subst hW4; have h := Bx.alloc w3 24 [V v0, .slice none 0 0]; simpa using h
      have O_0 := O.cell (j := 0) rfl
      have O_1 := O.cell (j := 1) rfl
      have O_z := O.lt
      have HsW4 := Lib.hid sW4
      have lW4 : w3.heap.size + 1 ≤ W4.heap.size := by omega
      clear hW4 sW4
      replace R := R.nx gW4
      replace R_0 := R.cell (j := 0) rfl
      replace R_1 := R.cell (j := 1) rfl
      replace R_z := R.lt
      replace N := N.trans gW4
      have z4 := gW4.size
      have N2 : Nx w2 W4 := hn3.trans gW4
      clear O_0 O_1 O_z R_0 R_1 R_z hnp0 hnpc hnpi hcap1
      go_loopg [31] ps.length (fun gk i wr => ∃ (j : Nat) (E : Es) (A' : Option Addr) (c' : Nat), j + gk = ps.length ∧ i = .int .i64 j ∧ E.length = j ∧ Bx wr w3.heap.size 24 [V v0, .slice A' E.length c'] ∧ OwnE wr W4.heap.size 41 A' c' E ∧ Rx w3.heap.size W4 wr)
      case atStart => exact ⟨0, [], none, 0, by omega, rfl, rfl, by simpa using O, by simpa using (OwnE.nil W4 _ _), Rx.refl _ _⟩
      case round =>
        obtain ⟨j, E, A', c', hj, rfl, hEj, hbo, hown, hrx⟩ := hrel
        have hnx : Nx w wr := Rx.nx N hrx (by omega)
        have hsz := hrx.size
        have R' := R.grown hrx (by simp; omega)
        by_cases hlt : j < ps.length
        · (rw [Hes.out] at hlt; simp at hlt)
        · have hE42 : E.length ≤ 42 := by have := Hes.out; subst this; simp at hj; omega
          have q0 := hbo.cell (j := 0) rfl
          have q1 := hbo.cell (j := 1) rfl
          have qz := hbo.lt
          clear Rd hEj
          by_cases hl0 : l = []
          · subst hl0
            have R_0 := R'.cell (j := 0) rfl
            have R_1 := R'.cell (j := 1) rfl
            have R_f := R'.free
            have R_z := R'.lt
            go_wp2
            refine bodyPost_ret (v := .tuple #[.agg #[V 0, .slice none 0 0], .bool false]) (by simp [results, Tryd.f6, go_sem, *]) rfl ?_
            exact ⟨none, 0, rfl, OwnE.nil _ _ _, (by repeat (first | exact Nx.refl _ | assumption | apply Nx.alloc | apply Nx.drew | apply Nx.drewN | (refine Nx.setCell ?_ (by first | (simp; done) | (simp; omega) | omega) _) | refine Nx.trans ?_ (by assumption)))⟩
          · have hl1 : (l == []) = false := by simpa using hl0
            have hfne : fmtL v0 E ≠ l := by
              by_cases hvl : Valid v0 E
              · exact Hno.out v0 E hvl
              · unfold fmtL
                rw [if_neg hvl]
                exact fun h => hl0 h.symm
            have hfm := iFormatGraph_c v0 A' c' E wr hown.edgesAt (by omega)
            generalize fmtL v0 E = T at *
            have Hfm2 := Lib.hid hfm
            have hcmp : (T == l) = false := by simpa using hfne
            clear hfm
            go_wp2_with fail
            refine Hfm2.out.mono ?_
            rintro e w8 ⟨rfl, hn8⟩
            replace hnx := hnx.trans hn8
            replace R' := R'.nx hn8
            have R_0 := R'.cell (j := 0) rfl
            have R_1 := R'.cell (j := 1) rfl
            have R_f := R'.free
            have R_z := R'.lt
            go_wp2
            refine bodyPost_ret (v := .tuple #[.agg #[V 0, .slice none 0 0], .bool false]) (by simp [results, Tryd.f6, go_sem, *]) rfl ?_
            exact ⟨none, 0, rfl, OwnE.nil _ _ _, (by repeat (first | exact Nx.refl _ | assumption | apply Nx.alloc | apply Nx.drew | apply Nx.drewN | (refine Nx.setCell ?_ (by first | (simp; done) | (simp; omega) | omega) _) | refine Nx.trans ?_ (by assumption)))⟩
    · have hc2 : ¬ (c : Int) = 1 := by omega
      go_wp2
      generalize hW4 : World.alloc _ _ = W4
      have gW4 : Nx w3 W4 := by subst hW4; exact (by repeat (first | exact Nx.refl _ | assumption | apply Nx.alloc | apply Nx.drew | apply Nx.drewN | (refine Nx.setCell ?_ (by first | (simp; done) | (simp; omega) | omega) _) | refine Nx.trans ?_ (by assumption)))
      have sW4 : W4.heap.size = w3.heap.size + 1 := by subst hW4; simp
      have O : Bx W4 (w3.heap.size) 24 [V v0, .slice none 0 0] := by subst hW4; have h := Bx.alloc w3 24 [V v0, .slice none 0 0]; simpa using h
      have O_0 := O.cell (j := 0) rfl
      have O_1 := O.cell (j := 1) rfl
      have O_z := O.lt
      have HsW4 := Lib.hid sW4
      have lW4 : w3.heap.size + 1 ≤ W4.heap.size := by omega
      clear hW4 sW4
      replace R := R.nx gW4
      replace R_0 := R.cell (j := 0) rfl
      replace R_1 := R.cell (j := 1) rfl
      replace R_z := R.lt
      replace N := N.trans gW4
      have z4 := gW4.size
      have N2 : Nx w2 W4 := hn3.trans gW4
      clear O_0 O_1 O_z R_0 R_1 R_z hnp0 hnpc hnpi hcap1
      go_loopg [31] ps.length (fun gk i wr => ∃ (j : Nat) (E : Es) (A' : Option Addr) (c' : Nat), j + gk = ps.length ∧ i = .int .i64 j ∧ E.length = j ∧ Bx wr w3.heap.size 24 [V v0, .slice A' E.length c'] ∧ OwnE wr W4.heap.size 41 A' c' E ∧ Rx w3.heap.size W4 wr)
      case atStart => exact ⟨0, [], none, 0, by omega, rfl, rfl, by simpa using O, by simpa using (OwnE.nil W4 _ _), Rx.refl _ _⟩
      case round =>
        obtain ⟨j, E, A', c', hj, rfl, hEj, hbo, hown, hrx⟩ := hrel
        have hnx : Nx w wr := Rx.nx N hrx (by omega)
        have hsz := hrx.size
        have R' := R.grown hrx (by simp; omega)
        by_cases hlt : j < ps.length
        · obtain ⟨p, hp⟩ : ∃ e, ps[j]? = some e := ⟨_, List.getElem?_eq_getElem hlt⟩
          have rj := World.grownBy.cell hrx (N2.cell zb (Rd.out (j + 1) p (by simp [hp]))) (by simp; omega)
          rw [show off + (j + 1) = off + 1 + j by omega] at rj
          have hj1 : j < np - 1 := by omega
          have hpl := Hml.out p (by simp [List.mem_of_getElem? hp])
          have hcl := cut_mem p [45]
          have hV4 := Lib.hid (HV.out.nx hnx)
          have Hct := Lib.hid (cut_c p wr hV4.out (by omega))
          have HEj := Lib.hid hEj
          generalize (Lib.cut p [45]).1 = du at *
          generalize (Lib.cut p [45]).2.1 = dv at *
          have q1 := hbo.cell (j := 1) rfl
          have qz := hbo.lt
          have hE42 : E.length ≤ 42 := by omega
          clear hp hEj
          go_wp2_with fail
          refine Hct.out.mono ?_
          rintro e w5 ⟨f, rfl, hn5⟩
          go_wp2_with fail
          refine (atoi_c du _ (hV4.out.nx hn5) (by omega)).mono ?_
          rintro e w6 ⟨x, e1, rfl, he1, hn6⟩
          go_wp2_with fail
          refine (atoi_c dv _ ((hV4.out.nx hn5).nx hn6) (by omega)).mono ?_
          rintro e w7 ⟨y, e2, rfl, he2, hn7⟩
          have hn57 := (hn5.trans hn6).trans hn7
          have hb5 := hbo.nx hn57
          have ho5 := hown.nx hn57
          have hr5 : Rx w3.heap.size W4 w7 := hrx.trans (hn57.rx _)
          have hnx := hnx.trans hn57
          have R' := R'.nx hn57
          have q1 := hb5.cell (j := 1) rfl
          have qz := hb5.lt
          have z57 := hn57.size
          clear hbo hown hrx rj Hct
          rcases he1 with ⟨rfl, _⟩ | ⟨⟨te, pe, rfl⟩, _⟩
          rotate_left
          · have R_0 := R'.cell (j := 0) rfl
            have R_1 := R'.cell (j := 1) rfl
            have R_f := R'.free
            have R_z := R'.lt
            go_wp2
            refine bodyPost_ret (v := .tuple #[.agg #[V 0, .slice none 0 0], .bool false]) (by simp [results, Tryd.f6, go_sem, *]) rfl ?_
            exact ⟨none, 0, rfl, OwnE.nil _ _ _, (by repeat (first | exact Nx.refl _ | assumption | apply Nx.alloc | apply Nx.drew | apply Nx.drewN | (refine Nx.setCell ?_ (by first | (simp; done) | (simp; omega) | omega) _) | refine Nx.trans ?_ (by assumption)))⟩
          rcases he2 with ⟨rfl, _⟩ | ⟨⟨te, pe, rfl⟩, _⟩
          rotate_left
          · have R_0 := R'.cell (j := 0) rfl
            have R_1 := R'.cell (j := 1) rfl
            have R_f := R'.free
            have R_z := R'.lt
            go_wp2
            refine bodyPost_ret (v := .tuple #[.agg #[V 0, .slice none 0 0], .bool false]) (by simp [results, Tryd.f6, go_sem, *]) rfl ?_
            exact ⟨none, 0, rfl, OwnE.nil _ _ _, (by repeat (first | exact Nx.refl _ | assumption | apply Nx.alloc | apply Nx.drew | apply Nx.drewN | (refine Nx.setCell ?_ (by first | (simp; done) | (simp; omega) | omega) _) | refine Nx.trans ?_ (by assumption)))⟩
          go_wp2_with (at_builtin; go_must (refine appE (base := W4.heap.size) (t := 41) E _ x y rfl rfl Tryd.underlying22 Hi.out Hz0.out Hz1.out Hz2.out rfl rfl (ho5.nx (by repeat (first | exact Nx.refl _ | assumption | apply Nx.alloc | apply Nx.drew | apply Nx.drewN | (refine Nx.setCell ?_ (by first | (simp; done) | (simp; omega) | omega) _) | refine Nx.trans ?_ (by assumption)))) rfl (by go_simp) (by go_simp) (by omega) (by simp; omega) ?_; intro A2 c2 w8 hown8 hnx8 hgr8 hbl8; have hb8 := (hb5.nx (Nx.alloc (Nx.refl _) _)).grown hgr8 (by intro e; have := ho5.lt _ e; omega); have r1 := hb8.cell (j := 1) rfl; have rf := hb8.free))
          have hr8 : Rx w3.heap.size W4 w8 := (hr5.alloc _).ownJ hgr8 (fun t ht => (ho5.lt t ht).1)
          go_roundg (gk - 1)
          case measure => omega
          case rel =>
            refine ⟨j + 1, E ++ [(x, y)], A2, c2, by omega, by go_num, by simp [HEj.out], ?_, ?_, hr8.setCellJ _ _⟩
            · rw [List.length_append]
              exact hb8.set (j := 1) _
            · exact hown8.far (by simp; omega) _
        · have hnpj : np - 1 = j := by have := Hnp2.out; omega
          have hE42 : E.length ≤ 42 := by have := Hnp2.out; omega
          have q0 := hbo.cell (j := 0) rfl
          have q1 := hbo.cell (j := 1) rfl
          have qz := hbo.lt
          clear Rd hEj
          by_cases hl0 : l = []
          · subst hl0
            have R_0 := R'.cell (j := 0) rfl
            have R_1 := R'.cell (j := 1) rfl
            have R_f := R'.free
            have R_z := R'.lt
            go_wp2
            refine bodyPost_ret (v := .tuple #[.agg #[V 0, .slice none 0 0], .bool false]) (by simp [results, Tryd.f6, go_sem, *]) rfl ?_
            exact ⟨none, 0, rfl, OwnE.nil _ _ _, (by repeat (first | exact Nx.refl _ | assumption | apply Nx.alloc | apply Nx.drew | apply Nx.drewN | (refine Nx.setCell ?_ (by first | (simp; done) | (simp; omega) | omega) _) | refine Nx.trans ?_ (by assumption)))⟩
          · have hl1 : (l == []) = false := by simpa using hl0
            have hfne : fmtL v0 E ≠ l := by
              by_cases hvl : Valid v0 E
              · exact Hno.out v0 E hvl
              · unfold fmtL
                rw [if_neg hvl]
                exact fun h => hl0 h.symm
            have hfm := iFormatGraph_c v0 A' c' E wr hown.edgesAt (by omega)
            generalize fmtL v0 E = T at *
            have Hfm2 := Lib.hid hfm
            have hcmp : (T == l) = false := by simpa using hfne
            clear hfm
            go_wp2_with fail
            refine Hfm2.out.mono ?_
            rintro e w8 ⟨rfl, hn8⟩
            replace hnx := hnx.trans hn8
            replace R' := R'.nx hn8
            have R_0 := R'.cell (j := 0) rfl
            have R_1 := R'.cell (j := 1) rfl
            have R_f := R'.free
            have R_z := R'.lt
            go_wp2
            refine bodyPost_ret (v := .tuple #[.agg #[V 0, .slice none 0 0], .bool false]) (by simp [results, Tryd.f6, go_sem, *]) rfl ?_
            exact ⟨none, 0, rfl, OwnE.nil _ _ _, (by repeat (first | exact Nx.refl _ | assumption | apply Nx.alloc | apply Nx.drew | apply Nx.drewN | (refine Nx.setCell ?_ (by first | (simp; done) | (simp; omega) | omega) _) | refine Nx.trans ?_ (by assumption)))⟩
  · by_cases hc1 : c = 1
    · subst hc1
      obtain rfl : np = 1 := by omega
      have hes : ps.length = 0 := by omega
      clear hnp2
      have hes2 : ps = [] := List.eq_nil_of_length_eq_zero hes
      have Hes := Lib.hid hes2
      clear hes hes2
      go_wp2
      generalize hW4 : World.alloc _ _ = W4
      have gW4 : Nx w3 W4 := by subst hW4; exact (by repeat (first | exact Nx.refl _ | assumption | apply Nx.alloc | apply Nx.drew | apply Nx.drewN | (refine Nx.setCell ?_ (by first | (simp; done) | (simp; omega) | omega) _) | refine Nx.trans ?_ (by assumption)))
      have sW4 : W4.heap.size = w3.heap.size + 1 := by subst hW4; simp
      have O : Bx W4 (w3.heap.size) 24 [V v0, .slice none 0 0] := by subst hW4; have h := Bx.alloc w3 24 [V v0, .slice none 0 0]; simpa using h
      have O_0 := O.cell (j := 0) rfl
      have O_1 := O.cell (j := 1) rfl
      have O_z := O.lt
      have HsW4 := Lib.hid sW4
      have lW4 : w3.heap.size + 1 ≤ W4.heap.size := by omega
      clear hW4 sW4
      replace R := R.nx gW4
      replace R_0 := R.cell (j := 0) rfl
      replace R_1 := R.cell (j := 1) rfl
      replace R_z := R.lt
      replace N := N.trans gW4
      have z4 := gW4.size
      have N2 : Nx w2 W4 := hn3.trans gW4
      clear O_0 O_1 O_z R_0 R_1 R_z hnp0 hnpc hnpi hcap1
      go_loopg [31] ps.length (fun gk i wr => ∃ (j : Nat) (E : Es) (A' : Option Addr) (c' : Nat), j + gk = ps.length ∧ i = .int .i64 j ∧ E.length = j ∧ Bx wr w3.heap.size 24 [V v0, .slice A' E.length c'] ∧ OwnE wr W4.heap.size 41 A' c' E ∧ Rx w3.heap.size W4 wr)
      case atStart => exact ⟨0, [], none, 0, by omega, rfl, rfl, by simpa using O, by simpa using (OwnE.nil W4 _ _), Rx.refl _ _⟩
      case round =>
        obtain ⟨j, E, A', c', hj, rfl, hEj, hbo, hown, hrx⟩ := hrel
        have hnx : Nx w wr := Rx.nx N hrx (by omega)
        have hsz := hrx.size
        have R' := R.grown hrx (by simp; omega)
        by_cases hlt : j < ps.length
        · (rw [Hes.out] at hlt; simp at hlt)
        · have hE42 : E.length ≤ 42 := by have := Hes.out; subst this; simp at hj; omega
          have q0 := hbo.cell (j := 0) rfl
          have q1 := hbo.cell (j := 1) rfl
          have qz := hbo.lt
          clear Rd hEj
          have R_0 := R'.cell (j := 0) rfl
          have R_1 := R'.cell (j := 1) rfl
          have R_f := R'.free
          have R_z := R'.lt
          go_wp2
          refine bodyPost_ret (v := .tuple #[.agg #[V 0, .slice none 0 0], .bool false]) (by simp [results, Tryd.f6, go_sem, *]) rfl ?_
          exact ⟨none, 0, rfl, OwnE.nil _ _ _, (by repeat (first | exact Nx.refl _ | assumption | apply Nx.alloc | apply Nx.drew | apply Nx.drewN | (refine Nx.setCell ?_ (by first | (simp; done) | (simp; omega) | omega) _) | refine Nx.trans ?_ (by assumption)))⟩
    · have hc2 : ¬ (c : Int) = 1 := by omega
      go_wp2
      generalize hW4 : World.alloc _ _ = W4
      have gW4 : Nx w3 W4 := by subst hW4; exact (by repeat (first | exact Nx.refl _ | assumption | apply Nx.alloc | apply Nx.drew | apply Nx.drewN | (refine Nx.setCell ?_ (by first | (simp; done) | (simp; omega) | omega) _) | refine Nx.trans ?_ (by assumption)))
      have sW4 : W4.heap.size = w3.heap.size + 1 := by subst hW4; simp
      have O : Bx W4 (w3.heap.size) 24 [V v0, .slice none 0 0] := by subst hW4; have h := Bx.alloc w3 24 [V v0, .slice none 0 0]; simpa using h
      have O_0 := O.cell (j := 0) rfl
      have O_1 := O.cell (j := 1) rfl
      have O_z := O.lt
      have HsW4 := Lib.hid sW4
      have lW4 : w3.heap.size + 1 ≤ W4.heap.size := by omega
      clear hW4 sW4
      replace R := R.nx gW4
      replace R_0 := R.cell (j := 0) rfl
      replace R_1 := R.cell (j := 1) rfl
      replace R_z := R.lt
      replace N := N.trans gW4
      have z4 := gW4.size
      have N2 : Nx w2 W4 := hn3.trans gW4
      clear O_0 O_1 O_z R_0 R_1 R_z hnp0 hnpc hnpi hcap1
      go_loopg [31] ps.length (fun gk i wr => ∃ (j : Nat) (E : Es) (A' : Option Addr) (c' : Nat), j + gk = ps.length ∧ i = .int .i64 j ∧ E.length = j ∧ Bx wr w3.heap.size 24 [V v0, .slice A' E.length c'] ∧ OwnE wr W4.heap.size 41 A' c' E ∧ Rx w3.heap.size W4 wr)
      case atStart => exact ⟨0, [], none, 0, by omega, rfl, rfl, by simpa using O, by simpa using (OwnE.nil W4 _ _), Rx.refl _ _⟩
      case round =>
        obtain ⟨j, E, A', c', hj, rfl, hEj, hbo, hown, hrx⟩ := hrel
        have hnx : Nx w wr := Rx.nx N hrx (by omega)
        have hsz := hrx.size
        have R' := R.grown hrx (by simp; omega)
        by_cases hlt : j < ps.length
        · obtain ⟨p, hp⟩ : ∃ e, ps[j]? = some e := ⟨_, List.getElem?_eq_getElem hlt⟩
          have rj := World.grownBy.cell hrx (N2.cell zb (Rd.out (j + 1) p (by simp [hp]))) (by simp; omega)
          rw [show off + (j + 1) = off + 1 + j by omega] at rj
          have hj1 : j < np - 1 := by omega
          have hpl := Hml.out p (by simp [List.mem_of_getElem? hp])
          have hcl := cut_mem p [45]
          have hV4 := Lib.hid (HV.out.nx hnx)
          have Hct := Lib.hid (cut_c p wr hV4.out (by omega))
          have HEj := Lib.hid hEj
          generalize (Lib.cut p [45]).1 = du at *
          generalize (Lib.cut p [45]).2.1 = dv at *
          have q1 := hbo.cell (j := 1) rfl
          have qz := hbo.lt
          have hE42 : E.length ≤ 42 := by omega
          clear hp hEj
          go_wp2_with fail
          refine Hct.out.mono ?_
          rintro e w5 ⟨f, rfl, hn5⟩
          go_wp2_with fail
          refine (atoi_c du _ (hV4.out.nx hn5) (by omega)).mono ?_
          rintro e w6 ⟨x, e1, rfl, he1, hn6⟩
          go_wp2_with fail
          refine (atoi_c dv _ ((hV4.out.nx hn5).nx hn6) (by omega)).mono ?_
          rintro e w7 ⟨y, e2, rfl, he2, hn7⟩
          have hn57 := (hn5.trans hn6).trans hn7
          have hb5 := hbo.nx hn57
          have ho5 := hown.nx hn57
          have hr5 : Rx w3.heap.size W4 w7 := hrx.trans (hn57.rx _)
          have hnx := hnx.trans hn57
          have R' := R'.nx hn57
          have q1 := hb5.cell (j := 1) rfl
          have qz := hb5.lt
          have z57 := hn57.size
          clear hbo hown hrx rj Hct
          have R_0 := R'.cell (j := 0) rfl
          have R_1 := R'.cell (j := 1) rfl
          have R_f := R'.free
          have R_z := R'.lt
          go_wp2
          refine bodyPost_ret (v := .tuple #[.agg #[V 0, .slice none 0 0], .bool false]) (by simp [results, Tryd.f6, go_sem, *]) rfl ?_
          exact ⟨none, 0, rfl, OwnE.nil _ _ _, (by repeat (first | exact Nx.refl _ | assumption | apply Nx.alloc | apply Nx.drew | apply Nx.drewN | (refine Nx.setCell ?_ (by first | (simp; done) | (simp; omega) | omega) _) | refine Nx.trans ?_ (by assumption)))⟩
        · have hnpj : np - 1 = j := by have := Hnp2.out; omega
          have hE42 : E.length ≤ 42 := by have := Hnp2.out; omega
          have q0 := hbo.cell (j := 0) rfl
          have q1 := hbo.cell (j := 1) rfl
          have qz := hbo.lt
          clear Rd hEj
          have R_0 := R'.cell (j := 0) rfl
          have R_1 := R'.cell (j := 1) rfl
          have R_f := R'.free
          have R_z := R'.lt
          go_wp2
          refine bodyPost_ret (v := .tuple #[.agg #[V 0, .slice none 0 0], .bool false]) (by simp [results, Tryd.f6, go_sem, *]) rfl ?_
          exact ⟨none, 0, rfl, OwnE.nil _ _ _, (by repeat (first | exact Nx.refl _ | assumption | apply Nx.alloc | apply Nx.drew | apply Nx.drewN | (refine Nx.setCell ?_ (by first | (simp; done) | (simp; omega) | omega) _) | refine Nx.trans ?_ (by assumption)))⟩
end Go.Proofs.YtekepbcmjfdcjaaDoor
