/- Contract: ParseGraph of the reference. -/
import Derived.Test.YtekepbcmjfdcjaaDoorPG4
import Derived.Test.YtekepbcmjfdcjaaDoorR
import Derived.Test.YtekepbcmjfdcjaaDoorB
namespace Go.Proofs.YtekepbcmjfdcjaaDoor
open Go.RowKit set_option linter.unusedVariables false set_option linter.unusedSimpArgs false
open Go.Lib (decDigits)

theorem Rx.ownJ {br : Nat} {a b c : World} {r : Option Nat} (h : Rx br a b) (k : b.grownBy c r) (hr : ∀ j, r = some j → a.heap.size ≤ j) : Rx br a c :=
  ⟨k.os.trans h.os, k.tape.trans h.tape, k.output.trans h.output, Nat.le_trans h.size k.size, fun i hi hne => (k.block i (Nat.lt_of_lt_of_le hi h.size) (fun e => by have := hr i e.symm; omega)).trans (h.block i hi hne)⟩
theorem Rx.setCellJ {br : Nat} {a b : World} (h : Rx br a b) (i : Nat) (u : Value) : Rx br a (b.setCell ⟨br, i, none⟩ u) :=
  ⟨h.os, h.tape, h.output, by have := h.size; simpa [World.setCell] using this, fun k hk hne => (Below.heap_setCell b ⟨br, i, none⟩ u k (by rintro rfl; exact hne rfl)).trans (h.block k hk hne)⟩
/-- what a text parses to -/
def PgIs (l : List UInt8) (n : Int) (es : Es) (b : Bool) : Prop := (b = true ∧ Valid n es ∧ fmtL n es = l) ∨ (b = false ∧ n = 0 ∧ es = [] ∧ ∀ m fs, Valid m fs → fmtL m fs ≠ l)
theorem pg_ex (l : List UInt8) : ∃ n es b, PgIs l n es b := by
  by_cases h : ∃ n es, Valid n es ∧ fmtL n es = l
  · obtain ⟨n, es, h1, h2⟩ := h
    exact ⟨n, es, true, .inl ⟨rfl, h1, h2⟩⟩
  · exact ⟨0, [], false, .inr ⟨rfl, rfl, rfl, fun m fs h1 h2 => h ⟨m, fs, h1, h2⟩⟩⟩
theorem PgIs.len {l : List UInt8} {n : Int} {es : Es} {b : Bool} (h : PgIs l n es b) : es.length ≤ 40 := by
  rcases h with ⟨_, h, _⟩ | ⟨_, _, h, _⟩
  · exact h.2.2.1
  · rw [h]; simp
/-- a graph with a row of the call's own is returned, and whether there is one -/
def RetPg (n : Int) (es : Es) (b : Bool) (w : World) (e : Ending) (w' : World) : Prop := ∃ A c, e = .returned (.tuple #[.agg #[V n, .slice A es.length c], .bool b]) ∧ OwnE w' w.heap.size 41 A c es ∧ Nx w w'
theorem fmt_pos {m : Int} {fs : Es} (h : Valid m fs) : fmtL m fs ≠ [] := fun e => by
  unfold fmtL at e
  rw [if_pos h] at e
  have h1 := h.1
  have h2 := h.2.1
  have := (dec_len (u := m.toNat) (by omega)).1
  unfold gTxt at e
  rw [(List.append_eq_nil_iff.1 e).1] at this
  simp at this
/-- a valid graph's numbers are small -/
theorem val_small {m : Int} {fs : Es} (h : Valid m fs) : ∀ e ∈ fs, ∃ u v : Nat, e = ((u : Int), (v : Int)) ∧ u < 17 ∧ v < 17 := fun e he => by
  obtain ⟨j, hj⟩ := List.mem_iff_getElem?.1 he
  have := h.2.2.2 j (List.getElem?_eq_some_iff.1 hj).1 e hj
  have h2 := h.2.1
  refine ⟨e.1.toNat, e.2.toNat, ?_, by omega, by omega⟩
  apply Prod.ext <;> simp <;> omega
theorem val_sm {m : Int} {fs : Es} (h : Valid m fs) : Sm fs := Sm.of h
theorem num_yes {m : Nat} (h : m < 17) (w : World) : Calls Tryd.prog 18 #[Str (decDigits m)] w (fun e w' => e = .returned (.tuple #[V m, .bool true]) ∧ w' = w) := by
  refine (l14Num_c (decDigits m) w (by have := (dec_len (u := m) (by omega)).2; omega)).mono ?_
  rintro e w' ⟨v, b, rfl, hr, rfl⟩
  obtain ⟨rfl, rfl⟩ := hr m h rfl
  exact ⟨rfl, rfl⟩
theorem dash_len {u v : Nat} (hu : u < 17) (hv : v < 17) : (dashT (u, v)).length ≤ 5 := by
  have h1 := (dec_len (u := u) (by omega)).2
  have h2 := (dec_len (u := v) (by omega)).2
  unfold dashT
  simp
  omega
theorem par_yes {u v : Nat} (hu : u < 17) (hv : v < 17) (w : World) : Calls Tryd.prog 19 #[Str (dashT (u, v))] w (RetV (.tuple #[Ed u v, .bool true]) w) := by
  refine (l1Parse_c (dashT (u, v)) w (by have := dash_len hu hv; omega)).mono ?_
  rintro e w' ⟨a, b, f, rfl, hr, hn⟩
  obtain ⟨rfl, rfl, rfl⟩ := hr u v hu hv rfl
  exact ⟨rfl, hn⟩
theorem gtxt_len {m : Int} {fs : Es} (h : Valid m fs) : (fmtL m fs).length ≤ 300 := by
  have h1 := h.1
  have h2 := h.2.1
  have h3 := h.2.2.1
  have h4 := (dec_len (u := m.toNat) (by omega)).2
  have key : ∀ fs : Es, Sm fs → (esTxt fs).length ≤ 6 * fs.length := by
    intro fs
    induction fs with
    | nil => intro _; simp [esTxt]
    | cons e fs ih =>
      intro hs
      have a := eTxt_len (hs e (by simp))
      have b := ih (fun f hf => hs f (by simp [hf]))
      rw [esTxt_cons]
      simp
      omega
  have := key fs (Sm.of h)
  unfold fmtL
  rw [if_pos h]
  unfold gTxt
  simp
  omega
theorem str_eqq (x y : List UInt8) : ((⟨x.toArray⟩ : ByteArray) = ⟨y.toArray⟩) ↔ x = y := by
  constructor
  · intro h
    have := congrArg (fun b : ByteArray => b.data.toList) h
    simpa using this
  · rintro rfl; rfl

set_option maxRecDepth 100000 in
set_option maxHeartbeats 8000000 in
theorem sParse_yes (m : Nat) (es : Es) (hv : Valid m es) (w : World) :
    Calls Tryd.prog 5 #[Str (fmtL m es)] w (RetPg m es true w) := by
  have h1 := hv.1
  have h16 := hv.2.1
  have h40 := hv.2.2.1
  have hf : fmtL m es = gTxt m es := by unfold fmtL; rw [if_pos hv]; simp
  have hp := (piecesL_g (n := m) (by omega) (Sm.of hv) h40).2
  rw [← hf] at hp
  have hl := gtxt_len hv
  have Hcut := Lib.hid (fun w => (show Calls Tryd.prog 17 #[Str (fmtL m es), .int .u8 32] w (RetSt (decDigits m :: es.map dashT) w) from hp ▸ l14Cut_c (fmtL m es) 32 w (by omega)))
  have Hnum := Lib.hid (fun w => num_yes (m := m) (by omega) w)
  have Hpar := Lib.hid (fun e (he : e ∈ es) w => (show Calls Tryd.prog 19 #[Str (dashT e)] w (RetV (.tuple #[Ed e.1 e.2, .bool true]) w) by
    obtain ⟨u, v, rfl, hu, hvv⟩ := val_small hv e he
    exact par_yes hu hvv w))
  have Hgv := Lib.hid (fun A c w h => (show Calls Tryd.prog 14 #[.agg #[V m, .slice A es.length c]] w (RetV (.bool true) w) by
    have := sGraphValid_c m A c es w h (by omega)
    rwa [show decide (Valid m es) = true by simpa using hv] at this))
  have Hfm := Lib.hid (fun A c w h => sFormatGraph_c m A c es w h (by omega))
  generalize fmtL m es = l at *
  obtain ⟨i0, hi, hz0, hz1, hz2⟩ := info_parts infoE
  have Hi := Lib.hid hi
  have Hz0 := Lib.hid hz0
  have Hz1 := Lib.hid hz1
  have Hz2 := Lib.hid hz2
  obtain ⟨np, hnp⟩ : ∃ x, (decDigits m :: es.map dashT).length = x := ⟨_, rfl⟩
  have hnp2 : np = es.length + 1 := by rw [← hnp]; simp
  unfold RetSt at Hcut
  simp only [hnp] at Hcut
  clear hi hz0 hz1 hz2 hv hf hp hnp
  go_enter Tryd.func5, Tryd.ntmps5
  go_wp2_with fail
  generalize hW1 : World.alloc _ _ = W1
  have gW1 : Nx w W1 := by subst hW1; exact (by repeat (first | exact Nx.refl _ | assumption | apply Nx.alloc | apply Nx.drew | apply Nx.drewN | (refine Nx.setCell ?_ (by first | (simp; done) | (simp; omega) | omega) _) | refine Nx.trans ?_ (by assumption)))
  have sW1 : W1.heap.size = w.heap.size + 1 := by subst hW1; simp
  have R : Bx W1 (w.heap.size) 24 [V 0, .slice none 0 0] := by subst hW1; have h := Bx.alloc w 24 [V 0, .slice none 0 0]; simpa using h
  have R_0 := R.cell (j := 0) rfl
  have R_1 := R.cell (j := 1) rfl
  have R_z := R.lt
  have HsW1 := Lib.hid sW1
  have lW1 : w.heap.size + 1 ≤ W1.heap.size := by omega
  clear hW1 sW1
  have N := gW1
  refine (Hcut.out _).mono ?_
  rintro e w2 ⟨A, c, rfl, hs, hn2⟩
  replace R := R.nx hn2
  replace R_0 := R.cell (j := 0) rfl
  replace R_1 := R.cell (j := 1) rfl
  replace R_z := R.lt
  replace N := N.trans hn2
  obtain ⟨b, off, rfl, zb, rd⟩ := hs (by simp)
  have r0 := rd 0 (decDigits m) rfl
  rw [Nat.add_zero] at r0
  have Rd := Lib.hid rd
  have hnp0 : 0 < np := by omega
  clear hs rd
  go_wp2_with fail
  refine (Hnum.out _).mono ?_
  rintro e w3 ⟨rfl, rfl⟩
  clear r0
  go_wp2
  generalize hW4 : World.alloc _ _ = W4
  have gW4 : Nx w3 W4 := by subst hW4; exact (by repeat (first | exact Nx.refl _ | assumption | apply Nx.alloc | apply Nx.drew | apply Nx.drewN | (refine Nx.setCell ?_ (by first | (simp; done) | (simp; omega) | omega) _) | refine Nx.trans ?_ (by assumption)))
  have sW4 : W4.heap.size = w3.heap.size + 1 := by subst hW4; simp
  have O : Bx W4 (w3.heap.size) 24 [V m, .slice none 0 0] := by subst hW4; have h := Bx.alloc w3 24 [V m, .slice none 0 0]; simpa using h
  have O_0 := O.cell (j := 0) rfl
  have O_1 := O.cell (j := 1) rfl
  have O_z := O.lt
  have HsW4 := Lib.hid sW4
  have lW4 : w3.heap.size + 1 ≤ W4.heap.size := by omega
  clear hW4 sW4
  replace R := R.nx gW4
  replace R_0 := R.cell (j := 0) rfl
  replace R_1 := R.cell (j := 1) rfl
  replace R_z := R.lt
  replace N := N.trans gW4
  have zw3 : w.heap.size < w3.heap.size := by have := hn2.size; omega
  have z4 := gW4.size
  have Hnp2 := Lib.hid hnp2
  clear O_0 O_1 O_z R_0 R_1 R_z hnp0
  go_loopg [8] es.length (fun gk i wr => ∃ (j : Nat) (A' : Option Addr) (c' : Nat), j + gk = es.length ∧ i = .int .i64 ((j : Int) + 1) ∧ Bx wr w3.heap.size 24 [V m, .slice A' (es.take j).length c'] ∧ OwnE wr W4.heap.size 41 A' c' (es.take j) ∧ Rx w3.heap.size W4 wr)
  case atStart => exact ⟨0, none, 0, by omega, rfl, by simpa using O, by simpa using (OwnE.nil W4 _ _), Rx.refl _ _⟩
  case round =>
    obtain ⟨j, A', c', hj, rfl, hbo, hown, hrx⟩ := hrel
    have hnx : Nx w wr := Rx.nx N hrx (by omega)
    have hsz := hrx.size
    have R' := R.grown hrx (by simp; omega)
    by_cases hlt : j < es.length
    · obtain ⟨e, he⟩ : ∃ e, es[j]? = some e := ⟨_, List.getElem?_eq_getElem hlt⟩
      have rj := World.grownBy.cell hrx (gW4.cell zb (Rd.out (j + 1) (dashT e) (by simp [he]))) (by simp; omega)
      have hmem := List.mem_of_getElem? he
      have hst : es.take (j + 1) = es.take j ++ [e] := by
        obtain ⟨q1, q2⟩ := List.getElem?_eq_some_iff.1 he
        rw [List.take_succ_eq_append_getElem q1, q2]
      have hlen : (es.take j).length ≤ 40 := by simp; omega
      have hj1 : j + 1 < np := by omega
      have hpar := fun w => Hpar.out e hmem w
      generalize es.take j = Lj at *
      generalize dashT e = de at *
      obtain ⟨x, y⟩ := e
      have Hst := Lib.hid hst
      have Hp := Lib.hid hpar
      have q1 := hbo.cell (j := 1) rfl
      have qz := hbo.lt
      clear hst hpar he hmem
      go_wp2_with fail
      refine (Hp.out _).mono ?_
      rintro e w5 ⟨rfl, hn5⟩
      have hb5 := hbo.nx hn5
      have ho5 := hown.nx hn5
      have hr5 : Rx w3.heap.size W4 w5 := hrx.trans (hn5.rx _)
      have q1 := hb5.cell (j := 1) rfl
      have qz := hb5.lt
      clear hbo hown hrx rj
      go_wp2_with (at_builtin; go_must (refine appE (base := W4.heap.size) (t := 41) Lj _ x y rfl rfl Tryd.underlying22 Hi.out Hz0.out Hz1.out Hz2.out rfl rfl (ho5.nx (by repeat (first | exact Nx.refl _ | assumption | apply Nx.alloc | apply Nx.drew | apply Nx.drewN | (refine Nx.setCell ?_ (by first | (simp; done) | (simp; omega) | omega) _) | refine Nx.trans ?_ (by assumption)))) rfl (by go_simp) (by go_simp) (by omega) (by simp; have := hn5.size; omega) ?_; intro A2 c2 w6 hown6 hnx6 hgr6 hbl6; have hb6 := (hb5.nx (Nx.alloc (Nx.alloc (Nx.refl _) _) _)).grown hgr6 (by intro e; have := ho5.lt _ e; omega); have r1 := hb6.cell (j := 1) rfl; have rf := hb6.free))
      have hr6 : Rx w3.heap.size W4 w6 := ((hr5.alloc _).alloc _).ownJ hgr6 (fun t ht => (ho5.lt t ht).1)
      go_roundg (gk - 1)
      case measure => omega
      case rel =>
        refine ⟨j + 1, A2, c2, by omega, by go_num, ?_, ?_, hr6.setCellJ _ _⟩
        · rw [Hst.out, List.length_append]
          exact hb6.set (j := 1) _
        · rw [Hst.out]
          exact hown6.far (by simp; omega) _
    · have hje : es.take j = es := List.take_of_length_le (by omega)
      rw [hje] at hown hbo
      have hnpj : np = j + 1 := by have := Hnp2.out; omega
      have q0 := hbo.cell (j := 0) rfl
      have q1 := hbo.cell (j := 1) rfl
      have qz := hbo.lt
      have hx := hown.edgesAt
      clear hje Rd
      go_wp2_with fail
      refine (Hgv.out A' c' _ hx).mono ?_
      rintro e w7 ⟨rfl, hn7⟩
      replace hbo := hbo.nx hn7
      replace hown := hown.nx hn7
      replace hnx := hnx.trans hn7
      have R7 := R'.nx hn7
      have q0 := hbo.cell (j := 0) rfl
      have q1 := hbo.cell (j := 1) rfl
      have qz := hbo.lt
      go_wp2_with fail
      refine (Hfm.out A' c' _ hown.edgesAt).mono ?_
      rintro e w8 ⟨rfl, hn8⟩
      replace hbo := hbo.nx hn8
      replace hown := hown.nx hn8
      replace hnx := hnx.trans hn8
      have R8 := R7.nx hn8
      have q0 := hbo.cell (j := 0) rfl
      have q1 := hbo.cell (j := 1) rfl
      have qz := hbo.lt
      have R_0 := R8.cell (j := 0) rfl
      have R_1 := R8.cell (j := 1) rfl
      have R_f := R8.free
      have R_z := R8.lt
      go_wp2
      refine bodyPost_ret (v := .tuple #[.agg #[V m, .slice A' es.length c'], .bool true]) (by simp [results, Tryd.f5, go_sem, *]) rfl ?_
      exact ⟨A', c', rfl, ((hown.far (by simp; omega) _).far (by simp; omega) _).mono (by omega), (hnx.setCell (by first | (simp; done) | (simp; omega)) _).setCell (by first | (simp; done) | (simp; omega)) _⟩

set_option maxRecDepth 100000 in
set_option maxHeartbeats 8000000 in
theorem sParse_no (l : List UInt8) (hl : l.length ≤ 1048576) (hno : ∀ m fs, Valid m fs → fmtL m fs ≠ l) (w : World) :
    Calls Tryd.prog 5 #[Str l] w (RetPg 0 [] false w) := by
  have hml := fun p h => mem_cut_len 32 l p h
  have hne := cutL_ne 32 l
  have Hcut := Lib.hid (fun w => (show Calls Tryd.prog 17 #[Str l, .int .u8 32] w (RetSt (cutL 32 l) w) from l14Cut_c l 32 w hl))
  have hcl := cutL_len 32 l
  generalize cutL 32 l = parts at *
  obtain ⟨p0, ps, rfl⟩ : ∃ p ps, parts = p :: ps := by
    cases parts with
    | nil => exact absurd rfl hne
    | cons p ps => exact ⟨p, ps, rfl⟩
  have Hnum := Lib.hid (fun w => l14Num_c p0 w (Nat.le_trans (hml p0 (by simp)) hl))
  have Hpar := Lib.hid (fun p (h : p ∈ ps) w => l1Parse_c p w (Nat.le_trans (hml p (by simp [h])) hl))
  have Hgv := Lib.hid (fun n A c es w h h2 => sGraphValid_c n A c es w h h2)
  have Hfm := Lib.hid (fun n A c es w h h2 => sFormatGraph_c n A c es w h h2)
  have Hno := Lib.hid hno
  obtain ⟨i0, hi, hz0, hz1, hz2⟩ := info_parts infoE
  have Hi := Lib.hid hi
  have Hz0 := Lib.hid hz0
  have Hz1 := Lib.hid hz1
  have Hz2 := Lib.hid hz2
  obtain ⟨np, hnp⟩ : ∃ x, (p0 :: ps).length = x := ⟨_, rfl⟩
  have hnp2 : np = ps.length + 1 := by rw [← hnp]; simp
  unfold RetSt at Hcut
  simp only [hnp] at Hcut
  have hnpl : np ≤ 1048577 := by rw [← hnp]; omega
  clear hi hz0 hz1 hz2 hnp hno hml hne hcl
  go_enter Tryd.func5, Tryd.ntmps5
  go_wp2_with fail
  generalize hW1 : World.alloc _ _ = W1
  have gW1 : Nx w W1 := by subst hW1; exact (by repeat (first | exact Nx.refl _ | assumption | apply Nx.alloc | apply Nx.drew | apply Nx.drewN | (refine Nx.setCell ?_ (by first | (simp; done) | (simp; omega) | omega) _) | refine Nx.trans ?_ (by assumption)))
  have sW1 : W1.heap.size = w.heap.size + 1 := by subst hW1; simp
  have R : Bx W1 (w.heap.size) 24 [V 0, .slice none 0 0] := by subst hW1; have h := Bx.alloc w 24 [V 0, .slice none 0 0]; simpa using h
  have R_0 := R.cell (j := 0) rfl
  have R_1 := R.cell (j := 1) rfl
  have R_z := R.lt
  have HsW1 := Lib.hid sW1
  have lW1 : w.heap.size + 1 ≤ W1.heap.size := by omega
  clear hW1 sW1
  have N := gW1
  refine (Hcut.out _).mono ?_
  rintro e w2 ⟨A, c, rfl, hs, hn2⟩
  replace R := R.nx hn2
  replace R_0 := R.cell (j := 0) rfl
  replace R_1 := R.cell (j := 1) rfl
  replace R_z := R.lt
  replace N := N.trans hn2
  obtain ⟨b, off, rfl, zb, rd⟩ := hs (by simp)
  have r0 := rd 0 p0 rfl
  rw [Nat.add_zero] at r0
  have Rd := Lib.hid rd
  have hnp0 : 0 < np := by omega
  clear hs rd
  go_wp2_with fail
  refine (Hnum.out _).mono ?_
  rintro e w3 ⟨v0, b0, rfl, _, rfl⟩
  clear r0
  have R' := R
  have hnx := N
  have hz3 := hn2.size
  cases b0 with
  | false =>
    have R_0 := R'.cell (j := 0) rfl
    have R_1 := R'.cell (j := 1) rfl
    have R_f := R'.free
    have R_z := R'.lt
    go_wp2
    refine bodyPost_ret (v := .tuple #[.agg #[V 0, .slice none 0 0], .bool false]) (by simp [results, Tryd.f5, go_sem, *]) rfl ?_
    exact ⟨none, 0, rfl, OwnE.nil _ _ _, (by repeat (first | exact Nx.refl _ | assumption | apply Nx.alloc | apply Nx.drew | apply Nx.drewN | (refine Nx.setCell ?_ (by first | (simp; done) | (simp; omega) | omega) _) | refine Nx.trans ?_ (by assumption)))⟩
  | true =>
    by_cases h41 : 41 < np
    · have hd : decide ((41 : Int) < (np : Int)) = true := by simp; omega
      have R_0 := R'.cell (j := 0) rfl
      have R_1 := R'.cell (j := 1) rfl
      have R_f := R'.free
      have R_z := R'.lt
      go_wp2
      refine bodyPost_ret (v := .tuple #[.agg #[V 0, .slice none 0 0], .bool false]) (by simp [results, Tryd.f5, go_sem, *]) rfl ?_
      exact ⟨none, 0, rfl, OwnE.nil _ _ _, (by repeat (first | exact Nx.refl _ | assumption | apply Nx.alloc | apply Nx.drew | apply Nx.drewN | (refine Nx.setCell ?_ (by first | (simp; done) | (simp; omega) | omega) _) | refine Nx.trans ?_ (by assumption)))⟩
    · have hd : decide ((41 : Int) < (np : Int)) = false := by simp; omega
      go_wp2
      generalize hW4 : World.alloc _ _ = W4
      have gW4 : Nx w3 W4 := by subst hW4; exact (by repeat (first | exact Nx.refl _ | assumption | apply Nx.alloc | apply Nx.drew | apply Nx.drewN | (refine Nx.setCell ?_ (by first | (simp; done) | (simp; omega) | omega) _) | refine Nx.trans ?_ (by assumption)))
      have sW4 : W4.heap.size = w3.heap.size + 1 := by subst hW4; simp
      have O : Bx W4 (w3.heap.size) 24 [V v0, .slice none 0 0] := by subst hW4; have h := Bx.alloc w3 24 [V v0, .slice none 0 0]; simpa using h
      have O_0 := O.cell (j := 0) rfl
      have O_1 := O.cell (j := 1) rfl
      have O_z := O.lt
      have HsW4 := Lib.hid sW4
      have lW4 : w3.heap.size + 1 ≤ W4.heap.size := by omega
      clear hW4 sW4
      replace R := R.nx gW4
      replace R_0 := R.cell (j := 0) rfl
      replace R_1 := R.cell (j := 1) rfl
      replace R_z := R.lt
      replace N := N.trans gW4
      have zw3 : w.heap.size < w3.heap.size := by omega
      have z4 := gW4.size
      have Hnp2 := Lib.hid hnp2
      clear O_0 O_1 O_z R_0 R_1 R_z hnp0 R' hnx
      go_loopg [8] ps.length (fun gk i wr => ∃ (j : Nat) (E : Es) (A' : Option Addr) (c' : Nat), j + gk = ps.length ∧ i = .int .i64 ((j : Int) + 1) ∧ E.length = j ∧ Bx wr w3.heap.size 24 [V v0, .slice A' E.length c'] ∧ OwnE wr W4.heap.size 41 A' c' E ∧ Rx w3.heap.size W4 wr)
      case atStart => exact ⟨0, [], none, 0, by omega, rfl, rfl, by simpa using O, by simpa using (OwnE.nil W4 _ _), Rx.refl _ _⟩
      case round =>
        obtain ⟨j, E, A', c', hj, rfl, hEj, hbo, hown, hrx⟩ := hrel
        have hnx : Nx w wr := Rx.nx N hrx (by omega)
        have hsz := hrx.size
        have R' := R.grown hrx (by simp; omega)
        have hE41 : E.length ≤ 41 := by omega
        by_cases hlt : j < ps.length
        · obtain ⟨p, hp⟩ : ∃ e, ps[j]? = some e := ⟨_, List.getElem?_eq_getElem hlt⟩
          have rj := World.grownBy.cell hrx (gW4.cell zb (Rd.out (j + 1) p (by simp [hp]))) (by simp; omega)
          have hj1 : j + 1 < np := by omega
          have Hp := Lib.hid (fun w => Hpar.out p (List.mem_of_getElem? hp) w)
          have HEj := Lib.hid hEj
          have q1 := hbo.cell (j := 1) rfl
          have qz := hbo.lt
          clear hp hEj
          go_wp2_with fail
          refine (Hp.out _).mono ?_
          rintro e w5 ⟨x, y, f, rfl, _, hn5⟩
          have hb5 := hbo.nx hn5
          have ho5 := hown.nx hn5
          have hr5 : Rx w3.heap.size W4 w5 := hrx.trans (hn5.rx _)
          have hnx := hnx.trans hn5
          have R' := R'.nx hn5
          have q1 := hb5.cell (j := 1) rfl
          have qz := hb5.lt
          clear hbo hown hrx rj
          cases f with
          | false =>
            have R_0 := R'.cell (j := 0) rfl
            have R_1 := R'.cell (j := 1) rfl
            have R_f := R'.free
            have R_z := R'.lt
            go_wp2
            refine bodyPost_ret (v := .tuple #[.agg #[V 0, .slice none 0 0], .bool false]) (by simp [results, Tryd.f5, go_sem, *]) rfl ?_
            exact ⟨none, 0, rfl, OwnE.nil _ _ _, (by repeat (first | exact Nx.refl _ | assumption | apply Nx.alloc | apply Nx.drew | apply Nx.drewN | (refine Nx.setCell ?_ (by first | (simp; done) | (simp; omega) | omega) _) | refine Nx.trans ?_ (by assumption)))⟩
          | true =>
            go_wp2_with (at_builtin; go_must (refine appE (base := W4.heap.size) (t := 41) E _ x y rfl rfl Tryd.underlying22 Hi.out Hz0.out Hz1.out Hz2.out rfl rfl (ho5.nx (by repeat (first | exact Nx.refl _ | assumption | apply Nx.alloc | apply Nx.drew | apply Nx.drewN | (refine Nx.setCell ?_ (by first | (simp; done) | (simp; omega) | omega) _) | refine Nx.trans ?_ (by assumption)))) rfl (by go_simp) (by go_simp) (by omega) (by simp; have := hn5.size; omega) ?_; intro A2 c2 w6 hown6 hnx6 hgr6 hbl6; have hb6 := (hb5.nx (Nx.alloc (Nx.alloc (Nx.refl _) _) _)).grown hgr6 (by intro e; have := ho5.lt _ e; omega); have r1 := hb6.cell (j := 1) rfl; have rf := hb6.free))
            have hr6 : Rx w3.heap.size W4 w6 := ((hr5.alloc _).alloc _).ownJ hgr6 (fun t ht => (ho5.lt t ht).1)
            go_roundg (gk - 1)
            case measure => omega
            case rel =>
              refine ⟨j + 1, E ++ [(x, y)], A2, c2, by omega, by go_num, by simp [HEj.out], ?_, ?_, hr6.setCellJ _ _⟩
              · rw [List.length_append]
                exact hb6.set (j := 1) _
              · exact hown6.far (by simp; omega) _
        · have hnpj : np = j + 1 := by have := Hnp2.out; omega
          have q0 := hbo.cell (j := 0) rfl
          have q1 := hbo.cell (j := 1) rfl
          have qz := hbo.lt
          have hx := hown.edgesAt
          have hgv := Hgv.out v0 A' c' E wr hx (by omega)
          have hNo := fun h => Hno.out v0 E h
          obtain ⟨bv, hbv⟩ : ∃ x, decide (Valid v0 E) = x := ⟨_, rfl⟩
          rw [hbv] at hgv
          have Hbv := Lib.hid hbv
          have HNo := Lib.hid hNo
          clear Rd hbv hNo hEj
          go_wp2_with fail
          refine hgv.mono ?_
          rintro e w7 ⟨rfl, hn7⟩
          replace hbo := hbo.nx hn7
          replace hown := hown.nx hn7
          replace hnx := hnx.trans hn7
          replace R' := R'.nx hn7
          have q0 := hbo.cell (j := 0) rfl
          have q1 := hbo.cell (j := 1) rfl
          have qz := hbo.lt
          cases bv with
          | false =>
            have R_0 := R'.cell (j := 0) rfl
            have R_1 := R'.cell (j := 1) rfl
            have R_f := R'.free
            have R_z := R'.lt
            go_wp2
            refine bodyPost_ret (v := .tuple #[.agg #[V 0, .slice none 0 0], .bool false]) (by simp [results, Tryd.f5, go_sem, *]) rfl ?_
            exact ⟨none, 0, rfl, OwnE.nil _ _ _, (by repeat (first | exact Nx.refl _ | assumption | apply Nx.alloc | apply Nx.drew | apply Nx.drewN | (refine Nx.setCell ?_ (by first | (simp; done) | (simp; omega) | omega) _) | refine Nx.trans ?_ (by assumption)))⟩
          | true =>
            have hfne := HNo.out (of_decide_eq_true Hbv.out)
            have hfm := Hfm.out v0 A' c' E w7 hown.edgesAt (by omega)
            generalize fmtL v0 E = T at *
            have Hfm2 := Lib.hid hfm
            have hcmp : (T == l) = false := by simpa using hfne
            clear hfm hgv
            go_wp2_with fail
            refine Hfm2.out.mono ?_
            rintro e w8 ⟨rfl, hn8⟩
            replace hnx := hnx.trans hn8
            replace R' := R'.nx hn8
            have R_0 := R'.cell (j := 0) rfl
            have R_1 := R'.cell (j := 1) rfl
            have R_f := R'.free
            have R_z := R'.lt
            go_wp2
            refine bodyPost_ret (v := .tuple #[.agg #[V 0, .slice none 0 0], .bool false]) (by simp [results, Tryd.f5, go_sem, *]) rfl ?_
            exact ⟨none, 0, rfl, OwnE.nil _ _ _, (by repeat (first | exact Nx.refl _ | assumption | apply Nx.alloc | apply Nx.drew | apply Nx.drewN | (refine Nx.setCell ?_ (by first | (simp; done) | (simp; omega) | omega) _) | refine Nx.trans ?_ (by assumption)))⟩
end Go.Proofs.YtekepbcmjfdcjaaDoor
