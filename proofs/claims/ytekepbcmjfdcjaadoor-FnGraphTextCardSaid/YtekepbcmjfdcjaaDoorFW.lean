/- Contracts: FormatGraph of the reference and of the program. -/
import Derived.Test.YtekepbcmjfdcjaaDoorFV
namespace Go.Proofs.YtekepbcmjfdcjaaDoor
open Go.RowKit set_option linter.unusedVariables false set_option linter.unusedSimpArgs false
open Go.Lib (decDigits)

/-- the text of a graph -/
noncomputable def fmtL (n : Int) (es : Es) : List UInt8 := if Valid n es then gTxt n.toNat es else []

set_option maxRecDepth 100000 in
set_option maxHeartbeats 2000000 in
theorem sFormatGraph_c (n : Int) (A : Option Addr) (c : Nat) (es : Es) (w : World) (hx : EdgesAt w A es) (hl : es.length ≤ 1048576) :
    Calls Tryd.prog 13 #[.agg #[V n, .slice A es.length c]] w (RetV (Str (fmtL n es)) w) := by
  have hgv := fun w' h => sGraphValid_c n A c es w' h (by omega)
  have Hgv := Lib.hid hgv
  clear hgv
  by_cases hv : Valid n es
  · have hf : fmtL n es = gTxt n.toNat es := by simp [fmtL, hv]
    have hs := Sm.of hv
    have hn1 := hv.1
    have hn2 := hv.2.1
    have h40 := hv.2.2.1
    simp only [hv, decide_true] at Hgv
    obtain ⟨n, rfl⟩ := Int.eq_ofNat_of_zero_le (show 0 ≤ n by omega)
    have hn100 : n < 100 := by omega
    have hd := fun w' => l14Dec_c n hn100 w'
    have ld := (dec_len hn100).2
    rw [hf]
    unfold gTxt
    rw [Int.toNat_natCast]
    generalize decDigits n = dn at *
    have Hd := Lib.hid hd
    clear hd hf hv hn1 hn2
    go_enter Tryd.func13, Tryd.ntmps13
    go_wp2_with fail
    generalize hW1 : World.alloc _ _ = W1
    have gW1 : Nx w W1 := by subst hW1; exact (by repeat (first | exact Nx.refl _ | assumption | apply Nx.alloc | apply Nx.drew | apply Nx.drewN | (refine Nx.setCell ?_ (by first | (simp; done) | (simp; omega) | omega) _) | refine Nx.trans ?_ (by assumption)))
    have sW1 : W1.heap.size = w.heap.size + 1 := by subst hW1; simp
    have X0 : Bx W1 (w.heap.size) 24 [V n, .slice A es.length c] := by subst hW1; have h := Bx.alloc w 24 [V n, .slice A es.length c]; simpa using h
    have X0_0 := X0.cell (j := 0) rfl
    have X0_1 := X0.cell (j := 1) rfl
    have X0_z := X0.lt
    have HsW1 := Lib.hid sW1
    have lW1 : w.heap.size + 1 ≤ W1.heap.size := by omega
    clear hW1 sW1
    have N := gW1
    refine (Hgv.out _ (hx.nx N)).mono ?_
    rintro e w2 ⟨rfl, hn2⟩
    replace X0 := X0.nx hn2
    replace X0_0 := X0.cell (j := 0) rfl
    replace X0_1 := X0.cell (j := 1) rfl
    replace X0_z := X0.lt
    replace N := N.trans hn2
    go_wp2_with fail
    refine (Hd.out _).mono ?_
    rintro e w3 ⟨rfl, hn3⟩
    replace X0 := X0.nx hn3
    replace X0_0 := X0.cell (j := 0) rfl
    replace X0_1 := X0.cell (j := 1) rfl
    replace X0_z := X0.lt
    replace N := N.trans hn3
    go_wp2_with fail
    have Hx := Lib.hid (hx.nx N)
    go_loopg [3, 4] es.length (fun gk o i wr => ∃ (k : Nat), k + gk = es.length ∧ o = Str (dn ++ esTxt (es.take k)) ∧ i = .int .i64 k ∧ Nx w3 wr)
    case atStart => exact ⟨0, by omega, by simp [esTxt], rfl, Nx.refl _⟩
    case round =>
      obtain ⟨k, hk, rfl, rfl, hn⟩ := hrel
      have hl1 := esTxt_take_len k hs (by omega)
      replace X0 := X0.nx hn
      replace X0_0 := X0.cell (j := 0) rfl
      replace X0_1 := X0.cell (j := 1) rfl
      replace X0_z := X0.lt
      by_cases hlt : k < es.length
      · obtain ⟨e, he⟩ : ∃ t, es[k]? = some t := ⟨_, List.getElem?_eq_getElem hlt⟩
        obtain ⟨b1, off, rfl, hb1, h1, h2⟩ := (Hx.out.nx hn).rd he
        have hse := hs e (List.mem_of_getElem? he)
        have Hst := Lib.hid (esTxt_take he)
        obtain ⟨x, y⟩ := e
        simp only at h1 h2 hse
        obtain ⟨x, rfl⟩ := Int.eq_ofNat_of_zero_le hse.1
        obtain ⟨y, rfl⟩ := Int.eq_ofNat_of_zero_le hse.2.2.1
        have hxs : x < 100 := by omega
        have hys : y < 100 := by omega
        have ht := fun w' => l1Text_c x y hxs hys w'
        have lx := (dec_len hxs).2
        have ly := (dec_len hys).2
        have Htx : Hid (eTxt ((x : Int), (y : Int)) = [32] ++ (decDigits x ++ 45 :: decDigits y)) := Lib.hid (by simp [eTxt])
        have ltx : (decDigits x ++ 45 :: decDigits y).length ≤ 5 := by simp; omega
        generalize decDigits x ++ 45 :: decDigits y = tx at *
        have Ht := Lib.hid ht
        generalize esTxt (es.take k) = l at *
        have a1 := adds (x := dn ++ l) (y := [32]) (by simp; omega)
        have a2 := adds (x := dn ++ l ++ [32]) (y := tx) (by simp; omega)
        clear ht hse he
        go_wp2_with fail
        refine (Ht.out _).mono ?_
        rintro e w4 ⟨rfl, hn4⟩
        replace X0 := X0.nx hn4
        replace X0_0 := X0.cell (j := 0) rfl
        replace X0_1 := X0.cell (j := 1) rfl
        replace X0_z := X0.lt
        go_wp2_with fail
        go_roundg (gk - 1)
        case measure => omega
        case rel => exact ⟨k + 1, by omega, by rw [Hst.out, Htx.out]; simp [ByteArray.mk_append_mk], by go_num, (by repeat (first | exact Nx.refl _ | assumption | apply Nx.alloc | apply Nx.drew | apply Nx.drewN | (refine Nx.setCell ?_ (by first | (simp; done) | (simp; omega) | omega) _) | refine Nx.trans ?_ (by assumption)))⟩
      · have hex : es.take k = es := List.take_of_length_le (by omega)
        have Hex := Lib.hid hex
        clear hex
        go_wp2_with fail
        go_ret
        refine RetV.mk ?_ (N.trans hn)
        rw [Hex.out]
        rfl
  · have hf : fmtL n es = [] := by simp [fmtL, hv]
    rw [hf]
    simp only [hv, decide_false] at Hgv
    go_enter Tryd.func13, Tryd.ntmps13
    go_wp2_with fail
    generalize hW1 : World.alloc _ _ = W1
    have gW1 : Nx w W1 := by subst hW1; exact (by repeat (first | exact Nx.refl _ | assumption | apply Nx.alloc | apply Nx.drew | apply Nx.drewN | (refine Nx.setCell ?_ (by first | (simp; done) | (simp; omega) | omega) _) | refine Nx.trans ?_ (by assumption)))
    have sW1 : W1.heap.size = w.heap.size + 1 := by subst hW1; simp
    have X0 : Bx W1 (w.heap.size) 24 [V n, .slice A es.length c] := by subst hW1; have h := Bx.alloc w 24 [V n, .slice A es.length c]; simpa using h
    have X0_0 := X0.cell (j := 0) rfl
    have X0_1 := X0.cell (j := 1) rfl
    have X0_z := X0.lt
    have HsW1 := Lib.hid sW1
    have lW1 : w.heap.size + 1 ≤ W1.heap.size := by omega
    clear hW1 sW1
    have N := gW1
    refine (Hgv.out _ (hx.nx N)).mono ?_
    rintro e w2 ⟨rfl, hn2⟩
    replace X0 := X0.nx hn2
    replace X0_0 := X0.cell (j := 0) rfl
    replace X0_1 := X0.cell (j := 1) rfl
    replace X0_z := X0.lt
    replace N := N.trans hn2
    go_wp2_with fail
    go_ret
    exact RetV.mk rfl N

set_option maxRecDepth 100000 in
set_option maxHeartbeats 2000000 in
theorem iFormatGraph_c (n : Int) (A : Option Addr) (c : Nat) (es : Es) (w : World) (hx : EdgesAt w A es) (hl : es.length ≤ 1048576) :
    Calls Tryd.prog 11 #[.agg #[V n, .slice A es.length c]] w (RetV (Str (fmtL n es)) w) := by
  have hgv := fun w' h => iGraphValid_c n A c es w' h (by omega)
  have Hgv := Lib.hid hgv
  clear hgv
  by_cases hv : Valid n es
  · have hf : fmtL n es = gTxt n.toNat es := by simp [fmtL, hv]
    have hs := Sm.of hv
    have hn1 := hv.1
    have hn2 := hv.2.1
    have h40 := hv.2.2.1
    simp only [hv, decide_true] at Hgv
    obtain ⟨n, rfl⟩ := Int.eq_ofNat_of_zero_le (show 0 ≤ n by omega)
    have hn100 : n < 100 := by omega
    have hd := fun w' => itoa_c n hn100 w'
    have ld := (dec_len hn100).2
    rw [hf]
    unfold gTxt
    rw [Int.toNat_natCast]
    generalize decDigits n = dn at *
    have het := fun w' h => edgesText_c dn (by omega) A c es w' h hs (by omega)
    have Hd := Lib.hid hd
    have Het := Lib.hid het
    clear hd het hf hv hn1 hn2
    go_enter Tryd.func11, Tryd.ntmps11
    go_wp2_with fail
    generalize hW1 : World.alloc _ _ = W1
    have gW1 : Nx w W1 := by subst hW1; exact (by repeat (first | exact Nx.refl _ | assumption | apply Nx.alloc | apply Nx.drew | apply Nx.drewN | (refine Nx.setCell ?_ (by first | (simp; done) | (simp; omega) | omega) _) | refine Nx.trans ?_ (by assumption)))
    have sW1 : W1.heap.size = w.heap.size + 1 := by subst hW1; simp
    have X0 : Bx W1 (w.heap.size) 24 [V n, .slice A es.length c] := by subst hW1; have h := Bx.alloc w 24 [V n, .slice A es.length c]; simpa using h
    have X0_0 := X0.cell (j := 0) rfl
    have X0_1 := X0.cell (j := 1) rfl
    have X0_z := X0.lt
    have HsW1 := Lib.hid sW1
    have lW1 : w.heap.size + 1 ≤ W1.heap.size := by omega
    clear hW1 sW1
    have N := gW1
    refine (Hgv.out _ (hx.nx N)).mono ?_
    rintro e w2 ⟨rfl, hn2⟩
    replace X0 := X0.nx hn2
    replace X0_0 := X0.cell (j := 0) rfl
    replace X0_1 := X0.cell (j := 1) rfl
    replace X0_z := X0.lt
    replace N := N.trans hn2
    go_wp2_with fail
    have kp : ∀ w', Nx w2 w' → (fun w_ => Nx w2 w_ ∧ w_.cell? ⟨w.heap.size, 0, none⟩ = some (V n) ∧ w_.cell? ⟨w.heap.size, 1, none⟩ = some (.slice A es.length c)) w' := fun w' h => ⟨h, h.cell X0_z X0_0, h.cell X0_z X0_1⟩
    have hdr : Nx w2 w2.drew := .drew (.refl _)
    go_region_held3 (fun w_ => Nx w2 w_ ∧ w_.cell? ⟨w.heap.size, 0, none⟩ = some (V n) ∧ w_.cell? ⟨w.heap.size, 1, none⟩ = some (.slice A es.length c))
      (first | exact kp _ hdr | exact kp _ hn3 | exact kp _ hn4)
      (first
        | (go_at_call 27; (with_reducible refine (Het.out _ (hx.nx (N.trans hdr))).mono ?_); rintro e w4 ⟨rfl, hn4'⟩; have hn4 : Nx w2 w4 := hdr.trans hn4')
        | (go_at_call 28; (with_reducible refine (Hd.out _).mono ?_); rintro e w3 ⟨rfl, rfl⟩))
    all_goals go_wp2
    all_goals go_ret
    all_goals exact RetV.mk rfl (N.trans hn4)
  · have hf : fmtL n es = [] := by simp [fmtL, hv]
    rw [hf]
    simp only [hv, decide_false] at Hgv
    go_enter Tryd.func11, Tryd.ntmps11
    go_wp2_with fail
    generalize hW1 : World.alloc _ _ = W1
    have gW1 : Nx w W1 := by subst hW1; exact (by repeat (first | exact Nx.refl _ | assumption | apply Nx.alloc | apply Nx.drew | apply Nx.drewN | (refine Nx.setCell ?_ (by first | (simp; done) | (simp; omega) | omega) _) | refine Nx.trans ?_ (by assumption)))
    have sW1 : W1.heap.size = w.heap.size + 1 := by subst hW1; simp
    have X0 : Bx W1 (w.heap.size) 24 [V n, .slice A es.length c] := by subst hW1; have h := Bx.alloc w 24 [V n, .slice A es.length c]; simpa using h
    have X0_0 := X0.cell (j := 0) rfl
    have X0_1 := X0.cell (j := 1) rfl
    have X0_z := X0.lt
    have HsW1 := Lib.hid sW1
    have lW1 : w.heap.size + 1 ≤ W1.heap.size := by omega
    clear hW1 sW1
    have N := gW1
    refine (Hgv.out _ (hx.nx N)).mono ?_
    rintro e w2 ⟨rfl, hn2⟩
    replace X0 := X0.nx hn2
    replace X0_0 := X0.cell (j := 0) rfl
    replace X0_1 := X0.cell (j := 1) rfl
    replace X0_z := X0.lt
    replace N := N.trans hn2
    go_wp2_with fail
    go_ret
    exact RetV.mk rfl N
end Go.Proofs.YtekepbcmjfdcjaaDoor
