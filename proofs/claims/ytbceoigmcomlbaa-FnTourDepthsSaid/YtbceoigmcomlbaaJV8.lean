/- FnTourDepths: the walk. Printed by gen_TL.py. -/
import Derived.Test.YtbceoigmcomlbaaJAL
namespace Go.Proofs.Ytbceoigmcomlbaa
open Go.RowKit
set_option linter.unusedVariables false
set_option linter.unusedSimpArgs false
theorem tourDepths_facts {xs : List Int} (h : TV xs) : ∃ D r, tDepths xs = D ∧ decide (TV xs) = true ∧ xs[0]? = some r ∧ D.length = xs.length ∧ 1 ≤ xs.length ∧ (∀ (k : Nat) (x : Int), xs[k]? = some x → ∃ d : Nat, D[k]? = some (d : Int) ∧ d ≤ 31 ∧ decide ((d : Int) = 0) = decide (x = r)) ∧ (∀ k : Nat, k + 1 < xs.length → ∃ d e : Nat, D[k]? = some (e : Int) ∧ D[k + 1]? = some (d : Int) ∧ e ≤ 31 ∧ (d = e + 1 ∨ e = d + 1)) := by
  obtain ⟨r, hr⟩ := tv_head h
  have hT := (tv_iff xs).1 h
  have step : ∀ k, k + 1 < xs.length → depN xs (k + 1) = depN xs k + 1 ∨ depN xs k = depN xs (k + 1) + 1 := fun k hk => depN_step hT hk
  have hb : ∀ k, k < xs.length → depN xs k ≤ k := by
    intro k
    induction k with
    | zero => intro h0; have := (depN_root hT hr).2 hr; omega
    | succ k ih => intro h0; have := ih (by omega); have := step k h0; omega
  have hl := h.1.2.1
  refine ⟨depL xs, r, tDepths_yes h, decide_eq_true h, hr, depL_len _, h.1.1, fun k x hx => ?_, fun k hk => ?_⟩
  · have hk := (List.getElem?_eq_some_iff.1 hx).1
    refine ⟨depN xs k, depL_get hk, by have := hb k hk; omega, decide_eq_decide.2 ?_⟩
    have := depN_root hT hx
    rw [hr] at this
    constructor
    · intro h0; have := this.1 (by omega); injection this with this; exact this.symm
    · intro h0; subst h0; have := this.2 rfl; omega
  · exact ⟨depN xs (k + 1), depN xs k, depL_get (by omega), depL_get hk, by have := hb k (by omega); omega, step k hk⟩
set_option maxRecDepth 100000 in
set_option maxHeartbeats 1000000 in
theorem fnTourDepths_walk (w : World) (A : Option Addr) (n c : Nat) (hnc : n ≤ c) (hb : BytesAt w w.heap.size A n) :
    Calls Try.prog 7 #[.slice A n c] w (RetV (.bool true) w) := by
  by_cases hbig : (n : Int) > 1048576
  · go_enter Try.func7, Try.ntmps7
    go_wp2
    go_ret
    exact RetV.bool rfl (by repeat (first | exact Nx.refl _ | assumption | apply Nx.alloc | apply Nx.drew | apply Nx.drewN | (refine Nx.setCell ?_ (by first | (simp; done) | (simp; omega) | omega) _) | refine Nx.trans ?_ (by assumption)))
  · go_enter Try.func7, Try.ntmps7
    go_wp2_with fail
    refine (drawTourDepths_c A n c _ hnc hb).mono ?_
    rintro e w1 ⟨B, d, xs, rfl, h1, h2, ho, N⟩
    have hx := ho.intsAt
    have hd := ho.cap
    clear ho hb
    by_cases hp : TV xs
    · obtain ⟨D, r, e1, e2, h0, hDl, h1x, hz, hst⟩ := tourDepths_facts hp
      have He1 := Lib.hid e1
      have He2 := Lib.hid e2
      have Hh0 := Lib.hid h0
      have Hhz := Lib.hid hz
      have Hhst := Lib.hid hst
      clear e1 e2 h0 hz hst
      clear hp
      have lD : D.length ≤ 31 := by have := hDl; omega
      have HDl := Lib.hid hDl
      clear hDl
      have hl0 : (0 : Int) < (xs.length : Int) := by omega
      have hnl0 : 0 < xs.length := by omega
      go_wp2_with fail
      refine (iDepths_t B d _ _ He1.out He2.out rfl hd hx (by omega)).mono ?_
      rintro e w2 ⟨AX1, cX1, rfl, hoX1, hn⟩
      replace hx := hx.nx hn
      replace N := N.trans hn
      clear hn
      have X1 := hoX1.intsAt
      have capX1 := hoX1.cap
      clear hoX1
      go_wp2_with fail
      refine (sDepths_t B d _ _ He1.out He2.out rfl hd hx (by omega)).mono ?_
      rintro e w3 ⟨AX2, cX2, rfl, hoX2, hn⟩
      replace hx := hx.nx hn
      replace X1 := X1.nx hn
      replace N := N.trans hn
      clear hn
      have X2 := hoX2.intsAt
      have capX2 := hoX2.cap
      clear hoX2
      go_wp2_with fail
      refine (same_i _ _ _ _ _ X1 X2 (by omega)).mono ?_
      rintro e w4 ⟨rfl, hn⟩
      replace hx := hx.nx hn
      replace X1 := X1.nx hn
      replace X2 := X2.nx hn
      replace N := N.trans hn
      clear hn
      go_wp2_with fail
      refine (iValid_t B d _ _ He2.out rfl hd hx (by omega)).mono ?_
      rintro e w5 ⟨rfl, hn⟩
      replace hx := hx.nx hn
      replace X1 := X1.nx hn
      replace X2 := X2.nx hn
      replace N := N.trans hn
      clear hn
      go_wp2_with fail
      refine (sValid_t B d _ _ He2.out rfl hd hx (by omega)).mono ?_
      rintro e w6 ⟨rfl, hn⟩
      replace hx := hx.nx hn
      replace X1 := X1.nx hn
      replace X2 := X2.nx hn
      replace N := N.trans hn
      clear hn
      clear X2
      obtain ⟨bhx, offhx, rfl, hblhx, hchx⟩ := hx.rd Hh0.out
      simp only [Nat.add_zero] at hchx
      go_wp2_with fail
      obtain ⟨v7, hv7⟩ : ∃ v, v = w6 := ⟨_, rfl⟩
      subst hv7
      go_loopg [8] D.length (fun gk i wr => ∃ k : Nat, k + gk = D.length ∧ i = .int .i64 k ∧ Nx v7 wr)
      case atStart => exact ⟨0, by omega, rfl, Nx.refl _⟩
      case round =>
        obtain ⟨k, hk, rfl, hn⟩ := hrel
        replace hx := hx.nx hn
        replace X1 := X1.nx hn
        replace hchx := hn.cell hblhx hchx
        replace hblhx := Nat.lt_of_lt_of_le hblhx hn.size
        replace N := N.trans hn
        have h7 := hn
        clear hn
        by_cases hlt : k < D.length
        · obtain ⟨z, hek⟩ : ∃ x, xs[k]? = some x := ⟨_, List.getElem?_eq_getElem (by have := HDl.out; omega)⟩
          obtain ⟨dd, hdk, hdd, hdz⟩ := Hhz.out k z hek
          obtain ⟨b, off, hbo, hbl, hc⟩ := hx.rd hek
          obtain ⟨b2, off2, rfl, hbl2, hc2⟩ := X1.rd hdk
          injection hbo with hbo
          injection hbo with hb1 hb2
          subst hb1 hb2
          have hlti : (k : Int) < (xs.length : Int) := by have := HDl.out; omega
          have hltd : (k : Int) < (D.length : Int) := by omega
          have hltx : k < xs.length := by have := HDl.out; omega
          by_cases hk0 : k = 0
          · have hkz : decide ((k : Int) > 0) = false := by simp; omega
            have hkz2 : ¬ (0 : Int) < (k : Int) := by omega
            have hkz3 : (k : Int) ≤ 0 := by omega
            have hkz4 : ¬ 0 < k := by omega
            have hkz5 : decide (0 < k) = false := decide_eq_false hkz4
            have hkz6 : decide ((0 : Int) < (k : Int)) = false := decide_eq_false hkz2
            have hzr : z = r := by have := Hh0.out; rw [hk0, this] at hek; injection hek with hek; exact hek.symm
            subst hzr
            have hd0 : dd = 0 := by simp at hdz; omega
            subst hd0
            clear hdz hek hdk
            have hc2 : wr.cell? ⟨b2, off2 + k, none⟩ = some (V 0) := hc2
            clear hk0 Hh0 Hhz Hhst
            go_wp2_with fail
            go_quiet (fail)
            all_goals go_wp2
            all_goals go_roundg (gk - 1)
            all_goals first | (case measure => omega) | skip
            all_goals exact ⟨k + 1, by omega, by go_num, h7.trans (by (repeat (first | exact Nx.refl _ | assumption | apply Nx.alloc | apply Nx.drew | apply Nx.drewN | (refine Nx.setCell ?_ (by first | (simp; done) | (simp; omega) | omega) _) | refine Nx.trans ?_ (by assumption))); done)⟩
          · have hk1 : ¬ ((k : Int) ≤ 0) := by omega
            have hk2 : (0 : Int) < (k : Int) := by omega
            have hk3 : 0 < k := by omega
            obtain ⟨m, hm⟩ : ∃ m, k = m + 1 := ⟨k - 1, by omega⟩
            obtain ⟨d2, ee, hem, hdk2, he31, hor⟩ := Hhst.out m (by omega)
            have hdd2 : d2 = dd := by rw [← hm, hdk] at hdk2; injection hdk2 with h; omega
            subst hdd2
            have hltm : (m : Int) < (D.length : Int) := by omega
            have hltm2 : m < D.length := by omega
            have hwk : IntKind.i64.wrap ((k : Int) - 1) = (m : Int) := by rw [IntKind.wrap_i64]; omega
            have hc3 : wr.cell? ⟨b2, off2 + m, none⟩ = some (V ee) := by
              obtain ⟨b3, off3, h3, hbl3, hc3⟩ := X1.rd hem
              injection h3 with h3
              injection h3 with h3 h4
              subst h3 h4
              exact hc3
            have Hm := Lib.hid hm
            obtain ⟨p, hp1⟩ : ∃ p : Int, IntKind.i64.wrap ((ee : Int) + 1) = p := ⟨_, rfl⟩
            obtain ⟨p2, hp2⟩ : ∃ p : Int, IntKind.i64.wrap ((ee : Int) - 1) = p := ⟨_, rfl⟩
            have hpe : p = (ee : Int) + 1 := by rw [← hp1, IntKind.wrap_i64]; omega
            have hpe2 : p2 = (ee : Int) - 1 := by rw [← hp2, IntKind.wrap_i64]; omega
            have hcase : (d2 : Int) = p ∨ (d2 : Int) = p2 ∧ ((d2 : Int) == p) = false := by
              rcases hor with h | h
              · exact Or.inl (by omega)
              · exact Or.inr ⟨by omega, by simp; omega⟩
            generalize hdi : (d2 : Int) = di at *
            have hdz' : (di == 0) = (z == r) := by
              rw [Bool.eq_iff_iff]; simp; simpa using hdz
            clear hpe hpe2 hor hm hek hdk hdk2 hem hdz hdi
            rcases hcase with hcase | ⟨hcase, hne⟩
            · subst hcase
              by_cases hq : z = r
              · subst hq
                have hdz' : di = 0 := by simpa using hdz'
                subst hdz'
                go_wp2_with fail
                go_quiet (fail)
                all_goals go_wp2
                all_goals go_roundg (gk - 1)
                all_goals first | (case measure => omega) | skip
                all_goals exact ⟨k + 1, by omega, by go_num, h7.trans (by (repeat (first | exact Nx.refl _ | assumption | apply Nx.alloc | apply Nx.drew | apply Nx.drewN | (refine Nx.setCell ?_ (by first | (simp; done) | (simp; omega) | omega) _) | refine Nx.trans ?_ (by assumption))); done)⟩
              · have hq2 : (z == r) = false := by simpa using hq
                rw [hq2] at hdz'
                go_wp2_with fail
                go_quiet (fail)
                all_goals go_wp2
                all_goals go_roundg (gk - 1)
                all_goals first | (case measure => omega) | skip
                all_goals exact ⟨k + 1, by omega, by go_num, h7.trans (by (repeat (first | exact Nx.refl _ | assumption | apply Nx.alloc | apply Nx.drew | apply Nx.drewN | (refine Nx.setCell ?_ (by first | (simp; done) | (simp; omega) | omega) _) | refine Nx.trans ?_ (by assumption))); done)⟩
            · have hne2 : ¬ di = p := by simpa using hne
              have hne3 : decide (di = p) = false := decide_eq_false hne2
              subst hcase
              by_cases hq : z = r
              · subst hq
                have hdz' : di = 0 := by simpa using hdz'
                subst hdz'
                go_wp2_with fail
                go_quiet (fail)
                all_goals go_wp2
                all_goals go_roundg (gk - 1)
                all_goals first | (case measure => omega) | skip
                all_goals exact ⟨k + 1, by omega, by go_num, h7.trans (by (repeat (first | exact Nx.refl _ | assumption | apply Nx.alloc | apply Nx.drew | apply Nx.drewN | (refine Nx.setCell ?_ (by first | (simp; done) | (simp; omega) | omega) _) | refine Nx.trans ?_ (by assumption))); done)⟩
              · have hq2 : (z == r) = false := by simpa using hq
                rw [hq2] at hdz'
                go_wp2_with fail
                go_quiet (fail)
                all_goals go_wp2
                all_goals go_roundg (gk - 1)
                all_goals first | (case measure => omega) | skip
                all_goals exact ⟨k + 1, by omega, by go_num, h7.trans (by (repeat (first | exact Nx.refl _ | assumption | apply Nx.alloc | apply Nx.drew | apply Nx.drewN | (refine Nx.setCell ?_ (by first | (simp; done) | (simp; omega) | omega) _) | refine Nx.trans ?_ (by assumption))); done)⟩
        · have hl2 : (D.length : Int) = (xs.length : Int) := by have := HDl.out; omega
          go_wp2
          go_ret
          exact RetV.bool (by first | rfl | simp [hl2]) (by repeat (first | exact Nx.refl _ | assumption | apply Nx.alloc | apply Nx.drew | apply Nx.drewN | (refine Nx.setCell ?_ (by first | (simp; done) | (simp; omega) | omega) _) | refine Nx.trans ?_ (by assumption)))
    · have e1 := Lib.hid (tDepths_no hp)
      have e2 : Hid (decide (TV xs) = false) := Lib.hid (decide_eq_false hp)
      clear hp
      go_wp2_with fail
      refine (iDepths_t B d _ _ e1.out e2.out rfl hd hx (by omega)).mono ?_
      rintro e w2 ⟨AX1, cX1, rfl, hoX1, hn⟩
      replace hx := hx.nx hn
      replace N := N.trans hn
      clear hn
      have X1 := hoX1.intsAt
      have capX1 := hoX1.cap
      clear hoX1
      go_wp2_with fail
      refine (sDepths_t B d _ _ e1.out e2.out rfl hd hx (by omega)).mono ?_
      rintro e w3 ⟨AX2, cX2, rfl, hoX2, hn⟩
      replace hx := hx.nx hn
      replace X1 := X1.nx hn
      replace N := N.trans hn
      clear hn
      have X2 := hoX2.intsAt
      have capX2 := hoX2.cap
      clear hoX2
      go_wp2_with fail
      refine (same_i (xs := []) _ _ _ _ _ X1 X2 (by simp)).mono ?_
      rintro e w4 ⟨rfl, hn⟩
      replace hx := hx.nx hn
      replace X1 := X1.nx hn
      replace X2 := X2.nx hn
      replace N := N.trans hn
      clear hn
      go_wp2_with fail
      refine (iValid_t B d _ _ e2.out rfl hd hx (by omega)).mono ?_
      rintro e w5 ⟨rfl, hn⟩
      replace hx := hx.nx hn
      replace X1 := X1.nx hn
      replace X2 := X2.nx hn
      replace N := N.trans hn
      clear hn
      go_wp2_with fail
      refine (sValid_t B d _ _ e2.out rfl hd hx (by omega)).mono ?_
      rintro e w6 ⟨rfl, hn⟩
      replace hx := hx.nx hn
      replace X1 := X1.nx hn
      replace X2 := X2.nx hn
      replace N := N.trans hn
      clear hn
      go_wp2_with fail
      refine (same_i (xs := []) _ _ _ _ _ X1 X2 (by simp)).mono ?_
      rintro e w7 ⟨rfl, hn⟩
      replace hx := hx.nx hn
      replace X1 := X1.nx hn
      replace X2 := X2.nx hn
      replace N := N.trans hn
      clear hn
      go_wp2_with fail
      refine (iValid_t B d _ _ e2.out rfl hd hx (by omega)).mono ?_
      rintro e w8 ⟨rfl, hn⟩
      replace hx := hx.nx hn
      replace X1 := X1.nx hn
      replace X2 := X2.nx hn
      replace N := N.trans hn
      clear hn
      go_wp2_with fail
      refine (sValid_t B d _ _ e2.out rfl hd hx (by omega)).mono ?_
      rintro e w9 ⟨rfl, hn⟩
      replace hx := hx.nx hn
      replace X1 := X1.nx hn
      replace X2 := X2.nx hn
      replace N := N.trans hn
      clear hn
      go_wp2
      go_ret
      exact RetV.bool (by first | rfl | simp) (by repeat (first | exact Nx.refl _ | assumption | apply Nx.alloc | apply Nx.drew | apply Nx.drewN | (refine Nx.setCell ?_ (by first | (simp; done) | (simp; omega) | omega) _) | refine Nx.trans ?_ (by assumption)))
end Go.Proofs.Ytbceoigmcomlbaa
