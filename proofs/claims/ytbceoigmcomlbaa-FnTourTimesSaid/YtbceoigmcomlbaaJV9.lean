/- FnTourTimes: the walk. Printed by gen_TL.py. -/
import Derived.Test.YtbceoigmcomlbaaJAL
namespace Go.Proofs.Ytbceoigmcomlbaa
open Go.RowKit
set_option linter.unusedVariables false
set_option linter.unusedSimpArgs false
theorem countP_step {E : Es} {m : Nat} {e1 e2 z : Int} (h : E[m]? = some (e1, e2)) : (E.take (m + 1)).countP (touch z) = (E.take m).countP (touch z) + if e1 = z ∨ e2 = z then 1 else 0 := by
  rw [List.take_add_one, h, List.countP_append]
  by_cases hq : e1 = z <;> by_cases hq2 : e2 = z <;> simp [touch, hq, hq2, List.countP_cons]
theorem count_step {xs : List Int} {m : Nat} {y z : Int} (h : xs[m]? = some y) : (xs.take (m + 1)).count z = (xs.take m).count z + if y = z then 1 else 0 := by
  rw [List.take_add_one, h, List.count_append]
  by_cases hq : y = z <;> simp [hq, List.count_cons]
theorem tourTimes_facts {xs : List Int} (h : TV xs) : ∃ E r, tEdges xs = E ∧ decide (TV xs) = true ∧ xs[0]? = some r ∧ 1 ≤ xs.length ∧ E.length ≤ 30 ∧ (∀ (k : Nat) (x : Int), xs[k]? = some x → xs.count x = E.countP (touch x) + if x = r then 1 else 0) := by
  obtain ⟨r, hr⟩ := tv_head h
  refine ⟨eset (stepsL xs), r, tEdges_yes h, decide_eq_true h, hr, h.1.1, tv_len h, fun k x hx => ?_⟩
  rw [tour_times ((tv_iff xs).1 h) x, List.head?_eq_getElem?, hr]
  by_cases hq : x = r
  · subst hq; simp
  · rw [if_neg hq, if_neg (fun h => hq (by injection h with h; exact h.symm))]
set_option maxRecDepth 100000 in
set_option maxHeartbeats 1000000 in
theorem fnTourTimes_walk (w : World) (A : Option Addr) (n c : Nat) (hnc : n ≤ c) (hb : BytesAt w w.heap.size A n) :
    Calls Try.prog 3 #[.slice A n c] w (RetV (.bool true) w) := by
  by_cases hbig : (n : Int) > 1048576
  · go_enter Try.func3, Try.ntmps3
    go_wp2
    go_ret
    exact RetV.bool rfl (by repeat (first | exact Nx.refl _ | assumption | apply Nx.alloc | apply Nx.drew | apply Nx.drewN | (refine Nx.setCell ?_ (by first | (simp; done) | (simp; omega) | omega) _) | refine Nx.trans ?_ (by assumption)))
  · go_enter Try.func3, Try.ntmps3
    go_wp2_with fail
    refine (drawTourValid_c A n c _ hnc hb).mono ?_
    rintro e w1 ⟨B, d, xs, rfl, h1, h2, ho, N⟩
    have hx := ho.intsAt
    have hd := ho.cap
    clear ho hb
    by_cases hp : TV xs
    · obtain ⟨E, r, e1, e2, h0, h1x, lE, hz⟩ := tourTimes_facts hp
      have He1 := Lib.hid e1
      have He2 := Lib.hid e2
      have Hh0 := Lib.hid h0
      have Hhz := Lib.hid hz
      clear e1 e2 h0 hz
      clear hp
      have hl0 : (0 : Int) < (xs.length : Int) := by omega
      have hnl0 : 0 < xs.length := by omega
      go_wp2_with fail
      refine (iValid_t B d _ _ He2.out rfl hd hx (by omega)).mono ?_
      rintro e w2 ⟨rfl, hn⟩
      replace hx := hx.nx hn
      replace N := N.trans hn
      clear hn
      go_wp2_with fail
      refine (sValid_t B d _ _ He2.out rfl hd hx (by omega)).mono ?_
      rintro e w3 ⟨rfl, hn⟩
      replace hx := hx.nx hn
      replace N := N.trans hn
      clear hn
      go_wp2_with fail
      refine (iEdges_t B d _ _ He1.out He2.out rfl hd hx (by omega)).mono ?_
      rintro e w4 ⟨AE1, cE1, rfl, hoE1, hn⟩
      replace hx := hx.nx hn
      replace N := N.trans hn
      clear hn
      have E1 := hoE1.edgesAt
      have capE1 := hoE1.cap
      clear hoE1
      obtain ⟨bhx, offhx, rfl, hblhx, hchx⟩ := hx.rd Hh0.out
      simp only [Nat.add_zero] at hchx
      go_wp2_with fail
      obtain ⟨v7, hv7⟩ : ∃ v, v = w4 := ⟨_, rfl⟩
      subst hv7
      go_loopg [7] xs.length (fun gk i wr => ∃ k : Nat, k + gk = xs.length ∧ i = .int .i64 k ∧ Nx v7 wr)
      case atStart => exact ⟨0, by omega, rfl, Nx.refl _⟩
      case round =>
        obtain ⟨k, hk, rfl, hn⟩ := hrel
        replace hx := hx.nx hn
        replace E1 := E1.nx hn
        replace hchx := hn.cell hblhx hchx
        replace hblhx := Nat.lt_of_lt_of_le hblhx hn.size
        replace N := N.trans hn
        have h7 := hn
        clear hn
        by_cases hlt : k < xs.length
        · obtain ⟨z, hek⟩ : ∃ x, xs[k]? = some x := ⟨_, List.getElem?_eq_getElem hlt⟩
          have Hcnt := Lib.hid (Hhz.out k z hek)
          obtain ⟨b, off, hbo, hbl, hc⟩ := hx.rd hek
          injection hbo with hbo
          injection hbo with hb1 hb2
          subst hb1 hb2
          clear hek Hhz Hh0
          have hlti : (k : Int) < (xs.length : Int) := by omega
          obtain ⟨w8, hw8⟩ : ∃ x : World, x = wr := ⟨_, rfl⟩
          subst hw8
          obtain ⟨g0, hg0⟩ : ∃ x : Nat, x = gk := ⟨_, rfl⟩
          subst hg0
          go_wp2
          go_loopg [8, 9] xs.length (fun gk t j wr => ∃ m : Nat, m + gk = xs.length ∧ j = .int .i64 m ∧ t = .int .i64 ((xs.take m).count z) ∧ Nx w8 wr)
          case atStart => exact ⟨0, by omega, rfl, by simp, Nx.refl _⟩
          case round =>
            obtain ⟨m, hm, rfl, rfl, hn⟩ := hrel
            by_cases hlm : m < xs.length
            · obtain ⟨y, hey⟩ : ∃ x, xs[m]? = some x := ⟨_, List.getElem?_eq_getElem hlm⟩
              obtain ⟨b2, off2, hbo, hbl2, hc2⟩ := (hx.nx hn).rd hey
              injection hbo with hbo
              injection hbo with hb1 hb2
              subst hb1 hb2
              have hc := hn.cell hbl hc
              have hltm : (m : Int) < (xs.length : Int) := by omega
              have hst := count_step (z := z) hey
              have hcl : (xs.take m).count z ≤ 31 := Nat.le_trans List.count_le_length (by rw [List.length_take]; omega)
              generalize (xs.take m).count z = u at *
              by_cases hq : y = z
              · rw [if_pos hq] at hst
                have Hst := Lib.hid hst
                subst hq
                clear hst hey
                go_wp2
                go_quiet (fail)
                go_wp2
                go_roundg (gk - 1)
                case measure => omega
                case rel => exact ⟨m + 1, by omega, by go_num, by rw [Hst.out]; go_num, hn.trans (by (repeat (first | exact Nx.refl _ | assumption | apply Nx.alloc | apply Nx.drew | apply Nx.drewN | (refine Nx.setCell ?_ (by first | (simp; done) | (simp; omega) | omega) _) | refine Nx.trans ?_ (by assumption))); done)⟩
              · rw [if_neg hq] at hst
                have Hst := Lib.hid hst
                have hq2 : decide (y = z) = false := decide_eq_false hq
                clear hst hey
                go_wp2
                go_quiet (fail)
                go_wp2
                go_roundg (gk - 1)
                case measure => omega
                case rel => exact ⟨m + 1, by omega, by go_num, by rw [Hst.out]; go_num, hn.trans (by (repeat (first | exact Nx.refl _ | assumption | apply Nx.alloc | apply Nx.drew | apply Nx.drewN | (refine Nx.setCell ?_ (by first | (simp; done) | (simp; omega) | omega) _) | refine Nx.trans ?_ (by assumption))); done)⟩
            · have hfull : xs.take m = xs := List.take_of_length_le (by omega)
              rw [hfull]
              clear hfull
              replace hx := hx.nx hn
              replace E1 := E1.nx hn
              replace hchx := hn.cell hblhx hchx
              replace hc := hn.cell hbl hc
              replace hbl := Nat.lt_of_lt_of_le hbl hn.size
              replace hblhx := Nat.lt_of_lt_of_le hblhx hn.size
              replace N := N.trans hn
              replace h7 := h7.trans hn
              clear hn
              have hT : xs.count z ≤ 31 := Nat.le_trans List.count_le_length (by omega)
              generalize xs.count z = T at *
              obtain ⟨w9, hw9⟩ : ∃ x : World, x = wr := ⟨_, rfl⟩
              subst hw9
              go_wp2
              go_loopg [10, 11] E.length (fun gk t j wr => ∃ m : Nat, m + gk = E.length ∧ j = .int .i64 m ∧ t = .int .i64 ((E.take m).countP (touch z)) ∧ Nx w9 wr)
              case atStart => exact ⟨0, by omega, rfl, by simp, Nx.refl _⟩
              case round =>
                obtain ⟨m2, hm2, rfl, rfl, hn⟩ := hrel
                by_cases hlm2 : m2 < E.length
                · obtain ⟨⟨e1, e2⟩, hey⟩ : ∃ x, E[m2]? = some x := ⟨_, List.getElem?_eq_getElem hlm2⟩
                  obtain ⟨b3, off3, rfl, hbl3, hc3, hc4⟩ := (E1.nx hn).rd hey
                  have hc := hn.cell hbl hc
                  have hltm : (m2 : Int) < (E.length : Int) := by omega
                  have hst := countP_step (z := z) hey
                  have hcl : (E.take m2).countP (touch z) ≤ 31 := Nat.le_trans List.countP_le_length (by rw [List.length_take]; omega)
                  generalize (E.take m2).countP (touch z) = u at *
                  by_cases hq : e1 = z
                  · rw [if_pos (Or.inl hq)] at hst
                    have Hst := Lib.hid hst
                    subst hq
                    clear hst hey
                    go_wp2
                    go_quiet (fail)
                    go_wp2
                    go_roundg (gk - 1)
                    case measure => omega
                    case rel => exact ⟨m2 + 1, by omega, by go_num, by rw [Hst.out]; go_num, hn.trans (by (repeat (first | exact Nx.refl _ | assumption | apply Nx.alloc | apply Nx.drew | apply Nx.drewN | (refine Nx.setCell ?_ (by first | (simp; done) | (simp; omega) | omega) _) | refine Nx.trans ?_ (by assumption))); done)⟩
                  · have hq2 : decide (e1 = z) = false := decide_eq_false hq
                    by_cases hq3 : e2 = z
                    · rw [if_pos (Or.inr hq3)] at hst
                      have Hst := Lib.hid hst
                      subst hq3
                      clear hst hey
                      go_wp2
                      go_quiet (fail)
                      go_wp2
                      go_roundg (gk - 1)
                      case measure => omega
                      case rel => exact ⟨m2 + 1, by omega, by go_num, by rw [Hst.out]; go_num, hn.trans (by (repeat (first | exact Nx.refl _ | assumption | apply Nx.alloc | apply Nx.drew | apply Nx.drewN | (refine Nx.setCell ?_ (by first | (simp; done) | (simp; omega) | omega) _) | refine Nx.trans ?_ (by assumption))); done)⟩
                    · have hq4 : decide (e2 = z) = false := decide_eq_false hq3
                      have hq5 : (e1 == z) = false := by simpa using hq
                      have hq6 : (e2 == z) = false := by simpa using hq3
                      have hno : ¬ (e1 = z ∨ e2 = z) := fun h => h.elim hq hq3
                      rw [if_neg hno, Nat.add_zero] at hst
                      clear hno
                      have Hst := Lib.hid hst
                      clear hst hey
                      go_wp2
                      go_quiet (fail)
                      go_wp2
                      go_roundg (gk - 1)
                      case measure => omega
                      case rel => exact ⟨m2 + 1, by omega, by go_num, by rw [Hst.out]; go_num, hn.trans (by (repeat (first | exact Nx.refl _ | assumption | apply Nx.alloc | apply Nx.drew | apply Nx.drewN | (refine Nx.setCell ?_ (by first | (simp; done) | (simp; omega) | omega) _) | refine Nx.trans ?_ (by assumption))); done)⟩
                · have hfull : E.take m2 = E := List.take_of_length_le (by omega)
                  rw [hfull]
                  clear hfull
                  replace hchx := hn.cell hblhx hchx
                  replace hc := hn.cell hbl hc
                  have hP : E.countP (touch z) ≤ 31 := Nat.le_trans List.countP_le_length (by omega)
                  have h8 := h7.trans hn
                  generalize E.countP (touch z) = P at *
                  by_cases hq : z = r
                  · have hwT : IntKind.i64.wrap ((P : Int) + 1) = (T : Int) := by have := Hcnt.out; rw [if_pos hq] at this; rw [IntKind.wrap_i64]; omega
                    clear Hcnt
                    subst hq
                    go_wp2
                    go_quiet (fail)
                    go_wp2
                    go_roundg (g0 - 1)
                    case measure => omega
                    case rel => exact ⟨k + 1, by omega, by go_num, h8.trans (by (repeat (first | exact Nx.refl _ | assumption | apply Nx.alloc | apply Nx.drew | apply Nx.drewN | (refine Nx.setCell ?_ (by first | (simp; done) | (simp; omega) | omega) _) | refine Nx.trans ?_ (by assumption))); done)⟩
                  · have HT : T = P := by have := Hcnt.out; rw [if_neg hq] at this; omega
                    clear Hcnt
                    subst HT
                    have hq2 : decide (z = r) = false := decide_eq_false hq
                    go_wp2
                    go_quiet (fail)
                    go_wp2
                    go_roundg (g0 - 1)
                    case measure => omega
                    case rel => exact ⟨k + 1, by omega, by go_num, h8.trans (by (repeat (first | exact Nx.refl _ | assumption | apply Nx.alloc | apply Nx.drew | apply Nx.drewN | (refine Nx.setCell ?_ (by first | (simp; done) | (simp; omega) | omega) _) | refine Nx.trans ?_ (by assumption))); done)⟩
        · go_wp2
          go_ret
          exact RetV.bool rfl (by repeat (first | exact Nx.refl _ | assumption | apply Nx.alloc | apply Nx.drew | apply Nx.drewN | (refine Nx.setCell ?_ (by first | (simp; done) | (simp; omega) | omega) _) | refine Nx.trans ?_ (by assumption)))
    · have e2 : Hid (decide (TV xs) = false) := Lib.hid (decide_eq_false hp)
      clear hp
      go_wp2_with fail
      refine (iValid_t B d _ _ e2.out rfl hd hx (by omega)).mono ?_
      rintro e w2 ⟨rfl, hn⟩
      replace hx := hx.nx hn
      replace N := N.trans hn
      clear hn
      go_wp2_with fail
      refine (sValid_t B d _ _ e2.out rfl hd hx (by omega)).mono ?_
      rintro e w3 ⟨rfl, hn⟩
      replace hx := hx.nx hn
      replace N := N.trans hn
      clear hn
      go_wp2_with fail
      refine (sValid_t B d _ _ e2.out rfl hd hx (by omega)).mono ?_
      rintro e w4 ⟨rfl, hn⟩
      replace hx := hx.nx hn
      replace N := N.trans hn
      clear hn
      go_wp2
      go_ret
      exact RetV.bool (by first | rfl | simp) (by repeat (first | exact Nx.refl _ | assumption | apply Nx.alloc | apply Nx.drew | apply Nx.drewN | (refine Nx.setCell ?_ (by first | (simp; done) | (simp; omega) | omega) _) | refine Nx.trans ?_ (by assumption)))
end Go.Proofs.Ytbceoigmcomlbaa
