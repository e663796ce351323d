import Derived.Test.YtbceoigmcomlbaaJ21
import Derived.Test.YtbceoigmcomlbaaJ22
import Derived.Test.YtbceoigmcomlbaaJ15
/- Contract: slices.Compact over a row of edges of one's own. -/
namespace Go.Proofs.Ytbceoigmcomlbaa
open Go.RowKit set_option linter.unusedVariables false set_option linter.unusedSimpArgs false

def ddStep (acc : Es) (x : Int × Int) : Es := if acc.getLast? = some x then acc else acc ++ [x]
/-- no edge twice in a row -/
def ddE (L : Es) : Es := L.foldl ddStep []
theorem ddE_snoc (L : Es) (x : Int × Int) : ddE (L ++ [x]) = ddStep (ddE L) x := by unfold ddE; rw [List.foldl_append]; rfl
theorem ddE_take {L : Es} {k : Nat} {x : Int × Int} (h : L[k]? = some x) : ddE (L.take (k + 1)) = ddStep (ddE (L.take k)) x := by
  have : L.take (k + 1) = L.take k ++ [x] := by rw [List.take_add_one, h]; rfl
  rw [this, ddE_snoc]
theorem ddE_last : ∀ (n : Nat) (L : Es), L.length = n → (ddE L).getLast? = L.getLast? := fun n L _ => by
  rcases List.eq_nil_or_concat L with h | ⟨M, y, h⟩
  · subst h; rfl
  · rw [List.concat_eq_append] at h
    subst h
    rw [ddE_snoc, List.getLast?_concat]
    unfold ddStep
    split
    · assumption
    · rw [List.getLast?_concat]
theorem ddE_spec : ∀ (n : Nat) (S : Es), S.length = n → SrtW S → (ddE S).Pairwise ltE ∧ ∀ e, e ∈ ddE S ↔ e ∈ S := by
  intro n
  induction n with
  | zero => intro S hS _; have := List.length_eq_zero_iff.1 hS; subst this; simp [ddE]
  | succ n ih =>
    intro S hS hw
    rcases List.eq_nil_or_concat S with h | ⟨M, y, h⟩
    · subst h; simp at hS
    · rw [List.concat_eq_append] at h
      subst h
      have hw2 := hw
      unfold SrtW at hw2
      rw [List.pairwise_append] at hw2
      obtain ⟨w1, _, w2⟩ := hw2
      obtain ⟨h1, h2⟩ := ih M (by simp at hS; omega) w1
      have hl := ddE_last _ M rfl
      rw [ddE_snoc]
      unfold ddStep
      by_cases hc : (ddE M).getLast? = some y
      · rw [if_pos hc]
        refine ⟨h1, fun e => ?_⟩
        rw [h2]
        constructor
        · intro h; simp [h]
        · intro h
          rcases List.mem_append.1 h with h | h
          · exact h
          · simp at h; subst h; exact (h2 _).1 (List.mem_of_getLast? hc)
      · rw [if_neg hc]
        refine ⟨?_, fun e => by rw [List.mem_append, List.mem_append, h2]⟩
        rw [List.pairwise_append]
        refine ⟨h1, by simp, fun a ha b hb => ?_⟩
        simp at hb
        rw [hb]
        have hna : ¬ ltE y a := w2 a ((h2 a).1 ha) y (by simp)
        rcases List.eq_nil_or_concat (ddE M) with e | ⟨D, z, e⟩
        · rw [e] at ha; simp at ha
        · rw [List.concat_eq_append] at e
          have hzl : (ddE M).getLast? = some z := by rw [e, List.getLast?_concat]
          have hzy : z ≠ y := fun e2 => hc (by rw [hzl, e2])
          have hnz : ¬ ltE y z := w2 z ((h2 z).1 (List.mem_of_getLast? hzl)) y (by simp)
          have hzy2 : ltE z y := by
            by_cases h3 : ltE z y
            · exact h3
            · exact absurd (totE z y (by rw [Bool.eq_false_iff]; exact fun h => h3 ((ltOf_iff _ _).1 h)) (by rw [Bool.eq_false_iff]; exact fun h => hnz ((ltOf_iff _ _).1 h))) hzy
          rw [e, List.mem_append] at ha
          rcases ha with ha | ha
          · rw [e, List.pairwise_append] at h1
            exact ltE_tr2 (h1.2.2 a ha z (by simp)) hzy2
          · simp at ha; subst ha; exact hzy2
theorem dd_srt (S : Es) : ddE (srtE S) = eset S := by
  obtain ⟨s1, s2⟩ := srtE_spec S
  obtain ⟨h1, h2⟩ := ddE_spec _ _ rfl s1
  exact sortedE_ext _ _ h1 (eset_pair S) fun e => by rw [h2, mem_eset, s2.mem_iff]
theorem ddE_id : ∀ (k : Nat) (L : Es), (∀ j x y, j + 1 < k → L[j]? = some x → L[j + 1]? = some y → x ≠ y) → ddE (L.take k) = L.take k
  | 0, L, _ => by simp [ddE]
  | k + 1, L, h => by
    by_cases hl : k < L.length
    · have hk := List.getElem?_eq_getElem hl
      rw [ddE_take hk, ddE_id k L fun j x y hj => h j x y (by omega)]
      unfold ddStep
      rw [if_neg, List.take_add_one, hk]
      · rfl
      · intro e
        cases k with
        | zero => simp at e
        | succ k =>
          rw [List.getLast?_eq_getElem?, List.length_take, Nat.min_eq_left (by omega), Nat.add_sub_cancel, List.getElem?_take_of_lt (by omega)] at e
          exact h k _ _ (by omega) e hk rfl
    · have := ddE_id k L fun j x y hj => h j x y (by omega)
      rw [List.take_of_length_le (by omega)] at this ⊢
      exact this
/-- where the inner loop stands: k are told, the front holds what stays -/
def CpSt (es : Es) (k m : Nat) (R : Es) : Prop := m = (ddE (es.take k)).length ∧ m < k ∧ R.length = es.length ∧ R.take m = ddE (es.take k) ∧ ∀ j, k ≤ j + 1 → R[j]? = es[j]?
theorem CpSt.start {es : Es} {k : Nat} {x : Int × Int} (hno : ∀ j x y, j < k → es[j]? = some x → es[j + 1]? = some y → x ≠ y) (h1 : es[k]? = some x) (h2 : es[k + 1]? = some x) : CpSt es (k + 2) (k + 1) es := by
  have hk : k + 1 < es.length := (List.getElem?_eq_some_iff.1 h2).1
  have hd := ddE_id (k + 1) es fun j x y hj => hno j x y (by omega)
  have hd2 : ddE (es.take (k + 2)) = es.take (k + 1) := by
    rw [ddE_take h2, hd]
    unfold ddStep
    rw [if_pos]
    rw [List.getLast?_eq_getElem?, List.length_take, Nat.min_eq_left (by omega), Nat.add_sub_cancel, List.getElem?_take_of_lt (by omega), h1]
  refine ⟨by rw [hd2]; simp; omega, by omega, rfl, by rw [hd2], fun _ _ => rfl⟩
theorem CpSt.skip {es R : Es} {k m : Nat} {x : Int × Int} (h : CpSt es (k + 1) m R) (h1 : es[k]? = some x) (h2 : es[k + 1]? = some x) : CpSt es (k + 2) m R := by
  obtain ⟨g1, g2, g3, g4, g5⟩ := h
  have hl := ddE_last _ (es.take (k + 1)) rfl
  have hk : k + 1 < es.length := (List.getElem?_eq_some_iff.1 h2).1
  rw [List.getLast?_eq_getElem? (l := es.take (k + 1)), List.length_take, Nat.min_eq_left (by omega), Nat.add_sub_cancel, List.getElem?_take_of_lt (by omega), h1] at hl
  have hd : ddE (es.take (k + 2)) = ddE (es.take (k + 1)) := by rw [ddE_take h2]; unfold ddStep; rw [if_pos hl]
  exact ⟨by rw [hd]; exact g1, by omega, g3, by rw [hd]; exact g4, fun j hj => g5 j (by omega)⟩
theorem CpSt.keep {es R : Es} {k m : Nat} {x y : Int × Int} (h : CpSt es (k + 1) m R) (h1 : es[k]? = some x) (h2 : es[k + 1]? = some y) (hne : y ≠ x) : CpSt es (k + 2) (m + 1) (R.set m y) := by
  obtain ⟨g1, g2, g3, g4, g5⟩ := h
  have hl := ddE_last _ (es.take (k + 1)) rfl
  have hk : k + 1 < es.length := (List.getElem?_eq_some_iff.1 h2).1
  rw [List.getLast?_eq_getElem? (l := es.take (k + 1)), List.length_take, Nat.min_eq_left (by omega), Nat.add_sub_cancel, List.getElem?_take_of_lt (by omega), h1] at hl
  have hd : ddE (es.take (k + 2)) = ddE (es.take (k + 1)) ++ [y] := by
    rw [ddE_take h2]; unfold ddStep; rw [if_neg]
    rw [hl]; intro e; injection e with e; exact hne e.symm
  refine ⟨by rw [hd, List.length_append, ← g1]; rfl, by omega, by simpa using g3, ?_, fun j hj => ?_⟩
  · rw [hd, ← g4, List.take_add_one, List.getElem?_set_self (by omega), List.take_set_of_le (by omega)]
    rfl
  · rw [List.getElem?_set_ne (by omega)]; exact g5 j (by omega)

set_option maxRecDepth 100000 in
set_option maxHeartbeats 8000000 in
theorem compactE_c (base : Nat) (A : Option Addr) (c : Nat) (es : List (Int × Int)) (w : World)
    (hown : OwnE w base 30 A c es) (hl : es.length ≤ 1048576) :
    Calls Try.prog 74 #[.slice A es.length c] w (Kept 30 base A c (ddE es) w) := by
  by_cases h2 : es.length < 2
  · have hd : ddE es = es := by
      have := ddE_id es.length es fun j x y hj => by omega
      rwa [List.take_length] at this
    rw [hd]
    have Hown := Lib.hid hown
    clear hown hd
    go_enter Try.func74, Try.ntmps74
    go_wp2
    go_ret
    exact ⟨rfl, Hown.out, World.grownBy.refl _ _⟩
  · obtain ⟨g0, rfl, hg1, hg2⟩ := hown.at (by omega)
    obtain ⟨hbg, tail, hfull⟩ := hown.full
    have Hc := Lib.hid hfull.2
    have hcl : es.length ≤ c := hfull.2.1
    have Hfull := Lib.hid hfull
    clear hown hg1 hfull
    go_enter Try.func74, Try.ntmps74
    go_wp2
    go_loopg [3] es.length (fun gk i wr => ∃ k : Nat, k + gk = es.length ∧ k + 1 ≤ es.length ∧ i = .int .i64 ((k + 1 : Nat) : Int) ∧ Nx w wr ∧ ∀ j x y, j < k → es[j]? = some x → es[j + 1]? = some y → x ≠ y)
    case atStart => exact ⟨0, by omega, by omega, rfl, Nx.refl _, fun j x y hj => by omega⟩
    case round =>
      obtain ⟨k, hk, hk1, rfl, hn, hno⟩ := hrel
      have Hno := Lib.hid hno
      clear hno
      have hF : FullE wr g0 30 c es tail := ⟨Hfull.out.1.nx hn, Hfull.out.2⟩
      have hO := hF.own hbg
      by_cases hlt : k + 1 < es.length
      · obtain ⟨⟨x1, x2⟩, hx0⟩ : ∃ e, es[k]? = some e := ⟨_, List.getElem?_eq_getElem (by omega)⟩
        obtain ⟨⟨y1, y2⟩, hy0⟩ : ∃ e, es[k + 1]? = some e := ⟨_, List.getElem?_eq_getElem hlt⟩
        obtain ⟨b, off, e, hb, r1, r2⟩ := hO.edgesAt.rd hx0
        injection e with e
        injection e with e1 e2
        subst e1 e2
        obtain ⟨b, off, e, _, q1, q2⟩ := hO.edgesAt.rd hy0
        injection e with e
        injection e with e1 e2
        subst e1 e2
        rw [Nat.zero_add] at r1 r2 q1 q2
        have hwm : IntKind.i64.wrap (((k + 1 : Nat) : Int) - 1) = (k : Int) := by rw [IntKind.wrap_i64]; omega
        have hkl : k < es.length := by omega
        have HF := Lib.hid hF
        have HX := Lib.hid hx0
        have HY := Lib.hid hy0
        clear hF hO hx0 hy0
        by_cases hq : y1 = x1 ∧ y2 = x2
        · obtain ⟨rfl, rfl⟩ := hq
          have Hst := Lib.hid (CpSt.start Hno.out HX.out HY.out)
          have Hk2 : Hid (k + 2 = k + 1 + 1) := Lib.hid rfl
          obtain ⟨j, hj⟩ : ∃ j, k + 1 = j := ⟨_, rfl⟩
          have Hj := Lib.hid hj
          rw [hj] at hlt q1 q2 hwm
          rw [hj]
          have Hwm := Lib.hid hwm
          clear hj hwm
          have hjc : ¬ j = c := by omega
          have hjc2 : ¬ c = j := by omega
          have hj0 : ¬ j = 0 := by have := Hj.out; omega
          have hjl : (j : Int) ≤ (es.length : Int) := by omega
          go_wp2
          have hwm := Hwm.out
          go_quiet (fail)
          clear hwm
          generalize hW : World.drewN _ _ = w2
          have n2 : Nx wr w2 := by subst hW; exact (by repeat (first | exact Nx.refl _ | assumption | apply Nx.alloc | apply Nx.drew | apply Nx.drewN | (refine Nx.setCell ?_ (by first | (simp; done) | (simp; omega) | omega) _) | refine Nx.trans ?_ (by assumption)))
          clear hW
          have hF2 : FullE w2 g0 30 c es tail := ⟨HF.out.1.nx n2, HF.out.2⟩
          have hg2 : w.grownBy w2 (some g0) := (hn.trans n2).grownR _
          clear q1 q2 r1 r2
          go_wp2
          go_loopg [3, 5] es.length (fun gk i kk wq => ∃ (q m : Nat) (R : Es), es.length ≤ j + (q + 1) + gk ∧ j + (q + 1) ≤ es.length ∧ kk = .int .i64 ((q + 1 : Nat) : Int) ∧ i = .int .i64 m ∧ CpSt es (j + q + 1) m R ∧ FullE wq g0 30 c R tail ∧ w.grownBy wq (some g0))
          case atStart => exact ⟨0, j, es, by omega, by omega, rfl, rfl, by have h := Hst.out; have := Hj.out; rw [show j + 0 + 1 = k + 2 by omega, show j = k + 1 by omega]; exact h, hF2, hg2⟩
          case round =>
            obtain ⟨wq, hwq⟩ : ∃ v, v = wr := ⟨_, rfl⟩
            subst hwq
            obtain ⟨q, m, R, hk3, hk4, rfl, rfl, hst, hF3, hg3⟩ := hrel
            have hmk := hst.2.1
            have hRl := hst.2.2.1
            have hO3 := hF3.own hbg
            by_cases hlt3 : j + (q + 1) < es.length
            · obtain ⟨⟨u1, u2⟩, hu⟩ : ∃ e, es[j + q]? = some e := ⟨_, List.getElem?_eq_getElem (by omega)⟩
              obtain ⟨⟨v1, v2⟩, hv⟩ : ∃ e, es[j + q + 1]? = some e := ⟨_, List.getElem?_eq_getElem (by omega)⟩
              have hRu := (hst.2.2.2.2 (j + q) (by omega)).trans hu
              have hRv := (hst.2.2.2.2 (j + q + 1) (by omega)).trans hv
              obtain ⟨b, off, e, hb3, r1, r2⟩ := hO3.edgesAt.rd hRu
              injection e with e
              injection e with e1 e2
              subst e1 e2
              obtain ⟨b, off, e, _, q1, q2⟩ := hO3.edgesAt.rd hRv
              injection e with e
              injection e with e1 e2
              subst e1 e2
              rw [Nat.zero_add, show (j + q) * 2 = j * 2 + q * 2 by omega] at r1 r2
              rw [Nat.zero_add, show (j + q + 1) * 2 = j * 2 + (q + 1) * 2 by omega] at q1 q2
              obtain ⟨rm, hrm⟩ : ∃ e, R[m]? = some e := ⟨_, List.getElem?_eq_getElem (by omega)⟩
              obtain ⟨b, off, e, _, m1, m2⟩ := hO3.edgesAt.rd hrm
              injection e with e
              injection e with e1 e2
              subst e1 e2
              rw [Nat.zero_add] at m1 m2
              have hfr := hO3.free
              have hwm : IntKind.i64.wrap (((q + 1 : Nat) : Int) - 1) = (q : Int) := by rw [IntKind.wrap_i64]; omega
              have hqn : q < es.length - j := by omega
              have hpn : q + 1 < es.length - j := by omega
              have hmn : m < es.length := by omega
              have HU := Lib.hid hu
              have HV := Lib.hid hv
              have Hst3 := Lib.hid hst
              have HF3 := Lib.hid hF3
              obtain ⟨p, hp⟩ : ∃ p, q + 1 = p := ⟨_, rfl⟩
              have Hp := Lib.hid hp
              rw [hp] at q1 q2 hwm hpn hk3 hk4
              rw [hp]
              have Hwm := Lib.hid hwm
              have hjc : ¬ j = c := by omega
              have hjc2 : ¬ c = j := by omega
              have hlt4 : j + p < es.length := by omega
              clear hu hv hRu hRv hst hF3 hO3 hRl hp hwm hlt3 hrm
              by_cases hq : v1 = u1 ∧ v2 = u2
              · obtain ⟨rfl, rfl⟩ := hq
                go_wp2
                have hwm := Hwm.out
                go_quiet (fail)
                clear hwm
                go_wp2
                go_roundg (gk - 1)
                case measure => omega
                case rel => exact ⟨q + 1, m, R, by have := Hp.out; omega, by have := Hp.out; omega, by rw [← Hp.out]; go_num, rfl, Hst3.out.skip HU.out HV.out, ⟨HF3.out.1.nx (by repeat (first | exact Nx.refl _ | assumption | apply Nx.alloc | apply Nx.drew | apply Nx.drewN | (refine Nx.setCell ?_ (by first | (simp; done) | (simp; omega) | omega) _) | refine Nx.trans ?_ (by assumption))), HF3.out.2⟩, World.grownBy.trans hg3 (Nx.grownR (by repeat (first | exact Nx.refl _ | assumption | apply Nx.alloc | apply Nx.drew | apply Nx.drewN | (refine Nx.setCell ?_ (by first | (simp; done) | (simp; omega) | omega) _) | refine Nx.trans ?_ (by assumption))) _)⟩
              · have Hne : Hid ((v1, v2) ≠ (u1, u2)) := Lib.hid (fun h => hq (by injection h with h1 h2; exact ⟨h1, h2⟩))
                by_cases f0 : (v1 == u1) = true
                · have f1 : (v1 == u1) = true := by simpa using f0
                  have f2 : (v2 == u2) = false := by simp at f1; simp; exact fun h => hq ⟨f1, h⟩
                  clear hq f0
                  go_wp2
                  have hwm := Hwm.out
                  go_quiet (fail)
                  clear hwm
                  generalize hW : World.drewN _ _ = w4
                  have n4 : Nx wq w4 := by subst hW; exact (by repeat (first | exact Nx.refl _ | assumption | apply Nx.alloc | apply Nx.drew | apply Nx.drewN | (refine Nx.setCell ?_ (by first | (simp; done) | (simp; omega) | omega) _) | refine Nx.trans ?_ (by assumption)))
                  clear hW
                  replace r1 := n4.cell (p := ⟨g0, j * 2 + q * 2, none⟩) hb3 r1
                  replace r2 := n4.cell (p := ⟨g0, j * 2 + q * 2 + 1, none⟩) hb3 r2
                  replace q1 := n4.cell (p := ⟨g0, j * 2 + p * 2, none⟩) hb3 q1
                  replace q2 := n4.cell (p := ⟨g0, j * 2 + p * 2 + 1, none⟩) hb3 q2
                  replace m1 := n4.cell (p := ⟨g0, m * 2, none⟩) hb3 m1
                  replace m2 := n4.cell (p := ⟨g0, m * 2 + 1, none⟩) hb3 m2
                  have hfr := fun i => n4.frozen (p := ⟨g0, i, none⟩) hb3 (hfr i)
                  go_wp2
                  go_roundg (gk - 1)
                  case measure => omega
                  case rel =>
                    have hF4 : FullE w4 g0 30 c R tail := ⟨HF3.out.1.nx n4, HF3.out.2⟩
                    refine ⟨q + 1, m + 1, R.set m (v1, v2), by have := Hp.out; omega, by have := Hp.out; omega, by rw [← Hp.out]; go_num, by go_num, Hst3.out.keep HU.out HV.out Hne.out, hF4.set m (by have := Hst3.out.2.2.1; omega) v1 v2, ?_⟩
                    exact World.grownBy.trans hg3 (World.grownBy.trans (n4.grownR _) (grown_set (grown_set (World.grownBy.refl _ _) _ _) _ _))
                · have f1 : (v1 == u1) = false := by simpa using f0
                  clear hq f0
                  go_wp2
                  have hwm := Hwm.out
                  go_quiet (fail)
                  clear hwm
                  generalize hW : World.drewN _ _ = w4
                  have n4 : Nx wq w4 := by subst hW; exact (by repeat (first | exact Nx.refl _ | assumption | apply Nx.alloc | apply Nx.drew | apply Nx.drewN | (refine Nx.setCell ?_ (by first | (simp; done) | (simp; omega) | omega) _) | refine Nx.trans ?_ (by assumption)))
                  clear hW
                  replace r1 := n4.cell (p := ⟨g0, j * 2 + q * 2, none⟩) hb3 r1
                  replace r2 := n4.cell (p := ⟨g0, j * 2 + q * 2 + 1, none⟩) hb3 r2
                  replace q1 := n4.cell (p := ⟨g0, j * 2 + p * 2, none⟩) hb3 q1
                  replace q2 := n4.cell (p := ⟨g0, j * 2 + p * 2 + 1, none⟩) hb3 q2
                  replace m1 := n4.cell (p := ⟨g0, m * 2, none⟩) hb3 m1
                  replace m2 := n4.cell (p := ⟨g0, m * 2 + 1, none⟩) hb3 m2
                  have hfr := fun i => n4.frozen (p := ⟨g0, i, none⟩) hb3 (hfr i)
                  go_wp2
                  go_roundg (gk - 1)
                  case measure => omega
                  case rel =>
                    have hF4 : FullE w4 g0 30 c R tail := ⟨HF3.out.1.nx n4, HF3.out.2⟩
                    refine ⟨q + 1, m + 1, R.set m (v1, v2), by have := Hp.out; omega, by have := Hp.out; omega, by rw [← Hp.out]; go_num, by go_num, Hst3.out.keep HU.out HV.out Hne.out, hF4.set m (by have := Hst3.out.2.2.1; omega) v1 v2, ?_⟩
                    exact World.grownBy.trans hg3 (World.grownBy.trans (n4.grownR _) (grown_set (grown_set (World.grownBy.refl _ _) _ _) _ _))
            · have hkn : j + q + 1 = es.length := by omega
              obtain ⟨h1, h2', h3, h4, h5⟩ := hst
              rw [hkn, List.take_length] at h1 h4
              have hmR : m < R.length := by omega
              obtain ⟨w4, hrun, hgr4, hfull4⟩ := run_clearE (P := Try.prog) (T := 26) (cc := c - m) Try.underlying26 zeroE hF3 hmR
              rw [h3] at hrun
              have hcm : m < c := by omega
              have hmn : m < es.length := by omega
              have hge : ¬ ((q + 1 : Nat) : Int) < ((es.length - j : Nat) : Int) := by omega
              have H1 := Lib.hid h1
              have H3 := Lib.hid h3
              have H4 := Lib.hid h4
              clear h1 h3 h4 h5 hRl hO3 hF3 hkn
              go_wp2
              go_ret
              have h1 := H1.out
              refine ⟨by rw [← h1]; rfl, ?_, World.grownBy.trans hg3 hgr4⟩
              have hf3 := (hfull4.cut (m := m) (by have := H3.out; simp; omega)).own hbg
              rw [List.take_append_of_le_length (by have := H3.out; simp; omega), List.take_take, Nat.min_self, H4.out] at hf3
              exact hf3
        · have hne : (x1, x2) ≠ (y1, y2) := fun h => hq (by injection h with h1 h2; exact ⟨h1.symm, h2.symm⟩)
          have Hne := Lib.hid hne
          obtain ⟨j, hj⟩ : ∃ j, k + 1 = j := ⟨_, rfl⟩
          have Hj := Lib.hid hj
          rw [hj] at hlt q1 q2 hwm
          rw [hj]
          have Hwm := Lib.hid hwm
          clear hj hwm
          by_cases f0 : (y1 == x1) = true
          · have f1 : (y1 == x1) = true := by simpa using f0
            have f2 : (y2 == x2) = false := by simp at f1; simp; exact fun h => hq ⟨f1, h⟩
            clear hq f0 hne
            go_wp2
            have hwm := Hwm.out
            go_quiet (fail)
            clear hwm
            go_wp2
            go_roundg (gk - 1)
            case measure => omega
            case rel => exact ⟨k + 1, by omega, by have := Hj.out; omega, by rw [← Hj.out]; go_num, (by repeat (first | exact Nx.refl _ | assumption | apply Nx.alloc | apply Nx.drew | apply Nx.drewN | (refine Nx.setCell ?_ (by first | (simp; done) | (simp; omega) | omega) _) | refine Nx.trans ?_ (by assumption))), fun i x y hi hx hy => by
              rcases Nat.lt_succ_iff_lt_or_eq.1 hi with h | rfl
              · exact Hno.out i x y h hx hy
              · rw [HX.out] at hx; rw [HY.out] at hy; injection hx with hx; injection hy with hy; subst hx hy; exact Hne.out⟩
          · have f1 : (y1 == x1) = false := by simpa using f0
            clear hq f0 hne
            go_wp2
            have hwm := Hwm.out
            go_quiet (fail)
            clear hwm
            go_wp2
            go_roundg (gk - 1)
            case measure => omega
            case rel => exact ⟨k + 1, by omega, by have := Hj.out; omega, by rw [← Hj.out]; go_num, (by repeat (first | exact Nx.refl _ | assumption | apply Nx.alloc | apply Nx.drew | apply Nx.drewN | (refine Nx.setCell ?_ (by first | (simp; done) | (simp; omega) | omega) _) | refine Nx.trans ?_ (by assumption))), fun i x y hi hx hy => by
              rcases Nat.lt_succ_iff_lt_or_eq.1 hi with h | rfl
              · exact Hno.out i x y h hx hy
              · rw [HX.out] at hx; rw [HY.out] at hy; injection hx with hx; injection hy with hy; subst hx hy; exact Hne.out⟩
      · have hkn : k + 1 = es.length := by omega
        have hd : ddE es = es := by
          have := ddE_id es.length es fun j x y hj => Hno.out j x y (by omega)
          rwa [List.take_length] at this
        have Hd := Lib.hid hd
        have HO := Lib.hid hO
        have hge : ¬ ((k + 1 : Nat) : Int) < (es.length : Int) := by omega
        clear hd hO hF hkn
        go_wp2
        go_ret
        exact ⟨by rw [Hd.out]; rfl, by rw [Hd.out]; exact HO.out, hn.grownR _⟩
end Go.Proofs.Ytbceoigmcomlbaa
