/- Plain law of searches. -/
import Derived.Test.YtjchabeiaajgiaaJ1
import Derived.Test.YtjchabeiaajgiaaN1
/- Plain law: what a search in depth finds out: parents, low points, and that edges lead along parents only. No program in sight. -/
namespace Go.Proofs.Ytjchabeiaajgiaa
set_option linter.unusedVariables false set_option linter.unusedSimpArgs false

/-- v lies on the way from u along parents -/
inductive Anc (P : List Int) (v : Int) : Int → Prop
  | refl : Anc P v v
  | step {u : Int} : 0 ≤ u → 0 ≤ lk P u → Anc P v (lk P u) → Anc P v u
theorem Anc.trans {P : List Int} {a b c : Int} (h : Anc P a b) (k : Anc P b c) : Anc P a c := by
  induction k with
  | refl => exact h
  | step h0 h1 _ ih => exact .step h0 h1 ih
theorem Anc.inv {P : List Int} {v u : Int} (h : Anc P v u) : v = u ∨ (0 ≤ u ∧ 0 ≤ lk P u ∧ Anc P v (lk P u)) := by
  cases h with
  | refl => exact .inl rfl
  | step a b c => exact .inr ⟨a, b, c⟩
theorem Anc.keep {P P' : List Int} {S : Int → Prop} (hS : ∀ u, S u → lk P' u = lk P u ∧ (0 ≤ lk P u → S (lk P u))) {v u : Int} (hu : S u) (h : Anc P v u) : Anc P' v u := by
  induction h with
  | refl => exact .refl
  | step h0 h1 _ ih =>
    obtain ⟨a, b⟩ := hS _ hu
    exact .step h0 (by rw [a]; exact h1) (by rw [a]; exact ih (b h1))
theorem Anc.neg {P : List Int} {v u : Int} (h : Anc P v u) (hu : u < 0) : v = u := by
  rcases h.inv with e | ⟨e, _⟩
  · exact e
  · omega
theorem Adj.next {n : Nat} {E : Es} (hE : ∀ e ∈ E, 0 ≤ e.1 ∧ e.1 < e.2 ∧ e.2 < n) {x y : Int} : y ∈ nextL n E x ↔ Adj E x y := by
  rw [mem_nextL]
  constructor
  · rintro ⟨h0, h1, h2, h3⟩
    rcases Int.lt_or_lt_of_ne h2 with h | h
    · rw [Int.min_eq_left (by omega), Int.max_eq_right (by omega)] at h3; exact .inr h3
    · rw [Int.min_eq_right (by omega), Int.max_eq_left (by omega)] at h3; exact .inl h3
  · rintro (h | h)
    · have := hE _ h
      simp only at this
      rw [Int.min_eq_right (by omega), Int.max_eq_left (by omega)]
      exact ⟨by omega, by omega, by omega, h⟩
    · have := hE _ h
      simp only at this
      rw [Int.min_eq_left (by omega), Int.max_eq_right (by omega)]
      exact ⟨by omega, by omega, by omega, h⟩

/-- x is a node that is found -/
def Nd (n : Nat) (s : DS) (x : Int) : Prop := 0 ≤ x ∧ x < n ∧ lk s.N x ≠ 0
structure Th (n : Nat) (E : Es) (s : DS) : Prop where
  par : ∀ u, Nd n s u → lk s.P u = -1 ∨ (Nd n s (lk s.P u) ∧ Adj E (lk s.P u) u ∧ lk s.N (lk s.P u) < lk s.N u)
  cmp : ∀ u v, Nd n s u → Nd n s v → Adj E u v → Anc s.P v u ∨ Anc s.P u v
  lo : ∀ u, Nd n s u → 1 ≤ lk s.L u ∧ lk s.L u ≤ lk s.N u
  hit : ∀ u, Nd n s u → lk s.L u = lk s.N u ∨ ∃ w z, Nd n s w ∧ Nd n s z ∧ Anc s.P u w ∧ Adj E w z ∧ z ≠ lk s.P w ∧ lk s.L u = lk s.N z
  sur : ∀ k : Int, 1 ≤ k → k ≤ s.c → ∃ u, Nd n s u ∧ lk s.N u = k
  le : ∀ u, Nd n s u → lk s.N u ≤ s.c
/-- while q is at work -/
structure St (n : Nat) (E : Es) (s : DS) (q : Int) : Prop where
  opn : ∀ v u : Int, Nd n s v → 0 ≤ u → u < n → lk s.N u = 0 → Adj E v u → Anc s.P v q
  a1 : ∀ u v, Nd n s u → Nd n s v → Adj E u v → v ≠ lk s.P u → lk s.L u ≤ lk s.N v ∨ Anc s.P u q
def A2 (n : Nat) (s : DS) (q x : Int) : Prop := ∀ v, Nd n s v → 0 ≤ lk s.P v → lk s.L (lk s.P v) ≤ lk s.L v ∨ Anc s.P v q ∨ v = x

section
variable {n : Nat} {E : Es}
theorem Th.closed {s : DS} (h : Th n E s) {u : Int} (hu : Nd n s u) (h0 : 0 ≤ lk s.P u) : Nd n s (lk s.P u) := by
  rcases h.par u hu with e | e
  · omega
  · exact e.1
theorem enter_nd {s : DS} {x p : Int} (hs : DOk n s) (h0 : 0 ≤ x) (h1 : x < n) (hx : lk s.N x = 0) {u : Int} : Nd n (s.enter x p) u ↔ u = x ∨ Nd n s u := by
  obtain ⟨a, b, c, d, e⟩ := enter_ext (p := p) hs h0 h1 hx
  have hc := hs.c0
  constructor
  · rintro ⟨u0, u1, u2⟩
    by_cases hux : u = x
    · exact .inl hux
    · refine .inr ⟨u0, u1, ?_⟩
      simp only [DS.enter] at u2
      rwa [lk_up_ne h0 u0 (Ne.symm hux)] at u2
  · rintro (rfl | h)
    · exact ⟨h0, h1, by rw [c]; omega⟩
    · refine ⟨h.1, h.2.1, ?_⟩
      rw [(a.2.2 u h.1 h.2.1 h.2.2).1]; exact h.2.2
theorem enter_thy {s : DS} {x p : Int} (hs : DOk n s) (ht : Th n E s) (hst : St n E s p) (ha2 : A2 n s p (-1)) (h0 : 0 ≤ x) (h1 : x < n) (hx : lk s.N x = 0) (hp : p = -1 ∨ (Nd n s p ∧ Adj E p x)) :
    Th n E (s.enter x p) ∧ St n E (s.enter x p) x ∧ A2 n (s.enter x p) x (-1) := by
  have hnd := fun u => enter_nd (p := p) (u := u) hs h0 h1 hx
  obtain ⟨he, hz, hN, hP, hL⟩ := enter_ext (p := p) hs h0 h1 hx
  have hc := hs.c0
  have hcc : (s.enter x p).c = s.c + 1 := rfl
  generalize s.enter x p = t at *
  have hold : ∀ u, Nd n s u → lk t.N u = lk s.N u ∧ lk t.P u = lk s.P u ∧ lk t.L u = lk s.L u ∧ u ≠ x := fun u hu => by
    obtain ⟨a, b, c⟩ := he.2.2 u hu.1 hu.2.1 hu.2.2
    have e : u ≠ x := fun e => hu.2.2 (e ▸ hx)
    exact ⟨a, b, c e, e⟩
  have keep : ∀ {v u}, Nd n s u → Anc s.P v u → Anc t.P v u := fun hu h => Anc.keep (S := Nd n s) (fun u hu => ⟨(hold u hu).2.1, fun h => ht.closed hu h⟩) hu h
  -- an ancestor of p is one of x
  have down : ∀ {v}, 0 ≤ v → Anc s.P v p → Anc t.P v x := fun {v} hv h => by
    rcases hp with e | ⟨e1, e2⟩
    · have := h.neg (by omega); omega
    · exact .step h0 (by rw [hP]; exact e1.1) (by rw [hP]; exact keep e1 h)
  refine ⟨⟨fun u hu => ?_, fun u v hu hv ha => ?_, fun u hu => ?_, fun u hu => ?_, fun k k1 k2 => ?_, fun u hu => ?_⟩, ⟨fun v u hv u0 u1 hu ha => ?_, fun u v hu hv ha hne => ?_⟩, fun v hv hpv => ?_⟩
  · rcases (hnd u).1 hu with rfl | hu'
    · rcases hp with e | ⟨e1, e2⟩
      · exact .inl (hP.trans e)
      · right
        rw [hP]
        refine ⟨(hnd p).2 (.inr e1), e2, ?_⟩
        rw [(hold p e1).1, hN]
        have := ht.le p e1; omega
    · obtain ⟨a, b, c, d⟩ := hold u hu'
      rw [b]
      rcases ht.par u hu' with e | ⟨e1, e2, e3⟩
      · exact .inl e
      · exact .inr ⟨(hnd _).2 (.inr e1), e2, by rw [(hold _ e1).1, a]; exact e3⟩
  · rcases (hnd u).1 hu with rfl | hu' <;> rcases (hnd v).1 hv with rfl | hv'
    · exact .inl .refl
    · exact .inl (down hv'.1 (hst.opn v u hv' h0 h1 hx ha.symm))
    · exact .inr (down hu'.1 (hst.opn u v hu' h0 h1 hx ha))
    · exact (ht.cmp u v hu' hv' ha).imp (keep hu') (keep hv')
  · rcases (hnd u).1 hu with rfl | hu'
    · rw [hN, hL]; omega
    · obtain ⟨a, b, c, d⟩ := hold u hu'
      rw [a, c]; exact ht.lo u hu'
  · rcases (hnd u).1 hu with rfl | hu'
    · rw [hN, hL]; exact .inl rfl
    · obtain ⟨a, b, c, d⟩ := hold u hu'
      rw [a, c]
      refine (ht.hit u hu').imp id ?_
      rintro ⟨w, z, hw, hz, h3, h4, h5, h6⟩
      exact ⟨w, z, (hnd w).2 (.inr hw), (hnd z).2 (.inr hz), keep hw h3, h4, by rw [(hold w hw).2.1]; exact h5, by rw [(hold z hz).1]; exact h6⟩
  · by_cases e : k = s.c + 1
    · exact ⟨x, (hnd x).2 (.inl rfl), hN.trans e.symm⟩
    · obtain ⟨u, hu, he⟩ := ht.sur k k1 (by omega)
      exact ⟨u, (hnd u).2 (.inr hu), (hold u hu).1.trans he⟩
  · rcases (hnd u).1 hu with rfl | hu'
    · rw [hN, hcc]; omega
    · rw [(hold u hu').1, hcc]; have := ht.le u hu'; omega
  · rcases (hnd v).1 hv with rfl | hv'
    · exact .refl
    · have hus : lk s.N u = 0 := Classical.byContradiction fun h => absurd hu (by rw [(hold u ⟨u0, u1, h⟩).1]; exact h)
      exact down hv'.1 (hst.opn v u hv' u0 u1 hus ha)
  · rcases (hnd u).1 hu with rfl | hu'
    · exact .inr .refl
    · rcases (hnd v).1 hv with rfl | hv'
      · exact .inr (down hu'.1 (hst.opn u v hu' h0 h1 hx ha))
      · obtain ⟨a, b, c, d⟩ := hold u hu'
        rw [b] at hne
        rw [c, (hold v hv').1]
        exact (hst.a1 u v hu' hv' ha hne).imp id (down hu'.1)
  · rcases (hnd v).1 hv with rfl | hv'
    · exact .inr (.inl .refl)
    · obtain ⟨a, b, c, d⟩ := hold v hv'
      rw [b] at hpv ⊢
      rw [c, (hold _ (ht.closed hv' hpv)).2.2.1]
      exact (ha2 v hv' hpv).imp id (Or.imp (down hv'.1) id)

theorem low_le {x v u : Int} {s : DS} (hs : DOk n s) (h0 : 0 ≤ x) (h1 : x < n) (u0 : 0 ≤ u) : lk (s.low x v).L u ≤ lk s.L u := by
  by_cases e : u = x
  · subst e; rw [lk_low hs h0 h1]; omega
  · rw [lk_low_ne h0 u0 e]; omega
theorem low_th {x v : Int} {s : DS} (hs : DOk n s) (ht : Th n E s) (hx : Nd n s x) (hv : lk s.L x ≤ v ∨ (1 ≤ v ∧ ∃ w z, Nd n s w ∧ Nd n s z ∧ Anc s.P x w ∧ Adj E w z ∧ z ≠ lk s.P w ∧ v = lk s.N z)) : Th n E (s.low x v) := by
  have hl := lk_low (v := v) hs hx.1 hx.2.1
  refine ⟨ht.par, ht.cmp, fun u hu => ?_, fun u hu => ?_, ht.sur, ht.le⟩
  · have h := ht.lo u hu
    have h2 := low_le (v := v) hs hx.1 hx.2.1 hu.1
    refine ⟨?_, Int.le_trans h2 h.2⟩
    by_cases e : u = x
    · subst e; rw [hl]; rcases hv with hv | hv <;> omega
    · rw [lk_low_ne hx.1 hu.1 e]; exact h.1
  · by_cases e : u = x
    · subst e
      rw [hl]
      have old : min (lk s.L u) v = lk s.L u → min (lk s.L u) v = lk s.N u ∨ ∃ w z, Nd n s w ∧ Nd n s z ∧ Anc s.P u w ∧ Adj E w z ∧ z ≠ lk s.P w ∧ min (lk s.L u) v = lk s.N z := fun h => by rw [h]; exact ht.hit u hu
      rcases Int.le_total (lk s.L u) v with hm | hm
      · exact old (Int.min_eq_left hm)
      · rcases hv with hv | ⟨_, w, z, a, b, c, d, e, f⟩
        · exact old (Int.min_eq_left hv)
        · exact .inr ⟨w, z, a, b, c, d, e, (Int.min_eq_right hm).trans f⟩
    · rw [lk_low_ne hx.1 hu.1 e]; exact ht.hit u hu
theorem low_st {x v : Int} {s : DS} (hs : DOk n s) (hst : St n E s x) (hx : Nd n s x) : St n E (s.low x v) x :=
  ⟨hst.opn, fun u w hu hw ha hne => (hst.a1 u w hu hw ha hne).imp (fun h => Int.le_trans (low_le hs hx.1 hx.2.1 hu.1) h) id⟩

def Goes (n : Nat) (E : Es) (f : Nat) (rec : Int → Int → DS → DS) : Prop := ∀ (x p : Int) (s : DS), DOk n s → Th n E s → St n E s p → A2 n s p (-1) → 0 ≤ x → x < n → lk s.N x = 0 → zeros s.N ≤ f → (p = -1 ∨ (Nd n s p ∧ Adj E p x)) →
  Th n E (rec x p s) ∧ St n E (rec x p s) p ∧ A2 n (rec x p s) p x
theorem Ext.nd {x : Int} {s t : DS} (h : Ext n x s t) {u : Int} (hu : Nd n s u) : Nd n t u := ⟨hu.1, hu.2.1, by rw [(h.2.2 u hu.1 hu.2.1 hu.2.2).1]; exact hu.2.2⟩
theorem step_thy {f : Nat} {rec : Int → Int → DS → DS} (hr : Went n f rec) (hg : Goes n E f rec) {x p y : Int} {s : DS} (hs : DOk n s) (ht : Th n E s) (hst : St n E s x) (ha2 : A2 n s x (-1)) (hx : Nd n s x) (hpx : lk s.P x = p) (hpn : p = -1 ∨ Nd n s p) (ha : Adj E x y) (hy0 : 0 ≤ y) (hy1 : y < n) (hz : zeros s.N ≤ f) :
    Th n E (dStep rec x p s y) ∧ St n E (dStep rec x p s y) x ∧ A2 n (dStep rec x p s y) x (-1) ∧ Nd n (dStep rec x p s y) y ∧ (y ≠ p → lk (dStep rec x p s y).L x ≤ lk (dStep rec x p s y).N y) ∧ lk (dStep rec x p s y).L x ≤ lk s.L x := by
  unfold dStep
  by_cases e : y = p
  · rw [if_pos e]
    refine ⟨ht, hst, ha2, ?_, fun h => absurd e h, Int.le_refl _⟩
    rcases hpn with h | h
    · omega
    · exact e ▸ h
  · rw [if_neg e]
    by_cases hy : lk s.N y = 0
    · rw [if_pos hy]
      obtain ⟨g1, g2, g3⟩ := hg y x s hs ht hst ha2 hy0 hy1 hy hz (.inr ⟨hx, ha⟩)
      obtain ⟨r1, r2, r3⟩ := hr y x s hs hy0 hy1 hy hz
      generalize rec y x s = t at *
      have hxt := r1.nd hx
      obtain ⟨q1, q2, q3⟩ := r1.2.2 x hx.1 hx.2.1 hx.2.2
      have q3 := q3 (fun h => hx.2.2 (h ▸ hy))
      have hc := hs.c0
      have hyt : Nd n t y := ⟨hy0, hy1, by rw [r2]; omega⟩
      have hlo := g1.lo y hyt
      have hlx := g1.lo x hxt
      have hNx := ht.le x hx
      have hxy : y ≠ x := fun h => hx.2.2 (h ▸ hy)
      have hLy : lk (t.low x (lk t.L y)).L y = lk t.L y := lk_low_ne hx.1 hy0 hxy
      have hLx := lk_low (v := lk t.L y) r1.1 hx.1 hx.2.1
      refine ⟨low_th r1.1 g1 hxt ?_, low_st r1.1 g2 hxt, fun v hv hpv => ?_, hyt, fun _ => ?_, ?_⟩
      · rcases g1.hit y hyt with h | ⟨w, z, a, b, c, d, e, f⟩
        · exact .inl (by rw [h, r2]; omega)
        · exact .inr ⟨hlo.1, w, z, a, b, Anc.trans (.step hy0 (by rw [r3]; exact hx.1) (by rw [r3]; exact .refl)) c, d, e, f⟩
      · show lk (t.low x (lk t.L y)).L (lk t.P v) ≤ _ ∨ Anc t.P v x ∨ v = -1
        by_cases hvx : v = x
        · subst hvx; exact .inr (.inl .refl)
        · rw [lk_low_ne (v := lk t.L y) (s := t) hx.1 hv.1 hvx]
          rcases g3 v hv hpv with h | h | h
          · exact .inl (Int.le_trans (low_le r1.1 hx.1 hx.2.1 hpv) h)
          · exact .inr (.inl h)
          · subst h
            left
            rw [r3, hLx]; omega
      · rw [hLx]
        show _ ≤ lk t.N y
        omega
      · rw [hLx, q3]; omega
    · rw [if_neg hy]
      have hyn : Nd n s y := ⟨hy0, hy1, hy⟩
      have hLx := lk_low (v := lk s.N y) hs hx.1 hx.2.1
      have h1 : 1 ≤ lk s.N y := by have := hs.pos y hy0 hy1; omega
      refine ⟨low_th hs ht hx (.inr ⟨h1, x, y, hx, hyn, .refl, ha, by rw [hpx]; exact e, rfl⟩), low_st hs hst hx, fun v hv hpv => ?_, hyn, fun _ => ?_, ?_⟩
      · show lk (s.low x (lk s.N y)).L (lk s.P v) ≤ _ ∨ Anc s.P v x ∨ v = -1
        by_cases hvx : v = x
        · subst hvx; exact .inr (.inl .refl)
        · rw [lk_low_ne (v := lk s.N y) (s := s) hx.1 hv.1 hvx]
          rcases ha2 v hv hpv with h | h | h
          · exact .inl (Int.le_trans (low_le hs hx.1 hx.2.1 hpv) h)
          · exact .inr (.inl h)
          · exact .inr (.inr h)
      · rw [hLx]
        show _ ≤ lk s.N y
        omega
      · rw [hLx]; omega
theorem loop_thy {f : Nat} (hg : Goes n E f (dfs n E f)) (hE : ∀ e ∈ E, 0 ≤ e.1 ∧ e.1 < e.2 ∧ e.2 < n) {x p : Int} {s : DS} (hs : DOk n s) (ht : Th n E s) (hst : St n E s p) (ha2 : A2 n s p (-1)) (h0 : 0 ≤ x) (h1 : x < n) (hx : lk s.N x = 0) (hz : zeros s.N ≤ f + 1) (hp : p = -1 ∨ (Nd n s p ∧ Adj E p x)) : ∀ k, k ≤ (nextL n E x).length →
    Th n E (dfsK n E f x p s k) ∧ St n E (dfsK n E f x p s k) x ∧ A2 n (dfsK n E f x p s k) x (-1) ∧ ∀ y ∈ (nextL n E x).take k, Nd n (dfsK n E f x p s k) y ∧ (y ≠ p → lk (dfsK n E f x p s k).L x ≤ lk (dfsK n E f x p s k).N y)
  | 0, _ => by
    rw [dfsK_zero]
    obtain ⟨a, b, c⟩ := enter_thy hs ht hst ha2 h0 h1 hx hp
    exact ⟨a, b, c, by simp⟩
  | k + 1, hk => by
    obtain ⟨a, b, c, d⟩ := loop_thy hg hE hs ht hst ha2 h0 h1 hx hz hp k (by omega)
    obtain ⟨o1, o2, o3, o4, o5⟩ := dfsK_facts (p := p) hs h0 h1 hx hz (show k ≤ (nextL n E x).length by omega)
    obtain ⟨y, hy⟩ : ∃ y, (nextL n E x)[k]? = some y := ⟨_, List.getElem?_eq_getElem (by omega)⟩
    have hr := next_range hy
    have hxn : Nd n (dfsK n E f x p s k) x := ⟨h0, h1, by rw [o3]; have := hs.c0; omega⟩
    have hst' := step_thy (dfs_went n E f) hg o1 a b c hxn o4 (hp.imp id (fun h => ⟨h.1.1, h.1.2.1, o5 p h.1.1 h.1.2.1 h.1.2.2⟩)) ((Adj.next hE).1 (List.mem_of_getElem? hy)) hr.1 hr.2 o2
    have hex := step_ext (dfs_went n E f) (x := x) (p := p) (y := y) o1 h0 h1 hr.1 hr.2 o2
    rw [dfsK_succ hy]
    generalize dfsK n E f x p s k = sk at *
    obtain ⟨t1, t2, t3, t4, t5, t6⟩ := hst'
    refine ⟨t1, t2, t3, fun z hzm => ?_⟩
    obtain ⟨hl, he⟩ := List.getElem?_eq_some_iff.1 hy
    rw [List.take_succ_eq_append_getElem hl, he] at hzm
    rcases List.mem_append.1 hzm with h | h
    · obtain ⟨d1, d2⟩ := d z h
      refine ⟨hex.nd d1, fun hzp => ?_⟩
      rw [(hex.2.2 z d1.1 d1.2.1 d1.2.2).1]
      exact Int.le_trans t6 (d2 hzp)
    · simp at h
      subst h
      exact ⟨t4, t5⟩
theorem dfs_goes (hE : ∀ e ∈ E, 0 ≤ e.1 ∧ e.1 < e.2 ∧ e.2 < n) : ∀ f, Goes n E f (dfs n E f)
  | 0 => fun x p s hs _ _ _ h0 h1 hx hz _ => absurd hx (zeros_none (by omega) h0 (by rw [hs.ln]; exact h1))
  | f + 1 => fun x p s hs ht hst ha2 h0 h1 hx hz hp => by
    obtain ⟨a, b, c, d⟩ := loop_thy (dfs_goes hE f) hE hs ht hst ha2 h0 h1 hx hz hp _ (Nat.le_refl _)
    obtain ⟨o1, o2, o3, o4, o5⟩ := dfsK_facts (p := p) hs h0 h1 hx hz (Nat.le_refl _)
    rw [List.take_length] at d
    rw [dfsK_all _ _ _ _ _ _ (Nat.le_refl _)] at a b c d o1 o2 o3 o4 o5
    generalize dfs n E (f + 1) x p s = t at *
    have cut : ∀ {v}, Anc t.P v x → v = x ∨ Anc t.P v p := fun h => by
      rcases h.inv with e | ⟨_, _, e⟩
      · exact .inl e
      · rw [o4] at e; exact .inr e
    refine ⟨a, ⟨fun v u hv u0 u1 hu ha => ?_, fun u v hu hv ha hne => ?_⟩, fun v hv hpv => ?_⟩
    · rcases cut (b.opn v u hv u0 u1 hu ha) with e | e
      · subst e
        exact absurd hu (d u ((Adj.next hE).2 ha)).1.2.2
      · exact e
    · rcases b.a1 u v hu hv ha hne with e | e
      · exact .inl e
      · rcases cut e with e | e
        · subst e
          exact .inl ((d v ((Adj.next hE).2 ha)).2 (by rw [o4] at hne; exact hne))
        · exact .inr e
    · rcases c v hv hpv with e | e | e
      · exact .inl e
      · rcases cut e with e | e
        · exact .inr (.inr e)
        · exact .inr (.inl e)
      · have := hv.1; omega

/-- the search of all nodes, on its way -/
theorem run_thy (hE : ∀ e ∈ E, 0 ≤ e.1 ∧ e.1 < e.2 ∧ e.2 < n) : ∀ k, k ≤ n → Th n E (dRunK n E k) ∧ St n E (dRunK n E k) (-1) ∧ A2 n (dRunK n E k) (-1) (-1) ∧ ∀ x : Int, 0 ≤ x → x < k → Nd n (dRunK n E k) x
  | 0, _ => by
    have hz : ∀ u, ¬ Nd n (dRunK n E 0) u := fun u hu => hu.2.2 (by rw [dRunK_zero]; exact dNew_zero n u)
    exact ⟨⟨fun u h => absurd h (hz u), fun u v h => absurd h (hz u), fun u h => absurd h (hz u), fun u h => absurd h (hz u), fun k k1 k2 => by simp [dRunK_zero, dNew] at k2; omega, fun u h => absurd h (hz u)⟩, ⟨fun v u h => absurd h (hz v), fun u v h => absurd h (hz u)⟩, fun v h => absurd h (hz v), fun x h0 h1 => by omega⟩
  | k + 1, hk => by
    obtain ⟨a, b, c, d⟩ := run_thy hE k (by omega)
    have ok := dRunK_ok n E k (by omega)
    rw [dRunK_succ]
    by_cases h : lk (dRunK n E k).N k = 0
    · rw [if_pos h]
      obtain ⟨w1, w2, w3⟩ := dfs_went n E n k (-1) _ ok (by omega) (by omega) h ok.zle
      obtain ⟨g1, g2, g3⟩ := dfs_goes hE n k (-1) _ ok a b c (by omega) (by omega) h ok.zle (.inl rfl)
      have hc := ok.c0
      generalize dfs n E n k (-1) (dRunK n E k) = t at *
      refine ⟨g1, g2, fun v hv hpv => ?_, fun x h0 h1 => ?_⟩
      · rcases g3 v hv hpv with e | e | e
        · exact .inl e
        · exact .inr (.inl e)
        · subst e; rw [w3] at hpv; omega
      · by_cases e : x = k
        · subst e; exact ⟨by omega, by omega, by rw [w2]; omega⟩
        · exact w1.nd (d x h0 (by omega))
    · rw [if_neg h]
      refine ⟨a, b, c, fun x h0 h1 => ?_⟩
      by_cases e : x = k
      · subst e; exact ⟨by omega, by omega, h⟩
      · exact d x h0 (by omega)
end
/-- what is found in the end -/
structure Found (n : Nat) (E : Es) (s : DS) : Prop where
  ok : DOk n s
  all : ∀ x : Int, 0 ≤ x → x < n → Nd n s x
  th : Th n E s
  a1 : ∀ u v : Int, Nd n s u → Nd n s v → Adj E u v → v ≠ lk s.P u → lk s.L u ≤ lk s.N v
  a2 : ∀ v : Int, Nd n s v → 0 ≤ lk s.P v → lk s.L (lk s.P v) ≤ lk s.L v
def dRun (n : Nat) (E : Es) : DS := dRunK n E n
theorem run_found {n : Nat} {E : Es} (hE : ∀ e ∈ E, 0 ≤ e.1 ∧ e.1 < e.2 ∧ e.2 < n) : Found n E (dRun n E) := by
  obtain ⟨a, b, c, d⟩ := run_thy hE n (Nat.le_refl _)
  refine ⟨dRunK_ok n E n (Nat.le_refl _), d, a, fun u v hu hv ha hne => ?_, fun v hv hpv => ?_⟩
  · rcases b.a1 u v hu hv ha hne with e | e
    · exact e
    · have := e.neg (by omega); have := hu.1; omega
  · rcases c v hv hpv with e | e | e
    · exact e
    · have := e.neg (by omega); have := hv.1; omega
    · have := hv.1; omega
end Go.Proofs.Ytjchabeiaajgiaa
/- Plain law: numbers, roots and bridges behind a search in depth. -/
namespace Go.Proofs.Ytjchabeiaajgiaa
open Go.RowKit set_option linter.unusedVariables false set_option linter.unusedSimpArgs false

theorem inj_le {α β : Type} [BEq β] [LawfulBEq β] (R : α → β → Prop) : ∀ (l : List α) (m : List β), l.Nodup → (∀ a ∈ l, ∃ b ∈ m, R a b) → (∀ a ∈ l, ∀ a' ∈ l, ∀ b, R a b → R a' b → a = a') → l.length ≤ m.length
  | [], m, _, _, _ => by simp
  | a :: l, m, hn, hm, hi => by
    obtain ⟨b, hb, hab⟩ := hm a (by simp)
    rw [List.nodup_cons] at hn
    have := inj_le R l (m.erase b) hn.2 (fun a' ha' => by
      obtain ⟨b', hb', hab'⟩ := hm a' (by simp [ha'])
      have : b' ≠ b := fun e => by
        subst e
        have := hi a (by simp) a' (by simp [ha']) b' hab hab'
        exact hn.1 (this ▸ ha')
      exact ⟨b', (List.mem_erase_of_ne this).2 hb', hab'⟩) (fun a1 h1 a2 h2 => hi a1 (by simp [h1]) a2 (by simp [h2]))
    have hl := List.length_erase_of_mem hb
    have := List.length_pos_of_mem hb
    simp
    omega

section
variable {n : Nat} {E : Es} {s : DS}
theorem Found.cn (h : Found n E s) : s.c = n := by
  have := h.ok.cz
  have hz : zeros s.N = 0 := List.count_eq_zero.2 fun hm => by
    obtain ⟨i, hi, e⟩ := List.getElem_of_mem hm
    have hl := h.ok.ln
    exact (h.all i (by omega) (by omega)).2.2 (by simp [lk, hi, e])
  omega
theorem Found.num (h : Found n E s) {i : Int} (h0 : 0 ≤ i) (h1 : i < n) : (i + 1) ∈ s.N := by
  obtain ⟨u, hu, e⟩ := h.th.sur (i + 1) (by omega) (by rw [h.cn]; omega)
  have := lk_some hu.1 (show u < s.N.length by rw [h.ok.ln]; exact hu.2.1)
  rw [e] at this
  exact List.mem_of_getElem? this
/-- the node's numbers, low point and parent, as the law asks for them -/
theorem Found.node (h : Found n E s) {i : Int} (h0 : 0 ≤ i) (h1 : i < n) : 1 ≤ lk s.L i ∧ lk s.L i ≤ lk s.N i ∧ (lk s.P i = -1 ∨ (0 ≤ lk s.P i ∧ lk s.P i < n ∧ lk s.P i ≠ i ∧ (min i (lk s.P i), max i (lk s.P i)) ∈ E ∧ lk s.N (lk s.P i) < lk s.N i)) ∨ ¬ (∀ e ∈ E, 0 ≤ e.1 ∧ e.1 < e.2 ∧ e.2 < n) := by
  by_cases hE : ∀ e ∈ E, 0 ≤ e.1 ∧ e.1 < e.2 ∧ e.2 < n
  · left
    have hi := h.all i h0 h1
    refine ⟨(h.th.lo i hi).1, (h.th.lo i hi).2, ?_⟩
    rcases h.th.par i hi with e | ⟨e1, e2, e3⟩
    · exact .inl e
    · have := mem_nextL.1 ((Adj.next hE).2 e2)
      exact .inr ⟨e1.1, e1.2.1, fun e => by rw [e] at e3; omega, this.2.2.2, e3⟩
  · exact .inr hE

theorem Found.up_num (h : Found n E s) {v u : Int} (hu : Nd n s u) (ha : Anc s.P v u) : Nd n s v ∧ lk s.N v ≤ lk s.N u := by
  induction ha with
  | refl => exact ⟨hu, Int.le_refl _⟩
  | @step u h0 h1 _ ih =>
    rcases h.th.par u hu with e | ⟨e1, _, e3⟩
    · omega
    · have := ih e1
      exact ⟨this.1, by omega⟩
theorem Found.up_low (h : Found n E s) {v u : Int} (hu : Nd n s u) (ha : Anc s.P v u) : lk s.L v ≤ lk s.L u := by
  induction ha with
  | refl => exact Int.le_refl _
  | @step u h0 h1 _ ih =>
    rcases h.th.par u hu with e | ⟨e1, _, e3⟩
    · omega
    · exact Int.le_trans (ih e1) (h.a2 u hu h1)
theorem Anc.line {P : List Int} {a b u : Int} (ha : Anc P a u) (hb : Anc P b u) : Anc P a b ∨ Anc P b a := by
  induction ha with
  | refl => exact .inr hb
  | step h0 h1 hx ih =>
    rcases hb.inv with e | ⟨_, _, e⟩
    · subst e; exact .inl (.step h0 h1 hx)
    · exact ih e
theorem Found.conn (h : Found n E s) {v u : Int} (hu : Nd n s u) (ha : Anc s.P v u) : Conn E v u := by
  induction ha with
  | refl => exact .refl
  | @step u h0 h1 _ ih =>
    rcases h.th.par u hu with e | ⟨e1, e2, _⟩
    · omega
    · exact .step (ih e1) e2
theorem Found.root (h : Found n E s) : ∀ (m : Nat) (u : Int), Nd n s u → lk s.N u ≤ m → ∃ r, Nd n s r ∧ Anc s.P r u ∧ lk s.P r = -1
  | 0, u, hu, hm => by have := h.th.lo u hu; omega
  | m + 1, u, hu, hm => by
    rcases h.th.par u hu with e | ⟨e1, _, e3⟩
    · exact ⟨u, hu, .refl, e⟩
    · obtain ⟨r, a, b, c⟩ := h.root m _ e1 (by omega)
      exact ⟨r, a, .step hu.1 e1.1 b, c⟩
theorem Anc.root_one {P : List Int} {a b u : Int} (ha : Anc P a u) (hb : Anc P b u) (pa : lk P a = -1) (pb : lk P b = -1) : a = b := by
  rcases ha.line hb with h | h
  · rcases h.inv with e | ⟨_, e, _⟩
    · exact e
    · omega
  · rcases h.inv with e | ⟨_, e, _⟩
    · exact e.symm
    · omega
/-- along edges, the root is the same -/
theorem Found.root_conn (h : Found n E s) (hr : InR n E) {u v r : Int} (hu : Nd n s u) (c : Conn E u v) (ha : Anc s.P r u) (hp : lk s.P r = -1) : Anc s.P r v := by
  induction c with
  | refl => exact ha
  | @step y z c a ih =>
    have hyr := hr.adj a
    rcases h.th.cmp y z (h.all y hyr.1 hyr.2.1) (h.all z hyr.2.2.1 hyr.2.2.2) a with e | e
    · rcases ih.line e with k | k
      · exact k
      · rcases k.inv with k | ⟨_, k, _⟩
        · subst k; exact .refl
        · omega
    · exact ih.trans e
def rootsTo (P : List Int) (k : Nat) : Nat := (List.range k).countP fun (i : Nat) => decide (lk P i < 0)
theorem rootsTo_succ (P : List Int) (k : Nat) : rootsTo P (k + 1) = rootsTo P k + if lk P k < 0 then 1 else 0 := by
  unfold rootsTo
  rw [List.range_succ, List.countP_append]
  simp [List.countP_cons]
theorem rootsTo_le (P : List Int) (k : Nat) : rootsTo P k ≤ k := by
  have := List.countP_le_length (p := fun (i : Nat) => decide (lk P i < 0)) (l := List.range k)
  simpa [rootsTo] using this
theorem Found.parts (h : Found n E s) (hr : InR n E) : rootsTo s.P n = cntTo (labels n E) n := by
  have hll := labels_length hr
  have fixd : ∀ i : Nat, i < n → (((labels n E)[i]? == some (i : Int)) = true ↔ lk (labels n E) i = i) := fun i hi => by
    have := lk_some (N := labels n E) (x := i) (by omega) (by omega)
    rw [show ((i : Int).toNat) = i by omega] at this
    rw [this]; simp
  have rootd : ∀ i : Nat, i < n → lk s.P i < 0 → lk s.P i = -1 := fun i hi hp => by
    rcases h.th.par i (h.all i (by omega) (by omega)) with e | e
    · exact e
    · have := e.1.1; omega
  unfold rootsTo cntTo
  rw [List.countP_eq_length_filter, List.countP_eq_length_filter]
  refine Nat.le_antisymm ?_ ?_
  · refine inj_le (fun (a b : Nat) => lk (labels n E) a = b) _ _ (List.nodup_range.filter _) (fun a ha => ?_) (fun a ha a' ha' b h1 h2 => ?_)
    · obtain ⟨ha1, ha2⟩ := List.mem_filter.1 ha
      have han := List.mem_range.1 ha1
      have hb := labels_bd hr (x := a) (by omega) (by omega)
      have hf := labels_fix hr (x := a) (by omega) (by omega)
      refine ⟨(lk (labels n E) a).toNat, List.mem_filter.2 ⟨List.mem_range.2 (by omega), (fixd _ (by omega)).2 ?_⟩, by omega⟩
      rw [show (((lk (labels n E) a).toNat : Nat) : Int) = lk (labels n E) a by omega]
      exact hf
    · obtain ⟨ha1, ha2⟩ := List.mem_filter.1 ha
      obtain ⟨hb1, hb2⟩ := List.mem_filter.1 ha'
      have han := List.mem_range.1 ha1
      have hbn := List.mem_range.1 hb1
      have c := (labels_iff hr (x := a) (y := a') ⟨by omega, by omega⟩ ⟨by omega, by omega⟩).1 (h1.trans h2.symm)
      have pa := rootd a han (by simpa using ha2)
      have pb := rootd a' hbn (by simpa using hb2)
      have := Anc.root_one (h.root_conn hr (h.all a (by omega) (by omega)) c .refl pa) .refl pa pb
      omega
  · refine inj_le (fun (a b : Nat) => Anc s.P b a ∧ lk s.P b = -1) _ _ (List.nodup_range.filter _) (fun a ha => ?_) (fun a ha a' ha' b h1 h2 => ?_)
    · obtain ⟨ha1, ha2⟩ := List.mem_filter.1 ha
      have han := List.mem_range.1 ha1
      have hn := h.all a (by omega) (by omega)
      obtain ⟨r, hr1, hr2, hr3⟩ := h.root (lk s.N a).toNat a hn (by omega)
      have e : ((r.toNat : Nat) : Int) = r := by have := hr1.1; omega
      refine ⟨r.toNat, List.mem_filter.2 ⟨List.mem_range.2 (by have := hr1.2.1; omega), ?_⟩, by rw [e]; exact hr2, by rw [e]; exact hr3⟩
      rw [e, hr3]; rfl
    · obtain ⟨ha1, ha2⟩ := List.mem_filter.1 ha
      obtain ⟨hb1, hb2⟩ := List.mem_filter.1 ha'
      have han := List.mem_range.1 ha1
      have hbn := List.mem_range.1 hb1
      have na := h.all a (by omega) (by omega)
      have nb := h.all a' (by omega) (by omega)
      have c := (h.conn na h1.1).symm.trans (h.conn nb h2.1)
      have := (labels_iff hr (x := a) (y := a') ⟨by omega, by omega⟩ ⟨by omega, by omega⟩).2 c
      rw [(fixd a han).1 ha2, (fixd a' hbn).1 hb2] at this
      omega

/-! ### bridges -/
theorem adj_out (hE : ∀ e ∈ E, 0 ≤ e.1 ∧ e.1 < e.2 ∧ e.2 < n) {a b u v : Int} (hab : a < b) : Adj (outE E (a, b)) u v ↔ Adj E u v ∧ ¬ (u = a ∧ v = b) ∧ ¬ (u = b ∧ v = a) := by
  unfold Adj
  rw [outE_mem, outE_mem]
  constructor
  · rintro (⟨h, k⟩ | ⟨h, k⟩)
    · have := hE _ h
      simp only at this
      exact ⟨.inl h, fun e => k (by rw [e.1, e.2]), fun e => by omega⟩
    · have := hE _ h
      simp only at this
      exact ⟨.inr h, fun e => by omega, fun e => k (by rw [e.1, e.2])⟩
  · rintro ⟨h | h, k1, k2⟩
    · exact .inl ⟨h, fun e => k1 (by injection e with e1 e2; exact ⟨e1, e2⟩)⟩
    · exact .inr ⟨h, fun e => k2 (by injection e with e1 e2; exact ⟨e2, e1⟩)⟩
/-- without the edge between x and its parent -/
theorem Found.tree (h : Found n E s) {F : Es} {x p : Int} (hF : ∀ u v, Adj F u v ↔ Adj E u v ∧ ¬ (u = p ∧ v = x) ∧ ¬ (u = x ∧ v = p)) (hr : InR n E) (hx : Nd n s x) (hp : lk s.P x = p) (h0 : 0 ≤ p) : Conn F x p ↔ lk s.L x ≤ lk s.N p := by
  obtain ⟨hpn, hpa, hpx⟩ : Nd n s p ∧ Adj E p x ∧ lk s.N p < lk s.N x := by
    rcases h.th.par x hx with e | e
    · omega
    · rw [hp] at e; exact e
  constructor
  · intro c
    refine Classical.byContradiction fun hlt => ?_
    have key : ∀ v, Conn F x v → Nd n s v ∧ Anc s.P x v := fun v c => by
      induction c with
      | refl => exact ⟨hx, .refl⟩
      | @step u v c a ih =>
        obtain ⟨hu, hau⟩ := ih
        obtain ⟨a1, a2, a3⟩ := (hF u v).1 a
        have hvr := hr.adj a1
        have hv := h.all v hvr.2.2.1 hvr.2.2.2
        refine ⟨hv, ?_⟩
        by_cases e : v = lk s.P u
        · rcases hau.inv with e2 | ⟨_, _, e2⟩
          · subst e2
            exact absurd ⟨rfl, e.trans hp⟩ a3
          · rw [e]; exact e2
        · have l1 := h.a1 u v hu hv a1 e
          have l2 := h.up_low hu hau
          rcases h.th.cmp u v hu hv a1 with k | k
          · rcases hau.line k with k | k
            · exact k
            · rcases k.inv with k | ⟨_, _, k⟩
              · subst k; exact .refl
              · rw [hp] at k
                have := (h.up_num hpn k).2
                omega
          · exact hau.trans k
    have := (h.up_num hpn (key p c).2).2
    omega
  · intro hle
    have hit := h.th.hit x hx
    rcases hit with e | ⟨w, z, hw, hz, aw, awz, hne, hL⟩
    · omega
    · have down : ∀ u, Nd n s u → Anc s.P x u → Conn F x u := fun u hu ha => by
        induction ha with
        | refl => exact .refl
        | @step u u0 u1 k ih =>
          rcases h.th.par u hu with e | ⟨e1, e2, e3⟩
          · omega
          · refine .step (ih e1) ((hF _ _).2 ⟨e2, fun q => ?_, fun q => ?_⟩)
            · rw [q.1] at k
              have := (h.up_num hpn k).2; omega
            · rw [q.1, q.2] at e3; omega
      have rise : ∀ u, Nd n s u → lk s.N u ≤ lk s.N p → Anc s.P z u → Conn F z u := fun u hu hle ha => by
        induction ha with
        | refl => exact .refl
        | @step u u0 u1 k ih =>
          rcases h.th.par u hu with e | ⟨e1, e2, e3⟩
          · omega
          · refine .step (ih e1 (by omega)) ((hF _ _).2 ⟨e2, fun q => ?_, fun q => ?_⟩)
            · rw [q.2] at hle; omega
            · rw [q.1, q.2] at e3; omega
      have nw := (h.up_num hw aw).2
      have c1 := down w hw aw
      have c2 : Adj F w z := (hF _ _).2 ⟨awz, fun q => by rw [q.1] at nw; omega, fun q => hne (by rw [q.1, hp]; exact q.2)⟩
      have zx : Anc s.P z x := by
        rcases h.th.cmp w z hw hz awz with k | k
        · rcases k.line aw with k | k
          · exact k
          · have := (h.up_num hz k).2; omega
        · have := (h.up_num hz k).2; omega
      have zp : Anc s.P z p := by
        rcases zx.inv with e | ⟨_, _, e⟩
        · rw [e] at hL; omega
        · rwa [hp] at e
      exact (Conn.step c1 c2).trans (rise p hpn (Int.le_refl _) zp)
theorem Found.other (h : Found n E s) {F : Es} {a b : Int} (hF : ∀ u v, Adj F u v ↔ Adj E u v ∧ ¬ (u = a ∧ v = b) ∧ ¬ (u = b ∧ v = a)) (ha : Nd n s a) (hb : Nd n s b) (hab : Adj E a b) (h1 : lk s.P b ≠ a) (h2 : lk s.P a ≠ b) : Conn F a b := by
  have key : ∀ {v u}, Nd n s u → Anc s.P v u → Conn F v u := fun {v u} hu k => by
    induction k with
    | refl => exact .refl
    | @step u u0 u1 k ih =>
      rcases h.th.par u hu with e | ⟨e1, e2, e3⟩
      · omega
      · exact .step (ih e1) ((hF _ _).2 ⟨e2, fun q => h1 (by rw [← q.2]; exact q.1), fun q => h2 (by rw [← q.2]; exact q.1)⟩)
  rcases h.th.cmp a b ha hb hab with k | k
  · exact (key ha k).symm
  · exact key hb k
/-- as the law asks: a bridge by its low point -/
def lowBridge (s : DS) (a b : Int) : Bool := (decide (lk s.P b = a) && decide (lk s.N a < lk s.L b)) || (decide (lk s.P a = b) && decide (lk s.N b < lk s.L a))
open Classical in
theorem Found.bridge (h : Found n E s) (hE : ∀ e ∈ E, 0 ≤ e.1 ∧ e.1 < e.2 ∧ e.2 < n) (hr : InR n E) {a b : Int} (he : (a, b) ∈ E) : bridgeB n E (a, b) = lowBridge s a b := by
  have hh := hE _ he
  simp only at hh
  have ha := h.all a (by omega) (by omega)
  have hb := h.all b (by omega) (by omega)
  have hadj : Adj E a b := .inl he
  have hs : InR n (outE E (a, b)) := hr.sub outE_sub
  have hF := fun u v => adj_out (u := u) (v := v) hE hh.2.1
  have hcb : connB n (outE E (a, b)) a b = decide (Conn (outE E (a, b)) a b) := by
    unfold connB
    rw [decide_eq_decide]
    exact labels_iff hs ⟨by omega, by omega⟩ ⟨by omega, by omega⟩
  unfold bridgeB
  simp only
  rw [hcb]
  by_cases p1 : lk s.P b = a
  · have t := h.tree (x := b) (p := a) (F := outE E (a, b)) (fun u v => hF u v) hr hb p1 (by omega)
    have hlt : lk s.N a < lk s.N b := by
      rcases h.th.par b hb with e | e
      · omega
      · rw [p1] at e; exact e.2.2
    have p2 : lk s.P a ≠ b := fun p2 => by
      rcases h.th.par a ha with e | e
      · omega
      · rw [p2] at e; have := e.2.2; omega
    have t2 : Conn (outE E (a, b)) a b ↔ lk s.L b ≤ lk s.N a := ⟨fun c => t.1 c.symm, fun c => (t.2 c).symm⟩
    rw [show decide (Conn (outE E (a, b)) a b) = decide (lk s.L b ≤ lk s.N a) from decide_eq_decide.2 t2]
    have d1 : decide (lk s.P b = a) = true := by simpa using p1
    have d2 : decide (lk s.P a = b) = false := by simpa using p2
    unfold lowBridge
    rw [d1, d2]
    by_cases q : lk s.L b ≤ lk s.N a
    · have q2 : ¬ lk s.N a < lk s.L b := by omega
      simp [q, q2]
    · have q2 : lk s.N a < lk s.L b := by omega
      simp [q, q2]
  · by_cases p2 : lk s.P a = b
    · have t := h.tree (x := a) (p := b) (F := outE E (a, b)) (fun u v => by rw [hF u v]; constructor <;> (rintro ⟨k1, k2, k3⟩; exact ⟨k1, k3, k2⟩)) hr ha p2 (by omega)
      rw [show decide (Conn (outE E (a, b)) a b) = decide (lk s.L a ≤ lk s.N b) from decide_eq_decide.2 t]
      have d1 : decide (lk s.P b = a) = false := by simpa using p1
      have d2 : decide (lk s.P a = b) = true := by simpa using p2
      unfold lowBridge
      rw [d1, d2]
      by_cases q : lk s.L a ≤ lk s.N b
      · have q2 : ¬ lk s.N b < lk s.L a := by omega
        simp [q, q2]
      · have q2 : lk s.N b < lk s.L a := by omega
        simp [q, q2]
    · have t := h.other (F := outE E (a, b)) (fun u v => hF u v) ha hb hadj p1 p2
      have d1 : decide (lk s.P b = a) = false := by simpa using p1
      have d2 : decide (lk s.P a = b) = false := by simpa using p2
      unfold lowBridge
      rw [d1, d2]
      simp [t]
end
end Go.Proofs.Ytjchabeiaajgiaa
