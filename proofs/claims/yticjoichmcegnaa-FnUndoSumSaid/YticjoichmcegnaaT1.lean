/- Plain law: sets with parents, sizes and steps; what a step makes, what all steps make; sizes along parents; steps taken back. No program in sight. -/
import Derived.Test.YticjoichmcegnaaL
namespace Go.Proofs.Yticjoichmcegnaa

/-- x is a root -/
def isRt (P : List Int) (x : Int) : Bool := decide (0 ≤ x) && decide (x < P.length) && decide (lk P x = -1)
theorem isRt_iff {P : List Int} {x : Int} : isRt P x = true ↔ 0 ≤ x ∧ x < P.length ∧ lk P x = -1 := by simp [isRt, and_assoc]
/-- of two roots, x becomes the parent -/
def isAb (Z : List Int) (x y : Int) : Bool := decide (lk Z y < lk Z x) || (decide (lk Z x = lk Z y) && decide (x < y))
/-- the step can be made -/
def stOk (P Z : List Int) (m : Nat) (t : Int × Int) : Bool :=
  decide (m ≠ 100) && isRt P t.2 && (decide (t.1 = -1) || (decide (t.1 ≠ t.2) && isRt P t.1 && isAb Z t.2 t.1))
def stP (P : List Int) (t : Int × Int) : List Int := if t.1 = -1 then P else up P t.1 t.2
def stZ (Z : List Int) (t : Int × Int) : List Int := if t.1 = -1 then Z else up Z t.2 (lk Z t.2 + lk Z t.1)

structure SS where
  P : List Int
  Z : List Int
  T : Es
/-- a step, made if it can be -/
def stS (s : SS) (t : Int × Int) : SS := if stOk s.P s.Z s.T.length t = true then ⟨stP s.P t, stZ s.Z t, s.T ++ [t]⟩ else s
/-- sets and whether all steps so far were made -/
def rp1 (s : SS × Bool) (t : Int × Int) : SS × Bool := if s.2 = true then (stS s.1 t, stOk s.1.P s.1.Z s.1.T.length t) else s
/-- sets with one element each -/
def newS (n : Nat) : SS := ⟨List.replicate n (-1), List.replicate n 1, []⟩
/-- the sets behind steps, and whether all of them can be made -/
def rpS (n : Nat) (ts : Es) : SS × Bool := ts.foldl rp1 (newS n, true)
theorem rpS_snoc (n : Nat) (ts : Es) (t : Int × Int) : rpS n (ts ++ [t]) = rp1 (rpS n ts) t := by simp [rpS]
theorem rpS_take {n : Nat} {ts : Es} {k : Nat} {t : Int × Int} (h : ts[k]? = some t) : rpS n (ts.take (k + 1)) = rp1 (rpS n (ts.take k)) t := by
  obtain ⟨h1, h2⟩ := List.getElem?_eq_some_iff.1 h
  rw [List.take_succ_eq_append_getElem h1, h2, rpS_snoc]

/-- the sum of sizes of roots -/
def rootSum (P Z : List Int) : Int := ((P.zip Z).map fun q => if q.1 = -1 then q.2 else 0).sum
structure Inv (n : Nat) (s : SS) : Prop where
  lp : s.P.length = n
  lz : s.Z.length = n
  one : ∀ x : Int, 0 ≤ x → x < n → 1 ≤ lk s.Z x
  top : ∀ x : Int, 0 ≤ x → x < n → lk s.Z x ≤ n
  par : ∀ x : Int, 0 ≤ x → x < n → lk s.P x = -1 ∨ (0 ≤ lk s.P x ∧ lk s.P x < n ∧ 2 * lk s.Z x ≤ lk s.Z (lk s.P x))
  sum : rootSum s.P s.Z = n

theorem rootSum_set : ∀ (P Z : List Int) (i : Nat) (p z : Int), P.length = Z.length → i < P.length →
    rootSum (P.set i p) (Z.set i z) = rootSum P Z - (if P[i]?.getD 0 = -1 then Z[i]?.getD 0 else 0) + (if p = -1 then z else 0)
  | [], _, _, _, _, _, h => by simp at h
  | a :: P, [], _, _, _, h, _ => by simp at h
  | a :: P, b :: Z, 0, p, z, _, _ => by simp [rootSum]; omega
  | a :: P, b :: Z, i + 1, p, z, h, hi => by
    have := rootSum_set P Z i p z (by simpa using h) (by simpa using hi)
    simp [rootSum] at this ⊢
    omega
theorem rootSum_ge : ∀ (P Z : List Int) (i : Nat), P.length = Z.length → (∀ z ∈ Z, 0 ≤ z) → i < P.length → P[i]?.getD 0 = -1 → Z[i]?.getD 0 ≤ rootSum P Z
  | [], _, _, _, _, h, _ => by simp at h
  | a :: P, [], _, h, _, _, _ => by simp at h
  | a :: P, b :: Z, i, h, hz, hi, hp => by
    have hz' : ∀ z ∈ Z, 0 ≤ z := fun z hh => hz z (by simp [hh])
    have hb := hz b (by simp)
    have hnn : ∀ (P Z : List Int), (∀ z ∈ Z, 0 ≤ z) → 0 ≤ rootSum P Z := by
      intro P
      induction P with
      | nil => intro Z _; simp [rootSum]
      | cons a P ih =>
        intro Z hZ
        cases Z with
        | nil => simp [rootSum]
        | cons b Z =>
          have := ih Z (fun z hh => hZ z (by simp [hh]))
          have hb := hZ b (by simp)
          simp [rootSum] at this ⊢
          split <;> omega
    cases i with
    | zero =>
      have := hnn P Z hz'
      simp at hp
      simp [rootSum, hp] at this ⊢
      omega
    | succ i =>
      have := rootSum_ge P Z i (by simpa using h) hz' (by simpa using hi) (by simpa using hp)
      simp [rootSum] at this ⊢
      split <;> omega
theorem lk_mem {L : List Int} (h : ∀ x : Int, 0 ≤ x → x < L.length → 0 ≤ lk L x) : ∀ z ∈ L, 0 ≤ z := fun z hz => by
  obtain ⟨i, hi, rfl⟩ := List.mem_iff_getElem.1 hz
  have := h i (by omega) (by omega)
  simpa [lk, hi] using this
/-- two roots together are not more than all -/
theorem two_roots {n : Nat} {s : SS} (h : Inv n s) {x y : Int} (hx : isRt s.P x = true) (hy : isRt s.P y = true) (hne : x ≠ y) : lk s.Z x + lk s.Z y ≤ n := by
  obtain ⟨x0, x1, x2⟩ := isRt_iff.1 hx
  obtain ⟨y0, y1, y2⟩ := isRt_iff.1 hy
  have hl : s.P.length = s.Z.length := h.lp.trans h.lz.symm
  have h1 := rootSum_set s.P s.Z x.toNat 0 (lk s.Z x) hl (by omega)
  have hx2 : s.P[x.toNat]?.getD 0 = -1 := x2
  rw [hx2] at h1
  simp only [if_true] at h1
  rw [if_neg (by omega)] at h1
  have hzz : s.Z.set x.toNat (lk s.Z x) = s.Z := by
    unfold lk
    have : x.toNat < s.Z.length := by omega
    simp [this]
  rw [hzz] at h1
  have hnn : ∀ z ∈ s.Z, 0 ≤ z := lk_mem fun x a b => by have := h.one x a (by rw [h.lz] at b; exact b); omega
  have hy2 : (s.P.set x.toNat 0)[y.toNat]?.getD 0 = -1 := by
    rw [List.getElem?_set_ne (by omega)]; exact y2
  have h2 := rootSum_ge (s.P.set x.toNat 0) s.Z y.toNat (by simp [hl]) hnn (by simp; omega) hy2
  have hs := h.sum
  have e1 : s.Z[x.toNat]?.getD 0 = lk s.Z x := rfl
  have e2 : s.Z[y.toNat]?.getD 0 = lk s.Z y := rfl
  omega
theorem stOk_parts {P Z : List Int} {m : Nat} {t : Int × Int} (h : stOk P Z m t = true) : m ≠ 100 ∧ isRt P t.2 = true ∧ (t.1 = -1 ∨ (t.1 ≠ t.2 ∧ isRt P t.1 = true ∧ isAb Z t.2 t.1 = true)) := by
  simpa [stOk, and_assoc] using h
theorem lk_replicate {n : Nat} {v x : Int} (h0 : 0 ≤ x) (h1 : x < n) : lk (List.replicate n v) x = v := by
  unfold lk
  have : x.toNat < n := by omega
  simp [this]
theorem newS_inv (n : Nat) (hn : 1 ≤ n) : Inv n (newS n) := by
  refine ⟨by simp [newS], by simp [newS], fun x h0 h1 => ?_, fun x h0 h1 => ?_, fun x h0 h1 => ?_, ?_⟩
  · rw [show (newS n).Z = List.replicate n 1 from rfl, lk_replicate h0 h1]; omega
  · rw [show (newS n).Z = List.replicate n 1 from rfl, lk_replicate h0 h1]; omega
  · left; exact lk_replicate h0 h1
  · have : ∀ n : Nat, rootSum (List.replicate n (-1)) (List.replicate n 1) = n := by
      intro n
      induction n with
      | zero => simp [rootSum]
      | succ n ih => simp [rootSum, List.replicate_succ] at ih ⊢; omega
    exact this n
theorem Inv.step {n : Nat} {s : SS} (h : Inv n s) {t : Int × Int} (ht : stOk s.P s.Z s.T.length t = true) : Inv n ⟨stP s.P t, stZ s.Z t, s.T ++ [t]⟩ := by
  obtain ⟨hm, hr, hc⟩ := stOk_parts ht
  obtain ⟨c, r⟩ := t
  simp only at hr hc
  obtain ⟨r0, r1, r2⟩ := isRt_iff.1 hr
  have lp := h.lp
  have lz := h.lz
  rcases hc with rfl | ⟨hne, hcr, hab⟩
  · exact ⟨by simpa [stP] using h.lp, by simpa [stZ] using h.lz, by simpa [stZ] using h.one, by simpa [stZ] using h.top, by simpa [stP, stZ] using h.par, by simpa [stP, stZ] using h.sum⟩
  · obtain ⟨c0, c1, c2⟩ := isRt_iff.1 hcr
    have hc1 : ¬ c = -1 := by omega
    have h2 := two_roots h hr hcr (Ne.symm hne)
    have hP : stP s.P (c, r) = up s.P c r := if_neg hc1
    have hZ : stZ s.Z (c, r) = up s.Z r (lk s.Z r + lk s.Z c) := if_neg hc1
    have ge : lk s.Z c ≤ lk s.Z r := by unfold isAb at hab; simp at hab; omega
    have oc := h.one c c0 (by omega)
    refine ⟨by rw [hP, up_length]; exact lp, by rw [hZ, up_length]; exact lz, ?_, ?_, ?_, ?_⟩
    · intro x h0 h1
      simp only [hZ]
      by_cases e : x = r
      · subst e; rw [lk_up_same h0 (by omega)]; omega
      · rw [lk_up_ne r0 h0 (Ne.symm e)]; exact h.one x h0 h1
    · intro x h0 h1
      simp only [hZ]
      by_cases e : x = r
      · subst e; rw [lk_up_same h0 (by omega)]; exact h2
      · rw [lk_up_ne r0 h0 (Ne.symm e)]; exact h.top x h0 h1
    · intro x h0 h1
      simp only [hP, hZ]
      by_cases e : x = c
      · subst e
        rw [lk_up_same h0 (by omega), lk_up_same r0 (by omega), lk_up_ne r0 h0 (Ne.symm hne)]
        exact .inr ⟨r0, by omega, by omega⟩
      · rw [lk_up_ne c0 h0 (Ne.symm e)]
        rcases h.par x h0 h1 with hp | ⟨p0, p1, p2⟩
        · exact .inl hp
        · refine .inr ⟨p0, p1, ?_⟩
          have hxr : x ≠ r := by rintro rfl; omega
          rw [lk_up_ne r0 h0 (Ne.symm hxr)]
          by_cases e2 : lk s.P x = r
          · rw [e2, lk_up_same r0 (by omega)]; rw [e2] at p2; omega
          · rw [lk_up_ne r0 p0 (Ne.symm e2)]; exact p2
    · simp only [hP, hZ]
      have hl : s.P.length = s.Z.length := lp.trans lz.symm
      have s1 := rootSum_set s.P s.Z r.toNat (-1) (lk s.Z r + lk s.Z c) hl (by omega)
      have e1 : s.P.set r.toNat (-1) = s.P := by
        have : r.toNat < s.P.length := by omega
        have e : s.P[r.toNat] = -1 := by simpa [lk, this] using r2
        rw [← e]; simp
      rw [e1] at s1
      have s2 := rootSum_set s.P (s.Z.set r.toNat (lk s.Z r + lk s.Z c)) c.toNat r (lk s.Z c) (by simp [hl]) (by omega)
      have e2 : (s.Z.set r.toNat (lk s.Z r + lk s.Z c)).set c.toNat (lk s.Z c) = up s.Z r (lk s.Z r + lk s.Z c) := by
        unfold up
        apply List.ext_getElem?
        intro i
        by_cases e : c.toNat = i
        · subst e
          rw [List.getElem?_set_self (by simp; omega), List.getElem?_set_ne (by omega)]
          unfold lk
          have : c.toNat < s.Z.length := by omega
          simp [this]
        · rw [List.getElem?_set_ne e]
      rw [e2] at s2
      have f1 : s.P[r.toNat]?.getD 0 = -1 := r2
      have f2 : s.P[c.toNat]?.getD 0 = -1 := c2
      have f3 : (s.Z.set r.toNat (lk s.Z r + lk s.Z c))[c.toNat]?.getD 0 = lk s.Z c := by rw [List.getElem?_set_ne (by omega)]; rfl
      have f4 : s.Z[r.toNat]?.getD 0 = lk s.Z r := rfl
      rw [f1, f4] at s1
      rw [f2, f3] at s2
      simp only [if_true] at s1 s2
      rw [if_neg (show ¬ r = -1 by omega)] at s2
      have hs := h.sum
      have : up s.P c r = s.P.set c.toNat r := rfl
      rw [this, s2, s1]
      omega
theorem rp1_inv {n : Nat} {s : SS × Bool} (h : Inv n s.1) (t : Int × Int) : Inv n (rp1 s t).1 := by
  unfold rp1 stS
  split
  · split
    · exact h.step (by assumption)
    · exact h
  · exact h
theorem rpS_inv {n : Nat} (hn : 1 ≤ n) (ts : Es) : Inv n (rpS n ts).1 := by
  unfold rpS
  have : ∀ (ts : Es) (s : SS × Bool), Inv n s.1 → Inv n (ts.foldl rp1 s).1 := by
    intro ts
    induction ts with
    | nil => intro s h; exact h
    | cons t ts ih => intro s h; exact ih _ (rp1_inv h t)
  exact this ts _ (newS_inv n hn)

/-- the steps so far can be made -/
theorem rpS_ok {n : Nat} {ts : Es} {t : Int × Int} (h : (rpS n (ts ++ [t])).2 = true) : (rpS n ts).2 = true ∧ stOk (rpS n ts).1.P (rpS n ts).1.Z (rpS n ts).1.T.length t = true ∧
    (rpS n (ts ++ [t])).1 = ⟨stP (rpS n ts).1.P t, stZ (rpS n ts).1.Z t, (rpS n ts).1.T ++ [t]⟩ := by
  rw [rpS_snoc] at h ⊢
  unfold rp1 at h ⊢
  by_cases e : (rpS n ts).2 = true
  · rw [if_pos e] at h ⊢
    simp only at h
    refine ⟨e, h, ?_⟩
    unfold stS
    rw [if_pos h]
  · rw [if_neg e] at h; exact absurd h e
theorem snoc_ind {α : Type} {p : List α → Prop} (h0 : p []) (h1 : ∀ l a, p l → p (l ++ [a])) (l : List α) : p l := by
  have : ∀ (n : Nat) (l : List α), l.length = n → p l := by
    intro n
    induction n with
    | zero => intro l hl; rw [List.length_eq_zero_iff.1 hl]; exact h0
    | succ n ih =>
      intro l hl
      have hne : l ≠ [] := by intro h; simp [h] at hl
      rw [← List.dropLast_concat_getLast hne]
      exact h1 _ _ (ih _ (by simp [hl]))
  exact this _ l rfl
theorem rpS_T {n : Nat} : ∀ (ts : Es), (rpS n ts).2 = true → (rpS n ts).1.T = ts ∧ ts.length ≤ 100 := by
  refine snoc_ind (fun _ => ⟨rfl, by simp⟩) (fun ts t ih h => ?_)
  obtain ⟨h1, h2, h3⟩ := rpS_ok h
  obtain ⟨i1, i2⟩ := ih h1
  have hm := (stOk_parts h2).1
  rw [h3]
  rw [i1] at hm
  exact ⟨by simp [i1], by simp; omega⟩
theorem rpS_take_ok {n : Nat} {ts : Es} (h : (rpS n ts).2 = true) (k : Nat) : (rpS n (ts.take k)).2 = true := by
  revert h
  refine snoc_ind (p := fun ts => (rpS n ts).2 = true → (rpS n (ts.take k)).2 = true) (fun h => by simpa using h) (fun ts t ih h => ?_) ts
  by_cases hk : k ≤ ts.length
  · rw [List.take_append_of_le_length hk]
    exact ih (rpS_ok h).1
  · rw [List.take_of_length_le (by simp; omega)]; exact h

/-- valid sets -/
def SV (P Z : List Int) (T : Es) : Prop := 1 ≤ P.length ∧ P.length ≤ 16 ∧ (rpS P.length T).2 = true ∧ (rpS P.length T).1.P = P ∧ (rpS P.length T).1.Z = Z
theorem SV.inv {P Z : List Int} {T : Es} (h : SV P Z T) : Inv P.length ⟨P, Z, T⟩ := by
  have h1 := rpS_inv h.1 T
  have h2 := h.2.2.2.1
  have h3 := h.2.2.2.2
  exact ⟨rfl, by rw [← h3]; exact h1.lz, by have := h1.one; rwa [h3] at this, by have := h1.top; rwa [h3] at this, by have := h1.par; rwa [h2, h3] at this, by have := h1.sum; rwa [h2, h3] at this⟩
theorem SV.steps {P Z : List Int} {T : Es} (h : SV P Z T) : T.length ≤ 100 := (rpS_T T h.2.2.1).2

/-- a step taken back -/
def unP (P : List Int) (t : Int × Int) : List Int := if 0 ≤ t.1 then up P t.1 (-1) else P
def unZ (Z : List Int) (t : Int × Int) : List Int := if 0 ≤ t.1 then up Z t.2 (lk Z t.2 - lk Z t.1) else Z
theorem un_step {n : Nat} {s : SS} (h : Inv n s) {t : Int × Int} (ht : stOk s.P s.Z s.T.length t = true) : unP (stP s.P t) t = s.P ∧ unZ (stZ s.Z t) t = s.Z := by
  obtain ⟨hm, hr, hc⟩ := stOk_parts ht
  obtain ⟨c, r⟩ := t
  simp only at hr hc
  obtain ⟨r0, r1, r2⟩ := isRt_iff.1 hr
  have lp := h.lp
  have lz := h.lz
  rcases hc with rfl | ⟨hne, hcr, hab⟩
  · simp [unP, unZ, stP, stZ]
  · obtain ⟨c0, c1, c2⟩ := isRt_iff.1 hcr
    have hc1 : ¬ c = -1 := by omega
    have hP : stP s.P (c, r) = up s.P c r := if_neg hc1
    have hZ : stZ s.Z (c, r) = up s.Z r (lk s.Z r + lk s.Z c) := if_neg hc1
    rw [hP, hZ]
    unfold unP unZ
    simp only [if_pos c0]
    refine ⟨lk_ext (by simp [up_length]) fun x h0 h1 => ?_, lk_ext (by simp [up_length]) fun x h0 h1 => ?_⟩
    · simp only [up_length] at h1
      by_cases e : x = c
      · subst e; rw [lk_up_same h0 (by rw [up_length]; exact h1), c2]
      · rw [lk_up_ne c0 h0 (Ne.symm e), lk_up_ne c0 h0 (Ne.symm e)]
    · simp only [up_length] at h1
      by_cases e : x = r
      · subst e
        rw [lk_up_same h0 (by rw [up_length]; exact h1), lk_up_same h0 h1, lk_up_ne h0 c0 (Ne.symm hne)]
        omega
      · rw [lk_up_ne r0 h0 (Ne.symm e), lk_up_ne r0 h0 (Ne.symm e)]
end Go.Proofs.Yticjoichmcegnaa
