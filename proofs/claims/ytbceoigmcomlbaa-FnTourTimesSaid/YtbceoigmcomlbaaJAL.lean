/- The plain laws of linked and split tours, as the laws use them. -/
import Derived.Test.YtbceoigmcomlbaaJ46
namespace Go.Proofs.Ytbceoigmcomlbaa
open Go.RowKit
set_option linter.unusedVariables false
set_option linter.unusedSimpArgs false

theorem tv_head {L : List Int} (h : TV L) : ∃ r, L[0]? = some r := ⟨_, List.getElem?_eq_getElem h.1.1⟩
/-- the linked tour in parts -/
theorem link_parts {A B : List Int} {x y : Int} (h : linkOk A B x y) : ∃ P Q, A = P ++ x :: Q ∧ x ∉ P ∧ linkL A B x y = P ++ x :: (turnL B y ++ x :: Q) ∧ TV (turnL B y) ∧ (turnL B y).head? = some y ∧ (∀ z ∈ turnL B y, z ∉ A) := by
  obtain ⟨hA, hB, hx, hy, hd⟩ := h
  obtain ⟨k, hk, hg, hf⟩ := fstV_spec hx
  obtain ⟨t1, t2, t3, t4⟩ := turn_spec hB hy
  refine ⟨A.take k, A.drop (k + 1), cut_at hg, ?_, ?_, t1, by rw [List.head?_eq_getElem?]; exact t3, fun z hz => hd z ((t2 z).1 hz)⟩
  · intro hm
    obtain ⟨i, hi, he⟩ := List.mem_iff_getElem.1 hm
    rw [List.length_take] at hi
    rw [List.getElem_take] at he
    exact hf i (by omega) (by rw [List.getElem?_eq_getElem (by omega), he])
  · obtain ⟨hl, he⟩ := List.getElem?_eq_some_iff.1 hg
    unfold linkL
    rw [hk, Int.toNat_natCast, List.take_add_one, hg, List.drop_eq_getElem_cons hl, he]
    simp
theorem link_tv {A B : List Int} {x y : Int} (h : linkOk A B x y) : TV (linkL A B x y) := by
  obtain ⟨P, Q, hA, hx, hL, hT, hh, hd⟩ := link_parts h
  have hTA := (tv_iff A).1 h.1
  rw [hA] at hTA hd
  rw [hL]
  exact (tv_iff _).2 (link_core hTA ((tv_iff _).1 hT) hh hd).1
theorem link_head {A B : List Int} {x y : Int} (h : linkOk A B x y) : (linkL A B x y)[0]? = A[0]? := by
  obtain ⟨P, Q, hA, hx, hL, hT, hh, hd⟩ := link_parts h
  rw [hL]
  conv => rhs; rw [hA]
  cases P <;> rfl
theorem link_steps {A B : List Int} {x y : Int} (h : linkOk A B x y) : ∀ e, e ∈ stepsL (linkL A B x y) ↔ e = eOf x y ∨ e ∈ stepsL A ∨ e ∈ stepsL (turnL B y) := by
  obtain ⟨P, Q, hA, hx, hL, hT, hh, hd⟩ := link_parts h
  have hTA := (tv_iff A).1 h.1
  rw [hA] at hTA hd
  intro e
  rw [hL, (link_core hTA ((tv_iff _).1 hT) hh hd).2.1, hA, steps_shared P x Q]
  simp only [List.mem_append, List.mem_cons]
  constructor
  · rintro (h | h | h | h | h) <;> simp [h]
  · rintro (h | (h | h) | h) <;> simp [h]
/-- split again it gives the parts -/
theorem link_split {A B : List Int} {x y : Int} (h : linkOk A B x y) : spOk (linkL A B x y) (eOf x y) ∧ spA (linkL A B x y) (eOf x y) = A ∧ spB (linkL A B x y) (eOf x y) = turnL B y := by
  have hv := link_tv h
  have hm := (link_steps h (eOf x y)).2 (Or.inl rfl)
  obtain ⟨P, Q, hA, hx, hL, hT, hh, hd⟩ := link_parts h
  have hs : spOk (linkL A B x y) (eOf x y) := ⟨hv, mem_eset.2 hm⟩
  have hTA := (tv_iff A).1 h.1
  rw [hA] at hTA hd
  obtain ⟨c1, c2, c3, c4⟩ := link_core hTA ((tv_iff _).1 hT) hh hd
  refine ⟨hs, ?_⟩
  obtain ⟨i, j, hp, hj, ea, eb⟩ := spOk_places hs
  rw [ea, eb]
  have hT1 := hT.1.1
  have lP : (stepsL (P ++ [x])).length = P.length := by rw [stepsL_len]; simp
  have lT : (stepsL (turnL B y)).length = (turnL B y).length - 1 := stepsL_len _
  have p1 : (stepsL (linkL A B x y))[P.length]? = some (eOf x y) := by
    rw [hL, c2, List.getElem?_append_right (by omega), lP, Nat.sub_self]; rfl
  have p2 : (stepsL (linkL A B x y))[P.length + (turnL B y).length]? = some (eOf x y) := by
    rw [hL, c2, List.getElem?_append_right (by omega), lP, show P.length + (turnL B y).length - P.length = ((turnL B y).length - 1) + 1 by omega, List.getElem?_cons_succ, List.getElem?_append_right (by omega), lT, Nat.sub_self]; rfl
  have q1 := hp.only _ p1
  have q2 := hp.only _ p2
  have q3 := hp.lt
  have hi : i = P.length := by omega
  have hjj : j = P.length + (turnL B y).length := by omega
  subst hi hjj
  rw [hL]
  generalize turnL B y = T at *
  constructor
  · rw [hA]
    have e1 : (P ++ x :: (T ++ x :: Q)).take (P.length + 1) = P ++ [x] := by
      rw [show P ++ x :: (T ++ x :: Q) = (P ++ [x]) ++ (T ++ x :: Q) by simp, List.take_left' (by simp)]
    have e2 : (P ++ x :: (T ++ x :: Q)).drop (P.length + T.length + 2) = Q := by
      rw [show P ++ x :: (T ++ x :: Q) = (P ++ [x] ++ T ++ [x]) ++ Q by simp, List.drop_left' (by simp; omega)]
    rw [e1, e2]; simp
  · have e1 : (P ++ x :: (T ++ x :: Q)).take (P.length + T.length + 1) = P ++ [x] ++ T := by
      rw [show P ++ x :: (T ++ x :: Q) = (P ++ [x] ++ T) ++ x :: Q by simp, List.take_left' (by simp; omega)]
    rw [e1, List.drop_left' (by simp)]
/-- what lies below the node that was linked -/
theorem link_below {A B : List Int} {x y : Int} (h : linkOk A B x y) : y ∈ linkL A B x y ∧ belowL (linkL A B x y) y = turnL B y := by
  obtain ⟨P, Q, hA, hx, hL, hT, hh, hd⟩ := link_parts h
  rw [hL]
  have hl := tv_last hT (by rw [← List.head?_eq_getElem?]; exact hh)
  generalize turnL B y = T at *
  have hyT : y ∈ T := by
    obtain ⟨s, hs⟩ := head_cons hh
    rw [hs]; exact List.mem_cons_self
  have hyA := hd y hyT
  rw [hA] at hyA
  have hyP : y ∉ P ++ [x] := fun hm => hyA (by simp at hm ⊢; rcases hm with h | h <;> simp [h])
  have hyQ : y ∉ x :: Q := fun hm => hyA (List.mem_append_right _ hm)
  have hmem : y ∈ P ++ x :: (T ++ x :: Q) := by simp [hyT]
  have hT1 : 1 ≤ T.length := by cases T with
    | nil => simp at hyT
    | cons a t => simp
  have e0 : P ++ x :: (T ++ x :: Q) = (P ++ [x]) ++ (T ++ x :: Q) := by simp
  have gmid : ∀ i, i < T.length → (P ++ x :: (T ++ x :: Q))[P.length + 1 + i]? = T[i]? := fun i hi => by
    rw [e0, List.getElem?_append_right (by simp), show P.length + 1 + i - (P ++ [x]).length = i by simp, List.getElem?_append_left hi]
  obtain ⟨k, hk, hg, hf⟩ := fstV_spec hmem
  have k0 : (P ++ x :: (T ++ x :: Q))[P.length + 1]? = some y := by
    have := gmid 0 (by omega)
    rw [Nat.add_zero] at this
    rw [this, ← List.head?_eq_getElem?]; exact hh
  have hkk : k = P.length + 1 := by
    refine Classical.byContradiction fun hne => ?_
    rcases Nat.lt_or_ge k (P.length + 1) with hlt | hge
    · rw [e0, List.getElem?_append_left (by simp; omega)] at hg
      exact hyP (List.mem_of_getElem? hg)
    · exact hf (P.length + 1) (by omega) k0
  have hla : LastAt (P ++ x :: (T ++ x :: Q)) y (P.length + T.length) := by
    constructor
    · have := gmid (T.length - 1) (by omega)
      rw [show P.length + 1 + (T.length - 1) = P.length + T.length by omega] at this
      rw [this, ← List.getLast?_eq_getElem?]; exact hl
    · intro i hi hc
      rw [e0, List.getElem?_append_right (by simp; omega), List.getElem?_append_right (by simp; omega)] at hc
      exact hyQ (List.mem_of_getElem? hc)
  refine ⟨hmem, ?_⟩
  unfold belowL
  rw [lstV_eq hla, hk, hkk, Int.toNat_natCast]
  have e1 : (P ++ x :: (T ++ x :: Q)).take (P.length + T.length + 1) = P ++ [x] ++ T := by
    rw [show P ++ x :: (T ++ x :: Q) = (P ++ [x] ++ T) ++ x :: Q by simp, List.take_left' (by simp; omega)]
  rw [e1, List.drop_left' (by simp)]

theorem linkTours_facts {xs ys : List Int} {x y : Int} (h : linkOk xs ys x y) : ∃ L T u v, eOf x y = (u, v) ∧ tLink xs ys x y = L ∧ decide (linkOk xs ys x y) = true ∧ tSplA L (u, v) = xs ∧ tSplB L (u, v) = T ∧ decide (spOk L (u, v)) = true ∧ tTurn ys y = T ∧ turnB ys y = true ∧ decide (TV L) = true ∧ L.length ≤ 31 ∧ T.length ≤ 31 ∧ L.length = xs.length + ys.length + 1 := by
  have hv := link_tv h
  obtain ⟨s1, s2, s3⟩ := link_split h
  have hT := turn_spec h.2.1 h.2.2.2.1
  have hl := linkL_len h
  generalize he : eOf x y = e at *
  obtain ⟨u, v⟩ := e
  exact ⟨linkL xs ys x y, turnL ys y, u, v, rfl, tLink_yes h, decide_eq_true h, by rw [(tSpl_yes s1).1, s2], by rw [(tSpl_yes s1).2, s3], decide_eq_true s1, tTurn_yes h.2.1 h.2.2.2.1, decide_eq_true ⟨h.2.1, h.2.2.2.1⟩, decide_eq_true hv, hv.1.2.1, hT.1.1.2.1, hl⟩
theorem linkRoots_facts {xs ys : List Int} {x y : Int} (h : linkOk xs ys x y) : ∃ L T D r, xs[0]? = some r ∧ L[0]? = some r ∧ tLink xs ys x y = L ∧ decide (linkOk xs ys x y) = true ∧ tBelow L y = T ∧ turnB L y = true ∧ tTurn ys y = T ∧ turnB ys y = true ∧ tDepths L = D ∧ decide (TV L) = true ∧ L.length ≤ 31 ∧ T.length ≤ 31 ∧ D.length = L.length ∧ 1 ≤ L.length ∧ 1 ≤ xs.length := by
  have hv := link_tv h
  obtain ⟨s1, s2⟩ := link_below h
  have hT := turn_spec h.2.1 h.2.2.2.1
  obtain ⟨r, hr⟩ := tv_head h.1
  exact ⟨linkL xs ys x y, turnL ys y, depL (linkL xs ys x y), r, hr, by rw [link_head h]; exact hr, tLink_yes h, decide_eq_true h, by rw [tBelow_yes hv s1, s2], decide_eq_true ⟨hv, s1⟩, tTurn_yes h.2.1 h.2.2.2.1, decide_eq_true ⟨h.2.1, h.2.2.2.1⟩, tDepths_yes hv, decide_eq_true hv, hv.1.2.1, hT.1.1.2.1, depL_len _, hv.1.1, h.1.1.1⟩
/-- a split tour -/
theorem split_facts {xs : List Int} {u v : Int} (h : spOk xs (u, v)) : ∃ A B x y, tSplA xs (u, v) = A ∧ tSplB xs (u, v) = B ∧ linkOk A B x y ∧ B[0]? = some y ∧ A[0]? = xs[0]? ∧ (u, v) = eOf x y ∧ A.length + B.length + 1 = xs.length ∧ (∀ z ∈ xs, z ∈ A ∨ z ∈ B) ∧ ∀ e, e ∈ stepsL xs ↔ e = eOf x y ∨ e ∈ stepsL A ∨ e ∈ stepsL B := by
  obtain ⟨i, j, hp, hj, ea, eb⟩ := spOk_places h
  obtain ⟨x, y, g1, g2, g3, g4, he, tA, tB, hd, hL, hh, hl, n1, n2⟩ := tour_split ((tv_iff xs).1 h.1) hp.lt hp.fst hp.snd
  rw [(tSpl_yes h).1, (tSpl_yes h).2, ea, eb]
  have hlt := hp.lt
  have eA : xs.take (i + 1) ++ xs.drop (j + 2) = xs.take i ++ x :: xs.drop (j + 2) := by
    rw [List.take_add_one, g1]; simp
  have hyB : y ∈ (xs.take (j + 1)).drop (i + 1) := by
    obtain ⟨s, hs⟩ := head_cons hh
    rw [hs]; exact List.mem_cons_self
  have tA' := tA
  have hd' := hd
  rw [eA] at tA' hd'
  obtain ⟨c1, c2, c3, c4⟩ := link_core tA' tB hh hd'
  refine ⟨_, _, x, y, rfl, rfl, ⟨(tv_iff _).2 tA, (tv_iff _).2 tB, by rw [eA]; simp, hyB, hd⟩, by rw [← List.head?_eq_getElem?]; exact hh, ?_, he, ?_, ?_, ?_⟩
  · rw [List.getElem?_append_left (by rw [List.length_take]; omega), List.getElem?_take_of_lt (by omega)]
  · rw [List.length_append, List.length_take, List.length_drop, List.length_drop, List.length_take]; omega
  · intro z hz
    rw [hL] at hz
    rw [eA]
    simp only [List.mem_append, List.mem_cons] at hz ⊢
    rcases hz with h | h | h | h | h <;> simp [h]
  · intro e
    conv => lhs; rw [hL, c2]
    rw [eA, steps_shared (xs.take i) x (xs.drop (j + 2))]
    simp only [List.mem_append, List.mem_cons]
    constructor
    · rintro (h | h | h | h | h) <;> simp [h]
    · rintro (h | (h | h) | h) <;> simp [h]
theorem eOf_or {x y u v : Int} (h : (u, v) = eOf x y) : u = x ∧ v = y ∨ u = y ∧ v = x := by
  unfold eOf at h
  injection h with h1 h2
  omega
theorem splitTour_facts {xs : List Int} {u v : Int} (h : spOk xs (u, v)) : ∃ A B L E r, tSplA xs (u, v) = A ∧ tSplB xs (u, v) = B ∧ decide (spOk xs (u, v)) = true ∧ (decide (u ∈ A) = true ∧ tLink A B u v = L ∧ decide (linkOk A B u v) = true ∨ decide (u ∈ A) = false ∧ tLink A B v u = L ∧ decide (linkOk A B v u) = true) ∧ tEdges xs = E ∧ decide (TV xs) = true ∧ tEdges L = E ∧ decide (TV L) = true ∧ decide (TV A) = true ∧ decide (TV B) = true ∧ A[0]? = some r ∧ xs[0]? = some r ∧ A.length ≤ 31 ∧ B.length ≤ 31 ∧ L.length ≤ 31 ∧ E.length ≤ 30 ∧ 1 ≤ A.length ∧ 1 ≤ xs.length := by
  obtain ⟨A, B, x, y, e1, e2, hk, hB, hA0, he, hl, hz, hs⟩ := split_facts h
  obtain ⟨r, hr⟩ := tv_head h.1
  have hv := link_tv hk
  have ht : turnL B y = B := turn_root hk.2.1 hB
  have hE : eset (stepsL (linkL A B x y)) = eset (stepsL xs) := eset_ext fun e => by rw [link_steps hk, ht, hs]
  refine ⟨A, B, linkL A B x y, eset (stepsL xs), r, e1, e2, decide_eq_true h, ?_, tEdges_yes h.1, decide_eq_true h.1, by rw [tEdges_yes hv, hE], decide_eq_true hv, decide_eq_true hk.1, decide_eq_true hk.2.1, by rw [hA0, hr], hr, hk.1.1.2.1, hk.2.1.1.2.1, hv.1.2.1, tv_len h.1, hk.1.1.1, h.1.1.1⟩
  rcases eOf_or he with ⟨rfl, rfl⟩ | ⟨rfl, rfl⟩
  · exact Or.inl ⟨decide_eq_true hk.2.2.1, tLink_yes hk, decide_eq_true hk⟩
  · exact Or.inr ⟨decide_eq_false (hk.2.2.2.2 _ hk.2.2.2.1), tLink_yes hk, decide_eq_true hk⟩
theorem splitNodes_facts {xs : List Int} {u v : Int} (h : spOk xs (u, v)) : ∃ A B, tSplA xs (u, v) = A ∧ tSplB xs (u, v) = B ∧ decide (spOk xs (u, v)) = true ∧ (∀ (k : Nat) (z : Int), xs[k]? = some z → ∃ b : Bool, decide (z ∈ A) = b ∧ decide (z ∈ B) = !b) ∧ (∃ b : Bool, decide (u ∈ A) = b ∧ decide (v ∈ A) = !b) ∧ A.length + B.length + 1 = xs.length ∧ A.length ≤ 31 ∧ B.length ≤ 31 := by
  obtain ⟨A, B, x, y, e1, e2, hk, hB, hA0, he, hl, hz, hs⟩ := split_facts h
  refine ⟨A, B, e1, e2, decide_eq_true h, fun k z hkz => ?_, ?_, hl, hk.1.1.2.1, hk.2.1.1.2.1⟩
  · by_cases hA : z ∈ A
    · exact ⟨true, decide_eq_true hA, decide_eq_false fun hb => hk.2.2.2.2 _ hb hA⟩
    · exact ⟨false, decide_eq_false hA, decide_eq_true ((hz z (List.mem_of_getElem? hkz)).resolve_left hA)⟩
  · have hx := hk.2.2.1
    have hy := hk.2.2.2.2 _ hk.2.2.2.1
    rcases eOf_or he with ⟨rfl, rfl⟩ | ⟨rfl, rfl⟩
    · exact ⟨true, decide_eq_true hx, decide_eq_false hy⟩
    · exact ⟨false, decide_eq_false hy, decide_eq_true hx⟩
theorem dyIn_t (A : Option Addr) (c n : Nat) (w : World) {xs : List Int} {x : Int} {b : Bool} (h : decide (x ∈ xs) = b) (hn : xs.length = n) (hx : IntsAt w A xs) (hl : n ≤ 1048576) : Calls Try.prog 20 #[.slice A n c, V x] w (RetS (.bool b) w) := h ▸ dyIn_c A c n xs x w hn hx hl
end Go.Proofs.Ytbceoigmcomlbaa
