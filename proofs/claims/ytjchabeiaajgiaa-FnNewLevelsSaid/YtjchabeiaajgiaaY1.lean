/- Plain law: blocks of edges. The labels of blocks are those of the connected parts of the graph whose nodes are the numbers of edges; the rounds of the program and of the reference lead to them. No program in sight. -/
import Derived.Test.YtjchabeiaajgiaaF1
import Derived.Test.YtjchabeiaajgiaaP2
namespace Go.Proofs.Ytjchabeiaajgiaa
open Go.RowKit set_option linter.unusedVariables false set_option linter.unusedSimpArgs false

/-- edges without those of a node -/
def aloneL (es : Es) (v : Int) : Es := es.filter fun e => !decide (e.1 = v ∨ e.2 = v)
theorem aloneL_sub {es : Es} {v : Int} : ∀ e ∈ aloneL es v, e ∈ es := fun e h => (List.mem_filter.1 h).1
theorem aloneL_len (es : Es) (v : Int) : (aloneL es v).length ≤ es.length := List.length_filter_le _ _

/-- the node that two edges have in common, and their other nodes -/
def com (e f : Int × Int) : Option (Int × Int × Int) :=
  if e.1 = f.1 then some (e.1, e.2, f.2) else if e.1 = f.2 then some (e.1, e.2, f.1) else if e.2 = f.1 then some (e.2, e.1, f.2) else if e.2 = f.2 then some (e.2, e.1, f.1) else none
/-- two edges with a common node are on a cycle -/
noncomputable def cyc (n : Nat) (es : Es) (e f : Int × Int) : Bool := match com e f with
  | none => false
  | some (v, x, y) => connB n (aloneL es v) x y
theorem cyc_none {n : Nat} {es : Es} {e f : Int × Int} (h : com e f = none) : cyc n es e f = false := by simp [cyc, h]
theorem cyc_some {n : Nat} {es : Es} {e f : Int × Int} {v x y : Int} (h : com e f = some (v, x, y)) : cyc n es e f = connB n (aloneL es v) x y := by simp [cyc, h]

/-- the other node of an edge -/
def oth (e : Int × Int) (v : Int) : Int := if v = e.1 then e.2 else if v = e.2 then e.1 else -1
theorem com_of_oth {e f : Int × Int} (he : 0 ≤ e.1 ∧ e.1 < e.2) (hf : 0 ≤ f.1 ∧ f.1 < f.2) {v : Int} (h1 : 0 ≤ oth e v) (h2 : 0 ≤ oth f v) (h3 : oth e v ≠ oth f v) : com e f = some (v, oth e v, oth f v) := by
  obtain ⟨a, b⟩ := e
  obtain ⟨c, d⟩ := f
  unfold oth com at *
  simp only at *
  split at h1 <;> split at h2 <;> (try split at h1) <;> (try split at h2) <;> (try (simp at h1; done)) <;> (try (simp at h2; done)) <;> simp_all <;> (repeat' split) <;> (try rfl) <;> (try simp) <;> omega
theorem oth_of_com {e f : Int × Int} (hne : e ≠ f) (he : 0 ≤ e.1 ∧ e.1 < e.2) (hf : 0 ≤ f.1 ∧ f.1 < f.2) {v x y : Int} (h : com e f = some (v, x, y)) : (v = e.1 ∨ v = e.2) ∧ x = oth e v ∧ y = oth f v ∧ 0 ≤ x ∧ 0 ≤ y ∧ x ≠ y := by
  obtain ⟨a, b⟩ := e
  obtain ⟨c, d⟩ := f
  unfold com at h
  unfold oth
  simp only [ne_eq, Prod.mk.injEq, not_and] at *
  split at h
  · simp at h; obtain ⟨rfl, rfl, rfl⟩ := h
    rename_i e1; subst e1
    simp; exact ⟨by omega, by omega, hne rfl⟩
  · split at h
    · simp at h; obtain ⟨rfl, rfl, rfl⟩ := h
      rename_i e1; subst e1
      simp; exact ⟨by intro h; omega, by omega, by omega, by omega⟩
    · split at h
      · simp at h; obtain ⟨rfl, rfl, rfl⟩ := h
        rename_i e1; subst e1
        simp; exact ⟨by intro h; omega, by omega, by omega, by omega⟩
      · split at h
        · simp at h; obtain ⟨rfl, rfl, rfl⟩ := h
          rename_i e0 _ _ e1; subst e1
          simp; exact ⟨by intro h; omega, by intro h; omega, by omega, by omega, e0⟩
        · cases h

/-- the pairs of edges i > k that are on a cycle, for i below I, and those of i = I for k below K -/
noncomputable def cycK (n : Nat) (es : Es) (i K : Nat) : Es := (List.range K).filterMap fun (k : Nat) => if cyc n es (es[i]?.getD (0, 0)) (es[k]?.getD (0, 0)) = true then some ((i : Int), (k : Int)) else none
noncomputable def cycE (n : Nat) (es : Es) (I K : Nat) : Es := ((List.range I).flatMap fun i => cycK n es i i) ++ cycK n es I K
/-- all of them -/
noncomputable def cycA (n : Nat) (es : Es) : Es := cycE n es es.length 0
theorem cycE_zero (n : Nat) (es : Es) : cycE n es 0 0 = [] := by simp [cycE, cycK]
theorem cycE_next (n : Nat) (es : Es) (I : Nat) : cycE n es (I + 1) 0 = cycE n es I I := by
  simp [cycE, List.range_succ, List.flatMap_append]
  simp [cycK]
theorem cycE_step {n : Nat} {es : Es} {I K : Nat} {e f : Int × Int} (he : es[I]? = some e) (hf : es[K]? = some f) : cycE n es I (K + 1) = cycE n es I K ++ if cyc n es e f = true then [((I : Int), (K : Int))] else [] := by
  unfold cycE
  rw [List.append_assoc]
  congr 1
  unfold cycK
  rw [List.range_succ, List.filterMap_append]
  congr 1
  have : [K].filterMap (fun (k : Nat) => if cyc n es (es[I]?.getD (0, 0)) (es[k]?.getD (0, 0)) = true then some ((I : Int), (k : Int)) else none) = if cyc n es e f = true then [((I : Int), (K : Int))] else [] := by
    rw [he]
    by_cases h : cyc n es e f = true
    · simp [List.filterMap_cons, hf, h]
    · simp [List.filterMap_cons, hf, h]
  exact this
theorem cycK_mem {n : Nat} {es : Es} {i K : Nat} {p : Int × Int} (h : p ∈ cycK n es i K) : ∃ k, k < K ∧ p = ((i : Int), (k : Int)) ∧ cyc n es (es[i]?.getD (0, 0)) (es[k]?.getD (0, 0)) = true := by
  unfold cycK at h
  obtain ⟨k, hk, h⟩ := List.mem_filterMap.1 h
  split at h
  · exact ⟨k, List.mem_range.1 hk, by injection h with h; exact h.symm, by assumption⟩
  · cases h
theorem cycK_of {n : Nat} {es : Es} {i K k : Nat} (hk : k < K) (h : cyc n es (es[i]?.getD (0, 0)) (es[k]?.getD (0, 0)) = true) : ((i : Int), (k : Int)) ∈ cycK n es i K :=
  List.mem_filterMap.2 ⟨k, List.mem_range.2 hk, by rw [if_pos h]⟩
theorem cycE_mem {n : Nat} {es : Es} {I K : Nat} {p : Int × Int} (h : p ∈ cycE n es I K) : ∃ i k, (k < i ∧ i < I ∨ i = I ∧ k < K) ∧ p = ((i : Int), (k : Int)) ∧ cyc n es (es[i]?.getD (0, 0)) (es[k]?.getD (0, 0)) = true := by
  rcases List.mem_append.1 h with h | h
  · obtain ⟨i, hi, h⟩ := List.mem_flatMap.1 h
    obtain ⟨k, h1, h2, h3⟩ := cycK_mem h
    exact ⟨i, k, .inl ⟨h1, List.mem_range.1 hi⟩, h2, h3⟩
  · obtain ⟨k, h1, h2, h3⟩ := cycK_mem h
    exact ⟨I, k, .inr ⟨rfl, h1⟩, h2, h3⟩
theorem cycA_of {n : Nat} {es : Es} {i k : Nat} {e f : Int × Int} (hk : k < i) (he : es[i]? = some e) (hf : es[k]? = some f) (h : cyc n es e f = true) : ((i : Int), (k : Int)) ∈ cycA n es := by
  have hi : i < es.length := (List.getElem?_eq_some_iff.1 he).1
  refine List.mem_append.2 (.inl (List.mem_flatMap.2 ⟨i, List.mem_range.2 hi, cycK_of hk ?_⟩))
  rw [he, hf]; exact h
theorem cycE_inR {n : Nat} {es : Es} {I K : Nat} (hI : I ≤ es.length) (hK : K ≤ I) (hIK : I = es.length → K = 0) : InR es.length (cycE n es I K) := fun p hp => by
  obtain ⟨i, k, h1, rfl, _⟩ := cycE_mem hp
  simp only
  omega
theorem cycA_inR (n : Nat) (es : Es) : InR es.length (cycA n es) := cycE_inR (Nat.le_refl _) (Nat.zero_le _) (fun _ => rfl)

/-- the labels of blocks -/
noncomputable def blkL (n : Nat) (es : Es) : List Int := labels es.length (cycA n es)
theorem blkL_length (n : Nat) (es : Es) : (blkL n es).length = es.length := labels_length (cycA_inR n es)
theorem blkL_isLab (n : Nat) (es : Es) : IsLab es.length (cycA n es) (blkL n es) := labels_isLab (cycA_inR n es)

/-! ### the program: the greater label of two becomes the lesser one -/
def low1 (hi lo x : Int) : Int := if x = hi then lo else x
theorem IsLab.more {n : Nat} {P : Es} {L : List Int} (h : IsLab n P L) {e : Int × Int} (he : lk L e.1 = lk L e.2) : IsLab n (P ++ [e]) L :=
  ⟨⟨h.1.1, fun x h0 h1 => ⟨(h.1.2 x h0 h1).1, (h.1.2 x h0 h1).2.1, (h.1.2 x h0 h1).2.2.mono (fun a ha => List.mem_append.2 (.inl ha))⟩⟩, fun f hf => by
    rcases List.mem_append.1 hf with hf | hf
    · exact h.2 f hf
    · simp at hf; rw [hf]; exact he⟩
theorem lk_map {L : List Int} {f : Int → Int} {x : Int} (h0 : 0 ≤ x) (h : x < L.length) : lk (L.map f) x = f (lk L x) := by
  unfold lk
  have : x.toNat < L.length := by omega
  simp [this]
theorem IsLab.merge {n : Nat} {P : Es} {L : List Int} (h : IsLab n P L) (hr : InR n P) {x y : Int} (hx : 0 ≤ x ∧ x < n) (hy : 0 ≤ y ∧ y < n) :
    IsLab n (P ++ [(x, y)]) (L.map (low1 (max (lk L x) (lk L y)) (min (lk L x) (lk L y)))) := by
  have hl := h.1.1
  have hm : ∀ {a b : Int}, Conn P a b → Conn (P ++ [(x, y)]) a b := fun c => c.mono (fun a ha => List.mem_append.2 (.inl ha))
  have hxy : Conn (P ++ [(x, y)]) x y := .one (.inl (by simp))
  have ax := h.1.2 x hx.1 hx.2
  have ay := h.1.2 y hy.1 hy.2
  have hL : Conn (P ++ [(x, y)]) (lk L x) (lk L y) := ((hm ax.2.2).symm.trans hxy).trans (hm ay.2.2)
  have hmm : Conn (P ++ [(x, y)]) (max (lk L x) (lk L y)) (min (lk L x) (lk L y)) := by
    rcases Int.le_total (lk L x) (lk L y) with a | a
    · rw [Int.max_eq_right a, Int.min_eq_left a]; exact hL.symm
    · rw [Int.max_eq_left a, Int.min_eq_right a]; exact hL
  refine ⟨⟨by simp [hl], fun z h0 h1 => ?_⟩, fun f hf => ?_⟩
  · rw [lk_map h0 (by omega)]
    have az := h.1.2 z h0 h1
    unfold low1
    split
    · rename_i e
      refine ⟨by omega, by omega, ?_⟩
      have := hm az.2.2
      rw [e] at this
      exact this.trans hmm
    · exact ⟨az.1, az.2.1, hm az.2.2⟩
  · rcases List.mem_append.1 hf with hf | hf
    · have hb := hr f hf
      rw [lk_map hb.1 (by omega), lk_map hb.2.2.1 (by omega), h.2 f hf]
    · simp at hf
      subst hf
      simp only
      rw [lk_map hx.1 (by omega), lk_map hy.1 (by omega)]
      unfold low1
      rcases Int.le_total (lk L x) (lk L y) with a | a
      · rw [Int.max_eq_right a, Int.min_eq_left a]
        by_cases e : lk L x = lk L y
        · simp [e]
        · simp [e]
      · rw [Int.max_eq_left a, Int.min_eq_right a]
        by_cases e : lk L y = lk L x
        · simp [e]
        · simp [e]
/-- the first j are changed -/
def mixL (f : Int → Int) (L : List Int) (j : Nat) : List Int := (L.take j).map f ++ L.drop j
theorem mixL_zero (f : Int → Int) (L : List Int) : mixL f L 0 = L := by simp [mixL]
theorem mixL_all (f : Int → Int) (L : List Int) : mixL f L L.length = L.map f := by simp [mixL]
theorem mixL_length (f : Int → Int) (L : List Int) (j : Nat) : (mixL f L j).length = L.length := by simp [mixL]; omega
theorem mixL_get {f : Int → Int} {L : List Int} {j : Nat} {x : Int} (h : L[j]? = some x) : (mixL f L j)[j]? = some x := by
  unfold mixL
  have hj : j < L.length := (List.getElem?_eq_some_iff.1 h).1
  rw [List.getElem?_append_right (by simp; omega)]
  simp
  rw [show j - min j L.length = 0 by omega]
  simpa using h
theorem mixL_set {f : Int → Int} {L : List Int} {j : Nat} {x : Int} (h : L[j]? = some x) : (mixL f L j).set j (f x) = mixL f L (j + 1) := by
  unfold mixL
  have hj : j < L.length := (List.getElem?_eq_some_iff.1 h).1
  rw [List.set_append_right _ _ (by simp; omega)]
  rw [List.take_succ_eq_append_getElem hj]
  have hx : L[j] = x := (List.getElem?_eq_some_iff.1 h).2
  rw [List.length_map, List.length_take, show j - min j L.length = 0 by omega, List.drop_eq_getElem_cons hj]
  simp [hx]
theorem mixL_keep {f : Int → Int} {L : List Int} {j : Nat} {x : Int} (h : L[j]? = some x) (hf : f x = x) : mixL f L (j + 1) = mixL f L j := by
  have h1 := mixL_set (f := f) h
  rw [hf] at h1
  rw [← h1]
  have h2 := mixL_get (f := f) h
  apply List.ext_getElem?
  intro i
  by_cases e : j = i
  · subst e
    obtain ⟨hl, h3⟩ := List.getElem?_eq_some_iff.1 h2
    rw [List.getElem?_set_self hl, h2]
  · rw [List.getElem?_set_ne e]

/-! ### the list of blocks -/
/-- the edges of the block with a first edge -/
def blkAt (L : List Int) (es : Es) (i : Int) : Es := ((es.zip L).filter fun q => decide (q.2 = i)).map (·.1)
theorem blkAt_nil (i : Int) : blkAt [] [] i = [] := rfl
theorem zip_take_succ {L : List Int} {es : Es} {k : Nat} {x : Int} {e : Int × Int} (hL : L[k]? = some x) (he : es[k]? = some e) : (es.take (k + 1)).zip (L.take (k + 1)) = (es.take k).zip (L.take k) ++ [(e, x)] := by
  obtain ⟨h1, h2⟩ := List.getElem?_eq_some_iff.1 hL
  obtain ⟨h3, h4⟩ := List.getElem?_eq_some_iff.1 he
  rw [List.take_succ_eq_append_getElem h1, List.take_succ_eq_append_getElem h3, List.zip_append (by simp; omega), h2, h4]
  rfl
theorem blkAt_step {L : List Int} {es : Es} {k : Nat} {x i : Int} {e : Int × Int} (hL : L[k]? = some x) (he : es[k]? = some e) :
    blkAt (L.take (k + 1)) (es.take (k + 1)) i = blkAt (L.take k) (es.take k) i ++ if x = i then [e] else [] := by
  unfold blkAt
  rw [zip_take_succ hL he, List.filter_append, List.map_append]
  by_cases h : x = i <;> simp [h]
theorem blkAt_len (L : List Int) (es : Es) (i : Int) : (blkAt L es i).length ≤ es.length := by
  unfold blkAt
  rw [List.length_map]
  exact Nat.le_trans (List.length_filter_le _ _) (by simp; omega)
/-- the blocks with a first edge below k -/
def blkTo (L : List Int) (es : Es) (k : Nat) : List Es := (List.range k).filterMap fun (i : Nat) => if L[i]? = some (i : Int) then some (blkAt L es i) else none
theorem blkTo_step {L : List Int} {es : Es} {k : Nat} {x : Int} (h : L[k]? = some x) : blkTo L es (k + 1) = blkTo L es k ++ if x = k then [blkAt L es k] else [] := by
  unfold blkTo
  rw [List.range_succ, List.filterMap_append]
  congr 1
  by_cases hx : x = k
  · simp [List.filterMap_cons, h, hx]
  · simp [List.filterMap_cons, h, hx]
theorem blkTo_len (L : List Int) (es : Es) (k : Nat) : (blkTo L es k).length ≤ k := by
  unfold blkTo
  exact Nat.le_trans (List.length_filterMap_le _ _) (by simp)
noncomputable def blocksL (n : Nat) (es : Es) : List Es := blkTo (blkL n es) es es.length
end Go.Proofs.Ytjchabeiaajgiaa
