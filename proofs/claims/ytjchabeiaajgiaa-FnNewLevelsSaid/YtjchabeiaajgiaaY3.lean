/- Plain law: blocks are classes, in order; a bridge is a block alone. No program in sight. -/
import Derived.Test.YtjchabeiaajgiaaY1
import Derived.Test.YtjchabeiaajgiaaG4
namespace Go.Proofs.Ytjchabeiaajgiaa
open Go.RowKit set_option linter.unusedVariables false set_option linter.unusedSimpArgs false

theorem lk_of_get {L : List Int} {k : Nat} {x : Int} (h : L[k]? = some x) : lk L (k : Int) = x := by simp [lk, h]
theorem get_of_lk {L : List Int} {k : Nat} (h : k < L.length) : L[k]? = some (lk L (k : Int)) := by simp [lk, h]
/-- a label is not above its place, and its own -/
theorem blkL_get {n : Nat} {es : Es} {k : Nat} {x : Int} (h : (blkL n es)[k]? = some x) : ∃ j : Nat, x = j ∧ j ≤ k ∧ (blkL n es)[j]? = some x := by
  have hk : k < (blkL n es).length := (List.getElem?_eq_some_iff.1 h).1
  rw [blkL_length] at hk
  have h1 := (blkL_isLab n es).1.2 k (by omega) (by omega)
  rw [lk_of_get h] at h1
  obtain ⟨j, rfl⟩ := Int.eq_ofNat_of_zero_le h1.1
  refine ⟨j, rfl, by omega, ?_⟩
  have hj : j < (blkL n es).length := by rw [blkL_length]; omega
  rw [get_of_lk hj, ← (blkL_isLab n es).const h1.2.2, lk_of_get h]
theorem mem_blkAt {L : List Int} {es : Es} {i : Int} {e : Int × Int} : e ∈ blkAt L es i ↔ ∃ k : Nat, es[k]? = some e ∧ L[k]? = some i := by
  unfold blkAt
  constructor
  · intro h
    obtain ⟨⟨e', x⟩, h1, rfl⟩ := List.mem_map.1 h
    obtain ⟨h1, h2⟩ := List.mem_filter.1 h1
    obtain ⟨k, hk⟩ := List.mem_iff_getElem?.1 h1
    rw [List.getElem?_zip_eq_some] at hk
    simp at h2
    subst h2
    exact ⟨k, hk.1, hk.2⟩
  · rintro ⟨k, h1, h2⟩
    refine List.mem_map.2 ⟨(e, i), List.mem_filter.2 ⟨List.mem_iff_getElem?.2 ⟨k, ?_⟩, by simp⟩, rfl⟩
    rw [List.getElem?_zip_eq_some]
    exact ⟨h1, h2⟩
theorem mem_blkTo {L : List Int} {es : Es} {K : Nat} {b : Es} : b ∈ blkTo L es K ↔ ∃ i : Nat, i < K ∧ L[i]? = some (i : Int) ∧ b = blkAt L es i := by
  unfold blkTo
  rw [List.mem_filterMap]
  constructor
  · rintro ⟨i, hi, h⟩
    split at h
    · simp at h; exact ⟨i, List.mem_range.1 hi, by assumption, h.symm⟩
    · cases h
  · rintro ⟨i, hi, h1, rfl⟩
    exact ⟨i, List.mem_range.2 hi, by rw [if_pos h1]⟩

/-! ### classes -/
theorem get_idxOf {es : Es} {e : Int × Int} (h : e ∈ es) : es[es.idxOf e]? = some e := by
  rw [List.getElem?_eq_getElem (List.idxOf_lt_length_iff.2 h)]; simp
theorem nodup_idx {es : Es} (hd : es.Nodup) {i k : Nat} {e : Int × Int} (h1 : es[i]? = some e) (h2 : es[k]? = some e) : i = k := by
  obtain ⟨a, b⟩ := List.getElem?_eq_some_iff.1 h1
  obtain ⟨c, d⟩ := List.getElem?_eq_some_iff.1 h2
  exact (List.getElem_inj hd).1 (b.trans d.symm)
/-- what SameBlock says of edges that are there -/
noncomputable def sameL (n : Nat) (es : Es) (e f : Int × Int) : Bool := lk (blkL n es) (es.idxOf e) == lk (blkL n es) (es.idxOf f)
theorem sameL_symm (n : Nat) (es : Es) (e f : Int × Int) : sameL n es e f = sameL n es f e := by
  unfold sameL; rw [Bool.eq_iff_iff]; simp; exact ⟨Eq.symm, Eq.symm⟩
theorem sameL_iff {n : Nat} {es : Es} (hd : es.Nodup) {e f : Int × Int} (he : e ∈ es) (hf : f ∈ es) : sameL n es e f = true ↔ ∃ b ∈ blocksL n es, e ∈ b ∧ f ∈ b := by
  have h1 := get_idxOf he
  have h2 := get_idxOf hf
  generalize hi : es.idxOf e = i at h1
  generalize hk : es.idxOf f = k at h2
  have li : i < (blkL n es).length := by rw [blkL_length]; exact (List.getElem?_eq_some_iff.1 h1).1
  have lk' : k < (blkL n es).length := by rw [blkL_length]; exact (List.getElem?_eq_some_iff.1 h2).1
  unfold sameL
  rw [hi, hk]
  constructor
  · intro h
    simp at h
    have g1 := get_of_lk li
    have g2 := get_of_lk lk'
    rw [← h] at g2
    obtain ⟨j, hj, hjk, hjj⟩ := blkL_get g1
    rw [hj] at g1 g2 hjj
    refine ⟨_, mem_blkTo.2 ⟨j, by rw [blkL_length] at li; omega, hjj, rfl⟩, mem_blkAt.2 ⟨i, h1, g1⟩, mem_blkAt.2 ⟨k, h2, g2⟩⟩
  · rintro ⟨b, hb, hb1, hb2⟩
    obtain ⟨j, _, _, rfl⟩ := mem_blkTo.1 hb
    obtain ⟨i', a1, a2⟩ := mem_blkAt.1 hb1
    obtain ⟨k', b1, b2⟩ := mem_blkAt.1 hb2
    obtain rfl := nodup_idx hd h1 a1
    obtain rfl := nodup_idx hd h2 b1
    rw [lk_of_get a2, lk_of_get b2]
    simp
theorem blocksL_mem {n : Nat} {es : Es} {b : Es} (hb : b ∈ blocksL n es) : ∀ e ∈ b, e ∈ es := fun e he => by
  obtain ⟨j, _, _, rfl⟩ := mem_blkTo.1 hb
  obtain ⟨k, h, _⟩ := mem_blkAt.1 he
  exact List.mem_of_getElem? h
theorem blocksL_len {n : Nat} {es : Es} {b : Es} (hb : b ∈ blocksL n es) : b.length ≤ es.length := by
  obtain ⟨j, _, _, rfl⟩ := mem_blkTo.1 hb
  exact blkAt_len _ _ _
theorem blocksL_length (n : Nat) (es : Es) : (blocksL n es).length ≤ es.length := blkTo_len _ _ _

/-! ### order -/
/-- the first edge of one row is in front of that of another one -/
def FstLt (a b : Es) : Prop := ∃ x y, a[0]? = some x ∧ b[0]? = some y ∧ ltE x y
theorem blkAt_head {n : Nat} {es : Es} {i : Nat} {e : Int × Int} (hi : (blkL n es)[i]? = some (i : Int)) (he : es[i]? = some e) : (blkAt (blkL n es) es i)[0]? = some e := by
  have key : ∀ k, k ≤ i → blkAt ((blkL n es).take k) (es.take k) i = [] := by
    intro k
    induction k with
    | zero => intro _; simp [blkAt_nil]
    | succ k ih =>
      intro hk
      have hl : i < (blkL n es).length := (List.getElem?_eq_some_iff.1 hi).1
      have g1 : (blkL n es)[k]? = some (blkL n es)[k] := List.getElem?_eq_getElem (by omega)
      have hle : i < es.length := (List.getElem?_eq_some_iff.1 he).1
      have g2 : es[k]? = some es[k] := List.getElem?_eq_getElem (by omega)
      rw [blkAt_step g1 g2, ih (by omega)]
      obtain ⟨j, h1, h2, _⟩ := blkL_get g1
      rw [if_neg (by omega)]
      rfl
  have h1 := blkAt_step (i := (i : Int)) hi he
  rw [key i (Nat.le_refl _), if_pos rfl, List.nil_append] at h1
  have hp : ∃ s, blkAt (blkL n es) es i = [e] ++ s := by
    rw [← h1]
    have e1 : (es.zip (blkL n es)) = (es.take (i + 1)).zip ((blkL n es).take (i + 1)) ++ (es.drop (i + 1)).zip ((blkL n es).drop (i + 1)) := by
      rw [← List.zip_append (by have := blkL_length n es; simp; omega), List.take_append_drop, List.take_append_drop]
    refine ⟨blkAt ((blkL n es).drop (i + 1)) (es.drop (i + 1)) i, ?_⟩
    unfold blkAt
    rw [← List.map_append, ← List.filter_append, ← e1]
  obtain ⟨s, hs⟩ := hp
  rw [hs]
  rfl
theorem blkAt_sublist (L : List Int) (es : Es) (i : Int) : (blkAt L es i).Sublist es := by
  unfold blkAt
  have h1 : ((es.zip L).filter fun q => decide (q.2 = i)).Sublist (es.zip L) := List.filter_sublist
  have h2 := h1.map (fun q : (Int × Int) × Int => q.1)
  refine h2.trans ?_
  have key : ∀ (es : Es) (L : List Int), ((es.zip L).map fun q => q.1).Sublist es := by
    intro es
    induction es with
    | nil => intro L; simp
    | cons e es ih =>
      intro L
      cases L with
      | nil => simp
      | cons x L => simpa using ih L
  exact key es L
theorem blocksL_order {n : Nat} {es : Es} (hs : es.Pairwise ltE) : (blocksL n es).Pairwise FstLt ∧ ∀ b ∈ blocksL n es, b.Pairwise ltE ∧ 0 < b.length := by
  refine ⟨?_, fun b hb => ?_⟩
  · unfold blocksL blkTo
    rw [List.pairwise_filterMap]
    refine List.Pairwise.imp_of_mem ?_ (List.pairwise_lt_range (n := es.length))
    intro i k hi hk hlt b hb c hc
    rw [List.mem_range] at hi hk
    split at hb
    · split at hc
      · rename_i g1 g2
        simp at hb hc
        subst hb hc
        have e1 : es[i]? = some es[i] := List.getElem?_eq_getElem hi
        have e2 : es[k]? = some es[k] := List.getElem?_eq_getElem hk
        exact ⟨_, _, blkAt_head g1 e1, blkAt_head g2 e2, List.pairwise_iff_getElem.1 hs i k hi hk hlt⟩
      · cases hc
    · cases hb
  · obtain ⟨j, hj, hjj, rfl⟩ := mem_blkTo.1 hb
    refine ⟨hs.sublist (blkAt_sublist _ _ _), ?_⟩
    have := blkAt_head hjj (List.getElem?_eq_getElem hj)
    exact (List.getElem?_eq_some_iff.1 this).1

/-! ### bridges -/
theorem connB_of {n : Nat} {es : Es} (hr : InR n es) {x y : Int} (hx : 0 ≤ x ∧ x < n) (hy : 0 ≤ y ∧ y < n) : connB n es x y = true ↔ Conn es x y := by
  unfold connB; rw [decide_eq_true_iff]; exact labels_iff hr hx hy
/-- ways from b either avoid a, or come to it -/
theorem way_to {es : Es} {e : Int × Int} {a b z : Int} (hab : b ≠ a) (c : Conn (outE es e) b z) : (Conn (aloneL es a) b z ∧ z ≠ a) ∨ ∃ y, Adj (outE es e) y a ∧ Conn (aloneL es a) b y ∧ y ≠ a := by
  induction c with
  | refl => exact .inl ⟨.refl, hab⟩
  | @step y z _ ad ih =>
    rcases ih with ⟨h1, h2⟩ | h
    · by_cases hz : z = a
      · subst hz; exact .inr ⟨y, ad, h1, h2⟩
      · refine .inl ⟨.step h1 ?_, hz⟩
        exact ad.imp (fun h => List.mem_filter.2 ⟨outE_sub _ h, by simp [h2, hz]⟩) (fun h => List.mem_filter.2 ⟨outE_sub _ h, by simp [h2, hz]⟩)
    · exact .inr h
/-- edges as they are in a valid graph -/
def EdOk (n : Nat) (es : Es) : Prop := ∀ e ∈ es, 0 ≤ e.1 ∧ e.1 < e.2 ∧ e.2 < n
theorem EdOk.inR {n : Nat} {es : Es} (h : EdOk n es) : InR n es := fun e he => by have := h e he; omega
theorem oth_cases {e : Int × Int} {v : Int} (h : v = e.1 ∨ v = e.2) (he : e.1 < e.2) : (v = e.1 ∧ oth e v = e.2) ∨ (v = e.2 ∧ oth e v = e.1) := by
  unfold oth
  rcases h with h | h
  · left; exact ⟨h, by rw [if_pos h]⟩
  · right; exact ⟨h, by rw [if_neg (by omega), if_pos h]⟩
theorem oth_adj {es : Es} {e : Int × Int} {v : Int} (hm : e ∈ es) (h : v = e.1 ∨ v = e.2) (he : e.1 < e.2) : Adj es v (oth e v) := by
  rcases oth_cases h he with ⟨h1, h2⟩ | ⟨h1, h2⟩
  · rw [h2, h1]; exact .inl hm
  · rw [h2, h1]; exact .inr hm
theorem com_symm {e f : Int × Int} (hne : e ≠ f) (he : 0 ≤ e.1 ∧ e.1 < e.2) (hf : 0 ≤ f.1 ∧ f.1 < f.2) {v x y : Int} (h : com e f = some (v, x, y)) : com f e = some (v, y, x) := by
  obtain ⟨h1, rfl, rfl, h4, h5, h6⟩ := oth_of_com hne he hf h
  exact com_of_oth hf he h5 h4 (Ne.symm h6)
theorem cyc_symm {n : Nat} {es : Es} {e f : Int × Int} (hne : e ≠ f) (he : 0 ≤ e.1 ∧ e.1 < e.2) (hf : 0 ≤ f.1 ∧ f.1 < f.2) (h : cyc n es e f = true) : cyc n es f e = true := by
  cases hc : com e f with
  | none => rw [cyc_none hc] at h; cases h
  | some p =>
    obtain ⟨v, x, y⟩ := p
    rw [cyc_some hc] at h
    rw [cyc_some (com_symm hne he hf hc)]
    unfold connB at *
    simp at *
    exact h.symm
theorem cyc_notBridge {n : Nat} {es : Es} (ho : EdOk n es) {e f : Int × Int} (he : e ∈ es) (hf : f ∈ es) (hne : e ≠ f) (h : cyc n es e f = true) : bridgeB n es e = false := by
  have he' := ho e he
  have hf' := ho f hf
  cases hc : com e f with
  | none => rw [cyc_none hc] at h; cases h
  | some p =>
    obtain ⟨v, x, y⟩ := p
    rw [cyc_some hc] at h
    obtain ⟨h1, h2, h3, h4, h5, h6⟩ := oth_of_com hne ⟨he'.1, he'.2.1⟩ ⟨hf'.1, hf'.2.1⟩ hc
    obtain ⟨g1, g2, g3, _⟩ := oth_of_com (Ne.symm hne) ⟨hf'.1, hf'.2.1⟩ ⟨he'.1, he'.2.1⟩ (com_symm hne ⟨he'.1, he'.2.1⟩ ⟨hf'.1, hf'.2.1⟩ hc)
    have rx : 0 ≤ x ∧ x < n := by rcases oth_cases h1 he'.2.1 with ⟨_, a⟩ | ⟨_, a⟩ <;> rw [h2, a] <;> omega
    have ry : 0 ≤ y ∧ y < n := by rcases oth_cases g1 hf'.2.1 with ⟨_, a⟩ | ⟨_, a⟩ <;> rw [g2, a] <;> omega
    have c := (connB_of (ho.inR.sub aloneL_sub) rx ry).1 h
    have c1 : Conn (outE es e) x y := c.mono fun a ha => List.mem_filter.2 ⟨aloneL_sub _ ha, by
      have h := (List.mem_filter.1 ha).2
      have : a ≠ e := by rintro rfl; simp at h; rcases h1 with h1 | h1 <;> simp [h1] at h
      simp [this]⟩
    have c2 : Adj (outE es e) v y := by rw [g2]; exact oth_adj (List.mem_filter.2 ⟨hf, by simp [Ne.symm hne]⟩) g1 hf'.2.1
    have c3 : Conn (outE es e) v x := (Conn.one c2).trans c1.symm
    have c4 : Conn (outE es e) e.1 e.2 := by
      rcases oth_cases h1 he'.2.1 with ⟨a, b⟩ | ⟨a, b⟩
      · rw [h2, b, a] at c3; exact c3
      · rw [h2, b, a] at c3; exact c3.symm
    unfold bridgeB
    rw [(connB_of (ho.inR.sub outE_sub) (by omega) (by omega)).2 c4]
    rfl
theorem notBridge_cyc {n : Nat} {es : Es} (ho : EdOk n es) {e : Int × Int} (he : e ∈ es) (h : bridgeB n es e = false) : ∃ f ∈ es, f ≠ e ∧ cyc n es e f = true := by
  have he' := ho e he
  unfold bridgeB at h
  simp at h
  have c := (connB_of (ho.inR.sub outE_sub) (by omega) (by omega)).1 h
  rcases way_to (a := e.1) (by omega) c.symm with ⟨_, h2⟩ | ⟨y, ad, c1, hy⟩
  · exact absurd rfl h2
  · have key : ∀ f, f ∈ outE es e → (f = (y, e.1) ∨ f = (e.1, y)) → ∃ f ∈ es, f ≠ e ∧ cyc n es e f = true := by
      intro f hf hh
      have hfe : f ∈ es := outE_sub _ hf
      have hne : f ≠ e := by have := (List.mem_filter.1 hf).2; simpa using this
      have hf' := ho f hfe
      have e1 : oth e e.1 = e.2 := by simp [oth]
      have e2 : oth f e.1 = y := by
        rcases hh with rfl | rfl
        · simp only at hf'; unfold oth; simp only; rw [if_neg (by omega)]; simp
        · simp [oth]
      have hye : e.2 ≠ y := by
        rintro rfl
        rcases hh with rfl | rfl
        · simp at hf'; omega
        · exact hne rfl
      have hy0 : 0 ≤ y ∧ y < n := by rcases hh with rfl | rfl <;> simp at hf' <;> omega
      have hcom := com_of_oth (e := e) (f := f) (v := e.1) ⟨he'.1, he'.2.1⟩ ⟨hf'.1, hf'.2.1⟩ (by rw [e1]; omega) (by rw [e2]; omega) (by rw [e1, e2]; exact hye)
      rw [e1, e2] at hcom
      exact ⟨f, hfe, hne, by rw [cyc_some hcom]; exact (connB_of (ho.inR.sub aloneL_sub) (by omega) hy0).2 c1⟩
    rcases ad with ad | ad
    · exact key _ ad (.inl rfl)
    · exact key _ ad (.inr rfl)
theorem len_two {α : Type} {l : List α} {a b : α} (ha : a ∈ l) (hb : b ∈ l) (h : a ≠ b) : l.length ≠ 1 := by
  match l with
  | [] => simp
  | [x] => simp at ha hb; rw [ha, hb] at h; exact absurd rfl h
  | x :: y :: s => simp
theorem conn_first {P : Es} {x y : Int} (c : Conn P x y) (h : x ≠ y) : ∃ z, Adj P x z := by
  induction c with
  | refl => exact absurd rfl h
  | @step y z _ a ih =>
    by_cases e : x = y
    · subst e; exact ⟨z, a⟩
    · exact ih e
/-- a bridge is a block alone -/
theorem bridge_block {n : Nat} {es : Es} (ho : EdOk n es) (hd : es.Nodup) {b : Es} (hb : b ∈ blocksL n es) {e : Int × Int} (he : e ∈ b) : bridgeB n es e = (b.length == 1) := by
  obtain ⟨j, hj, hjj, rfl⟩ := mem_blkTo.1 hb
  obtain ⟨i, h1, h2⟩ := mem_blkAt.1 he
  have hem := List.mem_of_getElem? h1
  have hil : i < es.length := (List.getElem?_eq_some_iff.1 h1).1
  cases hbr : bridgeB n es e with
  | false =>
    obtain ⟨f, hf, hne, hc⟩ := notBridge_cyc ho hem hbr
    obtain ⟨k, hk⟩ := List.mem_iff_getElem?.1 hf
    have hkl : k < es.length := (List.getElem?_eq_some_iff.1 hk).1
    have he' := ho e hem
    have hf' := ho f hf
    have hlab : lk (blkL n es) i = lk (blkL n es) k := by
      rcases Nat.lt_trichotomy k i with h | h | h
      · exact (blkL_isLab n es).2 _ (cycA_of h h1 hk hc)
      · subst h; rfl
      · exact ((blkL_isLab n es).2 _ (cycA_of h hk h1 (cyc_symm (Ne.symm hne) ⟨he'.1, he'.2.1⟩ ⟨hf'.1, hf'.2.1⟩ hc))).symm
    have hfb : f ∈ blkAt (blkL n es) es j := mem_blkAt.2 ⟨k, hk, by rw [get_of_lk (by rw [blkL_length]; exact hkl), ← hlab, lk_of_get h2]⟩
    have := len_two he hfb (Ne.symm hne)
    simp [this]
  | true =>
    by_cases h : (blkAt (blkL n es) es j).length = 1
    · simp [h]
    · exfalso
      have hex : ∃ f ∈ blkAt (blkL n es) es j, f ≠ e := by
        have hnd := hd.sublist (blkAt_sublist (blkL n es) es j)
        generalize blkAt (blkL n es) es j = l at *
        match l with
        | [] => simp at he
        | [x] => simp at h
        | x :: y :: s =>
          by_cases hx : x = e
          · exact ⟨y, by simp, by rintro rfl; simp at hnd; exact hnd.1.1 hx⟩
          · exact ⟨x, by simp, hx⟩
      obtain ⟨f, hf, hne⟩ := hex
      obtain ⟨k, k1, k2⟩ := mem_blkAt.1 hf
      have hkl : k < es.length := (List.getElem?_eq_some_iff.1 k1).1
      have hik : (i : Int) ≠ k := by intro h; have : i = k := by omega
                                     subst this; rw [h1] at k1; simp at k1; exact hne k1.symm
      have hc : Conn (cycA n es) i k := ((blkL_isLab n es).iff (by omega) (by omega)).1 (by rw [lk_of_get h2, lk_of_get k2])
      obtain ⟨z, hz⟩ := conn_first hc hik
      have fin : ∀ (m : Nat) (g : Int × Int), es[m]? = some g → m ≠ i → cyc n es e g = true → False := fun m g hg hm hcg => by
        have hge : g ≠ e := by rintro rfl; exact hm (nodup_idx hd hg h1)
        rw [cyc_notBridge ho hem (List.mem_of_getElem? hg) (Ne.symm hge) hcg] at hbr
        cases hbr
      rcases hz with hz | hz
      · obtain ⟨a, b, hab, heq, hcy⟩ := cycE_mem hz
        simp at heq
        obtain ⟨ha, rfl⟩ := heq
        have : i = a := by omega
        subst this
        have hbl : b < es.length := by omega
        have hb' : es[b]? = some es[b] := List.getElem?_eq_getElem hbl
        rw [h1, hb'] at hcy
        exact fin b _ hb' (by omega) hcy
      · obtain ⟨a, b, hab, heq, hcy⟩ := cycE_mem hz
        simp at heq
        obtain ⟨rfl, hb2⟩ := heq
        have : i = b := by omega
        subst this
        have hal : a < es.length := by omega
        have ha' : es[a]? = some es[a] := List.getElem?_eq_getElem hal
        rw [h1, ha'] at hcy
        have hg1 := ho _ (List.getElem_mem hal)
        have he' := ho e hem
        have hge : es[a] ≠ e := by intro h; have := nodup_idx hd (h ▸ ha') h1; omega
        exact fin a _ ha' (by omega) (cyc_symm hge ⟨hg1.1, hg1.2.1⟩ ⟨he'.1, he'.2.1⟩ hcy)
end Go.Proofs.Ytjchabeiaajgiaa
