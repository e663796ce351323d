/- The plain law on parts when one edge is taken away. -/
import Derived.Test.YtjchabeiaajgiaaF1
import Derived.Test.YtjchabeiaajgiaaP4
namespace Go.Proofs.Ytjchabeiaajgiaa
open Go.RowKit

theorem outE_mem {es : Es} {e f : Int × Int} : f ∈ outE es e ↔ f ∈ es ∧ f ≠ e := by simp [outE]
theorem conn_cut {es : Es} {u v : Int} {x y : Int} (h : Conn es x y) :
    Conn (outE es (u, v)) x y ∨ (Conn (outE es (u, v)) x u ∧ Conn (outE es (u, v)) v y) ∨ (Conn (outE es (u, v)) x v ∧ Conn (outE es (u, v)) u y) := by
  induction h with
  | refl => exact .inl .refl
  | @step y z _ a ih =>
    by_cases h1 : (y = u ∧ z = v)
    · obtain ⟨rfl, rfl⟩ := h1
      rcases ih with h | ⟨h, k⟩ | ⟨h, k⟩
      · exact .inr (.inl ⟨h, .refl⟩)
      · exact .inr (.inl ⟨h, .refl⟩)
      · exact .inl h
    · by_cases h2 : (y = v ∧ z = u)
      · obtain ⟨rfl, rfl⟩ := h2
        rcases ih with h | ⟨h, k⟩ | ⟨h, k⟩
        · exact .inr (.inr ⟨h, .refl⟩)
        · exact .inl h
        · exact .inr (.inr ⟨h, .refl⟩)
      · have a2 : Adj (outE es (u, v)) y z := by
          rcases a with a | a
          · exact .inl (outE_mem.2 ⟨a, fun e => h1 (by injection e with e1 e2; exact ⟨e1, e2⟩)⟩)
          · exact .inr (outE_mem.2 ⟨a, fun e => h2 (by injection e with e1 e2; exact ⟨e2, e1⟩)⟩)
        rcases ih with h | ⟨h, k⟩ | ⟨h, k⟩
        · exact .inl (.step h a2)
        · exact .inr (.inl ⟨h, .step k a2⟩)
        · exact .inr (.inr ⟨h, .step k a2⟩)

theorem labels_fix {n : Nat} {es : Es} (hr : InR n es) {x : Int} (h0 : 0 ≤ x) (h1 : x < n) : lk (labels n es) (lk (labels n es) x) = lk (labels n es) x := by
  have hb := labels_bd hr h0 h1
  exact ((labels_iff hr ⟨h0, h1⟩ ⟨hb.1, by omega⟩).2 ((labels_isLab hr).1.2 x h0 h1).2.2).symm
theorem labels_conn {n : Nat} {es : Es} (hr : InR n es) {x : Int} (h0 : 0 ≤ x) (h1 : x < n) : Conn es x (lk (labels n es) x) := ((labels_isLab hr).1.2 x h0 h1).2.2
theorem labels_min {n : Nat} {es : Es} (hr : InR n es) {x y : Int} (h0 : 0 ≤ x) (h1 : x < n) (c : Conn es x y) : lk (labels n es) x ≤ y := by
  have hy := hr.conn c h0 h1
  rw [(labels_iff hr ⟨h0, h1⟩ hy).2 c]
  exact (labels_bd hr hy.1 hy.2).2
theorem labels_sub {n : Nat} {es xs : Es} (hr : InR n es) (hs : ∀ e ∈ xs, e ∈ es) {x : Int} (h0 : 0 ≤ x) (h1 : x < n) : lk (labels n es) x ≤ lk (labels n xs) x :=
  labels_min hr h0 h1 ((labels_conn (hr.sub hs) h0 h1).mono hs)
/-- at most one new part -/
theorem one_new {n : Nat} {es : Es} {u v : Int} (hr : InR n es) {x y : Int} (hx : 0 ≤ x ∧ x < n) (hy : 0 ≤ y ∧ y < n)
    (fx : lk (labels n (outE es (u, v))) x = x) (fy : lk (labels n (outE es (u, v))) y = y) (nx : lk (labels n es) x ≠ x) (ny : lk (labels n es) y ≠ y) : x = y := by
  have hs : ∀ e ∈ outE es (u, v), e ∈ es := outE_sub
  have hr2 := hr.sub hs
  have lx : lk (labels n es) x < x := by have := labels_bd hr hx.1 hx.2; omega
  have ly : lk (labels n es) y < y := by have := labels_bd hr hy.1 hy.2; omega
  have low : ∀ a : Int, 0 ≤ a → a < n → lk (labels n (outE es (u, v))) a = a → ∀ b, Conn (outE es (u, v)) a b → a ≤ b := fun a ha ha2 hf b hc => by
    have := labels_min hr2 ha ha2 hc; omega
  have key : ∀ a : Int, 0 ≤ a → a < n → lk (labels n (outE es (u, v))) a = a → lk (labels n es) a < a → (Conn (outE es (u, v)) a u ∧ Conn (outE es (u, v)) v (lk (labels n es) a)) ∨ (Conn (outE es (u, v)) a v ∧ Conn (outE es (u, v)) u (lk (labels n es) a)) := fun a ha ha2 hf hl => by
    rcases conn_cut (u := u) (v := v) (labels_conn hr ha ha2) with h | h | h
    · have := low a ha ha2 hf _ h; omega
    · exact .inl h
    · exact .inr h
  have same : Conn (outE es (u, v)) x y → x = y := fun h => by
    have := (labels_iff hr2 hx hy).2 h; omega
  rcases key x hx.1 hx.2 fx lx with ⟨h1, h2⟩ | ⟨h1, h2⟩ <;> rcases key y hy.1 hy.2 fy ly with ⟨k1, k2⟩ | ⟨k1, k2⟩
  · exact same (h1.trans k1.symm)
  · have a := low y hy.1 hy.2 fy _ (k1.trans h2)
    have b := low x hx.1 hx.2 fx _ (h1.trans k2)
    omega
  · have a := low y hy.1 hy.2 fy _ (k1.trans h2)
    have b := low x hx.1 hx.2 fx _ (h1.trans k2)
    omega
  · exact same (h1.trans k1.symm)

theorem countP_le_of {l : List Nat} {p q : Nat → Bool} (h : ∀ x ∈ l, p x = true → q x = true) : l.countP p ≤ l.countP q := by
  induction l with
  | nil => simp
  | cons a l ih =>
    have := ih (fun x hx => h x (List.mem_cons_of_mem _ hx))
    have ha := h a (List.mem_cons_self)
    simp only [List.countP_cons]
    cases hp : p a <;> cases hq : q a <;> simp <;> first | omega | (simp [hp, hq] at ha)
theorem countP_one {l : List Nat} (hn : l.Nodup) {p q : Nat → Bool} (h : ∀ x ∈ l, ∀ y ∈ l, q x = true → p x = false → q y = true → p y = false → x = y) : l.countP q ≤ l.countP p + 1 := by
  induction l with
  | nil => simp
  | cons a l ih =>
    obtain ⟨h1, h2⟩ := List.nodup_cons.1 hn
    simp only [List.countP_cons]
    by_cases hc : q a = true ∧ p a = false
    · have hle : l.countP q ≤ l.countP p := countP_le_of fun x hx hq => by
        cases hp : p x with
        | true => rfl
        | false =>
          have := h a (List.mem_cons_self) x (List.mem_cons_of_mem _ hx) hc.1 hc.2 hq hp
          subst this
          exact absurd hx h1
      rw [hc.1, hc.2]
      simp; omega
    · have := ih h2 (fun x hx y hy => h x (List.mem_cons_of_mem _ hx) y (List.mem_cons_of_mem _ hy))
      cases hp : p a <;> cases hq : q a <;> simp [hp, hq] at hc ⊢ <;> omega
theorem countP_eq_of {l : List Nat} {p q : Nat → Bool} (h : ∀ x ∈ l, p x = true → q x = true) (he : l.countP p = l.countP q) : ∀ x ∈ l, q x = true → p x = true := fun x hx hq => by
  cases hp : p x with
  | true => rfl
  | false => have := countP_lt h hx hq hp; omega
theorem fix_iff {n : Nat} {L : List Int} (hl : L.length = n) {i : Nat} (hi : i < n) : (L[i]? == some (i : Int)) = true ↔ lk L i = i := by
  unfold lk
  have : L[(i : Int).toNat]? = some L[i] := by simp [List.getElem?_eq_getElem (by omega : i < L.length)]
  rw [this, List.getElem?_eq_getElem (by omega : i < L.length)]
  simp
/-- FnPartsMore, the plain law -/
theorem parts_more {n : Nat} {es : Es} {u v : Int} (hr : InR n es) :
    (∀ i : Nat, i < n → lk (labels n es) i ≤ lk (labels n (outE es (u, v))) i) ∧
    (cntTo (labels n (outE es (u, v))) n = cntTo (labels n es) n ∨ cntTo (labels n (outE es (u, v))) n = cntTo (labels n es) n + 1) ∧
    (cntTo (labels n (outE es (u, v))) n = cntTo (labels n es) n ↔ labels n es = labels n (outE es (u, v))) := by
  have hs : ∀ e ∈ outE es (u, v), e ∈ es := outE_sub
  have hr2 := hr.sub hs
  have hl1 := labels_length hr
  have hl2 := labels_length hr2
  have sub : ∀ i ∈ List.range n, ((labels n es)[i]? == some (i : Int)) = true → ((labels n (outE es (u, v)))[i]? == some (i : Int)) = true := fun i hi h => by
    have hi : i < n := List.mem_range.1 hi
    rw [fix_iff hl1 hi] at h
    rw [fix_iff hl2 hi]
    have a := labels_sub hr hs (x := (i : Int)) (by omega) (by omega)
    have b := labels_bd hr2 (x := (i : Int)) (by omega) (by omega)
    omega
  have h1 : cntTo (labels n es) n ≤ cntTo (labels n (outE es (u, v))) n := countP_le_of sub
  have h2 : cntTo (labels n (outE es (u, v))) n ≤ cntTo (labels n es) n + 1 := by
    refine countP_one List.nodup_range fun i hi j hj qi pi qj pj => ?_
    have hi : i < n := List.mem_range.1 hi
    have hj : j < n := List.mem_range.1 hj
    rw [fix_iff hl2 hi] at qi
    rw [fix_iff hl2 hj] at qj
    have pi : lk (labels n es) i ≠ i := fun h => by rw [(fix_iff hl1 hi).2 h] at pi; cases pi
    have pj : lk (labels n es) j ≠ j := fun h => by rw [(fix_iff hl1 hj).2 h] at pj; cases pj
    have := one_new hr (x := (i : Int)) (y := (j : Int)) ⟨by omega, by omega⟩ ⟨by omega, by omega⟩ qi qj pi pj
    omega
  refine ⟨fun i hi => labels_sub hr hs (by omega) (by omega), by omega, fun h => ?_, fun h => by rw [h]⟩
  have back := countP_eq_of sub (by unfold cntTo at h; exact h.symm)
  refine lk_ext (by omega) fun x h0 hx => ?_
  rw [hl1] at hx
  have hb := labels_bd hr2 h0 hx
  have hf := labels_fix hr2 h0 hx
  generalize hm : lk (labels n (outE es (u, v))) x = m at *
  have hmn : m.toNat < n := by omega
  have hmm : ((m.toNat : Nat) : Int) = m := by omega
  have h3 := back m.toNat (List.mem_range.2 hmn) ((fix_iff hl2 hmn).2 (by rw [hmm]; exact hf))
  rw [fix_iff hl1 hmn, hmm] at h3
  have hc : Conn es x m := by
    have := (labels_conn hr2 h0 hx).mono hs
    rwa [hm] at this
  rw [(labels_iff hr ⟨h0, hx⟩ ⟨hb.1, by omega⟩).2 hc, h3]
end Go.Proofs.Ytjchabeiaajgiaa
