/- Plain law: forests, a graph without an edge, bridges, the parts without bridges. No program in sight. -/
import Derived.Test.YtjchabeiaajgiaaL2
import Derived.Test.YtjchabeiaajgiaaM
namespace Go.Proofs.Ytjchabeiaajgiaa set_option linter.unusedVariables false

/-- are two nodes connected? -/
noncomputable def connB (n : Nat) (es : Es) (x y : Int) : Bool := decide (lk (labels n es) x = lk (labels n es) y)
noncomputable def fstep (n : Nat) (out : Es) (e : Int × Int) : Es := if connB n out e.1 e.2 = true then out else out ++ [e]
/-- the first edges that connect as much as all -/
noncomputable def forestL (n : Nat) (es : Es) : Es := es.foldl (fstep n) []
theorem fstep_yes {n : Nat} {out : Es} {e : Int × Int} (h : connB n out e.1 e.2 = true) : fstep n out e = out := if_pos h
theorem fstep_no {n : Nat} {out : Es} {e : Int × Int} (h : connB n out e.1 e.2 = false) : fstep n out e = out ++ [e] := by
  unfold fstep; rw [if_neg (by simp [h])]
theorem fold_fstep_sub (n : Nat) : ∀ (l out : Es), ∀ e ∈ l.foldl (fstep n) out, e ∈ out ∨ e ∈ l
  | [], _, e, h => .inl h
  | x :: l, out, e, h => by
    rcases fold_fstep_sub n l (fstep n out x) e h with h | h
    · unfold fstep at h
      split at h
      · exact .inl h
      · rcases List.mem_append.1 h with h | h
        · exact .inl h
        · simp at h; subst h; exact .inr (by simp)
    · exact .inr (by simp [h])
theorem fold_fstep_len (n : Nat) : ∀ (l out : Es), (l.foldl (fstep n) out).length ≤ out.length + l.length
  | [], out => by simp
  | x :: l, out => by
    have h := fold_fstep_len n l (fstep n out x)
    have h2 : (fstep n out x).length ≤ out.length + 1 := by unfold fstep; split <;> simp
    simp only [List.foldl_cons, List.length_cons] at *
    omega
theorem forest_sub {n : Nat} {es : Es} : ∀ e ∈ forestL n es, e ∈ es := fun e h => by
  rcases fold_fstep_sub n es [] e h with h | h
  · simp at h
  · exact h
theorem forest_len (n : Nat) (es : Es) : (forestL n es).length ≤ es.length := by
  have := fold_fstep_len n es []; simpa [forestL] using this
theorem fold_take_succ {α β : Type} (f : β → α → β) (b : β) {l : List α} {k : Nat} {x : α} (h : l[k]? = some x) : (l.take (k + 1)).foldl f b = f ((l.take k).foldl f b) x := by
  rw [List.take_add_one, h, List.foldl_append]; rfl

/-- edges without one of them -/
def outE (es : Es) (e : Int × Int) : Es := es.filter fun f => decide (f ≠ e)
theorem outE_sub {es : Es} {e : Int × Int} : ∀ f ∈ outE es e, f ∈ es := fun f h => (List.mem_filter.1 h).1
theorem outE_len (es : Es) (e : Int × Int) : (outE es e).length ≤ es.length := List.length_filter_le _ _
theorem InR.sub {n : Nat} {es es' : Es} (h : InR n es) (hs : ∀ e ∈ es', e ∈ es) : InR n es' := fun e he => h e (hs e he)
/-- is an edge a bridge? -/
noncomputable def bridgeB (n : Nat) (es : Es) (e : Int × Int) : Bool := !connB n (outE es e) e.1 e.2
noncomputable def bridgesL (n : Nat) (es : Es) : Es := es.filter fun e => bridgeB n es e
/-- the edges that are no bridges -/
noncomputable def bareL (n : Nat) (es : Es) : Es := es.filter fun e => !bridgeB n es e
theorem bareL_mem {n : Nat} {es : Es} : bareL n es = es.filter fun e => decide (e ∉ bridgesL n es) := by
  unfold bareL
  apply List.filter_congr
  intro e he
  by_cases h : bridgeB n es e = true
  · have : e ∈ bridgesL n es := List.mem_filter.2 ⟨he, h⟩
    simp [h, this]
  · have h' : bridgeB n es e = false := by simpa using h
    have : e ∉ bridgesL n es := fun hm => by have := (List.mem_filter.1 hm).2; rw [h'] at this; cases this
    simp [h', this]
theorem bareL_sub {n : Nat} {es : Es} : ∀ e ∈ bareL n es, e ∈ es := fun e h => (List.mem_filter.1 h).1
theorem bareL_len (n : Nat) (es : Es) : (bareL n es).length ≤ es.length := List.length_filter_le _ _
theorem bridgesL_sub {n : Nat} {es : Es} : ∀ e ∈ bridgesL n es, e ∈ es := fun e h => (List.mem_filter.1 h).1
theorem bridgesL_len (n : Nat) (es : Es) : (bridgesL n es).length ≤ es.length := List.length_filter_le _ _
theorem filter_take_succ {α : Type} (p : α → Bool) {l : List α} {k : Nat} {x : α} (h : l[k]? = some x) : (l.take (k + 1)).filter p = (l.take k).filter p ++ if p x = true then [x] else [] := by
  rw [List.take_add_one, h, List.filter_append]
  cases hp : p x <;> simp [hp]
end Go.Proofs.Ytjchabeiaajgiaa
