/- Plain law: the tree of bridges, put in order by both ways. No program in sight. -/
import Derived.Test.YtjchabeiaajgiaaSF
import Derived.Test.YtjchabeiaajgiaaC9
import Derived.Test.YtjchabeiaajgiaaD1
import Derived.Test.YtjchabeiaajgiaaE
namespace Go.Proofs.Ytjchabeiaajgiaa
open Go.RowKit set_option linter.unusedVariables false set_option linter.unusedSimpArgs false
open Go.Sort

def leE (x y : Int × Int) : Prop := ¬ ltE y x
theorem leE_anti {x y : Int × Int} (h1 : leE x y) (h2 : leE y x) : x = y := by
  unfold leE ltE at *
  apply Prod.ext <;> omega
theorem leE_trans {x y z : Int × Int} (h1 : leE x y) (h2 : leE y z) : leE x z := by
  unfold leE ltE at *
  omega
theorem perm_sorted : ∀ (xs ys : Es), xs.Perm ys → xs.Pairwise leE → ys.Pairwise leE → xs = ys
  | [], ys, h, _, _ => h.nil_eq
  | x :: xs, [], h, _, _ => by have := h.length_eq; simp at this
  | x :: xs, y :: ys, h, hx, hy => by
    rw [List.pairwise_cons] at hx hy
    have e : x = y := by
      have m1 : x ∈ y :: ys := h.mem_iff.1 (by simp)
      have m2 : y ∈ x :: xs := h.mem_iff.2 (by simp)
      rcases List.mem_cons.1 m1 with e | m1
      · exact e
      · rcases List.mem_cons.1 m2 with e | m2
        · exact e.symm
        · exact leE_anti (hx.1 y m2) (hy.1 x m1)
    subst e
    rw [perm_sorted xs ys (List.Perm.cons_inv h) hx.2 hy.2]
theorem putL_perm : ∀ (l : Es) (e : Int × Int), (putL l e).Perm (e :: l)
  | [], e => .refl _
  | x :: xs, e => by
    rw [putL]
    split
    · exact .refl _
    · exact ((putL_perm xs e).cons x).trans (.swap _ _ _)
theorem putL_srt : ∀ (l : Es) (e : Int × Int), l.Pairwise leE → (putL l e).Pairwise leE
  | [], e, _ => by simp [putL]
  | x :: xs, e, h => by
    rw [List.pairwise_cons] at h
    rw [putL]
    split
    · rename_i hl
      have hle : leE e x := by unfold leE ltE at *; omega
      refine List.pairwise_cons.2 ⟨fun y hy => ?_, List.pairwise_cons.2 h⟩
      rcases List.mem_cons.1 hy with rfl | hy
      · exact hle
      · exact leE_trans hle (h.1 y hy)
    · rename_i hl
      refine List.pairwise_cons.2 ⟨fun y hy => ?_, putL_srt xs e h.2⟩
      rcases (putL_mem xs e y).1 hy with rfl | hy
      · exact hl
      · exact h.1 y hy
/-- all put into a row -/
def putAll (l : Es) : Es := l.foldl putL []
theorem putAll_facts (l : Es) : (putAll l).Perm l ∧ (putAll l).Pairwise leE := by
  have key : ∀ (l a : Es), a.Pairwise leE → (l.foldl putL a).Perm (l ++ a) ∧ (l.foldl putL a).Pairwise leE := by
    intro l
    induction l with
    | nil => intro a ha; exact ⟨.refl _, ha⟩
    | cons x l ih =>
      intro a ha
      obtain ⟨h1, h2⟩ := ih (putL a x) (putL_srt a x ha)
      refine ⟨h1.trans ?_, h2⟩
      exact ((putL_perm a x).append_left l).trans List.perm_middle
  have := key l [] List.Pairwise.nil
  simpa [putAll] using this
theorem srtE_facts (l : Es) : (srtE l).Perm l ∧ (srtE l).Pairwise leE := by
  refine ⟨List.mergeSort_perm _ _, ?_⟩
  have h := List.pairwise_mergeSort (le := fun x y : Int × Int => !(ltOf cmpE y x)) (fun a b c h1 h2 => by
    have f : ∀ x y : Int × Int, (!(ltOf cmpE y x)) = true ↔ leE x y := fun x y => by
      unfold leE; rw [← ltOf_iff]; simp
    rw [f] at *
    exact leE_trans h1 h2) (fun a b => by
    have f : ∀ x y : Int × Int, (!(ltOf cmpE y x)) = true ↔ leE x y := fun x y => by
      unfold leE; rw [← ltOf_iff]; simp
    by_cases h : leE a b
    · simp [(f a b).2 h]
    · have : leE b a := by unfold leE ltE at *; omega
      simp [(f b a).2 this]) l
  exact h.imp fun {x y} h => by unfold leE; rw [← ltOf_iff]; simpa using h
theorem srt_put (l : Es) : srtE l = putAll l := perm_sorted _ _ ((srtE_facts l).1.trans (putAll_facts l).1.symm) (srtE_facts l).2 (putAll_facts l).2

/-- an edge between parts -/
def shr (ls : List Int) (e : Int × Int) : Int × Int := (min (lk ls e.1) (lk ls e.2), max (lk ls e.1) (lk ls e.2))
noncomputable def shrL (n : Nat) (es : Es) : Es := (bridgesL n es).map (shr (labels n (bareL n es)))
open Classical in
noncomputable def treeOf (n : Int) (es : Es) : Es := if Valid n es then putAll (shrL n.toNat es) else []
theorem treeOf_yes {n : Int} {es : Es} (h : Valid n es) : treeOf n es = putAll (shrL n.toNat es) := if_pos h
theorem treeOf_no {n : Int} {es : Es} (h : ¬ Valid n es) : treeOf n es = [] := if_neg h
theorem putAll_len (l : Es) : (putAll l).length = l.length := (putAll_facts l).1.length_eq
theorem treeOf_length (n : Int) (es : Es) : (treeOf n es).length ≤ 40 := by
  by_cases h : Valid n es
  · rw [treeOf_yes h, putAll_len]
    unfold shrL
    rw [List.length_map]
    have := bridgesL_len n.toNat es
    have := h.2.2.1
    omega
  · rw [treeOf_no h]; simp
/-- the parts at both ends of a bridge -/
theorem bridge_ends {n : Nat} {es : Es} (h16 : n ≤ 16) (hE : ∀ e ∈ es, 0 ≤ e.1 ∧ e.1 < e.2 ∧ e.2 < (n : Int)) (hr : InR n es) {e : Int × Int} (he : e ∈ bridgesL n es) :
    okE (lk (labels n (bareL n es)) e.1) (lk (labels n (bareL n es)) e.2) := by
  unfold bridgesL at he
  obtain ⟨hm, hb⟩ := List.mem_filter.1 he
  have h := hE e hm
  have hrb : InR n (bareL n es) := hr.sub (bareL_sub (n := n) (es := es))
  have b1 := labels_bd hrb (x := e.1) (by omega) (by omega)
  have b2 := labels_bd hrb (x := e.2) (by omega) (by omega)
  refine ⟨by omega, by omega, by omega, by omega, fun heq => ?_⟩
  have c := (labels_iff hrb ⟨by omega, by omega⟩ ⟨by omega, by omega⟩).1 heq
  have sub : ∀ f ∈ bareL n es, f ∈ outE es e := fun f hf => by
    unfold bareL at hf
    obtain ⟨h1, h2⟩ := List.mem_filter.1 hf
    have hne : f ≠ e := fun hfe => by
      subst hfe
      rw [hb] at h2
      cases h2
    exact List.mem_filter.2 ⟨h1, by simpa using hne⟩
  have c2 := c.mono sub
  unfold bridgeB connB at hb
  have := (labels_iff (hr.sub outE_sub) ⟨by omega, by omega⟩ ⟨by omega, by omega⟩).2 c2
  simp [this] at hb
theorem take_shr {ls : List Int} {l : Es} {k : Nat} {e : Int × Int} (h : l[k]? = some e) : (l.take (k + 1)).map (shr ls) = (l.take k).map (shr ls) ++ [shr ls e] := by
  obtain ⟨h1, h2⟩ := List.getElem?_eq_some_iff.1 h
  rw [List.take_succ_eq_append_getElem h1, h2, List.map_append]
  rfl
theorem take_put {ls : List Int} {l : Es} {k : Nat} {e : Int × Int} (h : l[k]? = some e) : putAll ((l.take (k + 1)).map (shr ls)) = putL (putAll ((l.take k).map (shr ls))) (shr ls e) := by
  rw [take_shr h]
  unfold putAll
  rw [List.foldl_append]
  rfl
end Go.Proofs.Ytjchabeiaajgiaa
