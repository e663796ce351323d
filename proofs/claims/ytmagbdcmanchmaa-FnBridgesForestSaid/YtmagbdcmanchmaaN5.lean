/- The plain law on bridges and forests. -/
import Derived.Test.YtmagbdcmanchmaaF3
import Derived.Test.YtmagbdcmanchmaaC6
import Derived.Test.YtmagbdcmanchmaaN1
import Derived.Test.YtmagbdcmanchmaaI3
import Derived.Test.YtmagbdcmanchmaaD3
namespace Go.Proofs.Ytmagbdcmanchmaa
open Go.RowKit set_option linter.unusedVariables false set_option linter.unusedSimpArgs false

theorem connB_iff {n : Nat} {es : Es} (hr : InR n es) {x y : Int} (hx : 0 ≤ x ∧ x < n) (hy : 0 ≤ y ∧ y < n) : connB n es x y = true ↔ Conn es x y := by
  unfold connB
  rw [decide_eq_true_iff]
  exact labels_iff hr hx hy
/-- no edge of the row closes a circle -/
def Free (es : Es) : Prop := ∀ e ∈ es, ¬ Conn (outE es e) e.1 e.2
theorem Free.snoc {out : Es} {x : Int × Int} (h : Free out) (hx : ¬ Conn out x.1 x.2) : Free (out ++ [x]) := fun e he hc => by
  by_cases hex : e = x
  · subst hex
    exact hx (hc.mono fun f hf => by
      obtain ⟨h1, h2⟩ := outE_mem.1 hf
      rcases List.mem_append.1 h1 with h3 | h3
      · exact h3
      · simp at h3; exact absurd h3 h2)
  · have heo : e ∈ out := by
      rcases List.mem_append.1 he with h3 | h3
      · exact h3
      · simp at h3; exact absurd h3 hex
    have sub : ∀ f ∈ outE (outE (out ++ [x]) e) (x.1, x.2), f ∈ outE out e := fun f hf => by
      obtain ⟨h1, h2⟩ := outE_mem.1 hf
      obtain ⟨h3, h4⟩ := outE_mem.1 h1
      rcases List.mem_append.1 h3 with h5 | h5
      · exact outE_mem.2 ⟨h5, h4⟩
      · simp at h5; exact absurd h5 h2
    have ab : Conn out e.1 e.2 := Conn.one (.inl heo)
    rcases conn_cut (u := x.1) (v := x.2) hc with h1 | ⟨h1, h2⟩ | ⟨h1, h2⟩
    · exact h e heo (h1.mono sub)
    · have a := (h1.mono sub).mono outE_sub
      have b := (h2.mono sub).mono outE_sub
      exact hx ((a.symm.trans ab).trans b.symm)
    · have a := (h1.mono sub).mono outE_sub
      have b := (h2.mono sub).mono outE_sub
      exact hx ((b.trans ab.symm).trans a)
/-- what the fold of forests keeps -/
theorem fold_free {n : Nat} : ∀ (l out : Es), InR n out → InR n l → Free out → Free (l.foldl (fstep n) out)
  | [], _, _, _, h => h
  | x :: l, out, ho, hl, h => by
    have hx := hl x (by simp)
    have hl2 : InR n l := fun e he => hl e (List.mem_cons_of_mem _ he)
    simp only [List.foldl_cons]
    cases hc : connB n out x.1 x.2 with
    | true => rw [fstep_yes hc]; exact fold_free l out ho hl2 h
    | false =>
      rw [fstep_no hc]
      refine fold_free l _ (fun e he => ?_) hl2 (h.snoc fun hcc => ?_)
      · rcases List.mem_append.1 he with h1 | h1
        · exact ho e h1
        · simp at h1; subst h1; exact hx
      · rw [(connB_iff ho ⟨hx.1, hx.2.1⟩ ⟨hx.2.2.1, hx.2.2.2⟩).2 hcc] at hc; cases hc
theorem fold_keep {n : Nat} : ∀ (l out : Es), ∀ e ∈ out, e ∈ l.foldl (fstep n) out
  | [], _, e, h => h
  | x :: l, out, e, h => fold_keep l (fstep n out x) e (by
    unfold fstep; split
    · exact h
    · exact List.mem_append.2 (.inl h))
/-- a bridge is taken -/
theorem fold_takes {n : Nat} {es : Es} {b : Int × Int} (hb : ¬ Conn (outE es b) b.1 b.2) : ∀ (l out : Es), InR n out → InR n l → (∀ e ∈ out, e ∈ es) → (∀ e ∈ l, e ∈ es) → b ∉ out → l.Nodup → b ∈ l → b ∈ l.foldl (fstep n) out
  | [], _, _, _, _, _, _, _, h => by simp at h
  | x :: l, out, ho, hl, so, sl, hno, hnd, h => by
    have hx := hl x (by simp)
    have hl2 : InR n l := fun e he => hl e (List.mem_cons_of_mem _ he)
    obtain ⟨hn1, hn2⟩ := List.nodup_cons.1 hnd
    simp only [List.foldl_cons]
    by_cases hxb : x = b
    · subst hxb
      have hc : connB n out x.1 x.2 = false := by
        cases hc : connB n out x.1 x.2 with
        | false => rfl
        | true =>
          refine absurd (((connB_iff ho ⟨hx.1, hx.2.1⟩ ⟨hx.2.2.1, hx.2.2.2⟩).1 hc).mono fun f hf => outE_mem.2 ⟨so f hf, fun h2 => ?_⟩) hb
          subst h2; exact hno hf
      rw [fstep_no hc]
      exact fold_keep l _ _ (List.mem_append.2 (.inr (by simp)))
    · have hbl : b ∈ l := by rcases List.mem_cons.1 h with h2 | h2; exact absurd h2.symm hxb; exact h2
      have hsub : ∀ e ∈ fstep n out x, e ∈ out ∨ e = x := fun e he => by
        unfold fstep at he; split at he
        · exact .inl he
        · rcases List.mem_append.1 he with h2 | h2
          · exact .inl h2
          · simp at h2; exact .inr h2
      refine fold_takes hb l _ (fun e he => ?_) hl2 (fun e he => ?_) (fun e he => sl e (List.mem_cons_of_mem _ he)) (fun hbo => ?_) hn2 hbl
      · rcases hsub e he with h2 | rfl; exact ho e h2; exact hx
      · rcases hsub e he with h2 | rfl; exact so e h2; exact sl e (by simp)
      · rcases hsub b hbo with h2 | h2; exact hno h2; exact hxb h2.symm
theorem fold_sub (n : Nat) : ∀ (l out : Es), ∃ s, l.foldl (fstep n) out = out ++ s ∧ s.Sublist l
  | [], out => ⟨[], by simp, List.Sublist.refl _⟩
  | x :: l, out => by
    simp only [List.foldl_cons]
    cases hc : connB n out x.1 x.2 with
    | true =>
      rw [fstep_yes hc]
      obtain ⟨s, h1, h2⟩ := fold_sub n l out
      exact ⟨s, h1, h2.cons x⟩
    | false =>
      rw [fstep_no hc]
      obtain ⟨s, h1, h2⟩ := fold_sub n l (out ++ [x])
      exact ⟨x :: s, by rw [h1]; simp, h2.cons_cons x⟩
theorem forest_sublist (n : Nat) (es : Es) : (forestL n es).Sublist es := by
  obtain ⟨s, h1, h2⟩ := fold_sub n es []
  unfold forestL
  rw [h1]; simpa using h2
theorem Valid.pairw {n : Int} {es : Es} (h : Valid n es) : es.Pairwise ltE := List.pairwise_iff_getElem.2 fun i j hi hj hij => h.sorted i j _ _ hij (List.getElem?_eq_getElem hi) (List.getElem?_eq_getElem hj)
theorem Valid.nodup {n : Int} {es : Es} (h : Valid n es) : es.Nodup := h.pairw.imp fun {a b} hab e => by subst e; unfold ltE at hab; omega
theorem Valid.sublist {n : Int} {es xs : Es} (h : Valid n es) (hs : xs.Sublist es) : Valid n xs := by
  have hg : Good n xs := ⟨fun y hy => h.pair (hs.subset hy), h.pairw.sublist hs⟩
  have := hs.length_le
  exact hg.valid h.1 h.2.1 (by have := h.2.2.1; omega)
theorem bridgeB_iff {n : Nat} {es : Es} (hr : InR n es) {e : Int × Int} (he : 0 ≤ e.1 ∧ e.1 < n ∧ 0 ≤ e.2 ∧ e.2 < n) : bridgeB n es e = true ↔ ¬ Conn (outE es e) e.1 e.2 := by
  unfold bridgeB
  rw [← connB_iff (hr.sub outE_sub) ⟨he.1, he.2.1⟩ ⟨he.2.2.1, he.2.2.2⟩]
  simp
/-- FnBridgesForest, the plain law -/
theorem bridges_forest {n : Int} {es : Es} (h : Valid n es) : (∀ e ∈ bridgesOf n es, e ∈ forestOf n es) ∧ bridgesOf n (forestOf n es) = forestOf n es := by
  have hr := h.inR
  rw [bridgesOf_yes h, forestOf_yes h]
  have hvf := h.sublist (forest_sublist n.toNat es)
  rw [bridgesOf_yes hvf]
  have hrf := hvf.inR
  refine ⟨fun e he => ?_, ?_⟩
  · obtain ⟨h1, h2⟩ := List.mem_filter.1 he
    have hb := (bridgeB_iff hr (hr e h1)).1 h2
    exact fold_takes hb es [] (fun e he => by simp at he) hr (fun e he => by simp at he) (fun _ h => h) (by simp) h.nodup h1
  · refine List.filter_eq_self.2 fun e he => (bridgeB_iff hrf (hrf e he)).2 ?_
    exact fold_free es [] (fun e he => by simp at he) hr (fun e he => by simp at he) e he
end Go.Proofs.Ytmagbdcmanchmaa
