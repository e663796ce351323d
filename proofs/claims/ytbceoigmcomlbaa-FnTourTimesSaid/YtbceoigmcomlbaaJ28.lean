import Derived.Test.YtbceoigmcomlbaaJ21
import Derived.Test.YtbceoigmcomlbaaJ3
import Derived.Test.YtbceoigmcomlbaaJ9
/- Plain law: forests, and how many nodes lie below a node; the greatest length of a walk down. No program in sight. -/
namespace Go.Proofs.Ytbceoigmcomlbaa
set_option linter.unusedVariables false set_option linter.unusedSimpArgs false
/-! ### forests -/
theorem mem_outE {es : Es} {e f : Int × Int} : f ∈ outE es e ↔ f ∈ es ∧ f ≠ e := by simp [outE]
theorem conn_out {es : Es} {b : Int × Int} {x y : Int} (h : Conn es x y) :
    Conn (outE es b) x y ∨ (Conn (outE es b) x b.1 ∧ Conn (outE es b) b.2 y) ∨ (Conn (outE es b) x b.2 ∧ Conn (outE es b) b.1 y) := by
  have : Conn ((b.1, b.2) :: outE es b) x y := h.mono fun f hf => by
    by_cases e : f = b
    · subst e; simp
    · exact List.mem_cons_of_mem _ (mem_outE.2 ⟨hf, e⟩)
  exact conn_cons this
/-- no edge closes a circle -/
def FreeT (es : Es) : Prop := ∀ e ∈ es, ¬ Conn (outE es e) e.1 e.2
theorem FreeT.snoc {out : Es} {x : Int × Int} (h : FreeT out) (hx : ¬ Conn out x.1 x.2) : FreeT (out ++ [x]) := fun e he hc => by
  by_cases hex : e = x
  · subst hex
    exact hx (hc.mono fun f hf => by
      obtain ⟨h1, h2⟩ := mem_outE.1 hf
      rcases List.mem_append.1 h1 with h3 | h3
      · exact h3
      · simp at h3; exact absurd h3 h2)
  · have heo : e ∈ out := by
      rcases List.mem_append.1 he with h3 | h3
      · exact h3
      · simp at h3; exact absurd h3 hex
    have sub : ∀ f ∈ outE (outE (out ++ [x]) e) x, f ∈ outE out e := fun f hf => by
      obtain ⟨h1, h2⟩ := mem_outE.1 hf
      obtain ⟨h3, h4⟩ := mem_outE.1 h1
      rcases List.mem_append.1 h3 with h5 | h5
      · exact mem_outE.2 ⟨h5, h4⟩
      · simp at h5; exact absurd h5 h2
    have ab : Conn out e.1 e.2 := Conn.one (.inl heo)
    rcases conn_out (b := x) hc with h1 | ⟨h1, h2⟩ | ⟨h1, h2⟩
    · exact h e heo (h1.mono sub)
    · have a := (h1.mono sub).mono outE_sub
      have b := (h2.mono sub).mono outE_sub
      exact hx ((a.symm.trans ab).trans b.symm)
    · have a := (h1.mono sub).mono outE_sub
      have b := (h2.mono sub).mono outE_sub
      exact hx ((b.trans ab.symm).trans a)
theorem fold_freeT {n : Nat} : ∀ (l out : Es), InR n out → InR n l → FreeT out → FreeT (l.foldl (fstep n) out)
  | [], _, _, _, h => h
  | x :: l, out, ho, hl, h => by
    have hx := hl x (by simp)
    have hl2 : InR n l := fun e he => hl e (List.mem_cons_of_mem _ he)
    simp only [List.foldl_cons]
    cases hc : connB n out x.1 x.2 with
    | true => rw [fstep_yes hc]; exact fold_freeT l out ho hl2 h
    | false =>
      rw [fstep_no hc]
      refine fold_freeT l _ (fun e he => ?_) hl2 (h.snoc fun hcc => ?_)
      · rcases List.mem_append.1 he with h1 | h1
        · exact ho e h1
        · simp at h1; subst h1; exact hx
      · have : connB n out x.1 x.2 = true := by
          unfold connB
          rw [decide_eq_true_iff]
          exact (labels_iff ho ⟨hx.1, hx.2.1⟩ ⟨hx.2.2.1, hx.2.2.2⟩).2 hcc
        rw [this] at hc; cases hc
theorem forest_free {n : Nat} {es : Es} (hr : InR n es) : FreeT (forestL n es) :=
  fold_freeT es [] (fun e he => by simp at he) hr (fun e he => by simp at he)

/-! ### below a node of a forest -/
theorem free_not {E : Es} (hf : FreeT E) {x c : Int} (he : eOf x c ∈ E) : ¬ Conn (outE E (eOf x c)) x c := fun h => by
  have h1 := hf _ he
  rcases @eOf_ends x c with ⟨e1, e2⟩ | ⟨e1, e2⟩
  · rw [e1, e2] at h1; exact h1 h
  · rw [e1, e2] at h1; exact h1 h.symm
/-- what lies beyond an edge is not reached by another edge of the node -/
theorem free_other {E : Es} (hf : FreeT E) {x c q i : Int} (he : eOf x c ∈ E) (hb : eOf x q ∈ E) (hne : eOf x q ≠ eOf x c) (h : Conn (outE E (eOf x c)) i c) : Conn (outE (outE E (eOf x c)) (eOf x q)) i c := by
  have hxq : Conn (outE E (eOf x c)) x q := conn_eOf (mem_outE.2 ⟨hb, hne⟩)
  have no := free_not hf he
  rcases conn_out (b := eOf x q) h with h | ⟨_, h⟩ | ⟨_, h⟩
  · exact h
  · have h := h.mono outE_sub
    exfalso
    rcases @eOf_ends x q with ⟨e1, e2⟩ | ⟨e1, e2⟩
    · rw [e2] at h; exact no (hxq.trans h)
    · rw [e2] at h; exact no h
  · have h := h.mono outE_sub
    exfalso
    rcases @eOf_ends x q with ⟨e1, e2⟩ | ⟨e1, e2⟩
    · rw [e1] at h; exact no h
    · rw [e1] at h; exact no (hxq.trans h)
noncomputable instance connDec (E : Es) (x y : Int) : Decidable (Conn E x y) := Classical.propDecidable _
/-- the nodes that stay with x when the edge to p is taken away -/
noncomputable def below (E : Es) (x p : Int) : List Int := ((List.range 16).map fun i : Nat => (i : Int)).filter fun i => decide (Conn (outE E (eOf x p)) i x)
theorem range_nodup (n : Nat) : ((List.range n).map fun i : Nat => (i : Int)).Nodup := by
  have := List.nodup_range (n := n)
  rw [List.Nodup, List.pairwise_map]
  exact this.imp fun h e => h (by omega)
theorem mem_below {E : Es} {x p i : Int} : i ∈ below E x p ↔ (0 ≤ i ∧ i < 16) ∧ Conn (outE E (eOf x p)) i x := by
  unfold below
  rw [List.mem_filter, decide_eq_true_eq]
  constructor
  · rintro ⟨h, k⟩
    obtain ⟨j, hj, rfl⟩ := List.mem_map.1 h
    simp at hj
    exact ⟨by omega, k⟩
  · rintro ⟨h, k⟩
    exact ⟨List.mem_map.2 ⟨i.toNat, by simp; omega, by omega⟩, k⟩
theorem below_nodup (E : Es) (x p : Int) : (below E x p).Nodup := (range_nodup 16).sublist List.filter_sublist
theorem below_le (E : Es) (x p : Int) : (below E x p).length ≤ 16 := by
  have := nodup_len (below E x p) ((List.range 16).map fun i : Nat => (i : Int)) (below_nodup E x p) fun i hi => by
    have := (mem_below.1 hi).1
    exact List.mem_map.2 ⟨i.toNat, by simp; omega, by omega⟩
  simpa using this
theorem below_pos {E : Es} {x p : Int} (hx : 0 ≤ x ∧ x < 16) : 1 ≤ (below E x p).length := List.length_pos_of_mem (mem_below.2 ⟨hx, .refl⟩)
/-- the numbers of nodes below the children -/
noncomputable def kids (E : Es) (x : Int) (cs : List Int) : List Int := cs.flatMap fun c => below E c x
theorem kids_spec {E : Es} (hf : FreeT E) {x p : Int} (hx : 0 ≤ x ∧ x < 16) : ∀ (cs : List Int), cs.Nodup → (∀ c ∈ cs, eOf x c ∈ E ∧ c ≠ p ∧ c ≠ x) → (kids E x cs).Nodup ∧ ∀ i ∈ kids E x cs, i ∈ below E x p ∧ i ≠ x ∧ ∃ c ∈ cs, i ∈ below E c x
  | [], _, _ => by simp [kids]
  | c :: cs, hn, h => by
    rw [List.nodup_cons] at hn
    obtain ⟨h1, h2⟩ := kids_spec hf hx cs hn.2 fun d hd => h d (List.mem_cons_of_mem _ hd)
    obtain ⟨he, hcp, hcx⟩ := h c (by simp)
    have hk : kids E x (c :: cs) = below E c x ++ kids E x cs := rfl
    have hmem : ∀ i ∈ below E c x, i ∈ below E x p ∧ i ≠ x := fun i hi => by
      obtain ⟨hi1, hi2⟩ := mem_below.1 hi
      rw [eOf_comm] at hi2
      have hne : eOf x p ≠ eOf x c := fun e => by
        rcases eOf_eq e with ⟨_, e⟩ | ⟨e, _⟩
        · exact hcp e.symm
        · exact hcx e.symm
      have hcx2 : Conn (outE E (eOf x p)) c x := (conn_eOf (mem_outE.2 ⟨he, hne.symm⟩)).symm
      refine ⟨mem_below.2 ⟨hi1, ?_⟩, fun e => ?_⟩
      · by_cases hb : eOf x p ∈ E
        · have := free_other hf he hb hne hi2
          exact (this.mono fun f hf => by
            obtain ⟨g1, g2⟩ := mem_outE.1 hf
            exact mem_outE.2 ⟨outE_sub _ g1, g2⟩).trans hcx2
        · exact (hi2.mono fun f hf => mem_outE.2 ⟨outE_sub _ hf, fun e => hb (by rw [← e]; exact outE_sub _ hf)⟩).trans hcx2
      · subst e; exact free_not hf he hi2
    rw [hk]
    refine ⟨List.nodup_append.2 ⟨below_nodup _ _ _, h1, fun i hi j hj e => ?_⟩, fun i hi => ?_⟩
    · subst e
      obtain ⟨_, _, d, hd, hid⟩ := h2 i hj
      obtain ⟨hed, hdp, hdx⟩ := h d (List.mem_cons_of_mem _ hd)
      have hi2 := (mem_below.1 hi).2
      have hid2 := (mem_below.1 hid).2
      rw [eOf_comm] at hi2 hid2
      have hcd : c ≠ d := fun e => hn.1 (e ▸ hd)
      have hne : eOf x d ≠ eOf x c := fun e => by
        rcases eOf_eq e with ⟨_, e⟩ | ⟨e, _⟩
        · exact hcd e.symm
        · exact hcx e.symm
      have a := free_other hf he hed hne hi2
      have a2 : Conn (outE E (eOf x d)) i c := a.mono fun f hf => by
        obtain ⟨g1, g2⟩ := mem_outE.1 hf
        exact mem_outE.2 ⟨outE_sub _ g1, g2⟩
      have b : Conn (outE E (eOf x d)) x c := conn_eOf (mem_outE.2 ⟨he, hne.symm⟩)
      exact free_not hf hed ((b.trans a2.symm).trans hid2)
    · rcases List.mem_append.1 hi with hi | hi
      · exact ⟨(hmem i hi).1, (hmem i hi).2, c, by simp, hi⟩
      · obtain ⟨g1, g2, d, hd, g3⟩ := h2 i hi
        exact ⟨g1, g2, d, List.mem_cons_of_mem _ hd, g3⟩
/-- together they are fewer -/
theorem kids_lt {E : Es} (hf : FreeT E) {x p : Int} (hx : 0 ≤ x ∧ x < 16) {cs : List Int} (hn : cs.Nodup) (h : ∀ c ∈ cs, eOf x c ∈ E ∧ c ≠ p ∧ c ≠ x) : (kids E x cs).length + 1 ≤ (below E x p).length := by
  obtain ⟨h1, h2⟩ := kids_spec hf hx cs hn h
  have := nodup_len (x :: kids E x cs) (below E x p) (List.nodup_cons.2 ⟨fun m => (h2 x m).2.1 rfl, h1⟩) fun i hi => by
    rcases List.mem_cons.1 hi with rfl | hi
    · exact mem_below.2 ⟨hx, .refl⟩
    · exact (h2 i hi).1
  simpa using this
theorem next_edge {n : Nat} {E : Es} {x c : Int} (h : c ∈ nextL n E x) : eOf x c ∈ E ∧ c ≠ x ∧ 0 ≤ c ∧ c < n := by
  obtain ⟨h1, h2, h3, h4⟩ := mem_nextL.1 h
  exact ⟨by rw [eOf_comm]; exact h4, h3, h1, h2⟩
/-- the most that a walk below x adds when its first k neighbours are done -/
noncomputable def wmax (n : Nat) (E : Es) (x p : Int) (k : Nat) : Nat := 1 + 2 * (kids E x (((nextL n E x).take k).filter fun c => decide (c ≠ p))).length
theorem wmax_zero (n : Nat) (E : Es) (x p : Int) : wmax n E x p 0 = 1 := by simp [wmax, kids]
theorem wmax_skip {n : Nat} {E : Es} {x p : Int} {k : Nat} (h : (nextL n E x)[k]? = some p) : wmax n E x p (k + 1) = wmax n E x p k := by
  unfold wmax
  rw [List.take_add_one, h, List.filter_append]
  simp
theorem wmax_step {n : Nat} {E : Es} {x p c : Int} {k : Nat} (h : (nextL n E x)[k]? = some c) (hc : c ≠ p) : wmax n E x p (k + 1) = wmax n E x p k + 2 * (below E c x).length := by
  unfold wmax
  rw [List.take_add_one, h, List.filter_append]
  have : ([c] : List Int).filter (fun c => decide (c ≠ p)) = [c] := by simp [hc]
  show 1 + 2 * (kids E x (_ ++ List.filter _ [c])).length = _
  rw [this]
  unfold kids
  rw [List.flatMap_append, List.length_append]
  simp
  omega
theorem wmax_le {n : Nat} {E : Es} (hf : FreeT E) {x p : Int} (hx : 0 ≤ x ∧ x < 16) (k : Nat) : wmax n E x p k + 1 ≤ 2 * (below E x p).length := by
  have := kids_lt hf (p := p) hx (cs := ((nextL n E x).take k).filter fun c => decide (c ≠ p)) (((nextL_sorted n E x).imp fun h => by omega).sublist (List.filter_sublist.trans (List.take_sublist _ _))) fun c hc => by
    obtain ⟨h1, h2⟩ := List.mem_filter.1 hc
    have := next_edge (List.mem_of_mem_take h1)
    simp at h2
    exact ⟨this.1, h2, this.2.1⟩
  unfold wmax
  omega
theorem child_lt {n : Nat} {E : Es} (hf : FreeT E) {x p c : Int} (hx : 0 ≤ x ∧ x < 16) {k : Nat} (h : (nextL n E x)[k]? = some c) (hc : c ≠ p) : (below E c x).length < (below E x p).length := by
  have h1 := wmax_step h hc
  have h2 := wmax_le hf (n := n) (p := p) hx (k + 1)
  have h3 : 1 ≤ wmax n E x p k := by unfold wmax; omega
  omega
end Go.Proofs.Ytbceoigmcomlbaa
