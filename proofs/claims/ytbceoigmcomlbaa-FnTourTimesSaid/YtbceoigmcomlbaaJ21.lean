import Derived.Test.YtbceoigmcomlbaaJ15
/- Plain law of tours: cutting, linking, turning, what lies below a node, how often a node is visited, depths. No program in sight. -/
namespace Go.Proofs.Ytbceoigmcomlbaa
set_option linter.unusedVariables false set_option linter.unusedSimpArgs false
/-! ### lists -/
theorem nodup_len : ∀ (P R : List Int), P.Nodup → (∀ x ∈ P, x ∈ R) → P.length ≤ R.length
  | [], R, _, _ => by simp
  | x :: P, R, h, hs => by
    rw [List.nodup_cons] at h
    have hx := hs x (by simp)
    have := nodup_len P (R.erase x) h.2 fun y hy => (List.mem_erase_of_ne (fun e => h.1 (by rw [← e]; exact hy))).2 (hs y (by simp [hy]))
    rw [List.length_erase_of_mem hx] at this
    have := List.length_pos_of_mem hx
    simp only [List.length_cons]
    omega
theorem nodupE_len : ∀ (P R : Es), P.Nodup → (∀ x ∈ P, x ∈ R) → P.length ≤ R.length
  | [], R, _, _ => by simp
  | x :: P, R, h, hs => by
    rw [List.nodup_cons] at h
    have hx := hs x (by simp)
    have := nodupE_len P (R.erase x) h.2 fun y hy => (List.mem_erase_of_ne (fun e => h.1 (by rw [← e]; exact hy))).2 (hs y (by simp [hy]))
    rw [List.length_erase_of_mem hx] at this
    have := List.length_pos_of_mem hx
    simp only [List.length_cons]
    omega
theorem eset_nodup (S : Es) : (eset S).Nodup := (eset_pair S).imp fun {a b} h e => by subst e; exact ltE_irr h
theorem uniq_ext {L M : List Int} (h : ∀ x, x ∈ L ↔ x ∈ M) : (uniq L).length = (uniq M).length :=
  Nat.le_antisymm (nodup_len _ _ (uniq_nodup L) fun x hx => (mem_uniq _ _).2 ((h x).1 ((mem_uniq _ _).1 hx))) (nodup_len _ _ (uniq_nodup M) fun x hx => (mem_uniq _ _).2 ((h x).2 ((mem_uniq _ _).1 hx)))
theorem eset_ext {L M : Es} (h : ∀ x, x ∈ L ↔ x ∈ M) : eset L = eset M :=
  sortedE_ext _ _ (eset_pair L) (eset_pair M) fun e => by rw [mem_eset, mem_eset, h]
theorem uniq_union {L A B : List Int} (h : ∀ x, x ∈ L ↔ x ∈ A ∨ x ∈ B) (hd : ∀ x ∈ A, x ∉ B) : (uniq L).length = (uniq A).length + (uniq B).length := by
  have hn : (uniq A ++ uniq B).Nodup := by
    rw [List.nodup_append]
    exact ⟨uniq_nodup A, uniq_nodup B, fun a ha b hb e => hd a ((mem_uniq _ _).1 ha) (e ▸ (mem_uniq _ _).1 hb)⟩
  rw [← List.length_append]
  refine Nat.le_antisymm (nodup_len _ _ (uniq_nodup L) fun x hx => ?_) (nodup_len _ _ hn fun x hx => ?_)
  · rw [List.mem_append, mem_uniq, mem_uniq, ← h]; exact (mem_uniq _ _).1 hx
  · rw [List.mem_append, mem_uniq, mem_uniq, ← h] at hx; exact (mem_uniq _ _).2 hx
theorem eset_union {L A B : Es} (h : ∀ x, x ∈ L ↔ x ∈ A ∨ x ∈ B) (hd : ∀ x ∈ A, x ∉ B) : (eset L).length = (eset A).length + (eset B).length := by
  have hn : (eset A ++ eset B).Nodup := by
    rw [List.nodup_append]
    exact ⟨eset_nodup A, eset_nodup B, fun a ha b hb e => hd a (mem_eset.1 ha) (e ▸ mem_eset.1 hb)⟩
  rw [← List.length_append]
  refine Nat.le_antisymm (nodupE_len _ _ (eset_nodup L) fun x hx => ?_) (nodupE_len _ _ hn fun x hx => ?_)
  · rw [List.mem_append, mem_eset, mem_eset, ← h]; exact mem_eset.1 hx
  · rw [List.mem_append, mem_eset, mem_eset, ← h] at hx; exact mem_eset.2 hx

/-! ### edges count nodes -/
theorem conn_cons {E : Es} {u v x y : Int} (h : Conn ((u, v) :: E) x y) : Conn E x y ∨ (Conn E x u ∧ Conn E v y) ∨ (Conn E x v ∧ Conn E u y) := by
  induction h with
  | refl => exact .inl .refl
  | @step y z _ a ih =>
    have a' : Adj E y z ∨ (y = u ∧ z = v) ∨ (y = v ∧ z = u) := by
      rcases a with a | a <;> rcases List.mem_cons.1 a with b | b
      · injection b with b1 b2; exact .inr (.inl ⟨b1, b2⟩)
      · exact .inl (.inl b)
      · injection b with b1 b2; exact .inr (.inr ⟨b2, b1⟩)
      · exact .inl (.inr b)
    rcases a' with a | ⟨rfl, rfl⟩ | ⟨rfl, rfl⟩
    · rcases ih with h | ⟨h1, h2⟩ | ⟨h1, h2⟩
      · exact .inl (.step h a)
      · exact .inr (.inl ⟨h1, .step h2 a⟩)
      · exact .inr (.inr ⟨h1, .step h2 a⟩)
    · rcases ih with h | ⟨h1, h2⟩ | ⟨h1, h2⟩
      · exact .inr (.inl ⟨h, .refl⟩)
      · exact .inr (.inl ⟨h1, .refl⟩)
      · exact .inl h1
    · rcases ih with h | ⟨h1, h2⟩ | ⟨h1, h2⟩
      · exact .inr (.inr ⟨h, .refl⟩)
      · exact .inl h1
      · exact .inr (.inr ⟨h1, .refl⟩)
theorem conn_nil {x y : Int} (h : Conn [] x y) : x = y := by
  induction h with
  | refl => rfl
  | step _ a _ => rcases a with a | a <;> simp at a
open Classical in
theorem conn_count : ∀ (E : Es) (P R : List Int), P.Nodup → (∀ x ∈ P, ∃ r ∈ R, Conn E x r) → P.length ≤ E.length + R.length
  | [], P, R, hn, h => by
    simpa using nodup_len P R hn fun x hx => by
      obtain ⟨r, hr, hc⟩ := h x hx
      rw [conn_nil hc]; exact hr
  | (u, v) :: E, P, R, hn, h => by
    have key : ∃ y, ∀ x ∈ P, ∃ r ∈ y :: R, Conn E x r := by
      by_cases hu : ∃ r ∈ R, Conn E u r
      · obtain ⟨r, hr, hu⟩ := hu
        refine ⟨v, fun x hx => ?_⟩
        obtain ⟨s, hs, hc⟩ := h x hx
        rcases conn_cons hc with c | ⟨c, _⟩ | ⟨c, _⟩
        · exact ⟨s, by simp [hs], c⟩
        · exact ⟨r, by simp [hr], c.trans hu⟩
        · exact ⟨v, by simp, c⟩
      · refine ⟨u, fun x hx => ?_⟩
        obtain ⟨s, hs, hc⟩ := h x hx
        rcases conn_cons hc with c | ⟨c, _⟩ | ⟨_, c⟩
        · exact ⟨s, by simp [hs], c⟩
        · exact ⟨u, by simp, c⟩
        · exact absurd ⟨s, hs, c⟩ hu
    obtain ⟨y, hy⟩ := key
    have := conn_count E P (y :: R) hn hy
    simp only [List.length_cons] at this ⊢
    omega

/-! ### steps -/
theorem eOf_comm (x y : Int) : eOf x y = eOf y x := by unfold eOf; rw [Int.min_comm, Int.max_comm]
theorem eOf_eq {x y u v : Int} (h : eOf x y = eOf u v) : (x = u ∧ y = v) ∨ (x = v ∧ y = u) := by
  unfold eOf at h
  injection h with h1 h2
  omega
theorem eOf_ne {x y : Int} : (eOf x y).1 ≠ (eOf x y).2 ↔ x ≠ y := by unfold eOf; simp only; omega
theorem eOf_ends {x y : Int} : ((eOf x y).1 = x ∧ (eOf x y).2 = y) ∨ ((eOf x y).1 = y ∧ (eOf x y).2 = x) := by unfold eOf; simp only; omega
theorem conn_eOf {E : Es} {x y : Int} (h : eOf x y ∈ E) : Conn E x y := by
  unfold eOf at h
  rcases Int.le_total x y with hxy | hxy
  · rw [Int.min_eq_left hxy, Int.max_eq_right hxy] at h; exact .one (.inl h)
  · rw [Int.min_eq_right hxy, Int.max_eq_left hxy] at h; exact .one (.inr h)
theorem steps_shared : ∀ (X : List Int) (x : Int) (Y : List Int), stepsL (X ++ x :: Y) = stepsL (X ++ [x]) ++ stepsL (x :: Y)
  | [], x, Y => by simp [stepsL]
  | [a], x, Y => by simp [stepsL]
  | a :: b :: X, x, Y => by
    have := steps_shared (b :: X) x Y
    simp only [List.cons_append] at this ⊢
    rw [stepsL, this, stepsL]
    rfl
theorem steps_cons (x y : Int) (r : List Int) : stepsL (x :: y :: r) = eOf x y :: stepsL (y :: r) := rfl
/-- a step is between two numbers that follow each other -/
theorem mem_steps : ∀ {L : List Int} {e : Int × Int}, e ∈ stepsL L → ∃ i x y, L[i]? = some x ∧ L[i + 1]? = some y ∧ (stepsL L)[i]? = some e ∧ e = eOf x y
  | [], e, h => by simp [stepsL] at h
  | [_], e, h => by simp [stepsL] at h
  | a :: b :: r, e, h => by
    rw [stepsL] at h
    rcases List.mem_cons.1 h with h | h
    · exact ⟨0, a, b, rfl, rfl, by rw [stepsL, h]; rfl, h⟩
    · obtain ⟨i, x, y, h1, h2, h3, h4⟩ := mem_steps h
      exact ⟨i + 1, x, y, h1, h2, h3, h4⟩
theorem steps_ends {L : List Int} {x y : Int} (h : eOf x y ∈ stepsL L) : x ∈ L ∧ y ∈ L := by
  obtain ⟨i, u, v, h1, h2, _, h4⟩ := mem_steps h
  have m1 := List.mem_of_getElem? h1
  have m2 := List.mem_of_getElem? h2
  rcases eOf_eq h4 with ⟨rfl, rfl⟩ | ⟨rfl, rfl⟩
  · exact ⟨m1, m2⟩
  · exact ⟨m2, m1⟩
/-- all numbers of a walk are connected by its steps -/
theorem walk_conn : ∀ (L : List Int) (E : Es), (∀ e ∈ stepsL L, e ∈ E) → ∀ x ∈ L, ∀ y ∈ L, Conn E x y := by
  have key : ∀ (L : List Int) (E : Es), (∀ e ∈ stepsL L, e ∈ E) → ∀ r, L.head? = some r → ∀ x ∈ L, Conn E r x := by
    intro L E
    induction L with
    | nil => intro _ r h; simp at h
    | cons a t ih =>
      intro h r hr x hx
      injection hr with hr
      subst hr
      rcases List.mem_cons.1 hx with rfl | hx
      · exact .refl
      · cases t with
        | nil => simp at hx
        | cons b t =>
          exact (conn_eOf (h _ (by rw [stepsL]; simp))).trans (ih (fun e he => h e (by rw [stepsL]; simp [he])) b rfl x hx)
  intro L E h x hx y hy
  cases L with
  | nil => simp at hx
  | cons a t => exact (key _ E h a rfl x hx).symm.trans (key _ E h a rfl y hy)

/-! ### tours again -/
def okS (S : Es) : Prop := ∀ e ∈ S, e.1 ≠ e.2
theorem okSteps_iff (L : List Int) : okSteps L ↔ okS (stepsL L) := by
  constructor
  · intro h e he
    obtain ⟨i, x, y, h1, h2, _, rfl⟩ := mem_steps he
    exact eOf_ne.2 (h i x y h1 h2)
  · intro h i x y hx hy
    exact eOf_ne.1 (h _ (List.mem_of_getElem? (stepsL_get hx hy)))
/-- the same, of the row of steps -/
structure Tr (L : List Int) : Prop where
  closed : L.head? = L.getLast?
  one : L ≠ []
  range : ∀ x ∈ L, 0 ≤ x ∧ x < 16
  ok : okS (stepsL L)
  two : ∀ e ∈ stepsL L, (stepsL L).count e = 2
  tree : (eset (stepsL L)).length + 1 = (uniq L).length
theorem two_len : ∀ {S : Es}, (∀ e ∈ S, S.count e = 2) → S.length = 2 * (eset S).length := fun {S} h => by
  obtain ⟨s1, s2⟩ := srtE_spec S
  have hb : pairsB (srtE S) = true := count_pairs _ s1 fun e he => by rw [s2.count_eq]; exact h e (s2.mem_iff.1 he)
  obtain ⟨i1, i2, i3, i4⟩ := pairs_halve _ s1 hb
  have : eset S = halve (srtE S) := sortedE_ext _ _ (eset_pair _) i1 fun e => by rw [mem_eset, i2, s2.mem_iff]
  rw [this, ← s2.length_eq]; omega
theorem nodes16 {L : List Int} (h : ∀ x ∈ L, 0 ≤ x ∧ x < 16) : (uniq L).length ≤ 16 := by
  have := nodup_len (uniq L) ((List.range 16).map fun i : Nat => (i : Int)) (uniq_nodup L) fun x hx => by
    have := h x ((mem_uniq _ _).1 hx)
    exact List.mem_map.2 ⟨x.toNat, by simp; omega, by omega⟩
  simpa using this
theorem Tr.len {L : List Int} (h : Tr L) : L.length + 1 = 2 * (uniq L).length ∧ L.length ≤ 31 := by
  have h1 := two_len h.two
  rw [stepsL_len] at h1
  have h2 := nodes16 h.range
  have h3 := h.tree
  have h4 := List.length_pos_iff.2 h.one
  omega
theorem tv_iff (L : List Int) : TV L ↔ Tr L := by
  constructor
  · rintro ⟨⟨h1, h2, h3⟩, h4, h5, h6, h7⟩
    have hne : L ≠ [] := by rintro rfl; simp at h1
    refine ⟨?_, hne, h4, (okSteps_iff L).1 h5, fun e he => h6 e (mem_eset.2 he), h7⟩
    rw [List.head?_eq_getElem?, List.getLast?_eq_getElem?, h3]
  · intro h
    refine ⟨⟨List.length_pos_iff.2 h.one, h.len.2, ?_⟩, h.range, (okSteps_iff L).2 h.ok, fun e he => h.two e (mem_eset.1 he), h.tree⟩
    have := h.closed
    rwa [List.head?_eq_getElem?, List.getLast?_eq_getElem?] at this
/-- a closed walk over the same edges as often and over the same nodes is a tour, too -/
theorem Tr.perm {L M : List Int} (h : Tr L) (hp : (stepsL M).Perm (stepsL L)) (hm : ∀ x, x ∈ M ↔ x ∈ L) (hc : M.head? = M.getLast?) (h1 : M ≠ []) : Tr M where
  closed := hc
  one := h1
  range := fun x hx => h.range x ((hm x).1 hx)
  ok := fun e he => h.ok e (hp.mem_iff.1 he)
  two := fun e he => by rw [hp.count_eq]; exact h.two e (hp.mem_iff.1 he)
  tree := by rw [uniq_ext hm, eset_ext fun e => hp.mem_iff]; exact h.tree

/-- no edge of a tour can be missed -/
theorem Tr.need {L : List Int} (h : Tr L) {e : Int × Int} (he : e ∈ stepsL L) (r : Int) : ¬ ∀ x ∈ L, Conn ((stepsL L).filter fun f => decide (f ≠ e)) x r := fun hc => by
  have hsub : ∀ x ∈ L, Conn ((eset (stepsL L)).erase e) x r := fun x hx => (hc x hx).mono fun f hf => by
    have := List.mem_filter.1 hf
    simp only [decide_eq_true_eq] at this
    exact (List.mem_erase_of_ne this.2).2 (mem_eset.2 this.1)
  have := conn_count ((eset (stepsL L)).erase e) (uniq L) [r] (uniq_nodup L) fun x hx => ⟨r, by simp, hsub x ((mem_uniq _ _).1 hx)⟩
  rw [List.length_erase_of_mem (mem_eset.2 he)] at this
  have h1 := h.tree
  have h2 := List.length_pos_of_mem (mem_eset.2 he)
  simp only [List.length_singleton] at this
  omega
theorem walk_le {L : List Int} (h : L ≠ []) : (uniq L).length ≤ (eset (stepsL L)).length + 1 := by
  cases L with
  | nil => exact absurd rfl h
  | cons a t =>
    have := conn_count (eset (stepsL (a :: t))) (uniq (a :: t)) [a] (uniq_nodup _) fun x hx => ⟨a, by simp, walk_conn (a :: t) _ (fun e he => mem_eset.2 he) x ((mem_uniq _ _).1 hx) a (by simp)⟩
    simpa using this
theorem head_mem {α : Type} {L : List α} {x : α} (h : L.head? = some x) : x ∈ L := by
  cases L with
  | nil => simp at h
  | cons a t => injection h with h; subst h; simp
theorem last_mem {α : Type} {L : List α} {x : α} (h : L.getLast? = some x) : x ∈ L := List.mem_of_getLast? h
theorem head_cons {α : Type} {L : List α} {x : α} (h : L.head? = some x) : ∃ t, L = x :: t := by
  cases L with
  | nil => simp at h
  | cons a t => injection h with h; subst h; exact ⟨t, rfl⟩
theorem last_snoc {α : Type} {L : List α} {x : α} (h : L.getLast? = some x) : ∃ t, L = t ++ [x] := by
  rw [List.getLast?_eq_some_iff] at h; exact h
/-- the steps of a walk that leaves by an edge and comes back by one -/
theorem steps_split {P B Q : List Int} {x y u v : Int} (hy : B.head? = some y) (hu : B.getLast? = some u) :
    stepsL (P ++ x :: (B ++ v :: Q)) = stepsL (P ++ [x]) ++ eOf x y :: (stepsL B ++ eOf u v :: stepsL (v :: Q)) := by
  rw [steps_shared P x]
  congr 1
  obtain ⟨t, rfl⟩ := head_cons hy
  rw [List.cons_append, steps_cons]
  congr 1
  rw [← List.cons_append]
  obtain ⟨s, hs⟩ := last_snoc hu
  rw [hs, List.append_assoc, List.singleton_append, steps_shared s u, steps_cons]
theorem getLast?_app {α : Type} (P : List α) (x : α) (Q : List α) : (P ++ x :: Q).getLast? = (x :: Q).getLast? := by
  rw [List.getLast?_append]
  cases h : (x :: Q).getLast? with
  | none => simp at h
  | some z => rfl
theorem head?_app {α : Type} (P : List α) (x : α) (Q : List α) : (P ++ x :: Q).head? = (P ++ [x]).head? := by cases P <;> rfl
theorem split_core {P B Q : List Int} {x y u v : Int} (h : Tr (P ++ x :: (B ++ v :: Q))) (hy : B.head? = some y) (hu : B.getLast? = some u) (he : eOf x y = eOf u v) :
    x = v ∧ y = u ∧ Tr (P ++ x :: Q) ∧ Tr B ∧ (∀ z ∈ B, z ∉ P ++ x :: Q) ∧ eOf x y ∉ stepsL (P ++ [x]) ∧ eOf x y ∉ stepsL B := by
  have hS := steps_split (P := P) (Q := Q) (x := x) (v := v) hy hu
  have hin : eOf x y ∈ stepsL (P ++ x :: (B ++ v :: Q)) := by rw [hS]; simp
  have hc := h.two _ hin
  have hc' := hc
  rw [hS, List.count_append, List.count_cons_self, List.count_append, ← he, List.count_cons_self] at hc
  have c1 : eOf x y ∉ stepsL (P ++ [x]) := fun m => by have := List.count_pos_iff.2 m; omega
  have c2 : eOf x y ∉ stepsL B := fun m => by have := List.count_pos_iff.2 m; omega
  have c3 : eOf x y ∉ stepsL (v :: Q) := fun m => by have := List.count_pos_iff.2 m; omega
  have hne := h.need hin
  generalize hE : (stepsL (P ++ x :: (B ++ v :: Q))).filter (fun f => decide (f ≠ eOf x y)) = E at hne
  have e1 : ∀ f ∈ stepsL (P ++ [x]), f ∈ E := fun f hf => by
    rw [← hE]; exact List.mem_filter.2 ⟨by rw [hS]; simp [hf], decide_eq_true fun e => c1 (e ▸ hf)⟩
  have e2 : ∀ f ∈ stepsL B, f ∈ E := fun f hf => by
    rw [← hE]; exact List.mem_filter.2 ⟨by rw [hS]; simp [hf], decide_eq_true fun e => c2 (e ▸ hf)⟩
  have e3 : ∀ f ∈ stepsL (v :: Q), f ∈ E := fun f hf => by
    rw [← hE]; exact List.mem_filter.2 ⟨by rw [hS]; simp [hf], decide_eq_true fun e => c3 (e ▸ hf)⟩
  have w1 := walk_conn _ _ e1
  have w2 := walk_conn _ _ e2
  have w3 := walk_conn _ _ e3
  -- the ends are one node
  obtain ⟨r, hr⟩ : ∃ r, (P ++ [x]).head? = some r := by cases P <;> exact ⟨_, rfl⟩
  have hlast : (v :: Q).getLast? = some r := by
    have := h.closed
    rw [head?_app, hr, getLast?_app, List.getLast?_cons_of_ne_nil (by simp), getLast?_app] at this
    exact this.symm
  have w13 : ∀ z ∈ v :: Q, Conn E z x := fun z hz => (w3 z hz r (last_mem hlast)).trans (w1 r (head_mem hr) x (by simp))
  have hopp : x = v ∧ y = u := by
    rcases eOf_eq he with ⟨rfl, rfl⟩ | h2
    · refine absurd (fun z hz => ?_) (hne x)
      rw [List.mem_append, List.mem_cons, List.mem_append] at hz
      rcases hz with hz | rfl | hz | hz
      · exact w1 z (by simp [hz]) x (by simp)
      · exact .refl
      · exact w2 z hz x (last_mem hu)
      · exact w13 z hz
    · exact h2
  obtain ⟨rfl, rfl⟩ := hopp
  have hd : ∀ z ∈ B, z ∉ P ++ x :: Q := fun z hz hm => by
    have hzx : Conn E z x := by
      rw [List.mem_append] at hm
      rcases hm with hm | hm
      · exact w1 z (by simp [hm]) x (by simp)
      · exact w13 z hm
    refine absurd (fun a ha => ?_) (hne x)
    rw [List.mem_append, List.mem_cons, List.mem_append] at ha
    rcases ha with ha | rfl | ha | ha
    · exact w1 a (by simp [ha]) x (by simp)
    · exact .refl
    · exact (w2 a ha z hz).trans hzx
    · exact w13 a ha
  have hSA : stepsL (P ++ x :: Q) = stepsL (P ++ [x]) ++ stepsL (x :: Q) := steps_shared P x Q
  have dS : ∀ f ∈ stepsL B, f ∉ stepsL (P ++ x :: Q) := fun f hf hm => by
    obtain ⟨i, a, b, _, _, _, rfl⟩ := mem_steps hf
    exact hd a (steps_ends hf).1 (steps_ends hm).1
  have eA : eOf x y ∉ stepsL (P ++ x :: Q) := by rw [hSA, List.mem_append]; exact fun m => m.elim c1 c3
  have hcount : ∀ f, f ≠ eOf x y → (stepsL (P ++ x :: (B ++ x :: Q))).count f = (stepsL (P ++ x :: Q)).count f + (stepsL B).count f := fun f hf => by
    rw [hS, hSA, List.count_append, List.count_cons_of_ne (fun e => hf e.symm), List.count_append, eOf_comm y x, List.count_cons_of_ne (fun e => hf e.symm), List.count_append]
    omega
  have hmem : ∀ f, f ∈ stepsL (P ++ x :: (B ++ x :: Q)) ↔ f = eOf x y ∨ f ∈ stepsL (P ++ x :: Q) ∨ f ∈ stepsL B := fun f => by
    rw [hS, hSA, eOf_comm y x]
    simp only [List.mem_append, List.mem_cons]
    constructor
    · rintro (h | h | h | h | h) <;> simp [h]
    · rintro (h | (h | h) | h) <;> simp [h]
  have hB0 : B ≠ [] := by rintro rfl; simp at hy
  have hA0 : P ++ x :: Q ≠ [] := by simp
  have kA := walk_le hA0
  have kB := walk_le hB0
  have ku : (uniq (P ++ x :: (B ++ x :: Q))).length = (uniq (P ++ x :: Q)).length + (uniq B).length := uniq_union (fun z => by
    simp only [List.mem_append, List.mem_cons]
    constructor
    · rintro (h | h | h | h | h) <;> simp [h]
    · rintro ((h | h | h) | h) <;> simp [h]) (fun z hz hb => hd z hb hz)
  have ke : (eset (stepsL (P ++ x :: (B ++ x :: Q)))).length = 1 + ((eset (stepsL (P ++ x :: Q))).length + (eset (stepsL B)).length) := by
    rw [← eset_union (L := stepsL (P ++ x :: Q) ++ stepsL B) (fun f => by simp) (fun f hf hb => dS f hb hf), eset_union (A := [eOf x y]) (B := stepsL (P ++ x :: Q) ++ stepsL B) (fun f => by rw [hmem]; simp) (by simp; exact ⟨eA, c2⟩)]
    rfl
  have kt := h.tree
  have rng : ∀ z, z ∈ P ++ x :: Q ∨ z ∈ B → 0 ≤ z ∧ z < 16 := fun z hz => h.range z (by
    simp only [List.mem_append, List.mem_cons] at hz ⊢
    rcases hz with (h | h | h) | h <;> simp [h])
  refine ⟨rfl, rfl, ⟨?_, hA0, fun z hz => rng z (.inl hz), fun f hf => h.ok f ((hmem f).2 (.inr (.inl hf))), fun f hf => ?_, by omega⟩, ⟨by rw [hy, hu], hB0, fun z hz => rng z (.inr hz), fun f hf => h.ok f ((hmem f).2 (.inr (.inr hf))), fun f hf => ?_, by omega⟩, hd, c1, c2⟩
  · rw [head?_app, getLast?_app, hr, hlast]
  · have h1 := h.two f ((hmem f).2 (.inr (.inl hf)))
    rw [hcount f (fun e => eA (e ▸ hf)), List.count_eq_zero_of_not_mem (a := f) (l := stepsL B) (fun m => dS f m hf)] at h1
    exact h1
  · have h1 := h.two f ((hmem f).2 (.inr (.inr hf)))
    rw [hcount f (fun e => c2 (e ▸ hf)), List.count_eq_zero_of_not_mem (a := f) (l := stepsL (P ++ x :: Q)) (dS f hf)] at h1
    omega
theorem list_cut {α : Type} {L : List α} {i j : Nat} {x v : α} (hij : i < j) (hi : L[i]? = some x) (hj : L[j + 1]? = some v) :
    L = L.take i ++ x :: ((L.take (j + 1)).drop (i + 1) ++ v :: L.drop (j + 2)) := by
  have h1 := (List.getElem?_eq_some_iff.1 hi)
  have h2 := (List.getElem?_eq_some_iff.1 hj)
  obtain ⟨l1, h1⟩ := h1
  obtain ⟨l2, h2⟩ := h2
  have e1 : L = L.take (j + 1) ++ v :: L.drop (j + 2) := by
    conv => lhs; rw [← List.take_append_drop (j + 1) L, List.drop_eq_getElem_cons l2, h2]
  have e2 : L.take (j + 1) = L.take i ++ x :: (L.take (j + 1)).drop (i + 1) := by
    have l3 : i < (L.take (j + 1)).length := by rw [List.length_take]; omega
    conv => lhs; rw [← List.take_append_drop i (L.take (j + 1)), List.drop_eq_getElem_cons l3, List.take_take, Nat.min_eq_left (by omega), List.getElem_take, h1]
  conv => lhs; rw [e1, e2]
  simp
theorem tour_split {L : List Int} {i j : Nat} {e : Int × Int} (h : Tr L) (hij : i < j) (hi : (stepsL L)[i]? = some e) (hj : (stepsL L)[j]? = some e) :
    ∃ x y, L[i]? = some x ∧ L[j + 1]? = some x ∧ L[i + 1]? = some y ∧ L[j]? = some y ∧ e = eOf x y ∧ Tr (L.take (i + 1) ++ L.drop (j + 2)) ∧ Tr ((L.take (j + 1)).drop (i + 1)) ∧
      (∀ z ∈ (L.take (j + 1)).drop (i + 1), z ∉ L.take (i + 1) ++ L.drop (j + 2)) ∧ L = L.take i ++ x :: ((L.take (j + 1)).drop (i + 1) ++ x :: L.drop (j + 2)) ∧ ((L.take (j + 1)).drop (i + 1)).head? = some y ∧ ((L.take (j + 1)).drop (i + 1)).getLast? = some y ∧
      e ∉ stepsL (L.take (i + 1)) ∧ e ∉ stepsL ((L.take (j + 1)).drop (i + 1)) := by
  have l1 := (List.getElem?_eq_some_iff.1 hi).1
  have l2 := (List.getElem?_eq_some_iff.1 hj).1
  rw [stepsL_len] at l1 l2
  obtain ⟨x, hx⟩ : ∃ x, L[i]? = some x := ⟨_, List.getElem?_eq_getElem (by omega)⟩
  obtain ⟨y, hy⟩ : ∃ x, L[i + 1]? = some x := ⟨_, List.getElem?_eq_getElem (by omega)⟩
  obtain ⟨u, hu⟩ : ∃ x, L[j]? = some x := ⟨_, List.getElem?_eq_getElem (by omega)⟩
  obtain ⟨v, hv⟩ : ∃ x, L[j + 1]? = some x := ⟨_, List.getElem?_eq_getElem (by omega)⟩
  have s1 := stepsL_get hx hy
  have s2 := stepsL_get hu hv
  rw [hi] at s1; injection s1 with s1
  rw [hj] at s2; injection s2 with s2
  have hc := list_cut hij hx hv
  have hB : ((L.take (j + 1)).drop (i + 1)).length = j - i := by rw [List.length_drop, List.length_take]; omega
  have hBh : ((L.take (j + 1)).drop (i + 1)).head? = some y := by
    rw [List.head?_drop, List.getElem?_take_of_lt (by omega), hy]
  have hBl : ((L.take (j + 1)).drop (i + 1)).getLast? = some u := by
    rw [List.getLast?_eq_getElem?, hB, List.getElem?_drop, List.getElem?_take_of_lt (by omega), ← hu]
    congr 1; omega
  have ht : L.take (i + 1) = L.take i ++ [x] := by rw [List.take_add_one, hx]; rfl
  obtain ⟨rfl, rfl, hA, hB, hd, n1, n2⟩ := split_core (P := L.take i) (B := (L.take (j + 1)).drop (i + 1)) (Q := L.drop (j + 2)) (x := x) (y := y) (u := u) (v := v) (hc ▸ h) hBh hBl (s1.symm.trans s2)
  refine ⟨x, y, hx, hv, hy, hu, s1, ?_, hB, ?_, hc, hBh, hBl, by rw [ht, s1]; exact n1, by rw [s1]; exact n2⟩
  · rw [ht, List.append_assoc]; exact hA
  · rw [ht, List.append_assoc]; exact hd
/-! ### linking -/
theorem link_core {P B Q : List Int} {x y : Int} (hA : Tr (P ++ x :: Q)) (hB : Tr B) (hy : B.head? = some y) (hd : ∀ z ∈ B, z ∉ P ++ x :: Q) :
    Tr (P ++ x :: (B ++ x :: Q)) ∧ stepsL (P ++ x :: (B ++ x :: Q)) = stepsL (P ++ [x]) ++ eOf x y :: (stepsL B ++ eOf x y :: stepsL (x :: Q)) ∧ eOf x y ∉ stepsL (P ++ x :: Q) ∧ eOf x y ∉ stepsL B := by
  have hu : B.getLast? = some y := by rw [← hB.closed, hy]
  have hS := steps_split (P := P) (Q := Q) (x := x) (v := x) hy hu
  rw [eOf_comm y x] at hS
  have hSA : stepsL (P ++ x :: Q) = stepsL (P ++ [x]) ++ stepsL (x :: Q) := steps_shared P x Q
  have hyB := head_mem hy
  have eA : eOf x y ∉ stepsL (P ++ x :: Q) := fun m => hd y hyB (steps_ends m).2
  have eB : eOf x y ∉ stepsL B := fun m => hd x (steps_ends m).1 (by simp)
  have dS : ∀ f ∈ stepsL B, f ∉ stepsL (P ++ x :: Q) := fun f hf hm => by
    obtain ⟨i, a, b, _, _, _, rfl⟩ := mem_steps hf
    exact hd a (steps_ends hf).1 (steps_ends hm).1
  have hmem : ∀ f, f ∈ stepsL (P ++ x :: (B ++ x :: Q)) ↔ f = eOf x y ∨ f ∈ stepsL (P ++ x :: Q) ∨ f ∈ stepsL B := fun f => by
    rw [hS, hSA]
    simp only [List.mem_append, List.mem_cons]
    constructor
    · rintro (h | h | h | h | h) <;> simp [h]
    · rintro (h | (h | h) | h) <;> simp [h]
  have hcount : ∀ f, (stepsL (P ++ x :: (B ++ x :: Q))).count f = (stepsL (P ++ x :: Q)).count f + (stepsL B).count f + if f = eOf x y then 2 else 0 := fun f => by
    rw [hS, hSA, List.count_append, List.count_cons, List.count_append, List.count_cons, List.count_append]
    by_cases h : f = eOf x y
    · subst h; simp; omega
    · have h2 : (eOf x y == f) = false := by simpa using fun e : eOf x y = f => h e.symm
      rw [if_neg h, h2]; simp; omega
  have ku : (uniq (P ++ x :: (B ++ x :: Q))).length = (uniq (P ++ x :: Q)).length + (uniq B).length := uniq_union (fun z => by
    simp only [List.mem_append, List.mem_cons]
    constructor
    · rintro (h | h | h | h | h) <;> simp [h]
    · rintro ((h | h | h) | h) <;> simp [h]) (fun z hz hb => hd z hb hz)
  have ke : (eset (stepsL (P ++ x :: (B ++ x :: Q)))).length = 1 + ((eset (stepsL (P ++ x :: Q))).length + (eset (stepsL B)).length) := by
    rw [← eset_union (L := stepsL (P ++ x :: Q) ++ stepsL B) (fun f => by simp) (fun f hf hb => dS f hb hf), eset_union (A := [eOf x y]) (B := stepsL (P ++ x :: Q) ++ stepsL B) (fun f => by rw [hmem]; simp) (by simp; exact ⟨eA, eB⟩)]
    rfl
  have ka := hA.tree
  have kb := hB.tree
  have hxy : x ≠ y := fun e => hd y hyB (by simp [e])
  refine ⟨⟨?_, by simp, fun z hz => ?_, fun f hf => ?_, fun f hf => ?_, by omega⟩, hS, eA, eB⟩
  · have := hA.closed
    rw [head?_app, getLast?_app] at this
    rw [head?_app, getLast?_app, List.getLast?_cons_of_ne_nil (by simp), getLast?_app, this]
  · simp only [List.mem_append, List.mem_cons] at hz
    rcases hz with h | h | h | h | h
    · exact hA.range z (by simp [h])
    · exact hA.range z (by simp [h])
    · exact hB.range z h
    · exact hA.range z (by simp [h])
    · exact hA.range z (by simp [h])
  · rcases (hmem f).1 hf with rfl | h | h
    · exact eOf_ne.2 hxy
    · exact hA.ok f h
    · exact hB.ok f h
  · rw [hcount]
    rcases (hmem f).1 hf with rfl | h | h
    · rw [List.count_eq_zero_of_not_mem eA, List.count_eq_zero_of_not_mem eB, if_pos rfl]
    · rw [hA.two f h, List.count_eq_zero_of_not_mem (fun m => dS f m h), if_neg (fun e : f = eOf x y => eA (by rw [← e]; exact h))]
    · rw [hB.two f h, List.count_eq_zero_of_not_mem (dS f h), if_neg (fun e : f = eOf x y => eB (by rw [← e]; exact h))]

/-! ### turning -/
theorem turn_core {X Y : List Int} {y : Int} (h : Tr (X ++ y :: Y)) : Tr ((y :: Y).dropLast ++ (X ++ [y])) ∧ (stepsL ((y :: Y).dropLast ++ (X ++ [y]))).Perm (stepsL (X ++ y :: Y)) ∧ (∀ z, z ∈ (y :: Y).dropLast ++ (X ++ [y]) ↔ z ∈ X ++ y :: Y) ∧ ((y :: Y).dropLast ++ (X ++ [y])).length = (X ++ y :: Y).length ∧ ((y :: Y).dropLast ++ (X ++ [y])).head? = some y := by
  have hc := h.closed
  rw [getLast?_app] at hc
  rcases List.eq_nil_or_concat Y with e | ⟨Y', s, e⟩
  · subst e
    rw [show ([y] : List Int).dropLast = [] from rfl, List.nil_append]
    exact ⟨h, .refl _, fun z => Iff.rfl, rfl, hc⟩
  · rw [List.concat_eq_append] at e
    subst e
    have hd : (y :: (Y' ++ [s])).dropLast = y :: Y' := by rw [← List.cons_append, List.dropLast_concat]
    rw [hd]
    have hl : (y :: (Y' ++ [s])).getLast? = some s := by rw [← List.cons_append, List.getLast?_concat]
    rw [hl] at hc
    have key : (stepsL (y :: Y' ++ (X ++ [y]))).Perm (stepsL (X ++ y :: (Y' ++ [s]))) ∧ (∀ z, z ∈ y :: Y' ++ (X ++ [y]) ↔ z ∈ X ++ y :: (Y' ++ [s])) := by
      cases X with
      | nil =>
        injection hc with hc
        subst hc
        exact ⟨.refl _, fun z => Iff.rfl⟩
      | cons r X' =>
        injection hc with hc
        subst hc
        refine ⟨?_, fun z => ?_⟩
        · rw [@List.cons_append _ r X' [y], steps_shared (y :: Y') r, steps_shared (r :: X') y]
          exact List.perm_append_comm
        · simp only [List.mem_append, List.mem_cons, List.not_mem_nil, or_false]
          constructor
          · rintro ((h | h) | (h | h) | h) <;> simp [h]
          · rintro ((h | h) | h | h | h) <;> simp [h]
    refine ⟨h.perm key.1 key.2 ?_ (by simp), key.1, key.2, by simp; omega, rfl⟩
    rw [← List.append_assoc, List.getLast?_concat]
    rfl

/-! ### what lies below a node -/
theorem tour_below {L : List Int} (h : Tr L) {v : Int} {f l : Nat} (hf : L[f]? = some v) (hff : ∀ i, i < f → L[i]? ≠ some v) (hl : L[l]? = some v) (hll : ∀ i, l < i → L[i]? ≠ some v) :
    Tr ((L.take (l + 1)).drop f) ∧ (L[0]? = some v → (L.take (l + 1)).drop f = L) := by
  have hlt := (List.getElem?_eq_some_iff.1 hf).1
  have hc := h.closed
  rw [List.head?_eq_getElem?, List.getLast?_eq_getElem?] at hc
  have hroot : L[0]? = some v → (L.take (l + 1)).drop f = L := fun h0 => by
    have : f = 0 := by
      rcases Nat.eq_zero_or_pos f with h | h
      · exact h
      · exact absurd h0 (hff 0 h)
    subst this
    have : ¬ l < L.length - 1 := fun h => hll _ h (hc ▸ h0)
    rw [List.drop_zero, List.take_of_length_le (by omega)]
  refine ⟨?_, hroot⟩
  by_cases h0 : L[0]? = some v
  · rw [hroot h0]; exact h
  · have hf0 : 0 < f := by
      rcases Nat.eq_zero_or_pos f with h | h
      · subst h; exact absurd hf h0
      · exact h
    obtain ⟨i, rfl⟩ : ∃ i, f = i + 1 := ⟨f - 1, by omega⟩
    obtain ⟨p, hp⟩ : ∃ x, L[i]? = some x := ⟨_, List.getElem?_eq_getElem (by omega)⟩
    have hs := stepsL_get hp hf
    have h2 := h.two _ (List.mem_of_getElem? hs)
    obtain ⟨j, hj, hij⟩ : ∃ j, (stepsL L)[j]? = some (eOf p v) ∧ i < j := by
      -- the second time is elsewhere
      have hsplit : stepsL L = (stepsL L).take i ++ eOf p v :: (stepsL L).drop (i + 1) := by
        obtain ⟨l1, e1⟩ := List.getElem?_eq_some_iff.1 hs
        conv => lhs; rw [← List.take_append_drop i (stepsL L), List.drop_eq_getElem_cons l1, e1]
      rw [hsplit, List.count_append, List.count_cons_self] at h2
      have hnot : eOf p v ∉ (stepsL L).take i := fun m => by
        obtain ⟨k, hk, e⟩ := List.getElem_of_mem m
        rw [List.length_take] at hk
        rw [List.getElem_take] at e
        have hk2 : (stepsL L)[k]? = some (eOf p v) := by rw [List.getElem?_eq_getElem (by omega), e]
        obtain ⟨a, ha⟩ : ∃ x, L[k]? = some x := ⟨_, List.getElem?_eq_getElem (by omega)⟩
        obtain ⟨b, hb⟩ : ∃ x, L[k + 1]? = some x := ⟨_, List.getElem?_eq_getElem (by omega)⟩
        have := stepsL_get ha hb
        rw [hk2] at this
        injection this with this
        rcases eOf_eq this with ⟨_, rfl⟩ | ⟨_, rfl⟩
        · exact hff (k + 1) (by omega) hb
        · exact hff k (by omega) ha
      rw [List.count_eq_zero_of_not_mem hnot] at h2
      have hm : eOf p v ∈ (stepsL L).drop (i + 1) := List.count_pos_iff.1 (by omega)
      obtain ⟨k, hk, e⟩ := List.getElem_of_mem hm
      rw [List.getElem_drop] at e
      rw [List.length_drop] at hk
      exact ⟨i + 1 + k, by rw [List.getElem?_eq_getElem (by omega), e], by omega⟩
    obtain ⟨x, y, h1, _, h3, h4, he, _, hB, hd, _⟩ := tour_split h hij hs hj
    rw [hf] at h3; injection h3 with h3; subst h3
    have : l = j := by
      have g1 : ¬ l < j := fun h => hll j h h4
      by_cases g2 : j < l
      · exfalso
        refine hd v (List.mem_iff_getElem?.2 ⟨0, ?_⟩) (List.mem_append_right _ (List.mem_iff_getElem?.2 ⟨l - (j + 2), ?_⟩))
        · rw [List.getElem?_drop, List.getElem?_take_of_lt (by omega)]; exact hf
        · by_cases g3 : l = j + 1
          · subst g3
            exfalso
            -- v twice in a row
            exact h.ok _ (List.mem_of_getElem? (stepsL_get h4 hl)) (by unfold eOf; simp)
          · rw [List.getElem?_drop, ← hl]; congr 1; omega
      · omega
    subst this
    exact hB

/-! ### how often a node is visited -/
def touch (v : Int) (e : Int × Int) : Bool := e.1 == v || e.2 == v
theorem touch_eOf (v x y : Int) (h : x ≠ y) : (if touch v (eOf x y) = true then 1 else 0) = (if x == v then 1 else 0) + (if y == v then 1 else 0) := by
  unfold touch
  have : ((eOf x y).1 == v || (eOf x y).2 == v) = ((x == v) || (y == v)) := by
    rcases @eOf_ends x y with ⟨h1, h2⟩ | ⟨h1, h2⟩
    · rw [h1, h2]
    · rw [h1, h2, Bool.or_comm]
  rw [this]
  by_cases h1 : x = v <;> by_cases h2 : y = v <;> simp [h1, h2]
  exact h (h1.trans h2.symm)
theorem steps_touch : ∀ (L : List Int) (v : Int), okS (stepsL L) → (stepsL L).countP (touch v) = L.dropLast.count v + L.tail.count v
  | [], v, _ => rfl
  | [_], v, _ => rfl
  | x :: y :: r, v, h => by
    have ih := steps_touch (y :: r) v fun e he => h e (by rw [stepsL]; simp [he])
    have hxy := eOf_ne.1 (h (eOf x y) (by rw [stepsL]; simp))
    rw [stepsL, List.countP_cons, ih, touch_eOf v x y hxy, show (x :: y :: r).dropLast = x :: (y :: r).dropLast from rfl, @List.count_cons _ _ _ x (y :: r).dropLast, List.tail_cons, List.tail_cons, @List.count_cons _ _ _ y r]
    omega
theorem half_count : ∀ (S : Es) (p : Int × Int → Bool), pairsB S = true → S.countP p = 2 * (halve S).countP p
  | [], p, _ => rfl
  | [a], p, h => by simp [pairsB] at h
  | a :: b :: r, p, h => by
    rw [pairsB, Bool.and_eq_true, Bool.and_eq_true, decide_eq_true_eq] at h
    obtain ⟨rfl, _, h2⟩ := h
    rw [halve, List.countP_cons, List.countP_cons, List.countP_cons, half_count r p h2]
    omega
theorem two_count {S : Es} (h : ∀ e ∈ S, S.count e = 2) (p : Int × Int → Bool) : S.countP p = 2 * (eset S).countP p := by
  obtain ⟨s1, s2⟩ := srtE_spec S
  have hb : pairsB (srtE S) = true := count_pairs _ s1 fun e he => by rw [s2.count_eq]; exact h e (s2.mem_iff.1 he)
  obtain ⟨i1, i2, i3, i4⟩ := pairs_halve _ s1 hb
  have : eset S = halve (srtE S) := sortedE_ext _ _ (eset_pair _) i1 fun e => by rw [mem_eset, i2, s2.mem_iff]
  rw [this, ← s2.countP_eq]; exact half_count _ p hb
theorem tour_times {L : List Int} (h : Tr L) (v : Int) : L.count v = (eset (stepsL L)).countP (touch v) + if L.head? = some v then 1 else 0 := by
  have h1 := steps_touch L v h.ok
  rw [two_count h.two] at h1
  obtain ⟨r, hr⟩ : ∃ r, L.head? = some r := by cases h2 : L with | nil => exact absurd h2 h.one | cons a t => exact ⟨a, rfl⟩
  have hl : L.getLast? = some r := by rw [← h.closed, hr]
  obtain ⟨t, ht⟩ := head_cons hr
  obtain ⟨s, hs⟩ := last_snoc hl
  have c1 : L.count v = (if r == v then 1 else 0) + L.tail.count v := by rw [ht, List.count_cons]; simp; omega
  have c2 : L.count v = L.dropLast.count v + if r == v then 1 else 0 := by rw [hs, List.count_append, List.dropLast_concat, List.count_singleton]
  have c3 : (if L.head? = some v then 1 else 0) = if r == v then 1 else 0 := by rw [hr]; by_cases e : r = v <;> simp [e]
  rw [c3]
  omega
/-! ### depths -/
theorem eset_take_len1 {L : List Int} {k : Nat} {x z : Int} (hx : L[k]? = some x) (hz : L[k + 1]? = some z) :
    (eset (stepsL (L.take (k + 2)))).length = (eset (stepsL (L.take (k + 1)))).length + if eOf x z ∈ stepsL (L.take (k + 1)) then 0 else 1 := by
  rw [stepsL_take hx hz, eset_snoc]
  unfold addE
  by_cases h : eOf x z ∈ stepsL (L.take (k + 1))
  · rw [if_pos (mem_eset.2 h), if_pos h]; rfl
  · rw [if_neg (fun m => h (mem_eset.1 m)), if_neg h, putL_length]
theorem gap_mono {L : List Int} (k : Nat) : ∀ m, k + m < L.length →
    (eset (stepsL (L.take (k + 1)))).length + (uniq (L.take (k + m + 1))).length ≤ (eset (stepsL (L.take (k + m + 1)))).length + (uniq (L.take (k + 1))).length
  | 0, _ => Nat.le_refl _
  | m + 1, h => by
    have ih := gap_mono (L := L) k m (by omega)
    obtain ⟨x, hx⟩ : ∃ x, L[k + m]? = some x := ⟨_, List.getElem?_eq_getElem (by omega)⟩
    obtain ⟨z, hz⟩ : ∃ x, L[k + m + 1]? = some x := ⟨_, List.getElem?_eq_getElem (by omega)⟩
    have h1 := eset_take_len1 hx hz
    have h2 := uniq_take hz
    rw [show k + (m + 1) + 1 = k + m + 2 by omega, h1, h2]
    by_cases hm : z ∈ L.take (k + m + 1)
    · rw [if_pos hm]; split <;> omega
    · rw [if_neg hm, if_neg fun h => hm (steps_ends h).2]; omega
theorem tight {L : List Int} (h : Tr L) {k : Nat} {x z : Int} (hx : L[k]? = some x) (hz : L[k + 1]? = some z) (hm : z ∈ L.take (k + 1)) : eOf x z ∈ stepsL (L.take (k + 1)) := by
  refine Classical.byContradiction fun hn => ?_
  have hl := (List.getElem?_eq_some_iff.1 hz).1
  have h1 := eset_take_len1 hx hz
  have h2 := uniq_take hz
  rw [if_neg hn] at h1
  rw [if_pos hm] at h2
  have h3 := walk_le (L := L.take (k + 1)) (by intro e; have := congrArg List.length e; rw [List.length_take, List.length_nil] at this; omega)
  have h4 := gap_mono (L := L) (k + 1) (L.length - 1 - (k + 1)) (by omega)
  rw [show k + 1 + 1 = k + 2 by rfl] at h2 h4
  rw [show k + 1 + (L.length - 1 - (k + 1)) + 1 = L.length by omega, List.take_length] at h4
  have := h.tree
  omega
/-- a step to a node that was seen goes back along the edge by which the walk came -/
theorem tour_back {L : List Int} (h : Tr L) {k : Nat} {x z : Int} (hx : L[k]? = some x) (hz : L[k + 1]? = some z) (hm : z ∈ L.take (k + 1)) :
    ∃ p, p < k ∧ L[p]? = some z ∧ L[p + 1]? = some x ∧ ∀ i, i < p + 1 → L[i]? ≠ some x := by
  have ht := tight h hx hz hm
  have hl := (List.getElem?_eq_some_iff.1 hz).1
  obtain ⟨i, u, v, _, _, hi, _⟩ := mem_steps ht
  have hi2 : (stepsL L)[i]? = some (eOf x z) ∧ i < k := by
    have hik := (List.getElem?_eq_some_iff.1 hi).1
    rw [stepsL_len, List.length_take] at hik
    obtain ⟨a, ha⟩ : ∃ x, L[i]? = some x := ⟨_, List.getElem?_eq_getElem (by omega)⟩
    obtain ⟨b, hb⟩ : ∃ x, L[i + 1]? = some x := ⟨_, List.getElem?_eq_getElem (by omega)⟩
    have ha' : (L.take (k + 1))[i]? = some a := by rw [List.getElem?_take_of_lt (by omega), ha]
    have hb' : (L.take (k + 1))[i + 1]? = some b := by rw [List.getElem?_take_of_lt (by omega), hb]
    have h1 := stepsL_get ha' hb'
    rw [hi] at h1; injection h1 with h1
    rw [h1]
    exact ⟨stepsL_get ha hb, by omega⟩
  obtain ⟨X, Y, h1, h2, h3, h4, h5, _, _, _, _, _, _, h6, _⟩ := tour_split h hi2.2 hi2.1 (stepsL_get hx hz)
  rw [hz] at h2; injection h2 with h2; subst h2
  rw [hx] at h4; injection h4 with h4; subst h4
  refine ⟨i, hi2.2, h1, h3, fun j hj hj2 => ?_⟩
  have := tight h h1 h3 (List.mem_iff_getElem?.2 ⟨j, by rw [List.getElem?_take_of_lt hj, hj2]⟩)
  rw [eOf_comm] at this
  exact h6 this
def stkStep (s : List Int) (x : Int) : List Int := if 1 < s.length ∧ s[s.length - 2]? = some x then s.dropLast else s ++ [x]
/-- the way from the root -/
def stk (L : List Int) : List Int := L.foldl stkStep []
theorem stk_take {L : List Int} {k : Nat} {x : Int} (hx : L[k]? = some x) : stk (L.take (k + 1)) = stkStep (stk (L.take k)) x := by
  have : L.take (k + 1) = L.take k ++ [x] := by rw [List.take_add_one, hx]; rfl
  rw [this]; unfold stk; rw [List.foldl_append]; rfl
theorem stkStep_len (s : List Int) (x : Int) : (stkStep s x).length = s.length + 1 ∨ (1 < s.length ∧ (stkStep s x).length + 1 = s.length) := by
  unfold stkStep
  split
  · rename_i h; rw [List.length_dropLast]; omega
  · simp
theorem stk_len_le (L : List Int) : ∀ k, (stk (L.take k)).length ≤ k
  | 0 => by simp [stk]
  | k + 1 => by
    by_cases h : k < L.length
    · rw [stk_take (List.getElem?_eq_getElem h)]
      have := stk_len_le L k
      rcases stkStep_len (stk (L.take k)) L[k] with h | h <;> omega
    · have := stk_len_le L k
      rw [List.take_of_length_le (by omega)]
      rw [List.take_of_length_le (by omega)] at this
      omega
structure StkInv (L : List Int) (k : Nat) : Prop where
  one : 1 ≤ (stk (L.take (k + 1))).length
  last : (stk (L.take (k + 1)))[(stk (L.take (k + 1))).length - 1]? = L[k]?
  all : ∀ j x, (stk (L.take (k + 1)))[j]? = some x → ∃ p, p ≤ k ∧ L[p]? = some x ∧ (∀ i, i < p → L[i]? ≠ some x) ∧ (stk (L.take (p + 1))).length = j + 1 ∧ (j = 0 → p = 0) ∧ (0 < j → 0 < p ∧ (stk (L.take (k + 1)))[j - 1]? = L[p - 1]?)
theorem stk_one {L : List Int} {x : Int} (h : L[0]? = some x) : stk (L.take 1) = [x] := by
  rw [stk_take h]; rfl
theorem first_uniq {L : List Int} {x : Int} {p q : Nat} (h1 : L[p]? = some x) (h2 : ∀ i, i < p → L[i]? ≠ some x) (h3 : L[q]? = some x) (h4 : ∀ i, i < q → L[i]? ≠ some x) : p = q := by
  rcases Nat.lt_trichotomy p q with h | h | h
  · exact absurd h1 (h4 p h)
  · exact h
  · exact absurd h3 (h2 q h)
/-- what one more place brings -/
theorem stk_next {L : List Int} (h : Tr L) {k : Nat} {x z : Int} (hx : L[k]? = some x) (hz : L[k + 1]? = some z) (hi : StkInv L k) :
    (z ∉ L.take (k + 1) ∧ stk (L.take (k + 2)) = stk (L.take (k + 1)) ++ [z]) ∨
    (z ∈ L.take (k + 1) ∧ 1 < (stk (L.take (k + 1))).length ∧ (stk (L.take (k + 1)))[(stk (L.take (k + 1))).length - 2]? = some z ∧ stk (L.take (k + 2)) = (stk (L.take (k + 1))).dropLast) := by
  obtain ⟨h1, h2, h3⟩ := hi
  have hs := stk_take hz
  rw [hs]
  generalize stk (L.take (k + 1)) = s at *
  by_cases hm : z ∈ L.take (k + 1)
  · obtain ⟨p, hp, hpz, hpx, hpf⟩ := tour_back h hx hz hm
    obtain ⟨q, hq, hqx, hqf, _, hq0, hq1⟩ := h3 (s.length - 1) x (by rw [h2, hx])
    have e := first_uniq hqx hqf hpx hpf
    have hs1 : 0 < s.length - 1 := by
      rcases Nat.eq_zero_or_pos (s.length - 1) with h | h
      · have := hq0 h; omega
      · exact h
    have g := (hq1 hs1).2
    rw [e, Nat.add_sub_cancel, hpz, show s.length - 1 - 1 = s.length - 2 by omega] at g
    exact .inr ⟨hm, by omega, g, by unfold stkStep; rw [if_pos ⟨by omega, g⟩]⟩
  · refine .inl ⟨hm, ?_⟩
    unfold stkStep
    rw [if_neg]
    rintro ⟨g1, g2⟩
    obtain ⟨q, hq, hqx, _⟩ := h3 _ _ g2
    exact hm (List.mem_iff_getElem?.2 ⟨q, by rw [List.getElem?_take_of_lt (by omega), hqx]⟩)
theorem stk_inv {L : List Int} (h : Tr L) : ∀ k, k < L.length → StkInv L k
  | 0, hk => by
    obtain ⟨x, hx⟩ : ∃ x, L[0]? = some x := ⟨_, List.getElem?_eq_getElem hk⟩
    have hs := stk_one hx
    refine ⟨by rw [hs]; simp, by rw [hs, hx]; rfl, fun j y hj => ?_⟩
    rw [hs] at hj
    match j with
    | 0 => injection hj with hj; subst hj; exact ⟨0, Nat.le_refl _, hx, fun i hi => by omega, by rw [hs]; rfl, fun _ => rfl, fun h => by omega⟩
    | j + 1 => simp at hj
  | k + 1, hk => by
    have ih := stk_inv h k (by omega)
    obtain ⟨x, hx⟩ : ∃ x, L[k]? = some x := ⟨_, List.getElem?_eq_getElem (by omega)⟩
    obtain ⟨z, hz⟩ : ∃ x, L[k + 1]? = some x := ⟨_, List.getElem?_eq_getElem hk⟩
    have hn := stk_next h hx hz ih
    obtain ⟨h1, h2, h3⟩ := ih
    rcases hn with ⟨hm, e⟩ | ⟨hm, hlt, hlast, e⟩
    · have hl : (stk (L.take (k + 2))).length = (stk (L.take (k + 1))).length + 1 := by rw [e]; simp
      refine ⟨by rw [show k + 1 + 1 = k + 2 by rfl]; omega, ?_, fun j y hj => ?_⟩
      · rw [show k + 1 + 1 = k + 2 by rfl, hl, e, Nat.add_sub_cancel, List.getElem?_append_right (Nat.le_refl _), Nat.sub_self, hz]; rfl
      · rw [show k + 1 + 1 = k + 2 by rfl, e] at hj ⊢
        by_cases hj2 : j < (stk (L.take (k + 1))).length
        · rw [List.getElem?_append_left hj2] at hj
          obtain ⟨p, g1, g2, g3, g4, g5, g6⟩ := h3 j y hj
          exact ⟨p, by omega, g2, g3, g4, g5, fun h0 => ⟨(g6 h0).1, by rw [List.getElem?_append_left (by omega)]; exact (g6 h0).2⟩⟩
        · have hj3 : j = (stk (L.take (k + 1))).length := by
            have := (List.getElem?_eq_some_iff.1 hj).1
            simp at this; omega
          subst hj3
          rw [List.getElem?_append_right (Nat.le_refl _), Nat.sub_self] at hj
          injection hj with hj
          subst hj
          refine ⟨k + 1, Nat.le_refl _, hz, fun i hi hi2 => hm (List.mem_iff_getElem?.2 ⟨i, by rw [List.getElem?_take_of_lt hi, hi2]⟩), by rw [show k + 1 + 1 = k + 2 by rfl, hl], fun h => by omega, fun _ => ⟨by omega, ?_⟩⟩
          rw [List.getElem?_append_left (by omega), h2, Nat.add_sub_cancel]
    · have hl : (stk (L.take (k + 2))).length = (stk (L.take (k + 1))).length - 1 := by rw [e, List.length_dropLast]
      have hget : ∀ j, j < (stk (L.take (k + 1))).length - 1 → (stk (L.take (k + 2)))[j]? = (stk (L.take (k + 1)))[j]? := fun j hj => by
        rw [e, List.dropLast_eq_take, List.getElem?_take_of_lt hj]
      refine ⟨by rw [show k + 1 + 1 = k + 2 by rfl, hl]; omega, ?_, fun j y hj => ?_⟩
      · rw [show k + 1 + 1 = k + 2 by rfl, hl, hget _ (by omega), hz, ← hlast]; congr 1
      · rw [show k + 1 + 1 = k + 2 by rfl] at hj ⊢
        have hj2 := (List.getElem?_eq_some_iff.1 hj).1
        rw [hl] at hj2
        rw [hget _ hj2] at hj
        obtain ⟨p, g1, g2, g3, g4, g5, g6⟩ := h3 j y hj
        exact ⟨p, by omega, g2, g3, g4, g5, fun h0 => ⟨(g6 h0).1, by rw [hget _ (by omega)]; exact (g6 h0).2⟩⟩
def depN (L : List Int) (k : Nat) : Nat := (stk (L.take (k + 1))).length - 1
def depL (L : List Int) : List Int := (List.range L.length).map fun k => (depN L k : Int)
theorem depL_len (L : List Int) : (depL L).length = L.length := by simp [depL]
theorem depL_get {L : List Int} {k : Nat} (h : k < L.length) : (depL L)[k]? = some (depN L k : Int) := by simp [depL, h]
theorem depN_le (L : List Int) (k : Nat) : depN L k ≤ k := by have := stk_len_le L (k + 1); unfold depN; omega
theorem depN_zero (L : List Int) : depN L 0 = 0 := by have := depN_le L 0; omega
theorem depN_seen {L : List Int} (h : Tr L) {k f : Nat} {x : Int} (hx : L[k]? = some x) (hf : L[f]? = some x) (hff : ∀ i, i < f → L[i]? ≠ some x) : depN L k = depN L f := by
  obtain ⟨h1, h2, h3⟩ := stk_inv h k (List.getElem?_eq_some_iff.1 hx).1
  obtain ⟨p, _, g2, g3, g4, _⟩ := h3 _ x (by rw [h2, hx])
  rw [first_uniq g2 g3 hf hff] at g4
  unfold depN
  omega
theorem depN_new {L : List Int} (h : Tr L) {k : Nat} {z : Int} (hz : L[k + 1]? = some z) (hff : ∀ i, i < k + 1 → L[i]? ≠ some z) : depN L (k + 1) = depN L k + 1 := by
  have hl := (List.getElem?_eq_some_iff.1 hz).1
  have hi := stk_inv h k (by omega)
  rcases stk_next h (List.getElem?_eq_getElem (by omega)) hz hi with ⟨_, e⟩ | ⟨hm, _⟩
  · unfold depN
    rw [show k + 1 + 1 = k + 2 by rfl, e]
    have := hi.one
    simp; omega
  · obtain ⟨i, hi⟩ := List.mem_iff_getElem?.1 hm
    have h1 := (List.getElem?_eq_some_iff.1 hi).1
    rw [List.length_take] at h1
    rw [List.getElem?_take_of_lt (by omega)] at hi
    exact absurd hi (hff i (by omega))
theorem depN_step {L : List Int} (h : Tr L) {k : Nat} (hk : k + 1 < L.length) : depN L (k + 1) = depN L k + 1 ∨ depN L k = depN L (k + 1) + 1 := by
  have hi := stk_inv h k (by omega)
  have h1 := hi.one
  rcases stk_next h (List.getElem?_eq_getElem (by omega)) (List.getElem?_eq_getElem hk) hi with ⟨_, e⟩ | ⟨_, h2, _, e⟩
  · left; unfold depN; rw [show k + 1 + 1 = k + 2 by rfl, e]; simp; omega
  · right; unfold depN; rw [show k + 1 + 1 = k + 2 by rfl, e, List.length_dropLast]; omega
theorem depN_root {L : List Int} (h : Tr L) {k : Nat} {x : Int} (hx : L[k]? = some x) : depN L k = 0 ↔ L[0]? = some x := by
  obtain ⟨h1, h2, h3⟩ := stk_inv h k (List.getElem?_eq_some_iff.1 hx).1
  constructor
  · intro h0
    unfold depN at h0
    obtain ⟨p, _, g2, _, _, g5, _⟩ := h3 _ x (by rw [h2, hx])
    rw [← g2, g5 h0]
  · intro h0
    rw [depN_seen h hx h0 (fun i hi => by omega), depN_zero]
end Go.Proofs.Ytbceoigmcomlbaa
