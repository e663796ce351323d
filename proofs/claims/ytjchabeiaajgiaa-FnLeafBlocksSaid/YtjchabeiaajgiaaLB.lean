/- Plain law: each branch at a node holds a block with at most one cut node; so there are leaves, and two where a node is cut. No program in sight. -/
import Derived.Test.YtjchabeiaajgiaaNP
import Derived.Test.YtjchabeiaajgiaaY3
namespace Go.Proofs.Ytjchabeiaajgiaa
open Go.RowKit set_option linter.unusedVariables false set_option linter.unusedSimpArgs false

section
variable {n : Nat} {es : Es}
theorem alone_ne {v x y : Int} (h : Adj (aloneL es v) x y) : x ≠ v ∧ y ≠ v := by
  rcases h with h | h <;> · have := (List.mem_filter.1 h).2; simp at this; omega
theorem alone_conn_ne {v x y : Int} (h : Conn (aloneL es v) x y) (hx : x ≠ v) : y ≠ v := by
  induction h with
  | refl => exact hx
  | step _ a _ => exact (alone_ne a).2
theorem alone_mem {v : Int} {e : Int × Int} (he : e ∈ es) (h1 : e.1 ≠ v) (h2 : e.2 ≠ v) : e ∈ aloneL es v := List.mem_filter.2 ⟨he, by simp [h1, h2]⟩
theorem alone_adj {v x y : Int} (h : Adj es x y) (hx : x ≠ v) (hy : y ≠ v) : Adj (aloneL es v) x y := h.imp (fun h => alone_mem h hx hy) (fun h => alone_mem h hy hx)
/-- an edge that touches what hangs on w without v -/
def Tch (es : Es) (v w : Int) (e : Int × Int) : Prop := Conn (aloneL es v) w e.1 ∨ Conn (aloneL es v) w e.2
theorem Tch.of_end {v w u : Int} {e : Int × Int} (hu : u = e.1 ∨ u = e.2) (c : Conn (aloneL es v) w u) : Tch es v w e := by
  rcases hu with rfl | rfl
  · exact .inl c
  · exact .inr c
theorem Tch.at {v w u : Int} {e : Int × Int} (h : Tch es v w e) (hwv : w ≠ v) (he : e ∈ es) (hu : u = e.1 ∨ u = e.2) (huv : u ≠ v) : Conn (aloneL es v) w u := by
  rcases h with h | h
  · rcases hu with rfl | rfl
    · exact h
    · exact h.step (.inl (alone_mem he (alone_conn_ne h hwv) huv))
  · rcases hu with rfl | rfl
    · exact h.step (.inr (alone_mem he huv (alone_conn_ne h hwv)))
    · exact h
theorem Tch.cyc (ho : EdOk n es) {v w : Int} (hwv : w ≠ v) {e f : Int × Int} (he : e ∈ es) (hf : f ∈ es) (hne : e ≠ f) (h : cyc n es e f = true) (ht : Tch es v w e) : Tch es v w f := by
  have he' := ho e he
  have hf' := ho f hf
  cases hc : com e f with
  | none => rw [cyc_none hc] at h; cases h
  | some p =>
    obtain ⟨u, x, y⟩ := p
    rw [cyc_some hc] at h
    obtain ⟨h1, h2, h3, h4, h5, h6⟩ := oth_of_com hne ⟨he'.1, he'.2.1⟩ ⟨hf'.1, hf'.2.1⟩ hc
    obtain ⟨g1, g2, g3, _⟩ := oth_of_com (Ne.symm hne) ⟨hf'.1, hf'.2.1⟩ ⟨he'.1, he'.2.1⟩ (com_symm hne ⟨he'.1, he'.2.1⟩ ⟨hf'.1, hf'.2.1⟩ hc)
    have ex : x = e.1 ∨ x = e.2 := by rcases oth_cases h1 he'.2.1 with ⟨_, a⟩ | ⟨_, a⟩ <;> rw [h2, a] <;> simp
    have ey : y = f.1 ∨ y = f.2 := by rcases oth_cases g1 hf'.2.1 with ⟨_, a⟩ | ⟨_, a⟩ <;> rw [g2, a] <;> simp
    have xu : x ≠ u := by rcases oth_cases h1 he'.2.1 with ⟨a, b⟩ | ⟨a, b⟩ <;> rw [h2, b, a] <;> omega
    by_cases huv : u = v
    · subst huv
      have rx : 0 ≤ x ∧ x < n := by omega
      have ry : 0 ≤ y ∧ y < n := by omega
      have c := (connB_of (ho.inR.sub aloneL_sub) rx ry).1 h
      exact .of_end ey ((ht.at hwv he ex xu).trans c)
    · exact .of_end g1 (ht.at hwv he h1 huv)
theorem Tch.block (ho : EdOk n es) (hd : es.Nodup) {v w : Int} (hwv : w ≠ v) {i : Int} {k : Int} (c : Conn (cycA n es) i k) (hi : ∀ (j : Nat) e, i = j → es[j]? = some e → Tch es v w e) : ∀ (j : Nat) e, k = j → es[j]? = some e → Tch es v w e := by
  have key : ∀ (p q : Nat) (e f : Int × Int), q < p → es[p]? = some e → es[q]? = some f → Go.Proofs.Ytjchabeiaajgiaa.cyc n es e f = true → (Tch es v w e ↔ Tch es v w f) := fun p q e f hqp hp hq hcy => by
    have hne : e ≠ f := fun h => by have := nodup_idx hd (h ▸ hp) hq; omega
    have he := List.mem_of_getElem? hp
    have hf := List.mem_of_getElem? hq
    have he' := ho e he
    have hf' := ho f hf
    exact ⟨Tch.cyc ho hwv he hf hne hcy, Tch.cyc ho hwv hf he (Ne.symm hne) (cyc_symm hne ⟨he'.1, he'.2.1⟩ ⟨hf'.1, hf'.2.1⟩ hcy)⟩
  have get : ∀ p : Nat, p < es.length → ∃ e, es[p]? = some e := fun p h => ⟨_, List.getElem?_eq_getElem h⟩
  induction c with
  | refl => exact hi
  | @step y z _ a ih =>
    intro j f hj hf
    rcases a with a | a
    · obtain ⟨p, q, hpq, heq, hcy⟩ := cycE_mem a
      simp at heq
      obtain ⟨rfl, h2⟩ := heq
      obtain rfl : j = q := by omega
      obtain ⟨e, hp⟩ := get p (by omega)
      rw [hp, hf] at hcy
      exact (key p j e f (by omega) hp hf hcy).1 (ih p e rfl hp)
    · obtain ⟨p, q, hpq, heq, hcy⟩ := cycE_mem a
      simp at heq
      obtain ⟨h2, rfl⟩ := heq
      obtain rfl : j = p := by omega
      obtain ⟨e, hq⟩ := get q (by omega)
      rw [hf, hq] at hcy
      exact (key j q f e (by omega) hf hq hcy).2 (ih q e rfl hq)
/-- how many nodes hang on w without v -/
noncomputable def hang (n : Nat) (es : Es) (v w : Int) : Nat := (List.range n).countP fun (i : Nat) => connB n (aloneL es v) w i
theorem hang_lt (hr : InR n es) {v w v' w' u : Int} (hw : 0 ≤ w ∧ w < n) (hw' : 0 ≤ w' ∧ w' < n) (hs : ∀ z, Conn (aloneL es v') w' z → Conn (aloneL es v) w z) (hu : 0 ≤ u ∧ u < n) (h1 : Conn (aloneL es v) w u) (h2 : ¬ Conn (aloneL es v') w' u) : hang n es v' w' < hang n es v w := by
  have r : ∀ v, InR n (aloneL es v) := fun v => hr.sub aloneL_sub
  unfold hang
  have hle : ∀ i ∈ List.range n, connB n (aloneL es v') w' (i : Nat) = true → connB n (aloneL es v) w (i : Nat) = true := fun i hi h => by
    have hi := List.mem_range.1 hi
    rw [connB_of (r _) hw' ⟨by omega, by omega⟩] at h
    rw [connB_of (r _) hw ⟨by omega, by omega⟩]
    exact hs _ h
  have hun : u.toNat < n := by omega
  have eu : ((u.toNat : Nat) : Int) = u := by omega
  have q1 : connB n (aloneL es v) w (u.toNat : Nat) = true := by rw [eu, connB_of (r _) hw hu]; exact h1
  have q2 : connB n (aloneL es v') w' (u.toNat : Nat) = false := by rw [eu, Bool.eq_false_iff]; intro h; exact h2 ((connB_of (r _) hw' hu).1 h)
  have gen : ∀ (l : List Nat) (p q : Nat → Bool) (x : Nat), x ∈ l → q x = true → p x = false → (∀ i ∈ l, p i = true → q i = true) → l.countP p < l.countP q := by
    intro l p q x
    induction l with
    | nil => intro h; simp at h
    | cons a l ih =>
      intro hx hq hp hm
      have hm' : ∀ i ∈ l, p i = true → q i = true := fun i hi => hm i (by simp [hi])
      have mono : l.countP p ≤ l.countP q := List.countP_mono_left hm'
      rw [List.countP_cons, List.countP_cons]
      rcases List.mem_cons.1 hx with rfl | hx
      · simp [hp, hq]; omega
      · have := ih hx hq hp hm'
        have ha := hm a (by simp)
        by_cases hpa : p a = true
        · simp [hpa, ha hpa]; omega
        · simp [hpa]; omega
  exact gen _ _ _ _ (List.mem_range.2 hun) q1 q2 hle
theorem two_of_filter {l : List Int} (hs : l.Pairwise (· < ·)) {p : Int → Bool} (h : ¬ (l.filter p).length ≤ 1) (v : Int) : ∃ u ∈ l, p u = true ∧ u ≠ v := by
  have hs2 := hs.filter p
  have hm : ∀ x ∈ l.filter p, x ∈ l ∧ p x = true := fun x hx => List.mem_filter.1 hx
  generalize l.filter p = m at *
  match m with
  | [] => simp at h
  | [x] => simp at h
  | x :: y :: s =>
    have hxy : x < y := (List.pairwise_cons.1 hs2).1 y (by simp)
    by_cases e : x = v
    · exact ⟨y, (hm y (by simp)).1, (hm y (by simp)).2, by omega⟩
    · exact ⟨x, (hm x (by simp)).1, (hm x (by simp)).2, e⟩
theorem next_adj (ho : EdOk n es) {v y : Int} : y ∈ nextL n es v ↔ Adj es v y := by
  rw [mem_nextL]
  constructor
  · rintro ⟨h0, h1, h2, h3⟩
    rcases Int.lt_or_lt_of_ne h2 with h | h
    · rw [Int.min_eq_left (by omega), Int.max_eq_right (by omega)] at h3; exact .inr h3
    · rw [Int.min_eq_right (by omega), Int.max_eq_left (by omega)] at h3; exact .inl h3
  · rintro (h | h)
    · have := ho _ h
      simp only at this
      rw [Int.min_eq_right (by omega), Int.max_eq_left (by omega)]
      exact ⟨by omega, by omega, by omega, h⟩
    · have := ho _ h
      simp only at this
      rw [Int.min_eq_left (by omega), Int.max_eq_right (by omega)]
      exact ⟨by omega, by omega, by omega, h⟩
theorem adj_ne (ho : EdOk n es) {x y : Int} (h : Adj es x y) : x ≠ y := by
  rcases h with h | h <;> · have := ho _ h; simp only at this; omega
/-- two neighbours of a cut node, apart without it -/
theorem cut_two (ho : EdOk n es) {v : Int} (h : cutB n es v = true) : ∃ x y, Adj es v x ∧ Adj es v y ∧ ¬ Conn (aloneL es v) x y := by
  unfold cutB at h
  rw [List.any_eq_true] at h
  obtain ⟨y, hy, h⟩ := h
  have hl : 0 < (nextL n es v).length := List.length_pos_of_mem hy
  have h0 : (nextL n es v)[0]? = some (nextL n es v)[0] := List.getElem?_eq_getElem hl
  rw [h0] at h
  have hx : (nextL n es v)[0] ∈ nextL n es v := List.getElem_mem hl
  generalize (nextL n es v)[0] = x at *
  have bx := mem_nextL.1 hx
  have by' := mem_nextL.1 hy
  refine ⟨x, y, (next_adj ho).1 hx, (next_adj ho).1 hy, fun c => ?_⟩
  rw [show (some x).getD 0 = x from rfl, (connB_of (ho.inR.sub aloneL_sub) ⟨bx.1, bx.2.1⟩ ⟨by'.1, by'.2.1⟩).2 c] at h
  simp at h
/-- each branch holds a leaf -/
theorem leaf_in (ho : EdOk n es) (hd : es.Nodup) : ∀ (m : Nat) (v w : Int), Adj es v w → hang n es v w ≤ m → ∃ j : Nat, (blkL n es)[j]? = some (j : Int) ∧ leafB n es (blkAt (blkL n es) es j) = true ∧ ∀ e ∈ blkAt (blkL n es) es j, Tch es v w e
  | m, v, w, ha, hm => by
    have hwv : w ≠ v := (adj_ne ho ha).symm
    have hb := ho.inR.adj ha
    obtain ⟨e, he, hev, hew⟩ : ∃ e ∈ es, (v = e.1 ∨ v = e.2) ∧ (w = e.1 ∨ w = e.2) := by
      rcases ha with h | h
      · exact ⟨_, h, .inl rfl, .inr rfl⟩
      · exact ⟨_, h, .inr rfl, .inl rfl⟩
    obtain ⟨i, hi⟩ := List.mem_iff_getElem?.1 he
    have hil : i < es.length := (List.getElem?_eq_some_iff.1 hi).1
    have g1 := get_of_lk (L := blkL n es) (k := i) (by rw [blkL_length]; exact hil)
    obtain ⟨j, hj, hji, hjj⟩ := blkL_get g1
    rw [hj] at g1 hjj
    have all : ∀ f ∈ blkAt (blkL n es) es j, Tch es v w f := fun f hf => by
      obtain ⟨k, k1, k2⟩ := mem_blkAt.1 hf
      have hkl : k < es.length := (List.getElem?_eq_some_iff.1 k1).1
      have c : Conn (cycA n es) (i : Int) (k : Int) := ((blkL_isLab n es).iff ⟨by omega, by omega⟩ ⟨by omega, by omega⟩).1 (by rw [lk_of_get g1, lk_of_get k2])
      refine Tch.block ho hd hwv c (fun p g hp hg => ?_) k f rfl k1
      obtain rfl : i = p := by omega
      rw [hi] at hg
      injection hg with hg
      subst hg
      exact .of_end hew .refl
    by_cases hlf : leafB n es (blkAt (blkL n es) es j) = true
    · exact ⟨j, hjj, hlf, all⟩
    · unfold leafB at hlf
      rw [decide_eq_true_iff] at hlf
      obtain ⟨u, hu, hcu, huv⟩ := two_of_filter (byK_sorted (onB (blkAt (blkL n es) es j)) n) hlf v
      obtain ⟨u0, u1, hu⟩ := mem_byK.1 hu
      unfold onB at hu
      rw [List.any_eq_true] at hu
      obtain ⟨f, hf, hfu⟩ := hu
      have hfe : f ∈ es := by obtain ⟨k, k1, _⟩ := mem_blkAt.1 hf; exact List.mem_of_getElem? k1
      have cu : Conn (aloneL es v) w u := (all f hf).at hwv hfe (by simp at hfu; omega) huv
      obtain ⟨x, y, ax, ay, hxy⟩ := cut_two ho hcu
      obtain ⟨w', aw, hnc⟩ : ∃ w', Adj es u w' ∧ ¬ Conn (aloneL es u) w' v := by
        by_cases c : Conn (aloneL es u) x v
        · exact ⟨y, ay, fun c2 => hxy (c.trans c2.symm)⟩
        · exact ⟨x, ax, c⟩
      have hw'u : w' ≠ u := (adj_ne ho aw).symm
      have hw'v : w' ≠ v := fun h => hnc (h ▸ .refl)
      have sub : ∀ z, Conn (aloneL es u) w' z → Conn (aloneL es v) w z := fun z c => by
        have : z ≠ v ∧ Conn (aloneL es v) w z := by
          induction c with
          | refl => exact ⟨hw'v, cu.step (alone_adj aw huv hw'v)⟩
          | @step y z c a ih =>
            have hz : z ≠ v := fun h => hnc (h ▸ c.step a)
            exact ⟨hz, ih.2.step (alone_adj (a.imp (aloneL_sub _) (aloneL_sub _)) ih.1 hz)⟩
        exact this.2
      have hb' := ho.inR.adj aw
      have lt := hang_lt ho.inR (v := v) (w := w) (v' := u) (w' := w') (u := u) ⟨hb.2.2.1, hb.2.2.2⟩ ⟨hb'.2.2.1, hb'.2.2.2⟩ sub ⟨u0, u1⟩ cu (fun c => alone_conn_ne c hw'u rfl)
      match m, hm with
      | 0, hm => omega
      | m + 1, hm =>
        obtain ⟨j', p1, p2, p3⟩ := leaf_in ho hd m u w' aw (by omega)
        exact ⟨j', p1, p2, fun e he => (p3 e he).imp (sub _) (sub _)⟩
end
theorem leaves_of {n : Int} {es : Es} (hv : Valid n es) {j : Nat} (h1 : (blkL n.toNat es)[j]? = some (j : Int)) (h2 : leafB n.toNat es (blkAt (blkL n.toNat es) es j) = true) : ∃ i ∈ leavesOf n es, (blocksOf n es)[i.toNat]? = some (blkAt (blkL n.toNat es) es j) := by
  have hj : j < es.length := by have := (List.getElem?_eq_some_iff.1 h1).1; rwa [blkL_length] at this
  have hm : blkAt (blkL n.toNat es) es j ∈ blocksOf n es := by rw [blocksOf_yes hv]; exact mem_blkTo.2 ⟨j, hj, h1, rfl⟩
  obtain ⟨i, hi⟩ := List.mem_iff_getElem?.1 hm
  have hil := (List.getElem?_eq_some_iff.1 hi).1
  refine ⟨(i : Int), mem_byK.2 ⟨by omega, by omega, ?_⟩, by simpa using hi⟩
  simp only [Int.toNat_natCast, hi]
  exact h2
theorem leaves_pos {n : Int} {es : Es} (hv : Valid n es) : 0 < (leavesOf n es).length ↔ 0 < es.length := by
  have ho := hv.edOk
  constructor
  · intro h
    have h1 := byK_len (fun i => leafB n.toNat es ((blocksOf n es)[i.toNat]?.getD [])) (blocksOf n es).length
    have h2 : (blocksOf n es).length ≤ es.length := by rw [blocksOf_yes hv]; exact blocksL_length _ _
    unfold leavesOf at h
    omega
  · intro h
    have he : es[0] ∈ es := List.getElem_mem h
    obtain ⟨j, h1, h2, _⟩ := leaf_in ho hv.nodupB _ es[0].1 es[0].2 (.inl he) (Nat.le_refl _)
    obtain ⟨i, hi, _⟩ := leaves_of hv h1 h2
    exact List.length_pos_of_mem hi
theorem leaves_le {n : Int} {es : Es} : (leavesOf n es).length ≤ (blocksOf n es).length := byK_len _ _
theorem leaves_two {n : Int} {es : Es} (hv : Valid n es) (hc : (cutsOf n es).length ≠ 0) : 2 ≤ (leavesOf n es).length := by
  have ho := hv.edOk
  rw [cutsOf_yes hv] at hc
  obtain ⟨v, hvm⟩ := List.exists_mem_of_length_pos (by omega : 0 < (byK (cutB n.toNat es) n.toNat).length)
  obtain ⟨_, _, hcv⟩ := mem_byK.1 hvm
  obtain ⟨x, y, ax, ay, hxy⟩ := cut_two ho hcv
  obtain ⟨j1, a1, a2, a3⟩ := leaf_in ho hv.nodupB _ v x ax (Nat.le_refl _)
  obtain ⟨j2, b1, b2, b3⟩ := leaf_in ho hv.nodupB _ v y ay (Nat.le_refl _)
  obtain ⟨i1, m1, g1⟩ := leaves_of hv a1 a2
  obtain ⟨i2, m2, g2⟩ := leaves_of hv b1 b2
  have hxv : x ≠ v := (adj_ne ho ax).symm
  have hyv : y ≠ v := (adj_ne ho ay).symm
  have hne : i1 ≠ i2 := fun h => by
    rw [h, g2] at g1
    injection g1 with g
    have hj : j1 < es.length := by have := (List.getElem?_eq_some_iff.1 a1).1; rwa [blkL_length] at this
    have hm : es[j1] ∈ blkAt (blkL n.toNat es) es j1 := mem_blkAt.2 ⟨j1, List.getElem?_eq_getElem hj, a1⟩
    have hes : es[j1] ∈ es := List.getElem_mem hj
    have t1 := a3 _ hm
    have t2 := b3 _ (g ▸ hm)
    rcases t1 with t1 | t1
    · exact hxy (t1.trans (t2.at hyv hes (.inl rfl) (alone_conn_ne t1 hxv)).symm)
    · exact hxy (t1.trans (t2.at hyv hes (.inr rfl) (alone_conn_ne t1 hxv)).symm)
  have h1 := len_two m1 m2 hne
  have h2 := List.length_pos_of_mem m1
  omega
end Go.Proofs.Ytjchabeiaajgiaa
