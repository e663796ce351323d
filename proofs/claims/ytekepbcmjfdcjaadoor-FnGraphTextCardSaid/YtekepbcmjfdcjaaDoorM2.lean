/- append of a whole row onto an own row (the row may be empty, or nil); clear of an own row's tail; a row read anew. No program in sight. -/
import Derived.Test.YtekepbcmjfdcjaaDoorB
import Derived.Deep.RegionLaw
import Derived.Laws.CopyOwn
namespace Go.Proofs.YtekepbcmjfdcjaaDoor
open Go.RowKit set_option linter.unusedVariables false set_option linter.unusedSimpArgs false

section
variable {P : Program} {w : World} {base : Nat} {t ty e : TypeId} {i : TypeInfo} {z : Value} {size bytes : Nat}
theorem run_app_nil (ht : P.underlying t = some (.slice e)) (hi : P.info? e = some i) {v : Value} {n : Nat} {xs : List Value} (hown : w.ownsRow base e size v n xs) (c : Nat) :
    (Builtin.append_ #[t, t] ty #[v, .slice none 0 c]).run P w = .ok v w := by
  rcases hown.2 with ⟨rfl, rfl⟩ | ⟨g, cap, cur, rfl, hbg, hg, hnc, hcm, hcs, htake⟩
  · simp [Builtin.append_, run_underlying ht, sizeOf, typeInfo, hi, Builtin.lenOf, Builtin.firstCells]
  · simp [Builtin.append_, run_underlying ht, sizeOf, typeInfo, hi, Builtin.lenOf, Builtin.firstCells, hnc, storeCells]
theorem run_app (ht : P.underlying t = some (.slice e)) (hi : P.info? e = some i) (hz : i.zero = some z)
    (hsize : i.size = size) (hby : i.bytes = bytes) (hzs : z.cells.size = size) (hsz : 0 < size)
    (v : Value) (n : Nat) (xs : List Value) (hown : w.ownsRow base e size v n xs)
    (X : Option Addr) (m c : Nat) (news : List Value) (hl : news.length = m * size) (hnews : 0 < m → ∃ ad, X = some ad ∧ ∀ j u, news[j]? = some u → w.cell? (ad.add j) = some u) (h1 : ∀ u ∈ news, u.oneCell' = true)
    (h63 : n + m ≤ maxLen) (hbytes : (n + m) * bytes ≤ 140737488355328) (hbase : base ≤ w.heap.size) :
    ∃ v' w', (Builtin.append_ #[t, t] ty #[v, .slice X m c]).run P w = .ok v' w' ∧ w'.ownsRow base e size v' (n + m) (xs ++ news) ∧ w.grownBy w' v.ownBlock ∧ (v'.ownBlock = v.ownBlock ∨ v'.ownBlock = some w.heap.size) := by
  by_cases hm : 0 < m
  · obtain ⟨ad, rfl, hn⟩ := hnews hm
    obtain ⟨v', w', h1, h2, h3, _, h5⟩ := run_append_own_at (P := P) w base t ty e i z size bytes ht hi hz hsize hby hzs hsz v n xs hown ad m c news hl hn h1 h63 hbytes hbase
    exact ⟨v', w', h1, h2, h3, h5⟩
  · obtain rfl : m = 0 := by omega
    obtain rfl : news = [] := List.eq_nil_of_length_eq_zero (by omega)
    cases X with
    | none => exact ⟨v, w, run_app_nil ht hi hown c, by simpa using hown, World.grownBy.refl w _, .inl rfl⟩
    | some ad =>
      obtain ⟨v', w', h1, h2, h3, _, h5⟩ := run_append_own_at (P := P) w base t ty e i z size bytes ht hi hz hsize hby hzs hsz v n xs hown ad 0 c [] (by simp) (by simp) (by simp) h63 hbytes hbase
      exact ⟨v', w', h1, h2, h3, h5⟩
theorem ownsRow_slice {v : Value} {n : Nat} {xs : List Value} (h : w.ownsRow base e size v n xs) : ∃ A c, v = .slice A n c := by
  rcases h.2 with ⟨rfl, rfl⟩ | ⟨g, cap, _, rfl, _⟩
  · exact ⟨_, _, rfl⟩
  · exact ⟨_, _, rfl⟩
end

/-- a cell of a block just made -/
theorem cellN {w : World} {b j : Nat} {cs : Array Value} {t : TypeId} {v : Value} (hb : b = w.heap.size) (h : cs[j]? = some v) : (w.alloc (.cells cs t)).cell? ⟨b, j, none⟩ = some v := by
  subst hb
  simp [h]
theorem addr_add_plain (b off j : Nat) : (⟨b, off, none⟩ : Addr).add j = ⟨b, off + j, none⟩ := by unfold Addr.add; split <;> simp_all
theorem cellsE_at {w : World} {b off : Nat} {es : List (Int × Int)} (h : ∀ (k : Nat) (h : k < es.length), w.cell? ⟨b, off + k * 2, none⟩ = some (V es[k].1) ∧ w.cell? ⟨b, off + k * 2 + 1, none⟩ = some (V es[k].2)) :
    ∀ j u, (cellsE es)[j]? = some u → w.cell? ((⟨b, off, none⟩ : Addr).add j) = some u := by
  intro j u hu
  rw [addr_add_plain]
  have hj : j < (cellsE es).length := (List.getElem?_eq_some_iff.1 hu).1
  rw [cellsE_length] at hj
  have hk : j / 2 < es.length := by omega
  obtain ⟨h1, h2⟩ := h (j / 2) hk
  rcases Nat.mod_two_eq_zero_or_one j with hm | hm
  · have e : off + j / 2 * 2 = off + j := by omega
    rw [e] at h1
    rw [h1]
    have := cellsE_get0 es (j / 2) hk
    rw [show j / 2 * 2 = j by omega, hu] at this
    exact this.symm
  · have e : off + j / 2 * 2 + 1 = off + j := by omega
    rw [e] at h2
    rw [h2]
    have := cellsE_get1 es (j / 2) hk
    rw [show j / 2 * 2 + 1 = j by omega, hu] at this
    exact this.symm
theorem cellsI_at {w : World} {b off : Nat} {xs : List Int} (h : ∀ (k : Nat) (h : k < xs.length), w.cell? ⟨b, off + k, none⟩ = some (V xs[k])) :
    ∀ j u, (xs.map V)[j]? = some u → w.cell? ((⟨b, off, none⟩ : Addr).add j) = some u := by
  intro j u hu
  rw [addr_add_plain]
  have hj : j < (xs.map V).length := (List.getElem?_eq_some_iff.1 hu).1
  rw [List.length_map] at hj
  rw [h j hj]
  simpa [hj] using hu
theorem cellsE_ones : ∀ (es : List (Int × Int)), ∀ u ∈ cellsE es, u.oneCell' = true
  | [], u, h => by simp [cellsE] at h
  | e :: es, u, h => by
    rw [cellsE_cons] at h
    simp at h
    rcases h with rfl | rfl | h
    · rfl
    · rfl
    · exact cellsE_ones es u h
theorem cellsI_ones (xs : List Int) : ∀ u ∈ xs.map V, u.oneCell' = true := fun u h => by
  obtain ⟨x, _, rfl⟩ := List.mem_map.1 h
  rfl

section
variable {P : Program} {w : World} {ops : Array Oper} {rest : List Oper} {o : Oper} {a : Act} {Q : Exit → Act → World → Prop} {K : Act → World → Prop} {E : Prop} {s x : Operand} {T t : TypeId} {i : TypeInfo} {z : Value} {base : Nat} {A X : Option Addr} {c c' : Nat}
theorem runEs (es ys : List (Int × Int)) (ht : P.underlying T = some (.slice t)) (hi : P.info? t = some i) (hz : i.zero = some z) (hsize : i.size = 2) (hby : i.bytes = 16) (hzs : z.cells.size = 2)
    (hown : OwnE w base t A c es) (hy : EdgesAt w X ys) (hl : es.length + ys.length < 1073741824) (hbase : base ≤ w.heap.size) (ty : TypeId) :
    ∃ A' cc w', (Builtin.append_ #[T, T] ty #[.slice A es.length c, .slice X ys.length c']).run P w = .ok (.slice A' (es.length + ys.length) cc) w' ∧ OwnE w' base t A' cc (es ++ ys) ∧ w.grownBy w' (blk A) ∧ (blk A' = blk A ∨ blk A' = some w.heap.size) := by
  obtain ⟨v', w', h1, h2, h3, h4⟩ := run_app (P := P) (w := w) (base := base) (t := T) (ty := ty) ht hi hz hsize hby hzs (by omega) _ es.length _ hown X ys.length c' (cellsE ys) (cellsE_length ys)
    (fun h0 => by obtain ⟨b, off, rfl, _, hc⟩ := hy h0; exact ⟨_, rfl, cellsE_at hc⟩) (cellsE_ones ys) (by simp [maxLen]; omega) (by omega) hbase
  obtain ⟨A', cc, rfl⟩ := ownsRow_slice h2
  rw [ownBlock_slice] at h3 h4
  rw [ownBlock_slice] at h4
  exact ⟨A', cc, w', h1, by unfold OwnE; rw [List.length_append, cellsE_append]; exact h2, h3, h4⟩
theorem runIs (es ys : List Int) (ht : P.underlying T = some (.slice t)) (hi : P.info? t = some i) (hz : i.zero = some z) (hsize : i.size = 1) (hby : i.bytes = 8) (hzs : z.cells.size = 1)
    (hown : OwnI w base t A c es) (hy : IntsAt w X ys) (hl : es.length + ys.length < 1073741824) (hbase : base ≤ w.heap.size) (ty : TypeId) :
    ∃ A' cc w', (Builtin.append_ #[T, T] ty #[.slice A es.length c, .slice X ys.length c']).run P w = .ok (.slice A' (es.length + ys.length) cc) w' ∧ OwnI w' base t A' cc (es ++ ys) ∧ w.grownBy w' (blk A) ∧ (blk A' = blk A ∨ blk A' = some w.heap.size) := by
  obtain ⟨v', w', h1, h2, h3, h4⟩ := run_app (P := P) (w := w) (base := base) (t := T) (ty := ty) ht hi hz hsize hby hzs (by omega) _ es.length _ hown X ys.length c' (ys.map V) (by simp)
    (fun h0 => by obtain ⟨b, off, rfl, _, hc⟩ := hy h0; exact ⟨_, rfl, cellsI_at hc⟩) (cellsI_ones ys) (by simp [maxLen]; omega) (by omega) hbase
  obtain ⟨A', cc, rfl⟩ := ownsRow_slice h2
  rw [ownBlock_slice] at h3 h4
  rw [ownBlock_slice] at h4
  exact ⟨A', cc, w', h1, by unfold OwnI; rw [List.length_append, List.map_append]; exact h2, h3, h4⟩
theorem appEs (es ys : List (Int × Int)) (hgd : o.guard = none) (ho : o.op = .call { callee := .builtin .append, args := #[s, x], argTypes := #[T, T] })
    (ht : P.underlying T = some (.slice t)) (hi : P.info? t = some i) (hz : i.zero = some z) (hsize : i.size = 2) (hby : i.bytes = 16) (hzs : z.cells.size = 2)
    (hs : a.eval s = .slice A es.length c) (hown : OwnE w base t A c es) (hx : a.eval x = .slice X ys.length c') (hy : EdgesAt w X ys) (hl : es.length + ys.length < 1073741824) (hbase : base ≤ w.heap.size)
    (h : ∀ A' cc w', OwnE w' base t A' cc (es ++ ys) → (∀ B, B.heap.size ≤ base → Nx B w → Nx B w') → w.grownBy w' (blk A) → (blk A' = blk A ∨ blk A' = some w.heap.size) → wpList P ops Q rest (a.put o.dst (.slice A' (es.length + ys.length) cc)) w') :
    wpList P ops Q (o :: rest) a w := by
  refine wpList_plain hgd fun K hK => ?_
  obtain ⟨A', cc, w', hr, h2, h3, h4⟩ := runEs (c' := c') es ys ht hi hz hsize hby hzs hown hy hl hbase o.type
  unfold Oper.wp
  simp [execOp, ho, resolve, invoke, builtin, hs, hx, hr, Result.andThen]
  exact hK _ _ (h A' cc w' h2 (fun B hB hn => Nx.grown hn h3 (fun k hk => by have := (hown.lt k hk).1; omega)) h3 h4)
theorem appIs (es ys : List Int) (hgd : o.guard = none) (ho : o.op = .call { callee := .builtin .append, args := #[s, x], argTypes := #[T, T] })
    (ht : P.underlying T = some (.slice t)) (hi : P.info? t = some i) (hz : i.zero = some z) (hsize : i.size = 1) (hby : i.bytes = 8) (hzs : z.cells.size = 1)
    (hs : a.eval s = .slice A es.length c) (hown : OwnI w base t A c es) (hx : a.eval x = .slice X ys.length c') (hy : IntsAt w X ys) (hl : es.length + ys.length < 1073741824) (hbase : base ≤ w.heap.size)
    (h : ∀ A' cc w', OwnI w' base t A' cc (es ++ ys) → (∀ B, B.heap.size ≤ base → Nx B w → Nx B w') → w.grownBy w' (blk A) → (blk A' = blk A ∨ blk A' = some w.heap.size) → wpList P ops Q rest (a.put o.dst (.slice A' (es.length + ys.length) cc)) w') :
    wpList P ops Q (o :: rest) a w := by
  refine wpList_plain hgd fun K hK => ?_
  obtain ⟨A', cc, w', hr, h2, h3, h4⟩ := runIs (c' := c') es ys ht hi hz hsize hby hzs hown hy hl hbase o.type
  unfold Oper.wp
  simp [execOp, ho, resolve, invoke, builtin, hs, hx, hr, Result.andThen]
  exact hK _ _ (h A' cc w' h2 (fun B hB hn => Nx.grown hn h3 (fun k hk => by have := (hown.lt k hk).1; omega)) h3 h4)
/-- at a step of a drawn region, for go_region_law -/
theorem stepEs (es ys : List (Int × Int)) (hgd : o.guard = none) (ho : o.op = .call { callee := .builtin .append, args := #[s, x], argTypes := #[T, T] })
    (ht : P.underlying T = some (.slice t)) (hi : P.info? t = some i) (hz : i.zero = some z) (hsize : i.size = 2) (hby : i.bytes = 16) (hzs : z.cells.size = 2)
    (hs : a.eval s = .slice A es.length c) (hown : OwnE w base t A c es) (hx : a.eval x = .slice X ys.length c') (hy : EdgesAt w X ys) (hl : es.length + ys.length < 1073741824) (hbase : base ≤ w.heap.size)
    (h : ∀ A' cc w', OwnE w' base t A' cc (es ++ ys) → w.grownBy w' (blk A) → (blk A' = blk A ∨ blk A' = some w.heap.size) → K (a.put o.dst (.slice A' (es.length + ys.length) cc)) w') :
    if Region.wanted o (yielded ops a.tmps) = true then Oper.wp P o a w K Q else E := by
  have hw : Region.wanted o (yielded ops a.tmps) = true := by simp [Region.wanted, hgd]
  rw [if_pos hw]
  obtain ⟨A', cc, w', hr, h2, h3, h4⟩ := runEs (c' := c') es ys ht hi hz hsize hby hzs hown hy hl hbase o.type
  unfold Oper.wp
  simp [execOp, ho, resolve, invoke, builtin, hs, hx, hr, Result.andThen]
  exact h A' cc w' h2 h3 h4
theorem stepIs (es ys : List Int) (hgd : o.guard = none) (ho : o.op = .call { callee := .builtin .append, args := #[s, x], argTypes := #[T, T] })
    (ht : P.underlying T = some (.slice t)) (hi : P.info? t = some i) (hz : i.zero = some z) (hsize : i.size = 1) (hby : i.bytes = 8) (hzs : z.cells.size = 1)
    (hs : a.eval s = .slice A es.length c) (hown : OwnI w base t A c es) (hx : a.eval x = .slice X ys.length c') (hy : IntsAt w X ys) (hl : es.length + ys.length < 1073741824) (hbase : base ≤ w.heap.size)
    (h : ∀ A' cc w', OwnI w' base t A' cc (es ++ ys) → w.grownBy w' (blk A) → (blk A' = blk A ∨ blk A' = some w.heap.size) → K (a.put o.dst (.slice A' (es.length + ys.length) cc)) w') :
    if Region.wanted o (yielded ops a.tmps) = true then Oper.wp P o a w K Q else E := by
  have hw : Region.wanted o (yielded ops a.tmps) = true := by simp [Region.wanted, hgd]
  rw [if_pos hw]
  obtain ⟨A', cc, w', hr, h2, h3, h4⟩ := runIs (c' := c') es ys ht hi hz hsize hby hzs hown hy hl hbase o.type
  unfold Oper.wp
  simp [execOp, ho, resolve, invoke, builtin, hs, hx, hr, Result.andThen]
  exact h A' cc w' h2 h3 h4
end

/-! ### a world in which only some of the old blocks may have turned -/
structure Gx (p : Nat → Prop) (a w : World) : Prop where
  os : w.os = a.os
  tape : w.tape = a.tape
  output : w.output = a.output
  size : a.heap.size ≤ w.heap.size
  block : ∀ k, k < a.heap.size → ¬ p k → w.heap[k]? = a.heap[k]?
theorem Gx.refl (p : Nat → Prop) (a : World) : Gx p a a := ⟨rfl, rfl, rfl, Nat.le_refl _, fun _ _ _ => rfl⟩
theorem Gx.grown {p : Nat → Prop} {a b c : World} {r : Option Nat} (h : Gx p a b) (k : b.grownBy c r) (hr : ∀ j, r = some j → p j ∨ a.heap.size ≤ j) : Gx p a c :=
  ⟨k.os.trans h.os, k.tape.trans h.tape, k.output.trans h.output, Nat.le_trans h.size k.size, fun i hi hp =>
    (k.block i (Nat.lt_of_lt_of_le hi h.size) (fun e => by rcases hr i e.symm with h | h; exact hp h; omega)).trans (h.block i hi hp)⟩
theorem Gx.nx {p : Nat → Prop} {a b c : World} (h : Gx p a b) (k : Nx b c) : Gx p a c := h.grown k.grownNone (fun j e => by cases e)
theorem Gx.setCell {p : Nat → Prop} {a b : World} (h : Gx p a b) {g : Nat} (hg : p g ∨ a.heap.size ≤ g) (i : Nat) (u : Value) : Gx p a (b.setCell ⟨g, i, none⟩ u) :=
  h.grown (r := some g) ⟨rfl, rfl, rfl, by simp [World.setCell], fun k _ hne => Below.heap_setCell b _ u k (by rintro rfl; exact hne rfl)⟩ (fun j e => by injection e with e; subst e; exact hg)
theorem Gx.bx {p : Nat → Prop} {a w : World} (h : Gx p a w) {g : Nat} {t : TypeId} {cs : List Value} (hb : Bx a g t cs) (hg : ¬ p g) : Bx w g t cs := (h.block g hb.lt hg).trans hb
theorem Gx.cell {p : Nat → Prop} {a w : World} (h : Gx p a w) {b o : Nat} {v : Value} (hb : b < a.heap.size) (hg : ¬ p b) (hc : a.cell? ⟨b, o, none⟩ = some v) : w.cell? ⟨b, o, none⟩ = some v :=
  (World.cell?_of_block (h.block b hb hg)).trans hc
theorem Gx.frozen {p : Nat → Prop} {a w : World} (h : Gx p a w) {b o : Nat} {v : Bool} (hb : b < a.heap.size) (hg : ¬ p b) (hc : a.frozen? ⟨b, o, none⟩ = v) : w.frozen? ⟨b, o, none⟩ = v :=
  (World.frozen?_of_block (h.block b hb hg)).trans hc
theorem Gx.edges {p : Nat → Prop} {a w : World} (h : Gx p a w) {A : Option Addr} {es : List (Int × Int)} (he : EdgesAt a A es) (hp : ∀ k, blk A = some k → ¬ p k) : EdgesAt w A es := fun h0 => by
  obtain ⟨b, off, rfl, hb, hc⟩ := he h0
  exact ⟨b, off, rfl, Nat.lt_of_lt_of_le hb h.size, fun k hk => ⟨h.cell hb (hp b rfl) (hc k hk).1, h.cell hb (hp b rfl) (hc k hk).2⟩⟩
theorem Gx.ints {p : Nat → Prop} {a w : World} (h : Gx p a w) {A : Option Addr} {es : List Int} (he : IntsAt a A es) (hp : ∀ k, blk A = some k → ¬ p k) : IntsAt w A es := fun h0 => by
  obtain ⟨b, off, rfl, hb, hc⟩ := he h0
  exact ⟨b, off, rfl, Nat.lt_of_lt_of_le hb h.size, fun k hk => h.cell hb (hp b rfl) (hc k hk)⟩
/-- seen from an elder world, all whose blocks stand -/
theorem Gx.back {p : Nat → Prop} {o a w : World} (h : Gx p a w) (hn : Nx o a) (hp : ∀ k, p k → o.heap.size ≤ k) : Nx o w :=
  ⟨h.os.trans hn.os, h.tape.trans hn.tape, h.output.trans hn.output, Nat.le_trans hn.size h.size, fun k hk => (h.block k (Nat.lt_of_lt_of_le hk hn.size) (fun e => by have := hp k e; omega)).trans (hn.block k hk)⟩
theorem OwnE.gx {p : Nat → Prop} {a w : World} {base c : Nat} {t : TypeId} {A : Option Addr} {es : List (Int × Int)} (h : OwnE a base t A c es) (g : Gx p a w) (hp : ∀ k, blk A = some k → ¬ p k) : OwnE w base t A c es := by
  refine ⟨h.1, ?_⟩
  rcases h.2 with h1 | ⟨b, cap, cur, h1, h2, h3, h4⟩
  · exact .inl h1
  · injection h1 with hA _ hc
    subst hA; subst hc
    exact .inr ⟨b, c, cur, rfl, h2, (g.block b (Array.getElem?_eq_some_iff.1 h3).1 (hp b rfl)).trans h3, h4⟩

theorem grown_setCell (w : World) (g i : Nat) (u : Value) : w.grownBy (w.setCell ⟨g, i, none⟩ u) (some g) :=
  ⟨rfl, rfl, rfl, by simp [World.setCell], fun k _ hne => Below.heap_setCell w _ u k (by rintro rfl; exact hne rfl)⟩
theorem apart_ne {A : Option Addr} {g : Nat} (hp : ∀ k, blk A = some k → k ≠ g) : blk A = none ∨ blk A ≠ some g := by
  cases h : blk A with
  | none => exact .inl rfl
  | some k => exact .inr (fun e => by injection e with e; exact hp k h e)
theorem OwnE.other {w : World} {base c : Nat} {t : TypeId} {A : Option Addr} {es : List (Int × Int)} (h : OwnE w base t A c es) {g : Nat} (hp : ∀ k, blk A = some k → k ≠ g) (i : Nat) (u : Value) : OwnE (w.setCell ⟨g, i, none⟩ u) base t A c es :=
  h.kept (grown_setCell w g i u) (apart_ne hp)
theorem OwnI.other {w : World} {base c : Nat} {t : TypeId} {A : Option Addr} {es : List Int} (h : OwnI w base t A c es) {g : Nat} (hp : ∀ k, blk A = some k → k ≠ g) (i : Nat) (u : Value) : OwnI (w.setCell ⟨g, i, none⟩ u) base t A c es :=
  h.kept (grown_setCell w g i u) (apart_ne hp)

/-! ### an own row, with its block known whole -/
/-- the row at block g: the front es, a tail of any cells -/
def FullE (w : World) (g : Nat) (t : TypeId) (c : Nat) (es : List (Int × Int)) (tail : List Value) : Prop := Bx w g t (cellsE es ++ tail) ∧ es.length ≤ c ∧ c ≤ maxLen ∧ es.length * 2 + tail.length = c * 2
theorem OwnE.full {w : World} {base g : Nat} {t : TypeId} {c : Nat} {es : List (Int × Int)} (h : OwnE w base t (some ⟨g, 0, none⟩) c es) : base ≤ g ∧ ∃ tail, FullE w g t c es tail := by
  rcases h.2 with ⟨h1, h2⟩ | ⟨g', cap, cur, hv, hb, hg, hn, hm, hs, ht⟩
  · cases h1
  · injection hv with h1 h2 h3
    injection h1 with h1
    injection h1 with h1
    subst h1; subst h3
    refine ⟨hb, cur.toList.drop (es.length * 2), ?_, hn, hm, ?_⟩
    · unfold Bx
      rw [← ht, List.take_append_drop]
      simpa using hg
    · simp [hs]; omega
theorem FullE.own {w : World} {base g : Nat} {t : TypeId} {c : Nat} {es : List (Int × Int)} {tail : List Value} (h : FullE w g t c es tail) (hb : base ≤ g) : OwnE w base t (some ⟨g, 0, none⟩) c es := by
  obtain ⟨h1, h2, h3, h4⟩ := h
  refine ⟨cellsE_length es, .inr ⟨g, c, _, rfl, hb, h1, h2, h3, ?_, ?_⟩⟩
  · simp [cellsE_length]; omega
  · simp [List.take_left' (cellsE_length es)]
theorem Bx.emptyE {w : World} {g base : Nat} {t : TypeId} (h : Bx w g t []) (hb : base ≤ g) : OwnE w base t (some ⟨g, 0, none⟩) 0 [] :=
  FullE.own (tail := []) ⟨by simpa using h, by simp, by simp, by simp⟩ hb
theorem Bx.emptyI {w : World} {g base : Nat} {t : TypeId} (h : Bx w g t []) (hb : base ≤ g) : OwnI w base t (some ⟨g, 0, none⟩) 0 [] :=
  ⟨by simp, .inr ⟨g, 0, #[], rfl, hb, h, by simp, by simp [maxLen], by simp, by simp⟩⟩
/-- the first m of a row -/
theorem FullE.cut {w : World} {g : Nat} {t : TypeId} {c m : Nat} {es : List (Int × Int)} {tail : List Value} (h : FullE w g t c es tail) (hm : m ≤ es.length) : FullE w g t c (es.take m) (cellsE (es.drop m) ++ tail) := by
  obtain ⟨h1, h2, h3, h4⟩ := h
  refine ⟨?_, by simp; omega, h3, ?_⟩
  · rw [← List.append_assoc, ← cellsE_append, List.take_append_drop]; exact h1
  · simp [cellsE_length]; omega
theorem FullE.set {w : World} {g : Nat} {t : TypeId} {c : Nat} {es : List (Int × Int)} {tail : List Value} (h : FullE w g t c es tail) (k : Nat) (hk : k < es.length) (p q : Int) :
    FullE ((w.setCell ⟨g, k * 2, none⟩ (V p)).setCell ⟨g, k * 2 + 1, none⟩ (V q)) g t c (es.set k (p, q)) tail := by
  obtain ⟨h1, h2, h3, h4⟩ := h
  refine ⟨?_, by simpa using h2, h3, by simpa using h4⟩
  have h5 := (h1.set (j := k * 2) (V p)).set (j := k * 2 + 1) (V q)
  rw [List.set_append_left _ _ (by rw [cellsE_length]; omega), List.set_append_left _ _ (by simp [cellsE_length]; omega), cellsE_set] at h5
  exact h5

section
variable {P : Program} {w : World} {T t : TypeId}
theorem zero2 (n : Nat) : (Builtin.zeroCells #[V 0, V 0] n).toList = cellsE (List.replicate n (0, 0)) := by
  rw [← madeE n]
  simp [Builtin.zeroCells, madeCells]
theorem run_clearE (ht : P.underlying T = some (.slice t)) (hv : ∀ w, (zeroValue t).run P w = .ok (.agg #[V 0, V 0]) w) {g c m cc : Nat} {es : List (Int × Int)} {tail : List Value} (h : FullE w g t c es tail) (hm : m < es.length) :
    ∃ w', (∀ ty, (Builtin.clear_ #[T] ty #[.slice (some ⟨g, m * 2, none⟩) (es.length - m) cc]).run P w = .ok (.tuple #[]) w') ∧ w.grownBy w' (some g) ∧ FullE w' g t c (es.take m ++ List.replicate (es.length - m) (0, 0)) tail := by
  obtain ⟨h1, h2, h3, h4⟩ := h
  have hst := run_storeCells_at P g (m * 2) t (cellsE (List.replicate (es.length - m) (0, 0))) 0 (cellsE es ++ tail).toArray w h1 (by simp [cellsE_length]; omega) (cellsE_ones _)
  obtain ⟨k, hk⟩ : ∃ k, es.length - m = k + 1 := ⟨es.length - m - 1, by omega⟩
  refine ⟨w.setRow g ((cellsE es ++ tail).take (m * 2) ++ cellsE (List.replicate (es.length - m) (0, 0)) ++ (cellsE es ++ tail).drop (m * 2 + (es.length - m) * 2)).toArray, ?_, ⟨rfl, rfl, rfl, by simp, fun k _ hk => setRow_other w g k _ (fun e => hk (by rw [e]))⟩, ?_, by simp; omega, h3, by simp; omega⟩
  · intro ty
    rw [hk] at hst ⊢
    have hz : (Builtin.zeroCells (Value.agg #[V 0, V 0]).cells (k + 1)).toList = cellsE (List.replicate (k + 1) (0, 0)) := zero2 (k + 1)
    simp only [Nat.add_zero, cellsE_length, List.length_replicate, List.toList_toArray] at hst
    simp only [Builtin.clear_]
    simp [run_underlying ht, hv, hz, hst]
  · unfold Bx
    rw [setRow_heap w g _ _ t _ h1]
    have e1 : (cellsE es ++ tail).take (m * 2) = cellsE (es.take m) := by
      rw [List.take_append_of_le_length (by rw [cellsE_length]; omega)]
      conv => lhs; rw [← List.take_append_drop m es, cellsE_append]
      rw [List.take_left' (by rw [cellsE_length]; simp; omega)]
    have e2 : (cellsE es ++ tail).drop (m * 2 + (es.length - m) * 2) = tail := List.drop_left' (by rw [cellsE_length]; omega)
    rw [e1, e2, cellsE_append]
end
end Go.Proofs.YtekepbcmjfdcjaaDoor
