/- Rows of any values of one cell; rows of rows of edges: words, reads, append, marks. -/
import Derived.Test.YtekepbcmjfdcjaaDoorG3
import Derived.Test.YtekepbcmjfdcjaaDoorH
import Derived.Test.YtekepbcmjfdcjaaDoorB
import Derived.Test.YtekepbcmjfdcjaaDoorM2
import Derived.Test.YtekepbcmjfdcjaaDoorL
namespace Go.Proofs.YtekepbcmjfdcjaaDoor
open Go.RowKit set_option linter.unusedVariables false set_option linter.unusedSimpArgs false

/-- an own row of values of one cell -/
def OwnV (w : World) (base : Nat) (t : TypeId) (A : Option Addr) (c : Nat) (vs : List Value) : Prop := w.ownsRow base t 1 (.slice A vs.length c) vs.length vs
section
variable {w w' : World} {base base' : Nat} {t : TypeId} {A : Option Addr} {c : Nat} {vs : List Value}
theorem OwnV.nil (w : World) (base : Nat) (t : TypeId) : OwnV w base t none 0 [] := World.ownsRow_nil w base t 1
theorem OwnV.empty (w : World) (base : Nat) (t : TypeId) (hb : base ≤ w.heap.size) : OwnV (w.alloc (.cells #[] t)) base t (some ⟨w.heap.size, 0, none⟩) 0 [] :=
  World.ownsRow_lit w #[] 0 hb (by simp [maxLen]) rfl
theorem OwnV.kept {row : Option Nat} (h : OwnV w base t A c vs) (hg : w.grownBy w' row) (hne : blk A = none ∨ blk A ≠ row) : OwnV w' base t A c vs := World.ownsRow.kept h hg (by rwa [ownBlock_slice])
theorem OwnV.nx (h : OwnV w base t A c vs) (hn : Nx w w') : OwnV w' base t A c vs := World.ownsRow.kept h hn.grownNone (by cases A <;> simp [Value.ownBlock])
theorem OwnV.at (h : OwnV w base t A c vs) (hn : 0 < vs.length) : ∃ g, A = some ⟨g, 0, none⟩ ∧ base ≤ g ∧ g < w.heap.size := by
  obtain ⟨g, cap, hv, hb, hl⟩ := World.ownsRow.form h hn
  injection hv with hA
  exact ⟨g, hA, hb, hl⟩
theorem OwnV.lt (h : OwnV w base t A c vs) : ∀ k, blk A = some k → base ≤ k ∧ k < w.heap.size := fun k hk => World.ownsRow.lt h k (by rw [ownBlock_slice]; exact hk)
theorem OwnV.cell {g : Nat} (h : OwnV w base t (some ⟨g, 0, none⟩) c vs) {k : Nat} {v : Value} (hv : vs[k]? = some v) : w.cell? ⟨g, k, none⟩ = some v :=
  (World.ownsRow.cellAt h _ (by have := (List.getElem?_eq_some_iff.1 hv).1; omega)).trans hv
theorem OwnV.far (h : OwnV w base t A c vs) {p : Addr} (hp : p.block < base) (u : Value) : OwnV (w.setCell p u) base t A c vs := ownsRow_setCell_below h hp u
theorem OwnV.mono (h : OwnV w base t A c vs) (hb : base' ≤ base) : OwnV w base' t A c vs := by
  refine ⟨h.1, ?_⟩
  rcases h.2 with h1 | ⟨g, cap, cur, h1, h2, h3⟩
  · exact .inl h1
  · exact .inr ⟨g, cap, cur, h1, Nat.le_trans hb h2, h3⟩
end
section
variable {P : Program} {w : World} {ops : Array Oper} {rest : List Oper} {o : Oper} {a : Act} {Q : Exit → Act → World → Prop} {s x : Operand} {T t : TypeId} {i : TypeInfo} {z : Value} {base : Nat} {A : Option Addr} {c : Nat}
theorem appV (vs : List Value) (g : Nat) (v : Value) (by_ : Nat) (hgd : o.guard = none) (ho : o.op = .call { callee := .builtin .append, args := #[s, x], argTypes := #[T, T] })
    (ht : P.underlying T = some (.slice t)) (hi : P.info? t = some i) (hz : i.zero = some z) (hsize : i.size = 1) (hby : i.bytes = by_) (hby' : by_ ≤ 64) (hzs : z.cells.size = 1)
    (hs : a.eval s = .slice A vs.length c) (hown : OwnV w base t A c vs) (hx : a.eval x = .slice (some ⟨g, 0, none⟩) 1 1)
    (h0 : w.cell? ⟨g, 0, none⟩ = some v) (hv : v.oneCell' = true) (hl : vs.length < 1073741824) (hbase : base ≤ w.heap.size)
    (h : ∀ A' c' w', OwnV w' base t A' c' (vs ++ [v]) → (∀ B, B.heap.size ≤ base → Nx B w → Nx B w') → w.grownBy w' (blk A) → (blk A' = blk A ∨ blk A' = some w.heap.size) → wpList P ops Q rest (a.put o.dst (.slice A' (vs.length + 1) c')) w') :
    wpList P ops Q (o :: rest) a w := by
  refine wpList_append_own_at (w := w) hgd s x T ho base t i z 1 by_ ht hi hz hsize hby hzs (by omega) _ vs.length _ hs hown ⟨g, 0, none⟩ 1 1 [v] hx rfl ?_ ?_ (by simp [maxLen]; omega) ?_ hbase ?_
  · intro j u hu
    match j, hu with
    | 0, hu => simp at hu; subst hu; simpa [Addr.add] using h0
    | (j + 1), hu => simp at hu
  · intro u hu; simp at hu; subst hu; exact hv
  · exact Nat.le_trans (Nat.mul_le_mul (show vs.length + 1 ≤ 1073741824 by omega) hby') (by omega)
  · intro v' w' h2 h3 _ h5
    have hform := World.ownsRow.form h2 (by omega)
    obtain ⟨g', cap, rfl, hb', hl'⟩ := hform
    refine h (some ⟨g', 0, none⟩) cap w' ?_ ?_ (by rwa [ownBlock_slice] at h3) (by rwa [ownBlock_slice, ownBlock_slice] at h5)
    · unfold OwnV
      rw [List.length_append]
      exact h2
    · exact fun B hB hn => Nx.grown hn h3 (fun k hk => by rw [ownBlock_slice] at hk; have := (hown.lt k hk).1; omega)
end

/-! ### rows of rows of edges -/
/-- a row: where it lies, its capacity, its edges -/
abbrev Row := Option Addr × Nat × Es
def Row.val (r : Row) : Value := .slice r.1 r.2.2.length r.2.1
def rowsOf (q : List Row) : List Es := q.map fun r => r.2.2
/-- rows that may be read -/
def RowsAt (w : World) (A : Option Addr) (q : List Row) : Prop :=
  (0 < q.length → ∃ b off, A = some ⟨b, off, none⟩ ∧ b < w.heap.size ∧ ∀ k (h : k < q.length), w.cell? ⟨b, off + k, none⟩ = some q[k].val) ∧ ∀ r ∈ q, EdgesAt w r.1 r.2.2
theorem RowsAt.nx {w w' : World} {A : Option Addr} {q : List Row} (h : RowsAt w A q) (hn : Nx w w') : RowsAt w' A q := by
  refine ⟨fun h0 => ?_, fun r hr => (h.2 r hr).nx hn⟩
  obtain ⟨b, off, e, hb, hc⟩ := h.1 h0
  exact ⟨b, off, e, Nat.lt_of_lt_of_le hb hn.size, fun k hk => hn.cell hb (hc k hk)⟩
/-- rows of a call's own: no two share memory -/
def OwnQ (w : World) (base : Nat) (T t : TypeId) (A : Option Addr) (c : Nat) (q : List Row) : Prop :=
  OwnV w base T A c (q.map Row.val) ∧ (∀ r ∈ q, OwnE w base t r.1 r.2.1 r.2.2) ∧ q.Pairwise (fun r s => blk r.1 = none ∨ blk r.1 ≠ blk s.1) ∧ (∀ r ∈ q, blk A = none ∨ blk A ≠ blk r.1)
section
variable {w w' : World} {base base' : Nat} {T t : TypeId} {A : Option Addr} {c : Nat} {q : List Row}
theorem OwnQ.nil (w : World) (base : Nat) (T t : TypeId) : OwnQ w base T t none 0 [] := ⟨OwnV.nil _ _ _, by simp, by simp, by simp⟩
theorem OwnQ.empty (w : World) (base : Nat) (T t : TypeId) (hb : base ≤ w.heap.size) : OwnQ (w.alloc (.cells #[] T)) base T t (some ⟨w.heap.size, 0, none⟩) 0 [] := ⟨OwnV.empty _ _ _ hb, by simp, by simp, by simp⟩
theorem OwnQ.nx (h : OwnQ w base T t A c q) (hn : Nx w w') : OwnQ w' base T t A c q := ⟨h.1.nx hn, fun r hr => (h.2.1 r hr).nx hn, h.2.2⟩
theorem OwnQ.mono (h : OwnQ w base T t A c q) (hb : base' ≤ base) : OwnQ w base' T t A c q := ⟨h.1.mono hb, fun r hr => (h.2.1 r hr).mono hb, h.2.2⟩
theorem OwnQ.far (h : OwnQ w base T t A c q) {p : Addr} (hp : p.block < base) (u : Value) : OwnQ (w.setCell p u) base T t A c q := ⟨h.1.far hp u, fun r hr => (h.2.1 r hr).far hp u, h.2.2⟩
theorem OwnQ.rowsAt (h : OwnQ w base T t A c q) : RowsAt w A q := by
  refine ⟨fun h0 => ?_, fun r hr => (h.2.1 r hr).edgesAt⟩
  obtain ⟨g, rfl, hg1, hg2⟩ := h.1.at (by simpa using h0)
  exact ⟨g, 0, rfl, hg2, fun k hk => by have := h.1.cell (k := k) (v := q[k].val) (by simp [hk]); simpa using this⟩
/-- behind an append of a row: the outer row has turned into A', which is old or new -/
theorem OwnQ.append {A' : Option Addr} {c' : Nat} {r : Row} (h : OwnQ w base T t A c q) (hg : w.grownBy w' (blk A)) (ho : OwnV w' base T A' c' (q.map Row.val ++ [r.val])) (hA : blk A' = blk A ∨ blk A' = some w.heap.size)
    (hr : OwnE w base t r.1 r.2.1 r.2.2) (hrA : blk A = none ∨ blk A ≠ blk r.1) (hrq : ∀ s ∈ q, blk s.1 = none ∨ blk s.1 ≠ blk r.1) : OwnQ w' base T t A' c' (q ++ [r]) := by
  have flip : ∀ {a b : Option Nat}, (a = none ∨ a ≠ b) → (b = none ∨ b ≠ a) := fun {a b} h => by
    rcases h with h | h
    · subst h; cases b <;> simp
    · exact .inr (Ne.symm h)
  have hnew : ∀ {s : Row}, OwnE w base t s.1 s.2.1 s.2.2 → (blk A = none ∨ blk A ≠ blk s.1) → (blk A' = none ∨ blk A' ≠ blk s.1) := fun {s} hs h => by
    rcases hA with e | e
    · rw [e]; exact h
    · rw [e]; refine .inr fun e2 => ?_
      have := (hs.lt _ e2.symm).2; omega
  refine ⟨by simpa using ho, fun s hs => ?_, ?_, fun s hs => ?_⟩
  · rcases List.mem_append.1 hs with hs | hs
    · exact (h.2.1 s hs).kept hg (flip (h.2.2.2 s hs))
    · simp at hs; subst hs; exact hr.kept hg (flip hrA)
  · rw [List.pairwise_append]
    exact ⟨h.2.2.1, by simp, fun a ha b hb => by simp at hb; subst hb; exact hrq a ha⟩
  · rcases List.mem_append.1 hs with hs | hs
    · exact hnew (h.2.1 s hs) (h.2.2.2 s hs)
    · simp at hs; subst hs; exact hnew hr hrA
end

/-- the call returns rows of edges of its own -/
def RetQ (T t : TypeId) (bs : List Es) (w : World) (e : Ending) (w' : World) : Prop :=
  ∃ A c q, e = .returned (.slice A bs.length c) ∧ rowsOf q = bs ∧ OwnQ w' w.heap.size T t A c q ∧ Nx w w'
theorem rowsOf_length (q : List Row) : (rowsOf q).length = q.length := by simp [rowsOf]
theorem rowsOf_get {q : List Row} {k : Nat} {r : Row} (h : q[k]? = some r) : (rowsOf q)[k]? = some r.2.2 := by simp [rowsOf, h]
theorem EdgesAt.kept {w w' : World} {A : Option Addr} {es : Es} {row : Option Nat} (h : EdgesAt w A es) (hg : w.grownBy w' row) (hne : blk A = none ∨ blk A ≠ row) : EdgesAt w' A es := fun h0 => by
  obtain ⟨b, off, rfl, hb, hc⟩ := h h0
  have hn : some b ≠ row := by
    rcases hne with h | h
    · cases h
    · exact h
  exact ⟨b, off, rfl, Nat.lt_of_lt_of_le hb hg.size, fun k hk => ⟨World.grownBy.cell hg (hc k hk).1 hn, World.grownBy.cell hg (hc k hk).2 hn⟩⟩
end Go.Proofs.YtekepbcmjfdcjaaDoor
