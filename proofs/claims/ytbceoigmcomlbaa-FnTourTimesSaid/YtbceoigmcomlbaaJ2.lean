import Derived.Test.YtbceoigmcomlbaaJ1
import Derived.Shelf.Sort.Plain
import Derived.Shelf.Slices.In.SortNone
import Derived.Sort.OwnSortedInts
import Derived.Test.YtbceoigmcomlbaaProg
/- Rows that the call itself made: rows of edges (two cells an element), of numbers (one cell). No program in sight. -/
namespace Go.Proofs.Ytbceoigmcomlbaa
open Go.RowKit

def cellsE (es : List (Int × Int)) : List Value := es.flatMap fun e => [V e.1, V e.2]
@[simp] theorem cellsE_nil : cellsE [] = [] := rfl
theorem cellsE_cons (e : Int × Int) (es : List (Int × Int)) : cellsE (e :: es) = V e.1 :: V e.2 :: cellsE es := rfl
theorem cellsE_append (a b : List (Int × Int)) : cellsE (a ++ b) = cellsE a ++ cellsE b := by simp [cellsE]
theorem cellsE_length (es : List (Int × Int)) : (cellsE es).length = es.length * 2 := by
  induction es with
  | nil => rfl
  | cons e es ih => simp [cellsE_cons, ih]; omega
theorem cellsE_get0 : ∀ (es : List (Int × Int)) (k : Nat) (h : k < es.length), (cellsE es)[k * 2]? = some (V es[k].1)
  | [], k, h => by simp at h
  | e :: es, 0, _ => by simp [cellsE_cons]
  | e :: es, k + 1, h => by
    rw [cellsE_cons, show (k + 1) * 2 = (k * 2) + 1 + 1 by omega]
    simp only [List.getElem?_cons_succ, List.getElem_cons_succ]
    exact cellsE_get0 es k (by simpa using h)
theorem cellsE_get1 : ∀ (es : List (Int × Int)) (k : Nat) (h : k < es.length), (cellsE es)[k * 2 + 1]? = some (V es[k].2)
  | [], k, h => by simp at h
  | e :: es, 0, _ => by simp [cellsE_cons]
  | e :: es, k + 1, h => by
    rw [cellsE_cons, show (k + 1) * 2 + 1 = (k * 2 + 1) + 1 + 1 by omega]
    simp only [List.getElem?_cons_succ, List.getElem_cons_succ]
    exact cellsE_get1 es k (by simpa using h)
theorem cellsE_set : ∀ (es : List (Int × Int)) (k : Nat) (p q : Int), ((cellsE es).set (k * 2) (V p)).set (k * 2 + 1) (V q) = cellsE (es.set k (p, q))
  | [], k, p, q => by simp
  | e :: es, 0, p, q => by simp [cellsE_cons]
  | e :: es, k + 1, p, q => by
    rw [cellsE_cons, show (k + 1) * 2 = (k * 2) + 1 + 1 by omega, show (k * 2) + 1 + 1 + 1 = (k * 2 + 1) + 1 + 1 by omega]
    simp only [List.set_cons_succ, cellsE_cons]
    rw [cellsE_set es k p q]
theorem cellsE_set0 : ∀ (es : List (Int × Int)) (k : Nat) (h : k < es.length) (p : Int), (cellsE es).set (k * 2) (V p) = cellsE (es.set k (p, es[k].2))
  | [], k, h, p => by simp at h
  | e :: es, 0, _, p => by simp [cellsE_cons]
  | e :: es, k + 1, h, p => by
    rw [cellsE_cons, show (k + 1) * 2 = (k * 2) + 1 + 1 by omega]
    simp only [List.set_cons_succ, cellsE_cons, List.getElem_cons_succ]
    rw [cellsE_set0 es k (by simpa using h) p]
theorem cellsE_set1 : ∀ (es : List (Int × Int)) (k : Nat) (h : k < es.length) (q : Int), (cellsE es).set (k * 2 + 1) (V q) = cellsE (es.set k (es[k].1, q))
  | [], k, h, q => by simp at h
  | e :: es, 0, _, q => by simp [cellsE_cons]
  | e :: es, k + 1, h, q => by
    rw [cellsE_cons, show (k + 1) * 2 + 1 = (k * 2 + 1) + 1 + 1 by omega]
    simp only [List.set_cons_succ, cellsE_cons, List.getElem_cons_succ]
    rw [cellsE_set1 es k (by simpa using h) q]

/-- the block of a slice's address -/
def blk : Option Addr → Option Nat
  | some a => some a.block
  | none => none
theorem ownBlock_slice (A : Option Addr) (n c : Nat) : (Value.slice A n c).ownBlock = blk A := by cases A <;> rfl

/-- the slice of edges at A is a row of the call's own, in a block from base on -/
def OwnE (w : World) (base : Nat) (t : TypeId) (A : Option Addr) (c : Nat) (es : List (Int × Int)) : Prop := w.ownsRow base t 2 (.slice A es.length c) es.length (cellsE es)
/-- the same of numbers -/
def OwnI (w : World) (base : Nat) (t : TypeId) (A : Option Addr) (c : Nat) (xs : List Int) : Prop := w.ownsRow base t 1 (.slice A xs.length c) xs.length (xs.map V)

theorem Nx.grownNone {a w : World} (h : Nx a w) : a.grownBy w none := ⟨h.os, h.tape, h.output, h.size, fun k hk _ => h.block k hk⟩

section
variable {w w' : World} {base base' : Nat} {t : TypeId} {A : Option Addr} {c : Nat} {es : List (Int × Int)} {xs : List Int}
theorem OwnE.nil (w : World) (base : Nat) (t : TypeId) : OwnE w base t none 0 [] := World.ownsRow_nil w base t 2
theorem OwnI.nil (w : World) (base : Nat) (t : TypeId) : OwnI w base t none 0 [] := World.ownsRow_nil w base t 1
theorem OwnE.empty (w : World) (base : Nat) (t : TypeId) (hb : base ≤ w.heap.size) : OwnE (w.alloc (.cells #[] t)) base t (some ⟨w.heap.size, 0, none⟩) 0 [] :=
  World.ownsRow_lit w #[] 0 hb (by simp [maxLen]) rfl
theorem OwnI.empty (w : World) (base : Nat) (t : TypeId) (hb : base ≤ w.heap.size) : OwnI (w.alloc (.cells #[] t)) base t (some ⟨w.heap.size, 0, none⟩) 0 [] :=
  World.ownsRow_lit w #[] 0 hb (by simp [maxLen]) rfl
theorem OwnE.nx (h : OwnE w base t A c es) (hn : Nx w w') : OwnE w' base t A c es := World.ownsRow.kept h hn.grownNone (by cases A <;> simp [Value.ownBlock])
theorem OwnI.nx (h : OwnI w base t A c xs) (hn : Nx w w') : OwnI w' base t A c xs := World.ownsRow.kept h hn.grownNone (by cases A <;> simp [Value.ownBlock])
theorem OwnE.kept {row : Option Nat} (h : OwnE w base t A c es) (hg : w.grownBy w' row) (hne : blk A = none ∨ blk A ≠ row) : OwnE w' base t A c es := World.ownsRow.kept h hg (by rwa [ownBlock_slice])
theorem OwnI.kept {row : Option Nat} (h : OwnI w base t A c xs) (hg : w.grownBy w' row) (hne : blk A = none ∨ blk A ≠ row) : OwnI w' base t A c xs := World.ownsRow.kept h hg (by rwa [ownBlock_slice])
theorem OwnE.at (h : OwnE w base t A c es) (hn : 0 < es.length) : ∃ g, A = some ⟨g, 0, none⟩ ∧ base ≤ g ∧ g < w.heap.size := by
  obtain ⟨g, cap, hv, hb, hl⟩ := World.ownsRow.form h hn
  injection hv with hA
  exact ⟨g, hA, hb, hl⟩
theorem OwnI.at (h : OwnI w base t A c xs) (hn : 0 < xs.length) : ∃ g, A = some ⟨g, 0, none⟩ ∧ base ≤ g ∧ g < w.heap.size := by
  obtain ⟨g, cap, hv, hb, hl⟩ := World.ownsRow.form h hn
  injection hv with hA
  exact ⟨g, hA, hb, hl⟩
theorem OwnE.lt (h : OwnE w base t A c es) : ∀ k, blk A = some k → base ≤ k ∧ k < w.heap.size := fun k hk => World.ownsRow.lt h k (by rw [ownBlock_slice]; exact hk)
theorem OwnI.lt (h : OwnI w base t A c xs) : ∀ k, blk A = some k → base ≤ k ∧ k < w.heap.size := fun k hk => World.ownsRow.lt h k (by rw [ownBlock_slice]; exact hk)
theorem OwnE.cap (h : OwnE w base t A c es) : es.length ≤ c := by
  rcases h.2 with ⟨h1, h2⟩ | ⟨g, cap, cur, h1, _, _, h2, _⟩
  · omega
  · injection h1 with _ _ h3; omega
theorem OwnI.cap (h : OwnI w base t A c xs) : xs.length ≤ c := by
  rcases h.2 with ⟨h1, h2⟩ | ⟨g, cap, cur, h1, _, _, h2, _⟩
  · omega
  · injection h1 with _ _ h3; omega
theorem OwnE.cell {g : Nat} (h : OwnE w base t (some ⟨g, 0, none⟩) c es) {k : Nat} (hk : k < es.length) :
    w.cell? ⟨g, k * 2, none⟩ = some (V es[k].1) ∧ w.cell? ⟨g, k * 2 + 1, none⟩ = some (V es[k].2) :=
  ⟨(World.ownsRow.cellAt h _ (by omega)).trans (cellsE_get0 es k hk), (World.ownsRow.cellAt h _ (by omega)).trans (cellsE_get1 es k hk)⟩
theorem OwnI.cell {g : Nat} (h : OwnI w base t (some ⟨g, 0, none⟩) c xs) {k : Nat} (hk : k < xs.length) : w.cell? ⟨g, k, none⟩ = some (V xs[k]) :=
  (World.ownsRow.cellAt h _ (by omega)).trans (by simp [hk])
theorem OwnE.free {g : Nat} (h : OwnE w base t (some ⟨g, 0, none⟩) c es) (j : Nat) : w.frozen? ⟨g, j, none⟩ = false := World.ownsRow.frozenAt h j
theorem OwnI.free {g : Nat} (h : OwnI w base t (some ⟨g, 0, none⟩) c xs) (j : Nat) : w.frozen? ⟨g, j, none⟩ = false := World.ownsRow.frozenAt h j
theorem OwnE.edgesAt (h : OwnE w base t A c es) : EdgesAt w A es := fun hn => by
  obtain ⟨g, rfl, _, hl⟩ := h.at hn
  exact ⟨g, 0, rfl, hl, fun k hk => by have := h.cell hk; simpa using this⟩
theorem OwnI.intsAt (h : OwnI w base t A c xs) : IntsAt w A xs := fun hn => by
  obtain ⟨g, rfl, _, hl⟩ := h.at hn
  exact ⟨g, 0, rfl, hl, fun k hk => by have := h.cell hk; simpa using this⟩
theorem OwnE.set {g : Nat} (h : OwnE w base t (some ⟨g, 0, none⟩) c es) (k : Nat) (p q : Int) :
    OwnE ((w.setCell ⟨g, k * 2, none⟩ (V p)).setCell ⟨g, k * 2 + 1, none⟩ (V q)) base t (some ⟨g, 0, none⟩) c (es.set k (p, q)) := by
  have h1 := (World.ownsRow.stored (World.ownsRow.stored h (k * 2) (V p)).1 (k * 2 + 1) (V q)).1
  rw [cellsE_set] at h1
  unfold OwnE
  rwa [List.length_set]
theorem OwnE.set0 {g : Nat} (h : OwnE w base t (some ⟨g, 0, none⟩) c es) (k : Nat) (hk : k < es.length) (p : Int) :
    OwnE (w.setCell ⟨g, k * 2, none⟩ (V p)) base t (some ⟨g, 0, none⟩) c (es.set k (p, es[k].2)) := by
  have h1 := (World.ownsRow.stored h (k * 2) (V p)).1
  rw [cellsE_set0 es k hk] at h1
  unfold OwnE
  rwa [List.length_set]
theorem OwnE.set1 {g : Nat} (h : OwnE w base t (some ⟨g, 0, none⟩) c es) (k : Nat) (hk : k < es.length) (q : Int) :
    OwnE (w.setCell ⟨g, k * 2 + 1, none⟩ (V q)) base t (some ⟨g, 0, none⟩) c (es.set k (es[k].1, q)) := by
  have h1 := (World.ownsRow.stored h (k * 2 + 1) (V q)).1
  rw [cellsE_set1 es k hk] at h1
  unfold OwnE
  rwa [List.length_set]
theorem OwnI.set {g : Nat} (h : OwnI w base t (some ⟨g, 0, none⟩) c xs) (k : Nat) (p : Int) : OwnI (w.setCell ⟨g, k, none⟩ (V p)) base t (some ⟨g, 0, none⟩) c (xs.set k p) := by
  have h1 := (World.ownsRow.stored h k (V p)).1
  unfold OwnI
  rwa [List.length_set, List.map_set]
theorem OwnE.far (h : OwnE w base t A c es) {p : Addr} (hp : p.block < base) (u : Value) : OwnE (w.setCell p u) base t A c es := ownsRow_setCell_below h hp u
theorem OwnI.far (h : OwnI w base t A c xs) {p : Addr} (hp : p.block < base) (u : Value) : OwnI (w.setCell p u) base t A c xs := ownsRow_setCell_below h hp u
theorem OwnE.mono (h : OwnE w base t A c es) (hb : base' ≤ base) : OwnE w base' t A c es := by
  refine ⟨h.1, ?_⟩
  rcases h.2 with h1 | ⟨g, cap, cur, h1, h2, h3⟩
  · exact .inl h1
  · exact .inr ⟨g, cap, cur, h1, Nat.le_trans hb h2, h3⟩
theorem OwnI.mono (h : OwnI w base t A c xs) (hb : base' ≤ base) : OwnI w base' t A c xs := by
  refine ⟨h.1, ?_⟩
  rcases h.2 with h1 | ⟨g, cap, cur, h1, h2, h3⟩
  · exact .inl h1
  · exact .inr ⟨g, cap, cur, h1, Nat.le_trans hb h2, h3⟩
end

theorem set_pref {α : Type} {xs es : List α} {k : Nat} {e : α} (hx : ∀ j, j < k → xs[j]? = es[j]?) (hk : k < xs.length) (he : es[k]? = some e) : ∀ j, j < k + 1 → (xs.set k e)[j]? = es[j]? := fun j hj => by
  rw [List.getElem?_set]
  split
  · rename_i h; subst h; exact he.symm
  · exact hx j (by omega)
theorem pref_eq {α : Type} {xs es : List α} (hl : xs.length = es.length) (hx : ∀ j, j < es.length → xs[j]? = es[j]?) : xs = es := by
  apply List.ext_getElem?
  intro j
  by_cases h : j < es.length
  · exact hx j h
  · rw [List.getElem?_eq_none (by omega), List.getElem?_eq_none (by omega)]

/-! ### append of one element onto an own row -/
section
variable {P : Program} {w : World} {ops : Array Oper} {rest : List Oper} {o : Oper} {a : Act} {Q : Exit → Act → World → Prop} {s x : Operand} {T t : TypeId} {i : TypeInfo} {z : Value} {base : Nat} {A : Option Addr} {c : Nat}
theorem appE (es : List (Int × Int)) (g : Nat) (p q : Int) (hgd : o.guard = none) (ho : o.op = .call { callee := .builtin .append, args := #[s, x], argTypes := #[T, T] })
    (ht : P.underlying T = some (.slice t)) (hi : P.info? t = some i) (hz : i.zero = some z) (hsize : i.size = 2) (hby : i.bytes = 16) (hzs : z.cells.size = 2)
    (hs : a.eval s = .slice A es.length c) (hown : OwnE w base t A c es) (hx : a.eval x = .slice (some ⟨g, 0, none⟩) 1 1)
    (h0 : w.cell? ⟨g, 0, none⟩ = some (V p)) (h1 : w.cell? ⟨g, 1, none⟩ = some (V q)) (hl : es.length < 1073741824) (hbase : base ≤ w.heap.size)
    (h : ∀ A' c' w', OwnE w' base t A' c' (es ++ [(p, q)]) → (∀ B, B.heap.size ≤ base → Nx B w → Nx B w') → w.grownBy w' (blk A) → (blk A' = blk A ∨ blk A' = some w.heap.size) → wpList P ops Q rest (a.put o.dst (.slice A' (es.length + 1) c')) w') :
    wpList P ops Q (o :: rest) a w := by
  refine wpList_append_own_at (w := w) hgd s x T ho base t i z 2 16 ht hi hz hsize hby hzs (by omega) _ es.length _ hs hown ⟨g, 0, none⟩ 1 1 [V p, V q] hx rfl ?_ ?_ (by simp [maxLen]; omega) (by omega) hbase ?_
  · intro j u hu
    match j, hu with
    | 0, hu => simp at hu; subst hu; simpa [Addr.add] using h0
    | 1, hu => simp at hu; subst hu; simpa [Addr.add] using h1
    | (j + 2), hu => simp at hu
  · intro u hu; simp at hu; rcases hu with rfl | rfl <;> rfl
  · intro v' w' h2 h3 _ h5
    have hform := World.ownsRow.form h2 (by omega)
    obtain ⟨g', cap, rfl, hb', hl'⟩ := hform
    refine h (some ⟨g', 0, none⟩) cap w' ?_ ?_ (by rwa [ownBlock_slice] at h3) (by rwa [ownBlock_slice, ownBlock_slice] at h5)
    · unfold OwnE
      rw [cellsE_append, List.length_append]
      exact h2
    · exact fun B hB hn => Nx.grown hn h3 (fun k hk => by rw [ownBlock_slice] at hk; have := (hown.lt k hk).1; omega)
theorem appI (xs : List Int) (g : Nat) (p : Int) (hgd : o.guard = none) (ho : o.op = .call { callee := .builtin .append, args := #[s, x], argTypes := #[T, T] })
    (ht : P.underlying T = some (.slice t)) (hi : P.info? t = some i) (hz : i.zero = some z) (hsize : i.size = 1) (hby : i.bytes = 8) (hzs : z.cells.size = 1)
    (hs : a.eval s = .slice A xs.length c) (hown : OwnI w base t A c xs) (hx : a.eval x = .slice (some ⟨g, 0, none⟩) 1 1)
    (h0 : w.cell? ⟨g, 0, none⟩ = some (V p)) (hl : xs.length < 1073741824) (hbase : base ≤ w.heap.size)
    (h : ∀ A' c' w', OwnI w' base t A' c' (xs ++ [p]) → (∀ B, B.heap.size ≤ base → Nx B w → Nx B w') → w.grownBy w' (blk A) → (blk A' = blk A ∨ blk A' = some w.heap.size) → wpList P ops Q rest (a.put o.dst (.slice A' (xs.length + 1) c')) w') :
    wpList P ops Q (o :: rest) a w := by
  refine wpList_append_own_at (w := w) hgd s x T ho base t i z 1 8 ht hi hz hsize hby hzs (by omega) _ xs.length _ hs hown ⟨g, 0, none⟩ 1 1 [V p] hx rfl ?_ ?_ (by simp [maxLen]; omega) (by omega) hbase ?_
  · intro j u hu
    match j, hu with
    | 0, hu => simp at hu; subst hu; simpa [Addr.add] using h0
    | (j + 1), hu => simp at hu
  · intro u hu; simp at hu; subst hu; rfl
  · intro v' w' h2 h3 _ h5
    have hform := World.ownsRow.form h2 (by omega)
    obtain ⟨g', cap, rfl, hb', hl'⟩ := hform
    refine h (some ⟨g', 0, none⟩) cap w' ?_ ?_ (by rwa [ownBlock_slice] at h3) (by rwa [ownBlock_slice, ownBlock_slice] at h5)
    · unfold OwnI
      rw [List.map_append, List.length_append]
      exact h2
    · exact fun B hB hn => Nx.grown hn h3 (fun k hk => by rw [ownBlock_slice] at hk; have := (hown.lt k hk).1; omega)
end

/-! ### make -/
theorem run_make_rowN {P : Program} (t e : TypeId) (i : TypeInfo) (z : Value) (ht : P.underlying t = some (.slice e)) (hi : P.info? e = some i) (hz : i.zero = some z)
    (kl kc : IntKind) (n c : Nat) (hnc : n ≤ c) (hbytes : i.bytes * c ≤ 281474976710656) (h63 : c ≤ 9223372036854775807) (w : World) :
    (Instr.makeSlice t (.int kl (n : Int)) (.int kc (c : Int))).run P w = .ok (.slice (some ⟨w.heap.size, 0, none⟩) n c) (w.alloc (.cells (madeCells z.cells (c * i.size)) e)) := by
  have hb : (i.bytes : Int) * (c : Int) ≤ 281474976710656 := by
    have h : ((i.bytes * c : Nat) : Int) ≤ 281474976710656 := by omega
    rwa [Int.natCast_mul] at h
  have hr := run_make (P := P) w t e i z ht hi hz kl kc n c (by omega) (by omega) hb (by omega)
  simp only [Int.toNat_natCast] at hr
  exact hr
theorem madeE (n : Nat) : (madeCells #[V 0, V 0] (n * 2)).toList = cellsE (List.replicate n (0, 0)) := by
  apply List.ext_getElem?
  intro j
  by_cases hj : j < n * 2
  · have hl : (madeCells #[V 0, V 0] (n * 2)).toList[j]? = some (V 0) := by
      simp [madeCells, hj]
      rcases Nat.mod_two_eq_zero_or_one j with h | h <;> simp [h]
    rw [hl]
    rcases Nat.mod_two_eq_zero_or_one j with h | h
    · obtain ⟨k, rfl⟩ : ∃ k, j = k * 2 := ⟨j / 2, by omega⟩
      rw [cellsE_get0 _ k (by simp; omega)]; simp
    · obtain ⟨k, rfl⟩ : ∃ k, j = k * 2 + 1 := ⟨j / 2, by omega⟩
      rw [cellsE_get1 _ k (by simp; omega)]; simp
  · rw [List.getElem?_eq_none (by simp [size_madeCells]; omega), List.getElem?_eq_none (by rw [cellsE_length]; simp; omega)]
theorem OwnE.made {w : World} {base : Nat} {t : TypeId} (n : Nat) (hb : base ≤ w.heap.size) (hn : n ≤ 1099511627776) :
    OwnE (w.alloc (.cells (madeCells #[V 0, V 0] (n * 2)) t)) base t (some ⟨w.heap.size, 0, none⟩) n (List.replicate n (0, 0)) := by
  unfold OwnE
  rw [List.length_replicate, ← madeE]
  exact World.ownsRow_lit w _ n hb (by simp [maxLen]; omega) (size_madeCells _ _)
theorem OwnI.made {w : World} {base : Nat} {t : TypeId} (n : Nat) (hb : base ≤ w.heap.size) (hn : n ≤ 1099511627776) :
    OwnI (w.alloc (.cells (madeCells #[V 0] (n * 1)) t)) base t (some ⟨w.heap.size, 0, none⟩) n (List.replicate n 0) := by
  unfold OwnI
  rw [List.length_replicate, List.map_replicate, ← toList_madeCells_one, Nat.mul_one]
  exact World.ownsRow_lit w _ n hb (by simp [maxLen]; omega) (by rw [size_madeCells]; omega)
end Go.Proofs.Ytbceoigmcomlbaa

/- Contract: slices.Sort of a row of one's own. -/
namespace Go.Proofs.Ytbceoigmcomlbaa
open Go.Shelf
def Try.lays189_ren : Go.Shelf.Ren := ⟨fun | 189 => 43 | 125 => 68 | 257 => 71 | 128 => 87 | 129 => 88 | 294 => 90 | 295 => 91 | 296 => 92 | 297 => 93 | 298 => 94 | 299 => 95 | 216 => 96 | 300 => 97 | 301 => 98 | 328 => 106 | 329 => 102 | 330 => 103 | 331 => 107 | 332 => 108 | 215 => 89 | 343 => 111 | n => n, fun | 28 => 23 | 3 => 3 | 46 => 74 | 0 => 0 | 51 => 94 | 53 => 96 | 4 => 4 | 183 => 87 | 182 => 86 | 131 => 91 | 5 => 5 | 9 => 9 | 218 => 105 | 222 => 109 | 228 => 114 | 229 => 115 | n => n, fun | n => n⟩
theorem Try.lays189 : Go.Proofs.Lays.n189 Try.prog Try.lays189_ren := {
  mixed := by kernel_rfl
  f125 := Try.func68.trans (congrArg some (by kernel_rfl))
  f128 := Try.func87.trans (congrArg some (by kernel_rfl))
  f129 := Try.func88.trans (congrArg some (by kernel_rfl))
  f189 := Try.func43.trans (congrArg some (by kernel_rfl))
  f215 := Try.func89.trans (congrArg some (by kernel_rfl))
  f216 := Try.func96.trans (congrArg some (by kernel_rfl))
  f257 := Try.func71.trans (congrArg some (by kernel_rfl))
  f294 := Try.func90.trans (congrArg some (by kernel_rfl))
  f295 := Try.func91.trans (congrArg some (by kernel_rfl))
  f296 := Try.func92.trans (congrArg some (by kernel_rfl))
  f297 := Try.func93.trans (congrArg some (by kernel_rfl))
  f298 := Try.func94.trans (congrArg some (by kernel_rfl))
  f299 := Try.func95.trans (congrArg some (by kernel_rfl))
  f300 := Try.func97.trans (congrArg some (by kernel_rfl))
  f301 := Try.func98.trans (congrArg some (by kernel_rfl))
  f328 := Try.func106.trans (congrArg some (by kernel_rfl))
  f329 := Try.func102.trans (congrArg some (by kernel_rfl))
  f330 := Try.func103.trans (congrArg some (by kernel_rfl))
  f331 := Try.func107.trans (congrArg some (by kernel_rfl))
  f332 := Try.func108.trans (congrArg some (by kernel_rfl))
  f343 := Try.func111.trans (congrArg some (by kernel_rfl))
  t0 := Try.underlying0
  a0 := Try.isAgg0
  z0 := Try.sizeOf0
  v0 := Try.zeroValue0
  t3 := Try.underlying3
  a3 := Try.isAgg3
  z3 := Try.sizeOf3
  v3 := Try.zeroValue3
  t4 := Try.underlying4
  a4 := Try.isAgg4
  z4 := Try.sizeOf4
  v4 := Try.zeroValue4
  t5 := Try.underlying5
  a5 := Try.isAgg5
  z5 := Try.sizeOf5
  v5 := Try.zeroValue5
  t9 := Try.underlying9
  a9 := Try.isAgg9
  z9 := Try.sizeOf9
  v9 := Try.zeroValue9
  t28 := Try.underlying23
  a28 := Try.isAgg23
  z28 := Try.sizeOf23
  v28 := Try.zeroValue23
  t46 := Try.underlying74
  a46 := Try.isAgg74
  z46 := Try.sizeOf74
  v46 := Try.zeroValue74
  t51 := Try.underlying94
  a51 := Try.isAgg94
  z51 := Try.sizeOf94
  v51 := Try.zeroValue94
  t53 := Try.underlying96
  a53 := Try.isAgg96
  z53 := Try.sizeOf96
  v53 := Try.zeroValue96
  t131 := Try.underlying91
  a131 := Try.isAgg91
  z131 := Try.sizeOf91
  v131 := Try.zeroValue91
  t182 := Try.underlying86
  a182 := Try.isAgg86
  z182 := Try.sizeOf86
  v182 := Try.zeroValue86
  t183 := Try.underlying87
  a183 := Try.isAgg87
  z183 := Try.sizeOf87
  v183 := Try.zeroValue87
  t218 := Try.underlying105
  a218 := Try.isAgg105
  z218 := Try.sizeOf105
  v218 := Try.zeroValue105
  t222 := Try.underlying109
  a222 := Try.isAgg109
  z222 := Try.sizeOf109
  v222 := Try.zeroValue109
  t228 := Try.underlying114
  a228 := Try.isAgg114
  z228 := Try.sizeOf114
  v228 := Try.zeroValue114
  t229 := Try.underlying115
  a229 := Try.isAgg115
  z229 := Try.sizeOf115
  v229 := Try.zeroValue115 }
end Go.Proofs.Ytbceoigmcomlbaa
namespace Go.Proofs.Ytbceoigmcomlbaa
open Go.RowKit set_option linter.unusedVariables false set_option linter.unusedSimpArgs false

/-- sorted -/
def srtI (xs : List Int) : List Int := xs.mergeSort fun x y => decide (x ≤ y)
theorem srtI_length (xs : List Int) : (srtI xs).length = xs.length := List.length_mergeSort _
def Sorted (base : Nat) (A : Option Addr) (c : Nat) (xs : List Int) (w : World) (e : Ending) (w' : World) : Prop :=
  e = .returned (.tuple #[]) ∧ OwnI w' base 3 A c (srtI xs) ∧ w.grownBy w' (blk A)
theorem sortI_c (base : Nat) (A : Option Addr) (c : Nat) (xs : List Int) (w : World) (h : OwnI w base 3 A c xs) (hl : xs.length ≤ 1048576) :
    Calls Try.prog 43 #[.slice A xs.length c] w (Sorted base A c xs w) := by
  by_cases h0 : xs = []
  · subst h0
    refine (Any.slices_Sort_int_none Try.lays189 A c w).mono ?_
    rintro e w' ⟨rfl, rfl⟩
    exact ⟨rfl, by simpa [srtI] using h, World.grownBy.refl _ _⟩
  · have h1 := h
    obtain ⟨_, h2 | ⟨g, cap, cur, hv, hb, hg, hle, hm, hs, ht⟩⟩ := h1
    · exact absurd (by simpa using h2.2) h0
    · injection hv with hA _ hc
      subst hA hc
      refine (Any.slices_Sort_int Try.lays189 g 0 c xs w (holds_of_blockI hg (by simpa using ht)) (Array.getElem?_eq_some_iff.1 hg).1 (by omega)).mono ?_
      rintro e w' ⟨rfl, n, os, rfl⟩
      have hlen := srtI_length xs
      have ho := ownsRow_sortedI (os := os) (n := n) (w := w) (g := g) (cap := c) (e := 3) (cur := cur) (ss := xs) (ts := srtI xs) hlen hb hg hle hm hs
      refine ⟨rfl, ?_, grownBy_sortedI _⟩
      unfold OwnI
      rw [hlen]
      exact ho
end Go.Proofs.Ytbceoigmcomlbaa

/- Plain law: connected nodes, labels of connected parts; the rounds of the program and of the reference lead to the same labels. No program in sight. -/
namespace Go.Proofs.Ytbceoigmcomlbaa

abbrev Es := List (Int × Int)

/-- two nodes are joined by an edge -/
def Adj (es : Es) (x y : Int) : Prop := (x, y) ∈ es ∨ (y, x) ∈ es
theorem Adj.symm {es : Es} {x y : Int} (h : Adj es x y) : Adj es y x := Or.symm h

inductive Conn (es : Es) (x : Int) : Int → Prop
  | refl : Conn es x x
  | step {y z : Int} : Conn es x y → Adj es y z → Conn es x z

theorem Conn.trans {es : Es} {x y z : Int} (h : Conn es x y) (k : Conn es y z) : Conn es x z := by
  induction k with
  | refl => exact h
  | step _ a ih => exact .step ih a
theorem Conn.one {es : Es} {x y : Int} (h : Adj es x y) : Conn es x y := .step .refl h
theorem Conn.symm {es : Es} {x y : Int} (h : Conn es x y) : Conn es y x := by
  induction h with
  | refl => exact .refl
  | step _ a ih => exact (Conn.one a.symm).trans ih
theorem Conn.mono {es es' : Es} (hs : ∀ e ∈ es, e ∈ es') {x y : Int} (h : Conn es x y) : Conn es' x y := by
  induction h with
  | refl => exact .refl
  | step _ a ih => exact .step ih (a.imp (hs _) (hs _))

/-- the entry of a list at a node -/
def lk (L : List Int) (x : Int) : Int := L[x.toNat]?.getD 0
def up (L : List Int) (x v : Int) : List Int := L.set x.toNat v
theorem up_length (L : List Int) (x v : Int) : (up L x v).length = L.length := by simp [up]
theorem lk_up_same {L : List Int} {x v : Int} (h0 : 0 ≤ x) (h : x < L.length) : lk (up L x v) x = v := by
  unfold lk up
  rw [List.getElem?_set_self (by omega)]; rfl
theorem lk_up_ne {L : List Int} {x y v : Int} (h0 : 0 ≤ x) (h1 : 0 ≤ y) (h : x ≠ y) : lk (up L x v) y = lk L y := by
  unfold lk up
  rw [List.getElem?_set_ne (by omega)]
theorem lk_ext {L M : List Int} (hl : L.length = M.length) (h : ∀ x : Int, 0 ≤ x → x < L.length → lk L x = lk M x) : L = M := by
  apply List.ext_getElem hl
  intro i h1 h2
  have := h i (by omega) (by omega)
  simpa [lk, h1, h2] using this

/-- all ends of edges are nodes -/
def InR (n : Nat) (es : Es) : Prop := ∀ e ∈ es, 0 ≤ e.1 ∧ e.1 < n ∧ 0 ≤ e.2 ∧ e.2 < n
theorem InR.adj {n : Nat} {es : Es} (h : InR n es) {x y : Int} (a : Adj es x y) : 0 ≤ x ∧ x < n ∧ 0 ≤ y ∧ y < n := by
  rcases a with a | a
  · exact h _ a
  · have := h _ a; exact ⟨this.2.2.1, this.2.2.2, this.1, this.2.1⟩
theorem InR.conn {n : Nat} {es : Es} (h : InR n es) {x y : Int} (c : Conn es x y) (h0 : 0 ≤ x) (h1 : x < n) : 0 ≤ y ∧ y < n := by
  induction c with
  | refl => exact ⟨h0, h1⟩
  | step _ a _ => have := h.adj a; exact ⟨this.2.2.1, this.2.2.2⟩

/-- labels on the way: each one is a connected node, and not greater -/
def Lab0 (n : Nat) (es : Es) (L : List Int) : Prop := L.length = n ∧ ∀ x : Int, 0 ≤ x → x < n → 0 ≤ lk L x ∧ lk L x ≤ x ∧ Conn es x (lk L x)
/-- labels in the end: equal at both ends of each edge -/
def IsLab (n : Nat) (es : Es) (L : List Int) : Prop := Lab0 n es L ∧ ∀ e ∈ es, lk L e.1 = lk L e.2

theorem IsLab.const {n : Nat} {es : Es} {L : List Int} (h : IsLab n es L) {x y : Int} (c : Conn es x y) : lk L x = lk L y := by
  induction c with
  | refl => rfl
  | step _ a ih =>
    rw [ih]
    rcases a with a | a
    · exact h.2 _ a
    · exact (h.2 _ a).symm
theorem IsLab.unique {n : Nat} {es : Es} {L M : List Int} (hL : IsLab n es L) (hM : IsLab n es M) (hr : InR n es) : L = M := by
  refine lk_ext (hL.1.1.trans hM.1.1.symm) fun x h0 h1 => ?_
  rw [hL.1.1] at h1
  have a := hL.1.2 x h0 h1
  have b := hM.1.2 x h0 h1
  have c1 : lk L x ≤ lk M x := by
    have hb := hr.conn b.2.2 h0 h1
    rw [hL.const b.2.2]; exact (hL.1.2 _ hb.1 hb.2).2.1
  have c2 : lk M x ≤ lk L x := by
    have hb := hr.conn a.2.2 h0 h1
    rw [hM.const a.2.2]; exact (hM.1.2 _ hb.1 hb.2).2.1
  omega
theorem IsLab.iff {n : Nat} {es : Es} {L : List Int} (h : IsLab n es L) {x y : Int} (hx : 0 ≤ x ∧ x < n) (hy : 0 ≤ y ∧ y < n) : lk L x = lk L y ↔ Conn es x y :=
  ⟨fun e => (h.1.2 x hx.1 hx.2).2.2.trans (e ▸ (h.1.2 y hy.1 hy.2).2.2.symm), h.const⟩

open Classical in
/-- the labels of the connected parts -/
noncomputable def labels (n : Nat) (es : Es) : List Int := if h : ∃ L, IsLab n es L then Classical.choose h else []
theorem labels_eq {n : Nat} {es : Es} {L : List Int} (h : IsLab n es L) (hr : InR n es) : labels n es = L := by
  have hex : ∃ L, IsLab n es L := ⟨L, h⟩
  unfold labels
  rw [dif_pos hex]
  exact (Classical.choose_spec hex).unique h hr

/-- one edge's turn -/
def relax1 (L : List Int) (e : Int × Int) : List Int := up (up L e.1 (min (lk L e.1) (lk L e.2))) e.2 (min (lk L e.1) (lk L e.2))
def pass (es : Es) (L : List Int) : List Int := es.foldl relax1 L
theorem relax1_length (L : List Int) (e : Int × Int) : (relax1 L e).length = L.length := by simp [relax1, up_length]

theorem lk_relax1 {n : Nat} {L : List Int} {e : Int × Int} (hl : L.length = n) (he : 0 ≤ e.1 ∧ e.1 < n ∧ 0 ≤ e.2 ∧ e.2 < n) {x : Int} (hx : 0 ≤ x) :
    lk (relax1 L e) x = if x = e.1 ∨ x = e.2 then min (lk L e.1) (lk L e.2) else lk L x := by
  obtain ⟨h1, h2, h3, h4⟩ := he
  unfold relax1
  by_cases a : x = e.2
  · subst a
    rw [if_pos (Or.inr rfl), lk_up_same h3 (by rw [up_length, hl]; exact h4)]
  · rw [lk_up_ne h3 hx (Ne.symm a)]
    by_cases b : x = e.1
    · subst b
      rw [if_pos (Or.inl rfl), lk_up_same h1 (by omega)]
    · rw [if_neg (by simp [a, b]), lk_up_ne h1 hx (Ne.symm b)]

theorem Lab0.relax {n : Nat} {es : Es} {L : List Int} (h : Lab0 n es L) (hr : InR n es) {e : Int × Int} (he : e ∈ es) : Lab0 n es (relax1 L e) := by
  have her := hr e he
  refine ⟨(relax1_length L e).trans h.1, fun x h0 h1 => ?_⟩
  rw [lk_relax1 h.1 her h0]
  have a := h.2 e.1 her.1 her.2.1
  have b := h.2 e.2 her.2.2.1 her.2.2.2
  have cab : Conn es e.1 e.2 := .one (Or.inl he)
  split
  · rename_i hx
    have key : Conn es e.1 (min (lk L e.1) (lk L e.2)) := by
      rcases Int.le_total (lk L e.1) (lk L e.2) with hm | hm
      · rw [Int.min_eq_left hm]; exact a.2.2
      · rw [Int.min_eq_right hm]; exact cab.trans b.2.2
    rcases hx with rfl | rfl
    · exact ⟨by omega, by omega, key⟩
    · exact ⟨by omega, by omega, cab.symm.trans key⟩
  · exact h.2 x h0 h1
theorem Lab0.foldl {n : Nat} {es : Es} (hr : InR n es) : ∀ (l : Es), (∀ e ∈ l, e ∈ es) → ∀ {L : List Int}, Lab0 n es L → Lab0 n es (l.foldl relax1 L)
  | [], _, _, h => h
  | e :: l, hs, _, h => Lab0.foldl hr l (fun x hx => hs x (List.mem_cons_of_mem _ hx)) (h.relax hr (hs e (List.mem_cons_self)))

/-- m is the least node of its part -/
def Least (es : Es) (m : Int) : Prop := ∀ z, Conn es m z → 0 ≤ z → m ≤ z

theorem keep_m {n : Nat} {es : Es} (hr : InR n es) {m : Int} (hm : Least es m) : ∀ (l : Es), (∀ e ∈ l, e ∈ es) → ∀ {L : List Int}, Lab0 n es L → ∀ {y : Int}, 0 ≤ y → y < n → Conn es m y → lk L y = m → lk (l.foldl relax1 L) y = m
  | [], _, _, _, _, _, _, _, h => h
  | e :: l, hs, L, hL, y, h0, h1, c, h => by
    have he := hs e (List.mem_cons_self)
    have her := hr e he
    refine keep_m hr hm l (fun x hx => hs x (List.mem_cons_of_mem _ hx)) (hL.relax hr he) h0 h1 c ?_
    rw [lk_relax1 hL.1 her h0]
    split
    · rename_i hx
      have a := hL.2 e.1 her.1 her.2.1
      have b := hL.2 e.2 her.2.2.1 her.2.2.2
      have cab : Conn es e.1 e.2 := .one (Or.inl he)
      rcases hx with rfl | rfl
      · have := hm _ (c.trans (cab.trans b.2.2)) b.1; omega
      · have := hm _ (c.trans (cab.symm.trans a.2.2)) a.1; omega
    · exact h
theorem spread_m {n : Nat} {es : Es} (hr : InR n es) {m : Int} (hm : Least es m) : ∀ (l : Es), (∀ e ∈ l, e ∈ es) → ∀ {L : List Int}, Lab0 n es L → ∀ {y z : Int}, Conn es m y → lk L y = m → Adj l y z → lk (l.foldl relax1 L) z = m
  | [], _, _, _, _, _, _, _, h => by rcases h with h | h <;> simp at h
  | e :: l, hs, L, hL, y, z, c, h, a => by
    have he := hs e (List.mem_cons_self)
    have her := hr e he
    have hs' : ∀ x ∈ l, x ∈ es := fun x hx => hs x (List.mem_cons_of_mem _ hx)
    have aes : Adj es y z := a.imp (hs _) (hs _)
    have hyz := hr.adj aes
    have b1 := hL.2 e.1 her.1 her.2.1
    have b2 := hL.2 e.2 her.2.2.1 her.2.2.2
    have bz := hL.2 z hyz.2.2.1 hyz.2.2.2
    have cz : Conn es m z := .step c aes
    have hz := hm _ (cz.trans bz.2.2) bz.1
    by_cases hh : e = (y, z) ∨ e = (z, y)
    · refine keep_m hr hm l hs' (hL.relax hr he) hyz.2.2.1 hyz.2.2.2 cz ?_
      rw [lk_relax1 hL.1 her hyz.2.2.1]
      rcases hh with rfl | rfl
      · rw [if_pos (Or.inr rfl)]; simp only; omega
      · rw [if_pos (Or.inl rfl)]; simp only; omega
    · have a' : Adj l y z := by
        rcases a with a | a
        · rcases List.mem_cons.1 a with a | a
          · exact absurd (Or.inl a.symm) hh
          · exact Or.inl a
        · rcases List.mem_cons.1 a with a | a
          · exact absurd (Or.inr a.symm) hh
          · exact Or.inr a
      refine spread_m hr hm l hs' (hL.relax hr he) c ?_ a'
      exact keep_m hr hm [e] (fun x hx => by simp at hx; exact hx ▸ he) hL hyz.1 hyz.2.1 c h

/-- within so many edges of m -/
def Within (es : Es) (m : Int) : Nat → Int → Prop
  | 0, y => y = m
  | r + 1, y => Within es m r y ∨ ∃ z, Within es m r z ∧ Adj es z y
theorem Within.conn {es : Es} {m : Int} : ∀ (r : Nat) (y : Int), Within es m r y → Conn es m y
  | 0, _, h => h ▸ .refl
  | r + 1, y, h => by
    rcases h with h | ⟨z, h, a⟩
    · exact Within.conn r y h
    · exact .step (Within.conn r z h) a

theorem countP_lt {l : List Nat} {p q : Nat → Bool} (hpq : ∀ x ∈ l, p x = true → q x = true) {y : Nat} (hy : y ∈ l) (hq : q y = true) (hp : p y = false) : l.countP p < l.countP q := by
  induction l with
  | nil => simp at hy
  | cons a l ih =>
    rw [List.countP_cons, List.countP_cons]
    have hle : l.countP p ≤ l.countP q := List.countP_mono_left (fun x hx => hpq x (List.mem_cons_of_mem _ hx))
    rcases List.mem_cons.1 hy with rfl | hy
    · rw [hq, hp]; simp; omega
    · have := ih (fun x hx => hpq x (List.mem_cons_of_mem _ hx)) hy
      have : p a = true → q a = true := hpq a (List.mem_cons_self)
      cases hpa : p a <;> cases hqa : q a <;> simp_all <;> omega

open Classical in
theorem within_closed {n : Nat} {es : Es} (hr : InR n es) {m : Int} (h0 : 0 ≤ m) (h1 : m < n) : ∀ y, Within es m (n + 1) y → Within es m n y := by
  have hrange : ∀ r y, Within es m r y → 0 ≤ y ∧ y < n := fun r y h => hr.conn (h.conn) h0 h1
  have key : ∀ r, (∀ y, Within es m (r + 1) y → Within es m r y) ∨ r + 1 ≤ (List.range n).countP fun (y : Nat) => decide (Within es m r (y : Int)) := by
    intro r
    induction r with
    | zero =>
      right
      have : 0 < (List.range n).countP fun (y : Nat) => decide (Within es m 0 (y : Int)) := List.countP_pos_iff.2 ⟨m.toNat, List.mem_range.2 (by omega), by simp [Within]; omega⟩
      omega
    | succ r ih =>
      rcases ih with ih | ih
      · left
        intro y h
        rcases h with h | ⟨z, h, a⟩
        · exact h
        · exact Or.inr ⟨z, ih z h, a⟩
      · by_cases hc : ∀ y, Within es m (r + 1) y → Within es m r y
        · left
          intro y h
          rcases h with h | ⟨z, h, a⟩
          · exact h
          · exact Or.inr ⟨z, hc z h, a⟩
        · right
          obtain ⟨y, hy⟩ := Classical.not_forall.1 hc
          obtain ⟨hy1, hy2⟩ := Classical.not_imp.1 hy
          have hb := hrange _ _ hy1
          have hyc : ((y.toNat : Nat) : Int) = y := by omega
          have := countP_lt (l := List.range n) (p := fun (y : Nat) => decide (Within es m r (y : Int))) (q := fun (y : Nat) => decide (Within es m (r + 1) (y : Int)))
            (fun x _ hx => by simp at hx ⊢; exact Or.inl hx) (y := y.toNat) (List.mem_range.2 (by omega)) (by rw [hyc]; simpa using hy1) (by rw [hyc]; simpa using hy2)
          omega
  rcases key n with h | h
  · exact h
  · have := List.countP_le_length (p := fun y : Nat => decide (Within es m n (y : Int))) (l := List.range n)
    rw [List.length_range] at this
    omega

theorem conn_within {n : Nat} {es : Es} (hr : InR n es) {m y : Int} (h0 : 0 ≤ m) (h1 : m < n) (c : Conn es m y) : Within es m n y := by
  have hc := within_closed hr h0 h1
  induction c with
  | refl =>
    have : ∀ r, Within es m r m := fun r => by
      induction r with
      | zero => rfl
      | succ r ih => exact Or.inl ih
    exact this n
  | step _ a ih => exact hc _ (Or.inr ⟨_, ih, a⟩)

def idL (n : Nat) : List Int := (List.range n).map fun (i : Nat) => (i : Int)
theorem idL_lk {n : Nat} {x : Int} (h0 : 0 ≤ x) (h1 : x < n) : lk (idL n) x = x := by
  unfold lk idL
  rw [List.getElem?_map, List.getElem?_range (by omega)]
  simp; omega
theorem idL_lab0 (n : Nat) (es : Es) : Lab0 n es (idL n) := ⟨by simp [idL], fun x h0 h1 => by rw [idL_lk h0 h1]; exact ⟨h0, Int.le_refl _, .refl⟩⟩

/-- so many rounds -/
def passes (es : Es) : Nat → List Int → List Int
  | 0, L => L
  | r + 1, L => pass es (passes es r L)
theorem passes_lab0 {n : Nat} {es : Es} (hr : InR n es) : ∀ r, Lab0 n es (passes es r (idL n))
  | 0 => idL_lab0 n es
  | r + 1 => Lab0.foldl hr es (fun _ h => h) (passes_lab0 hr r)
theorem passes_within {n : Nat} {es : Es} (hr : InR n es) {m : Int} (hm : Least es m) (h0 : 0 ≤ m) (h1 : m < n) : ∀ r y, Within es m r y → lk (passes es r (idL n)) y = m
  | 0, y, h => by
    have h : y = m := h
    subst h; exact idL_lk h0 h1
  | r + 1, y, h => by
    rcases h with h | ⟨z, h, a⟩
    · have hc := h.conn
      have hb := hr.conn hc h0 h1
      exact keep_m hr hm es (fun _ h => h) (passes_lab0 hr r) hb.1 hb.2 hc (passes_within hr hm h0 h1 r y h)
    · exact spread_m hr hm es (fun _ h => h) (passes_lab0 hr r) h.conn (passes_within hr hm h0 h1 r z h) a

theorem least_exists {n : Nat} {es : Es} (hr : InR n es) {x : Int} (h0 : 0 ≤ x) (h1 : x < n) : ∃ m, Conn es x m ∧ 0 ≤ m ∧ m < n ∧ Least es m := by
  have key : ∀ (k : Nat) (x : Int), 0 ≤ x → x < n → x.toNat ≤ k → ∃ m, Conn es x m ∧ 0 ≤ m ∧ m < n ∧ Least es m := by
    intro k
    induction k with
    | zero =>
      intro x h0 h1 hk
      exact ⟨x, .refl, h0, h1, fun z _ hz => by omega⟩
    | succ k ih =>
      intro x h0 h1 hk
      by_cases h : ∀ z, Conn es x z → 0 ≤ z → x ≤ z
      · exact ⟨x, .refl, h0, h1, h⟩
      · obtain ⟨z, hz⟩ := Classical.not_forall.1 h
        obtain ⟨hz1, hz⟩ := Classical.not_imp.1 hz
        obtain ⟨hz2, hz3⟩ := Classical.not_imp.1 hz
        obtain ⟨m, c, r⟩ := ih z hz2 (hr.conn hz1 h0 h1).2 (by omega)
        exact ⟨m, hz1.trans c, r⟩
  exact key x.toNat x h0 h1 (Nat.le_refl _)

/-- as many rounds as there are nodes lead to the labels -/
theorem passes_isLab {n : Nat} {es : Es} (hr : InR n es) : IsLab n es (passes es n (idL n)) := by
  refine ⟨passes_lab0 hr n, fun e he => ?_⟩
  have her := hr e he
  obtain ⟨m, c, h0, h1, hm⟩ := least_exists hr her.1 her.2.1
  have c2 : Conn es m e.2 := .step c.symm (Or.inl he)
  rw [passes_within hr hm h0 h1 n e.1 (conn_within hr h0 h1 c.symm), passes_within hr hm h0 h1 n e.2 (conn_within hr h0 h1 c2)]
theorem labels_isLab {n : Nat} {es : Es} (hr : InR n es) : IsLab n es (labels n es) := by
  rw [labels_eq (passes_isLab hr) hr]; exact passes_isLab hr
theorem labels_length {n : Nat} {es : Es} (hr : InR n es) : (labels n es).length = n := (labels_isLab hr).1.1
theorem labels_iff {n : Nat} {es : Es} (hr : InR n es) {x y : Int} (hx : 0 ≤ x ∧ x < n) (hy : 0 ≤ y ∧ y < n) : lk (labels n es) x = lk (labels n es) y ↔ Conn es x y := (labels_isLab hr).iff hx hy
theorem labels_bd {n : Nat} {es : Es} (hr : InR n es) {x : Int} (h0 : 0 ≤ x) (h1 : x < n) : 0 ≤ lk (labels n es) x ∧ lk (labels n es) x ≤ x := ⟨((labels_isLab hr).1.2 x h0 h1).1, ((labels_isLab hr).1.2 x h0 h1).2.1⟩
end Go.Proofs.Ytbceoigmcomlbaa

/- Plain law: a turn of an edge, as the reference makes it; the sum of the labels goes down. -/
namespace Go.Proofs.Ytbceoigmcomlbaa

def sumN (L : List Int) : Nat := (L.map Int.toNat).sum
theorem sumN_set : ∀ (L : List Int) (i : Nat) (h : i < L.length) (v : Int), sumN (L.set i v) + L[i].toNat = sumN L + v.toNat
  | [], i, h, _ => by simp at h
  | a :: L, 0, _, v => by simp [sumN]; omega
  | a :: L, i + 1, h, v => by
    have := sumN_set L i (by simpa using h) v
    simp [sumN] at this ⊢
    omega
theorem up_self {L : List Int} {x : Int} (h0 : 0 ≤ x) (h : x < L.length) : up L x (lk L x) = L := by
  unfold up lk
  apply List.ext_getElem?
  intro j
  rw [List.getElem?_set]
  split
  · rename_i hj; subst hj; simp [show x.toNat < L.length by omega]
  · rfl
theorem sumN_up {L : List Int} {x v : Int} (h0 : 0 ≤ x) (h : x < L.length) (h1 : 0 ≤ v) (h2 : v < lk L x) : sumN (up L x v) < sumN L := by
  have := sumN_set L x.toNat (by omega) v
  unfold lk at h2
  rw [List.getElem?_eq_getElem (by omega)] at h2
  simp at h2
  unfold up
  omega
theorem relax_lt {n : Nat} {L : List Int} {e : Int × Int} (hl : L.length = n) (he : 0 ≤ e.1 ∧ e.1 < n ∧ 0 ≤ e.2 ∧ e.2 < n) (h : lk L e.1 < lk L e.2) : relax1 L e = up L e.2 (lk L e.1) := by
  unfold relax1
  rw [Int.min_eq_left (by omega), up_self he.1 (by omega)]
theorem relax_gt {n : Nat} {L : List Int} {e : Int × Int} (hl : L.length = n) (he : 0 ≤ e.1 ∧ e.1 < n ∧ 0 ≤ e.2 ∧ e.2 < n) (hne : e.1 ≠ e.2) (h : lk L e.2 < lk L e.1) : relax1 L e = up L e.1 (lk L e.2) := by
  unfold relax1
  rw [Int.min_eq_right (by omega)]
  have h1 : lk (up L e.1 (lk L e.2)) e.2 = lk L e.2 := lk_up_ne he.1 he.2.2.1 hne
  have h2 : (up L e.1 (lk L e.2)).length = L.length := up_length _ _ _
  have h3 := up_self (L := up L e.1 (lk L e.2)) he.2.2.1 (by omega)
  rw [h1] at h3
  exact h3
theorem relax_eq {n : Nat} {L : List Int} {e : Int × Int} (hl : L.length = n) (he : 0 ≤ e.1 ∧ e.1 < n ∧ 0 ≤ e.2 ∧ e.2 < n) (h : lk L e.1 = lk L e.2) : relax1 L e = L := by
  unfold relax1
  rw [← h, Int.min_self, up_self he.1 (by omega)]
  rw [h]; exact up_self he.2.2.1 (by omega)
end Go.Proofs.Ytbceoigmcomlbaa
