/- Rows that the call itself made: rows of edges (two cells an element), of numbers (one cell). No program in sight. -/
import Derived.Test.YtekepbcmjfdcjaaDoorK
namespace Go.Proofs.YtekepbcmjfdcjaaDoor
open Go.RowKit

def cellsE (es : List (Int × Int)) : List Value := es.flatMap fun e => [V e.1, V e.2]
@[simp] theorem cellsE_nil : cellsE [] = [] := rfl
theorem cellsE_cons (e : Int × Int) (es : List (Int × Int)) : cellsE (e :: es) = V e.1 :: V e.2 :: cellsE es := rfl
theorem cellsE_append (a b : List (Int × Int)) : cellsE (a ++ b) = cellsE a ++ cellsE b := by simp [cellsE]
theorem cellsE_length (es : List (Int × Int)) : (cellsE es).length = es.length * 2 := by
  induction es with
  | nil => rfl
  | cons e es ih => simp [cellsE_cons, ih]; omega
theorem cellsE_get0 : ∀ (es : List (Int × Int)) (k : Nat) (h : k < es.length), (cellsE es)[k * 2]? = some (V es[k].1)
  | [], k, h => by simp at h
  | e :: es, 0, _ => by simp [cellsE_cons]
  | e :: es, k + 1, h => by
    rw [cellsE_cons, show (k + 1) * 2 = (k * 2) + 1 + 1 by omega]
    simp only [List.getElem?_cons_succ, List.getElem_cons_succ]
    exact cellsE_get0 es k (by simpa using h)
theorem cellsE_get1 : ∀ (es : List (Int × Int)) (k : Nat) (h : k < es.length), (cellsE es)[k * 2 + 1]? = some (V es[k].2)
  | [], k, h => by simp at h
  | e :: es, 0, _ => by simp [cellsE_cons]
  | e :: es, k + 1, h => by
    rw [cellsE_cons, show (k + 1) * 2 + 1 = (k * 2 + 1) + 1 + 1 by omega]
    simp only [List.getElem?_cons_succ, List.getElem_cons_succ]
    exact cellsE_get1 es k (by simpa using h)
theorem cellsE_set : ∀ (es : List (Int × Int)) (k : Nat) (p q : Int), ((cellsE es).set (k * 2) (V p)).set (k * 2 + 1) (V q) = cellsE (es.set k (p, q))
  | [], k, p, q => by simp
  | e :: es, 0, p, q => by simp [cellsE_cons]
  | e :: es, k + 1, p, q => by
    rw [cellsE_cons, show (k + 1) * 2 = (k * 2) + 1 + 1 by omega, show (k * 2) + 1 + 1 + 1 = (k * 2 + 1) + 1 + 1 by omega]
    simp only [List.set_cons_succ, cellsE_cons]
    rw [cellsE_set es k p q]
theorem cellsE_set0 : ∀ (es : List (Int × Int)) (k : Nat) (h : k < es.length) (p : Int), (cellsE es).set (k * 2) (V p) = cellsE (es.set k (p, es[k].2))
  | [], k, h, p => by simp at h
  | e :: es, 0, _, p => by simp [cellsE_cons]
  | e :: es, k + 1, h, p => by
    rw [cellsE_cons, show (k + 1) * 2 = (k * 2) + 1 + 1 by omega]
    simp only [List.set_cons_succ, cellsE_cons, List.getElem_cons_succ]
    rw [cellsE_set0 es k (by simpa using h) p]
theorem cellsE_set1 : ∀ (es : List (Int × Int)) (k : Nat) (h : k < es.length) (q : Int), (cellsE es).set (k * 2 + 1) (V q) = cellsE (es.set k (es[k].1, q))
  | [], k, h, q => by simp at h
  | e :: es, 0, _, q => by simp [cellsE_cons]
  | e :: es, k + 1, h, q => by
    rw [cellsE_cons, show (k + 1) * 2 + 1 = (k * 2 + 1) + 1 + 1 by omega]
    simp only [List.set_cons_succ, cellsE_cons, List.getElem_cons_succ]
    rw [cellsE_set1 es k (by simpa using h) q]

/-- the block of a slice's address -/
def blk : Option Addr → Option Nat
  | some a => some a.block
  | none => none
theorem ownBlock_slice (A : Option Addr) (n c : Nat) : (Value.slice A n c).ownBlock = blk A := by cases A <;> rfl

/-- the slice of edges at A is a row of the call's own, in a block from base on -/
def OwnE (w : World) (base : Nat) (t : TypeId) (A : Option Addr) (c : Nat) (es : List (Int × Int)) : Prop := w.ownsRow base t 2 (.slice A es.length c) es.length (cellsE es)
/-- the same of numbers -/
def OwnI (w : World) (base : Nat) (t : TypeId) (A : Option Addr) (c : Nat) (xs : List Int) : Prop := w.ownsRow base t 1 (.slice A xs.length c) xs.length (xs.map V)

theorem Nx.grownNone {a w : World} (h : Nx a w) : a.grownBy w none := ⟨h.os, h.tape, h.output, h.size, fun k hk _ => h.block k hk⟩

section
variable {w w' : World} {base base' : Nat} {t : TypeId} {A : Option Addr} {c : Nat} {es : List (Int × Int)} {xs : List Int}
theorem OwnE.nil (w : World) (base : Nat) (t : TypeId) : OwnE w base t none 0 [] := World.ownsRow_nil w base t 2
theorem OwnI.nil (w : World) (base : Nat) (t : TypeId) : OwnI w base t none 0 [] := World.ownsRow_nil w base t 1
theorem OwnE.empty (w : World) (base : Nat) (t : TypeId) (hb : base ≤ w.heap.size) : OwnE (w.alloc (.cells #[] t)) base t (some ⟨w.heap.size, 0, none⟩) 0 [] :=
  World.ownsRow_lit w #[] 0 hb (by simp [maxLen]) rfl
theorem OwnI.empty (w : World) (base : Nat) (t : TypeId) (hb : base ≤ w.heap.size) : OwnI (w.alloc (.cells #[] t)) base t (some ⟨w.heap.size, 0, none⟩) 0 [] :=
  World.ownsRow_lit w #[] 0 hb (by simp [maxLen]) rfl
theorem OwnE.nx (h : OwnE w base t A c es) (hn : Nx w w') : OwnE w' base t A c es := World.ownsRow.kept h hn.grownNone (by cases A <;> simp [Value.ownBlock])
theorem OwnI.nx (h : OwnI w base t A c xs) (hn : Nx w w') : OwnI w' base t A c xs := World.ownsRow.kept h hn.grownNone (by cases A <;> simp [Value.ownBlock])
theorem OwnE.kept {row : Option Nat} (h : OwnE w base t A c es) (hg : w.grownBy w' row) (hne : blk A = none ∨ blk A ≠ row) : OwnE w' base t A c es := World.ownsRow.kept h hg (by rwa [ownBlock_slice])
theorem OwnI.kept {row : Option Nat} (h : OwnI w base t A c xs) (hg : w.grownBy w' row) (hne : blk A = none ∨ blk A ≠ row) : OwnI w' base t A c xs := World.ownsRow.kept h hg (by rwa [ownBlock_slice])
theorem OwnE.at (h : OwnE w base t A c es) (hn : 0 < es.length) : ∃ g, A = some ⟨g, 0, none⟩ ∧ base ≤ g ∧ g < w.heap.size := by
  obtain ⟨g, cap, hv, hb, hl⟩ := World.ownsRow.form h hn
  injection hv with hA
  exact ⟨g, hA, hb, hl⟩
theorem OwnI.at (h : OwnI w base t A c xs) (hn : 0 < xs.length) : ∃ g, A = some ⟨g, 0, none⟩ ∧ base ≤ g ∧ g < w.heap.size := by
  obtain ⟨g, cap, hv, hb, hl⟩ := World.ownsRow.form h hn
  injection hv with hA
  exact ⟨g, hA, hb, hl⟩
theorem OwnE.lt (h : OwnE w base t A c es) : ∀ k, blk A = some k → base ≤ k ∧ k < w.heap.size := fun k hk => World.ownsRow.lt h k (by rw [ownBlock_slice]; exact hk)
theorem OwnI.lt (h : OwnI w base t A c xs) : ∀ k, blk A = some k → base ≤ k ∧ k < w.heap.size := fun k hk => World.ownsRow.lt h k (by rw [ownBlock_slice]; exact hk)
theorem OwnE.cap (h : OwnE w base t A c es) : es.length ≤ c := by
  rcases h.2 with ⟨h1, h2⟩ | ⟨g, cap, cur, h1, _, _, h2, _⟩
  · omega
  · injection h1 with _ _ h3; omega
theorem OwnI.cap (h : OwnI w base t A c xs) : xs.length ≤ c := by
  rcases h.2 with ⟨h1, h2⟩ | ⟨g, cap, cur, h1, _, _, h2, _⟩
  · omega
  · injection h1 with _ _ h3; omega
theorem OwnE.cell {g : Nat} (h : OwnE w base t (some ⟨g, 0, none⟩) c es) {k : Nat} (hk : k < es.length) :
    w.cell? ⟨g, k * 2, none⟩ = some (V es[k].1) ∧ w.cell? ⟨g, k * 2 + 1, none⟩ = some (V es[k].2) :=
  ⟨(World.ownsRow.cellAt h _ (by omega)).trans (cellsE_get0 es k hk), (World.ownsRow.cellAt h _ (by omega)).trans (cellsE_get1 es k hk)⟩
theorem OwnI.cell {g : Nat} (h : OwnI w base t (some ⟨g, 0, none⟩) c xs) {k : Nat} (hk : k < xs.length) : w.cell? ⟨g, k, none⟩ = some (V xs[k]) :=
  (World.ownsRow.cellAt h _ (by omega)).trans (by simp [hk])
theorem OwnE.free {g : Nat} (h : OwnE w base t (some ⟨g, 0, none⟩) c es) (j : Nat) : w.frozen? ⟨g, j, none⟩ = false := World.ownsRow.frozenAt h j
theorem OwnI.free {g : Nat} (h : OwnI w base t (some ⟨g, 0, none⟩) c xs) (j : Nat) : w.frozen? ⟨g, j, none⟩ = false := World.ownsRow.frozenAt h j
theorem OwnE.edgesAt (h : OwnE w base t A c es) : EdgesAt w A es := fun hn => by
  obtain ⟨g, rfl, _, hl⟩ := h.at hn
  exact ⟨g, 0, rfl, hl, fun k hk => by have := h.cell hk; simpa using this⟩
theorem OwnI.intsAt (h : OwnI w base t A c xs) : IntsAt w A xs := fun hn => by
  obtain ⟨g, rfl, _, hl⟩ := h.at hn
  exact ⟨g, 0, rfl, hl, fun k hk => by have := h.cell hk; simpa using this⟩
theorem OwnE.set {g : Nat} (h : OwnE w base t (some ⟨g, 0, none⟩) c es) (k : Nat) (p q : Int) :
    OwnE ((w.setCell ⟨g, k * 2, none⟩ (V p)).setCell ⟨g, k * 2 + 1, none⟩ (V q)) base t (some ⟨g, 0, none⟩) c (es.set k (p, q)) := by
  have h1 := (World.ownsRow.stored (World.ownsRow.stored h (k * 2) (V p)).1 (k * 2 + 1) (V q)).1
  rw [cellsE_set] at h1
  unfold OwnE
  rwa [List.length_set]
theorem OwnE.set0 {g : Nat} (h : OwnE w base t (some ⟨g, 0, none⟩) c es) (k : Nat) (hk : k < es.length) (p : Int) :
    OwnE (w.setCell ⟨g, k * 2, none⟩ (V p)) base t (some ⟨g, 0, none⟩) c (es.set k (p, es[k].2)) := by
  have h1 := (World.ownsRow.stored h (k * 2) (V p)).1
  rw [cellsE_set0 es k hk] at h1
  unfold OwnE
  rwa [List.length_set]
theorem OwnE.set1 {g : Nat} (h : OwnE w base t (some ⟨g, 0, none⟩) c es) (k : Nat) (hk : k < es.length) (q : Int) :
    OwnE (w.setCell ⟨g, k * 2 + 1, none⟩ (V q)) base t (some ⟨g, 0, none⟩) c (es.set k (es[k].1, q)) := by
  have h1 := (World.ownsRow.stored h (k * 2 + 1) (V q)).1
  rw [cellsE_set1 es k hk] at h1
  unfold OwnE
  rwa [List.length_set]
theorem OwnI.set {g : Nat} (h : OwnI w base t (some ⟨g, 0, none⟩) c xs) (k : Nat) (p : Int) : OwnI (w.setCell ⟨g, k, none⟩ (V p)) base t (some ⟨g, 0, none⟩) c (xs.set k p) := by
  have h1 := (World.ownsRow.stored h k (V p)).1
  unfold OwnI
  rwa [List.length_set, List.map_set]
theorem OwnE.far (h : OwnE w base t A c es) {p : Addr} (hp : p.block < base) (u : Value) : OwnE (w.setCell p u) base t A c es := ownsRow_setCell_below h hp u
theorem OwnI.far (h : OwnI w base t A c xs) {p : Addr} (hp : p.block < base) (u : Value) : OwnI (w.setCell p u) base t A c xs := ownsRow_setCell_below h hp u
theorem OwnE.mono (h : OwnE w base t A c es) (hb : base' ≤ base) : OwnE w base' t A c es := by
  refine ⟨h.1, ?_⟩
  rcases h.2 with h1 | ⟨g, cap, cur, h1, h2, h3⟩
  · exact .inl h1
  · exact .inr ⟨g, cap, cur, h1, Nat.le_trans hb h2, h3⟩
theorem OwnI.mono (h : OwnI w base t A c xs) (hb : base' ≤ base) : OwnI w base' t A c xs := by
  refine ⟨h.1, ?_⟩
  rcases h.2 with h1 | ⟨g, cap, cur, h1, h2, h3⟩
  · exact .inl h1
  · exact .inr ⟨g, cap, cur, h1, Nat.le_trans hb h2, h3⟩
end

theorem set_pref {α : Type} {xs es : List α} {k : Nat} {e : α} (hx : ∀ j, j < k → xs[j]? = es[j]?) (hk : k < xs.length) (he : es[k]? = some e) : ∀ j, j < k + 1 → (xs.set k e)[j]? = es[j]? := fun j hj => by
  rw [List.getElem?_set]
  split
  · rename_i h; subst h; exact he.symm
  · exact hx j (by omega)
theorem pref_eq {α : Type} {xs es : List α} (hl : xs.length = es.length) (hx : ∀ j, j < es.length → xs[j]? = es[j]?) : xs = es := by
  apply List.ext_getElem?
  intro j
  by_cases h : j < es.length
  · exact hx j h
  · rw [List.getElem?_eq_none (by omega), List.getElem?_eq_none (by omega)]

/-! ### append of one element onto an own row -/
section
variable {P : Program} {w : World} {ops : Array Oper} {rest : List Oper} {o : Oper} {a : Act} {Q : Exit → Act → World → Prop} {s x : Operand} {T t : TypeId} {i : TypeInfo} {z : Value} {base : Nat} {A : Option Addr} {c : Nat}
theorem appE (es : List (Int × Int)) (g : Nat) (p q : Int) (hgd : o.guard = none) (ho : o.op = .call { callee := .builtin .append, args := #[s, x], argTypes := #[T, T] })
    (ht : P.underlying T = some (.slice t)) (hi : P.info? t = some i) (hz : i.zero = some z) (hsize : i.size = 2) (hby : i.bytes = 16) (hzs : z.cells.size = 2)
    (hs : a.eval s = .slice A es.length c) (hown : OwnE w base t A c es) (hx : a.eval x = .slice (some ⟨g, 0, none⟩) 1 1)
    (h0 : w.cell? ⟨g, 0, none⟩ = some (V p)) (h1 : w.cell? ⟨g, 1, none⟩ = some (V q)) (hl : es.length < 1073741824) (hbase : base ≤ w.heap.size)
    (h : ∀ A' c' w', OwnE w' base t A' c' (es ++ [(p, q)]) → (∀ B, B.heap.size ≤ base → Nx B w → Nx B w') → w.grownBy w' (blk A) → (blk A' = blk A ∨ blk A' = some w.heap.size) → wpList P ops Q rest (a.put o.dst (.slice A' (es.length + 1) c')) w') :
    wpList P ops Q (o :: rest) a w := by
  refine wpList_append_own_at (w := w) hgd s x T ho base t i z 2 16 ht hi hz hsize hby hzs (by omega) _ es.length _ hs hown ⟨g, 0, none⟩ 1 1 [V p, V q] hx rfl ?_ ?_ (by simp [maxLen]; omega) (by omega) hbase ?_
  · intro j u hu
    match j, hu with
    | 0, hu => simp at hu; subst hu; simpa [Addr.add] using h0
    | 1, hu => simp at hu; subst hu; simpa [Addr.add] using h1
    | (j + 2), hu => simp at hu
  · intro u hu; simp at hu; rcases hu with rfl | rfl <;> rfl
  · intro v' w' h2 h3 _ h5
    have hform := World.ownsRow.form h2 (by omega)
    obtain ⟨g', cap, rfl, hb', hl'⟩ := hform
    refine h (some ⟨g', 0, none⟩) cap w' ?_ ?_ (by rwa [ownBlock_slice] at h3) (by rwa [ownBlock_slice, ownBlock_slice] at h5)
    · unfold OwnE
      rw [cellsE_append, List.length_append]
      exact h2
    · exact fun B hB hn => Nx.grown hn h3 (fun k hk => by rw [ownBlock_slice] at hk; have := (hown.lt k hk).1; omega)
theorem appI (xs : List Int) (g : Nat) (p : Int) (hgd : o.guard = none) (ho : o.op = .call { callee := .builtin .append, args := #[s, x], argTypes := #[T, T] })
    (ht : P.underlying T = some (.slice t)) (hi : P.info? t = some i) (hz : i.zero = some z) (hsize : i.size = 1) (hby : i.bytes = 8) (hzs : z.cells.size = 1)
    (hs : a.eval s = .slice A xs.length c) (hown : OwnI w base t A c xs) (hx : a.eval x = .slice (some ⟨g, 0, none⟩) 1 1)
    (h0 : w.cell? ⟨g, 0, none⟩ = some (V p)) (hl : xs.length < 1073741824) (hbase : base ≤ w.heap.size)
    (h : ∀ A' c' w', OwnI w' base t A' c' (xs ++ [p]) → (∀ B, B.heap.size ≤ base → Nx B w → Nx B w') → w.grownBy w' (blk A) → (blk A' = blk A ∨ blk A' = some w.heap.size) → wpList P ops Q rest (a.put o.dst (.slice A' (xs.length + 1) c')) w') :
    wpList P ops Q (o :: rest) a w := by
  refine wpList_append_own_at (w := w) hgd s x T ho base t i z 1 8 ht hi hz hsize hby hzs (by omega) _ xs.length _ hs hown ⟨g, 0, none⟩ 1 1 [V p] hx rfl ?_ ?_ (by simp [maxLen]; omega) (by omega) hbase ?_
  · intro j u hu
    match j, hu with
    | 0, hu => simp at hu; subst hu; simpa [Addr.add] using h0
    | (j + 1), hu => simp at hu
  · intro u hu; simp at hu; subst hu; rfl
  · intro v' w' h2 h3 _ h5
    have hform := World.ownsRow.form h2 (by omega)
    obtain ⟨g', cap, rfl, hb', hl'⟩ := hform
    refine h (some ⟨g', 0, none⟩) cap w' ?_ ?_ (by rwa [ownBlock_slice] at h3) (by rwa [ownBlock_slice, ownBlock_slice] at h5)
    · unfold OwnI
      rw [List.map_append, List.length_append]
      exact h2
    · exact fun B hB hn => Nx.grown hn h3 (fun k hk => by rw [ownBlock_slice] at hk; have := (hown.lt k hk).1; omega)
end

/-! ### make -/
theorem run_make_rowN {P : Program} (t e : TypeId) (i : TypeInfo) (z : Value) (ht : P.underlying t = some (.slice e)) (hi : P.info? e = some i) (hz : i.zero = some z)
    (kl kc : IntKind) (n c : Nat) (hnc : n ≤ c) (hbytes : i.bytes * c ≤ 281474976710656) (h63 : c ≤ 9223372036854775807) (w : World) :
    (Instr.makeSlice t (.int kl (n : Int)) (.int kc (c : Int))).run P w = .ok (.slice (some ⟨w.heap.size, 0, none⟩) n c) (w.alloc (.cells (madeCells z.cells (c * i.size)) e)) := by
  have hb : (i.bytes : Int) * (c : Int) ≤ 281474976710656 := by
    have h : ((i.bytes * c : Nat) : Int) ≤ 281474976710656 := by omega
    rwa [Int.natCast_mul] at h
  have hr := run_make (P := P) w t e i z ht hi hz kl kc n c (by omega) (by omega) hb (by omega)
  simp only [Int.toNat_natCast] at hr
  exact hr
theorem madeE (n : Nat) : (madeCells #[V 0, V 0] (n * 2)).toList = cellsE (List.replicate n (0, 0)) := by
  apply List.ext_getElem?
  intro j
  by_cases hj : j < n * 2
  · have hl : (madeCells #[V 0, V 0] (n * 2)).toList[j]? = some (V 0) := by
      simp [madeCells, hj]
      rcases Nat.mod_two_eq_zero_or_one j with h | h <;> simp [h]
    rw [hl]
    rcases Nat.mod_two_eq_zero_or_one j with h | h
    · obtain ⟨k, rfl⟩ : ∃ k, j = k * 2 := ⟨j / 2, by omega⟩
      rw [cellsE_get0 _ k (by simp; omega)]; simp
    · obtain ⟨k, rfl⟩ : ∃ k, j = k * 2 + 1 := ⟨j / 2, by omega⟩
      rw [cellsE_get1 _ k (by simp; omega)]; simp
  · rw [List.getElem?_eq_none (by simp [size_madeCells]; omega), List.getElem?_eq_none (by rw [cellsE_length]; simp; omega)]
theorem OwnE.made {w : World} {base : Nat} {t : TypeId} (n : Nat) (hb : base ≤ w.heap.size) (hn : n ≤ 1099511627776) :
    OwnE (w.alloc (.cells (madeCells #[V 0, V 0] (n * 2)) t)) base t (some ⟨w.heap.size, 0, none⟩) n (List.replicate n (0, 0)) := by
  unfold OwnE
  rw [List.length_replicate, ← madeE]
  exact World.ownsRow_lit w _ n hb (by simp [maxLen]; omega) (size_madeCells _ _)
theorem OwnI.made {w : World} {base : Nat} {t : TypeId} (n : Nat) (hb : base ≤ w.heap.size) (hn : n ≤ 1099511627776) :
    OwnI (w.alloc (.cells (madeCells #[V 0] (n * 1)) t)) base t (some ⟨w.heap.size, 0, none⟩) n (List.replicate n 0) := by
  unfold OwnI
  rw [List.length_replicate, List.map_replicate, ← toList_madeCells_one, Nat.mul_one]
  exact World.ownsRow_lit w _ n hb (by simp [maxLen]; omega) (by rw [size_madeCells]; omega)
end Go.Proofs.YtekepbcmjfdcjaaDoor
