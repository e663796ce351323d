/- Contract: l3Copy of the reference. -/
import Derived.Test.YticjoichmcegnaaT5
import Derived.Test.YticjoichmcegnaaZ
import Derived.Test.YticjoichmcegnaaF2
namespace Go.Proofs.Yticjoichmcegnaa
open Go.RowKit set_option linter.unusedVariables false set_option linter.unusedSimpArgs false

section
variable {P : Program} {w : World} {ops : Array Oper} {o : Oper} {a : Act} {K : Act → World → Prop} {Q : Exit → Act → World → Prop} {E : Prop} {s x : Operand} {T t : TypeId} {i : TypeInfo} {z : Value} {X : Option Addr} {c' g base : Nat}
/-- an append to an empty row with no room: a row made anew, or nothing turns -/
theorem stepI0 (ys : List Int) (hgd : o.guard = none) (ho : o.op = .call { callee := .builtin .append, args := #[s, x], argTypes := #[T, T] })
    (ht : P.underlying T = some (.slice t)) (hi : P.info? t = some i) (hz : i.zero = some z) (hsize : i.size = 1) (hby : i.bytes = 8) (hzs : z.cells.size = 1)
    (hs : a.eval s = .slice (some ⟨g, 0, none⟩) 0 0) (hb : Bx w g t []) (hbg : base ≤ g) (hx : a.eval x = .slice X ys.length c') (hy : IntsAt w X ys) (hl : ys.length < 1073741824)
    (h : ∀ A' cc w', OwnI w' base t A' cc ys → Nx w w' → (∀ k, blk A' = some k → (k = g ∨ k = w.heap.size) ∧ k < w'.heap.size) → K (a.put o.dst (.slice A' ys.length cc)) w') :
    if Region.wanted o (yielded ops a.tmps) = true then Oper.wp P o a w K Q else E := by
  have hw : Region.wanted o (yielded ops a.tmps) = true := by simp [Region.wanted, hgd]
  rw [if_pos hw]
  have hown : OwnI w base t (some ⟨g, 0, none⟩) 0 [] := hb.emptyI hbg
  have hbase : base ≤ w.heap.size := by have := hb.lt; omega
  by_cases hm : 0 < ys.length
  · obtain ⟨b, off, rfl, hbb, hc⟩ := hy hm
    obtain ⟨A', cc, w', hr1, h2, h3, h4⟩ := runIs (P := P) (c' := c') [] ys ht hi hz hsize hby hzs hown hy (by simp; omega) hbase o.type
    have hr2 := run_append_grow (P := P) (w := w) T o.type t i z ht hi hz ⟨g, 0, none⟩ 0 0 [] (by simp) (by simp) ⟨b, off, none⟩ ys.length c' (ys.map V) (by simp [hsize, List.length_map]) (cellsI_at hc) (by omega) (by omega) (by
      rw [hby]
      have h1 : Builtin.nextslicecap (0 + ys.length) 0 = 0 + ys.length := by unfold Builtin.nextslicecap; rw [if_pos (by omega)]
      rw [h1]; omega)
    have e0 : ([] : List Int).length = 0 := rfl
    rw [e0] at hr1
    rw [hr1] at hr2
    injection hr2 with e1 e2
    have hnx : Nx w w' := by rw [e2]; exact (Nx.drew (.refl _)).alloc _
    injection e1 with e3 _ _
    unfold Oper.wp
    simp [execOp, ho, resolve, invoke, builtin, hs, hx, hr1, Result.andThen]
    refine h A' cc w' (by simpa using h2) hnx fun k hk => ?_
    rw [e3] at hk
    simp [blk] at hk
    subst hk
    exact ⟨.inr rfl, by rw [e2]; simp [size_drew_]⟩
  · have h0 : ys = [] := by cases ys with | nil => rfl | cons _ _ => simp at hm
    subst h0
    have hr : (Builtin.append_ #[T, T] o.type #[.slice (some ⟨g, 0, none⟩) 0 0, .slice X 0 c']).run P w = .ok (.slice (some ⟨g, 0, none⟩) 0 0) w := by
      cases X <;> simp [Builtin.append_, run_underlying ht, sizeOf, typeInfo, hi, Builtin.lenOf, Builtin.firstCells, storeCells, loadCells, loadCellsFrom]
    have hx' : a.eval x = .slice X 0 c' := hx
    unfold Oper.wp
    simp [execOp, ho, resolve, invoke, builtin, hs, hx', hr, Result.andThen]
    exact h (some ⟨g, 0, none⟩) 0 w hown (Nx.refl _) fun k hk => by simp [blk] at hk; subst hk; exact ⟨.inl rfl, hb.lt⟩
/-- an append to an empty row with no room: a row made anew, or nothing turns -/
theorem stepE0 (ys : Es) (hgd : o.guard = none) (ho : o.op = .call { callee := .builtin .append, args := #[s, x], argTypes := #[T, T] })
    (ht : P.underlying T = some (.slice t)) (hi : P.info? t = some i) (hz : i.zero = some z) (hsize : i.size = 2) (hby : i.bytes = 16) (hzs : z.cells.size = 2)
    (hs : a.eval s = .slice (some ⟨g, 0, none⟩) 0 0) (hb : Bx w g t []) (hbg : base ≤ g) (hx : a.eval x = .slice X ys.length c') (hy : EdgesAt w X ys) (hl : ys.length < 1073741824)
    (h : ∀ A' cc w', OwnE w' base t A' cc ys → Nx w w' → (∀ k, blk A' = some k → (k = g ∨ k = w.heap.size) ∧ k < w'.heap.size) → K (a.put o.dst (.slice A' ys.length cc)) w') :
    if Region.wanted o (yielded ops a.tmps) = true then Oper.wp P o a w K Q else E := by
  have hw : Region.wanted o (yielded ops a.tmps) = true := by simp [Region.wanted, hgd]
  rw [if_pos hw]
  have hown : OwnE w base t (some ⟨g, 0, none⟩) 0 [] := hb.emptyE hbg
  have hbase : base ≤ w.heap.size := by have := hb.lt; omega
  by_cases hm : 0 < ys.length
  · obtain ⟨b, off, rfl, hbb, hc⟩ := hy hm
    obtain ⟨A', cc, w', hr1, h2, h3, h4⟩ := runEs (P := P) (c' := c') [] ys ht hi hz hsize hby hzs hown hy (by simp; omega) hbase o.type
    have hr2 := run_append_grow (P := P) (w := w) T o.type t i z ht hi hz ⟨g, 0, none⟩ 0 0 [] (by simp) (by simp) ⟨b, off, none⟩ ys.length c' (cellsE ys) (by simp [hsize, cellsE_length]) (cellsE_at hc) (by omega) (by omega) (by
      rw [hby]
      have h1 : Builtin.nextslicecap (0 + ys.length) 0 = 0 + ys.length := by unfold Builtin.nextslicecap; rw [if_pos (by omega)]
      rw [h1]; omega)
    have e0 : ([] : Es).length = 0 := rfl
    rw [e0] at hr1
    rw [hr1] at hr2
    injection hr2 with e1 e2
    have hnx : Nx w w' := by rw [e2]; exact (Nx.drew (.refl _)).alloc _
    injection e1 with e3 _ _
    unfold Oper.wp
    simp [execOp, ho, resolve, invoke, builtin, hs, hx, hr1, Result.andThen]
    refine h A' cc w' (by simpa using h2) hnx fun k hk => ?_
    rw [e3] at hk
    simp [blk] at hk
    subst hk
    exact ⟨.inr rfl, by rw [e2]; simp [size_drew_]⟩
  · have h0 : ys = [] := by cases ys with | nil => rfl | cons _ _ => simp at hm
    subst h0
    have hr : (Builtin.append_ #[T, T] o.type #[.slice (some ⟨g, 0, none⟩) 0 0, .slice X 0 c']).run P w = .ok (.slice (some ⟨g, 0, none⟩) 0 0) w := by
      cases X <;> simp [Builtin.append_, run_underlying ht, sizeOf, typeInfo, hi, Builtin.lenOf, Builtin.firstCells, storeCells, loadCells, loadCellsFrom]
    have hx' : a.eval x = .slice X 0 c' := hx
    unfold Oper.wp
    simp [execOp, ho, resolve, invoke, builtin, hs, hx', hr, Result.andThen]
    exact h (some ⟨g, 0, none⟩) 0 w hown (Nx.refl _) fun k hk => by simp [blk] at hk; subst hk; exact ⟨.inl rfl, hb.lt⟩
/-- an own row, or an empty one of which nothing is known -/
def WkE (w : World) (base : Nat) (t : TypeId) (A : Option Addr) (c : Nat) (es : Es) : Prop := OwnE w base t A c es ∨ (es = [] ∧ c = 0 ∧ A.isSome = true ∧ ∀ k, blk A = some k → base ≤ k ∧ k < w.heap.size)
theorem stepI1 (ys : List Int) (hgd : o.guard = none) (ho : o.op = .call { callee := .builtin .append, args := #[s, x], argTypes := #[T, T] })
    (ht : P.underlying T = some (.slice t)) (hi : P.info? t = some i) (hz : i.zero = some z) (hsize : i.size = 1) (hby : i.bytes = 8) (hzs : z.cells.size = 1)
    (hs : a.eval s = .slice (some ⟨g, 0, none⟩) 0 0) (hbase : base ≤ w.heap.size) (hx : a.eval x = .slice X ys.length c') (hy : IntsAt w X ys) (hm : 0 < ys.length) (hl : ys.length < 1073741824)
    (h : ∀ A' cc w', OwnI w' base t A' cc ys → Nx w w' → (∀ k, blk A' = some k → w.heap.size ≤ k ∧ k < w'.heap.size) → K (a.put o.dst (.slice A' ys.length cc)) w') :
    if Region.wanted o (yielded ops a.tmps) = true then Oper.wp P o a w K Q else E := by
  have hw : Region.wanted o (yielded ops a.tmps) = true := by simp [Region.wanted, hgd]
  rw [if_pos hw]
  obtain ⟨b, off, rfl, hbb, hc⟩ := hy hm
  have hr := run_append_grow (P := P) (w := w) T o.type t i z ht hi hz ⟨g, 0, none⟩ 0 0 [] (by simp) (by simp) ⟨b, off, none⟩ ys.length c' (ys.map V) (by simp [hsize]) (cellsI_at hc) (by omega) (by omega) (by
    rw [hby]
    have h1 : Builtin.nextslicecap (0 + ys.length) 0 = 0 + ys.length := by unfold Builtin.nextslicecap; rw [if_pos (by omega)]
    rw [h1]; omega)
  have hge := grownCap_ge w (0 + ys.length) 0 t
  have hle := grownCap_le_maxLen w (0 + ys.length) 0 t (by simp [maxLen]; omega)
  generalize grownCap w (0 + ys.length) 0 t = cap at *
  have hcs : ((#[] : Array Value) ++ (ys.map V).toArray ++ Builtin.zeroCells z.cells (cap - (0 + ys.length))).size = cap := by
    have h1 : (Builtin.zeroCells z.cells (cap - (0 + ys.length))).size = cap - ys.length := by simp [Builtin.zeroCells, hzs]
    simp only [Array.size_append, h1]
    simp
    omega
  have hct : ((#[] : Array Value) ++ (ys.map V).toArray ++ Builtin.zeroCells z.cells (cap - (0 + ys.length))).toList.take (ys.length * 1) = ys.map V := by
    simp [List.take_append_of_le_length, List.take_of_length_le]
  generalize (#[] : Array Value) ++ (ys.map V).toArray ++ Builtin.zeroCells z.cells (cap - (0 + ys.length)) = cs at *
  have hnw := heap_alloc_new w.drew (.cells cs t)
  have hsz : w.heap.size < (w.drew.alloc (.cells cs t)).heap.size := by simp [size_drew_]
  have hnx : Nx w (w.drew.alloc (.cells cs t)) := (Nx.drew (.refl _)).alloc _
  generalize w.drew.alloc (.cells cs t) = w' at *
  have hon : OwnI w' base t (some ⟨w.heap.size, 0, none⟩) cap ys := ⟨by simp, .inr ⟨w.heap.size, cap, cs, rfl, hbase, hnw, by omega, hle, by rw [hcs]; omega, hct⟩⟩
  unfold Oper.wp
  simp [execOp, ho, resolve, invoke, builtin, hs, hx, hr, Result.andThen]
  refine h _ cap _ hon hnx fun k hk => ?_
  simp [blk] at hk
  subst hk
  exact ⟨Nat.le_refl _, hsz⟩
theorem stepE1 (ys : Es) (hgd : o.guard = none) (ho : o.op = .call { callee := .builtin .append, args := #[s, x], argTypes := #[T, T] })
    (ht : P.underlying T = some (.slice t)) (hi : P.info? t = some i) (hz : i.zero = some z) (hsize : i.size = 2) (hby : i.bytes = 16) (hzs : z.cells.size = 2)
    (hs : a.eval s = .slice (some ⟨g, 0, none⟩) 0 0) (hbase : base ≤ w.heap.size) (hx : a.eval x = .slice X ys.length c') (hy : EdgesAt w X ys) (hm : 0 < ys.length) (hl : ys.length < 1073741824)
    (h : ∀ A' cc w', OwnE w' base t A' cc ys → Nx w w' → (∀ k, blk A' = some k → w.heap.size ≤ k ∧ k < w'.heap.size) → K (a.put o.dst (.slice A' ys.length cc)) w') :
    if Region.wanted o (yielded ops a.tmps) = true then Oper.wp P o a w K Q else E := by
  have hw : Region.wanted o (yielded ops a.tmps) = true := by simp [Region.wanted, hgd]
  rw [if_pos hw]
  obtain ⟨b, off, rfl, hbb, hc⟩ := hy hm
  have hr := run_append_grow (P := P) (w := w) T o.type t i z ht hi hz ⟨g, 0, none⟩ 0 0 [] (by simp) (by simp) ⟨b, off, none⟩ ys.length c' (cellsE ys) (by rw [cellsE_length, hsize]) (cellsE_at hc) (by omega) (by omega) (by
    rw [hby]
    have h1 : Builtin.nextslicecap (0 + ys.length) 0 = 0 + ys.length := by unfold Builtin.nextslicecap; rw [if_pos (by omega)]
    rw [h1]; omega)
  have hge := grownCap_ge w (0 + ys.length) 0 t
  have hle := grownCap_le_maxLen w (0 + ys.length) 0 t (by simp [maxLen]; omega)
  generalize grownCap w (0 + ys.length) 0 t = cap at *
  have hcs : ((#[] : Array Value) ++ (cellsE ys).toArray ++ Builtin.zeroCells z.cells (cap - (0 + ys.length))).size = cap * 2 := by
    have h1 : (Builtin.zeroCells z.cells (cap - (0 + ys.length))).size = (cap - ys.length) * 2 := by simp [Builtin.zeroCells, hzs]
    simp only [Array.size_append, h1]
    simp [cellsE_length]
    omega
  have hct : ((#[] : Array Value) ++ (cellsE ys).toArray ++ Builtin.zeroCells z.cells (cap - (0 + ys.length))).toList.take (ys.length * 2) = cellsE ys := by
    rw [Array.toList_append, Array.toList_append]
    simp [List.take_append_of_le_length, cellsE_length, List.take_of_length_le]
  generalize (#[] : Array Value) ++ (cellsE ys).toArray ++ Builtin.zeroCells z.cells (cap - (0 + ys.length)) = cs at *
  have hnw := heap_alloc_new w.drew (.cells cs t)
  have hsz : w.heap.size < (w.drew.alloc (.cells cs t)).heap.size := by simp [size_drew_]
  have hnx : Nx w (w.drew.alloc (.cells cs t)) := (Nx.drew (.refl _)).alloc _
  generalize w.drew.alloc (.cells cs t) = w' at *
  have hon : OwnE w' base t (some ⟨w.heap.size, 0, none⟩) cap ys := ⟨by rw [cellsE_length], .inr ⟨w.heap.size, cap, cs, rfl, hbase, hnw, by omega, hle, by rw [hcs], hct⟩⟩
  unfold Oper.wp
  simp [execOp, ho, resolve, invoke, builtin, hs, hx, hr, Result.andThen]
  refine h _ cap _ hon hnx fun k hk => ?_
  simp [blk] at hk
  subst hk
  exact ⟨Nat.le_refl _, hsz⟩
theorem stepW1 (ys : Es) (hgd : o.guard = none) (ho : o.op = .call { callee := .builtin .append, args := #[s, x], argTypes := #[T, T] })
    (ht : P.underlying T = some (.slice t)) (hi : P.info? t = some i) (hz : i.zero = some z) (hsize : i.size = 2) (hby : i.bytes = 16) (hzs : z.cells.size = 2)
    (hs : a.eval s = .slice (some ⟨g, 0, none⟩) 0 0) (hbase : base ≤ w.heap.size) (hbg : base ≤ g) (hgw : g < w.heap.size) (hx : a.eval x = .slice X ys.length c') (hy : EdgesAt w X ys) (hl : ys.length < 1073741824)
    (h : ∀ A' cc w', WkE w' base t A' cc ys → Nx w w' → (∀ k, blk A' = some k → (k = g ∨ w.heap.size ≤ k) ∧ k < w'.heap.size) → K (a.put o.dst (.slice A' ys.length cc)) w') :
    if Region.wanted o (yielded ops a.tmps) = true then Oper.wp P o a w K Q else E := by
  by_cases hm : 0 < ys.length
  · exact stepE1 ys hgd ho ht hi hz hsize hby hzs hs hbase hx hy hm hl (fun A' cc w' h1 h2 h3 => h A' cc w' (.inl h1) h2 (fun k hk => ⟨.inr (h3 k hk).1, (h3 k hk).2⟩))
  · have hw : Region.wanted o (yielded ops a.tmps) = true := by simp [Region.wanted, hgd]
    rw [if_pos hw]
    have h0 : ys = [] := by cases ys with | nil => rfl | cons _ _ => simp at hm
    subst h0
    have hr : (Builtin.append_ #[T, T] o.type #[.slice (some ⟨g, 0, none⟩) 0 0, .slice X 0 c']).run P w = .ok (.slice (some ⟨g, 0, none⟩) 0 0) w := by
      cases X <;> simp [Builtin.append_, run_underlying ht, sizeOf, typeInfo, hi, Builtin.lenOf, Builtin.firstCells, storeCells, loadCells, loadCellsFrom]
    have hx' : a.eval x = .slice X 0 c' := hx
    unfold Oper.wp
    simp [execOp, ho, resolve, invoke, builtin, hs, hx', hr, Result.andThen]
    exact h (some ⟨g, 0, none⟩) 0 w (.inr ⟨rfl, rfl, rfl, fun k hk => by simp [blk] at hk; subst hk; exact ⟨hbg, hgw⟩⟩) (Nx.refl _) fun k hk => by simp [blk] at hk; subst hk; exact ⟨.inl rfl, hgw⟩
end

/-- the call returns sets in rows of their own; of an empty row of steps nothing is known -/
def RetSW (s : SS) (f : Value → Value) (w : World) (e : Ending) (w' : World) : Prop :=
  ∃ A ca B cb C cc, e = .returned (f (St A s.P.length ca B s.Z.length cb C s.T.length cc)) ∧ OwnI w' w.heap.size 3 A ca s.P ∧ OwnI w' w.heap.size 3 B cb s.Z ∧ WkE w' w.heap.size 98 C cc s.T ∧ Apart A B ∧ Apart A C ∧ Apart B C ∧ Nx w w'
theorem apart_if {A B : Option Addr} (h : ∀ k, blk A = some k → blk B = some k → False) : Apart A B := by
  unfold Apart
  cases hA : blk A with
  | none => exact .inl rfl
  | some k => exact .inr fun e => h k hA e.symm
theorem WkE.nx {w w' : World} {base : Nat} {t : TypeId} {A : Option Addr} {c : Nat} {es : Es} (h : WkE w base t A c es) (hn : Nx w w') : WkE w' base t A c es := by
  rcases h with h | ⟨h1, h2, h3, h4⟩
  · exact .inl (h.nx hn)
  · exact .inr ⟨h1, h2, h3, fun k hk => ⟨(h4 k hk).1, Nat.lt_of_lt_of_le (h4 k hk).2 hn.size⟩⟩
theorem WkE.far {w : World} {base : Nat} {t : TypeId} {A : Option Addr} {c : Nat} {es : Es} (h : WkE w base t A c es) {p : Addr} (hp : p.block < base) (u : Value) : WkE (w.setCell p u) base t A c es := by
  rcases h with h | ⟨h1, h2, h3, h4⟩
  · exact .inl (h.far hp u)
  · exact .inr ⟨h1, h2, h3, fun k hk => ⟨(h4 k hk).1, by rw [size_set_]; exact (h4 k hk).2⟩⟩
theorem WkE.mono {w : World} {base base' : Nat} {t : TypeId} {A : Option Addr} {c : Nat} {es : Es} (h : WkE w base t A c es) (hb : base' ≤ base) : WkE w base' t A c es := by
  rcases h with h | ⟨h1, h2, h3, h4⟩
  · exact .inl (h.mono hb)
  · exact .inr ⟨h1, h2, h3, fun k hk => ⟨Nat.le_trans hb (h4 k hk).1, (h4 k hk).2⟩⟩

set_option maxRecDepth 100000 in
set_option maxHeartbeats 16000000 in
theorem l3Copy_c (A B C : Option Addr) (ca cb cc n m l : Nat) (s : SS) (w : World) (hA : IntsAt w A s.P) (hB : IntsAt w B s.Z) (hC : EdgesAt w C s.T) (h1 : s.P.length = n) (h2 : s.Z.length = m) (h3 : s.T.length = l) (l1 : n ≤ 1048576) (l2 : m ≤ 1048576) (l3 : l ≤ 1048576) (g1 : 0 < n) (g2 : 0 < m) :
    Calls Try.prog 128 #[St A n ca B m cb C l cc] w (RetSW s id w) := by
  obtain ⟨i0, hi, hz0, hz1, hz2⟩ := info_parts infoI
  obtain ⟨i1, hj, hy0, hy1, hy2⟩ := info_parts infoSt
  subst h1 h2 h3
  go_enter Try.func128, Try.ntmps128
  go_wp2_with fail
  generalize hW1 : World.alloc _ _ = W1
  have gW1 : Nx w W1 := by subst hW1; exact (by repeat (first | exact Nx.refl _ | assumption | apply Nx.alloc | apply Nx.drew | apply Nx.drewN | (refine Nx.setCell ?_ (by first | (simp; done) | (simp; omega) | omega) _) | refine Nx.trans ?_ (by assumption)))
  have sW1 : W1.heap.size = w.heap.size + 2 := by subst hW1; simp
  have X0 : Bx W1 (w.heap.size) 37 [.slice A s.P.length ca, .slice B s.Z.length cb, .slice C s.T.length cc] := by subst hW1; have h := Bx.alloc w 37 [.slice A s.P.length ca, .slice B s.Z.length cb, .slice C s.T.length cc]; have h := h.nx (Nx.alloc (Nx.refl _) (.cells #[.slice none 0 0, .slice none 0 0, .slice none 0 0] 37)); simpa using h
  have X1 : Bx W1 (w.heap.size + 1) 37 [.slice none 0 0, .slice none 0 0, .slice none 0 0] := by subst hW1; have h := Bx.alloc (w.alloc (.cells #[.slice A s.P.length ca, .slice B s.Z.length cb, .slice C s.T.length cc] 37)) 37 [.slice none 0 0, .slice none 0 0, .slice none 0 0]; simpa using h
  have X0_0 := X0.cell (j := 0) rfl
  have X0_1 := X0.cell (j := 1) rfl
  have X0_2 := X0.cell (j := 2) rfl
  have X0_z := X0.lt
  have X1_0 := X1.cell (j := 0) rfl
  have X1_1 := X1.cell (j := 1) rfl
  have X1_2 := X1.cell (j := 2) rfl
  have X1_z := X1.lt
  have HsW1 := Lib.hid sW1
  have lW1 : w.heap.size + 2 ≤ W1.heap.size := by omega
  clear hW1 sW1
  have kp : ∀ w', Rx (w.heap.size + 1) W1 w' → Rx (w.heap.size + 1) W1 w' ∧ w'.cell? ⟨w.heap.size, 0, none⟩ = some (.slice A s.P.length ca) ∧ w'.cell? ⟨w.heap.size, 1, none⟩ = some (.slice B s.Z.length cb) ∧ w'.cell? ⟨w.heap.size, 2, none⟩ = some (.slice C s.T.length cc) := fun w' h => ⟨h, World.grownBy.cell h X0_0 (by simp), World.grownBy.cell h X0_1 (by simp), World.grownBy.cell h X0_2 (by simp)⟩
  replace hA := hA.nx gW1
  replace hB := hB.nx gW1
  replace hC := hC.nx gW1
  go_region_held3 (fun w_ => Rx (w.heap.size + 1) W1 w_ ∧ w_.cell? ⟨w.heap.size, 0, none⟩ = some (.slice A s.P.length ca) ∧ w_.cell? ⟨w.heap.size, 1, none⟩ = some (.slice B s.Z.length cb) ∧ w_.cell? ⟨w.heap.size, 2, none⟩ = some (.slice C s.T.length cc))
    (first
      | (refine kp _ (Nx.rx (?_ : Nx W1 _) _); (repeat (first | exact Nx.refl _ | assumption | apply Nx.alloc | apply Nx.drew | apply Nx.drewN | refine Nx.trans ?_ (by assumption))); done)
      | (refine kp _ ((((Nx.rx (?_ : Nx W1 _) _).setCell _ _).setCell _ _).setCell _ _); (repeat (first | exact Nx.refl _ | assumption | apply Nx.alloc | apply Nx.drew | apply Nx.drewN | refine Nx.trans ?_ (by assumption))); done))
    (first
      | (refine stepI1 (c' := ca) (X := A) (base := W1.heap.size) s.P rfl rfl Try.underlying34 hi hz0 hz1 hz2 rfl rfl (Nx.size (a := W1) (by exact (by repeat (first | exact Nx.refl _ | assumption | apply Nx.alloc | apply Nx.drew | apply Nx.drewN | (refine Nx.setCell ?_ (by first | (simp; done) | (simp; omega) | omega) _) | refine Nx.trans ?_ (by assumption))))) rfl (hA.nx (by repeat (first | exact Nx.refl _ | assumption | apply Nx.alloc | apply Nx.drew | apply Nx.drewN | (refine Nx.setCell ?_ (by first | (simp; done) | (simp; omega) | omega) _) | refine Nx.trans ?_ (by assumption)))) g1 (by omega) ?_; intro A2 ca2 wA oA nA bA; have sA := nA.size; (try simp [size_drew_] at sA); have ZA : Nx W1 wA := (by repeat (first | exact Nx.refl _ | assumption | apply Nx.alloc | apply Nx.drew | apply Nx.drewN | (refine Nx.setCell ?_ (by first | (simp; done) | (simp; omega) | omega) _) | refine Nx.trans ?_ (by assumption))); have zA := ZA.size; have YA := X1.nx ZA; have rA0 := YA.cell (j := 0) rfl; have rA1 := YA.cell (j := 1) rfl; have rA2 := YA.cell (j := 2) rfl; have rAf := YA.free; have rAz := YA.lt)
      | (refine stepI1 (c' := cb) (X := B) (base := W1.heap.size) s.Z rfl rfl Try.underlying34 hi hz0 hz1 hz2 rfl rfl (Nx.size (a := W1) (by exact (by repeat (first | exact Nx.refl _ | assumption | apply Nx.alloc | apply Nx.drew | apply Nx.drewN | (refine Nx.setCell ?_ (by first | (simp; done) | (simp; omega) | omega) _) | refine Nx.trans ?_ (by assumption))))) rfl (hB.nx (by repeat (first | exact Nx.refl _ | assumption | apply Nx.alloc | apply Nx.drew | apply Nx.drewN | (refine Nx.setCell ?_ (by first | (simp; done) | (simp; omega) | omega) _) | refine Nx.trans ?_ (by assumption)))) g2 (by omega) ?_; intro B2 cb2 wB oB nB bB; have sB := nB.size; (try simp [size_drew_] at sB); have ZB : Nx W1 wB := (by repeat (first | exact Nx.refl _ | assumption | apply Nx.alloc | apply Nx.drew | apply Nx.drewN | (refine Nx.setCell ?_ (by first | (simp; done) | (simp; omega) | omega) _) | refine Nx.trans ?_ (by assumption))); have zB := ZB.size; have YB := X1.nx ZB; have rB0 := YB.cell (j := 0) rfl; have rB1 := YB.cell (j := 1) rfl; have rB2 := YB.cell (j := 2) rfl; have rBf := YB.free; have rBz := YB.lt)
      | (refine stepW1 (c' := cc) (X := C) (base := W1.heap.size) s.T rfl rfl Try.underlying35 hj hy0 hy1 hy2 rfl rfl (Nx.size (a := W1) (by exact (by repeat (first | exact Nx.refl _ | assumption | apply Nx.alloc | apply Nx.drew | apply Nx.drewN | (refine Nx.setCell ?_ (by first | (simp; done) | (simp; omega) | omega) _) | refine Nx.trans ?_ (by assumption))))) (by first | (simp [size_drew_]; done) | (simp [size_drew_]; omega) | omega) (by first | (simp [size_drew_]; done) | (simp [size_drew_]; omega) | omega) rfl (hC.nx (by repeat (first | exact Nx.refl _ | assumption | apply Nx.alloc | apply Nx.drew | apply Nx.drewN | (refine Nx.setCell ?_ (by first | (simp; done) | (simp; omega) | omega) _) | refine Nx.trans ?_ (by assumption)))) (by omega) ?_; intro C2 cc2 wC oC nC bC; have sC := nC.size; (try simp [size_drew_] at sC); have ZC : Nx W1 wC := (by repeat (first | exact Nx.refl _ | assumption | apply Nx.alloc | apply Nx.drew | apply Nx.drewN | (refine Nx.setCell ?_ (by first | (simp; done) | (simp; omega) | omega) _) | refine Nx.trans ?_ (by assumption))); have zC := ZC.size; have YC := X1.nx ZC; have rC0 := YC.cell (j := 0) rfl; have rC1 := YC.cell (j := 1) rfl; have rC2 := YC.cell (j := 2) rfl; have rCf := YC.free; have rCz := YC.lt))
  all_goals clear kp ZA ZB ZC YA YB YC
  all_goals go_wp2
  all_goals refine bodyPost_ret (v := id (St A2 s.P.length ca2 B2 s.Z.length cb2 C2 s.T.length cc2)) (by simp [results, Try.f128, go_sem, *]) rfl ?_
  all_goals clear hi hz0 hz1 hz2 hj hy0 hy1 hy2 rA0 rA1 rA2 rAf rB0 rB1 rB2 rBf rC0 rC1 rC2 rCf
  all_goals refine ⟨A2, ca2, B2, cb2, C2, cc2, rfl, ?_, ?_, ?_, ?_, ?_, ?_, ?_⟩
  all_goals first
    | (refine OwnI.mono (base := W1.heap.size) ((((oA.nx ?_).far (by simp; omega) _).far (by simp; omega) _).far (by simp; omega) _) (by omega); (repeat (first | exact Nx.refl _ | assumption | apply Nx.alloc | apply Nx.drew | apply Nx.drewN | refine Nx.trans ?_ (by assumption))); done)
    | (refine OwnI.mono (base := W1.heap.size) ((((oB.nx ?_).far (by simp; omega) _).far (by simp; omega) _).far (by simp; omega) _) (by omega); (repeat (first | exact Nx.refl _ | assumption | apply Nx.alloc | apply Nx.drew | apply Nx.drewN | refine Nx.trans ?_ (by assumption))); done)
    | (refine WkE.mono (base := W1.heap.size) ((((oC.nx ?_).far (by simp; omega) _).far (by simp; omega) _).far (by simp; omega) _) (by omega); (repeat (first | exact Nx.refl _ | assumption | apply Nx.alloc | apply Nx.drew | apply Nx.drewN | refine Nx.trans ?_ (by assumption))); done)
    | (refine apart_if fun k h1 h2 => ?_
       first
         | (have e1 := bA k h1; have e2 := bB k h2; (try simp [size_drew_] at e1); (try simp [size_drew_] at e2); omega)
         | (have e1 := bA k h1; have e2 := bC k h2; (try simp [size_drew_] at e1); (try simp [size_drew_] at e2); omega)
         | (have e1 := bB k h1; have e2 := bC k h2; (try simp [size_drew_] at e1); (try simp [size_drew_] at e2); omega))
    | (refine Nx.setCell (Nx.setCell (Nx.setCell (gW1.trans (b := W1) ?_) ?_ _) ?_ _) ?_ _ <;> first | exact Nat.le_succ _ | ((repeat (first | exact Nx.refl _ | assumption | apply Nx.alloc | apply Nx.drew | apply Nx.drewN | refine Nx.trans ?_ (by assumption))); done))
end Go.Proofs.Yticjoichmcegnaa
