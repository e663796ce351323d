/- Contract: slices.Insert of one edge into an own row. -/
import Derived.Test.YtjchabeiaajgiaaI1
import Derived.Test.YtjchabeiaajgiaaH
import Derived.Shelf.Spec.SlicesInsert
import Derived.Lib.AppendZerosOnto
import Derived.Deep.DrawnRows
namespace Go.Proofs.Ytjchabeiaajgiaa
open Go.RowKit set_option linter.unusedVariables false set_option linter.unusedSimpArgs false

/-- a row with one edge more at a place -/
def insL (es : Es) (k : Nat) (e : Int × Int) : Es := es.take k ++ e :: es.drop k
theorem insL_length {es : Es} {k : Nat} {e : Int × Int} (hk : k ≤ es.length) : (insL es k e).length = es.length + 1 := by simp [insL]; omega

/-- the call returns an own row; nothing else of old has turned but the row that came -/
def Inserted (t : TypeId) (base : Nat) (A : Option Addr) (ys : Es) (w : World) (e : Ending) (w' : World) : Prop :=
  ∃ A' c', e = .returned (.slice A' ys.length c') ∧ OwnE w' base t A' c' ys ∧ w.grownBy w' (blk A) ∧ (blk A' = blk A ∨ blk A' = some w.heap.size)

theorem shape_of_bx {w : World} {g : Nat} {t : TypeId} {cs : List Value} (h : Bx w g t cs) : w.shape? g = some (t, cs.length) := by
  unfold Bx at h
  simp [World.shape?, h]

/-- the cells behind the two copies in place -/
theorem ins_cells (es : Es) (k : Nat) (hk : k < es.length) (u v : Int) (tail : List Value) (ht : 2 ≤ tail.length) :
    (((cellsE es ++ tail).take ((k + 1) * 2) ++ cellsE (es.drop k) ++ (cellsE es ++ tail).drop ((k + 1) * 2 + (es.drop k).length * 2)).take (k * 2) ++ cellsE [(u, v)] ++
      ((cellsE es ++ tail).take ((k + 1) * 2) ++ cellsE (es.drop k) ++ (cellsE es ++ tail).drop ((k + 1) * 2 + (es.drop k).length * 2)).drop (k * 2 + 1 * 2)) = cellsE (insL es k (u, v)) ++ tail.drop 2 := by
  have e1 : (cellsE es ++ tail).take ((k + 1) * 2) = cellsE (es.take (k + 1)) := by
    rw [List.take_append_of_le_length (by rw [cellsE_length]; omega)]
    conv => lhs; rw [← List.take_append_drop (k + 1) es, cellsE_append]
    rw [List.take_left' (by rw [cellsE_length]; simp; omega)]
  have e2 : (cellsE es ++ tail).drop ((k + 1) * 2 + (es.drop k).length * 2) = tail.drop 2 := by
    rw [show (k + 1) * 2 + (es.drop k).length * 2 = (cellsE es).length + 2 by rw [cellsE_length]; simp; omega, List.drop_append]
    simp
  have hks : es.take (k + 1) = es.take k ++ [es[k]] := List.take_succ_eq_append_getElem hk
  rw [e1, e2, hks, cellsE_append]
  have l1 : (cellsE (es.take k)).length = k * 2 := by rw [cellsE_length]; simp; omega
  have l2 : (cellsE (es.take k) ++ cellsE [es[k]]).length = k * 2 + 1 * 2 := by rw [List.length_append, l1]; rfl
  have e3 : (cellsE (es.take k) ++ cellsE [es[k]] ++ cellsE (es.drop k) ++ tail.drop 2).take (k * 2) = cellsE (es.take k) := by
    rw [List.append_assoc, List.append_assoc, List.take_left' l1]
  have e4 : (cellsE (es.take k) ++ cellsE [es[k]] ++ cellsE (es.drop k) ++ tail.drop 2).drop (k * 2 + 1 * 2) = cellsE (es.drop k) ++ tail.drop 2 := by
    rw [List.append_assoc, List.drop_left' l2]
  rw [e3, e4]
  have e5 : cellsE (insL es k (u, v)) = cellsE (es.take k) ++ cellsE [(u, v)] ++ cellsE (es.drop k) := by
    unfold insL
    rw [show es.take k ++ (u, v) :: es.drop k = es.take k ++ [(u, v)] ++ es.drop k by simp, cellsE_append, cellsE_append]
  rw [e5]
  simp

theorem overlapsE (g2 g : Nat) (w : World) (t2 : TypeId) (cs2 : List Value) (hb2 : Bx w g2 t2 cs2) (t : TypeId) (cs : List Value) (hb : Bx w g t cs) (hne : g2 ≠ g) (hc : cs.length ≠ 0) (o la ca lb cb : Nat) :
    (callFunc 136 #[.slice (some ⟨g2, 0, none⟩) la ca, .slice (some ⟨g, o, none⟩) lb cb]).run Try.prog w = .ok (.value (.bool false)) w := by
  rw [run_callFunc_extern Try.func136 (by kernel_rfl) (by kernel_rfl) (by kernel_rfl) (e := Extern.SlicesOverlaps.overlaps #[24, 24] #[4]) (by kernel_rfl),
    Lib.run_overlaps_apart w 24 4 36 Try.underlying24 2 Try.sizeOf36 ⟨g2, 0, none⟩ ⟨g, o, none⟩ la ca lb cb hne t2 t cs2.length cs.length (shape_of_bx hb2) (shape_of_bx hb) hc (hb2.free 0) (hb2.free _)]
  rfl

set_option maxRecDepth 100000 in
set_option maxHeartbeats 4000000 in
theorem insertE_end (base : Nat) (A : Option Addr) (c : Nat) (es : Es) (u v : Int) (g2 : Nat) (w : World) (hown : OwnE w base 36 A c es) (hl : es.length ≤ 1048576) (hb : base ≤ w.heap.size) (hv : Bx w g2 36 [V u, V v]) :
    Calls Try.prog 102 #[.slice A es.length c, V (es.length : Nat), .slice (some ⟨g2, 0, none⟩) 1 1] w (Inserted 36 base A (insL es es.length (u, v)) w) := by
  obtain ⟨i0, hi, hz0, hz1, hz2⟩ := info_parts infoE
  have Hi := Lib.hid hi
  have Hz0 := Lib.hid hz0
  have Hz1 := Lib.hid hz1
  have Hz2 := Lib.hid hz2
  clear hi hz0 hz1 hz2
  have hcap := hown.cap
  have v0 := hv.cell (j := 0) rfl
  have v1 := hv.cell (j := 1) rfl
  have heo : EdgesAt w (some ⟨g2, 0, none⟩) [(u, v)] := edgesOne' hv.lt v0 v1
  rw [show insL es es.length (u, v) = es ++ [(u, v)] by simp [insL]]
  have Hown := Lib.hid hown
  clear hown v0 v1 hv
  by_cases hci : c = es.length
  · subst hci
    cases A with
    | none =>
      go_enter Try.func102, Try.ntmps102
      go_wp2_with (at_builtin; go_must (refine appEs (base := base) (t := 36) (A := none) (c := es.length) (c' := 1) es [(u, v)] rfl rfl Try.underlying24 Hi.out Hz0.out Hz1.out Hz2.out rfl rfl Hown.out rfl heo (by simp; omega) hb ?_; intro A2 c2 w3 hown3 hnx3 hgr3 hbl3))
      go_ret
      exact ⟨A2, c2, by simp, hown3, hgr3, hbl3⟩
    | some a =>
      go_enter Try.func102, Try.ntmps102
      go_wp2_with (at_builtin; go_must (refine appEs (base := base) (t := 36) (A := some a) (c := es.length) (c' := 1) es [(u, v)] rfl rfl Try.underlying24 Hi.out Hz0.out Hz1.out Hz2.out rfl rfl Hown.out rfl heo (by simp; omega) hb ?_; intro A2 c2 w3 hown3 hnx3 hgr3 hbl3))
      go_ret
      exact ⟨A2, c2, by simp, hown3, hgr3, hbl3⟩
  · cases A with
    | none =>
      exfalso
      rcases Hown.out.2 with ⟨h1, h2⟩ | ⟨g, cap, cur, h1, _⟩
      · injection h1 with _ h3 h4; omega
      · cases h1
    | some a =>
      go_enter Try.func102, Try.ntmps102
      go_wp2_with (at_builtin; go_must (refine appEs (base := base) (t := 36) (A := some a) (c := c) (c' := 1) es [(u, v)] rfl rfl Try.underlying24 Hi.out Hz0.out Hz1.out Hz2.out rfl rfl Hown.out rfl heo (by simp; omega) hb ?_; intro A2 c2 w3 hown3 hnx3 hgr3 hbl3))
      go_ret
      exact ⟨A2, c2, by simp, hown3, hgr3, hbl3⟩

set_option maxRecDepth 100000 in
set_option maxHeartbeats 4000000 in
theorem insertE_shift (base g : Nat) (c k : Nat) (es : Es) (u v : Int) (g2 : Nat) (w : World) (hown : OwnE w base 36 (some ⟨g, 0, none⟩) c es) (hl : es.length ≤ 1048576) (hk : k < es.length) (hroom : es.length + 1 ≤ c) (hv : Bx w g2 36 [V u, V v]) (hne : g2 ≠ g) :
    Calls Try.prog 102 #[.slice (some ⟨g, 0, none⟩) es.length c, V k, .slice (some ⟨g2, 0, none⟩) 1 1] w (Inserted 36 base (some ⟨g, 0, none⟩) (insL es k (u, v)) w) := by
  obtain ⟨i0, hi, hz0, hz1, hz2⟩ := info_parts infoE
  obtain ⟨hbg, tail, hfull⟩ := hown.full
  obtain ⟨hbx, hf1, hf2, hf3⟩ := hfull
  have hmax : c ≤ 9223372036854775807 := by unfold maxLen at hf2; omega
  have hov : ∀ lb cb, (callFunc 136 #[.slice (some ⟨g2, 0, none⟩) 1 1, .slice (some ⟨g, (k + 1) * 2, none⟩) lb cb]).run Try.prog w = .ok (.value (.bool false)) w :=
    fun lb cb => overlapsE g2 g w _ _ hv _ _ hbx hne (by simp [cellsE_length]; omega) _ _ _ _ _
  have hd : Nx w w.drew := .drew (.refl _)
  have htl : 2 ≤ tail.length := by omega
  obtain ⟨w1, hr1, hb1, hg1⟩ := run_copyE (P := Try.prog) (T := 24) Try.underlying24 hi hz1 (o := (k + 1) * 2) (dLen := es.length - k) (hbx.nx hd) ⟨g, k * 2, none⟩ (es.length + 1 - k) (es.drop k) (by rw [List.length_drop]; unfold Nat.min; simp only [Nat.min_def]; split <;> omega)
    (fun j x hj => by
      rw [addr_add_plain]
      refine (hbx.nx hd).cell ?_
      have hj2 : j < (cellsE (es.drop k)).length := (List.getElem?_eq_some_iff.1 hj).1
      have hj3 := hj2
      rw [cellsE_length, List.length_drop] at hj3
      rw [List.getElem?_append_left (by rw [cellsE_length]; omega)]
      have e : cellsE es = cellsE (es.take k) ++ cellsE (es.drop k) := by rw [← cellsE_append, List.take_append_drop]
      rw [e, List.getElem?_append_right (by rw [cellsE_length]; simp; omega), cellsE_length, List.length_take, Nat.min_eq_left (by omega)]
      rw [show k * 2 + j - k * 2 = j by omega]; exact hj)
    (by simp [cellsE_length]; omega)
  have hv1 : Bx w1 g2 36 [V u, V v] := (hv.nx hd).grown hg1 (fun e => hne (by injection e with e; exact e.symm))
  obtain ⟨w2, hr2, hb2, hg2⟩ := run_copyE (P := Try.prog) (T := 24) Try.underlying24 hi hz1 (o := k * 2) (dLen := es.length + 1 - k) hb1 ⟨g2, 0, none⟩ 1 [(u, v)] (by rw [show ([(u, v)] : Es).length = 1 from rfl]; unfold Nat.min; simp only [Nat.min_def]; split <;> omega)
    (fun j x hj => by rw [addr_add_plain]; exact hv1.cell (by simpa [cellsE_cons] using hj))
    (by simp [cellsE_length]; omega)
  rw [show ([(u, v)] : Es).length = 1 from rfl, ins_cells es k hk u v tail htl] at hb2
  have hfin : OwnE w2 base 36 (some ⟨g, 0, none⟩) c (insL es k (u, v)) := FullE.own ⟨hb2, by rw [insL_length (by omega)]; omega, hf2, by rw [insL_length (by omega)]; simp; omega⟩ hbg
  have hgf : w.grownBy w2 (some g) := World.grownBy.trans (World.grownBy.trans (hd.grownR _) hg1) hg2
  have Hfin := Lib.hid hfin
  have Hgf := Lib.hid hgf
  have Hlen := Lib.hid (insL_length (es := es) (k := k) (e := (u, v)) (by omega))
  have hz2' : ¬ ((k : Int) = (es.length : Int)) := by omega
  have hw1 : IntKind.i64.wrap ((k : Int) + 1) = (k : Int) + 1 := by rw [IntKind.wrap_i64]; omega
  have hb1' : (0 : Int) ≤ (k : Int) + 1 := by omega
  have htn : ((k : Int) + 1).toNat = k + 1 := by omega
  have hc1 : ¬ (c = k + 1) := by omega
  have hc2 : ¬ (c = k) := by omega
  have hb3 : (k : Int) ≤ (es.length : Int) + 1 := by omega
  have hb4 : k ≤ es.length := by omega
  have hb5 : (k : Int) ≤ (es.length : Int) := by omega
  have hb6 : (k : Int) + 1 ≤ (es.length : Int) + 1 := by omega
  have hb7 : (es.length : Int) + 1 ≤ (c : Int) := by omega
  clear hbx hb1 hb2 hg1 hg2 hv hv1 hi hz0 hz1 hz2 hfin hgf hown hd htl hf3
  go_enter Try.func102, Try.ntmps102
  go_wp2_with (simp only [hov])
  go_region_law (refine step_copy_runI rfl _ _ 24 24 rfl _ _ (by simp [Act.eval, Act.put]) (by simp [Act.eval, Act.put]) (hr1 _ _ _) ?_)
  go_wp2_with (at_builtin; refine wpList_copy_runI _ rfl _ _ 24 24 rfl _ _ rfl rfl (hr2 _ _ _) ?_)
  go_ret
  exact ⟨some ⟨g, 0, none⟩, c, by rw [Hlen.out]; rfl, Hfin.out, Hgf.out, .inl rfl⟩

theorem grow_cells (es : Es) (k : Nat) (hk : k < es.length) (u v : Int) (Z : List Value) (hZ : (es.length - k) * 2 + 2 ≤ Z.length) :
    ((cellsE (es.take k) ++ Z).take (k * 2) ++ cellsE [(u, v)] ++ (cellsE (es.take k) ++ Z).drop (k * 2 + 1 * 2)).take ((k + 1) * 2) ++ cellsE (es.drop k) ++
      ((cellsE (es.take k) ++ Z).take (k * 2) ++ cellsE [(u, v)] ++ (cellsE (es.take k) ++ Z).drop (k * 2 + 1 * 2)).drop ((k + 1) * 2 + (es.drop k).length * 2) = cellsE (insL es k (u, v)) ++ Z.drop (2 + (es.length - k) * 2) := by
  have l1 : (cellsE (es.take k)).length = k * 2 := by rw [cellsE_length]; simp; omega
  have e1 : (cellsE (es.take k) ++ Z).take (k * 2) = cellsE (es.take k) := List.take_left' l1
  have e2 : (cellsE (es.take k) ++ Z).drop (k * 2 + 1 * 2) = Z.drop 2 := by rw [List.drop_append, l1]; simp [l1]
  rw [e1, e2]
  have l2 : (cellsE (es.take k) ++ cellsE [(u, v)]).length = (k + 1) * 2 := by rw [List.length_append, l1]; simp [cellsE_cons]; omega
  rw [List.take_left' l2]
  have e3 : (cellsE (es.take k) ++ cellsE [(u, v)] ++ Z.drop 2).drop ((k + 1) * 2 + (es.drop k).length * 2) = Z.drop (2 + (es.length - k) * 2) := by
    rw [List.length_drop, List.drop_append, List.drop_eq_nil_of_le (by rw [l2]; omega), l2, List.nil_append, List.drop_drop]
    congr 1
    omega
  rw [e3]
  have e5 : cellsE (insL es k (u, v)) = cellsE (es.take k) ++ cellsE [(u, v)] ++ cellsE (es.drop k) := by
    unfold insL
    rw [show es.take k ++ (u, v) :: es.drop k = es.take k ++ [(u, v)] ++ es.drop k by simp, cellsE_append, cellsE_append]
  rw [e5]

set_option maxRecDepth 100000 in
set_option maxHeartbeats 4000000 in
theorem insertE_grow (base g : Nat) (c k : Nat) (es : Es) (u v : Int) (g2 : Nat) (w : World) (hown : OwnE w base 36 (some ⟨g, 0, none⟩) c es) (hl : es.length ≤ 1048576) (hk : k < es.length) (hroom : c < es.length + 1) (hb : base ≤ w.heap.size) (hv : Bx w g2 36 [V u, V v]) :
    Calls Try.prog 102 #[.slice (some ⟨g, 0, none⟩) es.length c, V k, .slice (some ⟨g2, 0, none⟩) 1 1] w (Inserted 36 base (some ⟨g, 0, none⟩) (insL es k (u, v)) w) := by
  obtain ⟨i0, hi, hz0, hz1, hz2⟩ := info_parts infoE
  have hcap := hown.cap
  obtain rfl : c = es.length := by omega
  obtain ⟨hbg, tail, hfull⟩ := hown.full
  obtain ⟨hbx, hf1, hf2, hf3⟩ := hfull
  have hgw := hbx.lt
  have hg2w := hv.lt
  have hd : Nx w w.drew := .drew (.refl _)
  have hold : (Builtin.firstCells i0.size k (.slice (some ⟨g, 0, none⟩) k es.length)).run Try.prog w.drew = .ok (cellsE (es.take k)).toArray w.drew := by
    rw [hz1]
    refine run_firstCells_some w.drew 2 k ⟨g, 0, none⟩ k es.length (cellsE (es.take k)) (by rw [cellsE_length]; simp; omega) (fun j x hj => ?_)
    rw [addr_add_plain]
    refine (hbx.nx hd).cell ?_
    have hj2 := (List.getElem?_eq_some_iff.1 hj).1
    rw [Nat.zero_add, ← List.take_append_drop k es, cellsE_append, List.append_assoc, List.getElem?_append_left hj2]
    exact hj
  have hap := Lib.run_append_grow_zeros w 24 3 24 36 i0 _ .i64 .i64 Try.underlying24 Try.underlying3 hi hz0 (some ⟨g, 0, none⟩) k es.length (cellsE (es.take k)) hold (es.length + 1 - k) (by omega) (by omega) (by omega) (by omega) (by rw [hz2]; omega) (by rw [hz2]; exact growslice_fits (by omega) (by omega))
  rw [show k + (es.length + 1 - k) = es.length + 1 by omega] at hap
  have hGn := grownCap_ge w (es.length + 1) es.length 36
  have hGm := grownCap_le_maxLen w (es.length + 1) es.length 36 (by unfold maxLen; omega)
  generalize grownCap w (es.length + 1) es.length 36 = G at hap hGn hGm
  obtain ⟨W1, hW1⟩ : ∃ W1, W1 = w.drew.alloc (.cells ((cellsE (es.take k)).toArray ++ Builtin.zeroCells (Value.agg #[V 0, V 0]).cells (es.length + 1 - k) ++ Builtin.zeroCells (Value.agg #[V 0, V 0]).cells (G - (es.length + 1))) 36) := ⟨_, rfl⟩
  obtain ⟨Z, hZ⟩ : ∃ Z, Z = (Builtin.zeroCells #[V 0, V 0] (es.length + 1 - k)).toList ++ (Builtin.zeroCells #[V 0, V 0] (G - (es.length + 1))).toList := ⟨_, rfl⟩
  have hZl : Z.length = (G - k) * 2 := by rw [hZ, zero2, zero2, List.length_append, cellsE_length, cellsE_length]; simp; omega
  have hb1 : Bx W1 w.heap.size 36 (cellsE (es.take k) ++ Z) := by
    rw [hW1]
    unfold Bx
    show (w.drew.alloc _).heap[w.drew.heap.size]? = _
    rw [heap_alloc_new, hZ]
    congr 2
    apply Array.ext'
    simp [Value.cells]
  have hn1 : Nx w W1 := by rw [hW1]; exact .alloc (.drew (.refl _)) _
  have hap' : ∀ ty, (Builtin.append_ #[24, 3] ty #[.slice (some ⟨g, 0, none⟩) k es.length, .int .i64 ((es.length : Int) + 1 - (k : Int))]).run Try.prog w = .ok (.slice (some ⟨w.heap.size, 0, none⟩) (es.length + 1) G) W1 := fun ty => by
    rw [show (es.length : Int) + 1 - (k : Int) = ((es.length + 1 - k : Nat) : Int) by omega, hW1]
    exact hap
  have hv1 : Bx W1 g2 36 [V u, V v] := hv.nx hn1
  have hbx1 := hbx.nx hn1
  obtain ⟨w2, hr2, hb2, hg2⟩ := run_copyE (P := Try.prog) (T := 24) Try.underlying24 hi hz1 (o := k * 2) (dLen := es.length + 1 - k) hb1 ⟨g2, 0, none⟩ 1 [(u, v)] (by rw [show ([(u, v)] : Es).length = 1 from rfl]; unfold Nat.min; simp only [Nat.min_def]; split <;> omega)
    (fun j x hj => by rw [addr_add_plain]; exact hv1.cell (by simpa [cellsE_cons] using hj))
    (by simp [cellsE_length]; omega)
  rw [show ([(u, v)] : Es).length = 1 from rfl] at hb2
  have hbx2 := hbx1.grown hg2 (fun e => by injection e with e; omega)
  have hd2 : Nx w2 w2.drew := .drew (.refl _)
  obtain ⟨w3, hr3, hb3, hg3⟩ := run_copyE (P := Try.prog) (T := 24) Try.underlying24 hi hz1 (o := (k + 1) * 2) (dLen := es.length - k) (hb2.nx hd2) ⟨g, k * 2, none⟩ (es.length - k) (es.drop k) (by rw [List.length_drop]; unfold Nat.min; simp only [Nat.min_def]; split <;> omega)
    (fun j x hj => by
      rw [addr_add_plain]
      refine (hbx2.nx hd2).cell ?_
      have hj2 : j < (cellsE (es.drop k)).length := (List.getElem?_eq_some_iff.1 hj).1
      have hj3 := hj2
      rw [cellsE_length, List.length_drop] at hj3
      rw [List.getElem?_append_left (by rw [cellsE_length]; omega)]
      have e : cellsE es = cellsE (es.take k) ++ cellsE (es.drop k) := by rw [← cellsE_append, List.take_append_drop]
      rw [e, List.getElem?_append_right (by rw [cellsE_length]; simp; omega), cellsE_length, List.length_take, Nat.min_eq_left (by omega)]
      rw [show k * 2 + j - k * 2 = j by omega]; exact hj)
    (by simp [cellsE_length]; omega)
  rw [grow_cells es k hk u v Z (by omega)] at hb3
  have hfin : OwnE w3 base 36 (some ⟨w.heap.size, 0, none⟩) G (insL es k (u, v)) := FullE.own ⟨hb3, by rw [insL_length (by omega)]; omega, hGm, by rw [insL_length (by omega)]; simp; omega⟩ hb
  have hn3 : Nx w w3 := Nx.grown ((Nx.grown hn1 hg2 (fun j e => by injection e with e; omega)).trans hd2) hg3 (fun j e => by injection e with e; omega)
  have hgf : w.grownBy w3 (some g) := hn3.grownR _
  have Hfin := Lib.hid hfin
  have Hgf := Lib.hid hgf
  have Hlen := Lib.hid (insL_length (es := es) (k := k) (e := (u, v)) (by omega))
  have hGz : G ≤ 9223372036854775807 := by unfold maxLen at hGm; omega
  have hz2' : ¬ ((k : Int) = (es.length : Int)) := by omega
  have hw1 : IntKind.i64.wrap ((k : Int) + 1) = (k : Int) + 1 := by rw [IntKind.wrap_i64]; omega
  have hb1' : (0 : Int) ≤ (k : Int) + 1 := by omega
  have htn : ((k : Int) + 1).toNat = k + 1 := by omega
  have hc1 : ¬ (G = k + 1) := by omega
  have hc2 : ¬ (G = k) := by omega
  have hc3 : ¬ (es.length = k) := by omega
  have hb3' : (k : Int) ≤ (es.length : Int) + 1 := by omega
  have hb4 : k ≤ es.length := by omega
  have hb5 : (k : Int) ≤ (es.length : Int) := by omega
  have hb6 : (k : Int) + 1 ≤ (es.length : Int) + 1 := by omega
  clear hbx hb1 hb2 hb3 hg2 hg3 hv hv1 hi hz0 hz1 hz2 hfin hgf hown hd hf3 hap hZ hW1 hbx1 hbx2 hd2 hn1 hn3 hold hZl hGm
  go_enter Try.func102, Try.ntmps102
  go_wp2_with (first
    | (at_builtin; refine Lib.wpList_append_run _ rfl _ _ _ _ rfl _ _ rfl rfl _ _ (hap' _) ?_)
    | (at_builtin; refine wpList_copy_runI _ rfl _ _ 24 24 rfl _ _ rfl rfl (hr2 _ _ _) ?_))
  go_region_law (refine step_copy_runI rfl _ _ 24 24 rfl _ _ (by simp [Act.eval, Act.put]) (by simp [Act.eval, Act.put]) (hr3 _ _ _) ?_)
  go_wp2
  go_ret
  exact ⟨some ⟨w.heap.size, 0, none⟩, G, by rw [Hlen.out]; rfl, Hfin.out, Hgf.out, .inr rfl⟩

theorem insertE_c (base : Nat) (A : Option Addr) (c k : Nat) (es : Es) (u v : Int) (g2 : Nat) (w : World) (hown : OwnE w base 36 A c es) (hl : es.length ≤ 1048576) (hk : k ≤ es.length) (hb : base ≤ w.heap.size) (hv : Bx w g2 36 [V u, V v]) (hne : ∀ j, blk A = some j → j ≠ g2) :
    Calls Try.prog 102 #[.slice A es.length c, V k, .slice (some ⟨g2, 0, none⟩) 1 1] w (Inserted 36 base A (insL es k (u, v)) w) := by
  by_cases hke : k = es.length
  · subst hke
    exact insertE_end base A c es u v g2 w hown hl hb hv
  · obtain ⟨g, rfl, _, _⟩ := hown.at (by omega)
    by_cases hroom : es.length + 1 ≤ c
    · exact insertE_shift base g c k es u v g2 w hown hl (by omega) hroom hv (fun e => hne g rfl e.symm)
    · exact insertE_grow base g c k es u v g2 w hown hl (by omega) (by omega) hb hv
end Go.Proofs.Ytjchabeiaajgiaa
