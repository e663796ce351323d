import Derived.Shelf.SlSortCmp.NoneTotal
import Derived.Ground.SlsfProg
import Derived.Sort.OwnSortedInts
import Derived.Test.YtbceoigmcomlbaaProg
import Derived.Test.YtbceoigmcomlbaaJ2
import Derived.Test.YtbceoigmcomlbaaJ4
/- Contract: slices.SortFunc of a row of edges of one's own, by compareEdges. -/
namespace Go.Proofs.Ytbceoigmcomlbaa
open Go.Shelf
def Try.sortE_ren : Go.Shelf.Ren := ⟨fun | 6 => 40 | 15 => 68 | 14 => 67 | 28 => 87 | 29 => 88 | 20 => 79 | 21 => 80 | 22 => 81 | 23 => 82 | 24 => 83 | 25 => 84 | 26 => 85 | 27 => 86 | 46 => 101 | 47 => 102 | 48 => 103 | 49 => 104 | 50 => 105 | 57 => 110 | n => n, fun | 22 => 26 | 24 => 30 | 25 => 52 | 3 => 3 | 39 => 74 | 0 => 0 | 53 => 94 | 55 => 96 | 4 => 4 | 46 => 87 | 45 => 86 | 50 => 91 | 5 => 5 | 9 => 9 | 66 => 105 | 70 => 109 | 76 => 114 | 77 => 115 | n => n, fun | n => n⟩
theorem Try.sortE : Go.Proofs.SlLaysF0.n6 Try.prog Try.sortE_ren := {
  mixed := by kernel_rfl
  f6 := ⟨Try.f40.name, by decide, Try.func40.trans (congrArg some (by kernel_rfl))⟩
  f14 := ⟨Try.f67.name, by decide, Try.func67.trans (congrArg some (by kernel_rfl))⟩
  f15 := Try.func68.trans (congrArg some (by kernel_rfl))
  f20 := ⟨Try.f79.name, by decide, Try.func79.trans (congrArg some (by kernel_rfl))⟩
  f21 := ⟨Try.f80.name, by decide, Try.func80.trans (congrArg some (by kernel_rfl))⟩
  f22 := ⟨Try.f81.name, by decide, Try.func81.trans (congrArg some (by kernel_rfl))⟩
  f23 := ⟨Try.f82.name, by decide, Try.func82.trans (congrArg some (by kernel_rfl))⟩
  f24 := ⟨Try.f83.name, by decide, Try.func83.trans (congrArg some (by kernel_rfl))⟩
  f25 := ⟨Try.f84.name, by decide, Try.func84.trans (congrArg some (by kernel_rfl))⟩
  f26 := ⟨Try.f85.name, by decide, Try.func85.trans (congrArg some (by kernel_rfl))⟩
  f27 := ⟨Try.f86.name, by decide, Try.func86.trans (congrArg some (by kernel_rfl))⟩
  f28 := Try.func87.trans (congrArg some (by kernel_rfl))
  f29 := Try.func88.trans (congrArg some (by kernel_rfl))
  f46 := ⟨Try.f101.name, by decide, Try.func101.trans (congrArg some (by kernel_rfl))⟩
  f47 := Try.func102.trans (congrArg some (by kernel_rfl))
  f48 := Try.func103.trans (congrArg some (by kernel_rfl))
  f49 := ⟨Try.f104.name, by decide, Try.func104.trans (congrArg some (by kernel_rfl))⟩
  f50 := ⟨Try.f105.name, by decide, Try.func105.trans (congrArg some (by kernel_rfl))⟩
  f57 := ⟨Try.f110.name, by decide, Try.func110.trans (congrArg some (by kernel_rfl))⟩
  t0 := Try.underlying0
  a0 := Try.isAgg0
  z0 := Try.sizeOf0
  v0 := Try.zeroValue0
  t3 := Try.underlying3
  a3 := Try.isAgg3
  z3 := Try.sizeOf3
  v3 := Try.zeroValue3
  t4 := Try.underlying4
  a4 := Try.isAgg4
  z4 := Try.sizeOf4
  v4 := Try.zeroValue4
  t5 := Try.underlying5
  a5 := Try.isAgg5
  z5 := Try.sizeOf5
  v5 := Try.zeroValue5
  t9 := Try.underlying9
  a9 := Try.isAgg9
  z9 := Try.sizeOf9
  v9 := Try.zeroValue9
  t22 := Try.underlying26
  a22 := Try.isAgg26
  z22 := Try.sizeOf26
  v22 := Try.zeroValue26
  t25 := Try.underlying52
  a25 := Try.isAgg52
  z25 := Try.sizeOf52
  v25 := Try.zeroValue52
  t39 := Try.underlying74
  a39 := Try.isAgg74
  z39 := Try.sizeOf74
  v39 := Try.zeroValue74
  t45 := Try.underlying86
  a45 := Try.isAgg86
  z45 := Try.sizeOf86
  v45 := Try.zeroValue86
  t46 := Try.underlying87
  a46 := Try.isAgg87
  z46 := Try.sizeOf87
  v46 := Try.zeroValue87
  t50 := Try.underlying91
  a50 := Try.isAgg91
  z50 := Try.sizeOf91
  v50 := Try.zeroValue91
  t53 := Try.underlying94
  a53 := Try.isAgg94
  z53 := Try.sizeOf94
  v53 := Try.zeroValue94
  t55 := Try.underlying96
  a55 := Try.isAgg96
  z55 := Try.sizeOf96
  v55 := Try.zeroValue96
  t66 := Try.underlying105
  a66 := Try.isAgg105
  z66 := Try.sizeOf105
  v66 := Try.zeroValue105
  t70 := Try.underlying109
  a70 := Try.isAgg109
  z70 := Try.sizeOf109
  v70 := Try.zeroValue109
  t76 := Try.underlying114
  a76 := Try.isAgg114
  z76 := Try.sizeOf114
  v76 := Try.zeroValue114
  t77 := Try.underlying115
  a77 := Try.isAgg115
  z77 := Try.sizeOf115
  v77 := Try.zeroValue115 }
end Go.Proofs.Ytbceoigmcomlbaa
namespace Go.Proofs.Ytbceoigmcomlbaa
open Go.RowKit set_option linter.unusedVariables false set_option linter.unusedSimpArgs false
open Go.Sort

abbrev Es' := List (Int × Int)
/-- draws and new blocks -/
def Gq (w w' : World) : Prop := ∃ q os', w' = grow (w.drewN q) os'
theorem Gq.refl (w : World) : Gq w w := ⟨0, #[], by rw [grow_empty]; rfl⟩
theorem Gq.alloc {w w' : World} (h : Gq w w') (o : Obj) : Gq w (w'.alloc o) := by
  obtain ⟨q, os, rfl⟩ := h
  exact ⟨q, os ++ #[o], by rw [alloc_eq_grow, grow_grow]⟩
theorem Gq.drew {w w' : World} (h : Gq w w') : Gq w w'.drew := by
  obtain ⟨q, os, rfl⟩ := h
  exact ⟨q + 1, os, rfl⟩

set_option maxRecDepth 100000 in
theorem compareEdges_g (a1 a2 b1 b2 : Int) (w : World) : Calls Try.prog 41 #[Ed a1 a2, Ed b1 b2] w (fun e w' => e = .returned (V (cmpE (a1, a2) (b1, b2))) ∧ Gq w w') := by
  go_enter Try.func41, Try.ntmps41
  go_wp2
  generalize hW : (w.alloc _).alloc _ = W
  have g0 : W.cell? ⟨w.heap.size, 0, none⟩ = some (V a1) := by subst hW; go_simp
  have g1 : W.cell? ⟨w.heap.size, 1, none⟩ = some (V a2) := by subst hW; go_simp
  have g2 : W.cell? ⟨w.heap.size + 1, 0, none⟩ = some (V b1) := by subst hW; go_simp
  have g3 : W.cell? ⟨w.heap.size + 1, 1, none⟩ = some (V b2) := by subst hW; go_simp
  have gn : Gq w W := by subst hW; exact ((Gq.refl w).alloc _).alloc _
  clear hW
  refine wp_region_still_tail 10 (by kernel_rfl) (by kernel_rfl) ?_
  simp only [List.take_succ_cons, List.take_zero, List.drop_succ_cons, List.drop_zero]
  repeat still_step
  still_call (RetS.same (cmpCompare_c _ _ _))
  repeat still_step
  still_call (RetS.same (cmpCompare_c _ _ _))
  try refine wpStill_nil ?_
  change wpList _ _ _ _ _ W.drew
  generalize hW : W.drew = W2
  have gn2 : Gq w W2 := by subst hW; exact gn.drew
  clear hW g0 g1 g2 g3 gn
  go_wp2_with fail
  refine (cmpOr_c _ 0 (cmpI a1 b1) (cmpI a2 b2) _ (by go_simp) (by go_simp)).mono ?_
  rintro e w_ ⟨rfl, rfl⟩
  go_wp2
  go_ret
  exact ⟨by rw [cmpE_or]; rfl, gn2.alloc _⟩

/-- an edge's two cells -/
def encE (e : Int × Int) : List Value := [V e.1, V e.2]
theorem flat_cells (es : Es') : (flatK encE 2 es.toArray).toList = cellsE es := by
  apply List.ext_getElem?
  intro t
  have hs : (flatK encE 2 es.toArray).size = es.length * 2 := by simp
  by_cases ht : t < es.length * 2
  · rw [List.getElem?_eq_getElem (by simpa using ht)]
    have h1 := get_flatK encE 2 es.toArray t (by simpa using ht)
    rw [getElem!_pos _ t (by rw [hs]; exact ht)] at h1
    rw [Array.getElem_toList, h1]
    have hk : t / 2 < es.length := by omega
    have e1 : es.toArray[t / 2]! = es[t / 2] := by simp [hk]
    rw [e1]
    rcases Nat.mod_two_eq_zero_or_one t with h2 | h2
    · have := cellsE_get0 es (t / 2) hk
      rw [show t / 2 * 2 = t by omega] at this
      rw [this, h2]
      rfl
    · have := cellsE_get1 es (t / 2) hk
      rw [show t / 2 * 2 + 1 = t by omega] at this
      rw [this, h2]
      rfl
  · rw [List.getElem?_eq_none (by simpa using ht), List.getElem?_eq_none (by rw [cellsE_length]; omega)]

theorem holds_of_blockV {w : World} {g : Nat} {cur F : Array Value} {e : TypeId} (hb : w.heap[g]? = some (.cells cur e (0, 0))) (ht : cur.toList.take F.size = F.toList) : Holds id w g 0 F := by
  intro j hj
  refine ⟨?_, by simp [World.frozen?, hb]⟩
  have h1 : (cur.toList.take F.size)[j]? = F.toList[j]? := by rw [ht]
  rw [List.getElem?_take_of_lt hj] at h1
  simp only [World.cell?, hb, Nat.zero_add]
  simp only [Option.isSome_none, Bool.false_eq_true, if_false]
  rw [← Array.getElem?_toList, h1]
  simp [hj]
theorem heap_sortedV {w : World} {g n : Nat} {os : Array Obj} {cur : Array Value} {e : TypeId} {fr : Nat × Nat} (d : Array Value) (hb : w.heap[g]? = some (.cells cur e fr)) :
    (grow (putRow id (Sort.ahead w n) g 0 d) os).heap[g]? = some (.cells (putCells id 0 d cur) e fr) := by
  have hg : g < w.heap.size := (Array.getElem?_eq_some_iff.1 hb).1
  rw [heap_grow_old _ _ (by simpa using hg)]
  simp [putRow, mapBlock, Sort.ahead, Array.getElem?_modify, hb, onCells]
theorem grownBy_sortedV {w : World} {g n : Nat} {os : Array Obj} (d : Array Value) : w.grownBy (grow (putRow id (Sort.ahead w n) g 0 d) os) (some g) := by
  refine ⟨rfl, rfl, rfl, by simp, fun k hk hne => ?_⟩
  rw [heap_grow_old _ _ (by simpa using hk)]
  have : g ≠ k := fun e => hne (by rw [e])
  simp [putRow, mapBlock, Sort.ahead, Array.getElem?_modify, this]
theorem take_putCellsV (cur F : Array Value) (h : F.size ≤ cur.size) : (putCells id 0 F cur).toList.take F.size = F.toList := by
  apply List.ext_getElem?
  intro j
  by_cases hj : j < F.size
  · rw [List.getElem?_take_of_lt hj, Array.getElem?_toList]
    simp [putCells, hj, show j < cur.size by omega]
  · rw [List.getElem?_take_eq_none (by omega), List.getElem?_eq_none (by simpa using hj)]

/-- sorted -/
def srtE (es : Es') : Es' := es.mergeSort fun x y => !(ltOf cmpE y x)
theorem srtE_length (es : Es') : (srtE es).length = es.length := List.length_mergeSort _
theorem ltOf_iff (x y : Int × Int) : ltOf cmpE x y = true ↔ ltE x y := by
  unfold ltOf
  rw [decide_eq_true_iff]
  exact cmpE_lt x y
theorem swoE : SWO (ltOf cmpE) where
  irrefl x := by
    rw [Bool.eq_false_iff]
    intro h
    have := (ltOf_iff x x).1 h
    unfold ltE at this
    omega
  trans x y z h1 h2 := by
    have h1 := (ltOf_iff x y).1 h1
    have h2 := (ltOf_iff y z).1 h2
    rw [ltOf_iff]
    unfold ltE at *
    omega
  ntrans x y z h1 h2 := by
    have h1 : ¬ ltE x y := fun h => by have := (ltOf_iff x y).2 h; rw [h1] at this; cases this
    have h2 : ¬ ltE y z := fun h => by have := (ltOf_iff y z).2 h; rw [h2] at this; cases this
    rw [Bool.eq_false_iff]
    intro h
    have h := (ltOf_iff x z).1 h
    unfold ltE at *
    omega
theorem totE (x y : Int × Int) (h1 : ltOf cmpE x y = false) (h2 : ltOf cmpE y x = false) : x = y := by
  have h1 : ¬ ltE x y := fun h => by have := (ltOf_iff x y).2 h; rw [h1] at this; cases this
  have h2 : ¬ ltE y x := fun h => by have := (ltOf_iff y x).2 h; rw [h2] at this; cases this
  unfold ltE at *
  obtain ⟨a, b⟩ := x
  obtain ⟨c, d⟩ := y
  simp only at *
  have : a = c := by omega
  have : b = d := by omega
  subst a b
  rfl

def SortedE (base : Nat) (A : Option Addr) (c : Nat) (es : Es') (w : World) (e : Ending) (w' : World) : Prop :=
  e = .returned (.tuple #[]) ∧ OwnE w' base 30 A c (srtE es) ∧ w.grownBy w' (blk A)
theorem sortE_c (base : Nat) (A : Option Addr) (c : Nat) (es : Es') (w : World) (h : OwnE w base 30 A c es) (hl : es.length ≤ 1048576) :
    Calls Try.prog 40 #[.slice A es.length c, .func (.func 41) #[] #[]] w (SortedE base A c es w) := by
  by_cases h0 : es = []
  · subst h0
    refine (AnyF.slices_SortFunc_none { Try.sortE with } A c _ w).mono ?_
    rintro e w' ⟨rfl, rfl⟩
    exact ⟨rfl, by simpa [srtE] using h, World.grownBy.refl _ _⟩
  · have h1 := h
    obtain ⟨_, h2 | ⟨g, cap, cur, hv, hb, hg, hle, hm, hs, ht⟩⟩ := h1
    · exact absurd (by simpa using h2.2) h0
    · injection hv with hA _ hc
      subst hA hc
      have eg : ∀ args w, (callFunc 41 args).run Try.prog w = .ok (.enter 41 args) w := enters_of Try.func41 (by kernel_rfl) rfl
      have hcl : CmpLays Try.prog 41 #[] encE 2 cmpE g 0 es.toArray.size w := fun m os dk _ x y => compareEdges_g x.1 x.2 y.1 y.2 _
      have hH : HoldsK encE 2 w g 0 es.toArray := holds_of_blockV hg (by rw [flat_cells]; simpa using ht)
      refine (AnyQ.slices_SortFunc_total Try.sortE 2 Try.isAgg30 Try.sizeOf30 encE (fun _ => rfl) (fun x v hv => by simp [encE] at hv; rcases hv with rfl | rfl <;> rfl) cmpE swoE 41 #[] g 0 c es.toArray w eg hcl hH (Array.getElem?_eq_some_iff.1 hg).1 (by simp; omega) totE).mono ?_
      rintro e w' ⟨rfl, n, os, rfl⟩
      have hlen := srtE_length es
      refine ⟨rfl, ?_, grownBy_sortedV _⟩
      unfold OwnE
      rw [hlen]
      have hfs : (flatK encE 2 (srtE es).toArray).size = es.length * 2 := by simp [hlen]
      refine ⟨by rw [cellsE_length, hlen], .inr ⟨g, c, _, rfl, hb, heap_sortedV _ hg, hle, hm, by simp [putCells, hs], ?_⟩⟩
      have := take_putCellsV cur (flatK encE 2 (srtE es).toArray) (by rw [hfs, hs]; omega)
      rw [flat_cells, hfs] at this
      exact this
end Go.Proofs.Ytbceoigmcomlbaa
