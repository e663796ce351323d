/- Contract: slices.SortFunc of a row of edges of one's own, by compareEdges. -/
import Derived.Shelf.SlSortCmp.NoneTotal
import Derived.Ground.SlsfProg
import Derived.Sort.OwnSortedInts
import Derived.Test.YtnnfbndalcnjiaaProg
import Derived.Test.YtnnfbndalcnjiaaM
import Derived.Test.YtnnfbndalcnjiaaG1
namespace Go.Proofs.Ytnnfbndalcnjiaa
open Go.Shelf
def Try.sortE_ren : Go.Shelf.Ren := ⟨fun | 6 => 39 | 15 => 61 | 14 => 60 | 28 => 77 | 29 => 78 | 20 => 69 | 21 => 70 | 22 => 71 | 23 => 72 | 24 => 73 | 25 => 74 | 26 => 75 | 27 => 76 | 46 => 89 | 47 => 90 | 48 => 91 | 49 => 92 | 50 => 93 | 57 => 97 | n => n, fun | 22 => 31 | 24 => 40 | 25 => 51 | 3 => 3 | 39 => 65 | 0 => 0 | 53 => 80 | 55 => 82 | 4 => 4 | 46 => 73 | 45 => 72 | 50 => 77 | 5 => 5 | 9 => 9 | 66 => 89 | 70 => 93 | 76 => 97 | 77 => 98 | n => n, fun | n => n⟩
theorem Try.sortE : Go.Proofs.SlLaysF0.n6 Try.prog Try.sortE_ren := {
  mixed := by kernel_rfl
  f6 := ⟨Try.f39.name, by decide, Try.func39.trans (congrArg some (by kernel_rfl))⟩
  f14 := ⟨Try.f60.name, by decide, Try.func60.trans (congrArg some (by kernel_rfl))⟩
  f15 := Try.func61.trans (congrArg some (by kernel_rfl))
  f20 := ⟨Try.f69.name, by decide, Try.func69.trans (congrArg some (by kernel_rfl))⟩
  f21 := ⟨Try.f70.name, by decide, Try.func70.trans (congrArg some (by kernel_rfl))⟩
  f22 := ⟨Try.f71.name, by decide, Try.func71.trans (congrArg some (by kernel_rfl))⟩
  f23 := ⟨Try.f72.name, by decide, Try.func72.trans (congrArg some (by kernel_rfl))⟩
  f24 := ⟨Try.f73.name, by decide, Try.func73.trans (congrArg some (by kernel_rfl))⟩
  f25 := ⟨Try.f74.name, by decide, Try.func74.trans (congrArg some (by kernel_rfl))⟩
  f26 := ⟨Try.f75.name, by decide, Try.func75.trans (congrArg some (by kernel_rfl))⟩
  f27 := ⟨Try.f76.name, by decide, Try.func76.trans (congrArg some (by kernel_rfl))⟩
  f28 := Try.func77.trans (congrArg some (by kernel_rfl))
  f29 := Try.func78.trans (congrArg some (by kernel_rfl))
  f46 := ⟨Try.f89.name, by decide, Try.func89.trans (congrArg some (by kernel_rfl))⟩
  f47 := Try.func90.trans (congrArg some (by kernel_rfl))
  f48 := Try.func91.trans (congrArg some (by kernel_rfl))
  f49 := ⟨Try.f92.name, by decide, Try.func92.trans (congrArg some (by kernel_rfl))⟩
  f50 := ⟨Try.f93.name, by decide, Try.func93.trans (congrArg some (by kernel_rfl))⟩
  f57 := ⟨Try.f97.name, by decide, Try.func97.trans (congrArg some (by kernel_rfl))⟩
  t0 := Try.underlying0
  a0 := Try.isAgg0
  z0 := Try.sizeOf0
  v0 := Try.zeroValue0
  t3 := Try.underlying3
  a3 := Try.isAgg3
  z3 := Try.sizeOf3
  v3 := Try.zeroValue3
  t4 := Try.underlying4
  a4 := Try.isAgg4
  z4 := Try.sizeOf4
  v4 := Try.zeroValue4
  t5 := Try.underlying5
  a5 := Try.isAgg5
  z5 := Try.sizeOf5
  v5 := Try.zeroValue5
  t9 := Try.underlying9
  a9 := Try.isAgg9
  z9 := Try.sizeOf9
  v9 := Try.zeroValue9
  t22 := Try.underlying31
  a22 := Try.isAgg31
  z22 := Try.sizeOf31
  v22 := Try.zeroValue31
  t25 := Try.underlying51
  a25 := Try.isAgg51
  z25 := Try.sizeOf51
  v25 := Try.zeroValue51
  t39 := Try.underlying65
  a39 := Try.isAgg65
  z39 := Try.sizeOf65
  v39 := Try.zeroValue65
  t45 := Try.underlying72
  a45 := Try.isAgg72
  z45 := Try.sizeOf72
  v45 := Try.zeroValue72
  t46 := Try.underlying73
  a46 := Try.isAgg73
  z46 := Try.sizeOf73
  v46 := Try.zeroValue73
  t50 := Try.underlying77
  a50 := Try.isAgg77
  z50 := Try.sizeOf77
  v50 := Try.zeroValue77
  t53 := Try.underlying80
  a53 := Try.isAgg80
  z53 := Try.sizeOf80
  v53 := Try.zeroValue80
  t55 := Try.underlying82
  a55 := Try.isAgg82
  z55 := Try.sizeOf82
  v55 := Try.zeroValue82
  t66 := Try.underlying89
  a66 := Try.isAgg89
  z66 := Try.sizeOf89
  v66 := Try.zeroValue89
  t70 := Try.underlying93
  a70 := Try.isAgg93
  z70 := Try.sizeOf93
  v70 := Try.zeroValue93
  t76 := Try.underlying97
  a76 := Try.isAgg97
  z76 := Try.sizeOf97
  v76 := Try.zeroValue97
  t77 := Try.underlying98
  a77 := Try.isAgg98
  z77 := Try.sizeOf98
  v77 := Try.zeroValue98 }
end Go.Proofs.Ytnnfbndalcnjiaa
namespace Go.Proofs.Ytnnfbndalcnjiaa
open Go.RowKit set_option linter.unusedVariables false set_option linter.unusedSimpArgs false
open Go.Sort

abbrev Es' := List (Int × Int)
/-- draws and new blocks -/
def Gq (w w' : World) : Prop := ∃ q os', w' = grow (w.drewN q) os'
theorem Gq.refl (w : World) : Gq w w := ⟨0, #[], by rw [grow_empty]; rfl⟩
theorem Gq.alloc {w w' : World} (h : Gq w w') (o : Obj) : Gq w (w'.alloc o) := by
  obtain ⟨q, os, rfl⟩ := h
  exact ⟨q, os ++ #[o], by rw [alloc_eq_grow, grow_grow]⟩
theorem Gq.drew {w w' : World} (h : Gq w w') : Gq w w'.drew := by
  obtain ⟨q, os, rfl⟩ := h
  exact ⟨q + 1, os, rfl⟩

set_option maxRecDepth 100000 in
theorem compareEdges_g (a1 a2 b1 b2 : Int) (w : World) : Calls Try.prog 40 #[Ed a1 a2, Ed b1 b2] w (fun e w' => e = .returned (V (cmpE (a1, a2) (b1, b2))) ∧ Gq w w') := by
  go_enter Try.func40, Try.ntmps40
  go_wp2
  generalize hW : (w.alloc _).alloc _ = W
  have g0 : W.cell? ⟨w.heap.size, 0, none⟩ = some (V a1) := by subst hW; go_simp
  have g1 : W.cell? ⟨w.heap.size, 1, none⟩ = some (V a2) := by subst hW; go_simp
  have g2 : W.cell? ⟨w.heap.size + 1, 0, none⟩ = some (V b1) := by subst hW; go_simp
  have g3 : W.cell? ⟨w.heap.size + 1, 1, none⟩ = some (V b2) := by subst hW; go_simp
  have gn : Gq w W := by subst hW; exact ((Gq.refl w).alloc _).alloc _
  clear hW
  refine wp_region_still_tail 10 (by kernel_rfl) (by kernel_rfl) ?_
  simp only [List.take_succ_cons, List.take_zero, List.drop_succ_cons, List.drop_zero]
  repeat still_step
  still_call (RetS.same (cmpCompare_c _ _ _))
  repeat still_step
  still_call (RetS.same (cmpCompare_c _ _ _))
  try refine wpStill_nil ?_
  change wpList _ _ _ _ _ W.drew
  generalize hW : W.drew = W2
  have gn2 : Gq w W2 := by subst hW; exact gn.drew
  clear hW g0 g1 g2 g3 gn
  go_wp2_with fail
  refine (cmpOr_c _ 0 (cmpI a1 b1) (cmpI a2 b2) _ (by go_simp) (by go_simp)).mono ?_
  rintro e w_ ⟨rfl, rfl⟩
  go_wp2
  go_ret
  exact ⟨by rw [cmpE_or]; rfl, gn2.alloc _⟩

/-- an edge's two cells -/
def encE (e : Int × Int) : List Value := [V e.1, V e.2]
theorem flat_cells (es : Es') : (flatK encE 2 es.toArray).toList = cellsE es := by
  apply List.ext_getElem?
  intro t
  have hs : (flatK encE 2 es.toArray).size = es.length * 2 := by simp
  by_cases ht : t < es.length * 2
  · rw [List.getElem?_eq_getElem (by simpa using ht)]
    have h1 := get_flatK encE 2 es.toArray t (by simpa using ht)
    rw [getElem!_pos _ t (by rw [hs]; exact ht)] at h1
    rw [Array.getElem_toList, h1]
    have hk : t / 2 < es.length := by omega
    have e1 : es.toArray[t / 2]! = es[t / 2] := by simp [hk]
    rw [e1]
    rcases Nat.mod_two_eq_zero_or_one t with h2 | h2
    · have := cellsE_get0 es (t / 2) hk
      rw [show t / 2 * 2 = t by omega] at this
      rw [this, h2]
      rfl
    · have := cellsE_get1 es (t / 2) hk
      rw [show t / 2 * 2 + 1 = t by omega] at this
      rw [this, h2]
      rfl
  · rw [List.getElem?_eq_none (by simpa using ht), List.getElem?_eq_none (by rw [cellsE_length]; omega)]

theorem holds_of_blockV {w : World} {g : Nat} {cur F : Array Value} {e : TypeId} (hb : w.heap[g]? = some (.cells cur e (0, 0))) (ht : cur.toList.take F.size = F.toList) : Holds id w g 0 F := by
  intro j hj
  refine ⟨?_, by simp [World.frozen?, hb]⟩
  have h1 : (cur.toList.take F.size)[j]? = F.toList[j]? := by rw [ht]
  rw [List.getElem?_take_of_lt hj] at h1
  simp only [World.cell?, hb, Nat.zero_add]
  simp only [Option.isSome_none, Bool.false_eq_true, if_false]
  rw [← Array.getElem?_toList, h1]
  simp [hj]
theorem heap_sortedV {w : World} {g n : Nat} {os : Array Obj} {cur : Array Value} {e : TypeId} {fr : Nat × Nat} (d : Array Value) (hb : w.heap[g]? = some (.cells cur e fr)) :
    (grow (putRow id (Sort.ahead w n) g 0 d) os).heap[g]? = some (.cells (putCells id 0 d cur) e fr) := by
  have hg : g < w.heap.size := (Array.getElem?_eq_some_iff.1 hb).1
  rw [heap_grow_old _ _ (by simpa using hg)]
  simp [putRow, mapBlock, Sort.ahead, Array.getElem?_modify, hb, onCells]
theorem grownBy_sortedV {w : World} {g n : Nat} {os : Array Obj} (d : Array Value) : w.grownBy (grow (putRow id (Sort.ahead w n) g 0 d) os) (some g) := by
  refine ⟨rfl, rfl, rfl, by simp, fun k hk hne => ?_⟩
  rw [heap_grow_old _ _ (by simpa using hk)]
  have : g ≠ k := fun e => hne (by rw [e])
  simp [putRow, mapBlock, Sort.ahead, Array.getElem?_modify, this]
theorem take_putCellsV (cur F : Array Value) (h : F.size ≤ cur.size) : (putCells id 0 F cur).toList.take F.size = F.toList := by
  apply List.ext_getElem?
  intro j
  by_cases hj : j < F.size
  · rw [List.getElem?_take_of_lt hj, Array.getElem?_toList]
    simp [putCells, hj, show j < cur.size by omega]
  · rw [List.getElem?_take_eq_none (by omega), List.getElem?_eq_none (by simpa using hj)]

/-- sorted -/
def srtE (es : Es') : Es' := es.mergeSort fun x y => !(ltOf cmpE y x)
theorem srtE_length (es : Es') : (srtE es).length = es.length := List.length_mergeSort _
theorem ltOf_iff (x y : Int × Int) : ltOf cmpE x y = true ↔ ltE x y := by
  unfold ltOf
  rw [decide_eq_true_iff]
  exact cmpE_lt x y
theorem swoE : SWO (ltOf cmpE) where
  irrefl x := by
    rw [Bool.eq_false_iff]
    intro h
    have := (ltOf_iff x x).1 h
    unfold ltE at this
    omega
  trans x y z h1 h2 := by
    have h1 := (ltOf_iff x y).1 h1
    have h2 := (ltOf_iff y z).1 h2
    rw [ltOf_iff]
    unfold ltE at *
    omega
  ntrans x y z h1 h2 := by
    have h1 : ¬ ltE x y := fun h => by have := (ltOf_iff x y).2 h; rw [h1] at this; cases this
    have h2 : ¬ ltE y z := fun h => by have := (ltOf_iff y z).2 h; rw [h2] at this; cases this
    rw [Bool.eq_false_iff]
    intro h
    have h := (ltOf_iff x z).1 h
    unfold ltE at *
    omega
theorem totE (x y : Int × Int) (h1 : ltOf cmpE x y = false) (h2 : ltOf cmpE y x = false) : x = y := by
  have h1 : ¬ ltE x y := fun h => by have := (ltOf_iff x y).2 h; rw [h1] at this; cases this
  have h2 : ¬ ltE y x := fun h => by have := (ltOf_iff y x).2 h; rw [h2] at this; cases this
  unfold ltE at *
  obtain ⟨a, b⟩ := x
  obtain ⟨c, d⟩ := y
  simp only at *
  have : a = c := by omega
  have : b = d := by omega
  subst a b
  rfl

def SortedE (base : Nat) (A : Option Addr) (c : Nat) (es : Es') (w : World) (e : Ending) (w' : World) : Prop :=
  e = .returned (.tuple #[]) ∧ OwnE w' base 40 A c (srtE es) ∧ w.grownBy w' (blk A)
theorem sortE_c (base : Nat) (A : Option Addr) (c : Nat) (es : Es') (w : World) (h : OwnE w base 40 A c es) (hl : es.length ≤ 1048576) :
    Calls Try.prog 39 #[.slice A es.length c, .func (.func 40) #[] #[]] w (SortedE base A c es w) := by
  by_cases h0 : es = []
  · subst h0
    refine (AnyF.slices_SortFunc_none { Try.sortE with } A c _ w).mono ?_
    rintro e w' ⟨rfl, rfl⟩
    exact ⟨rfl, by simpa [srtE] using h, World.grownBy.refl _ _⟩
  · have h1 := h
    obtain ⟨_, h2 | ⟨g, cap, cur, hv, hb, hg, hle, hm, hs, ht⟩⟩ := h1
    · exact absurd (by simpa using h2.2) h0
    · injection hv with hA _ hc
      subst hA hc
      have eg : ∀ args w, (callFunc 40 args).run Try.prog w = .ok (.enter 40 args) w := enters_of Try.func40 (by kernel_rfl) rfl
      have hcl : CmpLays Try.prog 40 #[] encE 2 cmpE g 0 es.toArray.size w := fun m os dk _ x y => compareEdges_g x.1 x.2 y.1 y.2 _
      have hH : HoldsK encE 2 w g 0 es.toArray := holds_of_blockV hg (by rw [flat_cells]; simpa using ht)
      refine (AnyQ.slices_SortFunc_total Try.sortE 2 Try.isAgg40 Try.sizeOf40 encE (fun _ => rfl) (fun x v hv => by simp [encE] at hv; rcases hv with rfl | rfl <;> rfl) cmpE swoE 40 #[] g 0 c es.toArray w eg hcl hH (Array.getElem?_eq_some_iff.1 hg).1 (by simp; omega) totE).mono ?_
      rintro e w' ⟨rfl, n, os, rfl⟩
      have hlen := srtE_length es
      refine ⟨rfl, ?_, grownBy_sortedV _⟩
      unfold OwnE
      rw [hlen]
      have hfs : (flatK encE 2 (srtE es).toArray).size = es.length * 2 := by simp [hlen]
      refine ⟨by rw [cellsE_length, hlen], .inr ⟨g, c, _, rfl, hb, heap_sortedV _ hg, hle, hm, by simp [putCells, hs], ?_⟩⟩
      have := take_putCellsV cur (flatK encE 2 (srtE es).toArray) (by rw [hfs, hs]; omega)
      rw [flat_cells, hfs] at this
      exact this
end Go.Proofs.Ytnnfbndalcnjiaa
