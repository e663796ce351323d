/- Contracts: slices.Index, slices.Contains, slices.Clone, slices.Compact, slices.Concat over numbers; isNode and the closure of TourValid. -/
import Derived.Shelf.SlGeneric
import Derived.Shelf.Spec.SlicesGrow
import Derived.Ground.Names7Prog
import Derived.Test.YtnnfbndalcnjiaaCP
import Derived.Test.YtnnfbndalcnjiaaM2
import Derived.Test.YtnnfbndalcnjiaaA2
namespace Go.Proofs.Ytnnfbndalcnjiaa
open Go.Shelf
def Try.growI_ren : Go.Shelf.Ren := ⟨fun | 4 => 67 | n => n, fun | 22 => 22 | 25 => 3 | 3 => 3 | 4 => 4 | 9 => 9 | 20 => 20 | 0 => 0 | n => n, fun | n => n⟩
theorem Try.growI : Go.Proofs.Lays8.n4 Try.prog Try.growI_ren := {
  mixed := by kernel_rfl
  f4 := ⟨Try.f67.name, by decide, Try.func67.trans (congrArg some (by kernel_rfl))⟩
  t0 := Try.underlying0
  a0 := Try.isAgg0
  z0 := Try.sizeOf0
  v0 := Try.zeroValue0
  t3 := Try.underlying3
  a3 := Try.isAgg3
  z3 := Try.sizeOf3
  v3 := Try.zeroValue3
  t4 := Try.underlying4
  a4 := Try.isAgg4
  z4 := Try.sizeOf4
  v4 := Try.zeroValue4
  t9 := Try.underlying9
  a9 := Try.isAgg9
  z9 := Try.sizeOf9
  v9 := Try.zeroValue9
  t20 := Try.underlying20
  a20 := Try.isAgg20
  z20 := Try.sizeOf20
  v20 := Try.zeroValue20
  t22 := Try.underlying22
  a22 := Try.isAgg22
  z22 := Try.sizeOf22
  v22 := Try.zeroValue22 }
end Go.Proofs.Ytnnfbndalcnjiaa
namespace Go.Proofs.Ytnnfbndalcnjiaa
open Go.RowKit set_option linter.unusedVariables false set_option linter.unusedSimpArgs false

/-- the first place of a number, or -1 -/
def fstV (xs : List Int) (n : Int) : Int := fstJ (fun y => decide (y = n)) xs
theorem fstV_nonneg (xs : List Int) (n : Int) : decide (0 ≤ fstV xs n) = decide (n ∈ xs) := by
  unfold fstV
  rw [fstJ_nonneg, Bool.eq_iff_iff, List.any_eq_true, decide_eq_true_eq]
  constructor
  · rintro ⟨x, hx, h⟩; rw [decide_eq_true_eq] at h; subst h; exact hx
  · intro h; exact ⟨n, h, by simp⟩
theorem fstV_spec {xs : List Int} {n : Int} (h : n ∈ xs) : ∃ k : Nat, fstV xs n = k ∧ xs[k]? = some n ∧ ∀ i, i < k → xs[i]? ≠ some n := by
  have ha : xs.any (fun y => decide (y = n)) = true := List.any_eq_true.2 ⟨n, h, by simp⟩
  have hl : xs.findIdx (fun y => decide (y = n)) < xs.length := List.findIdx_lt_length_of_exists ⟨n, h, by simp⟩
  refine ⟨xs.findIdx (fun y => decide (y = n)), by unfold fstV fstJ; rw [if_pos ha], ?_, fun i hi he => ?_⟩
  · have := List.findIdx_getElem (w := hl)
    rw [List.getElem?_eq_getElem hl]
    rw [decide_eq_true_eq] at this
    rw [this]
  · have h2 := List.not_of_lt_findIdx hi
    have h3 := (List.getElem?_eq_some_iff.1 he).2
    rw [h3] at h2
    simp at h2
theorem fstV_no {xs : List Int} {n : Int} (h : n ∉ xs) : fstV xs n = -1 := fstJ_no fun j hj d hd => by
  simp only [decide_eq_false_iff_not]
  rintro rfl
  exact h (List.mem_of_getElem? hd)
theorem fstV_neg {xs : List Int} {n : Int} (h : fstV xs n < 0) : n ∉ xs := fun hm => by
  obtain ⟨k, hk, _⟩ := fstV_spec hm
  omega
theorem fstV_pos {xs : List Int} {n : Int} (h : ¬ fstV xs n < 0) : n ∈ xs := Classical.byContradiction fun hm => h (by rw [fstV_no hm]; omega)

set_option maxRecDepth 100000 in
set_option maxHeartbeats 2000000 in
theorem indexI_c (A : Option Addr) (c : Nat) (xs : List Int) (n : Int) (w : World) (hx : IntsAt w A xs) (hl : xs.length ≤ 1048576) :
    Calls Try.prog 46 #[.slice A xs.length c, V n] w (RetS (V (fstV xs n)) w) := by
  go_enter Try.func46, Try.ntmps46
  go_wp2
  go_loopg [5, 8] xs.length (fun gk _ i wr => ∃ k : Nat, k + gk = xs.length ∧ i = .int .i64 k ∧ wr = w ∧ ∀ j, j < k → ∀ d, xs[j]? = some d → decide (d = n) = false)
  case atStart => exact ⟨0, by omega, rfl, rfl, fun j hj => by omega⟩
  case round =>
    obtain ⟨k, hk, rfl, rfl, hno⟩ := hrel
    have Hno := Lib.hid hno
    clear hno
    by_cases hlt : k < xs.length
    · obtain ⟨x, hek⟩ : ∃ x, xs[k]? = some x := ⟨_, List.getElem?_eq_getElem hlt⟩
      obtain ⟨b, off, rfl, hbl, h1⟩ := hx.rd hek
      have Hek := Lib.hid hek
      clear hek hx
      by_cases hq : (n == x) = true
      · go_wp2_with fail
        go_ret
        exact RetS.int (fstJ_hit Hno.out Hek.out (by simp at hq; simp [hq])).symm
      · have hq : (n == x) = false := by simpa using hq
        go_wp2_with fail
        go_roundg (gk - 1)
        case measure => omega
        case rel => exact ⟨k + 1, by omega, by go_num, rfl, no_stepI Hno.out Hek.out (by simp at hq; simp; exact fun h => hq h.symm)⟩
    · go_wp2
      go_ret
      exact RetS.int (fstJ_no (fun j hj => Hno.out j (by omega))).symm

set_option maxRecDepth 100000 in
set_option maxHeartbeats 2000000 in
theorem containsI_c (A : Option Addr) (c : Nat) (xs : List Int) (n : Int) (w : World) (hx : IntsAt w A xs) (hl : xs.length ≤ 1048576) :
    Calls Try.prog 56 #[.slice A xs.length c, V n] w (RetS (.bool (decide (n ∈ xs))) w) := by
  have hi := indexI_c A c xs n w hx hl
  rw [← fstV_nonneg]
  generalize fstV xs n = i at *
  have Hi := Lib.hid hi
  clear hi
  go_enter Try.func56, Try.ntmps56
  go_wp2_with fail
  refine Hi.out.mono ?_
  rintro e w1 ⟨rfl, rfl⟩
  go_wp2
  go_ret
  exact RetS.bool rfl

set_option maxRecDepth 100000 in
set_option maxHeartbeats 2000000 in
theorem l6First_c (A : Option Addr) (c : Nat) (xs : List Int) (n : Int) (w : World) (hx : IntsAt w A xs) (hl : xs.length ≤ 1048576) :
    Calls Try.prog 45 #[.slice A xs.length c, V n] w (RetS (V (fstV xs n)) w) := by
  go_enter Try.func45, Try.ntmps45
  go_wp2
  go_loopg [5] xs.length (fun gk i wr => ∃ k : Nat, k + gk = xs.length ∧ i = .int .i64 k ∧ wr = w ∧ ∀ j, j < k → ∀ d, xs[j]? = some d → decide (d = n) = false)
  case atStart => exact ⟨0, by omega, rfl, rfl, fun j hj => by omega⟩
  case round =>
    obtain ⟨k, hk, rfl, rfl, hno⟩ := hrel
    have Hno := Lib.hid hno
    clear hno
    by_cases hlt : k < xs.length
    · obtain ⟨x, hek⟩ : ∃ x, xs[k]? = some x := ⟨_, List.getElem?_eq_getElem hlt⟩
      obtain ⟨b, off, rfl, hbl, h1⟩ := hx.rd hek
      have Hek := Lib.hid hek
      clear hek hx
      by_cases hq : (x == n) = true
      · go_wp2_with fail
        go_ret
        exact RetS.int (fstJ_hit Hno.out Hek.out (by simp at hq; simp [hq])).symm
      · have hq : (x == n) = false := by simpa using hq
        go_wp2_with fail
        go_roundg (gk - 1)
        case measure => omega
        case rel => exact ⟨k + 1, by omega, by go_num, rfl, no_stepI Hno.out Hek.out (by simpa using hq)⟩
    · go_wp2
      go_ret
      exact RetS.int (fstJ_no (fun j hj => Hno.out j (by omega))).symm

theorem isNode_s (x : Int) (w : World) : Calls Try.prog 37 #[V x] w (RetS (.bool (decide (0 ≤ x ∧ x < 16))) w) := by
  by_cases h1 : 0 ≤ x <;> by_cases h2 : x < 16 <;>
  · go_enter Try.func37, Try.ntmps37
    go_wp2
    go_ret
    exact RetS.bool (by simp [h1, h2])
theorem notNode_c (x : Int) (w : World) : Calls Try.prog 36 #[V x] w (RetV (.bool (!decide (0 ≤ x ∧ x < 16))) w) := by
  generalize hq : decide (0 ≤ x ∧ x < 16) = q
  have hc := isNode_s x w
  rw [hq] at hc
  have Hc := Lib.hid hc
  clear hc hq
  go_enter Try.func36, Try.ntmps36
  go_wp2_with fail
  refine Hc.out.mono ?_
  rintro e w1 ⟨rfl, rfl⟩
  go_wp2
  go_ret
  exact RetV.bool rfl (Nx.refl _)
/-- is a number of the list no node? -/
def badN (xs : List Int) : Bool := xs.any fun x => !decide (0 ≤ x ∧ x < 16)
theorem badN_iff (xs : List Int) : badN xs = false ↔ ∀ x ∈ xs, 0 ≤ x ∧ x < 16 := by
  unfold badN
  rw [List.any_eq_false]
  constructor
  · intro h x hx; have := h x hx; simp at this; omega
  · intro h x hx; have := h x hx; simp; omega
theorem anyBad_c (A : Option Addr) (c : Nat) (xs : List Int) (w : World) (hx : IntsAt w A xs) (hl : xs.length ≤ 1048576) :
    Calls Try.prog 35 #[.slice A xs.length c, .func (.func 36) #[] #[]] w (RetV (.bool (badN xs)) w) :=
  containsFuncI_c 36 #[] #[] _ (enters_of Try.func36 (by rfl) rfl) A c xs w hx hl fun W x _ _ => notNode_c x W

set_option maxRecDepth 100000 in
set_option maxHeartbeats 1000000 in
theorem cloneI_c (A : Option Addr) (c : Nat) (xs : List Int) (w : World) (hx : IntsAt w A xs) (hl : xs.length ≤ 1048576) :
    Calls Try.prog 41 #[.slice A xs.length c] w (RetI 3 xs w) := by
  obtain ⟨i0, hi, hz0, hz1, hz2⟩ := info_parts infoI
  have Hi := Lib.hid hi
  have Hz0 := Lib.hid hz0
  have Hz1 := Lib.hid hz1
  have Hz2 := Lib.hid hz2
  clear hi hz0 hz1 hz2
  have q22 : ∀ (w : World) (a : Option Addr) (n c n' c' : Nat), (binOp .eql 22 (.slice a n c) (.slice none n' c')).run Try.prog w = .ok (.bool a.isNone) w := fun w a n c n' c' => Lib.run_eql_slice_nil w _ _ a n c n' c' Try.underlying22
  cases A with
  | none =>
    have h0 : xs = [] := by
      cases xs with
      | nil => rfl
      | cons e es => obtain ⟨b, off, h, _⟩ := hx (by simp); cases h
    subst h0
    go_enter Try.func41, Try.ntmps41
    go_wp2
    go_ret
    exact ⟨none, 0, rfl, OwnI.nil _ _ _, Nx.refl _⟩
  | some a =>
    go_enter Try.func41, Try.ntmps41
    go_wp2_with (at_builtin; go_must (refine appIs (base := w.heap.size) (t := 3) (c' := c) [] xs rfl rfl Try.underlying22 Hi.out Hz0.out Hz1.out Hz2.out rfl rfl (OwnI.empty w w.heap.size 3 (Nat.le_refl _)) rfl (hx.nx (by repeat (first | exact Nx.refl _ | assumption | apply Nx.alloc | apply Nx.drew | apply Nx.drewN | (refine Nx.setCell ?_ (by first | (simp; done) | (simp; omega) | omega) _) | refine Nx.trans ?_ (by assumption)))) (by simp; omega) (by simp) ?_; intro A2 c2 w3 hown3 hnx3 hgr3 hbl3))
    go_ret
    exact ⟨A2, c2, by simp, by simpa using hown3, hnx3 w (Nat.le_refl _) (by repeat (first | exact Nx.refl _ | assumption | apply Nx.alloc | apply Nx.drew | apply Nx.drewN | (refine Nx.setCell ?_ (by first | (simp; done) | (simp; omega) | omega) _) | refine Nx.trans ?_ (by assumption)))⟩

/-! ### slices.Concat -/
theorem ownI_spare {w : World} {base : Nat} {t : TypeId} (cur : Array Value) (c : Nat) (hb : base ≤ w.heap.size) (hc : c ≤ maxLen) (hs : cur.size = c) : OwnI (w.alloc (.cells cur t)) base t (some ⟨w.heap.size, 0, none⟩) c [] :=
  ⟨by simp, .inr ⟨w.heap.size, c, cur, rfl, hb, (show (w.heap.push _)[w.heap.size]? = _ from Array.getElem?_push_size), Nat.zero_le _, hc, by rw [hs, Nat.mul_one], by rw [List.length_nil, Nat.zero_mul, List.take_zero]; rfl⟩⟩
theorem growI_c (n : Nat) (w : World) (hn : n ≤ 1048576) : Calls Try.prog 67 #[.slice none 0 0, V n] w (RetI 3 [] w) := by
  by_cases h0 : n = 0
  · subst h0
    refine (Any8.slices_Grow_room Try.growI none 0 0 0 w (Nat.le_refl _) (by omega) (by omega) (by omega)).mono ?_
    rintro e w' ⟨rfl, rfl⟩
    exact ⟨none, 0, rfl, OwnI.nil _ _ _, Nx.refl _⟩
  · obtain ⟨i0, hi, hz0, hz1, hz2⟩ := info_parts infoI
    refine (Any8.slices_Grow_grow Try.growI i0 _ hi hz0 (by omega) none 0 0 n [] w (Nat.le_refl _) (by omega) (by rw [hz2]; omega) (by omega) (by simp) (fun _ => rfl) (fun a h => by cases h)).mono ?_
    rintro e w' ⟨rfl, rfl⟩
    have hge := grownCap_ge w (0 + n) 0 3
    have hml := grownCap_le_maxLen w (0 + n) 0 3 (by unfold maxLen; omega)
    refine ⟨some ⟨w.heap.size, 0, none⟩, grownCap w (0 + n) 0 3, rfl, ?_, (Nx.drew (Nx.refl w)).alloc _⟩
    exact ownI_spare (w := w.drew) _ _ (Nat.le_refl _) hml (by
      have e : Try.growI_ren.t 25 = 3 := rfl
      rw [e]
      simp [Builtin.zeroCells, Value.cells]; simp at hge; omega)
abbrev RowI := Option Addr × Nat × List Int
/-- a row of rows of numbers that may be read -/
def CatAt (w : World) (g : Nat) (rows : List RowI) : Prop := ∀ j A c xs, rows[j]? = some (A, c, xs) → w.cell? ⟨g, j, none⟩ = some (.slice A xs.length c) ∧ IntsAt w A xs
def catL (rows : List RowI) : List Int := rows.flatMap fun r => r.2.2
theorem catL_take {rows : List RowI} {k : Nat} {A : Option Addr} {c : Nat} {xs : List Int} (h : rows[k]? = some (A, c, xs)) : catL (rows.take (k + 1)) = catL (rows.take k) ++ xs := by
  unfold catL
  rw [List.take_add_one, h, List.flatMap_append]
  simp
theorem catL_len (rows : List RowI) (k : Nat) : (catL (rows.take k)).length ≤ (catL rows).length := by
  have : catL rows = catL (rows.take k) ++ catL (rows.drop k) := by
    unfold catL; rw [← List.flatMap_append, List.take_append_drop]
  rw [this]; simp

set_option maxRecDepth 100000 in
set_option maxHeartbeats 4000000 in
theorem concatI_c (g n : Nat) (rows : List RowI) (w : World) (hn : rows.length = n) (hg : g < w.heap.size) (h : CatAt w g rows) (hl : (catL rows).length ≤ 1048576) (hr : n ≤ 1000) :
    Calls Try.prog 50 #[.slice (some ⟨g, 0, none⟩) n n] w (RetI 3 (catL rows) w) := by
  have Hn := Lib.hid hn
  obtain ⟨i0, hi, hz0, hz1, hz2⟩ := info_parts infoI
  have Hi := Lib.hid hi
  have Hz0 := Lib.hid hz0
  have Hz1 := Lib.hid hz1
  have Hz2 := Lib.hid hz2
  have H := Lib.hid h
  clear hi hz0 hz1 hz2 h hn
  go_enter Try.func50, Try.ntmps50
  go_wp2
  go_loopg [3, 11] n (fun gk s i wr => ∃ k : Nat, k + gk = n ∧ i = .int .i64 k ∧ s = .int .i64 (catL (rows.take k)).length ∧ w = wr)
  case atStart => exact ⟨0, by omega, rfl, by simp [catL], rfl⟩
  case round =>
    obtain ⟨k, hk, rfl, rfl, rfl⟩ := hrel
    have hle := catL_len rows k
    by_cases hlt : k < n
    · obtain ⟨⟨A, c, xs⟩, hek⟩ : ∃ r, rows[k]? = some r := ⟨_, List.getElem?_eq_getElem (by have := Hn.out; omega)⟩
      obtain ⟨h1, h2⟩ := H.out k A c xs hek
      have hst := catL_take hek
      have hle2 := catL_len rows (k + 1)
      rw [hst, List.length_append] at hle2
      have Hst := Lib.hid hst
      clear h2 hek hst
      generalize hm : (catL (rows.take k)).length = m at *
      generalize hm2 : xs.length = m2 at *
      have Hm := Lib.hid hm
      have Hm2 := Lib.hid hm2
      clear hm hm2
      go_wp2
      go_roundg (gk - 1)
      case measure => omega
      case rel => exact ⟨k + 1, by omega, by go_num, by rw [Hst.out, List.length_append, Hm.out, Hm2.out]; go_num, rfl⟩
    · have he : rows.take k = rows := List.take_of_length_le (by have := Hn.out; omega)
      rw [he] at hle ⊢
      have hgc := fun w' => growI_c (catL rows).length w' hl
      have Hgc := Lib.hid hgc
      clear hgc
      generalize hT : (catL rows).length = T at *
      have HT := Lib.hid hT
      clear he hT
      go_wp2_with fail
      refine (Hgc.out _).mono ?_
      rintro e w1 ⟨A1, c1, rfl, ho1, hn1⟩
      go_wp2
      go_loopg [6, 27] n (fun gk s i wr => ∃ (k : Nat) (A' : Option Addr) (c' : Nat), k + gk = n ∧ i = .int .i64 k ∧ s = .slice A' (catL (rows.take k)).length c' ∧ OwnI wr w.heap.size 3 A' c' (catL (rows.take k)) ∧ Nx w wr)
      case atStart => exact ⟨0, A1, c1, by omega, rfl, rfl, ho1, hn1⟩
      case round =>
        obtain ⟨k2, A', c', hk2, rfl, rfl, hown, hn2⟩ := hrel
        have hle3 := catL_len rows k2
        rw [HT.out] at hle3
        by_cases hlt2 : k2 < n
        · obtain ⟨⟨A, c, xs⟩, hek⟩ : ∃ r, rows[k2]? = some r := ⟨_, List.getElem?_eq_getElem (by have := Hn.out; omega)⟩
          obtain ⟨h1, h2⟩ := H.out k2 A c xs hek
          have h1 := hn2.cell (p := ⟨g, k2, none⟩) hg h1
          have hst := catL_take hek
          have hle4 := catL_len rows (k2 + 1)
          rw [hst, List.length_append, HT.out] at hle4
          have Hst := Lib.hid hst
          have H2 := Lib.hid h2
          have Hown := Lib.hid hown
          generalize catL (rows.take k2) = acc at *
          clear h2 hek hst hown
          go_wp2_with (at_builtin; go_must (refine appIs (base := w.heap.size) (t := 3) (c' := c) acc xs rfl rfl Try.underlying22 Hi.out Hz0.out Hz1.out Hz2.out rfl rfl Hown.out rfl (H2.out.nx (by repeat (first | exact Nx.refl _ | assumption | apply Nx.alloc | apply Nx.drew | apply Nx.drewN | (refine Nx.setCell ?_ (by first | (simp; done) | (simp; omega) | omega) _) | refine Nx.trans ?_ (by assumption)))) (by omega) (by have := hn2.size; omega) ?_; intro A2 c2 w3 hown3 hnx3 hgr3 hbl3))
          go_roundg (gk - 1)
          case measure => omega
          case rel => exact ⟨k2 + 1, A2, c2, by omega, by go_num, by rw [Hst.out, List.length_append], by rw [Hst.out]; exact hown3, hnx3 w (Nat.le_refl _) hn2⟩
        · have he : rows.take k2 = rows := List.take_of_length_le (by have := Hn.out; omega)
          have He := Lib.hid he
          clear he
          go_wp2
          go_ret
          rw [He.out] at hown ⊢
          exact ⟨A', c', rfl, hown, hn2⟩
end Go.Proofs.Ytnnfbndalcnjiaa
