/- Contracts: slices.Compact, slices.ContainsFunc of numbers (the parts of XNO, XNC that need no graph). -/
import Derived.Shelf.Slices.CompactI
import Derived.Test.YtnnfbndalcnjiaaNS
import Derived.Test.YtnnfbndalcnjiaaNL
import Derived.Test.YtnnfbndalcnjiaaH
import Derived.Test.YtnnfbndalcnjiaaM2
import Derived.Test.YtnnfbndalcnjiaaB
import Derived.Deep.Cut
namespace Go.Proofs.Ytnnfbndalcnjiaa
open Go.Shelf
def Try.laysNm220_ren : Go.Shelf.Ren := ⟨fun | 20 => 43 | n => n, fun | 22 => 22 | 3 => 3 | 4 => 4 | 0 => 0 | n => n, fun | n => n⟩
theorem Try.laysNm220 : Go.Proofs.Lays2.n20 Try.prog Try.laysNm220_ren := {
  mixed := by kernel_rfl
  f20 := Try.func43.trans (congrArg some (by kernel_rfl))
  t0 := Try.underlying0
  a0 := Try.isAgg0
  z0 := Try.sizeOf0
  v0 := Try.zeroValue0
  t3 := Try.underlying3
  a3 := Try.isAgg3
  z3 := Try.sizeOf3
  v3 := Try.zeroValue3
  t4 := Try.underlying4
  a4 := Try.isAgg4
  z4 := Try.sizeOf4
  v4 := Try.zeroValue4
  t22 := Try.underlying22
  a22 := Try.isAgg22
  z22 := Try.sizeOf22
  v22 := Try.zeroValue22
  i3 := by kernel_rfl }
end Go.Proofs.Ytnnfbndalcnjiaa
namespace Go.Proofs.Ytnnfbndalcnjiaa
open Go.RowKit set_option linter.unusedVariables false set_option linter.unusedSimpArgs false
open Go.Lib (compact compactUpTo keeps)

theorem compactUpTo_srt (d : Array Int) (hs : ∀ i j, i < j → j < d.size → d[i]! ≤ d[j]!) : ∀ m, m ≤ d.size → (compactUpTo d m).Pairwise (· < ·) ∧ ∀ x, x ∈ compactUpTo d m ↔ ∃ j, j < m ∧ d[j]! = x
  | 0, _ => ⟨by simp [compactUpTo], fun x => by simp [compactUpTo]⟩
  | m + 1, hm => by
    obtain ⟨h1, h2⟩ := compactUpTo_srt d hs m (by omega)
    rw [Go.Lib.compactUpTo_succ]
    by_cases hk : keeps d m = true
    · rw [if_pos hk]
      have hk' : m = 0 ∨ d[m]! ≠ d[m - 1]! := by simpa [keeps] using hk
      refine ⟨?_, fun x => ?_⟩
      · rw [List.pairwise_append]
        refine ⟨h1, by simp, fun a ha b hb => ?_⟩
        simp at hb
        subst hb
        obtain ⟨j, hj, rfl⟩ := (h2 a).1 ha
        rcases hk' with h | h
        · omega
        · have g1 : d[m - 1]! ≤ d[m]! := hs (m - 1) m (by omega) (by omega)
          have g2 : d[j]! ≤ d[m - 1]! := by
            by_cases e : j = m - 1
            · subst e; exact Int.le_refl _
            · exact hs j (m - 1) (by omega) (by omega)
          omega
      · rw [List.mem_append, h2]
        simp
        constructor
        · rintro (⟨j, hj, rfl⟩ | rfl)
          · exact ⟨j, by omega, rfl⟩
          · exact ⟨m, by omega, rfl⟩
        · rintro ⟨j, hj, rfl⟩
          by_cases e : j = m
          · subst e; exact .inr rfl
          · exact .inl ⟨j, by omega, rfl⟩
    · rw [if_neg hk, List.append_nil]
      have hk' : m ≠ 0 ∧ d[m]! = d[m - 1]! := by simpa [keeps] using hk
      refine ⟨h1, fun x => ?_⟩
      rw [h2]
      constructor
      · rintro ⟨j, hj, rfl⟩; exact ⟨j, by omega, rfl⟩
      · rintro ⟨j, hj, rfl⟩
        by_cases e : j = m
        · subst e; exact ⟨j - 1, by omega, hk'.2.symm⟩
        · exact ⟨j, by omega, rfl⟩
theorem get_bang (zs : List Int) {j : Nat} (h : j < zs.length) : zs.toArray[j]! = zs[j] := by simp [h]
theorem compact_srt (zs : List Int) (hs : zs.Pairwise (· ≤ ·)) : (compact zs).Pairwise (· < ·) ∧ ∀ x, x ∈ compact zs ↔ x ∈ zs := by
  have h := compactUpTo_srt zs.toArray (fun i j hij hj => by
    have hj' : j < zs.length := by simpa using hj
    rw [get_bang zs hj', get_bang zs (by omega)]
    exact List.pairwise_iff_getElem.1 hs i j (by omega) hj' hij) zs.length (by simp)
  refine ⟨h.1, fun x => ?_⟩
  have h2 := h.2 x
  show x ∈ compactUpTo zs.toArray zs.length ↔ _
  rw [h2]
  constructor
  · rintro ⟨j, hj, rfl⟩
    rw [get_bang zs hj]; exact List.getElem_mem hj
  · intro hx
    obtain ⟨j, hj, rfl⟩ := List.getElem_of_mem hx
    exact ⟨j, hj, get_bang zs hj⟩
theorem srtI_sorted (xs : List Int) : (srtI xs).Pairwise (· ≤ ·) ∧ ∀ x, x ∈ srtI xs ↔ x ∈ xs := by
  refine ⟨?_, fun x => (List.mergeSort_perm _ _).mem_iff⟩
  have := List.pairwise_mergeSort (le := fun x y : Int => decide (x ≤ y)) (fun a b c h1 h2 => by simp at *; omega) (fun a b => by simp; omega) xs
  exact this.imp fun h => by simpa using h
theorem OwnI.front {w : World} {base c : Nat} {t : TypeId} {A : Option Addr} {xs ys : List Int} (h : OwnI w base t A c (xs ++ ys)) : OwnI w base t A c xs := by
  obtain ⟨_, h2⟩ := h
  rcases h2 with ⟨hv, h2⟩ | ⟨g, cap, cur, hv, hb, hg, hle, hm, hs, ht⟩
  · have e : xs = [] := by
      have := h2; simp at this; exact this.1
    subst e
    injection hv with e1 _ e3
    subst e1 e3
    exact OwnI.nil _ _ _
  · refine ⟨by simp, .inr ⟨g, cap, cur, ?_, hb, hg, by simp at hle; omega, hm, hs, ?_⟩⟩
    · injection hv with e1 e2 e3
      rw [e1, e3]
    · have h2 := congrArg (List.take (xs.length * 1)) ht
      rw [List.take_take, Nat.min_eq_left (by simp)] at h2
      rw [h2]
      simp
def Compacted (base : Nat) (A : Option Addr) (c : Nat) (ys : List Int) (w : World) (e : Ending) (w' : World) : Prop :=
  e = .returned (.slice A ys.length c) ∧ OwnI w' base 3 A c ys ∧ w.grownBy w' (blk A)
theorem compactI_c (base : Nat) (A : Option Addr) (c : Nat) (xs : List Int) (w : World) (h : OwnI w base 3 A c xs) (hl : xs.length ≤ 1048576) (hk : (compact xs).length ≤ xs.length) :
    Calls Try.prog 43 #[.slice A xs.length c] w (Compacted base A c (compact xs) w) := by
  by_cases h0 : xs = []
  · subst h0
    refine (Any.slices_Compact_int_empty Try.laysNm220 A c w).mono ?_
    rintro e w' ⟨rfl, rfl⟩
    exact ⟨by simp [compact, compactUpTo], by simpa [compact, compactUpTo] using h, World.grownBy.refl _ _⟩
  · have h1 := h
    have hcap := h.cap
    obtain ⟨_, h2 | ⟨g, cap, cur, hv, hb, hg, hle, hm, hs, ht⟩⟩ := h1
    · exact absurd (by simpa using h2.2) h0
    · injection hv with hA _ hc
      subst hA hc
      refine (Any.slices_Compact_int Try.laysNm220 g 0 c xs w (holds_of_blockI hg (by simpa using ht)) (by omega) hcap).mono ?_
      rintro e w' ⟨rfl, q, rfl⟩
      have hlen : (compact xs ++ List.replicate (xs.length - (compact xs).length) 0).length = xs.length := by simp; omega
      have ho := ownsRow_sortedI (os := #[]) (n := q) (w := w) (g := g) (cap := c) (e := 3) (cur := cur) (ss := xs) (ts := compact xs ++ List.replicate (xs.length - (compact xs).length) 0) hlen hb hg hle hm hs
      rw [Go.Sort.grow_empty] at ho
      have hgr := grownBy_sortedI (w := w) (g := g) (n := q) (os := #[]) (compact xs ++ List.replicate (xs.length - (compact xs).length) 0).toArray
      rw [Go.Sort.grow_empty] at hgr
      refine ⟨rfl, ?_, hgr⟩
      refine OwnI.front (ys := List.replicate (xs.length - (compact xs).length) 0) ?_
      unfold OwnI
      rw [hlen]
      exact ho
theorem compact_len (zs : List Int) : (compact zs).length ≤ zs.length := by
  unfold compact compactUpTo
  rw [List.length_map]
  have := List.length_filter_le (keeps zs.toArray) (List.range zs.length)
  simpa using this

/-- a function value that says of a number whether p holds, in each world that has come of w with new blocks only -/
def TellsI (g : Nat) (bd lb : Array Value) (p : Int → Bool) (xs : List Int) (w : World) : Prop :=
  ∀ (W : World) (x : Int), x ∈ xs → Nx w W → Calls Try.prog g (bd.push (V x) ++ lb) W (RetV (.bool (p x)) W)
/-- the first place where p holds, or -1 -/
def fstJ (p : Int → Bool) (xs : List Int) : Int := if xs.any p then (xs.findIdx p : Int) else -1
theorem fstJ_nonneg (p : Int → Bool) (xs : List Int) : decide (0 ≤ fstJ p xs) = xs.any p := by
  unfold fstJ
  cases h : xs.any p <;> simp [h]
theorem fstJ_hit {p : Int → Bool} {xs : List Int} {k : Nat} {e : Int} (hno : ∀ j, j < k → ∀ d, xs[j]? = some d → p d = false) (he : xs[k]? = some e) (hp : p e = true) : fstJ p xs = k := by
  have hm : xs.any p = true := List.any_eq_true.2 ⟨e, List.mem_of_getElem? he, hp⟩
  have hk : k < xs.length := (List.getElem?_eq_some_iff.1 he).1
  have hek : xs[k] = e := by rw [List.getElem?_eq_getElem hk] at he; injection he
  unfold fstJ
  rw [if_pos hm]
  congr 1
  refine (List.findIdx_eq hk).2 ⟨by rw [hek]; exact hp, fun j hj => ?_⟩
  exact hno j hj _ (List.getElem?_eq_getElem (by omega))
theorem fstJ_no {p : Int → Bool} {xs : List Int} (hno : ∀ j, j < xs.length → ∀ d, xs[j]? = some d → p d = false) : fstJ p xs = -1 := by
  have hm : xs.any p = false := List.any_eq_false.2 fun e he => by
    obtain ⟨j, hj, rfl⟩ := List.getElem_of_mem he
    simp [hno j hj _ (List.getElem?_eq_getElem hj)]
  simp [fstJ, hm]
theorem no_stepI {p : Int → Bool} {xs : List Int} {k : Nat} {e : Int} (hno : ∀ j, j < k → ∀ d, xs[j]? = some d → p d = false) (he : xs[k]? = some e) (hp : p e = false) : ∀ j, j < k + 1 → ∀ d, xs[j]? = some d → p d = false := fun j hj d hd => by
  rcases Nat.lt_succ_iff_lt_or_eq.1 hj with h | rfl
  · exact hno j h d hd
  · rw [he] at hd; injection hd with hd; subst hd; exact hp

set_option maxRecDepth 100000 in
set_option maxHeartbeats 2000000 in
theorem indexFuncI_c (g : Nat) (bd lb : Array Value) (p : Int → Bool) (eg : ∀ args w, (callFunc g args).run Try.prog w = .ok (.enter g args) w) (A : Option Addr) (c : Nat) (xs : List Int) (w : World)
    (hx : IntsAt w A xs) (hl : xs.length ≤ 1048576) (hp : TellsI g bd lb p xs w) :
    Calls Try.prog 58 #[.slice A xs.length c, .func (.func g) bd lb] w (RetV (V (fstJ p xs)) w) := by
  have Hp := Lib.hid hp
  clear hp
  go_enter Try.func58, Try.ntmps58
  go_wp2
  go_loopg [5, 8] xs.length (fun gk _ i wr => ∃ k : Nat, k + gk = xs.length ∧ i = .int .i64 k ∧ Nx w wr ∧ ∀ j, j < k → ∀ d, xs[j]? = some d → p d = false)
  case atStart => exact ⟨0, by omega, rfl, Nx.refl _, fun j hj => by omega⟩
  case round =>
    obtain ⟨k, hk, rfl, hn, hno⟩ := hrel
    have Hno := Lib.hid hno
    clear hno
    by_cases hlt : k < xs.length
    · obtain ⟨x, hek⟩ : ∃ x, xs[k]? = some x := ⟨_, List.getElem?_eq_getElem hlt⟩
      obtain ⟨b, off, rfl, hbl, h1⟩ := (hx.nx hn).rd hek
      have Hek := Lib.hid hek
      clear hek hx
      go_wp2_with fail
      refine (Hp.out wr x (List.mem_of_getElem? Hek.out) hn).mono ?_
      rintro e w' ⟨rfl, hn'⟩
      cases hq : p x with
      | true =>
        have Hq := Lib.hid hq
        clear hq
        go_wp2
        go_ret
        exact RetV.int (fstJ_hit Hno.out Hek.out Hq.out).symm (by repeat (first | exact Nx.refl _ | assumption | apply Nx.alloc | apply Nx.drew | apply Nx.drewN | (refine Nx.setCell ?_ (by first | (simp; done) | (simp; omega) | omega) _) | refine Nx.trans ?_ (by assumption)))
      | false =>
        have Hq := Lib.hid hq
        clear hq
        go_wp2
        go_roundg (gk - 1)
        case measure => omega
        case rel => exact ⟨k + 1, by omega, by go_num, (by repeat (first | exact Nx.refl _ | assumption | apply Nx.alloc | apply Nx.drew | apply Nx.drewN | (refine Nx.setCell ?_ (by first | (simp; done) | (simp; omega) | omega) _) | refine Nx.trans ?_ (by assumption))), no_stepI Hno.out Hek.out Hq.out⟩
    · go_wp2
      go_ret
      exact RetV.int (fstJ_no (fun j hj => Hno.out j (by omega))).symm (by repeat (first | exact Nx.refl _ | assumption | apply Nx.alloc | apply Nx.drew | apply Nx.drewN | (refine Nx.setCell ?_ (by first | (simp; done) | (simp; omega) | omega) _) | refine Nx.trans ?_ (by assumption)))
theorem containsFuncI_c (g : Nat) (bd lb : Array Value) (p : Int → Bool) (eg : ∀ args w, (callFunc g args).run Try.prog w = .ok (.enter g args) w) (A : Option Addr) (c : Nat) (xs : List Int) (w : World)
    (hx : IntsAt w A xs) (hl : xs.length ≤ 1048576) (hp : TellsI g bd lb p xs w) :
    Calls Try.prog 35 #[.slice A xs.length c, .func (.func g) bd lb] w (RetV (.bool (xs.any p)) w) := by
  have hi := indexFuncI_c g bd lb p eg A c xs w hx hl hp
  rw [← fstJ_nonneg]
  generalize fstJ p xs = i at *
  have Hi := Lib.hid hi
  clear hi hp
  go_enter Try.func35, Try.ntmps35
  go_wp2_with fail
  refine Hi.out.mono ?_
  rintro e w1 ⟨rfl, hn1⟩
  go_wp2
  go_ret
  exact RetV.bool rfl hn1

end Go.Proofs.Ytnnfbndalcnjiaa
