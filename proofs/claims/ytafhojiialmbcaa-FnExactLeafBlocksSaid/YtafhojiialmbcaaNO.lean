/- Contracts: slices.Compact and slices.Clip of numbers; nodesOf, l5Nodes. -/
import Derived.Shelf.Slices.CompactI
import Derived.Test.YtafhojiialmbcaaND
import Derived.Test.YtafhojiialmbcaaD3
namespace Go.Proofs.Ytafhojiialmbcaa
open Go.Shelf
def Try.laysNm220_ren : Go.Shelf.Ren := ⟨fun | 20 => 111 | n => n, fun | 22 => 26 | 3 => 3 | 4 => 4 | 0 => 0 | n => n, fun | n => n⟩
theorem Try.laysNm220 : Go.Proofs.Lays2.n20 Try.prog Try.laysNm220_ren := {
  mixed := by kernel_rfl
  f20 := Try.func111.trans (congrArg some (by kernel_rfl))
  t0 := Try.underlying0
  a0 := Try.isAgg0
  z0 := Try.sizeOf0
  v0 := Try.zeroValue0
  t3 := Try.underlying3
  a3 := Try.isAgg3
  z3 := Try.sizeOf3
  v3 := Try.zeroValue3
  t4 := Try.underlying4
  a4 := Try.isAgg4
  z4 := Try.sizeOf4
  v4 := Try.zeroValue4
  t22 := Try.underlying26
  a22 := Try.isAgg26
  z22 := Try.sizeOf26
  v22 := Try.zeroValue26
  i3 := by kernel_rfl }
end Go.Proofs.Ytafhojiialmbcaa
namespace Go.Proofs.Ytafhojiialmbcaa
open Go.RowKit set_option linter.unusedVariables false set_option linter.unusedSimpArgs false
open Go.Lib (compact compactUpTo keeps)

theorem compactUpTo_srt (d : Array Int) (hs : ∀ i j, i < j → j < d.size → d[i]! ≤ d[j]!) : ∀ m, m ≤ d.size → (compactUpTo d m).Pairwise (· < ·) ∧ ∀ x, x ∈ compactUpTo d m ↔ ∃ j, j < m ∧ d[j]! = x
  | 0, _ => ⟨by simp [compactUpTo], fun x => by simp [compactUpTo]⟩
  | m + 1, hm => by
    obtain ⟨h1, h2⟩ := compactUpTo_srt d hs m (by omega)
    rw [Go.Lib.compactUpTo_succ]
    by_cases hk : keeps d m = true
    · rw [if_pos hk]
      have hk' : m = 0 ∨ d[m]! ≠ d[m - 1]! := by simpa [keeps] using hk
      refine ⟨?_, fun x => ?_⟩
      · rw [List.pairwise_append]
        refine ⟨h1, by simp, fun a ha b hb => ?_⟩
        simp at hb
        subst hb
        obtain ⟨j, hj, rfl⟩ := (h2 a).1 ha
        rcases hk' with h | h
        · omega
        · have g1 : d[m - 1]! ≤ d[m]! := hs (m - 1) m (by omega) (by omega)
          have g2 : d[j]! ≤ d[m - 1]! := by
            by_cases e : j = m - 1
            · subst e; exact Int.le_refl _
            · exact hs j (m - 1) (by omega) (by omega)
          omega
      · rw [List.mem_append, h2]
        simp
        constructor
        · rintro (⟨j, hj, rfl⟩ | rfl)
          · exact ⟨j, by omega, rfl⟩
          · exact ⟨m, by omega, rfl⟩
        · rintro ⟨j, hj, rfl⟩
          by_cases e : j = m
          · subst e; exact .inr rfl
          · exact .inl ⟨j, by omega, rfl⟩
    · rw [if_neg hk, List.append_nil]
      have hk' : m ≠ 0 ∧ d[m]! = d[m - 1]! := by simpa [keeps] using hk
      refine ⟨h1, fun x => ?_⟩
      rw [h2]
      constructor
      · rintro ⟨j, hj, rfl⟩; exact ⟨j, by omega, rfl⟩
      · rintro ⟨j, hj, rfl⟩
        by_cases e : j = m
        · subst e; exact ⟨j - 1, by omega, hk'.2.symm⟩
        · exact ⟨j, by omega, rfl⟩
theorem get_bang (zs : List Int) {j : Nat} (h : j < zs.length) : zs.toArray[j]! = zs[j] := by simp [h]
theorem compact_srt (zs : List Int) (hs : zs.Pairwise (· ≤ ·)) : (compact zs).Pairwise (· < ·) ∧ ∀ x, x ∈ compact zs ↔ x ∈ zs := by
  have h := compactUpTo_srt zs.toArray (fun i j hij hj => by
    have hj' : j < zs.length := by simpa using hj
    rw [get_bang zs hj', get_bang zs (by omega)]
    exact List.pairwise_iff_getElem.1 hs i j (by omega) hj' hij) zs.length (by simp)
  refine ⟨h.1, fun x => ?_⟩
  have h2 := h.2 x
  show x ∈ compactUpTo zs.toArray zs.length ↔ _
  rw [h2]
  constructor
  · rintro ⟨j, hj, rfl⟩
    rw [get_bang zs hj]; exact List.getElem_mem hj
  · intro hx
    obtain ⟨j, hj, rfl⟩ := List.getElem_of_mem hx
    exact ⟨j, hj, get_bang zs hj⟩
theorem srtI_sorted (xs : List Int) : (srtI xs).Pairwise (· ≤ ·) ∧ ∀ x, x ∈ srtI xs ↔ x ∈ xs := by
  refine ⟨?_, fun x => (List.mergeSort_perm _ _).mem_iff⟩
  have := List.pairwise_mergeSort (le := fun x y : Int => decide (x ≤ y)) (fun a b c h1 h2 => by simp at *; omega) (fun a b => by simp; omega) xs
  exact this.imp fun h => by simpa using h
/-- the nodes of edges -/
def onB (b : Es) (v : Int) : Bool := b.any fun e => decide (e.1 = v) || decide (e.2 = v)
def nodesL (n : Nat) (b : Es) : List Int := byK (onB b) n
def flatL (b : Es) : List Int := b.flatMap fun e => [e.1, e.2]
theorem byK_sorted (p : Int → Bool) (n : Nat) : (byK p n).Pairwise (· < ·) := by
  unfold byK
  refine List.Pairwise.filter _ ?_
  rw [List.pairwise_map]
  refine List.pairwise_iff_getElem.2 fun i j hi hj hij => ?_
  simp
  omega
theorem mem_byK {p : Int → Bool} {n : Nat} {y : Int} : y ∈ byK p n ↔ 0 ≤ y ∧ y < n ∧ p y = true := by
  unfold byK
  simp only [List.mem_filter, List.mem_map, List.mem_range]
  constructor
  · rintro ⟨⟨k, hk, rfl⟩, h1⟩
    exact ⟨Int.natCast_nonneg _, by show ((k : Nat) : Int) < n; omega, h1⟩
  · rintro ⟨h0, h1, h2⟩
    exact ⟨⟨y.toNat, by omega, by show ((y.toNat : Nat) : Int) = y; omega⟩, h2⟩
theorem onB_iff {b : Es} {v : Int} : onB b v = true ↔ v ∈ flatL b := by
  unfold onB flatL
  simp only [List.any_eq_true, List.mem_flatMap, Bool.or_eq_true, decide_eq_true_eq]
  constructor
  · rintro ⟨e, he, h⟩; exact ⟨e, he, by simp; omega⟩
  · rintro ⟨e, he, h⟩; exact ⟨e, he, by simp at h; omega⟩
theorem flatL_cons (e : Int × Int) (b : Es) : flatL (e :: b) = [e.1, e.2] ++ flatL b := rfl
theorem flatL_take {es : Es} {k : Nat} {e : Int × Int} (h : es[k]? = some e) : flatL (es.take (k + 1)) = flatL (es.take k) ++ [e.1, e.2] := by
  obtain ⟨h1, h2⟩ := List.getElem?_eq_some_iff.1 h
  rw [List.take_succ_eq_append_getElem h1, h2]
  simp [flatL]
theorem flatL_len (b : Es) : (flatL b).length = 2 * b.length := by
  induction b with
  | nil => rfl
  | cons e b ih => rw [flatL_cons, List.length_append, ih]; simp; omega
theorem compact_nodes {n : Nat} {b : Es} (hb : ∀ e ∈ b, 0 ≤ e.1 ∧ e.1 < n ∧ 0 ≤ e.2 ∧ e.2 < n) : compact (srtI (flatL b)) = nodesL n b := by
  have h1 := compact_srt _ (srtI_sorted (flatL b)).1
  refine sorted_ext _ _ h1.1 (byK_sorted _ _) fun x => ?_
  rw [h1.2, (srtI_sorted (flatL b)).2]
  unfold nodesL
  rw [mem_byK, onB_iff]
  constructor
  · intro hx
    have : ∃ e ∈ b, x = e.1 ∨ x = e.2 := by
      unfold flatL at hx
      rw [List.mem_flatMap] at hx
      obtain ⟨e, he, h⟩ := hx
      exact ⟨e, he, by simpa using h⟩
    obtain ⟨e, he, h⟩ := this
    have := hb e he
    exact ⟨by omega, by omega, hx⟩
  · exact fun h => h.2.2

theorem OwnI.front {w : World} {base c : Nat} {t : TypeId} {A : Option Addr} {xs ys : List Int} (h : OwnI w base t A c (xs ++ ys)) : OwnI w base t A c xs := by
  obtain ⟨_, h2⟩ := h
  rcases h2 with ⟨hv, h2⟩ | ⟨g, cap, cur, hv, hb, hg, hle, hm, hs, ht⟩
  · have e : xs = [] := by
      have := h2; simp at this; exact this.1
    subst e
    injection hv with e1 _ e3
    subst e1 e3
    exact OwnI.nil _ _ _
  · refine ⟨by simp, .inr ⟨g, cap, cur, ?_, hb, hg, by simp at hle; omega, hm, hs, ?_⟩⟩
    · injection hv with e1 e2 e3
      rw [e1, e3]
    · have h2 := congrArg (List.take (xs.length * 1)) ht
      rw [List.take_take, Nat.min_eq_left (by simp)] at h2
      rw [h2]
      simp
def Compacted (base : Nat) (A : Option Addr) (c : Nat) (ys : List Int) (w : World) (e : Ending) (w' : World) : Prop :=
  e = .returned (.slice A ys.length c) ∧ OwnI w' base 3 A c ys ∧ w.grownBy w' (blk A)
theorem compactI_c (base : Nat) (A : Option Addr) (c : Nat) (xs : List Int) (w : World) (h : OwnI w base 3 A c xs) (hl : xs.length ≤ 1048576) (hk : (compact xs).length ≤ xs.length) :
    Calls Try.prog 111 #[.slice A xs.length c] w (Compacted base A c (compact xs) w) := by
  by_cases h0 : xs = []
  · subst h0
    refine (Any.slices_Compact_int_empty Try.laysNm220 A c w).mono ?_
    rintro e w' ⟨rfl, rfl⟩
    exact ⟨by simp [compact, compactUpTo], by simpa [compact, compactUpTo] using h, World.grownBy.refl _ _⟩
  · have h1 := h
    have hcap := h.cap
    obtain ⟨_, h2 | ⟨g, cap, cur, hv, hb, hg, hle, hm, hs, ht⟩⟩ := h1
    · exact absurd (by simpa using h2.2) h0
    · injection hv with hA _ hc
      subst hA hc
      refine (Any.slices_Compact_int Try.laysNm220 g 0 c xs w (holds_of_blockI hg (by simpa using ht)) (by omega) hcap).mono ?_
      rintro e w' ⟨rfl, q, rfl⟩
      have hlen : (compact xs ++ List.replicate (xs.length - (compact xs).length) 0).length = xs.length := by simp; omega
      have ho := ownsRow_sortedI (os := #[]) (n := q) (w := w) (g := g) (cap := c) (e := 3) (cur := cur) (ss := xs) (ts := compact xs ++ List.replicate (xs.length - (compact xs).length) 0) hlen hb hg hle hm hs
      rw [Go.Sort.grow_empty] at ho
      have hgr := grownBy_sortedI (w := w) (g := g) (n := q) (os := #[]) (compact xs ++ List.replicate (xs.length - (compact xs).length) 0).toArray
      rw [Go.Sort.grow_empty] at hgr
      refine ⟨rfl, ?_, hgr⟩
      refine OwnI.front (ys := List.replicate (xs.length - (compact xs).length) 0) ?_
      unfold OwnI
      rw [hlen]
      exact ho
theorem clip_c (A : Option Addr) (n c : Nat) (w : World) (h : n ≤ c) (hn : n ≤ 1048576) : Calls Try.prog 110 #[.slice A n c] w (RetS (.slice A n n) w) := by
  cases A with
  | none =>
    go_enter Try.func110, Try.ntmps110
    go_wp2
    all_goals go_ret
    all_goals exact ⟨rfl, rfl⟩
  | some a =>
    go_enter Try.func110, Try.ntmps110
    go_wp2
    all_goals go_ret
    all_goals exact ⟨rfl, rfl⟩
theorem compact_len (zs : List Int) : (compact zs).length ≤ zs.length := by
  unfold compact compactUpTo
  rw [List.length_map]
  have := List.length_filter_le (keeps zs.toArray) (List.range zs.length)
  simpa using this
/-- the call returns numbers that may be read -/
def RetX (xs : List Int) (w : World) (e : Ending) (w' : World) : Prop := ∃ A c, e = .returned (.slice A xs.length c) ∧ IntsAt w' A xs ∧ Nx w w'

set_option maxRecDepth 100000 in
set_option maxHeartbeats 4000000 in
theorem nodesOf_c (n : Nat) (A : Option Addr) (c : Nat) (b : Es) (w : World) (hx : EdgesAt w A b) (hl : b.length ≤ 1000) (hb : ∀ e ∈ b, 0 ≤ e.1 ∧ e.1 < n ∧ 0 ≤ e.2 ∧ e.2 < n) :
    Calls Try.prog 79 #[.slice A b.length c] w (RetX (nodesL n b) w) := by
  rw [← compact_nodes hb]
  obtain ⟨i0, hi, hz0, hz1, hz2⟩ := info_parts infoI
  have Hi := Lib.hid hi
  have Hz0 := Lib.hid hz0
  have Hz1 := Lib.hid hz1
  have Hz2 := Lib.hid hz2
  have HX := Lib.hid hx
  clear hi hz0 hz1 hz2 hx hb
  go_enter Try.func79, Try.ntmps79
  go_wp2
  generalize hW1 : World.alloc _ _ = W1
  have gW1 : Nx w W1 := by subst hW1; exact (by repeat (first | exact Nx.refl _ | assumption | apply Nx.alloc | apply Nx.drew | apply Nx.drewN | (refine Nx.setCell ?_ (by first | (simp; done) | (simp; omega) | omega) _) | refine Nx.trans ?_ (by assumption)))
  have sW1 : W1.heap.size = w.heap.size + 1 := by subst hW1; simp
  have X0 : Bx W1 (w.heap.size) 3 [] := by subst hW1; have h := Bx.alloc w 3 []; simpa using h
  have X0_z := X0.lt
  have HsW1 := Lib.hid sW1
  have lW1 : w.heap.size + 1 ≤ W1.heap.size := by omega
  clear hW1 sW1
  have ho0 : OwnI W1 w.heap.size 3 _ 0 [] := X0.emptyI (Nat.le_refl _)
  go_loopg [3, 5, 9] b.length (fun gk out _ i wr => ∃ (k : Nat) (A' : Option Addr) (c' : Nat), k + gk = b.length ∧ i = .int .i64 k ∧ out = .slice A' (flatL (b.take k)).length c' ∧ OwnI wr w.heap.size 3 A' c' (flatL (b.take k)) ∧ Nx w wr)
  case atStart => exact ⟨0, some ⟨w.heap.size, 0, none⟩, 0, by omega, rfl, by simp [flatL], by simpa [flatL] using ho0, gW1⟩
  case round =>
    clear X0 ho0
    obtain ⟨k, A', c', hk, rfl, rfl, hown, hn0⟩ := hrel
    by_cases hlt : k < b.length
    · obtain ⟨e, hek⟩ : ∃ e, b[k]? = some e := ⟨_, List.getElem?_eq_getElem hlt⟩
      have hst := flatL_take hek
      have hlen : (flatL (b.take k)).length ≤ 2 * k := by rw [flatL_len, List.length_take]; omega
      obtain ⟨bb, off, rfl, hbl, h1, h2⟩ := (HX.out.nx hn0).rd hek
      obtain ⟨x, y⟩ := e
      simp only at h1 h2 hst
      generalize flatL (b.take k) = L at *
      have Hst := Lib.hid hst
      have Hown := Lib.hid hown
      have z0 := hn0.size
      have hi : IntsAt ((wr.alloc (.cells #[V x, V y] 44)).alloc (.cells #[V x, V y] 3)) (some ⟨wr.heap.size + 1, 0, none⟩) [x, y] := Bx.ints (by have := Bx.alloc (wr.alloc (.cells #[V x, V y] 44)) 3 [V x, V y]; simpa using this)
      have HI := Lib.hid hi
      clear hst hown hek hi
      go_wp2_with (at_builtin; go_must (refine appIs (base := w.heap.size) (t := 3) (c' := 2) L [x, y] rfl rfl Try.underlying26 Hi.out Hz0.out Hz1.out Hz2.out rfl rfl (Hown.out.nx (by repeat (first | exact Nx.refl _ | assumption | apply Nx.alloc | apply Nx.drew | apply Nx.drewN | (refine Nx.setCell ?_ (by first | (simp; done) | (simp; omega) | omega) _) | refine Nx.trans ?_ (by assumption)))) rfl HI.out (by simp; omega) (by simp; omega) ?_; intro A2 c2 w4 hown4 hnx4 hgr4 hbl4))
      go_roundg (gk - 1)
      case measure => omega
      case rel => exact ⟨k + 1, A2, c2, by omega, by go_num, by rw [Hst.out]; simp, by rw [Hst.out]; exact hown4, hnx4 w (Nat.le_refl _) ((hn0.alloc _).alloc _)⟩
    · have he : b.take k = b := List.take_of_length_le (by omega)
      rw [he] at hown ⊢
      have hlen : (flatL b).length ≤ 2 * b.length := by rw [flatL_len]; exact Nat.le_refl _
      generalize flatL b = L at *
      go_wp2_with fail
      refine (sortI_c _ A' c' L _ hown (by omega)).mono ?_
      rintro e w3 ⟨rfl, ho3, hg3⟩
      have hn3 : Nx w w3 := hn0.grown hg3 (fun k hk => (hown.lt k hk).1)
      have hsl : (srtI L).length = L.length := srtI_length L
      have hcl := compact_len (srtI L)
      have hcm := compactI_c _ A' c' (srtI L) w3 ho3 (by omega) hcl
      rw [hsl] at hcm
      have Hcm := Lib.hid hcm
      have Hl3 := Lib.hid ho3.lt
      rw [hsl] at hcl
      clear hsl
      generalize compact (srtI L) = ys at *
      clear hg3 hown ho3 hcm
      go_wp2_with fail
      refine Hcm.out.mono ?_
      rintro e w4 ⟨rfl, ho4, hg4⟩
      have hn4 : Nx w w4 := hn3.grown hg4 (fun k hk => (Hl3.out k hk).1)
      have hcap := ho4.cap
      have HI := Lib.hid ho4.intsAt
      clear ho4 hg4
      go_wp2_with fail
      refine (clip_c A' ys.length c' w4 hcap (by omega)).mono ?_
      rintro e w5 ⟨rfl, rfl⟩
      go_wp2
      go_ret
      exact ⟨A', ys.length, rfl, HI.out, hn4⟩

theorem onB_take {b : Es} {j : Nat} {x y : Int} (h : b[j]? = some (x, y)) (v : Int) : onB (b.take (j + 1)) v = (onB (b.take j) v || (decide (x = v) || decide (y = v))) := by
  obtain ⟨h1, h2⟩ := List.getElem?_eq_some_iff.1 h
  unfold onB
  rw [List.take_succ_eq_append_getElem h1, h2, List.any_append]
  simp

set_option maxRecDepth 100000 in
set_option maxHeartbeats 4000000 in
theorem l5Nodes_c (n : Nat) (A : Option Addr) (c : Nat) (b : Es) (w : World) (hx : EdgesAt w A b) (hl : b.length ≤ 1000) (hn : n ≤ 1048576) :
    Calls Try.prog 77 #[V n, .slice A b.length c] w (RetI 3 (nodesL n b) w) := by
  obtain ⟨i0, hi, hz0, hz1, hz2⟩ := info_parts infoI
  have Hi := Lib.hid hi
  have Hz0 := Lib.hid hz0
  have Hz1 := Lib.hid hz1
  have Hz2 := Lib.hid hz2
  have HX := Lib.hid hx
  clear hi hz0 hz1 hz2 hx
  unfold nodesL
  go_enter Try.func77, Try.ntmps77
  go_wp2
  generalize hW1 : World.alloc _ _ = W1
  have gW1 : Nx w W1 := by subst hW1; exact (by repeat (first | exact Nx.refl _ | assumption | apply Nx.alloc | apply Nx.drew | apply Nx.drewN | (refine Nx.setCell ?_ (by first | (simp; done) | (simp; omega) | omega) _) | refine Nx.trans ?_ (by assumption)))
  have sW1 : W1.heap.size = w.heap.size + 1 := by subst hW1; simp
  have X0 : Bx W1 (w.heap.size) 3 [] := by subst hW1; have h := Bx.alloc w 3 []; simpa using h
  have X0_z := X0.lt
  have HsW1 := Lib.hid sW1
  have lW1 : w.heap.size + 1 ≤ W1.heap.size := by omega
  clear hW1 sW1
  have ho0 : OwnI W1 w.heap.size 3 _ 0 [] := X0.emptyI (Nat.le_refl _)
  go_loopg [5, 6, 7, 8] n (fun gk out i _ _ wr => ∃ (k : Nat) (A' : Option Addr) (c' : Nat), k + gk = n ∧ i = .int .i64 k ∧ out = .slice A' (byK (onB b) k).length c' ∧ OwnI wr w.heap.size 3 A' c' (byK (onB b) k) ∧ Nx w wr)
  case atStart => exact ⟨0, some ⟨w.heap.size, 0, none⟩, 0, by omega, rfl, by simp [byK], by simpa [byK] using ho0, gW1⟩
  case round =>
    clear X0 ho0
    obtain ⟨k, A', c', hk, rfl, rfl, hown, hn0⟩ := hrel
    obtain ⟨gko, rfl⟩ : ∃ g : Nat, g = gk := ⟨_, rfl⟩
    obtain ⟨wo, rfl⟩ : ∃ x : World, x = wr := ⟨_, rfl⟩
    by_cases hlt : k < n
    · have hst := byK_succ (onB b) k
      have hlen := byK_len (onB b) k
      generalize byK (onB b) k = L at *
      have Hst := Lib.hid hst
      have Hown := Lib.hid hown
      have z0 := hn0.size
      clear hst hown
      go_wp2_with fail
      go_loopg [7, 8] b.length (fun gk h i wr => ∃ j : Nat, j + gk = b.length ∧ i = .int .i64 j ∧ h = .bool (onB (b.take j) k) ∧ wr = wo)
      case atStart => exact ⟨0, by omega, rfl, by simp [onB], rfl⟩
      case round =>
        obtain ⟨j, hj, rfl, rfl, rfl⟩ := hrel
        by_cases hjl : j < b.length
        · obtain ⟨e, hek⟩ : ∃ e, b[j]? = some e := ⟨_, List.getElem?_eq_getElem hjl⟩
          obtain ⟨bb, off, rfl, hbl, h1, h2⟩ := (HX.out.nx hn0).rd hek
          obtain ⟨x, y⟩ := e
          simp only at h1 h2
          have Hon := Lib.hid (onB_take hek (k : Int))
          clear hek
          generalize onB (b.take j) (k : Int) = q at *
          cases q with
          | true =>
            go_wp2_with fail
            go_roundg (gk - 1)
            case measure => omega
            case rel => exact ⟨j + 1, by omega, by go_num, by rw [Hon.out]; rfl, rfl⟩
          | false =>
            by_cases e1 : (x == (k : Int)) = true
            · go_wp2_with fail
              go_roundg (gk - 1)
              case measure => omega
              case rel => exact ⟨j + 1, by omega, by go_num, by rw [Hon.out]; simp at e1; simp [e1], rfl⟩
            · have e1 : (x == (k : Int)) = false := by simpa using e1
              by_cases e2 : (y == (k : Int)) = true
              · go_wp2_with fail
                go_roundg (gk - 1)
                case measure => omega
                case rel => exact ⟨j + 1, by omega, by go_num, by rw [Hon.out]; simp at e2; simp [e2], rfl⟩
              · have e2 : (y == (k : Int)) = false := by simpa using e2
                go_wp2_with fail
                go_roundg (gk - 1)
                case measure => omega
                case rel => exact ⟨j + 1, by omega, by go_num, by rw [Hon.out]; simp at e1 e2; simp [e1, e2], rfl⟩
        · have hbt : b.take j = b := List.take_of_length_le (by omega)
          have Hbt := Lib.hid hbt
          rw [hbt]
          clear hbt
          cases hq : onB b (k : Int) with
          | true =>
            have hL : Hid (byK (onB b) (k + 1) = L ++ [(k : Int)]) := Lib.hid (by rw [Hst.out, if_pos hq])
            clear hq
            go_wp2_with (at_builtin; go_must (refine appI (base := w.heap.size) (t := 3) L _ k rfl rfl Try.underlying26 Hi.out Hz0.out Hz1.out Hz2.out rfl rfl (Hown.out.nx (by repeat (first | exact Nx.refl _ | assumption | apply Nx.alloc | apply Nx.drew | apply Nx.drewN | (refine Nx.setCell ?_ (by first | (simp; done) | (simp; omega) | omega) _) | refine Nx.trans ?_ (by assumption)))) rfl (cellN (by simp) rfl) (by omega) (by simp; omega) ?_; intro A2 c2 w4 hown4 hnx4 hgr4 hbl4))
            go_roundg (gko - 1)
            case measure => omega
            case rel => exact ⟨k + 1, A2, c2, by omega, by go_num, by rw [hL.out]; simp, by rw [hL.out]; exact hown4, hnx4 w (Nat.le_refl _) (hn0.alloc _)⟩
          | false =>
            have hL : Hid (byK (onB b) (k + 1) = L) := Lib.hid (by rw [Hst.out, if_neg (by simp [hq]), List.append_nil])
            clear hq
            go_wp2
            go_roundg (gko - 1)
            case measure => omega
            case rel => exact ⟨k + 1, A', c', by omega, by go_num, by rw [hL.out], by rw [hL.out]; exact Hown.out, hn0⟩
    · obtain rfl : k = n := by omega
      go_wp2
      go_ret
      exact ⟨A', c', rfl, hown, hn0⟩
end Go.Proofs.Ytafhojiialmbcaa
