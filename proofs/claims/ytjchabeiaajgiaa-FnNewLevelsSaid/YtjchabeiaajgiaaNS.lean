/- Contract: slices.Sort of a row of one's own. -/
import Derived.Shelf.Lay
import Derived.Shelf.Sort.Plain
import Derived.Shelf.Slices.In.SortNone
import Derived.Sort.OwnSortedInts
import Derived.Test.YtjchabeiaajgiaaProg
import Derived.Test.YtjchabeiaajgiaaM
namespace Go.Proofs.Ytjchabeiaajgiaa
open Go.Shelf
shelf_lay Lays.n189 Nm 189 at Try as Try.lays189
end Go.Proofs.Ytjchabeiaajgiaa
namespace Go.Proofs.Ytjchabeiaajgiaa
open Go.RowKit set_option linter.unusedVariables false set_option linter.unusedSimpArgs false

/-- sorted -/
def srtI (xs : List Int) : List Int := xs.mergeSort fun x y => decide (x ≤ y)
theorem srtI_length (xs : List Int) : (srtI xs).length = xs.length := List.length_mergeSort _
def Sorted (base : Nat) (A : Option Addr) (c : Nat) (xs : List Int) (w : World) (e : Ending) (w' : World) : Prop :=
  e = .returned (.tuple #[]) ∧ OwnI w' base 3 A c (srtI xs) ∧ w.grownBy w' (blk A)
theorem sortI_c (base : Nat) (A : Option Addr) (c : Nat) (xs : List Int) (w : World) (h : OwnI w base 3 A c xs) (hl : xs.length ≤ 1048576) :
    Calls Try.prog 125 #[.slice A xs.length c] w (Sorted base A c xs w) := by
  by_cases h0 : xs = []
  · subst h0
    refine (Any.slices_Sort_int_none Try.lays189 A c w).mono ?_
    rintro e w' ⟨rfl, rfl⟩
    exact ⟨rfl, by simpa [srtI] using h, World.grownBy.refl _ _⟩
  · have h1 := h
    obtain ⟨_, h2 | ⟨g, cap, cur, hv, hb, hg, hle, hm, hs, ht⟩⟩ := h1
    · exact absurd (by simpa using h2.2) h0
    · injection hv with hA _ hc
      subst hA hc
      refine (Any.slices_Sort_int Try.lays189 g 0 c xs w (holds_of_blockI hg (by simpa using ht)) (Array.getElem?_eq_some_iff.1 hg).1 (by omega)).mono ?_
      rintro e w' ⟨rfl, n, os, rfl⟩
      have hlen := srtI_length xs
      have ho := ownsRow_sortedI (os := os) (n := n) (w := w) (g := g) (cap := c) (e := 3) (cur := cur) (ss := xs) (ts := srtI xs) hlen hb hg hle hm hs
      refine ⟨rfl, ?_, grownBy_sortedI _⟩
      unfold OwnI
      rw [hlen]
      exact ho
end Go.Proofs.Ytjchabeiaajgiaa
