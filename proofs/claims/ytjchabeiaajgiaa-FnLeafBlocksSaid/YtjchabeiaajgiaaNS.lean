/- Contract: slices.Sort of a row of one's own. -/
import Derived.Shelf.Sort.Plain
import Derived.Shelf.Slices.In.SortNone
import Derived.Sort.OwnSortedInts
import Derived.Test.YtjchabeiaajgiaaProg
import Derived.Test.YtjchabeiaajgiaaM
namespace Go.Proofs.Ytjchabeiaajgiaa
open Go.Shelf
def Try.lays189_ren : Go.Shelf.Ren := ⟨fun | 189 => 125 | 125 => 123 | 257 => 155 | 128 => 153 | 129 => 154 | 294 => 167 | 295 => 168 | 296 => 169 | 297 => 170 | 298 => 171 | 299 => 172 | 216 => 173 | 300 => 174 | 301 => 175 | 328 => 179 | 329 => 163 | 330 => 164 | 331 => 180 | 332 => 181 | 215 => 144 | 343 => 182 | n => n, fun | 28 => 27 | 3 => 3 | 46 => 126 | 0 => 0 | 51 => 149 | 53 => 151 | 4 => 4 | 183 => 143 | 182 => 142 | 131 => 107 | 5 => 5 | 9 => 9 | 218 => 156 | 222 => 160 | 228 => 169 | 229 => 170 | n => n, fun | n => n⟩
theorem Try.lays189 : Go.Proofs.Lays.n189 Try.prog Try.lays189_ren := {
  mixed := by kernel_rfl
  f125 := Try.func123.trans (congrArg some (by kernel_rfl))
  f128 := Try.func153.trans (congrArg some (by kernel_rfl))
  f129 := Try.func154.trans (congrArg some (by kernel_rfl))
  f189 := Try.func125.trans (congrArg some (by kernel_rfl))
  f215 := Try.func144.trans (congrArg some (by kernel_rfl))
  f216 := Try.func173.trans (congrArg some (by kernel_rfl))
  f257 := Try.func155.trans (congrArg some (by kernel_rfl))
  f294 := Try.func167.trans (congrArg some (by kernel_rfl))
  f295 := Try.func168.trans (congrArg some (by kernel_rfl))
  f296 := Try.func169.trans (congrArg some (by kernel_rfl))
  f297 := Try.func170.trans (congrArg some (by kernel_rfl))
  f298 := Try.func171.trans (congrArg some (by kernel_rfl))
  f299 := Try.func172.trans (congrArg some (by kernel_rfl))
  f300 := Try.func174.trans (congrArg some (by kernel_rfl))
  f301 := Try.func175.trans (congrArg some (by kernel_rfl))
  f328 := Try.func179.trans (congrArg some (by kernel_rfl))
  f329 := Try.func163.trans (congrArg some (by kernel_rfl))
  f330 := Try.func164.trans (congrArg some (by kernel_rfl))
  f331 := Try.func180.trans (congrArg some (by kernel_rfl))
  f332 := Try.func181.trans (congrArg some (by kernel_rfl))
  f343 := Try.func182.trans (congrArg some (by kernel_rfl))
  t0 := Try.underlying0
  a0 := Try.isAgg0
  z0 := Try.sizeOf0
  v0 := Try.zeroValue0
  t3 := Try.underlying3
  a3 := Try.isAgg3
  z3 := Try.sizeOf3
  v3 := Try.zeroValue3
  t4 := Try.underlying4
  a4 := Try.isAgg4
  z4 := Try.sizeOf4
  v4 := Try.zeroValue4
  t5 := Try.underlying5
  a5 := Try.isAgg5
  z5 := Try.sizeOf5
  v5 := Try.zeroValue5
  t9 := Try.underlying9
  a9 := Try.isAgg9
  z9 := Try.sizeOf9
  v9 := Try.zeroValue9
  t28 := Try.underlying27
  a28 := Try.isAgg27
  z28 := Try.sizeOf27
  v28 := Try.zeroValue27
  t46 := Try.underlying126
  a46 := Try.isAgg126
  z46 := Try.sizeOf126
  v46 := Try.zeroValue126
  t51 := Try.underlying149
  a51 := Try.isAgg149
  z51 := Try.sizeOf149
  v51 := Try.zeroValue149
  t53 := Try.underlying151
  a53 := Try.isAgg151
  z53 := Try.sizeOf151
  v53 := Try.zeroValue151
  t131 := Try.underlying107
  a131 := Try.isAgg107
  z131 := Try.sizeOf107
  v131 := Try.zeroValue107
  t182 := Try.underlying142
  a182 := Try.isAgg142
  z182 := Try.sizeOf142
  v182 := Try.zeroValue142
  t183 := Try.underlying143
  a183 := Try.isAgg143
  z183 := Try.sizeOf143
  v183 := Try.zeroValue143
  t218 := Try.underlying156
  a218 := Try.isAgg156
  z218 := Try.sizeOf156
  v218 := Try.zeroValue156
  t222 := Try.underlying160
  a222 := Try.isAgg160
  z222 := Try.sizeOf160
  v222 := Try.zeroValue160
  t228 := Try.underlying169
  a228 := Try.isAgg169
  z228 := Try.sizeOf169
  v228 := Try.zeroValue169
  t229 := Try.underlying170
  a229 := Try.isAgg170
  z229 := Try.sizeOf170
  v229 := Try.zeroValue170 }
end Go.Proofs.Ytjchabeiaajgiaa
namespace Go.Proofs.Ytjchabeiaajgiaa
open Go.RowKit set_option linter.unusedVariables false set_option linter.unusedSimpArgs false

/-- sorted -/
def srtI (xs : List Int) : List Int := xs.mergeSort fun x y => decide (x ≤ y)
theorem srtI_length (xs : List Int) : (srtI xs).length = xs.length := List.length_mergeSort _
def Sorted (base : Nat) (A : Option Addr) (c : Nat) (xs : List Int) (w : World) (e : Ending) (w' : World) : Prop :=
  e = .returned (.tuple #[]) ∧ OwnI w' base 3 A c (srtI xs) ∧ w.grownBy w' (blk A)
theorem sortI_c (base : Nat) (A : Option Addr) (c : Nat) (xs : List Int) (w : World) (h : OwnI w base 3 A c xs) (hl : xs.length ≤ 1048576) :
    Calls Try.prog 125 #[.slice A xs.length c] w (Sorted base A c xs w) := by
  by_cases h0 : xs = []
  · subst h0
    refine (Any.slices_Sort_int_none Try.lays189 A c w).mono ?_
    rintro e w' ⟨rfl, rfl⟩
    exact ⟨rfl, by simpa [srtI] using h, World.grownBy.refl _ _⟩
  · have h1 := h
    obtain ⟨_, h2 | ⟨g, cap, cur, hv, hb, hg, hle, hm, hs, ht⟩⟩ := h1
    · exact absurd (by simpa using h2.2) h0
    · injection hv with hA _ hc
      subst hA hc
      refine (Any.slices_Sort_int Try.lays189 g 0 c xs w (holds_of_blockI hg (by simpa using ht)) (Array.getElem?_eq_some_iff.1 hg).1 (by omega)).mono ?_
      rintro e w' ⟨rfl, n, os, rfl⟩
      have hlen := srtI_length xs
      have ho := ownsRow_sortedI (os := os) (n := n) (w := w) (g := g) (cap := c) (e := 3) (cur := cur) (ss := xs) (ts := srtI xs) hlen hb hg hle hm hs
      refine ⟨rfl, ?_, grownBy_sortedI _⟩
      unfold OwnI
      rw [hlen]
      exact ho
end Go.Proofs.Ytjchabeiaajgiaa
