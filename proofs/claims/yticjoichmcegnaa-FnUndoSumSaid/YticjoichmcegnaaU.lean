/- Contracts: slices.Repeat of one number (math/bits.Mul is laid from the shelf). -/
import Derived.Shelf.Bits.Mul64
import Derived.Laws.CopyOwn
import Derived.Deep.RegionLaw
import Derived.Test.YticjoichmcegnaaProg
namespace Go.Proofs.Yticjoichmcegnaa
open Go.Shelf
def Try.lays212_ren : Go.Shelf.Ren := ⟨fun | 212 => 131 | 263 => 149 | 264 => 150 | n => n, fun | 46 => 140 | 51 => 156 | 146 => 157 | 53 => 159 | 148 => 160 | n => n, fun | n => n⟩
theorem Try.lays212 : Go.Proofs.Lays.n212 Try.prog Try.lays212_ren := {
  mixed := by kernel_rfl
  f212 := Try.func131.trans (congrArg some (by kernel_rfl))
  f263 := Try.func149.trans (congrArg some (by kernel_rfl))
  f264 := Try.func150.trans (congrArg some (by kernel_rfl))
  t46 := Try.underlying140
  a46 := Try.isAgg140
  z46 := Try.sizeOf140
  v46 := Try.zeroValue140
  t51 := Try.underlying156
  a51 := Try.isAgg156
  z51 := Try.sizeOf156
  v51 := Try.zeroValue156
  t53 := Try.underlying159
  a53 := Try.isAgg159
  z53 := Try.sizeOf159
  v53 := Try.zeroValue159
  t146 := Try.underlying157
  a146 := Try.isAgg157
  z146 := Try.sizeOf157
  v146 := Try.zeroValue157
  t148 := Try.underlying160
  a148 := Try.isAgg160
  z148 := Try.sizeOf160
  v148 := Try.zeroValue160 }
end Go.Proofs.Yticjoichmcegnaa
