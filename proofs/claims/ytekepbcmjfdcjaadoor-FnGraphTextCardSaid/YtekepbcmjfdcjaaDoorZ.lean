/- Sizes of heaps behind draws, for the printed walks. -/
import Derived.Test.YtekepbcmjfdcjaaDoorM2
namespace Go.Proofs.YtekepbcmjfdcjaaDoor
open Go.RowKit
theorem size_drew_ (w : World) : w.drew.heap.size = w.heap.size := rfl
theorem size_set_ (w : World) (a : Addr) (v : Value) : (w.setCell a v).heap.size = w.heap.size := by simp [World.setCell]
end Go.Proofs.YtekepbcmjfdcjaaDoor
