/- A block of a call's own, known whole. -/
import Derived.Test.YtekepbcmjfdcjaaDoorM
namespace Go.Proofs.YtekepbcmjfdcjaaDoor
open Go.RowKit

/-- block g holds these cells, none of them frozen -/
def Bx (w : World) (g : Nat) (t : TypeId) (cs : List Value) : Prop := w.heap[g]? = some (.cells cs.toArray t (0, 0))
theorem Bx.cell {w : World} {g j : Nat} {t : TypeId} {cs : List Value} {v : Value} (h : Bx w g t cs) (hv : cs[j]? = some v) : w.cell? ⟨g, j, none⟩ = some v := by
  unfold Bx at h
  simp [World.cell?, h, hv]
theorem Bx.free {w : World} {g : Nat} {t : TypeId} {cs : List Value} (h : Bx w g t cs) (j : Nat) : w.frozen? ⟨g, j, none⟩ = false := by
  unfold Bx at h
  simp [World.frozen?, h]
theorem Bx.lt {w : World} {g : Nat} {t : TypeId} {cs : List Value} (h : Bx w g t cs) : g < w.heap.size := by
  unfold Bx at h
  rcases Nat.lt_or_ge g w.heap.size with hlt | hge
  · exact hlt
  · rw [Array.getElem?_eq_none hge] at h; cases h
theorem Bx.set {w : World} {g j : Nat} {t : TypeId} {cs : List Value} (h : Bx w g t cs) (v : Value) : Bx (w.setCell ⟨g, j, none⟩ v) g t (cs.set j v) := by
  unfold Bx at *
  by_cases hj : j < cs.length
  · simp [World.setCell, Array.getElem?_modify, h, Array.setIfInBounds, hj]
  · have e : cs.set j v = cs := List.set_eq_of_length_le (by omega)
    simp [World.setCell, Array.getElem?_modify, h, Array.setIfInBounds, hj, e]
theorem Bx.far {w : World} {g : Nat} {t : TypeId} {cs : List Value} (h : Bx w g t cs) {p : Addr} (hp : p.block ≠ g) (v : Value) : Bx (w.setCell p v) g t cs :=
  (Below.heap_setCell w p v g (by rintro rfl; exact hp rfl)).trans h
theorem Bx.nx {w w' : World} {g : Nat} {t : TypeId} {cs : List Value} (h : Bx w g t cs) (hn : Nx w w') : Bx w' g t cs := (hn.block g h.lt).trans h
theorem Bx.grown {w w' : World} {g : Nat} {t : TypeId} {cs : List Value} {row : Option Nat} (h : Bx w g t cs) (hg : w.grownBy w' row) (hne : row ≠ some g) : Bx w' g t cs :=
  (hg.block g h.lt (fun e => hne (by rw [← e]))).trans h
theorem Bx.alloc (w : World) (t : TypeId) (cs : List Value) : Bx (w.alloc (.cells cs.toArray t)) w.heap.size t cs := by
  unfold Bx
  rw [World.alloc]
  simp
end Go.Proofs.YtekepbcmjfdcjaaDoor
