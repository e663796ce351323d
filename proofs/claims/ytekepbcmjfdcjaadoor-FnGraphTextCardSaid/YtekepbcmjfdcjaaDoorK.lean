/- Words for memory that all walks of this seat use: 'Nx a w': w has at most new blocks over a; reads of slices of ints and of edges. No program in sight. -/
import Derived.WalkKit
import Derived.WalkSpells
import Derived.WalkLawsBesides
import Derived.StillTailTactics
import Derived.BigQuiet
import Derived.Outline
import Derived.Lib.Hide
import Derived.Deep.DeepMust
import Derived.Deep.LoopGhost
import Derived.Maps.AppendAt
import Derived.Deep.AppendLies
namespace Go.Proofs.YtekepbcmjfdcjaaDoor
open Go.RowKit

abbrev V (n : Int) : Value := .int .i64 n
abbrev B (b : Bool) : Value := .bool b
/-- an edge as a value -/
abbrev Ed (x y : Int) : Value := .agg #[.int .i64 x, .int .i64 y]

/-- At most new blocks. -/
def Nx (a w : World) : Prop := Below a.heap.size a w
theorem Nx.refl (a : World) : Nx a a := Below.refl _ _
theorem Nx.alloc {a w : World} (h : Nx a w) (o : Obj) : Nx a (w.alloc o) := Below.alloc h h.size o
theorem Nx.drew {a w : World} (h : Nx a w) : Nx a w.drew := Below.drew h
theorem Nx.drewN {a w : World} (h : Nx a w) (k : Nat) : Nx a (w.drewN k) := ⟨h.os, h.tape, h.output, h.size, h.block⟩
theorem Nx.trans {a b c : World} (h : Nx a b) (k : Nx b c) : Nx a c := Below.trans h (Below.mono k h.size)
theorem Nx.setCell {a w : World} (h : Nx a w) {p : Addr} (hp : a.heap.size ≤ p.block) (u : Value) : Nx a (w.setCell p u) := Below.setCell h hp u
theorem Nx.grown {a w w' : World} {row : Option Nat} (h : Nx a w) (hg : w.grownBy w' row) (hr : ∀ k, row = some k → a.heap.size ≤ k) : Nx a w' := Below.grown h hg h.size hr
theorem Nx.cell {a w : World} (h : Nx a w) {p : Addr} {v : Value} (hp : p.block < a.heap.size) (hc : a.cell? p = some v) : w.cell? p = some v := (Below.cell h hp).trans hc
theorem Nx.frozen {a w : World} (h : Nx a w) {p : Addr} {v : Bool} (hp : p.block < a.heap.size) (hc : a.frozen? p = v) : w.frozen? p = v := (Below.frozen h hp).trans hc
theorem Nx.size {a w : World} (h : Nx a w) : a.heap.size ≤ w.heap.size := Below.size h

/-- what the walk is told behind a call: every elder cell and mark reads as before -/
theorem Nx.rules {W w1 : World} (h : Nx W w1) : (∀ b o, b < W.heap.size → w1.cell? ⟨b, o, none⟩ = W.cell? ⟨b, o, none⟩) ∧
    (∀ b o, b < W.heap.size → w1.frozen? ⟨b, o, none⟩ = W.frozen? ⟨b, o, none⟩) ∧ W.heap.size ≤ w1.heap.size :=
  ⟨fun b o hb => Below.cell (p := ⟨b, o, none⟩) h hb, fun b o hb => Below.frozen (p := ⟨b, o, none⟩) h hb, h.size⟩

/-- The call returns v, and there are at most new blocks. -/
def RetV (v : Value) (w : World) (e : Ending) (w' : World) : Prop := e = .returned v ∧ Nx w w'
theorem RetV.mk {v v' : Value} {w w' : World} (h : v' = v) (hn : Nx w w') : RetV v w (.returned v') w' := ⟨by rw [h], hn⟩
theorem RetV.bool {b b' : Bool} {w w' : World} (h : b' = b) (hn : Nx w w') : RetV (.bool b) w (.returned (.bool b')) w' := ⟨by rw [h], hn⟩
theorem RetV.int {b b' : Int} {w w' : World} (h : b' = b) (hn : Nx w w') : RetV (.int .i64 b) w (.returned (.int .i64 b')) w' := ⟨by rw [h], hn⟩
/-- The call returns v, and the world is as it was. -/
def RetS (v : Value) (w : World) (e : Ending) (w' : World) : Prop := e = .returned v ∧ w = w'
theorem RetS.bool {b b' : Bool} {w : World} (h : b' = b) : RetS (.bool b) w (.returned (.bool b')) w := ⟨by rw [h], rfl⟩
theorem RetS.int {b b' : Int} {w : World} (h : b' = b) : RetS (.int .i64 b) w (.returned (.int .i64 b')) w := ⟨by rw [h], rfl⟩

/-! ### a drawn region: what only reads goes first, by the cheap walk; the forced tail behind it -/
theorem still_of_quiet {P : Program} {ops : Array Oper} {w : World} {Q : Act → Prop} : ∀ (l : List Oper) (a : Act), wpQuiet P ops (fun w' => w' = w) Q l a → wpStill P ops w Q l a
  | [], _, h => h
  | o :: rest, a, h => by
    unfold wpStill
    unfold wpQuiet at h
    by_cases hw : Region.wanted o (yielded ops a.tmps) = true
    · rw [if_pos hw] at h ⊢
      obtain ⟨v, hv, hn⟩ := h
      have h1 := hv w rfl
      unfold Oper.quietAt at h1
      unfold Oper.still
      have hn' := still_of_quiet rest _ hn
      revert h1
      generalize (execOp a.eval o).run P w = r
      intro h1
      unfold Oper.quietUpon at h1
      unfold Oper.stillUpon
      split at h1
      · exact ⟨h1.1, by rw [h1.2]; exact hn'⟩
      · exact ⟨h1.1, by rw [h1.2] at hn'; exact hn'⟩
      · exact ⟨h1.1, v, h1.2, hn'⟩
      · exact h1.elim
    · rw [if_neg hw] at h ⊢
      exact still_of_quiet rest _ h
theorem tail_quiet {P : Program} {id : Nat} {Q : Exit → Act → World → Prop} {a : Act} {W : World} {l : List Oper} (n : Nat) (hm : P.follows .mixedOrders = true) (hB : Region.lexTailB .any l.toArray n = true)
    (h : ∀ W2, Nx W W2 → wpQuiet P l.toArray (fun w' => w' = W2) (fun a' => wpList P l.toArray Q (l.drop n) a' W2) (l.take n) a) : (Code.region id l.toArray true).wp P Q a W :=
  wp_region_still_tail n hm hB (still_of_quiet _ _ (h W.drew (Nx.refl _).drew))

/-- the bytes of a slice of bytes, wherever it lies but in block br -/
def BytesAt (w : World) (br : Nat) (A : Option Addr) (n : Nat) : Prop :=
  0 < n → ∃ b off, A = some ⟨b, off, none⟩ ∧ b ≠ br ∧ b < w.heap.size ∧ ∀ j, j < n → ∃ u : Int, 0 ≤ u ∧ u < 256 ∧ w.cell? ⟨b, off + j, none⟩ = some (.int .u8 u)
/-- a row of numbers that may be read -/
def IntsAt (w : World) (A : Option Addr) (xs : List Int) : Prop :=
  0 < xs.length → ∃ b off, A = some ⟨b, off, none⟩ ∧ b < w.heap.size ∧ ∀ k (h : k < xs.length), w.cell? ⟨b, off + k, none⟩ = some (V xs[k])
/-- a row of structs of two numbers that may be read -/
def EdgesAt (w : World) (A : Option Addr) (es : List (Int × Int)) : Prop :=
  0 < es.length → ∃ b off, A = some ⟨b, off, none⟩ ∧ b < w.heap.size ∧ ∀ k (h : k < es.length), w.cell? ⟨b, off + k * 2, none⟩ = some (V es[k].1) ∧ w.cell? ⟨b, off + k * 2 + 1, none⟩ = some (V es[k].2)
theorem IntsAt.nx {w w' : World} {A : Option Addr} {xs : List Int} (h : IntsAt w A xs) (hn : Nx w w') : IntsAt w' A xs := fun h0 => by
  obtain ⟨b, off, e, hb, hc⟩ := h h0
  exact ⟨b, off, e, Nat.lt_of_lt_of_le hb hn.size, fun k hk => hn.cell hb (hc k hk)⟩
theorem EdgesAt.nx {w w' : World} {A : Option Addr} {xs : List (Int × Int)} (h : EdgesAt w A xs) (hn : Nx w w') : EdgesAt w' A xs := fun h0 => by
  obtain ⟨b, off, e, hb, hc⟩ := h h0
  exact ⟨b, off, e, Nat.lt_of_lt_of_le hb hn.size, fun k hk => ⟨hn.cell hb (hc k hk).1, hn.cell hb (hc k hk).2⟩⟩
theorem BytesAt.nx {w w' : World} {A : Option Addr} {n : Nat} {br br' : Nat} (h : BytesAt w br A n) (hn : Nx w w') (hb : w.heap.size ≤ br') : BytesAt w' br' A n := fun h0 => by
  obtain ⟨b, off, e, _, hlt, hc⟩ := h h0
  refine ⟨b, off, e, by omega, Nat.lt_of_lt_of_le hlt hn.size, fun j hj => ?_⟩
  obtain ⟨u, h1, h2, h3⟩ := hc j hj
  exact ⟨u, h1, h2, hn.cell hlt h3⟩
/-- a number that fits an int -/
def Fits (n : Int) : Prop := -9223372036854775808 ≤ n ∧ n ≤ 9223372036854775807
def FitsE (e : Int × Int) : Prop := Fits e.1 ∧ Fits e.2
theorem fits_of_wf {n : Int} (h : (Lit.int .i64 n).wf = true) : Fits n := by
  simp [Lit.wf, IntKind.min, IntKind.max, IntKind.bits, IntKind.signed] at h
  unfold Fits; omega

end Go.Proofs.YtekepbcmjfdcjaaDoor
