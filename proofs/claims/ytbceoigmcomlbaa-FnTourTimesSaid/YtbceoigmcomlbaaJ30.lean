import Derived.Test.YtbceoigmcomlbaaJ3
import Derived.Test.YtbceoigmcomlbaaJ8
import Derived.Test.YtbceoigmcomlbaaJ29
import Derived.Test.YtbceoigmcomlbaaJ10
import Derived.Test.YtbceoigmcomlbaaJ22
import Derived.Lib.SliceRun
import Derived.Test.YtbceoigmcomlbaaJ9
/- Contracts: are two nodes connected: connected of the program, l2Joined of the reference. -/
namespace Go.Proofs.Ytbceoigmcomlbaa
open Go.RowKit

theorem Rx.own {br : Nat} {a b c : World} {r : Option Nat} (h : Rx br a b) (k : b.grownBy c r) (hr : ∀ j, r = some j → a.heap.size ≤ j) : Rx br a c :=
  ⟨k.os.trans h.os, k.tape.trans h.tape, k.output.trans h.output, Nat.le_trans h.size k.size, fun i hi hne => (k.block i (Nat.lt_of_lt_of_le hi h.size) (fun e => by have := hr i e.symm; omega)).trans (h.block i hi hne)⟩
theorem Rx.setCell {br : Nat} {a b : World} (h : Rx br a b) (i : Nat) (u : Value) : Rx br a (b.setCell ⟨br, i, none⟩ u) :=
  ⟨h.os, h.tape, h.output, by have := h.size; simpa [World.setCell] using this, fun k hk hne => (Below.heap_setCell b ⟨br, i, none⟩ u k (by rintro rfl; exact hne rfl)).trans (h.block k hk hne)⟩

theorem connB_nat {n i j : Nat} {es : Es} {L : List Int} (hL : labels n es = L) (hi : i < L.length) (hj : j < L.length) : connB n es i j = (L[i] == L[j]) := by
  subst hL
  simp [connB, lk, hi, hj]
  rfl

set_option maxRecDepth 100000 in
set_option maxHeartbeats 1000000 in
theorem l2Joined_c (n : Nat) (A : Option Addr) (c : Nat) (es : List (Int × Int)) (x y : Int) (w : World) (hx : EdgesAt w A es) (hl : es.length ≤ 1048576) (hn16 : n ≤ 16) (hr : InR n es) (hd : ∀ e ∈ es, e.1 ≠ e.2) (h1 : 0 ≤ x ∧ x < n) (h2 : 0 ≤ y ∧ y < n) :
    Calls Try.prog 100 #[.agg #[V n, .slice A es.length c], V x, V y] w (RetV (.bool (connB n es x y)) w) := by
  obtain ⟨i, rfl⟩ := Int.eq_ofNat_of_zero_le h1.1
  obtain ⟨j, rfl⟩ := Int.eq_ofNat_of_zero_le h2.1
  have hll := labels_length hr
  have Hll := Lib.hid hll
  have hi : i < n := by omega
  have hj : j < n := by omega
  clear h1 h2 hll
  go_enter Try.func100, Try.ntmps100
  go_wp2_with fail
  refine (l2Labels_c n A c es _ (hx.nx (by repeat (first | exact Nx.refl _ | assumption | apply Nx.alloc | apply Nx.drew | apply Nx.drewN | (refine Nx.setCell ?_ (by first | (simp; done) | (simp; omega) | omega) _) | refine Nx.trans ?_ (by assumption)))) hl hn16 hr hd).mono ?_
  rintro e w1 ⟨A', c', rfl, ho, hn1⟩
  have hn : Nx w w1 := (by repeat (first | exact Nx.refl _ | assumption | apply Nx.alloc | apply Nx.drew | apply Nx.drewN | (refine Nx.setCell ?_ (by first | (simp; done) | (simp; omega) | omega) _) | refine Nx.trans ?_ (by assumption)))
  obtain ⟨L, hL⟩ : ∃ L, labels n es = L := ⟨_, rfl⟩
  have hi' : i < L.length := by have := Hll.out; rw [hL] at this; omega
  have hj' : j < L.length := by have := Hll.out; rw [hL] at this; omega
  have hcb := connB_nat hL hi' hj'
  rw [hL] at ho ⊢
  have Hcb := Lib.hid hcb
  obtain ⟨g, rfl, hg1, hg2⟩ := ho.at (by omega)
  have c1 := ho.cell hi'
  have c2 := ho.cell hj'
  clear hcb hL ho hn1 hx hr hd hi hj
  generalize L[i] = p at *
  generalize L[j] = q at *
  go_wp2
  go_quiet (fail)
  go_wp2
  go_ret
  exact RetV.bool Hcb.out.symm (by repeat (first | exact Nx.refl _ | assumption | apply Nx.alloc | apply Nx.drew | apply Nx.drewN | (refine Nx.setCell ?_ (by first | (simp; done) | (simp; omega) | omega) _) | refine Nx.trans ?_ (by assumption)))
end Go.Proofs.Ytbceoigmcomlbaa

/- Contracts: edges without one (l1Without); slices.IndexFunc, DeleteFunc, Clone over edges. -/
namespace Go.Proofs.Ytbceoigmcomlbaa
open Go.RowKit

theorem outE_step {es : Es} {e x : Int × Int} {k : Nat} (h : es[k]? = some x) : outE (es.take (k + 1)) e = outE (es.take k) e ++ if x = e then [] else [x] := by
  unfold outE
  rw [filter_take_succ _ h]
  by_cases hx : x = e <;> simp [hx]

end Go.Proofs.Ytbceoigmcomlbaa

/- Contracts: slices.IndexFunc and slices.DeleteFunc over edges, whatever the function value. -/
namespace Go.Proofs.Ytbceoigmcomlbaa
open Go.RowKit

/-- a function value that says of an edge whether p holds, in each world that has come of w with nothing turned but one row -/
def TellsE (g : Nat) (bd lb : Array Value) (p : Int × Int → Bool) (es : Es) (row : Option Nat) (w : World) : Prop :=
  ∀ (W : World) (x y : Int), (x, y) ∈ es → w.grownBy W row → Calls Try.prog g (bd.push (Ed x y) ++ lb) W (RetV (.bool (p (x, y))) W)
theorem TellsE.row {g : Nat} {bd lb : Array Value} {p : Int × Int → Bool} {es : Es} {row : Option Nat} {w w' : World} (h : TellsE g bd lb p es none w) (hn : Nx w w') (hr : ∀ k, row = some k → w.heap.size ≤ k) : TellsE g bd lb p es row w' :=
  fun W x y hm hW => h W x y hm (Nx.grown hn hW hr).grownNone

/-- the first place where p holds, or -1 -/
def fstI (p : Int × Int → Bool) (es : Es) : Int := if es.any p then (es.findIdx p : Int) else -1
theorem fstI_hit {p : Int × Int → Bool} {es : Es} {k : Nat} {e : Int × Int} (hno : ∀ j, j < k → ∀ d, es[j]? = some d → p d = false) (he : es[k]? = some e) (hp : p e = true) : fstI p es = k := by
  have hm : es.any p = true := List.any_eq_true.2 ⟨e, List.mem_of_getElem? he, hp⟩
  have hk : k < es.length := (List.getElem?_eq_some_iff.1 he).1
  have hek : es[k] = e := by rw [List.getElem?_eq_getElem hk] at he; injection he
  unfold fstI
  rw [if_pos hm]
  congr 1
  refine (List.findIdx_eq hk).2 ⟨by rw [hek]; exact hp, fun j hj => ?_⟩
  exact hno j hj _ (List.getElem?_eq_getElem (by omega))
theorem fstI_no {p : Int × Int → Bool} {es : Es} (hno : ∀ j, j < es.length → ∀ d, es[j]? = some d → p d = false) : fstI p es = -1 := by
  have hm : es.any p = false := List.any_eq_false.2 fun e he => by
    obtain ⟨j, hj, rfl⟩ := List.getElem_of_mem he
    simp [hno j hj _ (List.getElem?_eq_getElem hj)]
  simp [fstI, hm]
theorem no_step {p : Int × Int → Bool} {es : Es} {k : Nat} {e : Int × Int} (hno : ∀ j, j < k → ∀ d, es[j]? = some d → p d = false) (he : es[k]? = some e) (hp : p e = false) : ∀ j, j < k + 1 → ∀ d, es[j]? = some d → p d = false := fun j hj d hd => by
  rcases Nat.lt_succ_iff_lt_or_eq.1 hj with h | rfl
  · exact hno j h d hd
  · rw [he] at hd; injection hd with hd; subst hd; exact hp

/-- where DeleteFunc's loop stands: the front holds what is kept of the first k, what lies from place k on is as it was -/
def DelSt (p : Int × Int → Bool) (es : Es) (k m : Nat) (R : Es) : Prop :=
  m = ((es.take k).filter fun e => !p e).length ∧ m < k ∧ R.length = es.length ∧ R.take m = (es.take k).filter (fun e => !p e) ∧ ∀ j, k ≤ j → R[j]? = es[j]?
theorem DelSt.start {p : Int × Int → Bool} {es : Es} {k : Nat} {e : Int × Int} (hno : ∀ j, j < k → ∀ d, es[j]? = some d → p d = false) (he : es[k]? = some e) (hp : p e = true) : DelSt p es (k + 1) k es := by
  have hk : k < es.length := (List.getElem?_eq_some_iff.1 he).1
  have hf : (es.take k).filter (fun e => !p e) = es.take k := List.filter_eq_self.2 fun d hd => by
    obtain ⟨j, hj, rfl⟩ := List.getElem_of_mem hd
    have hj' : j < k := by simp at hj; omega
    rw [List.getElem_take]
    simp [hno j hj' _ (List.getElem?_eq_getElem (by omega))]
  have hf2 : (es.take (k + 1)).filter (fun e => !p e) = es.take k := by rw [filter_take_succ _ he, hf]; simp [hp]
  refine ⟨by rw [hf2]; simp; omega, by omega, rfl, by rw [hf2], fun _ _ => rfl⟩
theorem DelSt.skip {p : Int × Int → Bool} {es R : Es} {k m : Nat} {e : Int × Int} (h : DelSt p es k m R) (he : es[k]? = some e) (hp : p e = true) : DelSt p es (k + 1) m R := by
  obtain ⟨h1, h2, h3, h4, h5⟩ := h
  have hf2 : (es.take (k + 1)).filter (fun e => !p e) = (es.take k).filter (fun e => !p e) := by rw [filter_take_succ _ he]; simp [hp]
  exact ⟨by rw [hf2]; exact h1, by omega, h3, by rw [hf2]; exact h4, fun j hj => h5 j (by omega)⟩
theorem DelSt.keep {p : Int × Int → Bool} {es R : Es} {k m : Nat} {e : Int × Int} (h : DelSt p es k m R) (he : es[k]? = some e) (hp : p e = false) : DelSt p es (k + 1) (m + 1) (R.set m e) := by
  obtain ⟨h1, h2, h3, h4, h5⟩ := h
  have hk : k < es.length := (List.getElem?_eq_some_iff.1 he).1
  have hf2 : (es.take (k + 1)).filter (fun e => !p e) = (es.take k).filter (fun e => !p e) ++ [e] := by rw [filter_take_succ _ he]; simp [hp]
  refine ⟨by rw [hf2, List.length_append, ← h1]; rfl, by omega, by simpa using h3, ?_, fun j hj => ?_⟩
  · rw [hf2, ← h4, List.take_add_one, List.getElem?_set_self (by omega), List.take_set_of_le (by omega)]
    rfl
  · rw [List.getElem?_set_ne (by omega)]; exact h5 j (by omega)


end Go.Proofs.Ytbceoigmcomlbaa
