/- Contract: slices.Clone over edges; words for compacted rows (for seats without readers). -/
import Derived.Test.YtjchabeiaajgiaaM2
import Derived.Test.YtjchabeiaajgiaaL
import Derived.Test.YtjchabeiaajgiaaG3
import Derived.Test.YtjchabeiaajgiaaH
import Derived.Deep.LoopGhost
import Derived.Lib.SliceRun
namespace Go.Proofs.Ytjchabeiaajgiaa
open Go.RowKit set_option linter.unusedVariables false set_option linter.unusedSimpArgs false

set_option maxRecDepth 100000 in
set_option maxHeartbeats 1000000 in
theorem cloneE_c (A : Option Addr) (c : Nat) (es : List (Int × Int)) (w : World) (hx : EdgesAt w A es) (hl : es.length ≤ 1048576) :
    Calls Try.prog 103 #[.slice A es.length c] w (RetE 36 es w) := by
  obtain ⟨i0, hi, hz0, hz1, hz2⟩ := info_parts infoE
  have Hi := Lib.hid hi
  have Hz0 := Lib.hid hz0
  have Hz1 := Lib.hid hz1
  have Hz2 := Lib.hid hz2
  clear hi hz0 hz1 hz2
  have q22 : ∀ (w : World) (a : Option Addr) (n c n' c' : Nat), (binOp .eql 24 (.slice a n c) (.slice none n' c')).run Try.prog w = .ok (.bool a.isNone) w := fun w a n c n' c' => Lib.run_eql_slice_nil w _ _ a n c n' c' Try.underlying24
  cases A with
  | none =>
    have h0 : es = [] := by
      cases es with
      | nil => rfl
      | cons e es => obtain ⟨b, off, h, _⟩ := hx (by simp); cases h
    subst h0
    go_enter Try.func103, Try.ntmps103
    go_wp2
    go_ret
    exact ⟨none, 0, rfl, OwnE.nil _ _ _, Nx.refl _⟩
  | some a =>
    go_enter Try.func103, Try.ntmps103
    go_wp2_with (at_builtin; go_must (refine appEs (base := w.heap.size) (t := 36) (c' := c) [] es rfl rfl Try.underlying24 Hi.out Hz0.out Hz1.out Hz2.out rfl rfl (OwnE.empty w w.heap.size 36 (Nat.le_refl _)) rfl (hx.nx (by repeat (first | exact Nx.refl _ | assumption | apply Nx.alloc | apply Nx.drew | apply Nx.drewN | (refine Nx.setCell ?_ (by first | (simp; done) | (simp; omega) | omega) _) | refine Nx.trans ?_ (by assumption)))) (by simp; omega) (by simp) ?_; intro A2 c2 w3 hown3 hnx3 hgr3 hbl3))
    go_ret
    exact ⟨A2, c2, by simp, by simpa using hown3, hnx3 w (Nat.le_refl _) (by repeat (first | exact Nx.refl _ | assumption | apply Nx.alloc | apply Nx.drew | apply Nx.drewN | (refine Nx.setCell ?_ (by first | (simp; done) | (simp; omega) | omega) _) | refine Nx.trans ?_ (by assumption)))⟩
/-- the row holds its kept part; the slice is cut to it -/
def Kept (t : TypeId) (base : Nat) (A : Option Addr) (c : Nat) (ys : Es) (w : World) (e : Ending) (w' : World) : Prop :=
  e = .returned (.slice A ys.length c) ∧ OwnE w' base t A c ys ∧ w.grownBy w' (blk A)

theorem zeroE : ∀ w, (zeroValue 36).run Try.prog w = .ok (.agg #[V 0, V 0]) w := Try.zeroValue36
end Go.Proofs.Ytjchabeiaajgiaa
