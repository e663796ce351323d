/- Contract: l3Root of the reference. -/
import Derived.Test.YticjoichmcegnaaT5
namespace Go.Proofs.Yticjoichmcegnaa
open Go.RowKit set_option linter.unusedVariables false set_option linter.unusedSimpArgs false

/-- y is the root above x -/
inductive Up (P : List Int) : Int → Int → Prop
  | root {x : Int} : lk P x = -1 → Up P x x
  | step {x y : Int} : lk P x ≠ -1 → Up P (lk P x) y → Up P x y
theorem Up.only {P : List Int} {x y z : Int} (h : Up P x y) (k : Up P x z) : y = z := by
  induction h with
  | root h =>
    cases k with
    | root _ => rfl
    | step h2 _ => exact absurd h h2
  | step h _ ih =>
    cases k with
    | root h2 => exact absurd h2 h
    | step _ k => exact ih k
theorem Up.end_ {P : List Int} {x y : Int} (h : Up P x y) : lk P y = -1 := by
  induction h with
  | root h => exact h
  | step _ _ ih => exact ih
/-- what l3Root returns -/
def Rooted (P : List Int) (n : Nat) (x : Int) (w : World) (e : Ending) (w' : World) : Prop := ∃ y : Nat, e = .returned (V y) ∧ Up P x y ∧ y < n ∧ Nx w w'

set_option maxRecDepth 100000 in
set_option maxHeartbeats 2000000 in
theorem l3Root_c (A B C : Option Addr) (n ca m cb l cc : Nat) (s : SS) (x : Nat) (w : World) (hA : IntsAt w A s.P) (hi : Inv n s) (hn : n ≤ 16) (hx : x < n) :
    Calls Try.prog 71 #[St A n ca B m cb C l cc, V x] w (Rooted s.P n x w) := by
  have HI := Lib.hid hi
  clear hi
  go_enter Try.func71, Try.ntmps71
  go_wp2_with fail
  generalize hW1 : World.alloc _ _ = W1
  have gW1 : Nx w W1 := by subst hW1; exact (by repeat (first | exact Nx.refl _ | assumption | apply Nx.alloc | apply Nx.drew | apply Nx.drewN | (refine Nx.setCell ?_ (by first | (simp; done) | (simp; omega) | omega) _) | refine Nx.trans ?_ (by assumption)))
  have sW1 : W1.heap.size = w.heap.size + 1 := by subst hW1; simp
  have X0 : Bx W1 (w.heap.size) 37 [.slice A n ca, .slice B m cb, .slice C l cc] := by subst hW1; have h := Bx.alloc w 37 [.slice A n ca, .slice B m cb, .slice C l cc]; simpa using h
  have X0_0 := X0.cell (j := 0) rfl
  have X0_1 := X0.cell (j := 1) rfl
  have X0_2 := X0.cell (j := 2) rfl
  have X0_z := X0.lt
  have HsW1 := Lib.hid sW1
  have lW1 : w.heap.size + 1 ≤ W1.heap.size := by omega
  clear hW1 sW1
  replace hA := hA.nx gW1
  go_loopg [1] 17 (fun gk v wr => ∃ y : Nat, v = V y ∧ y < n ∧ (∀ z, Up s.P y z → Up s.P x z) ∧ (17 - lk s.Z y).toNat ≤ gk ∧ Nx W1 wr)
  case atStart => exact ⟨x, rfl, hx, fun z h => h, by have := HI.out.one x (by omega) (by omega); omega, Nx.refl _⟩
  case round =>
    obtain ⟨y, rfl, hy, hup, hm, hn1⟩ := hrel
    replace X0 := X0.nx hn1
    replace X0_0 := X0.cell (j := 0) rfl
    replace X0_1 := X0.cell (j := 1) rfl
    replace X0_2 := X0.cell (j := 2) rfl
    replace X0_z := X0.lt
    have Hup := Lib.hid hup
    clear hup
    obtain ⟨b, off, rfl, hb, h1⟩ := (hA.nx hn1).atLk (x := y) (by have := HI.out.lp; omega)
    have hpar := HI.out.par y (by omega) (by omega)
    have hone := HI.out.one y (by omega) (by omega)
    have htop := HI.out.top y (by omega) (by omega)
    obtain ⟨p, hp⟩ : ∃ p, lk s.P (y : Int) = p := ⟨_, rfl⟩
    rw [hp] at h1 hpar
    have Hp := Lib.hid hp
    clear hp
    by_cases hr : p = -1
    · subst hr
      clear hpar
      go_wp2
      go_ret
      exact ⟨y, rfl, Hup.out y (.root Hp.out), hy, gW1.trans hn1⟩
    · obtain ⟨p0, p1, p2⟩ : 0 ≤ p ∧ p < n ∧ 2 * lk s.Z y ≤ lk s.Z p := by rcases hpar with h | h; exact absurd h hr; exact h
      obtain ⟨p, rfl⟩ := Int.eq_ofNat_of_zero_le p0
      have htop2 := HI.out.top p (by omega) (by omega)
      have Hr := Lib.hid hr
      clear hpar hr
      go_wp2
      go_roundg (gk - 1)
      case measure => omega
      case rel => exact ⟨p, rfl, by omega, fun z h => Hup.out z (.step (by rw [Hp.out]; exact Hr.out) (by rw [Hp.out]; exact h)), by omega, hn1⟩

end Go.Proofs.Yticjoichmcegnaa
