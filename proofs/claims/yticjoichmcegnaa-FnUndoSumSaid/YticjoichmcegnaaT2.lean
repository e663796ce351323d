/- Contracts: isRoot, isAbove of sets; slices.Equal of numbers. -/
import Derived.Test.YticjoichmcegnaaT1
import Derived.Test.YticjoichmcegnaaS1
import Derived.Test.YticjoichmcegnaaB
import Derived.Test.YticjoichmcegnaaZ
import Derived.Deep.RegionHeld3
import Derived.BigRegion
namespace Go.Proofs.Yticjoichmcegnaa
open Go.RowKit set_option linter.unusedVariables false set_option linter.unusedSimpArgs false

theorem IntsAt.atLk {w : World} {A : Option Addr} {L : List Int} (h : IntsAt w A L) {x : Nat} (hx : x < L.length) : ∃ b off, A = some ⟨b, off, none⟩ ∧ b < w.heap.size ∧ w.cell? ⟨b, off + x, none⟩ = some (V (lk L (x : Int))) := by
  have e : L[x]? = some (lk L (x : Int)) := by simp [lk, hx]
  exact h.rd e

set_option maxRecDepth 100000 in
set_option maxHeartbeats 2000000 in
theorem isRoot_c (A B C : Option Addr) (n ca m cb l cc : Nat) (P : List Int) (x : Int) (w : World) (hA : IntsAt w A P) (hn : P.length = n) (hl : n ≤ 1048576) :
    Calls Try.prog 147 #[St A n ca B m cb C l cc, V x] w (RetV (.bool (isRt P x)) w) := by
  have Hn := Lib.hid hn
  clear hn
  by_cases h0 : 0 ≤ x
  · obtain ⟨x, rfl⟩ := Int.eq_ofNat_of_zero_le h0
    by_cases h1 : x < n
    · obtain ⟨b, off, rfl, hb, hc⟩ := hA.atLk (x := x) (by have := Hn.out; omega)
      have hr : isRt P (x : Int) = (lk P (x : Int) == -1) := by
        have := Hn.out
        rw [Bool.eq_iff_iff, isRt_iff]; simp; omega
      rw [hr]
      generalize lk P (x : Int) = p at *
      clear hr hA
      go_enter Try.func147, Try.ntmps147
      go_wp2
      all_goals go_ret
      all_goals exact RetV.bool (by simp_all) (by repeat (first | exact Nx.refl _ | assumption | apply Nx.alloc | apply Nx.drew | apply Nx.drewN | (refine Nx.setCell ?_ (by first | (simp; done) | (simp; omega) | omega) _) | refine Nx.trans ?_ (by assumption)))
    · have hr : isRt P (x : Int) = false := by
        have := Hn.out
        rw [Bool.eq_false_iff]; intro h; have := isRt_iff.1 h; omega
      rw [hr]
      clear hr hA
      go_enter Try.func147, Try.ntmps147
      go_wp2
      go_ret
      exact RetV.bool rfl (by repeat (first | exact Nx.refl _ | assumption | apply Nx.alloc | apply Nx.drew | apply Nx.drewN | (refine Nx.setCell ?_ (by first | (simp; done) | (simp; omega) | omega) _) | refine Nx.trans ?_ (by assumption)))
  · have hr : isRt P x = false := by rw [Bool.eq_false_iff]; intro h; have := isRt_iff.1 h; omega
    rw [hr]
    clear hr hA
    go_enter Try.func147, Try.ntmps147
    go_wp2
    go_ret
    exact RetV.bool rfl (by repeat (first | exact Nx.refl _ | assumption | apply Nx.alloc | apply Nx.drew | apply Nx.drewN | (refine Nx.setCell ?_ (by first | (simp; done) | (simp; omega) | omega) _) | refine Nx.trans ?_ (by assumption)))

set_option maxRecDepth 100000 in
set_option maxHeartbeats 4000000 in
theorem isAbove_c (A B C : Option Addr) (n ca m cb l cc : Nat) (Z : List Int) (x y : Nat) (w : World) (hB : IntsAt w B Z) (hm : Z.length = m) (hl : m ≤ 1048576) (hx : x < m) (hy : y < m) :
    Calls Try.prog 148 #[St A n ca B m cb C l cc, V x, V y] w (RetV (.bool (isAb Z x y)) w) := by
  obtain ⟨b, off, rfl, hb, h1⟩ := hB.atLk (x := x) (by omega)
  obtain ⟨b', off', hB', hb', h2⟩ := hB.atLk (x := y) (by omega)
  injection hB' with hB'
  injection hB' with hB1 hB2
  subst hB1 hB2
  have hr : isAb Z (x : Int) (y : Int) = (decide (lk Z (y : Int) < lk Z (x : Int)) || (decide (lk Z (x : Int) = lk Z (y : Int)) && decide ((x : Int) < (y : Int)))) := rfl
  rw [hr]
  generalize lk Z (x : Int) = p at *
  generalize lk Z (y : Int) = q at *
  clear hr hB hm
  by_cases e1 : q < p
  · have d1 : decide (q < p) = true := by simpa using e1
    go_enter Try.func148, Try.ntmps148
    go_wp2_with fail
    generalize hW1 : World.alloc _ _ = W1
    have gW1 : Nx w W1 := by subst hW1; exact (by repeat (first | exact Nx.refl _ | assumption | apply Nx.alloc | apply Nx.drew | apply Nx.drewN | (refine Nx.setCell ?_ (by first | (simp; done) | (simp; omega) | omega) _) | refine Nx.trans ?_ (by assumption)))
    have sW1 : W1.heap.size = w.heap.size + 1 := by subst hW1; simp
    have X0 : Bx W1 (w.heap.size) 37 [.slice A n ca, .slice (some ⟨b, off, none⟩) m cb, .slice C l cc] := by subst hW1; have h := Bx.alloc w 37 [.slice A n ca, .slice (some ⟨b, off, none⟩) m cb, .slice C l cc]; simpa using h
    have X0_0 := X0.cell (j := 0) rfl
    have X0_1 := X0.cell (j := 1) rfl
    have X0_2 := X0.cell (j := 2) rfl
    have X0_z := X0.lt
    have HsW1 := Lib.hid sW1
    have lW1 : w.heap.size + 1 ≤ W1.heap.size := by omega
    clear hW1 sW1
    replace h1 := gW1.cell hb h1
    replace h2 := gW1.cell hb h2
    replace hb := Nat.lt_of_lt_of_le hb gW1.size
    go_quiet (fail)
    go_wp2
    go_ret
    exact RetV.bool (by simp [e1]) (gW1.drewN _)
  · have d1 : decide (q < p) = false := by simpa using e1
    by_cases e2 : p = q
    · have d2 : (p == q) = true := by simp [e2]
      by_cases e3 : x < y
      · have d3 : decide ((x : Int) < (y : Int)) = true := by simp; omega
        have E2 := Lib.hid e2
        clear e2
        go_enter Try.func148, Try.ntmps148
        go_wp2_with fail
        generalize hW1 : World.alloc _ _ = W1
        have gW1 : Nx w W1 := by subst hW1; exact (by repeat (first | exact Nx.refl _ | assumption | apply Nx.alloc | apply Nx.drew | apply Nx.drewN | (refine Nx.setCell ?_ (by first | (simp; done) | (simp; omega) | omega) _) | refine Nx.trans ?_ (by assumption)))
        have sW1 : W1.heap.size = w.heap.size + 1 := by subst hW1; simp
        have X0 : Bx W1 (w.heap.size) 37 [.slice A n ca, .slice (some ⟨b, off, none⟩) m cb, .slice C l cc] := by subst hW1; have h := Bx.alloc w 37 [.slice A n ca, .slice (some ⟨b, off, none⟩) m cb, .slice C l cc]; simpa using h
        have X0_0 := X0.cell (j := 0) rfl
        have X0_1 := X0.cell (j := 1) rfl
        have X0_2 := X0.cell (j := 2) rfl
        have X0_z := X0.lt
        have HsW1 := Lib.hid sW1
        have lW1 : w.heap.size + 1 ≤ W1.heap.size := by omega
        clear hW1 sW1
        replace h1 := gW1.cell hb h1
        replace h2 := gW1.cell hb h2
        replace hb := Nat.lt_of_lt_of_le hb gW1.size
        go_quiet (fail)
        go_wp2
        go_ret
        exact RetV.bool (by simp [E2.out]; omega) (gW1.drewN _)
      · have d3 : decide ((x : Int) < (y : Int)) = false := by simp; omega
        have E2 := Lib.hid e2
        clear e2
        go_enter Try.func148, Try.ntmps148
        go_wp2_with fail
        generalize hW1 : World.alloc _ _ = W1
        have gW1 : Nx w W1 := by subst hW1; exact (by repeat (first | exact Nx.refl _ | assumption | apply Nx.alloc | apply Nx.drew | apply Nx.drewN | (refine Nx.setCell ?_ (by first | (simp; done) | (simp; omega) | omega) _) | refine Nx.trans ?_ (by assumption)))
        have sW1 : W1.heap.size = w.heap.size + 1 := by subst hW1; simp
        have X0 : Bx W1 (w.heap.size) 37 [.slice A n ca, .slice (some ⟨b, off, none⟩) m cb, .slice C l cc] := by subst hW1; have h := Bx.alloc w 37 [.slice A n ca, .slice (some ⟨b, off, none⟩) m cb, .slice C l cc]; simpa using h
        have X0_0 := X0.cell (j := 0) rfl
        have X0_1 := X0.cell (j := 1) rfl
        have X0_2 := X0.cell (j := 2) rfl
        have X0_z := X0.lt
        have HsW1 := Lib.hid sW1
        have lW1 : w.heap.size + 1 ≤ W1.heap.size := by omega
        clear hW1 sW1
        replace h1 := gW1.cell hb h1
        replace h2 := gW1.cell hb h2
        replace hb := Nat.lt_of_lt_of_le hb gW1.size
        go_quiet (fail)
        go_wp2
        go_ret
        exact RetV.bool (by simp [E2.out]; omega) (gW1.drewN _)
    · have d2 : (p == q) = false := by simpa using e2
      go_enter Try.func148, Try.ntmps148
      go_wp2_with fail
      generalize hW1 : World.alloc _ _ = W1
      have gW1 : Nx w W1 := by subst hW1; exact (by repeat (first | exact Nx.refl _ | assumption | apply Nx.alloc | apply Nx.drew | apply Nx.drewN | (refine Nx.setCell ?_ (by first | (simp; done) | (simp; omega) | omega) _) | refine Nx.trans ?_ (by assumption)))
      have sW1 : W1.heap.size = w.heap.size + 1 := by subst hW1; simp
      have X0 : Bx W1 (w.heap.size) 37 [.slice A n ca, .slice (some ⟨b, off, none⟩) m cb, .slice C l cc] := by subst hW1; have h := Bx.alloc w 37 [.slice A n ca, .slice (some ⟨b, off, none⟩) m cb, .slice C l cc]; simpa using h
      have X0_0 := X0.cell (j := 0) rfl
      have X0_1 := X0.cell (j := 1) rfl
      have X0_2 := X0.cell (j := 2) rfl
      have X0_z := X0.lt
      have HsW1 := Lib.hid sW1
      have lW1 : w.heap.size + 1 ≤ W1.heap.size := by omega
      clear hW1 sW1
      replace h1 := gW1.cell hb h1
      replace h2 := gW1.cell hb h2
      replace hb := Nat.lt_of_lt_of_le hb gW1.size
      go_quiet (fail)
      go_wp2
      go_ret
      exact RetV.bool (by simp [e2]; omega) (gW1.drewN _)

set_option maxRecDepth 100000 in
set_option maxHeartbeats 1000000 in
theorem equalI_c (A A' : Option Addr) (c c' : Nat) (xs ys : List Int) (w : World) (hx : IntsAt w A xs) (hy : IntsAt w A' ys) (hl : xs.length ≤ 1048576) (hl' : ys.length ≤ 1048576) :
    Calls Try.prog 69 #[.slice A xs.length c, .slice A' ys.length c'] w (RetV (.bool (decide (xs = ys))) w) := by
  by_cases hlen : xs.length = ys.length
  · have hne : ((xs.length : Int) != (ys.length : Int)) = false := by simp [hlen]
    have Hlen := Lib.hid hlen
    have Hlt := Lib.hid (show ∀ k, k < xs.length → k < ys.length from fun k h => by omega)
    clear hlen
    go_enter Try.func69, Try.ntmps69
    go_wp2
    go_loopg [13] xs.length (fun gk i wr => ∃ k : Nat, k + gk = xs.length ∧ i = .int .i64 k ∧ Nx w wr ∧ ∀ j, j < k → xs[j]? = ys[j]?)
    case atStart => exact ⟨0, by omega, rfl, Nx.refl _, fun j hj => by omega⟩
    case round =>
      obtain ⟨k, hk, rfl, hn, he⟩ := hrel
      have He := Lib.hid he
      clear he
      by_cases hlt : k < xs.length
      · have hlt' := Hlt.out k hlt
        obtain ⟨p, hp⟩ : ∃ p, xs[k]? = some p := ⟨_, List.getElem?_eq_getElem hlt⟩
        obtain ⟨q, hq⟩ : ∃ q, ys[k]? = some q := ⟨_, List.getElem?_eq_getElem hlt'⟩
        obtain ⟨b, off, rfl, hb, r1⟩ := (hx.nx hn).rd hp
        obtain ⟨b', off', rfl, hb', r2⟩ := (hy.nx hn).rd hq
        have Hp := Lib.hid hp
        have Hq := Lib.hid hq
        clear hp hq
        by_cases e : (p != q) = true
        · go_wp2_with fail
          go_quiet (fail)
          go_wp2
          go_ret
          exact RetV.bool (by
            have : xs ≠ ys := pref_ne Hp.out Hq.out (by simpa using e)
            simp [this]) (hn.drewN _)
        · have e : (p != q) = false := by simpa using e
          go_wp2_with fail
          go_quiet (fail)
          go_wp2
          go_roundg (gk - 1)
          case measure => omega
          case rel => exact ⟨k + 1, by omega, by go_num, hn.drewN _, pref_step He.out Hp.out (by rw [Hq.out]; simp at e; rw [e])⟩
      · go_wp2
        go_ret
        exact RetV.bool (by
          have : xs = ys := pref_eq Hlen.out (fun j hj => He.out j (by have := Hlen.out; omega))
          simp [this]) hn
  · have hne : ((xs.length : Int) != (ys.length : Int)) = true := by simp; omega
    have Hlen := Lib.hid hlen
    clear hlen
    go_enter Try.func69, Try.ntmps69
    go_wp2
    go_ret
    exact RetV.bool (by
      have : xs ≠ ys := fun e => Hlen.out (by rw [e])
      simp [this]) (by repeat (first | exact Nx.refl _ | assumption | apply Nx.alloc | apply Nx.drew | apply Nx.drewN | (refine Nx.setCell ?_ (by first | (simp; done) | (simp; omega) | omega) _) | refine Nx.trans ?_ (by assumption)))
end Go.Proofs.Yticjoichmcegnaa
