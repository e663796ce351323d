/- Contracts: sizes, copies and comparisons that the exact laws use, over graphs; l1Find. -/
import Derived.Test.YtekepbcmjfdcjaaDoorG2
import Derived.Test.YtekepbcmjfdcjaaDoorE0
import Derived.Test.YtekepbcmjfdcjaaDoorM
namespace Go.Proofs.YtekepbcmjfdcjaaDoor
open Go.RowKit

/-- what is left of a size -/
def szL (n : Nat) (left : Int) : Int := if left - n < 0 then -1 else left - n
theorem szL_ok {n : Nat} {left : Int} (h : ¬ szL n left < 0) : (n : Int) ≤ left ∧ 0 ≤ szL n left ∧ szL n left ≤ left := by
  unfold szL at *
  split at h
  · omega
  · rename_i h1; rw [if_neg h1]; omega
/-- the call returns a row of edges of its own -/
def RetE (t : TypeId) (es : List (Int × Int)) (w : World) (e : Ending) (w' : World) : Prop :=
  ∃ A c, e = .returned (.slice A es.length c) ∧ OwnE w' w.heap.size t A c es ∧ Nx w w'
/-- .. of numbers -/
def RetI (t : TypeId) (xs : List Int) (w : World) (e : Ending) (w' : World) : Prop :=
  ∃ A c, e = .returned (.slice A xs.length c) ∧ OwnI w' w.heap.size t A c xs ∧ Nx w w'

theorem infoE : (Tryd.prog.info? 41).map (fun i => (i.zero, i.size, i.bytes)) = some (some (.agg #[.int .i64 0, .int .i64 0]), 2, 16) := by kernel_rfl
theorem infoI : (Tryd.prog.info? 3).map (fun i => (i.zero, i.size, i.bytes)) = some (some (.int .i64 0), 1, 8) := by kernel_rfl

/-- the call returns a graph, its row its own -/
def RetG (t : TypeId) (n : Int) (es : List (Int × Int)) (w : World) (e : Ending) (w' : World) : Prop :=
  ∃ A c, e = .returned (.agg #[V n, .slice A es.length c]) ∧ OwnE w' w.heap.size t A c es ∧ Nx w w'

theorem pref_ne {α : Type} {xs ys : List α} {k : Nat} {a b : α} (ha : xs[k]? = some a) (hb : ys[k]? = some b) (h : a ≠ b) : xs ≠ ys := fun e => by
  subst e; rw [ha] at hb; injection hb with hb; exact h hb
theorem pref_step {α : Type} {xs ys : List α} {k : Nat} {a : α} (hp : ∀ j, j < k → xs[j]? = ys[j]?) (ha : xs[k]? = some a) (hb : ys[k]? = some a) : ∀ j, j < k + 1 → xs[j]? = ys[j]? := fun j hj => by
  rcases Nat.lt_succ_iff_lt_or_eq.1 hj with h | rfl
  · exact hp j h
  · rw [ha, hb]

set_option maxRecDepth 100000 in
set_option maxHeartbeats 1000000 in
theorem eqEdgeS_c (A A' : Option Addr) (c c' : Nat) (xs ys : List (Int × Int)) (w : World) (hx : EdgesAt w A xs) (hy : EdgesAt w A' ys) (hl : xs.length ≤ 1048576) (hl' : ys.length ≤ 1048576) :
    Calls Tryd.prog 23 #[.slice A xs.length c, .slice A' ys.length c'] w (RetV (.bool (decide (xs = ys))) w) := by
  by_cases hlen : xs.length = ys.length
  · have hne : ((xs.length : Int) != (ys.length : Int)) = false := by simp [hlen]
    have Hlen := Lib.hid hlen
    clear hlen
    go_enter Tryd.func23, Tryd.ntmps23
    go_wp2
    go_loopw [5] (fun i wr => ∃ k : Nat, k ≤ xs.length ∧ i = .int .i64 k ∧ Nx w wr ∧ ∀ j, j < k → xs[j]? = ys[j]?) (fun i _ => xs.length - (intOf i).toNat)
    case atStart => exact ⟨0, by omega, rfl, Nx.refl _, fun j hj => by omega⟩
    case round =>
      obtain ⟨k, hk, rfl, hn, he⟩ := hrel
      have He := Lib.hid he
      clear he
      by_cases hlt : k < xs.length
      · have hlt' : k < ys.length := by have := Hlen.out; omega
        obtain ⟨b, off, rfl, hb, hc⟩ := hx (by omega)
        obtain ⟨b', off', rfl, hb', hc'⟩ := hy (by omega)
        have h1 := hn.cell (p := ⟨b, off + k * 2, none⟩) hb (hc k hlt).1
        have h2 := hn.cell (p := ⟨b, off + k * 2 + 1, none⟩) hb (hc k hlt).2
        have h3 := hn.cell (p := ⟨b', off' + k * 2, none⟩) hb' (hc' k hlt').1
        have h4 := hn.cell (p := ⟨b', off' + k * 2 + 1, none⟩) hb' (hc' k hlt').2
        have hb2 : b < wr.heap.size := Nat.lt_of_lt_of_le hb hn.size
        have hb2' : b' < wr.heap.size := Nat.lt_of_lt_of_le hb' hn.size
        have ha : xs[k]? = some xs[k] := List.getElem?_eq_getElem hlt
        have hd : ys[k]? = some ys[k] := List.getElem?_eq_getElem hlt'
        generalize xs[k] = p at *
        generalize ys[k] = q at *
        obtain ⟨p1, p2⟩ := p
        obtain ⟨q1, q2⟩ := q
        have Ha := Lib.hid ha
        have Hd := Lib.hid hd
        clear hx hy hc hc' ha hd
        by_cases heq : p1 = q1 ∧ p2 = q2
        · have e1 : decide (p1 = q1 ∧ p2 = q2) = true := by simpa using heq
          have Heq := Lib.hid heq
          clear heq
          go_wp2
          (refine tail_quiet 8 (by kernel_rfl) (by kernel_rfl) (fun W2 gW2 => ?_); obtain ⟨hcW2, hfW2, hzW2⟩ := gW2.rules; simp only [List.take_succ_cons, List.take_zero, List.drop_succ_cons, List.drop_zero]; (repeat go_big_quiet_step (fail)); with_reducible refine wpQuiet_nil ?_)
          go_wp2_with (go_at_call 41; go_must (refine (eqEdge_c _ _ _ _ _).mono ?_; rintro e w3 ⟨rfl, hn3⟩; obtain ⟨hc3, hf3, hz3⟩ := hn3.rules))
          go_roundw
          case rel => exact ⟨k + 1, by omega, by go_num, (by repeat (first | exact Nx.refl _ | assumption | apply Nx.alloc | apply Nx.drew | apply Nx.drewN | (refine Nx.setCell ?_ (by first | (simp; done) | (simp; omega) | omega) _) | refine Nx.trans ?_ (by assumption))), pref_step He.out Ha.out (by rw [Hd.out, Heq.out.1, Heq.out.2])⟩
          case measure => simp [intOf]; omega
        · have e1 : decide (p1 = q1 ∧ p2 = q2) = false := by simpa using heq
          have Heq := Lib.hid heq
          clear heq
          go_wp2
          (refine tail_quiet 8 (by kernel_rfl) (by kernel_rfl) (fun W2 gW2 => ?_); obtain ⟨hcW2, hfW2, hzW2⟩ := gW2.rules; simp only [List.take_succ_cons, List.take_zero, List.drop_succ_cons, List.drop_zero]; (repeat go_big_quiet_step (fail)); with_reducible refine wpQuiet_nil ?_)
          go_wp2_with (go_at_call 41; go_must (refine (eqEdge_c _ _ _ _ _).mono ?_; rintro e w3 ⟨rfl, hn3⟩; obtain ⟨hc3, hf3, hz3⟩ := hn3.rules))
          go_ret
          exact RetV.bool (by
            have : xs ≠ ys := pref_ne Ha.out Hd.out (fun e => Heq.out (by simpa using e))
            simp [this]) (by repeat (first | exact Nx.refl _ | assumption | apply Nx.alloc | apply Nx.drew | apply Nx.drewN | (refine Nx.setCell ?_ (by first | (simp; done) | (simp; omega) | omega) _) | refine Nx.trans ?_ (by assumption)))
      · go_wp2
        go_ret
        exact RetV.bool (by
          have : xs = ys := pref_eq Hlen.out (fun j hj => He.out j (by have := Hlen.out; omega))
          simp [this]) (by repeat (first | exact Nx.refl _ | assumption | apply Nx.alloc | apply Nx.drew | apply Nx.drewN | (refine Nx.setCell ?_ (by first | (simp; done) | (simp; omega) | omega) _) | refine Nx.trans ?_ (by assumption)))
  · have hne : ((xs.length : Int) != (ys.length : Int)) = true := by simp; omega
    have Hlen := Lib.hid hlen
    clear hlen
    go_enter Tryd.func23, Tryd.ntmps23
    go_wp2
    go_ret
    exact RetV.bool (by
      have : xs ≠ ys := fun e => Hlen.out (by rw [e])
      simp [this]) (by repeat (first | exact Nx.refl _ | assumption | apply Nx.alloc | apply Nx.drew | apply Nx.drewN | (refine Nx.setCell ?_ (by first | (simp; done) | (simp; omega) | omega) _) | refine Nx.trans ?_ (by assumption)))

theorem eqGraph_c (n m : Int) (A A' : Option Addr) (c c' : Nat) (xs ys : List (Int × Int)) (w : World) (hx : EdgesAt w A xs) (hy : EdgesAt w A' ys) (hl : xs.length ≤ 1048576) (hl' : ys.length ≤ 1048576) :
    Calls Tryd.prog 7 #[.agg #[V n, .slice A xs.length c], .agg #[V m, .slice A' ys.length c']] w (RetV (.bool (decide (n = m ∧ xs = ys))) w) := by
  by_cases hnm : (n != m) = true
  · go_enter Tryd.func7, Tryd.ntmps7
    go_wp2
    go_ret
    exact RetV.bool (by simp at hnm; simp [hnm]) (by repeat (first | exact Nx.refl _ | assumption | apply Nx.alloc | apply Nx.drew | apply Nx.drewN | (refine Nx.setCell ?_ (by first | (simp; done) | (simp; omega) | omega) _) | refine Nx.trans ?_ (by assumption)))
  · have hnm : (n != m) = false := by simpa using hnm
    have e : decide (n = m ∧ xs = ys) = decide (xs = ys) := by simp at hnm; simp [hnm]
    by_cases h : xs = ys
    · have e1 : decide (xs = ys) = true := by simpa using h
      rw [e, e1]
      clear e h
      go_enter Tryd.func7, Tryd.ntmps7
      go_wp2_with (go_at_call 23; go_must (refine (eqEdgeS_c A A' c c' xs ys _ (hx.nx (by repeat (first | exact Nx.refl _ | assumption | apply Nx.alloc | apply Nx.drew | apply Nx.drewN | (refine Nx.setCell ?_ (by first | (simp; done) | (simp; omega) | omega) _) | refine Nx.trans ?_ (by assumption)))) (hy.nx (by repeat (first | exact Nx.refl _ | assumption | apply Nx.alloc | apply Nx.drew | apply Nx.drewN | (refine Nx.setCell ?_ (by first | (simp; done) | (simp; omega) | omega) _) | refine Nx.trans ?_ (by assumption)))) hl hl').mono ?_; rintro e w1 ⟨rfl, hn1⟩; obtain ⟨hc1, hf1, hz1⟩ := hn1.rules))
      go_ret
      exact RetV.bool rfl (by repeat (first | exact Nx.refl _ | assumption | apply Nx.alloc | apply Nx.drew | apply Nx.drewN | (refine Nx.setCell ?_ (by first | (simp; done) | (simp; omega) | omega) _) | refine Nx.trans ?_ (by assumption)))
    · have e1 : decide (xs = ys) = false := by simpa using h
      rw [e, e1]
      clear e h
      go_enter Tryd.func7, Tryd.ntmps7
      go_wp2_with (go_at_call 23; go_must (refine (eqEdgeS_c A A' c c' xs ys _ (hx.nx (by repeat (first | exact Nx.refl _ | assumption | apply Nx.alloc | apply Nx.drew | apply Nx.drewN | (refine Nx.setCell ?_ (by first | (simp; done) | (simp; omega) | omega) _) | refine Nx.trans ?_ (by assumption)))) (hy.nx (by repeat (first | exact Nx.refl _ | assumption | apply Nx.alloc | apply Nx.drew | apply Nx.drewN | (refine Nx.setCell ?_ (by first | (simp; done) | (simp; omega) | omega) _) | refine Nx.trans ?_ (by assumption)))) hl hl').mono ?_; rintro e w1 ⟨rfl, hn1⟩; obtain ⟨hc1, hf1, hz1⟩ := hn1.rules))
      go_ret
      exact RetV.bool rfl (by repeat (first | exact Nx.refl _ | assumption | apply Nx.alloc | apply Nx.drew | apply Nx.drewN | (refine Nx.setCell ?_ (by first | (simp; done) | (simp; omega) | omega) _) | refine Nx.trans ?_ (by assumption)))
end Go.Proofs.YtekepbcmjfdcjaaDoor
