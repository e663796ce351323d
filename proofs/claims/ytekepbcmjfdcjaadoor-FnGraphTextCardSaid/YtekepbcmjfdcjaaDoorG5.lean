/- Contracts: equality of graphs. -/
import Derived.Test.YtekepbcmjfdcjaaDoorG4
namespace Go.Proofs.YtekepbcmjfdcjaaDoor
open Go.RowKit

set_option maxRecDepth 100000 in
set_option maxHeartbeats 1000000 in
theorem equalE_c (A A' : Option Addr) (c c' : Nat) (xs ys : List (Int × Int)) (w : World) (hx : EdgesAt w A xs) (hy : EdgesAt w A' ys) (hl : xs.length ≤ 1048576) (hl' : ys.length ≤ 1048576) :
    Calls Tryd.prog 33 #[.slice A xs.length c, .slice A' ys.length c'] w (RetV (.bool (decide (xs = ys))) w) := by
  by_cases hlen : xs.length = ys.length
  · have hne : ((xs.length : Int) != (ys.length : Int)) = false := by simp [hlen]
    have Hlen := Lib.hid hlen
    clear hlen
    go_enter Tryd.func33, Tryd.ntmps33
    go_wp2
    go_loopw [13] (fun i wr => ∃ k : Nat, k ≤ xs.length ∧ i = .int .i64 k ∧ Nx w wr ∧ ∀ j, j < k → xs[j]? = ys[j]?) (fun i _ => xs.length - (intOf i).toNat)
    case atStart => exact ⟨0, by omega, rfl, Nx.refl _, fun j hj => by omega⟩
    case round =>
      obtain ⟨k, hk, rfl, hn, he⟩ := hrel
      have He := Lib.hid he
      clear he
      by_cases hlt : k < xs.length
      · have hlt' : k < ys.length := by have := Hlen.out; omega
        obtain ⟨b, off, rfl, hb, hc⟩ := hx (by omega)
        obtain ⟨b', off', rfl, hb', hc'⟩ := hy (by omega)
        have h1 := hn.cell (p := ⟨b, off + k * 2, none⟩) hb (hc k hlt).1
        have h2 := hn.cell (p := ⟨b, off + k * 2 + 1, none⟩) hb (hc k hlt).2
        have h3 := hn.cell (p := ⟨b', off' + k * 2, none⟩) hb' (hc' k hlt').1
        have h4 := hn.cell (p := ⟨b', off' + k * 2 + 1, none⟩) hb' (hc' k hlt').2
        have ha : xs[k]? = some xs[k] := List.getElem?_eq_getElem hlt
        have hd : ys[k]? = some ys[k] := List.getElem?_eq_getElem hlt'
        generalize xs[k] = p at *
        generalize ys[k] = q at *
        obtain ⟨p1, p2⟩ := p
        obtain ⟨q1, q2⟩ := q
        have Ha := Lib.hid ha
        have Hd := Lib.hid hd
        clear hx hy hc hc' ha hd
        by_cases e1 : (p1 == q1) = true
        · by_cases e2 : (p2 == q2) = true
          · go_wp2
            go_quiet (fail)
            go_wp2
            go_roundw
            case rel => exact ⟨k + 1, by omega, by go_num, (by repeat (first | exact Nx.refl _ | assumption | apply Nx.alloc | apply Nx.drew | apply Nx.drewN | (refine Nx.setCell ?_ (by first | (simp; done) | (simp; omega) | omega) _) | refine Nx.trans ?_ (by assumption))), pref_step He.out Ha.out (by rw [Hd.out]; simp at e1 e2; rw [e1, e2])⟩
            case measure => simp [intOf]; omega
          · have e2 : (p2 == q2) = false := by simpa using e2
            go_wp2
            go_quiet (fail)
            go_wp2
            go_ret
            exact RetV.bool (by
              have : xs ≠ ys := pref_ne Ha.out Hd.out (fun e => by simp at e e2; exact e2 e.2)
              simp [this]) (by repeat (first | exact Nx.refl _ | assumption | apply Nx.alloc | apply Nx.drew | apply Nx.drewN | (refine Nx.setCell ?_ (by first | (simp; done) | (simp; omega) | omega) _) | refine Nx.trans ?_ (by assumption)))
        · have e1 : (p1 == q1) = false := by simpa using e1
          go_wp2
          go_quiet (fail)
          go_wp2
          go_ret
          exact RetV.bool (by
            have : xs ≠ ys := pref_ne Ha.out Hd.out (fun e => by simp at e e1; exact e1 e.1)
            simp [this]) (by repeat (first | exact Nx.refl _ | assumption | apply Nx.alloc | apply Nx.drew | apply Nx.drewN | (refine Nx.setCell ?_ (by first | (simp; done) | (simp; omega) | omega) _) | refine Nx.trans ?_ (by assumption)))
      · go_wp2
        go_ret
        exact RetV.bool (by
          have : xs = ys := pref_eq Hlen.out (fun j hj => He.out j (by have := Hlen.out; omega))
          simp [this]) (by repeat (first | exact Nx.refl _ | assumption | apply Nx.alloc | apply Nx.drew | apply Nx.drewN | (refine Nx.setCell ?_ (by first | (simp; done) | (simp; omega) | omega) _) | refine Nx.trans ?_ (by assumption)))
  · have hne : ((xs.length : Int) != (ys.length : Int)) = true := by simp; omega
    have Hlen := Lib.hid hlen
    clear hlen
    go_enter Tryd.func33, Tryd.ntmps33
    go_wp2
    go_ret
    exact RetV.bool (by
      have : xs ≠ ys := fun e => Hlen.out (by rw [e])
      simp [this]) (by repeat (first | exact Nx.refl _ | assumption | apply Nx.alloc | apply Nx.drew | apply Nx.drewN | (refine Nx.setCell ?_ (by first | (simp; done) | (simp; omega) | omega) _) | refine Nx.trans ?_ (by assumption)))

theorem iGraphSame_c (n m : Int) (A A' : Option Addr) (c c' : Nat) (xs ys : List (Int × Int)) (w : World) (hx : EdgesAt w A xs) (hy : EdgesAt w A' ys) (hl : xs.length ≤ 1048576) (hl' : ys.length ≤ 1048576) :
    Calls Tryd.prog 15 #[.agg #[V n, .slice A xs.length c], .agg #[V m, .slice A' ys.length c']] w (RetV (.bool (decide (n = m ∧ xs = ys))) w) := by
  by_cases hnm : (n == m) = true
  · have e : decide (n = m ∧ xs = ys) = decide (xs = ys) := by simp at hnm; simp [hnm]
    rw [e]
    clear e
    go_enter Tryd.func15, Tryd.ntmps15
    go_wp2_with (go_at_call 33; go_must (refine (equalE_c A A' c c' xs ys _ (hx.nx (by repeat (first | exact Nx.refl _ | assumption | apply Nx.alloc | apply Nx.drew | apply Nx.drewN | (refine Nx.setCell ?_ (by first | (simp; done) | (simp; omega) | omega) _) | refine Nx.trans ?_ (by assumption)))) (hy.nx (by repeat (first | exact Nx.refl _ | assumption | apply Nx.alloc | apply Nx.drew | apply Nx.drewN | (refine Nx.setCell ?_ (by first | (simp; done) | (simp; omega) | omega) _) | refine Nx.trans ?_ (by assumption)))) hl hl').mono ?_; rintro e w1 ⟨rfl, hn1⟩; obtain ⟨hc1, hf1, hz1⟩ := hn1.rules))
    go_ret
    exact RetV.bool rfl (by repeat (first | exact Nx.refl _ | assumption | apply Nx.alloc | apply Nx.drew | apply Nx.drewN | (refine Nx.setCell ?_ (by first | (simp; done) | (simp; omega) | omega) _) | refine Nx.trans ?_ (by assumption)))
  · have hnm : (n == m) = false := by simpa using hnm
    go_enter Tryd.func15, Tryd.ntmps15
    go_wp2
    go_ret
    exact RetV.bool (by simp at hnm; simp [hnm]) (by repeat (first | exact Nx.refl _ | assumption | apply Nx.alloc | apply Nx.drew | apply Nx.drewN | (refine Nx.setCell ?_ (by first | (simp; done) | (simp; omega) | omega) _) | refine Nx.trans ?_ (by assumption)))

end Go.Proofs.YtekepbcmjfdcjaaDoor
