/- Contracts: rows of Steps (printed by gent.py from the texts on rows of Edges). -/
import Derived.Test.YticjoichmcegnaaH
namespace Go.Proofs.Yticjoichmcegnaa
open Go.RowKit

theorem eqStep_c (a1 a2 b1 b2 : Int) (w : World) : Calls Try.prog 130 #[Ed a1 a2, Ed b1 b2] w (RetV (.bool (decide (a1 = b1 ∧ a2 = b2))) w) := by
  go_enter Try.func130, Try.ntmps130
  go_wp2
  all_goals go_ret
  all_goals exact RetV.bool (by simp_all) (by repeat (first | exact Nx.refl _ | assumption | apply Nx.alloc | apply Nx.drew | apply Nx.drewN | (refine Nx.setCell ?_ (by first | (simp; done) | (simp; omega) | omega) _) | refine Nx.trans ?_ (by assumption)))

set_option maxRecDepth 100000 in
set_option maxHeartbeats 1000000 in
theorem eqStepS_c (A A' : Option Addr) (c c' : Nat) (xs ys : List (Int × Int)) (w : World) (hx : EdgesAt w A xs) (hy : EdgesAt w A' ys) (hl : xs.length ≤ 1048576) (hl' : ys.length ≤ 1048576) :
    Calls Try.prog 79 #[.slice A xs.length c, .slice A' ys.length c'] w (RetV (.bool (decide (xs = ys))) w) := by
  by_cases hlen : xs.length = ys.length
  · have hne : ((xs.length : Int) != (ys.length : Int)) = false := by simp [hlen]
    have Hlen := Lib.hid hlen
    clear hlen
    go_enter Try.func79, Try.ntmps79
    go_wp2
    go_loopw [5] (fun i wr => ∃ k : Nat, k ≤ xs.length ∧ i = .int .i64 k ∧ Nx w wr ∧ ∀ j, j < k → xs[j]? = ys[j]?) (fun i _ => xs.length - (intOf i).toNat)
    case atStart => exact ⟨0, by omega, rfl, Nx.refl _, fun j hj => by omega⟩
    case round =>
      obtain ⟨k, hk, rfl, hn, he⟩ := hrel
      have He := Lib.hid he
      clear he
      by_cases hlt : k < xs.length
      · have hlt' : k < ys.length := by have := Hlen.out; omega
        obtain ⟨b, off, rfl, hb, hc⟩ := hx (by omega)
        obtain ⟨b', off', rfl, hb', hc'⟩ := hy (by omega)
        have h1 := hn.cell (p := ⟨b, off + k * 2, none⟩) hb (hc k hlt).1
        have h2 := hn.cell (p := ⟨b, off + k * 2 + 1, none⟩) hb (hc k hlt).2
        have h3 := hn.cell (p := ⟨b', off' + k * 2, none⟩) hb' (hc' k hlt').1
        have h4 := hn.cell (p := ⟨b', off' + k * 2 + 1, none⟩) hb' (hc' k hlt').2
        have hb2 : b < wr.heap.size := Nat.lt_of_lt_of_le hb hn.size
        have hb2' : b' < wr.heap.size := Nat.lt_of_lt_of_le hb' hn.size
        have ha : xs[k]? = some xs[k] := List.getElem?_eq_getElem hlt
        have hd : ys[k]? = some ys[k] := List.getElem?_eq_getElem hlt'
        generalize xs[k] = p at *
        generalize ys[k] = q at *
        obtain ⟨p1, p2⟩ := p
        obtain ⟨q1, q2⟩ := q
        have Ha := Lib.hid ha
        have Hd := Lib.hid hd
        clear hx hy hc hc' ha hd
        by_cases heq : p1 = q1 ∧ p2 = q2
        · have e1 : decide (p1 = q1 ∧ p2 = q2) = true := by simpa using heq
          have Heq := Lib.hid heq
          clear heq
          go_wp2
          (refine tail_quiet 8 (by kernel_rfl) (by kernel_rfl) (fun W2 gW2 => ?_); obtain ⟨hcW2, hfW2, hzW2⟩ := gW2.rules; simp only [List.take_succ_cons, List.take_zero, List.drop_succ_cons, List.drop_zero]; (repeat go_big_quiet_step (fail)); with_reducible refine wpQuiet_nil ?_)
          go_wp2_with (go_at_call 130; go_must (refine (eqStep_c _ _ _ _ _).mono ?_; rintro e w3 ⟨rfl, hn3⟩; obtain ⟨hc3, hf3, hz3⟩ := hn3.rules))
          go_roundw
          case rel => exact ⟨k + 1, by omega, by go_num, (by repeat (first | exact Nx.refl _ | assumption | apply Nx.alloc | apply Nx.drew | apply Nx.drewN | (refine Nx.setCell ?_ (by first | (simp; done) | (simp; omega) | omega) _) | refine Nx.trans ?_ (by assumption))), pref_step He.out Ha.out (by rw [Hd.out, Heq.out.1, Heq.out.2])⟩
          case measure => simp [intOf]; omega
        · have e1 : decide (p1 = q1 ∧ p2 = q2) = false := by simpa using heq
          have Heq := Lib.hid heq
          clear heq
          go_wp2
          (refine tail_quiet 8 (by kernel_rfl) (by kernel_rfl) (fun W2 gW2 => ?_); obtain ⟨hcW2, hfW2, hzW2⟩ := gW2.rules; simp only [List.take_succ_cons, List.take_zero, List.drop_succ_cons, List.drop_zero]; (repeat go_big_quiet_step (fail)); with_reducible refine wpQuiet_nil ?_)
          go_wp2_with (go_at_call 130; go_must (refine (eqStep_c _ _ _ _ _).mono ?_; rintro e w3 ⟨rfl, hn3⟩; obtain ⟨hc3, hf3, hz3⟩ := hn3.rules))
          go_ret
          exact RetV.bool (by
            have : xs ≠ ys := pref_ne Ha.out Hd.out (fun e => Heq.out (by simpa using e))
            simp [this]) (by repeat (first | exact Nx.refl _ | assumption | apply Nx.alloc | apply Nx.drew | apply Nx.drewN | (refine Nx.setCell ?_ (by first | (simp; done) | (simp; omega) | omega) _) | refine Nx.trans ?_ (by assumption)))
      · go_wp2
        go_ret
        exact RetV.bool (by
          have : xs = ys := pref_eq Hlen.out (fun j hj => He.out j (by have := Hlen.out; omega))
          simp [this]) (by repeat (first | exact Nx.refl _ | assumption | apply Nx.alloc | apply Nx.drew | apply Nx.drewN | (refine Nx.setCell ?_ (by first | (simp; done) | (simp; omega) | omega) _) | refine Nx.trans ?_ (by assumption)))
  · have hne : ((xs.length : Int) != (ys.length : Int)) = true := by simp; omega
    have Hlen := Lib.hid hlen
    clear hlen
    go_enter Try.func79, Try.ntmps79
    go_wp2
    go_ret
    exact RetV.bool (by
      have : xs ≠ ys := fun e => Hlen.out (by rw [e])
      simp [this]) (by repeat (first | exact Nx.refl _ | assumption | apply Nx.alloc | apply Nx.drew | apply Nx.drewN | (refine Nx.setCell ?_ (by first | (simp; done) | (simp; omega) | omega) _) | refine Nx.trans ?_ (by assumption)))

set_option maxRecDepth 100000 in
set_option maxHeartbeats 1000000 in
theorem markStepS_c (t : TypeId) (base : Nat) (A : Option Addr) (c : Nat) (xs : List (Int × Int)) (k : Int) (w : World) (ho : OwnE w base t A c xs) (hl : xs.length ≤ 1048576) (hk0 : 0 ≤ k) (hk1 : k ≤ 1099511627776) :
    Calls Try.prog 93 #[.slice A xs.length c, V k] w (MarkedE t base A c k xs.length w) := by
  go_enter Try.func93, Try.ntmps93
  go_wp2
  go_loopg [1, 5] xs.length (fun gk kv i wr => ∃ (j : Nat) (ys : List (Int × Int)), j + gk = xs.length ∧ i = .int .i64 j ∧ kv = V (k + 2 * j) ∧ ys.length = xs.length ∧ OwnE wr base t A c ys ∧ w.grownBy wr (blk A) ∧ ∀ m, m < j → ys[m]? = (mkE k xs.length)[m]?)
  case atStart => exact ⟨0, xs, by omega, rfl, by simp, rfl, ho, World.grownBy.refl w _, fun m hm => by omega⟩
  case round =>
    obtain ⟨j, ys, hj, rfl, rfl, hyl, hown, hg, hys⟩ := hrel
    have Hys := Lib.hid hys
    have Hyl := Lib.hid hyl
    have Ho := Lib.hid hown
    have Hg := Lib.hid hg
    have hjy : j < xs.length → j < ys.length := by omega
    clear hys hyl hg hown ho
    by_cases hlt : j < xs.length
    · obtain ⟨g, rfl, hg1, hg2⟩ := Ho.out.at (by have := hjy hlt; omega)
      obtain ⟨f1, f2⟩ := Ho.out.cell (hjy hlt)
      have f3 := Ho.out.free
      generalize (ys[j]).1 = old1 at f1
      generalize (ys[j]).2 = old2 at f2
      go_wp2
      go_roundg (gk - 1)
      case measure => omega
      case rel => exact ⟨j + 1, ys.set j (k + 2 * j, k + 2 * j + 1), by omega, by go_num, by go_num, by rw [List.length_set]; exact Hyl.out, Ho.out.set j (k + 2 * j) (k + 2 * j + 1), grown_set (grown_set Hg.out _ _) _ _, set_pref Hys.out (hjy hlt) (mkE_get hlt)⟩
    · go_wp2
      go_ret
      have hjl : j = xs.length := by omega
      have he : ys = mkE k xs.length := pref_eq (by rw [mkE_length]; exact Hyl.out) (fun m hm => Hys.out m (by rw [mkE_length] at hm; omega))
      refine ⟨?_, by rw [← he]; exact Ho.out, Hg.out⟩
      simp [hjl]

set_option maxRecDepth 100000 in
set_option maxHeartbeats 1000000 in
theorem heldStepS_c (A : Option Addr) (c n : Nat) (k : Int) (w : World) (hx : EdgesAt w A (mkE k n)) (hl : n ≤ 1048576) (hk0 : 0 ≤ k) (hk1 : k ≤ 1099511627776) :
    Calls Try.prog 95 #[.slice A n c, V k] w (RetV (V (k + 2 * n)) w) := by
  go_enter Try.func95, Try.ntmps95
  go_wp2
  go_loopg [1, 5] n (fun gk kv i wr => ∃ (j : Nat), j + gk = n ∧ i = .int .i64 j ∧ kv = V (k + 2 * j) ∧ Nx w wr)
  case atStart => exact ⟨0, by omega, rfl, by simp, Nx.refl _⟩
  case round =>
    obtain ⟨j, hj, rfl, rfl, hn⟩ := hrel
    by_cases hlt : j < n
    · obtain ⟨b, off, rfl, hb, hc1, hc2⟩ := hx.rd (mkE_get hlt)
      have h1 := hn.cell hb hc1
      have h2 := hn.cell hb hc2
      clear hx hc1 hc2
      go_wp2
      go_roundg (gk - 1)
      case measure => omega
      case rel => exact ⟨j + 1, by omega, by go_num, by go_num, (by repeat (first | exact Nx.refl _ | assumption | apply Nx.alloc | apply Nx.drew | apply Nx.drewN | (refine Nx.setCell ?_ (by first | (simp; done) | (simp; omega) | omega) _) | refine Nx.trans ?_ (by assumption)))⟩
    · go_wp2
      go_ret
      have hjl : j = n := by omega
      exact RetV.int (by simp [hjl]) (by repeat (first | exact Nx.refl _ | assumption | apply Nx.alloc | apply Nx.drew | apply Nx.drewN | (refine Nx.setCell ?_ (by first | (simp; done) | (simp; omega) | omega) _) | refine Nx.trans ?_ (by assumption)))
end Go.Proofs.Yticjoichmcegnaa
