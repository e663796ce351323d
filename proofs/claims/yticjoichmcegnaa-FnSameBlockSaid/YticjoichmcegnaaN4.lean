/- Contracts: dyHas. -/
import Derived.Test.YticjoichmcegnaaG4
namespace Go.Proofs.Yticjoichmcegnaa
open Go.RowKit

theorem dyHas_c (A : Option Addr) (c : Nat) (es : List (Int × Int)) (x y : Int) (w : World) (hx : EdgesAt w A es) (hl : es.length ≤ 1048576) :
    Calls Try.prog 53 #[.slice A es.length c, Ed x y] w (RetV (.bool (decide ((x, y) ∈ es))) w) := by
  go_enter Try.func53, Try.ntmps53
  go_wp2
  generalize hW : w.alloc _ = W
  have gn : Nx w W := by subst hW; exact (by repeat (first | exact Nx.refl _ | assumption | apply Nx.alloc | apply Nx.drew | apply Nx.drewN | (refine Nx.setCell ?_ (by first | (simp; done) | (simp; omega) | omega) _) | refine Nx.trans ?_ (by assumption)))
  have gs : w.heap.size < W.heap.size := by subst hW; simp
  have b0 : W.cell? ⟨w.heap.size, 0, none⟩ = some (V x) := by subst hW; go_simp
  have b1 : W.cell? ⟨w.heap.size, 1, none⟩ = some (V y) := by subst hW; go_simp
  clear hW
  go_loopw [5] (fun i wr => ∃ k : Nat, k ≤ es.length ∧ i = .int .i64 k ∧ Nx W wr ∧ ∀ j, j < k → es[j]? ≠ some (x, y)) (fun i _ => es.length - (intOf i).toNat)
  case atStart => exact ⟨0, by omega, rfl, Nx.refl _, fun j hj => by omega⟩
  case round =>
    obtain ⟨k, hk, rfl, hn, hno⟩ := hrel
    have Hno := Lib.hid hno
    clear hno
    have c0 := hn.cell (p := ⟨w.heap.size, 0, none⟩) gs b0
    have c1 := hn.cell (p := ⟨w.heap.size, 1, none⟩) gs b1
    clear b0 b1
    by_cases hlt : k < es.length
    · obtain ⟨b, off, rfl, hb, hc⟩ := hx (by omega)
      have h1 := (gn.trans hn).cell (p := ⟨b, off + k * 2, none⟩) hb (hc k hlt).1
      have h2 := (gn.trans hn).cell (p := ⟨b, off + k * 2 + 1, none⟩) hb (hc k hlt).2
      have hek : es[k]? = some es[k] := List.getElem?_eq_getElem hlt
      generalize es[k] = e at *
      obtain ⟨p, q⟩ := e
      have Hek := Lib.hid hek
      clear hc hx hek
      by_cases e1 : (p == x) = true
      · by_cases e2 : (q == y) = true
        · go_wp2
          go_quiet (fail)
          go_wp2
          go_ret
          exact RetV.bool (by
            have : (x, y) ∈ es := List.mem_of_getElem? (i := k) (by rw [Hek.out]; simp at e1 e2; rw [e1, e2])
            simp [this]) (by repeat (first | exact Nx.refl _ | assumption | apply Nx.alloc | apply Nx.drew | apply Nx.drewN | (refine Nx.setCell ?_ (by first | (simp; done) | (simp; omega) | omega) _) | refine Nx.trans ?_ (by assumption)))
        · have e2 : (q == y) = false := by simpa using e2
          go_wp2
          go_quiet (fail)
          go_wp2
          go_roundw
          case rel => exact ⟨k + 1, by omega, by go_num, (by repeat (first | exact Nx.refl _ | assumption | apply Nx.alloc | apply Nx.drew | apply Nx.drewN | (refine Nx.setCell ?_ (by first | (simp; done) | (simp; omega) | omega) _) | refine Nx.trans ?_ (by assumption))), ne_step Hno.out Hek.out (by simp at e2; simp [e2])⟩
          case measure => simp [intOf]; omega
      · have e1 : (p == x) = false := by simpa using e1
        go_wp2
        go_quiet (fail)
        go_wp2
        go_roundw
        case rel => exact ⟨k + 1, by omega, by go_num, (by repeat (first | exact Nx.refl _ | assumption | apply Nx.alloc | apply Nx.drew | apply Nx.drewN | (refine Nx.setCell ?_ (by first | (simp; done) | (simp; omega) | omega) _) | refine Nx.trans ?_ (by assumption))), ne_step Hno.out Hek.out (by simp at e1; simp [e1])⟩
        case measure => simp [intOf]; omega
    · go_wp2
      go_ret
      exact RetV.bool (by
        have : (x, y) ∉ es := fun hm => by
          obtain ⟨j, hj⟩ := List.mem_iff_getElem?.1 hm
          exact Hno.out j (by have := (List.getElem?_eq_some_iff.1 hj).1; omega) hj
        simp [this]) (by repeat (first | exact Nx.refl _ | assumption | apply Nx.alloc | apply Nx.drew | apply Nx.drewN | (refine Nx.setCell ?_ (by first | (simp; done) | (simp; omega) | omega) _) | refine Nx.trans ?_ (by assumption)))
end Go.Proofs.Yticjoichmcegnaa
