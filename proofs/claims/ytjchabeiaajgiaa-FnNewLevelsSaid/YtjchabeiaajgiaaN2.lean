/- Contracts: dyInts. -/
import Derived.Test.YtjchabeiaajgiaaG3
namespace Go.Proofs.Ytjchabeiaajgiaa
open Go.RowKit

set_option maxRecDepth 100000 in
set_option maxHeartbeats 1000000 in
theorem dyInts_c (A A' : Option Addr) (c c' : Nat) (xs ys : List Int) (w : World) (hx : IntsAt w A xs) (hy : IntsAt w A' ys) (hl : xs.length ≤ 1048576) (hl' : ys.length ≤ 1048576) :
    Calls Try.prog 45 #[.slice A xs.length c, .slice A' ys.length c'] w (RetV (.bool (decide (xs = ys))) w) := by
  by_cases hlen : xs.length = ys.length
  · have hne : ((xs.length : Int) != (ys.length : Int)) = false := by simp [hlen]
    have Hlen := Lib.hid hlen
    clear hlen
    go_enter Try.func45, Try.ntmps45
    go_wp2
    go_loopw [5] (fun i wr => ∃ k : Nat, k ≤ xs.length ∧ i = .int .i64 k ∧ Nx w wr ∧ ∀ j, j < k → xs[j]? = ys[j]?) (fun i _ => xs.length - (intOf i).toNat)
    case atStart => exact ⟨0, by omega, rfl, Nx.refl _, fun j hj => by omega⟩
    case round =>
      obtain ⟨k, hk, rfl, hn, he⟩ := hrel
      have He := Lib.hid he
      clear he
      by_cases hlt : k < xs.length
      · have hlt' : k < ys.length := by have := Hlen.out; omega
        obtain ⟨b, off, rfl, hb, hc⟩ := hx (by omega)
        obtain ⟨b', off', rfl, hb', hc'⟩ := hy (by omega)
        have h1 := hn.cell (p := ⟨b, off + k, none⟩) hb (hc k hlt)
        have h3 := hn.cell (p := ⟨b', off' + k, none⟩) hb' (hc' k hlt')
        have ha : xs[k]? = some xs[k] := List.getElem?_eq_getElem hlt
        have hd : ys[k]? = some ys[k] := List.getElem?_eq_getElem hlt'
        generalize xs[k] = p at *
        generalize ys[k] = q at *
        have Ha := Lib.hid ha
        have Hd := Lib.hid hd
        clear hx hy hc hc' ha hd
        by_cases heq : (p != q) = true
        · go_wp2
          go_quiet (fail)
          go_wp2
          go_ret
          exact RetV.bool (by
            have : xs ≠ ys := pref_ne Ha.out Hd.out (by simpa using heq)
            simp [this]) (by repeat (first | exact Nx.refl _ | assumption | apply Nx.alloc | apply Nx.drew | apply Nx.drewN | (refine Nx.setCell ?_ (by first | (simp; done) | (simp; omega) | omega) _) | refine Nx.trans ?_ (by assumption)))
        · have heq : (p != q) = false := by simpa using heq
          go_wp2
          go_quiet (fail)
          go_wp2
          go_roundw
          case rel => exact ⟨k + 1, by omega, by go_num, (by repeat (first | exact Nx.refl _ | assumption | apply Nx.alloc | apply Nx.drew | apply Nx.drewN | (refine Nx.setCell ?_ (by first | (simp; done) | (simp; omega) | omega) _) | refine Nx.trans ?_ (by assumption))), pref_step He.out Ha.out (by rw [Hd.out]; simp at heq; rw [heq])⟩
          case measure => simp [intOf]; omega
      · go_wp2
        go_ret
        exact RetV.bool (by
          have : xs = ys := pref_eq Hlen.out (fun j hj => He.out j (by have := Hlen.out; omega))
          simp [this]) (by repeat (first | exact Nx.refl _ | assumption | apply Nx.alloc | apply Nx.drew | apply Nx.drewN | (refine Nx.setCell ?_ (by first | (simp; done) | (simp; omega) | omega) _) | refine Nx.trans ?_ (by assumption)))
  · have hne : ((xs.length : Int) != (ys.length : Int)) = true := by simp; omega
    have Hlen := Lib.hid hlen
    clear hlen
    go_enter Try.func45, Try.ntmps45
    go_wp2
    go_ret
    exact RetV.bool (by
      have : xs ≠ ys := fun e => Hlen.out (by rw [e])
      simp [this]) (by repeat (first | exact Nx.refl _ | assumption | apply Nx.alloc | apply Nx.drew | apply Nx.drewN | (refine Nx.setCell ?_ (by first | (simp; done) | (simp; omega) | omega) _) | refine Nx.trans ?_ (by assumption)))


end Go.Proofs.Ytjchabeiaajgiaa
