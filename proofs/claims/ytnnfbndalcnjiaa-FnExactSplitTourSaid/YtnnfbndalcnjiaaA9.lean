/- Contract: toIntS (for the seat of the tours). -/
import Derived.Test.YtnnfbndalcnjiaaH
import Derived.Test.YtnnfbndalcnjiaaG3
namespace Go.Proofs.Ytnnfbndalcnjiaa
open Go.RowKit set_option linter.unusedVariables false set_option linter.unusedSimpArgs false

set_option maxHeartbeats 1000000 in
theorem toIntS_c (A : Option Addr) (c : Nat) (es : List Int) (w : World) (hx : IntsAt w A es) (hl : es.length ≤ 1048576) :
    Calls Try.prog 11 #[.slice A es.length c] w (RetI 3 es w) := by
  obtain ⟨i0, hi, hz0, hz1, hz2⟩ := info_parts infoI
  have hmk := run_make_rowN (P := Try.prog) 22 3 i0 _ Try.underlying22 hi hz0 .i64 .i64 es.length es.length (Nat.le_refl _) (by rw [hz2]; omega) (by omega)
  rw [hz1] at hmk
  clear hi hz0 hz1 hz2
  go_enter Try.func11, Try.ntmps11
  go_wp2
  have hm := OwnI.made (w := w) (base := w.heap.size) (t := 3) es.length (Nat.le_refl _) (by omega)
  rw [Nat.mul_one] at hm
  have hnm : Nx w (w.alloc (.cells (madeCells #[V 0] es.length) 3)) := (by repeat (first | exact Nx.refl _ | assumption | apply Nx.alloc | apply Nx.drew | apply Nx.drewN | (refine Nx.setCell ?_ (by first | (simp; done) | (simp; omega) | omega) _) | refine Nx.trans ?_ (by assumption)))
  generalize w.alloc _ = W at *
  go_loopw [4] (fun i wr => ∃ (k : Nat) (xs : List Int), k ≤ es.length ∧ i = .int .i64 k ∧ Nx w wr ∧ xs.length = es.length ∧ OwnI wr w.heap.size 3 (some ⟨w.heap.size, 0, none⟩) es.length xs ∧ ∀ j, j < k → xs[j]? = es[j]?) (fun i _ => es.length - (intOf i).toNat)
  case atStart => exact ⟨0, _, by omega, rfl, hnm, by simp, hm, fun j hj => by omega⟩
  case round =>
    obtain ⟨k, xs, hk, rfl, hn, hxl, hown, hxs⟩ := hrel
    have Hxs := Lib.hid hxs
    have Hxl := Lib.hid hxl
    have hxk : k < es.length → k < xs.length := by omega
    clear hxs hxl hm hnm
    by_cases hlt : k < es.length
    · obtain ⟨x, hek⟩ : ∃ x, es[k]? = some x := ⟨_, List.getElem?_eq_getElem hlt⟩
      obtain ⟨b, off, rfl, hb, h1⟩ := (hx.nx hn).rd hek
      have c1 := hown.cell (hxk hlt)
      have f1 := hown.free
      have Hek := Lib.hid hek
      clear hx hek
      go_wp2
      go_roundw
      case rel => exact ⟨k + 1, xs.set k x, by omega, by go_num, (by repeat (first | exact Nx.refl _ | assumption | apply Nx.alloc | apply Nx.drew | apply Nx.drewN | (refine Nx.setCell ?_ (by first | (simp; done) | (simp; omega) | omega) _) | refine Nx.trans ?_ (by assumption))), by rw [List.length_set]; exact Hxl.out, hown.set k x, set_pref Hxs.out (hxk hlt) Hek.out⟩
      case measure => simp [intOf]; omega
    · go_wp2
      go_ret
      have hex : xs = es := pref_eq Hxl.out (fun j hj => Hxs.out j (by omega))
      subst hex
      exact ⟨_, _, rfl, hown, hn⟩

end Go.Proofs.Ytnnfbndalcnjiaa
