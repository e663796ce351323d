/- FnExactTourValid: the walk (printed by lawgen.py). -/
import Derived.Test.YtnnfbndalcnjiaaA8
import Derived.Test.YtnnfbndalcnjiaaA9
import Derived.Test.YtnnfbndalcnjiaaH
import Derived.Test.YtnnfbndalcnjiaaG4
import Derived.Deep.RegionHeld3
import Derived.Deep.Cut
namespace Go.Proofs.Ytnnfbndalcnjiaa
open Go.RowKit set_option linter.unusedVariables false set_option linter.unusedSimpArgs false
set_option maxRecDepth 100000 in
set_option maxHeartbeats 8000000 in
theorem fnExactTourValid_walk (w : World) (A0 : Option Addr) (c0 : Nat) (xs0 : List Int) (_ : xs0.length ≤ c0) (hm0 : Hid (xs0.length ≤ 9223372036854775807)) (hx0 : IntsAt w A0 xs0) (_ : ∀ n ∈ xs0, Fits n) : Calls Try.prog 3 #[.slice A0 xs0.length c0] w (RetV (.bool true) w) := by
  by_cases hl0 : xs0.length ≤ 1048576
  rotate_left
  · go_enter Try.func3, Try.ntmps3
    go_wp2
    go_ret
    exact RetV.bool rfl (by repeat (first | exact Nx.refl _ | assumption | apply Nx.alloc | apply Nx.drew | apply Nx.drewN | (refine Nx.setCell ?_ (by first | (simp; done) | (simp; omega) | omega) _) | refine Nx.trans ?_ (by assumption)))
  go_enter Try.func3, Try.ntmps3
  go_wp2_with fail
  refine (toIntS_c A0 c0 xs0 _ (hx0.nx (by repeat (first | exact Nx.refl _ | assumption | apply Nx.alloc | apply Nx.drew | apply Nx.drewN | (refine Nx.setCell ?_ (by first | (simp; done) | (simp; omega) | omega) _) | refine Nx.trans ?_ (by assumption)))) (by omega)).mono ?_
  rintro e w1 ⟨B1, d1, rfl, ho1, hn1⟩
  obtain ⟨hc1, hf1, hz1⟩ := hn1.rules
  have hzw1 : w.heap.size ≤ w1.heap.size := by have h := hn1.size; first | omega | (simp at h; omega)
  have ho1m := ho1.mono (base' := w.heap.size) (by first | exact Nat.le_refl _ | omega | (simp; done) | (simp; omega))
  go_wp2_with fail
  refine (sTourValid_c B1 d1 xs0.length xs0 _ rfl ho1m.cap ((ho1m.nx (by repeat (first | exact Nx.refl _ | assumption | apply Nx.alloc | apply Nx.drew | apply Nx.drewN | (refine Nx.setCell ?_ (by first | (simp; done) | (simp; omega) | omega) _) | refine Nx.trans ?_ (by assumption)))).intsAt) (by omega)).mono ?_
  rintro e w2 ⟨rfl, hn2⟩
  obtain ⟨hc2, hf2, hz2⟩ := hn2.rules
  have hzw2 : w1.heap.size ≤ w2.heap.size := by have h := hn2.size; first | omega | (simp at h; omega)
  go_wp2_with fail
  refine (toIntS_c A0 c0 xs0 _ (hx0.nx (by repeat (first | exact Nx.refl _ | assumption | apply Nx.alloc | apply Nx.drew | apply Nx.drewN | (refine Nx.setCell ?_ (by first | (simp; done) | (simp; omega) | omega) _) | refine Nx.trans ?_ (by assumption)))) (by omega)).mono ?_
  rintro e w3 ⟨B3, d3, rfl, ho3, hn3⟩
  obtain ⟨hc3, hf3, hz3⟩ := hn3.rules
  have hzw3 : w2.heap.size ≤ w3.heap.size := by have h := hn3.size; first | omega | (simp at h; omega)
  have ho3m := ho3.mono (base' := w2.heap.size) (by first | exact Nat.le_refl _ | omega | (simp; done) | (simp; omega))
  go_wp2_with fail
  refine (iTourValid_c B3 d3 xs0.length xs0 _ rfl ho3m.cap ((ho3m.nx (by repeat (first | exact Nx.refl _ | assumption | apply Nx.alloc | apply Nx.drew | apply Nx.drewN | (refine Nx.setCell ?_ (by first | (simp; done) | (simp; omega) | omega) _) | refine Nx.trans ?_ (by assumption)))).intsAt) (by omega)).mono ?_
  rintro e w4 ⟨rfl, hn4⟩
  obtain ⟨hc4, hf4, hz4⟩ := hn4.rules
  have hzw4 : w3.heap.size ≤ w4.heap.size := by have h := hn4.size; first | omega | (simp at h; omega)
  go_wp2_with fail
  refine (toIntS_c A0 c0 xs0 _ (hx0.nx (by repeat (first | exact Nx.refl _ | assumption | apply Nx.alloc | apply Nx.drew | apply Nx.drewN | (refine Nx.setCell ?_ (by first | (simp; done) | (simp; omega) | omega) _) | refine Nx.trans ?_ (by assumption)))) (by omega)).mono ?_
  rintro e w5 ⟨B5, d5, rfl, ho5, hn5⟩
  obtain ⟨hc5, hf5, hz5⟩ := hn5.rules
  have hzw5 : w4.heap.size ≤ w5.heap.size := by have h := hn5.size; first | omega | (simp at h; omega)
  have ho5m := ho5.mono (base' := w4.heap.size) (by first | exact Nat.le_refl _ | omega | (simp; done) | (simp; omega))
  go_wp2_with fail
  refine (eqIntS_c B3 B5 d3 d5 xs0 xs0 _ ((ho3m.nx (by repeat (first | exact Nx.refl _ | assumption | apply Nx.alloc | apply Nx.drew | apply Nx.drewN | (refine Nx.setCell ?_ (by first | (simp; done) | (simp; omega) | omega) _) | refine Nx.trans ?_ (by assumption)))).intsAt) ((ho5m.nx (by repeat (first | exact Nx.refl _ | assumption | apply Nx.alloc | apply Nx.drew | apply Nx.drewN | (refine Nx.setCell ?_ (by first | (simp; done) | (simp; omega) | omega) _) | refine Nx.trans ?_ (by assumption)))).intsAt) (by omega) (by omega)).mono ?_
  rintro e w6 ⟨rfl, hn6⟩
  obtain ⟨hc6, hf6, hz6⟩ := hn6.rules
  have hzw6 : w5.heap.size ≤ w6.heap.size := by have h := hn6.size; first | omega | (simp at h; omega)
  go_wp2
  go_ret
  exact RetV.bool rfl (by repeat (first | exact Nx.refl _ | assumption | apply Nx.alloc | apply Nx.drew | apply Nx.drewN | (refine Nx.setCell ?_ (by first | (simp; done) | (simp; omega) | omega) _) | refine Nx.trans ?_ (by assumption)))
end Go.Proofs.Ytnnfbndalcnjiaa
