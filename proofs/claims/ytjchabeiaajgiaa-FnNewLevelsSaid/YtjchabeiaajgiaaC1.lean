/- Contracts: edges without one (l1Without); slices.IndexFunc, DeleteFunc, Clone over edges. -/
import Derived.Test.YtjchabeiaajgiaaF2
import Derived.Test.YtjchabeiaajgiaaM2
import Derived.Test.YtjchabeiaajgiaaCE
import Derived.Lib.SliceRun
namespace Go.Proofs.Ytjchabeiaajgiaa
open Go.RowKit

theorem outE_step {es : Es} {e x : Int × Int} {k : Nat} (h : es[k]? = some x) : outE (es.take (k + 1)) e = outE (es.take k) e ++ if x = e then [] else [x] := by
  unfold outE
  rw [filter_take_succ _ h]
  by_cases hx : x = e <;> simp [hx]

set_option maxRecDepth 100000 in
set_option maxHeartbeats 4000000 in
theorem l1Without_c (A : Option Addr) (c : Nat) (es : List (Int × Int)) (u v : Int) (w : World) (hx : EdgesAt w A es) (hl : es.length ≤ 1048576) :
    Calls Try.prog 143 #[.slice A es.length c, Ed u v] w (RetE 36 (outE es (u, v)) w) := by
  obtain ⟨i0, hi, hz0, hz1, hz2⟩ := info_parts infoE
  have Hi := Lib.hid hi
  have Hz0 := Lib.hid hz0
  have Hz1 := Lib.hid hz1
  have Hz2 := Lib.hid hz2
  clear hi hz0 hz1 hz2
  go_enter Try.func143, Try.ntmps143
  go_wp2
  generalize hW0 : World.alloc w _ = W0
  have gn0 : Nx w W0 := by subst hW0; exact (by repeat (first | exact Nx.refl _ | assumption | apply Nx.alloc | apply Nx.drew | apply Nx.drewN | (refine Nx.setCell ?_ (by first | (simp; done) | (simp; omega) | omega) _) | refine Nx.trans ?_ (by assumption)))
  have gs0 : W0.heap.size = w.heap.size + 1 := by subst hW0; simp
  have b0 : W0.cell? ⟨w.heap.size, 0, none⟩ = some (V u) := by subst hW0; go_simp
  have b1 : W0.cell? ⟨w.heap.size, 1, none⟩ = some (V v) := by subst hW0; go_simp
  have ho0 := OwnE.empty W0 W0.heap.size 36 (Nat.le_refl _)
  rw [show w.heap.size + 1 = W0.heap.size from gs0.symm]
  have gs1 : w.heap.size < W0.heap.size := by omega
  have gs2 : W0.heap.size ≤ w.heap.size + 1 := by omega
  clear hW0 gs0
  go_loopg [5, 6] es.length (fun gk out i wr => ∃ (k : Nat) (A' : Option Addr) (c' : Nat), k + gk = es.length ∧ i = .int .i64 k ∧ out = .slice A' (outE (es.take k) (u, v)).length c' ∧ OwnE wr W0.heap.size 36 A' c' (outE (es.take k) (u, v)) ∧ Nx W0 wr)
  case atStart => exact ⟨0, _, 0, by omega, rfl, rfl, ho0, (by repeat (first | exact Nx.refl _ | assumption | apply Nx.alloc | apply Nx.drew | apply Nx.drewN | (refine Nx.setCell ?_ (by first | (simp; done) | (simp; omega) | omega) _) | refine Nx.trans ?_ (by assumption)))⟩
  case round =>
    obtain ⟨k, A', c', hk, rfl, rfl, hown, hn⟩ := hrel
    have c0 := hn.cell (p := ⟨w.heap.size, 0, none⟩) gs1 b0
    have c1 := hn.cell (p := ⟨w.heap.size, 1, none⟩) gs1 b1
    have hsz := hn.size
    by_cases hlt : k < es.length
    · have hek : es[k]? = some es[k] := List.getElem?_eq_getElem hlt
      have hst := outE_step (e := (u, v)) hek
      have hlen : (outE (es.take k) (u, v)).length ≤ k := Nat.le_trans (outE_len _ _) (List.length_take_le _ _)
      obtain ⟨b, off, rfl, hbl, hc⟩ := hx (by omega)
      have h1 := (gn0.trans hn).cell (p := ⟨b, off + k * 2, none⟩) hbl (hc k hlt).1
      have h2 := (gn0.trans hn).cell (p := ⟨b, off + k * 2 + 1, none⟩) hbl (hc k hlt).2
      have hb3 : b < wr.heap.size := by have := gn0.size; omega
      clear hc hx hek ho0
      generalize outE (es.take k) (u, v) = L at *
      generalize es[k] = e at *
      obtain ⟨x, y⟩ := e
      have Hst := Lib.hid hst
      have Hown := Lib.hid hown
      clear hst hown
      by_cases e1 : (x == u) = true
      · by_cases e2 : (y == v) = true
        · go_wp2
          go_quiet (fail)
          go_wp2
          go_roundg (gk - 1)
          case measure => omega
          case rel =>
            have he : ((x, y) : Int × Int) = (u, v) := by simp at e1 e2; rw [e1, e2]
            exact ⟨k + 1, A', c', by omega, by go_num, by rw [Hst.out, if_pos he, List.append_nil], by rw [Hst.out, if_pos he, List.append_nil]; exact Hown.out.nx (by repeat (first | exact Nx.refl _ | assumption | apply Nx.alloc | apply Nx.drew | apply Nx.drewN | (refine Nx.setCell ?_ (by first | (simp; done) | (simp; omega) | omega) _) | refine Nx.trans ?_ (by assumption))), (by repeat (first | exact Nx.refl _ | assumption | apply Nx.alloc | apply Nx.drew | apply Nx.drewN | (refine Nx.setCell ?_ (by first | (simp; done) | (simp; omega) | omega) _) | refine Nx.trans ?_ (by assumption)))⟩
        · have e2 : (y == v) = false := by simpa using e2
          go_wp2
          go_quiet (fail)
          go_wp2_with (at_builtin; go_must (refine appE (base := W0.heap.size) (t := 36) L _ x y rfl rfl Try.underlying24 Hi.out Hz0.out Hz1.out Hz2.out rfl rfl (Hown.out.nx (by repeat (first | exact Nx.refl _ | assumption | apply Nx.alloc | apply Nx.drew | apply Nx.drewN | (refine Nx.setCell ?_ (by first | (simp; done) | (simp; omega) | omega) _) | refine Nx.trans ?_ (by assumption)))) rfl (cellN rfl rfl) (cellN rfl rfl) (by omega) (by simp; omega) ?_; intro A2 c2 w3 hown3 hnx3 hgr3 hbl3))
          go_roundg (gk - 1)
          case measure => omega
          case rel =>
            have he : ((x, y) : Int × Int) ≠ (u, v) := by simp at e2; simp [e2]
            exact ⟨k + 1, A2, c2, by omega, by go_num, by rw [Hst.out, if_neg he]; simp, by rw [Hst.out, if_neg he]; exact hown3, hnx3 W0 (Nat.le_refl _) (by repeat (first | exact Nx.refl _ | assumption | apply Nx.alloc | apply Nx.drew | apply Nx.drewN | (refine Nx.setCell ?_ (by first | (simp; done) | (simp; omega) | omega) _) | refine Nx.trans ?_ (by assumption)))⟩
      · have e1 : (x == u) = false := by simpa using e1
        go_wp2
        go_quiet (fail)
        go_wp2_with (at_builtin; go_must (refine appE (base := W0.heap.size) (t := 36) L _ x y rfl rfl Try.underlying24 Hi.out Hz0.out Hz1.out Hz2.out rfl rfl (Hown.out.nx (by repeat (first | exact Nx.refl _ | assumption | apply Nx.alloc | apply Nx.drew | apply Nx.drewN | (refine Nx.setCell ?_ (by first | (simp; done) | (simp; omega) | omega) _) | refine Nx.trans ?_ (by assumption)))) rfl (cellN rfl rfl) (cellN rfl rfl) (by omega) (by simp; omega) ?_; intro A2 c2 w3 hown3 hnx3 hgr3 hbl3))
        go_roundg (gk - 1)
        case measure => omega
        case rel =>
          have he : ((x, y) : Int × Int) ≠ (u, v) := by simp at e1; simp [e1]
          exact ⟨k + 1, A2, c2, by omega, by go_num, by rw [Hst.out, if_neg he]; simp, by rw [Hst.out, if_neg he]; exact hown3, hnx3 W0 (Nat.le_refl _) (by repeat (first | exact Nx.refl _ | assumption | apply Nx.alloc | apply Nx.drew | apply Nx.drewN | (refine Nx.setCell ?_ (by first | (simp; done) | (simp; omega) | omega) _) | refine Nx.trans ?_ (by assumption)))⟩
    · go_wp2
      go_ret
      have he : es.take k = es := List.take_of_length_le (by omega)
      rw [he] at hown ⊢
      exact ⟨A', c', rfl, hown.mono (by omega), (by repeat (first | exact Nx.refl _ | assumption | apply Nx.alloc | apply Nx.drew | apply Nx.drewN | (refine Nx.setCell ?_ (by first | (simp; done) | (simp; omega) | omega) _) | refine Nx.trans ?_ (by assumption)))⟩

end Go.Proofs.Ytjchabeiaajgiaa
