/- Contracts: the labels of the program (parts) and of the reference (l2Labels). -/
import Derived.Test.YtjchabeiaajgiaaG3
import Derived.Test.YtjchabeiaajgiaaL
import Derived.RegionTactic
import Derived.BigRegion
namespace Go.Proofs.Ytjchabeiaajgiaa
open Go.RowKit

theorem relax_nat (M : List Int) (x y : Nat) : relax1 M ((x : Int), (y : Int)) = (M.set x (min (lk M x) (lk M y))).set y (min (lk M x) (lk M y)) := by
  simp [relax1, up]
theorem foldl_relax_length : ∀ (l : Es) (L : List Int), (l.foldl relax1 L).length = L.length
  | [], _ => rfl
  | e :: l, L => by rw [List.foldl_cons, foldl_relax_length l, relax1_length]
theorem idL_length (n : Nat) : (idL n).length = n := by simp [idL]
theorem idL_succ (n : Nat) : idL (n + 1) = idL n ++ [(n : Int)] := by simp [idL, List.range_succ]

set_option maxRecDepth 100000 in
set_option maxHeartbeats 2000000 in
theorem parts_c (n : Nat) (A : Option Addr) (c : Nat) (es : List (Int × Int)) (w : World) (hx : EdgesAt w A es) (hl : es.length ≤ 1048576) (hn16 : n ≤ 16) (hr : InR n es) (hd : ∀ e ∈ es, e.1 ≠ e.2) :
    Calls Try.prog 54 #[.agg #[V n, .slice A es.length c]] w (RetI 3 (labels n es) w) := by
  obtain ⟨i0, hi, hz0, hz1, hz2⟩ := info_parts infoI
  have Hi := Lib.hid hi
  have Hz0 := Lib.hid hz0
  have Hz1 := Lib.hid hz1
  have Hz2 := Lib.hid hz2
  clear hi hz0 hz1 hz2
  go_enter Try.func54, Try.ntmps54
  go_wp2
  generalize hW0 : World.alloc w _ = W0
  have gn0 : Nx w W0 := by subst hW0; exact (by repeat (first | exact Nx.refl _ | assumption | apply Nx.alloc | apply Nx.drew | apply Nx.drewN | (refine Nx.setCell ?_ (by first | (simp; done) | (simp; omega) | omega) _) | refine Nx.trans ?_ (by assumption)))
  have gs0 : w.heap.size < W0.heap.size := by subst hW0; simp
  have b0 : W0.cell? ⟨w.heap.size, 0, none⟩ = some (V n) := by subst hW0; go_simp
  have b1 : W0.cell? ⟨w.heap.size, 1, none⟩ = some (.slice A es.length c) := by subst hW0; go_simp
  have hx0 := hx.nx gn0
  have ho0 := OwnI.empty W0 W0.heap.size 3 (Nat.le_refl _)
  rw [show w.heap.size + 1 = W0.heap.size by subst hW0; simp]
  clear hW0
  go_loopg [3, 11] n (fun gk out i wr => ∃ (k : Nat) (A' : Option Addr) (c' : Nat), k + gk = n ∧ i = .int .i64 k ∧ out = .slice A' k c' ∧ OwnI wr W0.heap.size 3 A' c' (idL k) ∧ Nx W0 wr)
  case atStart => exact ⟨0, _, 0, by omega, rfl, rfl, ho0, (by repeat (first | exact Nx.refl _ | assumption | apply Nx.alloc | apply Nx.drew | apply Nx.drewN | (refine Nx.setCell ?_ (by first | (simp; done) | (simp; omega) | omega) _) | refine Nx.trans ?_ (by assumption)))⟩
  case round =>
    obtain ⟨k, A', c', hk, rfl, rfl, hown, hn⟩ := hrel
    by_cases hlt : k < n
    · go_wp2_with (at_builtin; go_must (refine appI (base := W0.heap.size) (t := 3) (idL k) wr.heap.size k rfl rfl Try.underlying27 Hi.out Hz0.out Hz1.out Hz2.out rfl (by rw [idL_length]; rfl) (hown.nx (by repeat (first | exact Nx.refl _ | assumption | apply Nx.alloc | apply Nx.drew | apply Nx.drewN | (refine Nx.setCell ?_ (by first | (simp; done) | (simp; omega) | omega) _) | refine Nx.trans ?_ (by assumption)))) rfl (by go_simp) (by rw [idL_length]; omega) (by have := hn.size; simp; omega) ?_; intro A2 c2 w2 hown2 hnx2 _ _))
      go_roundg (gk - 1)
      case measure => omega
      case rel => exact ⟨k + 1, A2, c2, by omega, by go_num, by simp [idL_length], by rw [idL_succ]; exact hown2, hnx2 W0 (Nat.le_refl _) (hn.alloc _)⟩
    · obtain rfl : k = n := by omega
      have c0 := hn.cell (p := ⟨w.heap.size, 0, none⟩) gs0 b0
      have c1 := hn.cell (p := ⟨w.heap.size, 1, none⟩) gs0 b1
      have hsz := hn.size
      have Hown := Lib.hid hown
      have hx1 := hx0.nx hn
      clear hown ho0 hx hlt
      go_wp2
      go_loopg [21] k (fun gk i wr2 => ∃ (r : Nat), r + gk = k ∧ i = .int .i64 r ∧ OwnI wr2 W0.heap.size 3 A' c' (passes es r (idL k)) ∧ Nx W0 wr2)
      case atStart => exact ⟨0, by omega, rfl, Hown.out, hn⟩
      case round =>
        obtain ⟨r, hr1, rfl, hown2, hn2⟩ := hrel
        obtain ⟨gko, rfl⟩ : ∃ g : Nat, g = gk := ⟨_, rfl⟩
        have c0 := hn2.cell (p := ⟨w.heap.size, 0, none⟩) gs0 b0
        have c1 := hn2.cell (p := ⟨w.heap.size, 1, none⟩) gs0 b1
        have hsz2 := hn2.size
        have Hown2 := Lib.hid hown2
        clear hown2 hk hx1 hn
        by_cases hlt : r < k
        · go_wp2
          go_loopg [26] es.length (fun gk i wr3 => ∃ (j : Nat), j + gk = es.length ∧ i = .int .i64 j ∧ OwnI wr3 W0.heap.size 3 A' c' ((es.take j).foldl relax1 (passes es r (idL k))) ∧ Nx W0 wr3)
          case atStart => exact ⟨0, by omega, rfl, Hown2.out, hn2⟩
          case round =>
            obtain ⟨j, hj, rfl, hown3, hn3⟩ := hrel
            have c0 := hn3.cell (p := ⟨w.heap.size, 0, none⟩) gs0 b0
            have c1 := hn3.cell (p := ⟨w.heap.size, 1, none⟩) gs0 b1
            have hsz3 := hn3.size
            by_cases hje : j < es.length
            · have hM : ((es.take j).foldl relax1 (passes es r (idL k))).length = k := by
                rw [foldl_relax_length, (passes_lab0 hr r).1]
              have hstep : (es.take (j + 1)).foldl relax1 (passes es r (idL k)) = relax1 ((es.take j).foldl relax1 (passes es r (idL k))) es[j] := by
                rw [List.take_succ_eq_append_getElem hje, List.foldl_append]; rfl
              have her := hr es[j] (List.getElem_mem hje)
              have hed := hd es[j] (List.getElem_mem hje)
              obtain ⟨b, off, rfl, hb, hc⟩ := hx0 (by omega)
              have h1 := hn3.cell (p := ⟨b, off + j * 2, none⟩) hb (hc j hje).1
              have h2 := hn3.cell (p := ⟨b, off + j * 2 + 1, none⟩) hb (hc j hje).2
              have hb3 : b < wr.heap.size := by omega
              clear hc
              generalize ((es.take j).foldl relax1 (passes es r (idL k))) = M at *
              generalize es[j] = e at *
              obtain ⟨x, y⟩ := e
              have Hstep := Lib.hid hstep
              clear hstep
              obtain ⟨e1, e2, e3, e4⟩ := her
              obtain ⟨x, rfl⟩ := Int.eq_ofNat_of_zero_le e1
              obtain ⟨y, rfl⟩ := Int.eq_ofNat_of_zero_le e3
              have hxy : x ≠ y := fun h => hed (by rw [h])
              clear hed
              have hxk : x < M.length := by simp at e2; omega
              have hxk' : x < k := by omega
              have hyk' : y < k := by simp at e4; omega
              have hyk : y < M.length := by simp at e4; omega
              obtain ⟨g, rfl, hg1, hg2⟩ := hown3.at (by omega)
              have f1 := hown3.cell hxk
              have f2 := hown3.cell hyk
              have f3 := hown3.free
              have l1 : lk M (x : Int) = M[x] := by simp [lk, hxk]
              have l2 : lk M (y : Int) = M[y] := by simp [lk, hyk]
              generalize M[x] = p at *
              generalize M[y] = q at *
              have L1 := Lib.hid l1
              have L2 := Lib.hid l2
              have HM := Lib.hid hM
              clear l1 l2 hM e1 e3
              by_cases hpq : p ≤ q
              · go_wp2
                generalize hW : World.alloc wr _ = W
                have gw : Nx wr W := by subst hW; exact (by repeat (first | exact Nx.refl _ | assumption | apply Nx.alloc | apply Nx.drew | apply Nx.drewN | (refine Nx.setCell ?_ (by first | (simp; done) | (simp; omega) | omega) _) | refine Nx.trans ?_ (by assumption)))
                have e0 : W.cell? ⟨wr.heap.size, 0, none⟩ = some (V x) := by subst hW; go_simp
                have e1 : W.cell? ⟨wr.heap.size, 1, none⟩ = some (V y) := by subst hW; go_simp
                have gz : wr.heap.size < W.heap.size := by subst hW; simp
                have f1 := gw.cell hg2 f1
                have f2 := gw.cell hg2 f2
                have f3 := fun j => gw.frozen (p := ⟨g, j, none⟩) hg2 (f3 j)
                have ho := hown3.nx gw
                have Ho := Lib.hid ho
                have hgne : g ≠ wr.heap.size := by omega
                clear hW h1 h2 hown3 ho
                go_quiet (fail)
                go_wp2
                go_region
                go_wp2
                go_roundg (gk - 1)
                case measure => omega
                case rel =>
                  refine ⟨j + 1, by omega, by go_num, ?_, (by repeat (first | exact Nx.refl _ | assumption | apply Nx.alloc | apply Nx.drew | apply Nx.drewN | (refine Nx.setCell ?_ (by first | (simp; done) | (simp; omega) | omega) _) | refine Nx.trans ?_ (by assumption)))⟩
                  rw [Hstep.out, relax_nat, L1.out, L2.out, Int.min_eq_left hpq]
                  exact ((Ho.out.nx (by repeat (first | exact Nx.refl _ | assumption | apply Nx.alloc | apply Nx.drew | apply Nx.drewN | (refine Nx.setCell ?_ (by first | (simp; done) | (simp; omega) | omega) _) | refine Nx.trans ?_ (by assumption)))).set x p).set y p
              · go_wp2
                generalize hW : World.alloc wr _ = W
                have gw : Nx wr W := by subst hW; exact (by repeat (first | exact Nx.refl _ | assumption | apply Nx.alloc | apply Nx.drew | apply Nx.drewN | (refine Nx.setCell ?_ (by first | (simp; done) | (simp; omega) | omega) _) | refine Nx.trans ?_ (by assumption)))
                have e0 : W.cell? ⟨wr.heap.size, 0, none⟩ = some (V x) := by subst hW; go_simp
                have e1 : W.cell? ⟨wr.heap.size, 1, none⟩ = some (V y) := by subst hW; go_simp
                have gz : wr.heap.size < W.heap.size := by subst hW; simp
                have f1 := gw.cell hg2 f1
                have f2 := gw.cell hg2 f2
                have f3 := fun j => gw.frozen (p := ⟨g, j, none⟩) hg2 (f3 j)
                have ho := hown3.nx gw
                have Ho := Lib.hid ho
                have hgne : g ≠ wr.heap.size := by omega
                clear hW h1 h2 hown3 ho
                go_quiet (fail)
                go_wp2
                go_region
                go_wp2
                go_roundg (gk - 1)
                case measure => omega
                case rel =>
                  refine ⟨j + 1, by omega, by go_num, ?_, (by repeat (first | exact Nx.refl _ | assumption | apply Nx.alloc | apply Nx.drew | apply Nx.drewN | (refine Nx.setCell ?_ (by first | (simp; done) | (simp; omega) | omega) _) | refine Nx.trans ?_ (by assumption)))⟩
                  rw [Hstep.out, relax_nat, L1.out, L2.out, Int.min_eq_right (show q ≤ p by omega)]
                  exact ((Ho.out.nx (by repeat (first | exact Nx.refl _ | assumption | apply Nx.alloc | apply Nx.drew | apply Nx.drewN | (refine Nx.setCell ?_ (by first | (simp; done) | (simp; omega) | omega) _) | refine Nx.trans ?_ (by assumption)))).set x q).set y q
            · go_wp2
              go_roundg (gko - 1)
              case measure => omega
              case rel =>
                refine ⟨r + 1, by omega, by go_num, ?_, (by repeat (first | exact Nx.refl _ | assumption | apply Nx.alloc | apply Nx.drew | apply Nx.drewN | (refine Nx.setCell ?_ (by first | (simp; done) | (simp; omega) | omega) _) | refine Nx.trans ?_ (by assumption)))⟩
                have he : es.take j = es := List.take_of_length_le (by omega)
                rw [he] at hown3
                exact hown3
        · go_wp2
          go_ret
          have hrk : r = k := by omega
          subst hrk
          refine ⟨A', c', ?_, ?_, (by repeat (first | exact Nx.refl _ | assumption | apply Nx.alloc | apply Nx.drew | apply Nx.drewN | (refine Nx.setCell ?_ (by first | (simp; done) | (simp; omega) | omega) _) | refine Nx.trans ?_ (by assumption)))⟩
          · rw [labels_length hr]
            rfl
          · rw [labels_eq (passes_isLab hr) hr]
            exact (Hown2.out).mono (by omega)
end Go.Proofs.Ytjchabeiaajgiaa
