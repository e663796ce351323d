/- Contract: the labels of the reference (l2Labels). -/
import Derived.Test.YtjchabeiaajgiaaP1
import Derived.Test.YtjchabeiaajgiaaL2
namespace Go.Proofs.Ytjchabeiaajgiaa
open Go.RowKit

/-- what the reference knows behind some edges of a round that began at L -/
def Turned (n : Nat) (es : Es) (L M : List Int) (l : Es) (b : Bool) : Prop :=
  Lab0 n es M ∧ (b = false → M = L ∧ ∀ e ∈ l, lk L e.1 = lk L e.2) ∧ (b = true → sumN M < sumN L)
theorem Turned.start {n : Nat} {es : Es} {L : List Int} (h : Lab0 n es L) : Turned n es L L [] false := ⟨h, fun _ => ⟨rfl, by simp⟩, by simp⟩
theorem Turned.same {n : Nat} {es : Es} {L M : List Int} {l : Es} {b : Bool} {e : Int × Int} (h : Turned n es L M l b) (he : lk M e.1 = lk M e.2) : Turned n es L M (l ++ [e]) b := by
  refine ⟨h.1, fun hb => ?_, h.2.2⟩
  obtain ⟨rfl, h2⟩ := h.2.1 hb
  refine ⟨rfl, fun x hx => ?_⟩
  rcases List.mem_append.1 hx with hx | hx
  · exact h2 x hx
  · simp at hx; subst hx; exact he
theorem Turned.turn {n : Nat} {es : Es} {L M M' : List Int} {l : Es} {b : Bool} {e : Int × Int} (h : Turned n es L M l b) (hM : Lab0 n es M') (hs : sumN M' < sumN M) : Turned n es L M' (l ++ [e]) true := by
  refine ⟨hM, by simp, fun _ => ?_⟩
  cases b with
  | false => obtain ⟨rfl, _⟩ := h.2.1 rfl; exact hs
  | true => have := h.2.2 rfl; omega

set_option maxRecDepth 100000 in
set_option maxHeartbeats 2000000 in
theorem l2Labels_c (n : Nat) (A : Option Addr) (c : Nat) (es : List (Int × Int)) (w : World) (hx : EdgesAt w A es) (hl : es.length ≤ 1048576) (hn16 : n ≤ 16) (hr : InR n es) (hd : ∀ e ∈ es, e.1 ≠ e.2) :
    Calls Try.prog 81 #[.agg #[V n, .slice A es.length c]] w (RetI 3 (labels n es) w) := by
  obtain ⟨i0, hi, hz0, hz1, hz2⟩ := info_parts infoI
  have Hi := Lib.hid hi
  have Hz0 := Lib.hid hz0
  have Hz1 := Lib.hid hz1
  have Hz2 := Lib.hid hz2
  clear hi hz0 hz1 hz2
  go_enter Try.func81, Try.ntmps81
  go_wp2
  generalize hW0 : World.alloc w _ = W0
  have gn0 : Nx w W0 := by subst hW0; exact (by repeat (first | exact Nx.refl _ | assumption | apply Nx.alloc | apply Nx.drew | apply Nx.drewN | (refine Nx.setCell ?_ (by first | (simp; done) | (simp; omega) | omega) _) | refine Nx.trans ?_ (by assumption)))
  have gs0 : w.heap.size < W0.heap.size := by subst hW0; simp
  have b0 : W0.cell? ⟨w.heap.size, 0, none⟩ = some (V n) := by subst hW0; go_simp
  have b1 : W0.cell? ⟨w.heap.size, 1, none⟩ = some (.slice A es.length c) := by subst hW0; go_simp
  have hx0 := hx.nx gn0
  have ho0 := OwnI.empty W0 W0.heap.size 3 (Nat.le_refl _)
  rw [show w.heap.size + 1 = W0.heap.size by subst hW0; simp]
  clear hW0
  go_loopg [3, 4] n (fun gk out i wr => ∃ (k : Nat) (A' : Option Addr) (c' : Nat), k + gk = n ∧ i = .int .i64 k ∧ out = .slice A' k c' ∧ OwnI wr W0.heap.size 3 A' c' (idL k) ∧ Nx W0 wr)
  case atStart => exact ⟨0, _, 0, by omega, rfl, rfl, ho0, (by repeat (first | exact Nx.refl _ | assumption | apply Nx.alloc | apply Nx.drew | apply Nx.drewN | (refine Nx.setCell ?_ (by first | (simp; done) | (simp; omega) | omega) _) | refine Nx.trans ?_ (by assumption)))⟩
  case round =>
    obtain ⟨k, A', c', hk, rfl, rfl, hown, hn⟩ := hrel
    have c0 := hn.cell (p := ⟨w.heap.size, 0, none⟩) gs0 b0
    have c1 := hn.cell (p := ⟨w.heap.size, 1, none⟩) gs0 b1
    by_cases hlt : k < n
    · go_wp2_with (at_builtin; go_must (refine appI (base := W0.heap.size) (t := 3) (idL k) wr.heap.size k rfl rfl Try.underlying27 Hi.out Hz0.out Hz1.out Hz2.out rfl (by rw [idL_length]; rfl) (hown.nx (by repeat (first | exact Nx.refl _ | assumption | apply Nx.alloc | apply Nx.drew | apply Nx.drewN | (refine Nx.setCell ?_ (by first | (simp; done) | (simp; omega) | omega) _) | refine Nx.trans ?_ (by assumption)))) rfl (by go_simp) (by rw [idL_length]; omega) (by have := hn.size; simp; omega) ?_; intro A2 c2 w2 hown2 hnx2 _ _))
      go_roundg (gk - 1)
      case measure => omega
      case rel => exact ⟨k + 1, A2, c2, by omega, by go_num, by simp [idL_length], by rw [idL_succ]; exact hown2, hnx2 W0 (Nat.le_refl _) (hn.alloc _)⟩
    · obtain rfl : k = n := by omega
      have hsz := hn.size
      have Hown := Lib.hid hown
      clear hown ho0 hx hlt hk
      go_wp2
      go_loopg [5] (2 * sumN (idL k) + 1) (fun gk ag wr2 => ∃ (L : List Int) (b : Bool), ag = .bool b ∧ Lab0 k es L ∧ OwnI wr2 W0.heap.size 3 A' c' L ∧ Nx W0 wr2 ∧ (b = false → ∀ e ∈ es, lk L e.1 = lk L e.2) ∧ 2 * sumN L + b.toNat ≤ gk)
      case atStart => exact ⟨_, true, rfl, idL_lab0 k es, Hown.out, hn, by simp, by simp⟩
      case round =>
        obtain ⟨L, b, rfl, hlab, hown2, hn2, hfin, hms⟩ := hrel
        obtain ⟨gko, rfl⟩ : ∃ g : Nat, g = gk := ⟨_, rfl⟩
        have c0 := hn2.cell (p := ⟨w.heap.size, 0, none⟩) gs0 b0
        have c1 := hn2.cell (p := ⟨w.heap.size, 1, none⟩) gs0 b1
        have hsz2 := hn2.size
        have Hown2 := Lib.hid hown2
        have Hlab := Lib.hid hlab
        have Hfin := Lib.hid hfin
        clear hown2 hlab hfin hn
        cases b with
        | true =>
          go_wp2
          go_loopg [5, 6] es.length (fun gk ag i wr3 => ∃ (j : Nat) (M : List Int) (b : Bool), j + gk = es.length ∧ i = .int .i64 j ∧ ag = .bool b ∧ Turned k es L M (es.take j) b ∧ OwnI wr3 W0.heap.size 3 A' c' M ∧ Nx W0 wr3)
          case atStart => exact ⟨0, L, false, by omega, rfl, rfl, Turned.start Hlab.out, Hown2.out, hn2⟩
          case round =>
            obtain ⟨j, M, b, hj, rfl, rfl, hT, hown3, hn3⟩ := hrel
            have c0 := hn3.cell (p := ⟨w.heap.size, 0, none⟩) gs0 b0
            have c1 := hn3.cell (p := ⟨w.heap.size, 1, none⟩) gs0 b1
            have hsz3 := hn3.size
            by_cases hje : j < es.length
            · have hM : M.length = k := hT.1.1
              have hstep : es.take (j + 1) = es.take j ++ [es[j]] := List.take_succ_eq_append_getElem hje
              have hmem : es[j] ∈ es := List.getElem_mem hje
              have her := hr es[j] (List.getElem_mem hje)
              have hed := hd es[j] (List.getElem_mem hje)
              obtain ⟨b', off, rfl, hb, hc⟩ := hx0 (by omega)
              have h1 := hn3.cell (p := ⟨b', off + j * 2, none⟩) hb (hc j hje).1
              have h2 := hn3.cell (p := ⟨b', off + j * 2 + 1, none⟩) hb (hc j hje).2
              clear hc
              generalize es[j] = e at *
              obtain ⟨x, y⟩ := e
              have Hstep := Lib.hid hstep
              have Hmem := Lib.hid hmem
              have Her := Lib.hid her
              clear hstep hmem
              obtain ⟨e1, e2, e3, e4⟩ := her
              obtain ⟨x, rfl⟩ := Int.eq_ofNat_of_zero_le e1
              obtain ⟨y, rfl⟩ := Int.eq_ofNat_of_zero_le e3
              have Hed := Lib.hid hed
              clear hed
              have hxk' : x < k := by simp at e2; omega
              have hyk' : y < k := by simp at e4; omega
              have hxk : x < M.length := by omega
              have hyk : y < M.length := by omega
              obtain ⟨g, rfl, hg1, hg2⟩ := hown3.at (by omega)
              have f1 := hown3.cell hxk
              have f2 := hown3.cell hyk
              have f3 := hown3.free
              have l1 : lk M (x : Int) = M[x] := by simp [lk, hxk]
              have l2 : lk M (y : Int) = M[y] := by simp [lk, hyk]
              have hp0 : 0 ≤ M[x] := by have := (hT.1.2 (x : Int) (by omega) (by omega)).1; omega
              have hq0 : 0 ≤ M[y] := by have := (hT.1.2 (y : Int) (by omega) (by omega)).1; omega
              generalize M[x] = p at *
              generalize M[y] = q at *
              have L1 := Lib.hid l1
              have L2 := Lib.hid l2
              have HM := Lib.hid hM
              have HT := Lib.hid hT
              have Ho := Lib.hid hown3
              clear l1 l2 hM e1 e3 hT hown3
              rcases Int.lt_trichotomy p q with hpq | hpq | hpq
              · go_wp2
                go_roundg (gk - 1)
                case measure => omega
                case rel =>
                  have hre := relax_lt (L := M) (e := ((x : Int), (y : Int))) HM.out Her.out (by simp only [L1.out, L2.out]; exact hpq)
                  simp only [L1.out, up, Int.toNat_natCast] at hre
                  refine ⟨j + 1, M.set y p, true, by omega, by go_num, rfl, ?_, Ho.out.set y p, (by repeat (first | exact Nx.refl _ | assumption | apply Nx.alloc | apply Nx.drew | apply Nx.drewN | (refine Nx.setCell ?_ (by first | (simp; done) | (simp; omega) | omega) _) | refine Nx.trans ?_ (by assumption)))⟩
                  rw [Hstep.out, ← hre]
                  exact HT.out.turn (HT.out.1.relax hr Hmem.out) (by rw [hre]; exact sumN_up (L := M) (x := (y : Int)) (by omega) (by omega) hp0 (by rw [L2.out]; exact hpq))
              · subst hpq
                go_wp2
                go_roundg (gk - 1)
                case measure => omega
                case rel =>
                  refine ⟨j + 1, M, b, by omega, by go_num, rfl, ?_, Ho.out, (by repeat (first | exact Nx.refl _ | assumption | apply Nx.alloc | apply Nx.drew | apply Nx.drewN | (refine Nx.setCell ?_ (by first | (simp; done) | (simp; omega) | omega) _) | refine Nx.trans ?_ (by assumption)))⟩
                  rw [Hstep.out]
                  exact HT.out.same (by simp only [L1.out, L2.out])
              · go_wp2
                go_roundg (gk - 1)
                case measure => omega
                case rel =>
                  have hre := relax_gt (L := M) (e := ((x : Int), (y : Int))) HM.out Her.out Hed.out (by simp only [L1.out, L2.out]; exact hpq)
                  simp only [L2.out, up, Int.toNat_natCast] at hre
                  refine ⟨j + 1, M.set x q, true, by omega, by go_num, rfl, ?_, Ho.out.set x q, (by repeat (first | exact Nx.refl _ | assumption | apply Nx.alloc | apply Nx.drew | apply Nx.drewN | (refine Nx.setCell ?_ (by first | (simp; done) | (simp; omega) | omega) _) | refine Nx.trans ?_ (by assumption)))⟩
                  rw [Hstep.out, ← hre]
                  exact HT.out.turn (HT.out.1.relax hr Hmem.out) (by rw [hre]; exact sumN_up (L := M) (x := (x : Int)) (by omega) (by omega) hq0 (by rw [L1.out]; exact hpq))
            · go_wp2
              have he : es.take j = es := List.take_of_length_le (by omega)
              rw [he] at hT
              cases b with
              | true =>
                go_roundg (gko - 1)
                case measure => simp at hms; omega
                case rel => exact ⟨M, true, rfl, hT.1, hown3, hn3, by simp, by have := hT.2.2 rfl; simp at hms ⊢; omega⟩
              | false =>
                go_roundg (gko - 1)
                case measure => simp at hms; omega
                case rel =>
                  obtain ⟨rfl, h2⟩ := hT.2.1 rfl
                  exact ⟨M, false, rfl, hT.1, hown3, hn3, fun _ => h2, by simp at hms ⊢; omega⟩
        | false =>
          go_wp2
          go_ret
          have hlab : IsLab k es L := ⟨Hlab.out, by first | exact Hfin.out rfl | exact Hfin.out trivial⟩
          refine ⟨A', c', ?_, ?_, (by repeat (first | exact Nx.refl _ | assumption | apply Nx.alloc | apply Nx.drew | apply Nx.drewN | (refine Nx.setCell ?_ (by first | (simp; done) | (simp; omega) | omega) _) | refine Nx.trans ?_ (by assumption)))⟩
          · rw [labels_length hr]
            rfl
          · rw [labels_eq hlab hr]
            exact (Hown2.out).mono (by omega)
end Go.Proofs.Ytjchabeiaajgiaa
