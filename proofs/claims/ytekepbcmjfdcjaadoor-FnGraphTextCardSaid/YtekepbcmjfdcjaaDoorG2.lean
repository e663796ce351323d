/- Contracts: what a valid graph is; GraphValid of the reference and of the program. -/
import Derived.Test.YtekepbcmjfdcjaaDoorG1
namespace Go.Proofs.YtekepbcmjfdcjaaDoor
open Go.RowKit

/-- edge j of a row stands as it must in a graph of n nodes -/
def okAt (n : Int) (es : List (Int × Int)) (j : Nat) : Prop :=
  ∀ e, es[j]? = some e → 0 ≤ e.1 ∧ e.1 < e.2 ∧ e.2 < n ∧ ∀ d, 0 < j → es[j - 1]? = some d → ltE d e
/-- a valid graph -/
def Valid (n : Int) (es : List (Int × Int)) : Prop := 1 ≤ n ∧ n ≤ 16 ∧ es.length ≤ 40 ∧ ∀ j, j < es.length → okAt n es j
noncomputable instance (n : Int) (es : List (Int × Int)) : Decidable (Valid n es) := Classical.propDecidable _

theorem valid_fix {n : Int} {es : List (Int × Int)} (h : ¬ (1 ≤ n ∧ n ≤ 16 ∧ es.length ≤ 40)) : decide (Valid n es) = false := by
  simp only [decide_eq_false_iff_not]; exact fun hv => h ⟨hv.1, hv.2.1, hv.2.2.1⟩

theorem valid_no {n : Int} {es : List (Int × Int)} {k : Nat} {e : Int × Int} (he : es[k]? = some e)
    (h : ¬ (0 ≤ e.1 ∧ e.1 < e.2 ∧ e.2 < n ∧ ∀ d, 0 < k → es[k - 1]? = some d → ltE d e)) : decide (Valid n es) = false := by
  simp only [decide_eq_false_iff_not]
  exact fun hv => h (hv.2.2.2 k ((List.getElem?_eq_some_iff.1 he).1) e he)
theorem valid_snoc {n : Int} {es : List (Int × Int)} {k : Nat} {e : Int × Int} (hok : ∀ j, j < k → okAt n es j) (he : es[k]? = some e)
    (h : 0 ≤ e.1 ∧ e.1 < e.2 ∧ e.2 < n ∧ ∀ d, 0 < k → es[k - 1]? = some d → ltE d e) : ∀ j, j < k + 1 → okAt n es j := fun j hj => by
  rcases Nat.lt_succ_iff_lt_or_eq.1 hj with h' | rfl
  · exact hok j h'
  · intro e' he'
    rw [he] at he'; injection he' with he'; subst he'
    exact h

set_option maxRecDepth 100000 in
set_option maxHeartbeats 2000000 in
theorem sGraphValid_c (n : Int) (A : Option Addr) (c : Nat) (es : List (Int × Int)) (w : World) (hx : EdgesAt w A es) (hl : es.length < 1099511627776) :
    Calls Tryd.prog 14 #[.agg #[V n, .slice A es.length c]] w (RetV (.bool (decide (Valid n es))) w) := by
  by_cases hh : 1 ≤ n ∧ n ≤ 16 ∧ es.length ≤ 40
  · have Hl := Lib.hid hl
    obtain ⟨h1, h2, h3⟩ := hh
    clear hl
    go_enter Tryd.func14, Tryd.ntmps14
    go_wp2
    generalize hW : w.alloc _ = W1
    have gn1 : Nx w W1 := by subst hW; exact (by repeat (first | exact Nx.refl _ | assumption | apply Nx.alloc | apply Nx.drew | apply Nx.drewN | (refine Nx.setCell ?_ (by first | (simp; done) | (simp; omega) | omega) _) | refine Nx.trans ?_ (by assumption)))
    have gb : w.heap.size < W1.heap.size := by subst hW; simp
    have b0 : W1.cell? ⟨w.heap.size, 0, none⟩ = some (V n) := by subst hW; go_simp
    have b1 : W1.cell? ⟨w.heap.size, 1, none⟩ = some (.slice A es.length c) := by subst hW; go_simp
    clear hW
    go_loopw [3] (fun i wr => ∃ k : Nat, k ≤ es.length ∧ i = .int .i64 k ∧ Nx W1 wr ∧ ∀ j, j < k → okAt n es j) (fun i _ => es.length - (intOf i).toNat)
    case atStart => exact ⟨0, by omega, rfl, Nx.refl _, fun j hj => by omega⟩
    case round =>
      obtain ⟨k, hk, rfl, hn, hok⟩ := hrel
      have c0 := hn.cell (p := ⟨w.heap.size, 0, none⟩) gb b0
      have c1 := hn.cell (p := ⟨w.heap.size, 1, none⟩) gb b1
      have Hok := Lib.hid hok
      clear hok b0 b1
      by_cases hlt : k < es.length
      · obtain ⟨b, off, rfl, hb, hc⟩ := hx (by omega)
        have h1' := (gn1.trans hn).cell (p := ⟨b, off + k * 2, none⟩) hb (hc k hlt).1
        have h2' := (gn1.trans hn).cell (p := ⟨b, off + k * 2 + 1, none⟩) hb (hc k hlt).2
        have hp : 0 < k → wr.cell? ⟨b, off + (k - 1) * 2, none⟩ = some (V (es[k - 1]).1) ∧ wr.cell? ⟨b, off + (k - 1) * 2 + 1, none⟩ = some (V (es[k - 1]).2) := fun _ =>
          ⟨(gn1.trans hn).cell hb (hc (k - 1) (by omega)).1, (gn1.trans hn).cell hb (hc (k - 1) (by omega)).2⟩
        have hek : es[k]? = some es[k] := List.getElem?_eq_getElem hlt
        generalize es[k] = e at *
        obtain ⟨x, y⟩ := e
        have Hek := Lib.hid hek
        clear hc hx hek
        go_wp2
        generalize hW : wr.alloc _ = W
        have gn : Nx wr W := by subst hW; exact (by repeat (first | exact Nx.refl _ | assumption | apply Nx.alloc | apply Nx.drew | apply Nx.drewN | (refine Nx.setCell ?_ (by first | (simp; done) | (simp; omega) | omega) _) | refine Nx.trans ?_ (by assumption)))
        have e0 : W.cell? ⟨wr.heap.size, 0, none⟩ = some (V x) := by subst hW; go_simp
        have e1 : W.cell? ⟨wr.heap.size, 1, none⟩ = some (V y) := by subst hW; go_simp
        have c0 := gn.cell (p := ⟨w.heap.size, 0, none⟩) (by have := hn.size; simp; omega) c0
        have c1 := gn.cell (p := ⟨w.heap.size, 1, none⟩) (by have := hn.size; simp; omega) c1
        have gs : wr.heap.size < W.heap.size := by subst hW; simp
        have hwn : b < wr.heap.size := by have := gn1.size; have := hn.size; omega
        have hwn' : b < W.heap.size := by omega
        have gs0 : w.heap.size < W.heap.size := by have := hn.size; omega
        have hp : 0 < k → W.cell? ⟨b, off + (k - 1) * 2, none⟩ = some (V (es[k - 1]).1) ∧ W.cell? ⟨b, off + (k - 1) * 2 + 1, none⟩ = some (V (es[k - 1]).2) := fun h0 =>
          ⟨gn.cell hwn (hp h0).1, gn.cell hwn (hp h0).2⟩
        clear hW h1' h2'
        by_cases t1 : x < 0
        · (refine tail_quiet 28 (by kernel_rfl) (by kernel_rfl) (fun W2 gW2 => ?_); obtain ⟨hcW2, hfW2, hzW2⟩ := gW2.rules; simp only [List.take_succ_cons, List.take_zero, List.drop_succ_cons, List.drop_zero]; (repeat go_big_quiet_step (fail)); with_reducible refine wpQuiet_nil ?_)
          go_wp2
          go_ret
          exact RetV.bool (valid_no Hek.out (fun h => absurd h.1 (by simp; omega))).symm (by repeat (first | exact Nx.refl _ | assumption | apply Nx.alloc | apply Nx.drew | apply Nx.drewN | (refine Nx.setCell ?_ (by first | (simp; done) | (simp; omega) | omega) _) | refine Nx.trans ?_ (by assumption)))
        · by_cases t2 : y ≤ x
          · (refine tail_quiet 28 (by kernel_rfl) (by kernel_rfl) (fun W2 gW2 => ?_); obtain ⟨hcW2, hfW2, hzW2⟩ := gW2.rules; simp only [List.take_succ_cons, List.take_zero, List.drop_succ_cons, List.drop_zero]; (repeat go_big_quiet_step (fail)); with_reducible refine wpQuiet_nil ?_)
            go_wp2
            go_ret
            exact RetV.bool (valid_no Hek.out (fun h => absurd h.2.1 (by simp; omega))).symm (by repeat (first | exact Nx.refl _ | assumption | apply Nx.alloc | apply Nx.drew | apply Nx.drewN | (refine Nx.setCell ?_ (by first | (simp; done) | (simp; omega) | omega) _) | refine Nx.trans ?_ (by assumption)))
          · by_cases t3 : n ≤ y
            · (refine tail_quiet 28 (by kernel_rfl) (by kernel_rfl) (fun W2 gW2 => ?_); obtain ⟨hcW2, hfW2, hzW2⟩ := gW2.rules; simp only [List.take_succ_cons, List.take_zero, List.drop_succ_cons, List.drop_zero]; (repeat go_big_quiet_step (fail)); with_reducible refine wpQuiet_nil ?_)
              go_wp2
              go_ret
              exact RetV.bool (valid_no Hek.out (fun h => absurd h.2.2.1 (by simp; omega))).symm (by repeat (first | exact Nx.refl _ | assumption | apply Nx.alloc | apply Nx.drew | apply Nx.drewN | (refine Nx.setCell ?_ (by first | (simp; done) | (simp; omega) | omega) _) | refine Nx.trans ?_ (by assumption)))
            · by_cases t4 : 0 < k
              · obtain ⟨d0, d1⟩ := hp t4
                have hd : es[k - 1]? = some es[k - 1] := List.getElem?_eq_getElem (by omega)
                clear hp
                generalize es[k - 1] = d at *
                obtain ⟨u, v⟩ := d
                have Hd := Lib.hid hd
                clear hd
                by_cases t5 : ltE (u, v) (x, y)
                · have t6 : decide (ltE (u, v) (x, y)) = true := by simpa using t5
                  (refine tail_quiet 28 (by kernel_rfl) (by kernel_rfl) (fun W2 gW2 => ?_); obtain ⟨hcW2, hfW2, hzW2⟩ := gW2.rules; simp only [List.take_succ_cons, List.take_zero, List.drop_succ_cons, List.drop_zero]; (repeat go_big_quiet_step (fail)); with_reducible refine wpQuiet_nil ?_)
                  go_wp2_with (go_at_call 32; go_must (refine (l1Less_c u v x y _).mono ?_; rintro e w3 ⟨rfl, hn3⟩; obtain ⟨hc3, hf3, hz3⟩ := hn3.rules))
                  go_roundw
                  case rel => exact ⟨k + 1, by omega, by go_num, (by repeat (first | exact Nx.refl _ | assumption | apply Nx.alloc | apply Nx.drew | apply Nx.drewN | (refine Nx.setCell ?_ (by first | (simp; done) | (simp; omega) | omega) _) | refine Nx.trans ?_ (by assumption))), valid_snoc Hok.out Hek.out ⟨by simp; omega, by simp; omega, by simp; omega, fun d _ hd => by rw [Hd.out] at hd; injection hd with hd; exact hd ▸ t5⟩⟩
                  case measure => simp [intOf]; omega
                · have t6 : decide (ltE (u, v) (x, y)) = false := by simpa using t5
                  (refine tail_quiet 28 (by kernel_rfl) (by kernel_rfl) (fun W2 gW2 => ?_); obtain ⟨hcW2, hfW2, hzW2⟩ := gW2.rules; simp only [List.take_succ_cons, List.take_zero, List.drop_succ_cons, List.drop_zero]; (repeat go_big_quiet_step (fail)); with_reducible refine wpQuiet_nil ?_)
                  go_wp2_with (go_at_call 32; go_must (refine (l1Less_c u v x y _).mono ?_; rintro e w3 ⟨rfl, hn3⟩; obtain ⟨hc3, hf3, hz3⟩ := hn3.rules))
                  go_ret
                  exact RetV.bool (valid_no Hek.out (fun h => t5 (h.2.2.2 _ t4 Hd.out))).symm (by repeat (first | exact Nx.refl _ | assumption | apply Nx.alloc | apply Nx.drew | apply Nx.drewN | (refine Nx.setCell ?_ (by first | (simp; done) | (simp; omega) | omega) _) | refine Nx.trans ?_ (by assumption)))
              · clear hp
                (refine tail_quiet 28 (by kernel_rfl) (by kernel_rfl) (fun W2 gW2 => ?_); obtain ⟨hcW2, hfW2, hzW2⟩ := gW2.rules; simp only [List.take_succ_cons, List.take_zero, List.drop_succ_cons, List.drop_zero]; (repeat go_big_quiet_step (fail)); with_reducible refine wpQuiet_nil ?_)
                go_wp2
                go_roundw
                case rel => exact ⟨k + 1, by omega, by go_num, (by repeat (first | exact Nx.refl _ | assumption | apply Nx.alloc | apply Nx.drew | apply Nx.drewN | (refine Nx.setCell ?_ (by first | (simp; done) | (simp; omega) | omega) _) | refine Nx.trans ?_ (by assumption))), valid_snoc Hok.out Hek.out ⟨by simp; omega, by simp; omega, by simp; omega, fun d h _ => absurd h t4⟩⟩
                case measure => simp [intOf]; omega
      · have hv : decide (Valid n es) = true := by
          simp only [decide_eq_true_eq]; exact ⟨h1, h2, h3, fun j hj => Hok.out j (by omega)⟩
        go_wp2
        go_ret
        exact RetV.bool hv.symm (by repeat (first | exact Nx.refl _ | assumption | apply Nx.alloc | apply Nx.drew | apply Nx.drewN | (refine Nx.setCell ?_ (by first | (simp; done) | (simp; omega) | omega) _) | refine Nx.trans ?_ (by assumption)))
  · rw [valid_fix hh]
    by_cases h1 : 1 ≤ n
    · by_cases h2 : n ≤ 16
      · have h3 : ¬ es.length ≤ 40 := fun h => hh ⟨h1, h2, h⟩
        go_enter Tryd.func14, Tryd.ntmps14
        go_wp2
        go_ret
        exact RetV.bool rfl (by repeat (first | exact Nx.refl _ | assumption | apply Nx.alloc | apply Nx.drew | apply Nx.drewN | (refine Nx.setCell ?_ (by first | (simp; done) | (simp; omega) | omega) _) | refine Nx.trans ?_ (by assumption)))
      · go_enter Tryd.func14, Tryd.ntmps14
        go_wp2
        go_ret
        exact RetV.bool rfl (by repeat (first | exact Nx.refl _ | assumption | apply Nx.alloc | apply Nx.drew | apply Nx.drewN | (refine Nx.setCell ?_ (by first | (simp; done) | (simp; omega) | omega) _) | refine Nx.trans ?_ (by assumption)))
    · go_enter Tryd.func14, Tryd.ntmps14
      go_wp2
      go_ret
      exact RetV.bool rfl (by repeat (first | exact Nx.refl _ | assumption | apply Nx.alloc | apply Nx.drew | apply Nx.drewN | (refine Nx.setCell ?_ (by first | (simp; done) | (simp; omega) | omega) _) | refine Nx.trans ?_ (by assumption)))
set_option maxRecDepth 100000 in
set_option maxHeartbeats 2000000 in
theorem iGraphValid_c (n : Int) (A : Option Addr) (c : Nat) (es : List (Int × Int)) (w : World) (hx : EdgesAt w A es) (hl : es.length < 1099511627776) :
    Calls Tryd.prog 12 #[.agg #[V n, .slice A es.length c]] w (RetV (.bool (decide (Valid n es))) w) := by
  by_cases hh : 1 ≤ n ∧ n ≤ 16 ∧ es.length ≤ 40
  · have Hl := Lib.hid hl
    obtain ⟨h1, h2, h3⟩ := hh
    clear hl
    go_enter Tryd.func12, Tryd.ntmps12
    go_wp2
    generalize hW : w.alloc _ = W1
    have gn1 : Nx w W1 := by subst hW; exact (by repeat (first | exact Nx.refl _ | assumption | apply Nx.alloc | apply Nx.drew | apply Nx.drewN | (refine Nx.setCell ?_ (by first | (simp; done) | (simp; omega) | omega) _) | refine Nx.trans ?_ (by assumption)))
    have gb : w.heap.size < W1.heap.size := by subst hW; simp
    have b0 : W1.cell? ⟨w.heap.size, 0, none⟩ = some (V n) := by subst hW; go_simp
    have b1 : W1.cell? ⟨w.heap.size, 1, none⟩ = some (.slice A es.length c) := by subst hW; go_simp
    clear hW
    go_loopw [22] (fun i wr => ∃ k : Nat, k ≤ es.length ∧ i = .int .i64 k ∧ Nx W1 wr ∧ ∀ j, j < k → okAt n es j) (fun i _ => es.length - (intOf i).toNat)
    case atStart => exact ⟨0, by omega, rfl, Nx.refl _, fun j hj => by omega⟩
    case round =>
      obtain ⟨k, hk, rfl, hn, hok⟩ := hrel
      have c0 := hn.cell (p := ⟨w.heap.size, 0, none⟩) gb b0
      have c1 := hn.cell (p := ⟨w.heap.size, 1, none⟩) gb b1
      have Hok := Lib.hid hok
      clear hok b0 b1
      by_cases hlt : k < es.length
      · obtain ⟨b, off, rfl, hb, hc⟩ := hx (by omega)
        have h1' := (gn1.trans hn).cell (p := ⟨b, off + k * 2, none⟩) hb (hc k hlt).1
        have h2' := (gn1.trans hn).cell (p := ⟨b, off + k * 2 + 1, none⟩) hb (hc k hlt).2
        have hp : 0 < k → wr.cell? ⟨b, off + (k - 1) * 2, none⟩ = some (V (es[k - 1]).1) ∧ wr.cell? ⟨b, off + (k - 1) * 2 + 1, none⟩ = some (V (es[k - 1]).2) := fun _ =>
          ⟨(gn1.trans hn).cell hb (hc (k - 1) (by omega)).1, (gn1.trans hn).cell hb (hc (k - 1) (by omega)).2⟩
        have hek : es[k]? = some es[k] := List.getElem?_eq_getElem hlt
        generalize es[k] = e at *
        obtain ⟨x, y⟩ := e
        have Hek := Lib.hid hek
        clear hc hx hek
        go_wp2
        generalize hW : wr.alloc _ = W
        have gn : Nx wr W := by subst hW; exact (by repeat (first | exact Nx.refl _ | assumption | apply Nx.alloc | apply Nx.drew | apply Nx.drewN | (refine Nx.setCell ?_ (by first | (simp; done) | (simp; omega) | omega) _) | refine Nx.trans ?_ (by assumption)))
        have e0 : W.cell? ⟨wr.heap.size, 0, none⟩ = some (V x) := by subst hW; go_simp
        have e1 : W.cell? ⟨wr.heap.size, 1, none⟩ = some (V y) := by subst hW; go_simp
        have c0 := gn.cell (p := ⟨w.heap.size, 0, none⟩) (by have := hn.size; simp; omega) c0
        have c1 := gn.cell (p := ⟨w.heap.size, 1, none⟩) (by have := hn.size; simp; omega) c1
        have gs : wr.heap.size < W.heap.size := by subst hW; simp
        have hwn : b < wr.heap.size := by have := gn1.size; have := hn.size; omega
        have hwn' : b < W.heap.size := by omega
        have gs0 : w.heap.size < W.heap.size := by have := hn.size; omega
        have hp : 0 < k → W.cell? ⟨b, off + (k - 1) * 2, none⟩ = some (V (es[k - 1]).1) ∧ W.cell? ⟨b, off + (k - 1) * 2 + 1, none⟩ = some (V (es[k - 1]).2) := fun h0 =>
          ⟨gn.cell hwn (hp h0).1, gn.cell hwn (hp h0).2⟩
        clear hW h1' h2'
        by_cases t1 : x < 0
        · (refine tail_quiet 28 (by kernel_rfl) (by kernel_rfl) (fun W2 gW2 => ?_); obtain ⟨hcW2, hfW2, hzW2⟩ := gW2.rules; simp only [List.take_succ_cons, List.take_zero, List.drop_succ_cons, List.drop_zero]; (repeat go_big_quiet_step (fail)); with_reducible refine wpQuiet_nil ?_)
          go_wp2
          go_ret
          exact RetV.bool (valid_no Hek.out (fun h => absurd h.1 (by simp; omega))).symm (by repeat (first | exact Nx.refl _ | assumption | apply Nx.alloc | apply Nx.drew | apply Nx.drewN | (refine Nx.setCell ?_ (by first | (simp; done) | (simp; omega) | omega) _) | refine Nx.trans ?_ (by assumption)))
        · by_cases t2 : y ≤ x
          · (refine tail_quiet 28 (by kernel_rfl) (by kernel_rfl) (fun W2 gW2 => ?_); obtain ⟨hcW2, hfW2, hzW2⟩ := gW2.rules; simp only [List.take_succ_cons, List.take_zero, List.drop_succ_cons, List.drop_zero]; (repeat go_big_quiet_step (fail)); with_reducible refine wpQuiet_nil ?_)
            go_wp2
            go_ret
            exact RetV.bool (valid_no Hek.out (fun h => absurd h.2.1 (by simp; omega))).symm (by repeat (first | exact Nx.refl _ | assumption | apply Nx.alloc | apply Nx.drew | apply Nx.drewN | (refine Nx.setCell ?_ (by first | (simp; done) | (simp; omega) | omega) _) | refine Nx.trans ?_ (by assumption)))
          · by_cases t3 : n ≤ y
            · (refine tail_quiet 28 (by kernel_rfl) (by kernel_rfl) (fun W2 gW2 => ?_); obtain ⟨hcW2, hfW2, hzW2⟩ := gW2.rules; simp only [List.take_succ_cons, List.take_zero, List.drop_succ_cons, List.drop_zero]; (repeat go_big_quiet_step (fail)); with_reducible refine wpQuiet_nil ?_)
              go_wp2
              go_ret
              exact RetV.bool (valid_no Hek.out (fun h => absurd h.2.2.1 (by simp; omega))).symm (by repeat (first | exact Nx.refl _ | assumption | apply Nx.alloc | apply Nx.drew | apply Nx.drewN | (refine Nx.setCell ?_ (by first | (simp; done) | (simp; omega) | omega) _) | refine Nx.trans ?_ (by assumption)))
            · by_cases t4 : 0 < k
              · obtain ⟨d0, d1⟩ := hp t4
                have hd : es[k - 1]? = some es[k - 1] := List.getElem?_eq_getElem (by omega)
                clear hp
                generalize es[k - 1] = d at *
                obtain ⟨u, v⟩ := d
                have Hd := Lib.hid hd
                clear hd
                by_cases t5 : ltE (u, v) (x, y)
                · have t6 : decide (0 ≤ cmpE (u, v) (x, y)) = false := by have := (cmpE_lt (u, v) (x, y)).2 t5; simp; omega
                  (refine tail_quiet 28 (by kernel_rfl) (by kernel_rfl) (fun W2 gW2 => ?_); obtain ⟨hcW2, hfW2, hzW2⟩ := gW2.rules; simp only [List.take_succ_cons, List.take_zero, List.drop_succ_cons, List.drop_zero]; (repeat go_big_quiet_step (fail)); with_reducible refine wpQuiet_nil ?_)
                  go_wp2_with (go_at_call 29; go_must (refine (compareEdges_c u v x y _).mono ?_; rintro e w3 ⟨rfl, hn3⟩; obtain ⟨hc3, hf3, hz3⟩ := hn3.rules))
                  go_roundw
                  case rel => exact ⟨k + 1, by omega, by go_num, (by repeat (first | exact Nx.refl _ | assumption | apply Nx.alloc | apply Nx.drew | apply Nx.drewN | (refine Nx.setCell ?_ (by first | (simp; done) | (simp; omega) | omega) _) | refine Nx.trans ?_ (by assumption))), valid_snoc Hok.out Hek.out ⟨by simp; omega, by simp; omega, by simp; omega, fun d _ hd => by rw [Hd.out] at hd; injection hd with hd; exact hd ▸ t5⟩⟩
                  case measure => simp [intOf]; omega
                · have t6 : decide (0 ≤ cmpE (u, v) (x, y)) = true := by have := mt (cmpE_lt (u, v) (x, y)).1 t5; simp; omega
                  (refine tail_quiet 28 (by kernel_rfl) (by kernel_rfl) (fun W2 gW2 => ?_); obtain ⟨hcW2, hfW2, hzW2⟩ := gW2.rules; simp only [List.take_succ_cons, List.take_zero, List.drop_succ_cons, List.drop_zero]; (repeat go_big_quiet_step (fail)); with_reducible refine wpQuiet_nil ?_)
                  go_wp2_with (go_at_call 29; go_must (refine (compareEdges_c u v x y _).mono ?_; rintro e w3 ⟨rfl, hn3⟩; obtain ⟨hc3, hf3, hz3⟩ := hn3.rules))
                  go_ret
                  exact RetV.bool (valid_no Hek.out (fun h => t5 (h.2.2.2 _ t4 Hd.out))).symm (by repeat (first | exact Nx.refl _ | assumption | apply Nx.alloc | apply Nx.drew | apply Nx.drewN | (refine Nx.setCell ?_ (by first | (simp; done) | (simp; omega) | omega) _) | refine Nx.trans ?_ (by assumption)))
              · clear hp
                (refine tail_quiet 28 (by kernel_rfl) (by kernel_rfl) (fun W2 gW2 => ?_); obtain ⟨hcW2, hfW2, hzW2⟩ := gW2.rules; simp only [List.take_succ_cons, List.take_zero, List.drop_succ_cons, List.drop_zero]; (repeat go_big_quiet_step (fail)); with_reducible refine wpQuiet_nil ?_)
                go_wp2
                go_roundw
                case rel => exact ⟨k + 1, by omega, by go_num, (by repeat (first | exact Nx.refl _ | assumption | apply Nx.alloc | apply Nx.drew | apply Nx.drewN | (refine Nx.setCell ?_ (by first | (simp; done) | (simp; omega) | omega) _) | refine Nx.trans ?_ (by assumption))), valid_snoc Hok.out Hek.out ⟨by simp; omega, by simp; omega, by simp; omega, fun d h _ => absurd h t4⟩⟩
                case measure => simp [intOf]; omega
      · have hv : decide (Valid n es) = true := by
          simp only [decide_eq_true_eq]; exact ⟨h1, h2, h3, fun j hj => Hok.out j (by omega)⟩
        go_wp2
        go_ret
        exact RetV.bool hv.symm (by repeat (first | exact Nx.refl _ | assumption | apply Nx.alloc | apply Nx.drew | apply Nx.drewN | (refine Nx.setCell ?_ (by first | (simp; done) | (simp; omega) | omega) _) | refine Nx.trans ?_ (by assumption)))
  · rw [valid_fix hh]
    by_cases h1 : 1 ≤ n
    · by_cases h2 : n ≤ 16
      · have h3 : ¬ es.length ≤ 40 := fun h => hh ⟨h1, h2, h⟩
        go_enter Tryd.func12, Tryd.ntmps12
        go_wp2
        go_ret
        exact RetV.bool rfl (by repeat (first | exact Nx.refl _ | assumption | apply Nx.alloc | apply Nx.drew | apply Nx.drewN | (refine Nx.setCell ?_ (by first | (simp; done) | (simp; omega) | omega) _) | refine Nx.trans ?_ (by assumption)))
      · go_enter Tryd.func12, Tryd.ntmps12
        go_wp2
        go_ret
        exact RetV.bool rfl (by repeat (first | exact Nx.refl _ | assumption | apply Nx.alloc | apply Nx.drew | apply Nx.drewN | (refine Nx.setCell ?_ (by first | (simp; done) | (simp; omega) | omega) _) | refine Nx.trans ?_ (by assumption)))
    · go_enter Tryd.func12, Tryd.ntmps12
      go_wp2
      go_ret
      exact RetV.bool rfl (by repeat (first | exact Nx.refl _ | assumption | apply Nx.alloc | apply Nx.drew | apply Nx.drewN | (refine Nx.setCell ?_ (by first | (simp; done) | (simp; omega) | omega) _) | refine Nx.trans ?_ (by assumption)))
end Go.Proofs.YtekepbcmjfdcjaaDoor
