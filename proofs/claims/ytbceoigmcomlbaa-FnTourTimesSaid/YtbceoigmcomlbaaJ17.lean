import Derived.Test.YtbceoigmcomlbaaJ16
import Derived.Deep.CutRange
import Derived.Deep.DeepCutAuto
import Derived.Test.YtbceoigmcomlbaaJ15
/- Contracts: l6Edges, TourValid of the reference. -/
namespace Go.Proofs.Ytbceoigmcomlbaa
open Go.RowKit set_option linter.unusedVariables false set_option linter.unusedSimpArgs false

theorem eset_take {xs : List Int} {k : Nat} {x y : Int} (hx : xs[k]? = some x) (hy : xs[k + 1]? = some y) : eset (stepsL (xs.take (k + 2))) = addE (eset (stepsL (xs.take (k + 1)))) (eOf x y) := by
  rw [stepsL_take hx hy, eset_snoc]
theorem eset_take_len (xs : List Int) (k : Nat) : (eset (stepsL (xs.take (k + 1)))).length ≤ k := by
  have h := eset_len (stepsL (xs.take (k + 1)))
  rw [stepsL_len, List.length_take] at h
  omega

set_option maxRecDepth 100000 in
set_option maxHeartbeats 4000000 in
theorem l6Edges_c (A : Option Addr) (c : Nat) (xs : List Int) (w : World) (hx : IntsAt w A xs) (hl : xs.length ≤ 100000) :
    Calls Try.prog 45 #[.slice A xs.length c] w (RetE 30 (eset (stepsL xs)) w) := by
  go_enter Try.func45, Try.ntmps45
  go_wp2
  generalize hW1 : World.alloc _ _ = W1
  have gW1 : Nx w W1 := by subst hW1; exact (by repeat (first | exact Nx.refl _ | assumption | apply Nx.alloc | apply Nx.drew | apply Nx.drewN | (refine Nx.setCell ?_ (by first | (simp; done) | (simp; omega) | omega) _) | refine Nx.trans ?_ (by assumption)))
  have sW1 : W1.heap.size = w.heap.size + 1 := by subst hW1; simp
  have X0 : Bx W1 (w.heap.size) 30 [] := by subst hW1; have h := Bx.alloc w 30 []; simpa using h
  have X0_z := X0.lt
  have HsW1 := Lib.hid sW1
  have lW1 : w.heap.size + 1 ≤ W1.heap.size := by omega
  clear hW1 sW1
  have ho0 : OwnE W1 w.heap.size 30 _ 0 [] := X0.emptyE (Nat.le_refl _)
  go_loopg [3, 4] xs.length (fun gk o i wr => ∃ (k : Nat) (A' : Option Addr) (c' : Nat), k + gk = xs.length ∧ i = .int .i64 ((k + 1 : Nat) : Int) ∧ o = .slice A' (eset (stepsL (xs.take (k + 1)))).length c' ∧ OwnE wr w.heap.size 30 A' c' (eset (stepsL (xs.take (k + 1)))) ∧ Nx w wr)
  case atStart => exact ⟨0, some ⟨w.heap.size, 0, none⟩, 0, by omega, rfl, by rw [stepsL_one]; rfl, by rw [stepsL_one]; exact ho0, gW1⟩
  case round =>
    clear X0 ho0
    obtain ⟨k, A', c', hk, rfl, rfl, hown, hn⟩ := hrel
    have hlen := eset_take_len xs k
    by_cases hlt : k + 1 < xs.length
    · obtain ⟨x, hx0⟩ : ∃ x, xs[k]? = some x := ⟨_, List.getElem?_eq_getElem (by omega)⟩
      obtain ⟨y, hy0⟩ : ∃ x, xs[k + 1]? = some x := ⟨_, List.getElem?_eq_getElem (by omega)⟩
      obtain ⟨b, off, rfl, hbl, h1⟩ := (hx.nx hn).rd hx0
      obtain ⟨b', off', e, _, h2⟩ := (hx.nx hn).rd hy0
      injection e with e
      injection e with e1 e2
      subst e1 e2
      have Hst := Lib.hid (eset_take hx0 hy0)
      have hwm : IntKind.i64.wrap (((k + 1 : Nat) : Int) - 1) = (k : Int) := by rw [IntKind.wrap_i64]; omega
      have hkl : k < xs.length := by omega
      have Hk2 : Hid (k + 2 = k + 1 + 1) := Lib.hid rfl
      have hcon := fun w' => l1Edge_c x y w'
      have hmm : Hid (eOf x y = (min x y, max x y)) := Lib.hid rfl
      generalize min x y = e1 at *
      generalize max x y = e2 at *
      have Hcon := Lib.hid hcon
      generalize eset (stepsL (xs.take (k + 1))) = acc at *
      generalize hM : k + 1 = j at *
      have HM := Lib.hid hM
      have Hown := Lib.hid hown
      clear hM hcon hx hx0 hy0 hown
      go_wp2
      have kp : ∀ w', Nx wr w' → (fun w_ => Nx wr w_ ∧ w_.cell? ⟨b, off + k, none⟩ = some (V x) ∧ w_.cell? ⟨b, off + j, none⟩ = some (V y)) w' := fun w' h => ⟨h, h.cell (p := ⟨b, off + k, none⟩) hbl h1, h.cell (p := ⟨b, off + j, none⟩) hbl h2⟩
      go_upto_region 5 with (fail)
      go_cut [5] from 13 to 22 (fun s5 wc => ∃ (b5 : Nat), s5 = .pointer (some ⟨b5, 0, none⟩) ∧ Nx wr wc ∧ b5 < wc.heap.size ∧ wc.cell? ⟨b5, 0, none⟩ = some (V e1) ∧ wc.cell? ⟨b5, 1, none⟩ = some (V e2))
      case first =>
        have hq0 : wr.heap.size ≤ wr.heap.size := Nat.le_refl _
        go_region_held3 (fun w_ => Nx wr w_ ∧ w_.cell? ⟨b, off + k, none⟩ = some (V x) ∧ w_.cell? ⟨b, off + j, none⟩ = some (V y))
          (exact kp _ (by (repeat (first | exact Nx.refl _ | assumption | apply Nx.alloc | apply Nx.drew | apply Nx.drewN | (refine Nx.setCell ?_ (by first | (simp; done) | (simp; omega) | omega) _) | refine Nx.trans ?_ (by assumption))); done))
          (first | (go_at_call 52; (with_reducible refine (Hcon.out _).mono ?_); rintro e w3 ⟨rfl, hn3⟩; have hs3 : wr.heap.size ≤ w3.heap.size := Nx.size (by exact (by (repeat (first | exact Nx.refl _ | assumption | apply Nx.alloc | apply Nx.drew | apply Nx.drewN | (refine Nx.setCell ?_ (by first | (simp; done) | (simp; omega) | omega) _) | refine Nx.trans ?_ (by assumption))); done)); obtain ⟨hc3, hf3, hz3⟩ := hn3.rules; (try simp [size_drew_] at hz3); (try (have hq3 : wr.heap.size < w3.heap.size := (by have h := hn3.size; first | omega | (simp [size_drew_] at h; omega))))))
        all_goals go_wp2
        all_goals go_meet
        all_goals exact ⟨_, rfl, (by (repeat (first | exact Nx.refl _ | assumption | apply Nx.alloc | apply Nx.drew | apply Nx.drewN | (refine Nx.setCell ?_ (by first | (simp; done) | (simp; omega) | omega) _) | refine Nx.trans ?_ (by assumption))); done), (by first | (simp; done) | omega | (simp; omega) | (simp [size_drew_, size_set_]; omega)), (by go_simp), (by go_simp)⟩
      obtain ⟨b5, rfl, hn4, E_z, E_0, E_1⟩ := hcut
      obtain ⟨W4, hW4⟩ : ∃ v, v = wc := ⟨_, rfl⟩
      subst hW4
      have ho4 := Hown.out.nx hn4
      have Ho4 := Lib.hid ho4
      have hz4 := hn4.size
      have hz0 := hn.size
      clear Hown ho4
      go_wp2_with fail
      refine (l1Find_c A' c' acc e1 e2 _ Ho4.out.edgesAt (by omega)).mono ?_
      rintro e w5 ⟨rfl, hn5⟩
      replace E_0 := hn5.cell (p := ⟨b5, 0, none⟩) E_z E_0
      replace E_1 := hn5.cell (p := ⟨b5, 1, none⟩) E_z E_1
      replace E_z := Nat.lt_of_lt_of_le E_z hn5.size
      by_cases hm : (e1, e2) ∈ acc
      · have hz : ¬ idxE acc (e1, e2) < 0 := by have := (idxE_nonneg acc (e1, e2)).2 hm; omega
        have hst : Hid (eset (stepsL (xs.take (k + 2))) = acc) := Lib.hid (by rw [Hst.out, hmm.out]; unfold addE; rw [if_pos hm])
        generalize idxE acc (e1, e2) = z at *
        clear hm
        go_wp2_with fail
        go_roundg (gk - 1)
        case measure => omega
        case rel => exact ⟨j, A', c', by have := HM.out; omega, by go_num, by rw [← Hk2.out, hst.out], by rw [← Hk2.out, hst.out]; exact Ho4.out.nx hn5, (hn.trans hn4).trans hn5⟩
      · have hz : idxE acc (e1, e2) < 0 := by
          by_cases h : idxE acc (e1, e2) < 0
          · exact h
          · exact absurd ((idxE_nonneg acc (e1, e2)).1 (by omega)) hm
        have hst : Hid (eset (stepsL (xs.take (k + 2))) = putL acc (e1, e2)) := Lib.hid (by rw [Hst.out, hmm.out]; unfold addE; rw [if_neg hm])
        generalize idxE acc (e1, e2) = z at *
        clear hm
        go_wp2_with fail
        refine (l1Put_c A' c' acc e1 e2 _ (Ho4.out.nx hn5).edgesAt (by omega)).mono ?_
        rintro e w6 ⟨A6, c6, rfl, ho6, hn6⟩
        have hz5 := hn5.size
        have Ho6 := Lib.hid ho6
        generalize putL acc (e1, e2) = acc2 at *
        clear ho6
        go_wp2_with fail
        go_roundg (gk - 1)
        case measure => omega
        case rel => exact ⟨j, A6, c6, by have := HM.out; omega, by go_num, by rw [← Hk2.out, hst.out], by rw [← Hk2.out, hst.out]; exact Ho6.out.mono (by omega), ((hn.trans hn4).trans hn5).trans hn6⟩
    · have he : xs.take (k + 1) = xs := List.take_of_length_le (by omega)
      have He := Lib.hid he
      have Hown := Lib.hid hown
      clear he hown
      go_wp2
      go_ret
      refine ⟨A', c', ?_, ?_, hn⟩
      · rw [He.out]; rfl
      · have := Hown.out
        rw [He.out] at this
        exact this

/-- no fault among the first k numbers -/
def GoodTo (L : List Int) (k : Nat) : Prop := ∀ j, j < k → ∀ x, L[j]? = some x → (0 ≤ x ∧ x < 16) ∧ (∀ i y, i + 1 = j → L[i]? = some y → y ≠ x)
theorem goodTo_step {L : List Int} {k : Nat} {x : Int} (h : GoodTo L k) (hx : L[k]? = some x) (h1 : 0 ≤ x ∧ x < 16) (h2 : ∀ i y, i + 1 = k → L[i]? = some y → y ≠ x) : GoodTo L (k + 1) := fun j hj z hz => by
  rcases Nat.lt_succ_iff_lt_or_eq.1 hj with h3 | rfl
  · exact h j h3 z hz
  · rw [hx] at hz; injection hz with hz; subst hz; exact ⟨h1, h2⟩
theorem goodTo_all {L : List Int} (h : GoodTo L L.length) : (∀ x ∈ L, 0 ≤ x ∧ x < 16) ∧ okSteps L := by
  refine ⟨fun x hx => ?_, fun i x y hx hy => ?_⟩
  · obtain ⟨j, hj, rfl⟩ := List.getElem_of_mem hx
    exact (h j hj _ (List.getElem?_eq_getElem hj)).1
  · exact (h (i + 1) (List.getElem?_eq_some_iff.1 hy).1 y hy).2 i x rfl hx
theorem tv_good {L : List Int} (h : TV L) : GoodTo L L.length := fun j _ x hx =>
  ⟨h.2.1 x (List.mem_of_getElem? hx), fun i y hi hy => h.2.2.1 i y x hy (hi ▸ hx)⟩
theorem not_tv {L : List Int} {k : Nat} {x : Int} (hx : L[k]? = some x) (h : ¬ ((0 ≤ x ∧ x < 16) ∧ (∀ i y, i + 1 = k → L[i]? = some y → y ≠ x))) : decide (TV L) = false := by
  rw [decide_eq_false_iff_not]
  exact fun ht => h (tv_good ht k (List.getElem?_eq_some_iff.1 hx).1 x hx)
theorem head_last {L : List Int} (h : 1 ≤ L.length) : ∃ x y, L[0]? = some x ∧ L[L.length - 1]? = some y :=
  ⟨_, _, List.getElem?_eq_getElem (by omega), List.getElem?_eq_getElem (by omega)⟩

set_option maxRecDepth 100000 in
set_option maxHeartbeats 800000 in
theorem sTourValid_c (A : Option Addr) (c n : Nat) (xs : List Int) (w : World) (hn : xs.length = n) (hc : n ≤ c) (hx : IntsAt w A xs) (hl : n ≤ 1048576) :
    Calls Try.prog 14 #[.slice A n c] w (RetV (.bool (decide (TV xs))) w) := by
  have Hn := Lib.hid hn
  by_cases h1 : (n : Int) < 1
  · have hf : decide (TV xs) = false := decide_eq_false fun h => by have := h.1.1; omega
    rw [hf]
    obtain rfl : n = 0 := by omega
    clear hn h1 hx hl hc Hn hf
    go_enter Try.func14, Try.ntmps14
    go_wp2
    go_quiet (fail)
    go_wp2
    go_ret
    exact RetV.bool rfl (by repeat (first | exact Nx.refl _ | assumption | apply Nx.alloc | apply Nx.drew | apply Nx.drewN | (refine Nx.setCell ?_ (by first | (simp; done) | (simp; omega) | omega) _) | refine Nx.trans ?_ (by assumption)))
  · by_cases h2 : (31 : Int) < (n : Int)
    · have hf : decide (TV xs) = false := decide_eq_false fun h => by have := h.1.2.1; omega
      rw [hf]
      have hn0 : ¬ n = 0 := by omega
      have h0 : 0 < n := by omega
      have g1 : decide ((n : Int) < 1) = false := decide_eq_false h1
      clear hn hf Hn hx hc
      go_enter Try.func14, Try.ntmps14
      go_wp2
      go_quiet (fail)
      go_wp2
      go_ret
      exact RetV.bool rfl (by repeat (first | exact Nx.refl _ | assumption | apply Nx.alloc | apply Nx.drew | apply Nx.drewN | (refine Nx.setCell ?_ (by first | (simp; done) | (simp; omega) | omega) _) | refine Nx.trans ?_ (by assumption)))
    · obtain ⟨x0, xl, hx0, hxl⟩ := head_last (L := xs) (by omega)
      rw [hn] at hxl
      have Hx := Lib.hid hx
      obtain ⟨b, off, rfl, hbl, r0⟩ := hx.rd hx0
      obtain ⟨b', off', e, _, rl⟩ := hx.rd hxl
      injection e with e
      injection e with e1 e2
      subst e1 e2
      rw [Nat.add_zero] at r0
      have hwm : IntKind.i64.wrap ((n : Int) - 1) = ((n - 1 : Nat) : Int) := by rw [IntKind.wrap_i64]; omega
      have hml : n - 1 < n := by omega
      have h0 : 0 < n := by omega
      have hn0 : ¬ n = 0 := by omega
      obtain ⟨m, hm⟩ : ∃ m, n - 1 = m := ⟨_, rfl⟩
      rw [hm] at rl hxl hwm hml
      have Hm := Lib.hid hm
      have Hwm := Lib.hid hwm
      clear hm hx hn
      by_cases h3 : (x0 != xl) = true
      · have hf : decide (TV xs) = false := decide_eq_false fun h => by
          have h4 := h.1.2.2
          rw [Hn.out, Hm.out, hx0, hxl] at h4
          injection h4 with h4
          simp at h3
          exact h3 h4
        rw [hf]
        clear hx0 hxl hf Hx Hwm
        go_enter Try.func14, Try.ntmps14
        go_wp2
        go_quiet (fail)
        go_wp2
        go_ret
        exact RetV.bool rfl (by repeat (first | exact Nx.refl _ | assumption | apply Nx.alloc | apply Nx.drew | apply Nx.drewN | (refine Nx.setCell ?_ (by first | (simp; done) | (simp; omega) | omega) _) | refine Nx.trans ?_ (by assumption)))
      · have h3 : (x0 != xl) = false := by simpa using h3
        have hends : xs[0]? = xs[xs.length - 1]? := by
          rw [Hn.out, Hm.out, hx0, hxl]
          simp at h3
          rw [h3]
        have Hends := Lib.hid hends
        have hfin : ∀ (k : Nat) (x : Int), xs[k]? = some x → ¬ ((0 ≤ x ∧ x < 16) ∧ (∀ i y, i + 1 = k → xs[i]? = some y → y ≠ x)) → false = decide (TV xs) := fun k x hx h => (not_tv hx h).symm
        have Hfin := Lib.hid hfin
        clear hx0 hxl hends hfin hwm
        go_enter Try.func14, Try.ntmps14
        go_wp2
        have hwm := Hwm.out
        go_quiet (fail)
        clear hwm Hwm h3 r0 rl
        generalize hW : World.drewN _ _ = w1
        have n1 : Nx w w1 := by subst hW; exact (by repeat (first | exact Nx.refl _ | assumption | apply Nx.alloc | apply Nx.drew | apply Nx.drewN | (refine Nx.setCell ?_ (by first | (simp; done) | (simp; omega) | omega) _) | refine Nx.trans ?_ (by assumption)))
        clear hW
        go_wp2
        go_loopg [3] n (fun gk i wr => ∃ k : Nat, k + gk = n ∧ i = .int .i64 k ∧ Nx w wr ∧ GoodTo xs k)
        case atStart => exact ⟨0, by omega, rfl, n1, fun j hj => by omega⟩
        case round =>
          obtain ⟨k, hk, rfl, hnx, hg⟩ := hrel
          have Hg := Lib.hid hg
          clear hg
          by_cases hlt : k < n
          · obtain ⟨x, hek⟩ : ∃ x, xs[k]? = some x := ⟨_, List.getElem?_eq_getElem (by have := Hn.out; omega)⟩
            obtain ⟨b', off', e, _, rk⟩ := (Hx.out.nx hnx).rd hek
            injection e with e
            injection e with e1 e2
            subst e1 e2
            have Hek := Lib.hid hek
            clear hek
            by_cases g1 : x < 0
            · go_wp2
              go_quiet (fail)
              go_wp2
              go_ret
              exact RetV.bool (Hfin.out k x Hek.out (fun h => by omega)) (by repeat (first | exact Nx.refl _ | assumption | apply Nx.alloc | apply Nx.drew | apply Nx.drewN | (refine Nx.setCell ?_ (by first | (simp; done) | (simp; omega) | omega) _) | refine Nx.trans ?_ (by assumption)))
            · have d1 : decide (x < 0) = false := decide_eq_false g1
              by_cases g2 : (16 : Int) ≤ x
              · have d2 : decide ((16 : Int) ≤ x) = true := decide_eq_true g2
                go_wp2
                go_quiet (fail)
                go_wp2
                go_ret
                exact RetV.bool (Hfin.out k x Hek.out (fun h => by omega)) (by repeat (first | exact Nx.refl _ | assumption | apply Nx.alloc | apply Nx.drew | apply Nx.drewN | (refine Nx.setCell ?_ (by first | (simp; done) | (simp; omega) | omega) _) | refine Nx.trans ?_ (by assumption)))
              · have d2 : decide ((16 : Int) ≤ x) = false := decide_eq_false g2
                by_cases g3 : k = 0
                · subst g3
                  rw [Nat.add_zero] at rk
                  have g4 : ¬ (0 : Int) < ((0 : Nat) : Int) := by omega
                  go_wp2
                  go_quiet (fail)
                  go_wp2
                  go_roundg (gk - 1)
                  case measure => omega
                  case rel => exact ⟨1, by omega, by go_num, (by repeat (first | exact Nx.refl _ | assumption | apply Nx.alloc | apply Nx.drew | apply Nx.drewN | (refine Nx.setCell ?_ (by first | (simp; done) | (simp; omega) | omega) _) | refine Nx.trans ?_ (by assumption))), goodTo_step Hg.out Hek.out (by omega) (fun i y hi => by omega)⟩
                · obtain ⟨j, rfl⟩ : ∃ j, k = j + 1 := ⟨k - 1, by omega⟩
                  obtain ⟨y, hej⟩ : ∃ x, xs[j]? = some x := ⟨_, List.getElem?_eq_getElem (by have := Hn.out; omega)⟩
                  obtain ⟨b', off', e, _, rj⟩ := (Hx.out.nx hnx).rd hej
                  injection e with e
                  injection e with e1 e2
                  subst e1 e2
                  have Hej := Lib.hid hej
                  have hwj : IntKind.i64.wrap (((j + 1 : Nat) : Int) - 1) = (j : Int) := by rw [IntKind.wrap_i64]; omega
                  have hjn : j < n := by omega
                  clear hej g3
                  obtain ⟨k, hkj⟩ : ∃ k, j + 1 = k := ⟨_, rfl⟩
                  have h0k : 0 < k := by omega
                  have Hkj := Lib.hid hkj
                  rw [hkj] at hk hlt Hek Hg rk hwj
                  rw [hkj]
                  have Hwj := Lib.hid hwj
                  clear hkj hwj
                  by_cases g5 : (x == y) = true
                  · go_wp2
                    have hwj := Hwj.out
                    go_quiet (fail)
                    clear hwj
                    go_wp2
                    go_ret
                    exact RetV.bool (Hfin.out k x Hek.out (fun h => h.2 j y Hkj.out Hej.out (by simp at g5; exact g5.symm))) (by repeat (first | exact Nx.refl _ | assumption | apply Nx.alloc | apply Nx.drew | apply Nx.drewN | (refine Nx.setCell ?_ (by first | (simp; done) | (simp; omega) | omega) _) | refine Nx.trans ?_ (by assumption)))
                  · have g5 : (x == y) = false := by simpa using g5
                    go_wp2
                    have hwj := Hwj.out
                    go_quiet (fail)
                    clear hwj
                    go_wp2
                    go_roundg (gk - 1)
                    case measure => omega
                    case rel => exact ⟨k + 1, by omega, by go_num, (by repeat (first | exact Nx.refl _ | assumption | apply Nx.alloc | apply Nx.drew | apply Nx.drewN | (refine Nx.setCell ?_ (by first | (simp; done) | (simp; omega) | omega) _) | refine Nx.trans ?_ (by assumption))), goodTo_step Hg.out Hek.out (by omega) (fun i y' hi hy' => by
                      have := Hkj.out
                      obtain rfl : i = j := by omega
                      rw [Hej.out] at hy'
                      injection hy' with hy'
                      subst hy'
                      simp at g5
                      exact fun h => g5 h.symm)⟩
          · obtain rfl : k = n := by omega
            have hgood := goodTo_all (L := xs) (by rw [Hn.out]; exact Hg.out)
            have hedge := fun w' h => l6Edges_c (some ⟨b, off, none⟩) c xs w' h (by have := Hn.out; omega)
            have htimes := fun u v w' h => l6Times_c (some ⟨b, off, none⟩) c xs u v w' h (by have := Hn.out; omega)
            have hcount := fun w' h => l6Count_c (some ⟨b, off, none⟩) c xs w' (by have := Hn.out; omega) h (by have := Hn.out; omega)
            have hel := eset_len (stepsL xs)
            rw [stepsL_len, Hn.out] at hel
            rw [Hn.out] at hedge htimes hcount
            have hcl : ∀ e, (stepsL xs).count e ≤ 31 := fun e => by
              have h1 := List.count_le_length (a := e) (l := stepsL xs)
              rw [stepsL_len, Hn.out] at h1
              omega
            have hul := uniq_len_le xs xs.length
            rw [List.take_length, Hn.out] at hul
            have htv : decide (TV xs) = decide ((∀ e ∈ eset (stepsL xs), (stepsL xs).count e = 2) ∧ (eset (stepsL xs)).length + 1 = (uniq xs).length) := decide_eq_decide.2 ⟨fun h => h.2.2.2, fun h => ⟨⟨by rw [Hn.out]; omega, by rw [Hn.out]; omega, Hends.out⟩, hgood.1, hgood.2, h.1, h.2⟩⟩
            have hedge : ∀ w', IntsAt w' (some ⟨b, off, none⟩) xs → Calls Try.prog 45 #[.slice (some ⟨b, off, none⟩) k c] w' (RetE 30 (eset (stepsL xs)) w') := fun w' h => hedge w' h
            generalize eset (stepsL xs) = es at *
            generalize (uniq xs).length = u at *
            have Hedge := Lib.hid hedge
            have Htimes := Lib.hid htimes
            have Hcount := Lib.hid hcount
            have Hcl := Lib.hid hcl
            have Htv := Lib.hid htv
            clear hedge htimes hcount htv hgood Hg Hfin Hends hcl
            go_wp2_with fail
            refine (Hedge.out _ (Hx.out.nx hnx)).mono ?_
            rintro e w2 ⟨A2, c2, rfl, ho2, hn2⟩
            have N2 := hnx.trans hn2
            go_wp2
            go_loopg [5] es.length (fun gk i wr => ∃ k : Nat, k + gk = es.length ∧ i = .int .i64 k ∧ Nx w2 wr ∧ ∀ j, j < k → ∀ e, es[j]? = some e → (stepsL xs).count e = 2)
            case atStart => exact ⟨0, by omega, rfl, Nx.refl _, fun j hj => by omega⟩
            case round =>
              obtain ⟨k2, hk2, rfl, hn3, hall⟩ := hrel
              have Hall := Lib.hid hall
              clear hall
              by_cases hlt2 : k2 < es.length
              · obtain ⟨⟨u1, u2⟩, hek⟩ : ∃ e, es[k2]? = some e := ⟨_, List.getElem?_eq_getElem hlt2⟩
                obtain ⟨b2, off2, rfl, hb2, r1, r2⟩ := (ho2.nx hn3).edgesAt.rd hek
                have Hek := Lib.hid hek
                have hct := Hcl.out (u1, u2)
                obtain ⟨q, hq⟩ : ∃ q, (stepsL xs).count (u1, u2) = q := ⟨_, rfl⟩
                have htm := Htimes.out u1 u2 wr (Hx.out.nx (N2.trans hn3))
                rw [hq] at htm hct
                have Hq := Lib.hid hq
                have Htm := Lib.hid htm
                clear hek hq htm
                go_wp2_with fail
                refine Htm.out.mono ?_
                rintro e w4 ⟨rfl, hn4⟩
                by_cases hq2 : q = 2
                · subst hq2
                  go_wp2
                  go_roundg (gk - 1)
                  case measure => omega
                  case rel => exact ⟨k2 + 1, by omega, by go_num, hn3.trans hn4, fun j hj e he => by
                    rcases Nat.lt_succ_iff_lt_or_eq.1 hj with h | rfl
                    · exact Hall.out j h e he
                    · rw [Hek.out] at he; injection he with he; subst he; exact Hq.out⟩
                · have hq3 : ((q : Int) != 2) = true := by simp; omega
                  go_wp2
                  go_ret
                  exact RetV.bool (by
                    rw [Htv.out]
                    symm
                    rw [decide_eq_false_iff_not]
                    rintro ⟨h, _⟩
                    have := h _ (List.mem_of_getElem? Hek.out)
                    rw [Hq.out] at this
                    exact hq2 this) ((N2.trans hn3).trans hn4)
              · have hall2 : ∀ e ∈ es, (stepsL xs).count e = 2 := fun e he => by
                  obtain ⟨j, hj, rfl⟩ := List.getElem_of_mem he
                  exact Hall.out j (by omega) _ (List.getElem?_eq_getElem hj)
                have Hall2 := Lib.hid hall2
                clear hall2
                go_wp2_with fail
                refine (Hcount.out _ (Hx.out.nx (N2.trans hn3))).mono ?_
                rintro e w5 ⟨rfl, hn5⟩
                by_cases hu : es.length + 1 = u
                · have hu2 : ((es.length : Int) == (u : Int) - 1) = true := by simp; omega
                  go_wp2
                  go_ret
                  exact RetV.bool (by rw [Htv.out]; symm; rw [decide_eq_true_eq]; exact ⟨Hall2.out, hu⟩) ((N2.trans hn3).trans hn5)
                · have hu2 : ((es.length : Int) == (u : Int) - 1) = false := by simp; omega
                  go_wp2
                  go_ret
                  exact RetV.bool (by rw [Htv.out]; symm; rw [decide_eq_false_iff_not]; exact fun h => hu h.2) ((N2.trans hn3).trans hn5)
end Go.Proofs.Ytbceoigmcomlbaa
