/- Contracts: isCutNode, l4Cut. -/
import Derived.Test.YtjchabeiaajgiaaNM
import Derived.Test.YtjchabeiaajgiaaC2
import Derived.Test.YtjchabeiaajgiaaZ
import Derived.Deep.Cut
namespace Go.Proofs.Ytjchabeiaajgiaa
open Go.RowKit set_option linter.unusedVariables false set_option linter.unusedSimpArgs false

/-- a function value that says of a number whether p holds, in each world that has come of w with new blocks only -/
def TellsI (g : Nat) (bd lb : Array Value) (p : Int → Bool) (xs : List Int) (w : World) : Prop :=
  ∀ (W : World) (x : Int), x ∈ xs → Nx w W → Calls Try.prog g (bd.push (V x) ++ lb) W (RetV (.bool (p x)) W)
/-- the first place where p holds, or -1 -/
def fstJ (p : Int → Bool) (xs : List Int) : Int := if xs.any p then (xs.findIdx p : Int) else -1
theorem fstJ_nonneg (p : Int → Bool) (xs : List Int) : decide (0 ≤ fstJ p xs) = xs.any p := by
  unfold fstJ
  cases h : xs.any p <;> simp [h]
theorem fstJ_hit {p : Int → Bool} {xs : List Int} {k : Nat} {e : Int} (hno : ∀ j, j < k → ∀ d, xs[j]? = some d → p d = false) (he : xs[k]? = some e) (hp : p e = true) : fstJ p xs = k := by
  have hm : xs.any p = true := List.any_eq_true.2 ⟨e, List.mem_of_getElem? he, hp⟩
  have hk : k < xs.length := (List.getElem?_eq_some_iff.1 he).1
  have hek : xs[k] = e := by rw [List.getElem?_eq_getElem hk] at he; injection he
  unfold fstJ
  rw [if_pos hm]
  congr 1
  refine (List.findIdx_eq hk).2 ⟨by rw [hek]; exact hp, fun j hj => ?_⟩
  exact hno j hj _ (List.getElem?_eq_getElem (by omega))
theorem fstJ_no {p : Int → Bool} {xs : List Int} (hno : ∀ j, j < xs.length → ∀ d, xs[j]? = some d → p d = false) : fstJ p xs = -1 := by
  have hm : xs.any p = false := List.any_eq_false.2 fun e he => by
    obtain ⟨j, hj, rfl⟩ := List.getElem_of_mem he
    simp [hno j hj _ (List.getElem?_eq_getElem hj)]
  simp [fstJ, hm]
theorem no_stepI {p : Int → Bool} {xs : List Int} {k : Nat} {e : Int} (hno : ∀ j, j < k → ∀ d, xs[j]? = some d → p d = false) (he : xs[k]? = some e) (hp : p e = false) : ∀ j, j < k + 1 → ∀ d, xs[j]? = some d → p d = false := fun j hj d hd => by
  rcases Nat.lt_succ_iff_lt_or_eq.1 hj with h | rfl
  · exact hno j h d hd
  · rw [he] at hd; injection hd with hd; subst hd; exact hp

set_option maxRecDepth 100000 in
set_option maxHeartbeats 2000000 in
theorem indexFuncI_c (g : Nat) (bd lb : Array Value) (p : Int → Bool) (eg : ∀ args w, (callFunc g args).run Try.prog w = .ok (.enter g args) w) (A : Option Addr) (c : Nat) (xs : List Int) (w : World)
    (hx : IntsAt w A xs) (hl : xs.length ≤ 1048576) (hp : TellsI g bd lb p xs w) :
    Calls Try.prog 100 #[.slice A xs.length c, .func (.func g) bd lb] w (RetV (V (fstJ p xs)) w) := by
  have Hp := Lib.hid hp
  clear hp
  go_enter Try.func100, Try.ntmps100
  go_wp2
  go_loopg [5, 8] xs.length (fun gk _ i wr => ∃ k : Nat, k + gk = xs.length ∧ i = .int .i64 k ∧ Nx w wr ∧ ∀ j, j < k → ∀ d, xs[j]? = some d → p d = false)
  case atStart => exact ⟨0, by omega, rfl, Nx.refl _, fun j hj => by omega⟩
  case round =>
    obtain ⟨k, hk, rfl, hn, hno⟩ := hrel
    have Hno := Lib.hid hno
    clear hno
    by_cases hlt : k < xs.length
    · obtain ⟨x, hek⟩ : ∃ x, xs[k]? = some x := ⟨_, List.getElem?_eq_getElem hlt⟩
      obtain ⟨b, off, rfl, hbl, h1⟩ := (hx.nx hn).rd hek
      have Hek := Lib.hid hek
      clear hek hx
      go_wp2_with fail
      refine (Hp.out wr x (List.mem_of_getElem? Hek.out) hn).mono ?_
      rintro e w' ⟨rfl, hn'⟩
      cases hq : p x with
      | true =>
        have Hq := Lib.hid hq
        clear hq
        go_wp2
        go_ret
        exact RetV.int (fstJ_hit Hno.out Hek.out Hq.out).symm (by repeat (first | exact Nx.refl _ | assumption | apply Nx.alloc | apply Nx.drew | apply Nx.drewN | (refine Nx.setCell ?_ (by first | (simp; done) | (simp; omega) | omega) _) | refine Nx.trans ?_ (by assumption)))
      | false =>
        have Hq := Lib.hid hq
        clear hq
        go_wp2
        go_roundg (gk - 1)
        case measure => omega
        case rel => exact ⟨k + 1, by omega, by go_num, (by repeat (first | exact Nx.refl _ | assumption | apply Nx.alloc | apply Nx.drew | apply Nx.drewN | (refine Nx.setCell ?_ (by first | (simp; done) | (simp; omega) | omega) _) | refine Nx.trans ?_ (by assumption))), no_stepI Hno.out Hek.out Hq.out⟩
    · go_wp2
      go_ret
      exact RetV.int (fstJ_no (fun j hj => Hno.out j (by omega))).symm (by repeat (first | exact Nx.refl _ | assumption | apply Nx.alloc | apply Nx.drew | apply Nx.drewN | (refine Nx.setCell ?_ (by first | (simp; done) | (simp; omega) | omega) _) | refine Nx.trans ?_ (by assumption)))
theorem containsFuncI_c (g : Nat) (bd lb : Array Value) (p : Int → Bool) (eg : ∀ args w, (callFunc g args).run Try.prog w = .ok (.enter g args) w) (A : Option Addr) (c : Nat) (xs : List Int) (w : World)
    (hx : IntsAt w A xs) (hl : xs.length ≤ 1048576) (hp : TellsI g bd lb p xs w) :
    Calls Try.prog 51 #[.slice A xs.length c, .func (.func g) bd lb] w (RetV (.bool (xs.any p)) w) := by
  have hi := indexFuncI_c g bd lb p eg A c xs w hx hl hp
  rw [← fstJ_nonneg]
  generalize fstJ p xs = i at *
  have Hi := Lib.hid hi
  clear hi hp
  go_enter Try.func51, Try.ntmps51
  go_wp2_with fail
  refine Hi.out.mono ?_
  rintro e w1 ⟨rfl, hn1⟩
  go_wp2
  go_ret
  exact RetV.bool rfl hn1

/-- a number of a row, at its place -/
theorem IntsAt.atL {w : World} {A : Option Addr} {L : List Int} (h : IntsAt w A L) {x : Nat} (hx : x < L.length) : ∃ b off, A = some ⟨b, off, none⟩ ∧ b < w.heap.size ∧ w.cell? ⟨b, off + x, none⟩ = some (V (lk L (x : Int))) := by
  have e : L[x]? = some (lk L (x : Int)) := by simp [lk, hx]
  exact h.rd e
/-- without the node v, two of its neighbours are not connected -/
noncomputable def cutB (n : Nat) (es : Es) (v : Int) : Bool := (nextL n es v).any fun y => !connB n (aloneL es v) ((nextL n es v)[0]?.getD 0) y
theorem InR.alone {n : Nat} {es : Es} (h : InR n es) (v : Int) : InR n (aloneL es v) := h.sub fun e he => (List.mem_filter.1 he).1

set_option maxRecDepth 100000 in
set_option maxHeartbeats 2000000 in
theorem cutClos_c (p q : Nat) (A B : Option Addr) (n c m d : Nat) (L xs : List Int) (x x0 : Nat) (w : World) (hp : p < w.heap.size) (hq : q < w.heap.size) (h1 : w.cell? ⟨p, 0, none⟩ = some (.slice A n c)) (h2 : w.cell? ⟨q, 0, none⟩ = some (.slice B m d))
    (hL : IntsAt w A L) (hn : L.length = n) (hX : IntsAt w B xs) (hm : xs.length = m) (h0 : xs[0]? = some (x0 : Int)) (hx : x < n) (hx0 : x0 < n) (hnl : n ≤ 1048576) (hml : m ≤ 1048576) :
    Calls Try.prog 130 #[V x, .pointer (some ⟨p, 0, none⟩), .pointer (some ⟨q, 0, none⟩)] w (RetV (.bool (!decide (lk L (x0 : Int) = lk L (x : Int)))) w) := by
  obtain ⟨b, off, rfl, hb, r1⟩ := hL.atL (x := x) (by omega)
  obtain ⟨b', off', hB', _, r2⟩ := hL.atL (x := x0) (by omega)
  injection hB' with hB'
  injection hB' with e1 e2
  subst e1 e2
  obtain ⟨b3, off3, rfl, hb3, r3⟩ := hX.rd h0
  have hm0 : 0 < m := by rw [← hm]; exact (List.getElem?_eq_some_iff.1 h0).1
  rw [Nat.add_zero] at r3
  have hm1 : ¬ m = 0 := by omega
  have hm2 : ¬ (m : Int) ≤ 0 := by omega
  clear hL hX hn hm h0
  obtain ⟨u, hu⟩ : ∃ u, lk L (x : Int) = u := ⟨_, rfl⟩
  obtain ⟨v, hv⟩ : ∃ u, lk L (x0 : Int) = u := ⟨_, rfl⟩
  rw [hu] at r1 ⊢
  rw [hv] at r2 ⊢
  clear hu hv
  go_enter Try.func130, Try.ntmps130
  go_wp2_with fail
  go_quiet (fail)
  go_wp2
  go_ret
  exact RetV.bool (by
    by_cases h : u = v
    · subst h; simp
    · have h2 : ¬ v = u := fun e => h e.symm
      simp [h, h2]) (Nx.drewN (.refl _) _)

theorem set_two {w : World} {p q : Nat} {D F u : Value} (hne : p ≠ q) (h1 : w.cell? ⟨p, 0, none⟩ = some u) : ((w.setCell ⟨p, 0, none⟩ D).setCell ⟨q, 0, none⟩ F).cell? ⟨p, 0, none⟩ = some D := by
  rw [World.cell?_setCell_other _ _ _ _ (by intro h; injection h with h; exact hne h.symm), World.cell?_setCell_same _ _ _ h1]
theorem set_last {w : World} {p q : Nat} {D F u : Value} (hne : p ≠ q) (h1 : w.cell? ⟨q, 0, none⟩ = some u) : ((w.setCell ⟨p, 0, none⟩ D).setCell ⟨q, 0, none⟩ F).cell? ⟨q, 0, none⟩ = some F := by
  rw [World.cell?_setCell_same (u := u) _ _ _ (by rw [World.cell?_setCell_other _ _ _ _ (by intro h; injection h with h; exact hne h)]; exact h1)]
theorem mem_next_bd {n : Nat} {es : Es} {v y : Int} (h : y ∈ nextL n es v) : 0 ≤ y ∧ y < n := by
  have := mem_nextL.1 h
  exact ⟨this.1, this.2.1⟩
theorem nextL_len (n : Nat) (es : Es) (v : Int) : (nextL n es v).length ≤ n := nxtK_len es v n

set_option maxRecDepth 100000 in
set_option maxHeartbeats 8000000 in
theorem isCutNode_c (n : Nat) (A : Option Addr) (c : Nat) (es : List (Int × Int)) (v : Int) (w : World) (hx : EdgesAt w A es) (hl : es.length ≤ 1048576) (hn16 : n ≤ 16) (hr : InR n es) (hd : ∀ e ∈ es, e.1 ≠ e.2)
    (hnd : es.Nodup) (ho : ∀ e ∈ es, 0 ≤ e.1 ∧ e.1 < e.2 ∧ e.2 < n) :
    Calls Try.prog 91 #[.agg #[V n, .slice A es.length c], V v] w (RetV (.bool (cutB n es v)) w) := by
  have hcut := fun w' h => cutNode_c n A c es v w' h hl
  have hal : (aloneL es v).length ≤ 1048576 := Nat.le_trans (List.length_filter_le _ _) hl
  have hparts := fun B d w' h => parts_c n B d (aloneL es v) w' h hal hn16 (hr.alone v) (fun e he => hd e (List.mem_filter.1 he).1)
  have hnb := fun w' h => neighbors_c n A c es v w' h hl
  rw [srt_next hnd ho v] at hnb
  have hL : (labels n (aloneL es v)).length = n := labels_length (hr.alone v)
  have hcb : cutB n es v = (nextL n es v).any fun y => !decide (lk (labels n (aloneL es v)) ((nextL n es v)[0]?.getD 0) = lk (labels n (aloneL es v)) y) := rfl
  rw [hcb]
  have hbd : ∀ y ∈ nextL n es v, 0 ≤ y ∧ y < n := fun y h => mem_next_bd h
  have hxl := nextL_len n es v
  generalize nextL n es v = xs at *
  generalize labels n (aloneL es v) = L at *
  generalize aloneL es v = al at *
  have Hcut := Lib.hid hcut
  have Hparts := Lib.hid hparts
  have Hnb := Lib.hid hnb
  have HL := Lib.hid hL
  have Hbd := Lib.hid hbd
  have HX := Lib.hid hx
  clear hcut hparts hnb hL hbd hx hr hd hnd ho hcb hal
  go_enter Try.func91, Try.ntmps91
  go_wp2_with fail
  generalize hW1 : World.alloc _ _ = W1
  have gW1 : Nx w W1 := by subst hW1; exact (by repeat (first | exact Nx.refl _ | assumption | apply Nx.alloc | apply Nx.drew | apply Nx.drewN | (refine Nx.setCell ?_ (by first | (simp; done) | (simp; omega) | omega) _) | refine Nx.trans ?_ (by assumption)))
  have sW1 : W1.heap.size = w.heap.size + 1 := by subst hW1; simp
  have X0 : Bx W1 (w.heap.size) 26 [V n, .slice A es.length c] := by subst hW1; have h := Bx.alloc w 26 [V n, .slice A es.length c]; simpa using h
  have X0_0 := X0.cell (j := 0) rfl
  have X0_1 := X0.cell (j := 1) rfl
  have X0_z := X0.lt
  have HsW1 := Lib.hid sW1
  have lW1 : w.heap.size + 1 ≤ W1.heap.size := by omega
  clear hW1 sW1
  go_upto_region 1 with (fail)
  go_cut [5, 6] from 7 (fun s5 s6 wc => ∃ (p5 p6 : Nat) (D : Option Addr) (d3 : Nat) (F : Option Addr) (d4 : Nat), s5 = .pointer (some ⟨p5, 0, none⟩) ∧ s6 = .pointer (some ⟨p6, 0, none⟩) ∧ Nx W1 wc ∧ p5 < wc.heap.size ∧ p6 < wc.heap.size ∧ wc.cell? ⟨p5, 0, none⟩ = some (.slice D L.length d3) ∧ wc.cell? ⟨p6, 0, none⟩ = some (.slice F xs.length d4) ∧ IntsAt wc D L ∧ IntsAt wc F xs)
  case first =>
    have kp : ∀ w', Nx W1 w' → (fun w_ => Nx W1 w_ ∧ w_.cell? ⟨w.heap.size, 0, none⟩ = some (V n) ∧ w_.cell? ⟨w.heap.size, 1, none⟩ = some (.slice A es.length c)) w' := fun w' h => ⟨h, h.cell X0_z X0_0, h.cell X0_z X0_1⟩
    go_region_held3 (fun w_ => Nx W1 w_ ∧ w_.cell? ⟨w.heap.size, 0, none⟩ = some (V n) ∧ w_.cell? ⟨w.heap.size, 1, none⟩ = some (.slice A es.length c))
      (exact kp _ (by (repeat (first | exact Nx.refl _ | assumption | apply Nx.alloc | apply Nx.drew | apply Nx.drewN | (refine Nx.setCell ?_ (by first | (simp; done) | (simp; omega) | omega) _) | refine Nx.trans ?_ (by assumption))); done))
      (first
        | (go_at_call 128; (with_reducible refine (Hcut.out _ (HX.out.nx (gW1.trans (by (repeat (first | exact Nx.refl _ | assumption | apply Nx.alloc | apply Nx.drew | apply Nx.drewN | (refine Nx.setCell ?_ (by first | (simp; done) | (simp; omega) | omega) _) | refine Nx.trans ?_ (by assumption))); done)))).mono ?_); rintro e w2 ⟨B, d, rfl, ho2, hn2⟩; obtain ⟨hc2, hf2, hz2⟩ := hn2.rules; (try simp [size_drew_] at hz2); have hs2 : W1.heap.size ≤ w2.heap.size := Nx.size (by exact (by (repeat (first | exact Nx.refl _ | assumption | apply Nx.alloc | apply Nx.drew | apply Nx.drewN | (refine Nx.setCell ?_ (by first | (simp; done) | (simp; omega) | omega) _) | refine Nx.trans ?_ (by assumption))); done)); (try (have hq2_W1a : W1.heap.size < w2.heap.size := (by have h := hn2.size; first | omega | (simp [size_drew_] at h; omega)))); (try (have hq2_W1b : W1.heap.size + 1 < w2.heap.size := (by have h := hn2.size; first | omega | (simp [size_drew_] at h; omega)))))
        | (go_at_call 54; (with_reducible refine (Hparts.out B d _ (ho2.nx (by (repeat (first | exact Nx.refl _ | assumption | apply Nx.alloc | apply Nx.drew | apply Nx.drewN | (refine Nx.setCell ?_ (by first | (simp; done) | (simp; omega) | omega) _) | refine Nx.trans ?_ (by assumption))); done)).edgesAt).mono ?_); rintro e w3 ⟨D, d3, rfl, ho3, hn3⟩; obtain ⟨hc3, hf3, hz3⟩ := hn3.rules; (try simp [size_drew_] at hz3); have hs3 : W1.heap.size ≤ w3.heap.size := Nx.size (by exact (by (repeat (first | exact Nx.refl _ | assumption | apply Nx.alloc | apply Nx.drew | apply Nx.drewN | (refine Nx.setCell ?_ (by first | (simp; done) | (simp; omega) | omega) _) | refine Nx.trans ?_ (by assumption))); done)); (try (have hq3_W1a : W1.heap.size < w3.heap.size := (by have h := hn3.size; first | omega | (simp [size_drew_] at h; omega)))); (try (have hq3_W1b : W1.heap.size + 1 < w3.heap.size := (by have h := hn3.size; first | omega | (simp [size_drew_] at h; omega)))); (try (have hq3_w2a : w2.heap.size < w3.heap.size := (by have h := hn3.size; first | omega | (simp [size_drew_] at h; omega)))); (try (have hq3_w2b : w2.heap.size + 1 < w3.heap.size := (by have h := hn3.size; first | omega | (simp [size_drew_] at h; omega)))))
        | (go_at_call 129; (with_reducible refine (Hnb.out _ (HX.out.nx (gW1.trans (by (repeat (first | exact Nx.refl _ | assumption | apply Nx.alloc | apply Nx.drew | apply Nx.drewN | (refine Nx.setCell ?_ (by first | (simp; done) | (simp; omega) | omega) _) | refine Nx.trans ?_ (by assumption))); done)))).mono ?_); rintro e w4 ⟨F, d4, rfl, ho4, hn4⟩; obtain ⟨hc4, hf4, hz4⟩ := hn4.rules; (try simp [size_drew_] at hz4); have hs4 : W1.heap.size ≤ w4.heap.size := Nx.size (by exact (by (repeat (first | exact Nx.refl _ | assumption | apply Nx.alloc | apply Nx.drew | apply Nx.drewN | (refine Nx.setCell ?_ (by first | (simp; done) | (simp; omega) | omega) _) | refine Nx.trans ?_ (by assumption))); done)); (try (have hq4_W1a : W1.heap.size < w4.heap.size := (by have h := hn4.size; first | omega | (simp [size_drew_] at h; omega)))); (try (have hq4_W1b : W1.heap.size + 1 < w4.heap.size := (by have h := hn4.size; first | omega | (simp [size_drew_] at h; omega)))); (try (have hq4_w2a : w2.heap.size < w4.heap.size := (by have h := hn4.size; first | omega | (simp [size_drew_] at h; omega)))); (try (have hq4_w2b : w2.heap.size + 1 < w4.heap.size := (by have h := hn4.size; first | omega | (simp [size_drew_] at h; omega)))); (try (have hq4_w3a : w3.heap.size < w4.heap.size := (by have h := hn4.size; first | omega | (simp [size_drew_] at h; omega)))); (try (have hq4_w3b : w3.heap.size + 1 < w4.heap.size := (by have h := hn4.size; first | omega | (simp [size_drew_] at h; omega))))))
    all_goals clear kp
    all_goals go_wp2
    all_goals go_meet
    all_goals exact ⟨_, _, D, d3, F, d4, rfl, rfl, (by (repeat (first | exact Nx.refl _ | assumption | apply Nx.alloc | apply Nx.drew | apply Nx.drewN | (refine Nx.setCell ?_ (by first | (simp; done) | (simp; omega) | omega) _) | refine Nx.trans ?_ (by assumption))); done), (by first | (simp; done) | omega | (simp; omega) | (simp [size_drew_, size_set_]; omega)), (by first | (simp; done) | omega | (simp; omega) | (simp [size_drew_, size_set_]; omega)), (by first | (go_simp; done) | (with_reducible refine set_two (u := .slice none 0 0) ?_ ?_; (first | omega | (simp [size_drew_]; done)); (go_simp; done)) | (with_reducible refine set_last (u := .slice none 0 0) ?_ ?_; (first | omega | (simp [size_drew_]; done)); (go_simp; done))), (by first | (go_simp; done) | (with_reducible refine set_two (u := .slice none 0 0) ?_ ?_; (first | omega | (simp [size_drew_]; done)); (go_simp; done)) | (with_reducible refine set_last (u := .slice none 0 0) ?_ ?_; (first | omega | (simp [size_drew_]; done)); (go_simp; done))), OwnI.intsAt (base := W1.heap.size) (t := 3) (c := d3) (by have h4 := ho3.mono (base' := W1.heap.size) (Nx.size (by exact (by (repeat (first | exact Nx.refl _ | assumption | apply Nx.alloc | apply Nx.drew | apply Nx.drewN | (refine Nx.setCell ?_ (by first | (simp; done) | (simp; omega) | omega) _) | refine Nx.trans ?_ (by assumption))); done))); (repeat (first | (refine OwnI.nx ?_ (Nx.alloc (Nx.refl _) _)) | (refine OwnI.other ?_ (fun k hk e => by have h := ho3.lt k hk; first | omega | (simp at h; omega) | (simp [size_drew_, size_set_] at h; omega)) _ _))); exact h4.nx (by (repeat (first | exact Nx.refl _ | assumption | apply Nx.alloc | apply Nx.drew | apply Nx.drewN | (refine Nx.setCell ?_ (by first | (simp; done) | (simp; omega) | omega) _) | refine Nx.trans ?_ (by assumption))); done)), OwnI.intsAt (base := W1.heap.size) (t := 3) (c := d4) (by have h4 := ho4.mono (base' := W1.heap.size) (Nx.size (by exact (by (repeat (first | exact Nx.refl _ | assumption | apply Nx.alloc | apply Nx.drew | apply Nx.drewN | (refine Nx.setCell ?_ (by first | (simp; done) | (simp; omega) | omega) _) | refine Nx.trans ?_ (by assumption))); done))); (repeat (first | (refine OwnI.nx ?_ (Nx.alloc (Nx.refl _) _)) | (refine OwnI.other ?_ (fun k hk e => by have h := ho4.lt k hk; first | omega | (simp at h; omega) | (simp [size_drew_, size_set_] at h; omega)) _ _))); exact h4.nx (by (repeat (first | exact Nx.refl _ | assumption | apply Nx.alloc | apply Nx.drew | apply Nx.drewN | (refine Nx.setCell ?_ (by first | (simp; done) | (simp; omega) | omega) _) | refine Nx.trans ?_ (by assumption))); done))⟩
  obtain ⟨p5, p6, D, d3, F, d4, rfl, rfl, hn2, z5, z6, c5, c6, hD, hF⟩ := hcut
  obtain ⟨w2, hw2⟩ : ∃ v, v = wc := ⟨_, rfl⟩
  subst hw2
  have N := gW1.trans hn2
  clear X0 X0_0 X0_1 X0_z hn2
  have htell : TellsI 130 #[] #[.pointer (some ⟨p5, 0, none⟩), .pointer (some ⟨p6, 0, none⟩)] (fun y => !decide (lk L (xs[0]?.getD 0) = lk L y)) xs w2 := fun W y hm hW => by
    have hb := Hbd.out y hm
    obtain ⟨y, rfl⟩ := Int.eq_ofNat_of_zero_le hb.1
    have h0 : 0 < xs.length := List.length_pos_of_mem hm
    have hb0 := Hbd.out xs[0] (List.getElem_mem h0)
    have e0 : xs[0]? = some (xs[0].toNat : Int) := by rw [List.getElem?_eq_getElem h0]; congr 1; omega
    have h := cutClos_c p5 p6 D F L.length d3 xs.length d4 L xs y xs[0].toNat W (Nat.lt_of_lt_of_le z5 hW.size) (Nat.lt_of_lt_of_le z6 hW.size) (hW.cell z5 c5) (hW.cell z6 c6) (hD.nx hW) rfl (hF.nx hW) rfl e0 (by rw [HL.out]; omega) (by rw [HL.out]; omega) (by rw [HL.out]; omega) (by omega)
    rw [e0]
    exact h
  have hcf := containsFuncI_c 130 #[] #[.pointer (some ⟨p5, 0, none⟩), .pointer (some ⟨p6, 0, none⟩)] _ (enters_of Try.func130 (by rfl) rfl) F d4 xs w2 hF (by omega) htell
  have Hcf := Lib.hid hcf
  clear htell hcf hD hF
  go_wp2_with fail
  refine Hcf.out.mono ?_
  rintro e w3 ⟨rfl, hn3⟩
  go_wp2
  go_ret
  exact RetV.bool rfl (N.trans hn3)
end Go.Proofs.Ytjchabeiaajgiaa
