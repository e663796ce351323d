import Derived.Test.YtbceoigmcomlbaaJ17
import Derived.Test.YtbceoigmcomlbaaJ18
import Derived.Test.YtbceoigmcomlbaaJ19
import Derived.Deep.Cut
/- Contracts: steps, TourValid of the program. -/
namespace Go.Proofs.Ytbceoigmcomlbaa
open Go.RowKit set_option linter.unusedVariables false set_option linter.unusedSimpArgs false
open Go.Lib (compact)

/-- the steps, if each is between two nodes -/
def RetSt (xs : List Int) (w : World) (e : Ending) (w' : World) : Prop :=
  (okSteps xs ∧ ∃ A c, e = .returned (.tuple #[.slice A (stepsL xs).length c, .bool true]) ∧ OwnE w' w.heap.size 30 A c (stepsL xs) ∧ Nx w w') ∨
  (¬ okSteps xs ∧ e = .returned (.tuple #[.slice none 0 0, .bool false]) ∧ Nx w w')
theorem steps_take_len (xs : List Int) (k : Nat) : (stepsL (xs.take (k + 1))).length ≤ k := by
  rw [stepsL_len, List.length_take]; omega
set_option maxRecDepth 100000 in
set_option maxHeartbeats 8000000 in
theorem steps_c (A : Option Addr) (c : Nat) (xs : List Int) (w : World) (hx : IntsAt w A xs) (hl : xs.length ≤ 1048576) (hr : ∀ x ∈ xs, 0 ≤ x ∧ x < 16) :
    Calls Try.prog 39 #[.slice A xs.length c] w (RetSt xs w) := by
  obtain ⟨i0, hi, hz0, hz1, hz2⟩ := info_parts infoE
  have Hi := Lib.hid hi
  have Hz0 := Lib.hid hz0
  have Hz1 := Lib.hid hz1
  have Hz2 := Lib.hid hz2
  have Hr := Lib.hid hr
  clear hi hz0 hz1 hz2 hr
  go_enter Try.func39, Try.ntmps39
  go_wp2
  generalize hW1 : World.alloc _ _ = W1
  have gW1 : Nx w W1 := by subst hW1; exact (by repeat (first | exact Nx.refl _ | assumption | apply Nx.alloc | apply Nx.drew | apply Nx.drewN | (refine Nx.setCell ?_ (by first | (simp; done) | (simp; omega) | omega) _) | refine Nx.trans ?_ (by assumption)))
  have sW1 : W1.heap.size = w.heap.size + 1 := by subst hW1; simp
  have X0 : Bx W1 (w.heap.size) 30 [] := by subst hW1; have h := Bx.alloc w 30 []; simpa using h
  have X0_z := X0.lt
  have HsW1 := Lib.hid sW1
  have lW1 : w.heap.size + 1 ≤ W1.heap.size := by omega
  clear hW1 sW1
  have ho0 : OwnE W1 w.heap.size 30 _ 0 [] := X0.emptyE (Nat.le_refl _)
  go_loopg [4, 5] xs.length (fun gk o i wr => ∃ (k : Nat) (A' : Option Addr) (c' : Nat), k + gk = xs.length ∧ i = .int .i64 ((k + 1 : Nat) : Int) ∧ o = .slice A' (stepsL (xs.take (k + 1))).length c' ∧ OwnE wr w.heap.size 30 A' c' (stepsL (xs.take (k + 1))) ∧ Nx w wr ∧ ∀ j x y, j < k → xs[j]? = some x → xs[j + 1]? = some y → x ≠ y)
  case atStart => exact ⟨0, some ⟨w.heap.size, 0, none⟩, 0, by omega, rfl, by rw [stepsL_one]; rfl, by rw [stepsL_one]; exact ho0, gW1, fun j x y hj => by omega⟩
  case round =>
    clear X0 ho0
    obtain ⟨k, A', c', hk, rfl, rfl, hown, hn, hno⟩ := hrel
    have hlen := steps_take_len xs k
    have Hno := Lib.hid hno
    clear hno
    by_cases hlt : k + 1 < xs.length
    · obtain ⟨x, hx0⟩ : ∃ x, xs[k]? = some x := ⟨_, List.getElem?_eq_getElem (by omega)⟩
      obtain ⟨y, hy0⟩ : ∃ x, xs[k + 1]? = some x := ⟨_, List.getElem?_eq_getElem (by omega)⟩
      obtain ⟨b, off, rfl, hbl, h1⟩ := (hx.nx hn).rd hx0
      obtain ⟨b', off', e, _, h2⟩ := (hx.nx hn).rd hy0
      injection e with e
      injection e with e1 e2
      subst e1 e2
      have Hst := Lib.hid (stepsL_take hx0 hy0)
      have hwm : IntKind.i64.wrap (((k + 1 : Nat) : Int) - 1) = (k : Int) := by rw [IntKind.wrap_i64]; omega
      have hkl : k < xs.length := by omega
      have Hk2 : Hid (k + 2 = k + 1 + 1) := Lib.hid rfl
      have rx := Hr.out x (List.mem_of_getElem? hx0)
      have ry := Hr.out y (List.mem_of_getElem? hy0)
      have hcon := fun w' => iEdgeOf_c x y w'
      have Hx0 := Lib.hid hx0
      have Hy0 := Lib.hid hy0
      by_cases hxy : x = y
      · have hbad : ¬ okSteps xs := fun h => h k x y hx0 hy0 hxy
        rw [eof_no (fun h : okE x y => h.2.2.2.2 hxy)] at hcon
        have Hcon := Lib.hid hcon
        have Hbad := Lib.hid hbad
        subst hxy
        generalize hM : k + 1 = j at *
        have HM := Lib.hid hM
        clear hM hcon hx hx0 hy0 hown hbad
        go_wp2
        have kp : ∀ w', Nx wr w' → (fun w_ => Nx wr w_ ∧ w_.cell? ⟨b, off + k, none⟩ = some (V x) ∧ w_.cell? ⟨b, off + j, none⟩ = some (V x)) w' := fun w' h => ⟨h, h.cell (p := ⟨b, off + k, none⟩) hbl h1, h.cell (p := ⟨b, off + j, none⟩) hbl h2⟩
        go_upto_region 5 with (fail)
        go_cut [6, 7] from 15 to 27 (fun s6 s7 wc => ∃ (b6 : Nat), s6 = .pointer (some ⟨b6, 0, none⟩) ∧ s7 = .bool false ∧ Nx wr wc)
        case first =>
          have hq0 : wr.heap.size ≤ wr.heap.size := Nat.le_refl _
          go_region_held3 (fun w_ => Nx wr w_ ∧ w_.cell? ⟨b, off + k, none⟩ = some (V x) ∧ w_.cell? ⟨b, off + j, none⟩ = some (V x))
            (exact kp _ (by (repeat (first | exact Nx.refl _ | assumption | apply Nx.alloc | apply Nx.drew | apply Nx.drewN | (refine Nx.setCell ?_ (by first | (simp; done) | (simp; omega) | omega) _) | refine Nx.trans ?_ (by assumption))); done))
            (first | (go_at_call 25; (with_reducible refine (Hcon.out _).mono ?_); rintro e w3 ⟨rfl, hn3⟩; have hs3 : wr.heap.size ≤ w3.heap.size := Nx.size (by exact (by (repeat (first | exact Nx.refl _ | assumption | apply Nx.alloc | apply Nx.drew | apply Nx.drewN | (refine Nx.setCell ?_ (by first | (simp; done) | (simp; omega) | omega) _) | refine Nx.trans ?_ (by assumption))); done)); obtain ⟨hc3, hf3, hz3⟩ := hn3.rules; (try simp [size_drew_] at hz3); (try (have hq3 : wr.heap.size < w3.heap.size := (by have h := hn3.size; first | omega | (simp [size_drew_] at h; omega))))))
          all_goals go_wp2
          all_goals go_meet
          all_goals exact ⟨_, rfl, rfl, (by (repeat (first | exact Nx.refl _ | assumption | apply Nx.alloc | apply Nx.drew | apply Nx.drewN | (refine Nx.setCell ?_ (by first | (simp; done) | (simp; omega) | omega) _) | refine Nx.trans ?_ (by assumption))); done)⟩
        obtain ⟨b6, rfl, rfl, hn4⟩ := hcut
        go_wp2
        go_ret2
        exact .inr ⟨Hbad.out, rfl, hn.trans hn4⟩
      · rw [eof_yes (⟨rx.1, rx.2, ry.1, ry.2, hxy⟩ : okE x y)] at hcon
        have Hxy := Lib.hid hxy
        have hmm : Hid (eOf x y = (min x y, max x y)) := Lib.hid rfl
        clear hxy rx ry
        generalize min x y = e1 at *
        generalize max x y = e2 at *
        have Hcon := Lib.hid hcon
        generalize stepsL (xs.take (k + 1)) = acc at *
        generalize hM : k + 1 = j at *
        have HM := Lib.hid hM
        have Hown := Lib.hid hown
        clear hM hcon hx hx0 hy0 hown
        go_wp2
        have kp : ∀ w', Nx wr w' → (fun w_ => Nx wr w_ ∧ w_.cell? ⟨b, off + k, none⟩ = some (V x) ∧ w_.cell? ⟨b, off + j, none⟩ = some (V y)) w' := fun w' h => ⟨h, h.cell (p := ⟨b, off + k, none⟩) hbl h1, h.cell (p := ⟨b, off + j, none⟩) hbl h2⟩
        go_upto_region 5 with (fail)
        go_cut [6, 7] from 15 to 27 (fun s6 s7 wc => ∃ (b6 : Nat), s6 = .pointer (some ⟨b6, 0, none⟩) ∧ s7 = .bool true ∧ Nx wr wc ∧ b6 < wc.heap.size ∧ wc.cell? ⟨b6, 0, none⟩ = some (V e1) ∧ wc.cell? ⟨b6, 1, none⟩ = some (V e2))
        case first =>
          have hq0 : wr.heap.size ≤ wr.heap.size := Nat.le_refl _
          go_region_held3 (fun w_ => Nx wr w_ ∧ w_.cell? ⟨b, off + k, none⟩ = some (V x) ∧ w_.cell? ⟨b, off + j, none⟩ = some (V y))
            (exact kp _ (by (repeat (first | exact Nx.refl _ | assumption | apply Nx.alloc | apply Nx.drew | apply Nx.drewN | (refine Nx.setCell ?_ (by first | (simp; done) | (simp; omega) | omega) _) | refine Nx.trans ?_ (by assumption))); done))
            (first | (go_at_call 25; (with_reducible refine (Hcon.out _).mono ?_); rintro e w3 ⟨rfl, hn3⟩; have hs3 : wr.heap.size ≤ w3.heap.size := Nx.size (by exact (by (repeat (first | exact Nx.refl _ | assumption | apply Nx.alloc | apply Nx.drew | apply Nx.drewN | (refine Nx.setCell ?_ (by first | (simp; done) | (simp; omega) | omega) _) | refine Nx.trans ?_ (by assumption))); done)); obtain ⟨hc3, hf3, hz3⟩ := hn3.rules; (try simp [size_drew_] at hz3); (try (have hq3 : wr.heap.size < w3.heap.size := (by have h := hn3.size; first | omega | (simp [size_drew_] at h; omega))))))
          all_goals go_wp2
          all_goals go_meet
          all_goals exact ⟨_, rfl, rfl, (by (repeat (first | exact Nx.refl _ | assumption | apply Nx.alloc | apply Nx.drew | apply Nx.drewN | (refine Nx.setCell ?_ (by first | (simp; done) | (simp; omega) | omega) _) | refine Nx.trans ?_ (by assumption))); done), (by first | (simp; done) | omega | (simp; omega) | (simp [size_drew_, size_set_]; omega)), (by go_simp), (by go_simp)⟩
        obtain ⟨b6, rfl, rfl, hn4, E_z, E_0, E_1⟩ := hcut
        obtain ⟨W4, hW4⟩ : ∃ v, v = wc := ⟨_, rfl⟩
        subst hW4
        have ho4 := Hown.out.nx hn4
        have Ho4 := Lib.hid ho4
        have hz4 := hn4.size
        have hz0 := hn.size
        clear Hown ho4 kp h1 h2
        go_wp2_with (at_builtin; go_must (refine appE (base := w.heap.size) (t := 30) acc W4.heap.size e1 e2 rfl rfl Try.underlying26 Hi.out Hz0.out Hz1.out Hz2.out rfl rfl (Ho4.out.nx (Nx.alloc (Nx.refl _) _)) rfl (by go_simp) (by go_simp) (by omega) (by simp; omega) ?_; intro A2 c2 w5 hown5 hnx5 hgr5 hbl5))
        go_roundg (gk - 1)
        case measure => omega
        case rel => exact ⟨j, A2, c2, by have := HM.out; omega, by go_num, by rw [← Hk2.out, Hst.out, ← hmm.out.symm]; simp, by rw [← Hk2.out, Hst.out, hmm.out]; exact hown5, hnx5 w (Nat.le_refl _) ((hn.trans hn4).alloc _), fun i a b' hi ha hb => by
          have := HM.out
          rcases Nat.lt_succ_iff_lt_or_eq.1 (show i < k + 1 by omega) with h | rfl
          · exact Hno.out i a b' h ha hb
          · rw [Hx0.out] at ha; rw [this, Hy0.out] at hb; injection ha with ha; injection hb with hb; subst ha hb; exact Hxy.out⟩
    · have he : xs.take (k + 1) = xs := List.take_of_length_le (by omega)
      have He := Lib.hid he
      have Hown := Lib.hid hown
      clear he hown
      go_wp2
      go_ret2
      refine .inl ⟨fun i x y h1 h2 => Hno.out i x y (by have := (List.getElem?_eq_some_iff.1 h2).1; omega) h1 h2, A', c', ?_, ?_, hn⟩
      · rw [He.out]; rfl
      · have := Hown.out
        rw [He.out] at this
        exact this

/-! ### a search that leaves the world alone -/
def TellsS (g : Nat) (bd lb : Array Value) (p : Int → Bool) (xs : List Int) (w : World) : Prop :=
  ∀ x : Int, x ∈ xs → Calls Try.prog g (bd.push (V x) ++ lb) w (RetS (.bool (p x)) w)
set_option maxRecDepth 100000 in
set_option maxHeartbeats 2000000 in
theorem indexFuncS_c (g : Nat) (bd lb : Array Value) (p : Int → Bool) (eg : ∀ args w, (callFunc g args).run Try.prog w = .ok (.enter g args) w) (A : Option Addr) (c : Nat) (xs : List Int) (w : World)
    (hx : IntsAt w A xs) (hl : xs.length ≤ 1048576) (hp : TellsS g bd lb p xs w) :
    Calls Try.prog 66 #[.slice A xs.length c, .func (.func g) bd lb] w (RetS (V (fstJ p xs)) w) := by
  have Hp := Lib.hid hp
  clear hp
  go_enter Try.func66, Try.ntmps66
  go_wp2
  go_loopg [5, 8] xs.length (fun gk _ i wr => ∃ k : Nat, k + gk = xs.length ∧ i = .int .i64 k ∧ w = wr ∧ ∀ j, j < k → ∀ d, xs[j]? = some d → p d = false)
  case atStart => exact ⟨0, by omega, rfl, rfl, fun j hj => by omega⟩
  case round =>
    obtain ⟨k, hk, rfl, rfl, hno⟩ := hrel
    have Hno := Lib.hid hno
    clear hno
    by_cases hlt : k < xs.length
    · obtain ⟨x, hek⟩ : ∃ x, xs[k]? = some x := ⟨_, List.getElem?_eq_getElem hlt⟩
      obtain ⟨b, off, rfl, hbl, h1⟩ := hx.rd hek
      have Hek := Lib.hid hek
      clear hek hx
      go_wp2_with fail
      refine (Hp.out x (List.mem_of_getElem? Hek.out)).mono ?_
      rintro e w' ⟨rfl, rfl⟩
      cases hq : p x with
      | true =>
        have Hq := Lib.hid hq
        clear hq
        go_wp2
        go_ret
        exact RetS.int (fstJ_hit Hno.out Hek.out Hq.out).symm
      | false =>
        have Hq := Lib.hid hq
        clear hq
        go_wp2
        go_roundg (gk - 1)
        case measure => omega
        case rel => exact ⟨k + 1, by omega, by go_num, rfl, no_stepI Hno.out Hek.out Hq.out⟩
    · go_wp2
      go_ret
      exact RetS.int (fstJ_no (fun j hj => Hno.out j (by omega))).symm
theorem containsFuncS_c (g : Nat) (bd lb : Array Value) (p : Int → Bool) (eg : ∀ args w, (callFunc g args).run Try.prog w = .ok (.enter g args) w) (A : Option Addr) (c : Nat) (xs : List Int) (w : World)
    (hx : IntsAt w A xs) (hl : xs.length ≤ 1048576) (hp : TellsS g bd lb p xs w) :
    Calls Try.prog 36 #[.slice A xs.length c, .func (.func g) bd lb] w (RetS (.bool (xs.any p)) w) := by
  have hi := indexFuncS_c g bd lb p eg A c xs w hx hl hp
  rw [← fstJ_nonneg]
  generalize fstJ p xs = i at *
  have Hi := Lib.hid hi
  clear hi hp
  go_enter Try.func36, Try.ntmps36
  go_wp2_with fail
  refine Hi.out.mono ?_
  rintro e w1 ⟨rfl, rfl⟩
  go_wp2
  go_ret
  exact RetS.bool rfl
theorem notNode_s (x : Int) (w : World) : Calls Try.prog 37 #[V x] w (RetS (.bool (!decide (0 ≤ x ∧ x < 16))) w) := by
  generalize hq : decide (0 ≤ x ∧ x < 16) = q
  have hc := isNode_s x w
  rw [hq] at hc
  have Hc := Lib.hid hc
  clear hc hq
  go_enter Try.func37, Try.ntmps37
  go_wp2_with fail
  refine Hc.out.mono ?_
  rintro e w1 ⟨rfl, rfl⟩
  go_wp2
  go_ret
  exact RetS.bool rfl
theorem anyBad_s (A : Option Addr) (c : Nat) (xs : List Int) (w : World) (hx : IntsAt w A xs) (hl : xs.length ≤ 1048576) :
    Calls Try.prog 36 #[.slice A xs.length c, .func (.func 37) #[] #[]] w (RetS (.bool (badN xs)) w) :=
  containsFuncS_c 37 #[] #[] _ (enters_of Try.func37 (by rfl) rfl) A c xs w hx hl fun x _ => notNode_s x w

theorem noV_step {S : Es} {k : Nat} {x y : Int × Int} (h : NoV S (k + 1)) (hx : S[k]? = some x) (hy : S[k + 1]? = some y) (h1 : (k + 1) % 2 = 1 → x = y) (h2 : (k + 1) % 2 = 0 → x ≠ y) : NoV S (k + 2) := fun i a b hi ha hb => by
  by_cases e : i = k
  · subst e
    rw [hx] at ha; rw [hy] at hb; injection ha with ha; injection hb with hb; subst ha hb
    exact ⟨h1, h2⟩
  · exact h i a b (by omega) ha hb
set_option maxRecDepth 100000 in
set_option maxHeartbeats 1600000 in
theorem iTourValid_c (A : Option Addr) (c n : Nat) (xs : List Int) (w : World) (hn : xs.length = n) (hc : n ≤ c) (hx : IntsAt w A xs) (hl : n ≤ 1048576) :
    Calls Try.prog 13 #[.slice A n c] w (RetV (.bool (decide (TV xs))) w) := by
  have Hn := Lib.hid hn
  by_cases h1 : (n : Int) < 1
  · have hf : decide (TV xs) = false := decide_eq_false fun h => by have := h.1.1; omega
    rw [hf]
    obtain rfl : n = 0 := by omega
    clear hn h1 hx hl hc Hn hf
    go_enter Try.func13, Try.ntmps13
    go_wp2
    go_quiet (fail)
    go_wp2
    go_ret
    exact RetV.bool rfl (by repeat (first | exact Nx.refl _ | assumption | apply Nx.alloc | apply Nx.drew | apply Nx.drewN | (refine Nx.setCell ?_ (by first | (simp; done) | (simp; omega) | omega) _) | refine Nx.trans ?_ (by assumption)))
  · have g1 : decide ((n : Int) < 1) = false := decide_eq_false h1
    have hn0 : ¬ n = 0 := by omega
    have h0 : 0 < n := by omega
    by_cases h2 : (31 : Int) < (n : Int)
    · have hf : decide (TV xs) = false := decide_eq_false fun h => by have := h.1.2.1; omega
      rw [hf]
      clear hn hf Hn hx hc
      go_enter Try.func13, Try.ntmps13
      go_wp2
      go_quiet (fail)
      go_wp2
      go_ret
      exact RetV.bool rfl (by repeat (first | exact Nx.refl _ | assumption | apply Nx.alloc | apply Nx.drew | apply Nx.drewN | (refine Nx.setCell ?_ (by first | (simp; done) | (simp; omega) | omega) _) | refine Nx.trans ?_ (by assumption)))
    · have g2 : decide ((31 : Int) < (n : Int)) = false := decide_eq_false h2
      have Hx := Lib.hid hx
      have hbad := fun w' h => RetS.same (anyBad_s A c xs w' h (by omega))
      rw [hn] at hbad
      cases hb : badN xs with
      | true =>
        have hf : decide (TV xs) = false := decide_eq_false fun h => by
          have := (badN_iff xs).2 h.2.1
          rw [hb] at this; cases this
        rw [hf]
        rw [hb] at hbad
        have Hbad := Lib.hid hbad
        clear hn hf Hn hx hc hbad hb
        go_enter Try.func13, Try.ntmps13
        go_wp2
        go_quiet ((go_at_call 36; refine Calls.quiet_of_same (Hbad.out _ (Hx.out.nx (Nx.drewN (.refl _) _)))))
        go_wp2
        go_ret
        exact RetV.bool rfl (by repeat (first | exact Nx.refl _ | assumption | apply Nx.alloc | apply Nx.drew | apply Nx.drewN | (refine Nx.setCell ?_ (by first | (simp; done) | (simp; omega) | omega) _) | refine Nx.trans ?_ (by assumption)))
      | false =>
        rw [hb] at hbad
        have Hbad := Lib.hid hbad
        have hrange := (badN_iff xs).1 hb
        have Hrange := Lib.hid hrange
        clear hbad hb hrange
        obtain ⟨x0, xl, hx0, hxl⟩ := head_last (L := xs) (by omega)
        rw [hn] at hxl
        obtain ⟨b, off, rfl, hbl, r0⟩ := hx.rd hx0
        obtain ⟨b', off', e, _, rl⟩ := hx.rd hxl
        injection e with e
        injection e with e1 e2
        subst e1 e2
        rw [Nat.add_zero] at r0
        have hwm : IntKind.i64.wrap ((n : Int) - 1) = ((n - 1 : Nat) : Int) := by rw [IntKind.wrap_i64]; omega
        have hml : n - 1 < n := by omega
        obtain ⟨m, hm⟩ : ∃ m, n - 1 = m := ⟨_, rfl⟩
        rw [hm] at rl hxl hwm hml
        have Hm := Lib.hid hm
        have Hwm := Lib.hid hwm
        clear hm hx hn hwm
        by_cases h3 : (x0 != xl) = true
        · have hf : decide (TV xs) = false := decide_eq_false fun h => by
            have h4 := h.1.2.2
            rw [Hn.out, Hm.out, hx0, hxl] at h4
            injection h4 with h4
            simp at h3
            exact h3 h4
          rw [hf]
          clear hx0 hxl hf
          go_enter Try.func13, Try.ntmps13
          go_wp2
          have hwm := Hwm.out
          go_quiet ((go_at_call 36; refine Calls.quiet_of_same (Hbad.out _ (Hx.out.nx (Nx.drewN (.refl _) _)))))
          clear hwm
          go_wp2
          go_ret
          exact RetV.bool rfl (by repeat (first | exact Nx.refl _ | assumption | apply Nx.alloc | apply Nx.drew | apply Nx.drewN | (refine Nx.setCell ?_ (by first | (simp; done) | (simp; omega) | omega) _) | refine Nx.trans ?_ (by assumption)))
        · have h3 : (x0 != xl) = false := by simpa using h3
          have hends : xs[0]? = xs[xs.length - 1]? := by
            rw [Hn.out, Hm.out, hx0, hxl]
            simp at h3
            rw [h3]
          have Hends := Lib.hid hends
          have hsteps := fun w' h => steps_c (some ⟨b, off, none⟩) c xs w' h (by have := Hn.out; omega) Hrange.out
          rw [Hn.out] at hsteps
          have Hsteps := Lib.hid hsteps
          clear hx0 hxl hends hsteps
          go_enter Try.func13, Try.ntmps13
          go_wp2
          have hwm := Hwm.out
          go_quiet ((go_at_call 36; refine Calls.quiet_of_same (Hbad.out _ (Hx.out.nx (Nx.drewN (.refl _) _)))))
          clear hwm Hwm h3 r0 rl
          generalize hW : World.drewN _ _ = w1
          have n1 : Nx w w1 := by subst hW; exact (by repeat (first | exact Nx.refl _ | assumption | apply Nx.alloc | apply Nx.drew | apply Nx.drewN | (refine Nx.setCell ?_ (by first | (simp; done) | (simp; omega) | omega) _) | refine Nx.trans ?_ (by assumption)))
          clear hW
          go_wp2_with fail
          refine (Hsteps.out _ (Hx.out.nx n1)).mono ?_
          rintro e w2 (⟨hok, A2, c2, rfl, ho2, hn2⟩ | ⟨hbadS, rfl, hn2⟩)
          rotate_left
          · have Hb := Lib.hid hbadS
            clear hbadS
            go_wp2
            go_ret
            exact RetV.bool (by symm; rw [decide_eq_false_iff_not]; exact fun h => Hb.out h.2.2.1) (n1.trans hn2)
          · have htv := tv_impl ⟨(by have := Hn.out; omega : 1 ≤ xs.length), (by have := Hn.out; omega), Hends.out⟩ Hrange.out hok
            have hSl := srtE_length (stepsL xs)
            have hml2 : (stepsL xs).length ≤ 31 := by rw [stepsL_len, Hn.out]; omega
            have ho2 := ho2
            have hsort := sortE_c w1.heap.size A2 c2 (stepsL xs) w2 ho2 (by omega)
            have hlt2 := ho2.lt
            have hcap2 := ho2.cap
            unfold SortedE at hsort
            unfold OwnE at hsort
            rw [hSl] at hsort
            have hclone := fun w' h => cloneI_c (some ⟨b, off, none⟩) c xs w' h (by have := Hn.out; omega)
            rw [Hn.out] at hclone
            generalize srtE (stepsL xs) = S at *
            generalize (stepsL xs).length = m2 at *
            have Hsort := Lib.hid hsort
            have Htv := Lib.hid htv
            have Hclone := Lib.hid hclone
            have HSl := Lib.hid hSl
            clear hsort htv hok ho2 hclone hSl
            go_wp2_with fail
            refine Hsort.out.mono ?_
            rintro e w3 ⟨rfl, ho3, hg3⟩
            have N3 : Nx w1 w3 := Nx.grown hn2 hg3 (fun k hk => (hlt2 k hk).1)
            have ho3 : OwnE w3 w1.heap.size 30 A2 c2 S := by unfold OwnE; rw [HSl.out]; exact ho3
            have Ho3 := Lib.hid ho3
            clear ho3 Hsort
            go_wp2
            go_loopg [43] m2 (fun gk i wr => ∃ k : Nat, k + gk = m2 ∧ i = .int .i64 k ∧ Nx w3 wr ∧ NoV S k)
            case atStart => exact ⟨0, by omega, rfl, Nx.refl _, fun i x y hi => by omega⟩
            case round =>
              obtain ⟨k, hk, rfl, hn4, hno⟩ := hrel
              have Hno := Lib.hid hno
              clear hno
              by_cases hlt : k < m2
              · obtain ⟨⟨y1, y2⟩, hek⟩ : ∃ e, S[k]? = some e := ⟨_, List.getElem?_eq_getElem (by have := HSl.out; omega)⟩
                obtain ⟨be, oe, rfl, hbe, q1, q2⟩ := (Ho3.out.nx hn4).edgesAt.rd hek
                have Hek := Lib.hid hek
                clear hek
                by_cases k0 : k = 0
                · subst k0
                  rw [Nat.zero_mul, Nat.add_zero] at q1 q2
                  go_wp2
                  go_quiet (fail)
                  go_wp2
                  go_roundg (gk - 1)
                  case measure => omega
                  case rel => exact ⟨1, by omega, by go_num, (by repeat (first | exact Nx.refl _ | assumption | apply Nx.alloc | apply Nx.drew | apply Nx.drewN | (refine Nx.setCell ?_ (by first | (simp; done) | (simp; omega) | omega) _) | refine Nx.trans ?_ (by assumption))), fun i x y hi => by omega⟩
                · obtain ⟨j, rfl⟩ : ∃ j, k = j + 1 := ⟨k - 1, by omega⟩
                  obtain ⟨⟨x1, x2⟩, hej⟩ : ∃ e, S[j]? = some e := ⟨_, List.getElem?_eq_getElem (by have := HSl.out; omega)⟩
                  obtain ⟨b', off', e, _, p1, p2⟩ := (Ho3.out.nx hn4).edgesAt.rd hej
                  injection e with e
                  injection e with e1 e2
                  subst e1 e2
                  have Hej := Lib.hid hej
                  have hwj : IntKind.i64.wrap (((j + 1 : Nat) : Int) - 1) = (j : Int) := by rw [IntKind.wrap_i64]; omega
                  have hjn : j < m2 := by omega
                  clear hej k0
                  have hgood := fun h1 h2 => noV_step Hno.out Hej.out Hek.out h1 h2
                  have hbadv : ∀ (_ : ¬ (((j + 1) % 2 = 1 → (x1, x2) = (y1, y2)) ∧ ((j + 1) % 2 = 0 → (x1, x2) ≠ (y1, y2)))), ¬ NoV S m2 := fun hb h => hb (h j (x1, x2) (y1, y2) hlt Hej.out Hek.out)
                  have Hgood := Lib.hid hgood
                  have Hbadv := Lib.hid hbadv
                  clear hgood hbadv
                  obtain ⟨k, hkj⟩ : ∃ k, j + 1 = k := ⟨_, rfl⟩
                  have h0k : 0 < k := by omega
                  have Hkj := Lib.hid hkj
                  rw [show j + 2 = k + 1 by omega, hkj] at Hgood
                  rw [hkj] at hk hlt Hek q1 q2 hwj Hbadv
                  rw [hkj]
                  have Hwj := Lib.hid hwj
                  have dk0 : decide ((0 : Int) < (k : Int)) = true := decide_eq_true (by omega)
                  clear hkj hwj
                  rcases Nat.mod_two_eq_zero_or_one k with hpar | hpar
                  · have hr1 : ((k : Nat) : Int).tmod 2 = 0 := by rw [Int.tmod_eq_emod_of_nonneg (by omega)]; omega
                    have hr2 : ((k : Nat) : Int) % 2 = 0 := by omega
                    by_cases hq : x1 = y1 ∧ x2 = y2
                    · obtain ⟨rfl, rfl⟩ := hq
                      have Hbv := Lib.hid (Hbadv.out (fun h => h.2 hpar rfl))
                      clear Hgood Hbadv hpar
                      go_wp2
                      generalize hW5 : World.alloc _ _ = w5
                      have n5 : Nx wr w5 := by subst hW5; exact (by repeat (first | exact Nx.refl _ | assumption | apply Nx.alloc | apply Nx.drew | apply Nx.drewN | (refine Nx.setCell ?_ (by first | (simp; done) | (simp; omega) | omega) _) | refine Nx.trans ?_ (by assumption)))
                      have e0 : w5.cell? ⟨wr.heap.size, 0, none⟩ = some (V x1) := by subst hW5; go_simp
                      have e1 : w5.cell? ⟨wr.heap.size, 1, none⟩ = some (V x2) := by subst hW5; go_simp
                      clear hW5
                      replace q1 := n5.cell (p := ⟨be, oe + k * 2, none⟩) hbe q1
                      replace q2 := n5.cell (p := ⟨be, oe + k * 2 + 1, none⟩) hbe q2
                      replace p1 := n5.cell (p := ⟨be, oe + j * 2, none⟩) hbe p1
                      replace p2 := n5.cell (p := ⟨be, oe + j * 2 + 1, none⟩) hbe p2
                      have hwj := Hwj.out
                      go_quiet (fail)
                      clear hwj
                      go_wp2
                      go_ret
                      exact RetV.bool (by symm; rw [decide_eq_false_iff_not]; exact fun h => Hbv.out ((Htv.out.1 h).1)) (by repeat (first | exact Nx.refl _ | assumption | apply Nx.alloc | apply Nx.drew | apply Nx.drewN | (refine Nx.setCell ?_ (by first | (simp; done) | (simp; omega) | omega) _) | refine Nx.trans ?_ (by assumption)))
                    · have hne : (x1, x2) ≠ (y1, y2) := fun h => hq (by injection h with h1 h2; exact ⟨h1, h2⟩)
                      have Hgv := Lib.hid (Hgood.out (fun h => by omega) (fun _ => hne))
                      by_cases f0 : (x1 == y1) = true
                      · have f1 : (x1 == y1) = true := f0
                        have f2 : (x2 == y2) = false := by simp at f1; simp; exact fun h => hq ⟨f1, h⟩
                        clear hq f0 hne Hgood Hbadv hpar
                        go_wp2
                        generalize hW5 : World.alloc _ _ = w5
                        have n5 : Nx wr w5 := by subst hW5; exact (by repeat (first | exact Nx.refl _ | assumption | apply Nx.alloc | apply Nx.drew | apply Nx.drewN | (refine Nx.setCell ?_ (by first | (simp; done) | (simp; omega) | omega) _) | refine Nx.trans ?_ (by assumption)))
                        have e0 : w5.cell? ⟨wr.heap.size, 0, none⟩ = some (V y1) := by subst hW5; go_simp
                        have e1 : w5.cell? ⟨wr.heap.size, 1, none⟩ = some (V y2) := by subst hW5; go_simp
                        clear hW5
                        replace q1 := n5.cell (p := ⟨be, oe + k * 2, none⟩) hbe q1
                        replace q2 := n5.cell (p := ⟨be, oe + k * 2 + 1, none⟩) hbe q2
                        replace p1 := n5.cell (p := ⟨be, oe + j * 2, none⟩) hbe p1
                        replace p2 := n5.cell (p := ⟨be, oe + j * 2 + 1, none⟩) hbe p2
                        have hwj := Hwj.out
                        go_quiet (fail)
                        clear hwj
                        go_wp2
                        go_roundg (gk - 1)
                        case measure => omega
                        case rel => exact ⟨k + 1, by omega, by go_num, (by repeat (first | exact Nx.refl _ | assumption | apply Nx.alloc | apply Nx.drew | apply Nx.drewN | (refine Nx.setCell ?_ (by first | (simp; done) | (simp; omega) | omega) _) | refine Nx.trans ?_ (by assumption))), Hgv.out⟩
                      · have f1 : (x1 == y1) = false := by simpa using f0
                        clear hq f0 hne Hgood Hbadv hpar
                        go_wp2
                        generalize hW5 : World.alloc _ _ = w5
                        have n5 : Nx wr w5 := by subst hW5; exact (by repeat (first | exact Nx.refl _ | assumption | apply Nx.alloc | apply Nx.drew | apply Nx.drewN | (refine Nx.setCell ?_ (by first | (simp; done) | (simp; omega) | omega) _) | refine Nx.trans ?_ (by assumption)))
                        have e0 : w5.cell? ⟨wr.heap.size, 0, none⟩ = some (V y1) := by subst hW5; go_simp
                        have e1 : w5.cell? ⟨wr.heap.size, 1, none⟩ = some (V y2) := by subst hW5; go_simp
                        clear hW5
                        replace q1 := n5.cell (p := ⟨be, oe + k * 2, none⟩) hbe q1
                        replace q2 := n5.cell (p := ⟨be, oe + k * 2 + 1, none⟩) hbe q2
                        replace p1 := n5.cell (p := ⟨be, oe + j * 2, none⟩) hbe p1
                        replace p2 := n5.cell (p := ⟨be, oe + j * 2 + 1, none⟩) hbe p2
                        have hwj := Hwj.out
                        go_quiet (fail)
                        clear hwj
                        go_wp2
                        go_roundg (gk - 1)
                        case measure => omega
                        case rel => exact ⟨k + 1, by omega, by go_num, (by repeat (first | exact Nx.refl _ | assumption | apply Nx.alloc | apply Nx.drew | apply Nx.drewN | (refine Nx.setCell ?_ (by first | (simp; done) | (simp; omega) | omega) _) | refine Nx.trans ?_ (by assumption))), Hgv.out⟩
                  · have hr1 : ((k : Nat) : Int).tmod 2 = 1 := by rw [Int.tmod_eq_emod_of_nonneg (by omega)]; omega
                    have hr2 : ((k : Nat) : Int) % 2 = 1 := by omega
                    by_cases hq : x1 = y1 ∧ x2 = y2
                    · obtain ⟨rfl, rfl⟩ := hq
                      have Hgv := Lib.hid (Hgood.out (fun _ => rfl) (fun h => by omega))
                      clear Hgood Hbadv hpar
                      go_wp2
                      generalize hW5 : World.alloc _ _ = w5
                      have n5 : Nx wr w5 := by subst hW5; exact (by repeat (first | exact Nx.refl _ | assumption | apply Nx.alloc | apply Nx.drew | apply Nx.drewN | (refine Nx.setCell ?_ (by first | (simp; done) | (simp; omega) | omega) _) | refine Nx.trans ?_ (by assumption)))
                      have e0 : w5.cell? ⟨wr.heap.size, 0, none⟩ = some (V x1) := by subst hW5; go_simp
                      have e1 : w5.cell? ⟨wr.heap.size, 1, none⟩ = some (V x2) := by subst hW5; go_simp
                      clear hW5
                      replace q1 := n5.cell (p := ⟨be, oe + k * 2, none⟩) hbe q1
                      replace q2 := n5.cell (p := ⟨be, oe + k * 2 + 1, none⟩) hbe q2
                      replace p1 := n5.cell (p := ⟨be, oe + j * 2, none⟩) hbe p1
                      replace p2 := n5.cell (p := ⟨be, oe + j * 2 + 1, none⟩) hbe p2
                      have hwj := Hwj.out
                      go_quiet (fail)
                      clear hwj
                      go_wp2
                      go_roundg (gk - 1)
                      case measure => omega
                      case rel => exact ⟨k + 1, by omega, by go_num, (by repeat (first | exact Nx.refl _ | assumption | apply Nx.alloc | apply Nx.drew | apply Nx.drewN | (refine Nx.setCell ?_ (by first | (simp; done) | (simp; omega) | omega) _) | refine Nx.trans ?_ (by assumption))), Hgv.out⟩
                    · have hne : (x1, x2) ≠ (y1, y2) := fun h => hq (by injection h with h1 h2; exact ⟨h1, h2⟩)
                      have Hbv := Lib.hid (Hbadv.out (fun h => hne (h.1 hpar)))
                      by_cases f0 : (x1 == y1) = true
                      · have f1 : (x1 == y1) = true := f0
                        have f2 : (x2 == y2) = false := by simp at f1; simp; exact fun h => hq ⟨f1, h⟩
                        clear hq f0 hne Hgood Hbadv hpar
                        go_wp2
                        generalize hW5 : World.alloc _ _ = w5
                        have n5 : Nx wr w5 := by subst hW5; exact (by repeat (first | exact Nx.refl _ | assumption | apply Nx.alloc | apply Nx.drew | apply Nx.drewN | (refine Nx.setCell ?_ (by first | (simp; done) | (simp; omega) | omega) _) | refine Nx.trans ?_ (by assumption)))
                        have e0 : w5.cell? ⟨wr.heap.size, 0, none⟩ = some (V y1) := by subst hW5; go_simp
                        have e1 : w5.cell? ⟨wr.heap.size, 1, none⟩ = some (V y2) := by subst hW5; go_simp
                        clear hW5
                        replace q1 := n5.cell (p := ⟨be, oe + k * 2, none⟩) hbe q1
                        replace q2 := n5.cell (p := ⟨be, oe + k * 2 + 1, none⟩) hbe q2
                        replace p1 := n5.cell (p := ⟨be, oe + j * 2, none⟩) hbe p1
                        replace p2 := n5.cell (p := ⟨be, oe + j * 2 + 1, none⟩) hbe p2
                        have hwj := Hwj.out
                        go_quiet (fail)
                        clear hwj
                        go_wp2
                        go_ret
                        exact RetV.bool (by symm; rw [decide_eq_false_iff_not]; exact fun h => Hbv.out ((Htv.out.1 h).1)) (by repeat (first | exact Nx.refl _ | assumption | apply Nx.alloc | apply Nx.drew | apply Nx.drewN | (refine Nx.setCell ?_ (by first | (simp; done) | (simp; omega) | omega) _) | refine Nx.trans ?_ (by assumption)))
                      · have f1 : (x1 == y1) = false := by simpa using f0
                        clear hq f0 hne Hgood Hbadv hpar
                        go_wp2
                        generalize hW5 : World.alloc _ _ = w5
                        have n5 : Nx wr w5 := by subst hW5; exact (by repeat (first | exact Nx.refl _ | assumption | apply Nx.alloc | apply Nx.drew | apply Nx.drewN | (refine Nx.setCell ?_ (by first | (simp; done) | (simp; omega) | omega) _) | refine Nx.trans ?_ (by assumption)))
                        have e0 : w5.cell? ⟨wr.heap.size, 0, none⟩ = some (V y1) := by subst hW5; go_simp
                        have e1 : w5.cell? ⟨wr.heap.size, 1, none⟩ = some (V y2) := by subst hW5; go_simp
                        clear hW5
                        replace q1 := n5.cell (p := ⟨be, oe + k * 2, none⟩) hbe q1
                        replace q2 := n5.cell (p := ⟨be, oe + k * 2 + 1, none⟩) hbe q2
                        replace p1 := n5.cell (p := ⟨be, oe + j * 2, none⟩) hbe p1
                        replace p2 := n5.cell (p := ⟨be, oe + j * 2 + 1, none⟩) hbe p2
                        have hwj := Hwj.out
                        go_quiet (fail)
                        clear hwj
                        go_wp2
                        go_ret
                        exact RetV.bool (by symm; rw [decide_eq_false_iff_not]; exact fun h => Hbv.out ((Htv.out.1 h).1)) (by repeat (first | exact Nx.refl _ | assumption | apply Nx.alloc | apply Nx.drew | apply Nx.drewN | (refine Nx.setCell ?_ (by first | (simp; done) | (simp; omega) | omega) _) | refine Nx.trans ?_ (by assumption)))
              · obtain rfl : k = m2 := by omega
                have hxl : xs.length ≤ 31 := by have := Hn.out; omega
                go_wp2_with fail
                refine (Hclone.out _ (Hx.out.nx ((n1.trans N3).trans hn4))).mono ?_
                rintro e w6 ⟨A6, c6, rfl, ho6, hn6⟩
                have hsI := sortI_c wr.heap.size A6 c6 xs w6 ho6 (by omega)
                have hlt6 := ho6.lt
                have HsI := Lib.hid hsI
                clear hsI ho6
                go_wp2_with fail
                refine HsI.out.mono ?_
                rintro e w7 ⟨rfl, ho7, hg7⟩
                have N7 : Nx wr w7 := Nx.grown hn6 hg7 (fun k hk => (hlt6 k hk).1)
                have hcp := fun w' h => compactI_c wr.heap.size A6 c6 (srtI xs) w' h (by rw [srtI_length]; omega) (compact_len _)
                have hcl := compact_len (srtI xs)
                rw [srtI_length] at hcl
                rw [srtI_length] at hcp
                have Hcp := Lib.hid hcp
                have Ho7 := Lib.hid ho7
                have N := (n1.trans N3).trans (hn4.trans N7)
                clear hcp ho7 HsI
                by_cases hpar : k % 2 = 0
                · have hr1 : ((k : Nat) : Int).tmod 2 = 0 := by rw [Int.tmod_eq_emod_of_nonneg (by omega)]; omega
                  have hr2 : ((k : Nat) : Int) % 2 = 0 := by omega
                  have Hpar := Lib.hid hpar
                  clear hpar
                  go_wp2_with fail
                  refine (Hcp.out _ Ho7.out).mono ?_
                  rintro e w8 ⟨rfl, ho8, hg8⟩
                  have N8 : Nx w w8 := Nx.grown N hg8 (fun k hk => by have h1 := (hlt6 k hk).1; have h2 := n1.size; have h3 := N3.size; have h4 := hn4.size; omega)
                  generalize (compact (srtI xs)).length = u at *
                  obtain ⟨q, hq⟩ : ∃ q, k / 2 = q := ⟨_, rfl⟩
                  have h2r1 : (k : Int).tdiv 2 = (q : Int) := by rw [Int.tdiv_eq_ediv_of_nonneg (by omega)]; omega
                  have h2r2 : (k : Int) / 2 = (q : Int) := by omega
                  have hkk : q ≤ 31 := by omega
                  rw [hq] at Htv
                  clear hq
                  by_cases hu : q + 1 = u
                  · have hu2 : ((q : Int) + 1 == (u : Int)) = true := by simp; omega
                    have HU := Lib.hid hu
                    clear hu
                    go_wp2
                    go_ret
                    exact RetV.bool (by symm; rw [decide_eq_true_eq]; exact Htv.out.2 ⟨Hno.out, Hpar.out, HU.out⟩) N8
                  · have hu2 : ((q : Int) + 1 == (u : Int)) = false := by simp; omega
                    have HU := Lib.hid hu
                    clear hu
                    go_wp2
                    go_ret
                    exact RetV.bool (by symm; rw [decide_eq_false_iff_not]; exact fun h => HU.out (Htv.out.1 h).2.2) N8
                · have hr1 : ((k : Nat) : Int).tmod 2 = 1 := by rw [Int.tmod_eq_emod_of_nonneg (by omega)]; omega
                  have hr2 : ((k : Nat) : Int) % 2 = 1 := by omega
                  go_wp2
                  go_ret
                  exact RetV.bool (by symm; rw [decide_eq_false_iff_not]; exact fun h => hpar (Htv.out.1 h).2.1) N
end Go.Proofs.Ytbceoigmcomlbaa
