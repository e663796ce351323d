import Derived.Test.YtbceoigmcomlbaaJ25
/- Contracts: TourBelow of both. -/
namespace Go.Proofs.Ytbceoigmcomlbaa
open Go.RowKit set_option linter.unusedVariables false set_option linter.unusedSimpArgs false

/-- l is the last place of v -/
def LastAt (xs : List Int) (v : Int) (l : Nat) : Prop := xs[l]? = some v ∧ ∀ i, l < i → xs[i]? ≠ some v
theorem LastAt.uniq {xs : List Int} {v : Int} {l m : Nat} (h : LastAt xs v l) (k : LastAt xs v m) : l = m := by
  rcases Nat.lt_trichotomy l m with e | e | e
  · exact absurd k.1 (h.2 m e)
  · exact e
  · exact absurd h.1 (k.2 l e)
theorem last_ex {v : Int} : ∀ (xs : List Int), v ∈ xs → ∃ l, LastAt xs v l
  | [], h => by simp at h
  | x :: xs, h => by
    by_cases hm : v ∈ xs
    · obtain ⟨l, h1, h2⟩ := last_ex xs hm
      exact ⟨l + 1, h1, fun i hi => by
        match i with
        | 0 => omega
        | i + 1 => exact h2 i (by omega)⟩
    · have hx : v = x := by simp only [List.mem_cons] at h; rcases h with h | h; exact h; exact absurd h hm
      subst hx
      exact ⟨0, rfl, fun i hi he => by
        match i with
        | 0 => omega
        | i + 1 => exact hm (List.mem_of_getElem? he)⟩
open Classical in
noncomputable def lstV (xs : List Int) (v : Int) : Nat := if h : ∃ l, LastAt xs v l then Classical.choose h else 0
theorem lstV_eq {xs : List Int} {v : Int} {l : Nat} (h : LastAt xs v l) : lstV xs v = l := by
  have hex : ∃ l, LastAt xs v l := ⟨l, h⟩
  unfold lstV
  rw [dif_pos hex]
  exact (Classical.choose_spec hex).uniq h
/-- from the first to the last place of v -/
noncomputable def belowL (L : List Int) (v : Int) : List Int := (L.take (lstV L v + 1)).drop (fstV L v).toNat
noncomputable def tBelow (L : List Int) (v : Int) : List Int := if TV L ∧ v ∈ L then belowL L v else []
theorem tBelow_yes {L : List Int} {r : Int} (h : TV L) (hr : r ∈ L) : tBelow L r = belowL L r := if_pos ⟨h, hr⟩
theorem tBelow_no {L : List Int} {r : Int} (h : ¬ (TV L ∧ r ∈ L)) : tBelow L r = [] := if_neg h
theorem tBelow_len (L : List Int) (r : Int) : (tBelow L r).length ≤ 31 := by
  by_cases h : TV L ∧ r ∈ L
  · rw [tBelow_yes h.1 h.2]
    have := h.1.1.2.1
    unfold belowL
    rw [List.length_drop, List.length_take]
    omega
  · rw [tBelow_no h]; simp
set_option maxRecDepth 100000 in
set_option maxHeartbeats 2000000 in
theorem sTourBelow_c (A : Option Addr) (c n : Nat) (xs : List Int) (r : Int) (w : World) (hn : xs.length = n) (hc : n ≤ c) (hx : IntsAt w A xs) (hl : n ≤ 1048576) :
    Calls Try.prog 32 #[.slice A n c, V r] w (RetIB (tBelow xs r) (turnB xs r) w) := by
  have hv := fun w' h => sTourValid_c A c n xs w' hn hc h hl
  have hi := fun w' h => l6In_y A c n xs r w' hn h hl
  have Hx := Lib.hid hx
  by_cases ht : TV xs
  · rw [decide_eq_true ht] at hv
    by_cases hr : r ∈ xs
    · rw [tBelow_yes ht hr, turnB_yes ht hr]
      rw [decide_eq_true hr] at hi
      obtain ⟨i0, hi0, hz0, hz1, hz2⟩ := info_parts infoI
      have Hi0 := Lib.hid hi0
      have Hz0 := Lib.hid hz0
      have Hz1 := Lib.hid hz1
      have Hz2 := Lib.hid hz2
      clear hi0 hz0 hz1 hz2
      have hf := fun w' h => l6First_c A c xs r w' h (by omega)
      obtain ⟨f, hk, hg, _⟩ := fstV_spec hr
      have hfl := (List.getElem?_eq_some_iff.1 hg).1
      rw [hn] at hfl
      rw [hk, hn] at hf
      have hn31 := ht.1.2.1
      rw [hn] at hn31
      obtain ⟨b, off, rfl, hb⟩ := hx.addr (by omega)
      have hbl : ∀ l, LastAt xs r l → belowL xs r = (xs.take (l + 1)).drop f := fun l h => by unfold belowL; rw [lstV_eq h, hk]; rfl
      have Hbl := Lib.hid hbl
      have Hg := Lib.hid hg
      have Hv := Lib.hid hv
      have Hi := Lib.hid hi
      have Hf := Lib.hid hf
      have Hn := Lib.hid hn
      clear hv hi hf hn hx ht hr hbl hg hk
      go_enter Try.func32, Try.ntmps32
      go_wp2_with fail
      refine (Hv.out _ Hx.out).mono ?_
      rintro e w1 ⟨rfl, hn1⟩
      go_wp2_with fail
      refine (Hi.out _ (Hx.out.nx hn1)).mono ?_
      rintro e w2 ⟨rfl, rfl⟩
      go_wp2_with fail
      refine (Hf.out _ (Hx.out.nx hn1)).mono ?_
      rintro e w2 ⟨rfl, rfl⟩
      go_wp2
      go_loopg [7, 8] n (fun gk t i wr => ∃ (k l : Nat), k + gk = n + f ∧ k ≤ n ∧ f ≤ k ∧ i = .int .i64 k ∧ t = .int .i64 l ∧ w1 = wr ∧ f ≤ l ∧ l < n ∧ xs[l]? = some r ∧ ∀ j, l < j → j < k → xs[j]? ≠ some r)
      case atStart => exact ⟨f, f, by omega, by omega, Nat.le_refl _, rfl, rfl, rfl, Nat.le_refl _, hfl, Hg.out, fun j h1 h2 => by omega⟩
      case round =>
        obtain ⟨k, l, hk, hkn, hfk, rfl, rfl, rfl, hfl2, hln, hxl, hno⟩ := hrel
        have Hxl := Lib.hid hxl
        have Hno := Lib.hid hno
        clear hxl hno
        by_cases hlt : k < n
        · obtain ⟨x, hek⟩ : ∃ x, xs[k]? = some x := ⟨_, List.getElem?_eq_getElem (by have := Hn.out; omega)⟩
          obtain ⟨b', off', e, _, r1⟩ := (Hx.out.nx hn1).rd hek
          injection e with e
          injection e with e1 e2
          subst e1 e2
          have Hek := Lib.hid hek
          clear hek
          by_cases hq : (x == r) = true
          · go_wp2_with fail
            go_roundg (gk - 1)
            case measure => omega
            case rel => exact ⟨k + 1, k, by omega, by omega, by omega, by go_num, rfl, rfl, hfk, hlt, by rw [Hek.out]; simp at hq; rw [hq], fun j h1 h2 => by omega⟩
          · have hq : (x == r) = false := by simpa using hq
            go_wp2_with fail
            go_roundg (gk - 1)
            case measure => omega
            case rel => exact ⟨k + 1, l, by omega, by omega, by omega, by go_num, rfl, rfl, hfl2, hln, Hxl.out, fun j h1 h2 => by
              rcases Nat.lt_succ_iff_lt_or_eq.1 h2 with h | rfl
              · exact Hno.out j h1 h
              · rw [Hek.out]; intro e; injection e with e; simp at hq; exact hq e⟩
        · have hlast : LastAt xs r l := ⟨Hxl.out, fun i hi he => by
            have h1 := (List.getElem?_eq_some_iff.1 he).1
            have := Hn.out
            exact Hno.out i hi (by omega) he⟩
          have hbe := Hbl.out l hlast
          have hx1 := fun w' (h : IntsAt w' (some ⟨b, off, none⟩) xs) => h.sub f (l + 1)
          have hl1 : ((xs.take (l + 1)).drop f).length = l + 1 - f := by have := Hn.out; simp; omega
          generalize (xs.take (l + 1)).drop f = X at *
          have Hbe := Lib.hid hbe
          obtain ⟨m, hm⟩ : ∃ m, l + 1 = m := ⟨_, rfl⟩
          have Hm := Lib.hid hm
          have hfm : f < m := by omega
          have hmn : m ≤ n := by omega
          have hmc : m ≤ c := by omega
          have hfc : ¬ f = c := by omega
          have hfc2 : ¬ c = f := by omega
          have hwl : IntKind.i64.wrap ((l : Int) + 1) = (m : Int) := by rw [IntKind.wrap_i64]; omega
          have hwl2 : (l : Int) + 1 = (m : Int) := by omega
          have hi1 : (f : Int) ≤ (m : Int) := by omega
          have hi2 : (m : Int) ≤ (c : Int) := by omega
          rw [hm] at hl1
          have Hx1 := Lib.hid hx1
          have HL1 := Lib.hid hl1
          have HL0 : Hid (([] : List Int).length = 0) := Lib.hid rfl
          clear hlast hx1 hl1 hm hbe
          go_wp2_with (at_builtin; refine appIn (base := w.heap.size) (t := 3) (c' := c - f) [] X 0 (m - f) HL0.out HL1.out rfl rfl Try.underlying23 Hi0.out Hz0.out Hz1.out Hz2.out rfl rfl (OwnI.empty w1 w.heap.size 3 hn1.size) rfl (Hx1.out _ (Hx.out.nx (hn1.trans (by (repeat (first | exact Nx.refl _ | assumption | apply Nx.alloc | apply Nx.drew | apply Nx.drewN | (refine Nx.setCell ?_ (by first | (simp; done) | (simp; omega) | omega) _) | refine Nx.trans ?_ (by assumption))); done)))) (by omega) (by have := hn1.size; simp; omega) ?_; intro A2 c2 w3 hown3 hnx3 hgr3 hbl3)
          go_ret2
          rw [List.nil_append] at hown3
          exact ⟨A2, c2, by rw [Hbe.out, HL1.out]; (try rw [Nat.zero_add]); rfl, by rw [Hbe.out]; exact hown3, hnx3 w (Nat.le_refl _) (hn1.trans (by (repeat (first | exact Nx.refl _ | assumption | apply Nx.alloc | apply Nx.drew | apply Nx.drewN | (refine Nx.setCell ?_ (by first | (simp; done) | (simp; omega) | omega) _) | refine Nx.trans ?_ (by assumption))); done))⟩
    · rw [tBelow_no (fun h => hr h.2), turnB_no (fun h => hr h.2)]
      rw [decide_eq_false hr] at hi
      have Hv := Lib.hid hv
      have Hi := Lib.hid hi
      clear hv hi hn hx ht hr
      go_enter Try.func32, Try.ntmps32
      go_wp2_with fail
      refine (Hv.out _ Hx.out).mono ?_
      rintro e w1 ⟨rfl, hn1⟩
      go_wp2_with fail
      refine (Hi.out _ (Hx.out.nx hn1)).mono ?_
      rintro e w2 ⟨rfl, rfl⟩
      go_wp2
      go_ret2
      exact ⟨_, 0, rfl, OwnI.empty w1 w.heap.size 3 hn1.size, hn1.alloc _⟩
  · rw [tBelow_no (fun h => ht h.1), turnB_no (fun h => ht h.1)]
    rw [decide_eq_false ht] at hv
    have Hv := Lib.hid hv
    clear hv hi hn hx ht
    go_enter Try.func32, Try.ntmps32
    go_wp2_with fail
    refine (Hv.out _ Hx.out).mono ?_
    rintro e w1 ⟨rfl, hn1⟩
    go_wp2
    go_ret2
    exact ⟨_, 0, rfl, OwnI.empty w1 w.heap.size 3 hn1.size, hn1.alloc _⟩

set_option maxRecDepth 100000 in
set_option maxHeartbeats 2000000 in
theorem iTourBelow_c (A : Option Addr) (c n : Nat) (xs : List Int) (r : Int) (w : World) (hn : xs.length = n) (hc : n ≤ c) (hx : IntsAt w A xs) (hl : n ≤ 1048576) :
    Calls Try.prog 27 #[.slice A n c, V r] w (RetIB (tBelow xs r) (turnB xs r) w) := by
  have hv := fun w' h => iTourValid_c A c n xs w' hn hc h hl
  have hi := fun w' h => indexI_c A c xs r w' h (by omega)
  rw [hn] at hi
  have Hx := Lib.hid hx
  by_cases ht : TV xs
  · rw [decide_eq_true ht] at hv
    by_cases hr : r ∈ xs
    · rw [tBelow_yes ht hr, turnB_yes ht hr]
      obtain ⟨f, hk, hg, _⟩ := fstV_spec hr
      have hfl := (List.getElem?_eq_some_iff.1 hg).1
      rw [hn] at hfl
      have hn31 := ht.1.2.1
      rw [hn] at hn31
      rw [hk] at hi
      obtain ⟨b, off, rfl, hb⟩ := hx.addr (by omega)
      have hbl : ∀ l, LastAt xs r l → belowL xs r = (xs.take (l + 1)).drop f := fun l h => by unfold belowL; rw [lstV_eq h, hk]; rfl
      obtain ⟨l0, hl0⟩ := last_ex xs hr
      have Hl0 := Lib.hid hl0
      have hl0n : l0 < n := by have := (List.getElem?_eq_some_iff.1 hl0.1).1; omega
      have hfl0 : f ≤ l0 := by
        refine Classical.byContradiction fun h => ?_
        exact hl0.2 f (by omega) hg
      have Hbl := Lib.hid hbl
      have Hv := Lib.hid hv
      have Hi := Lib.hid hi
      have Hn := Lib.hid hn
      have hkz : ¬ (f : Int) < 0 := by omega
      clear hv hi hn hx ht hr hbl hg hk hl0
      go_enter Try.func27, Try.ntmps27
      go_wp2_with fail
      refine (Hi.out _ Hx.out).mono ?_
      rintro e w1 ⟨rfl, rfl⟩
      go_wp2_with fail
      refine (Hv.out _ Hx.out).mono ?_
      rintro e w2 ⟨rfl, hn2⟩
      go_wp2
      go_loopg [7] n (fun gk t wr => ∃ (l : Nat), l < gk ∧ l0 ≤ l ∧ l < n ∧ t = .int .i64 l ∧ w2 = wr)
      case atStart => exact ⟨n - 1, by omega, by omega, by omega, by go_num, rfl⟩
      case round =>
        obtain ⟨l, hlg, hl1, hl2, rfl, rfl⟩ := hrel
        obtain ⟨x, hek⟩ : ∃ x, xs[l]? = some x := ⟨_, List.getElem?_eq_getElem (by have := Hn.out; omega)⟩
        obtain ⟨b', off', e, _, r1⟩ := (Hx.out.nx hn2).rd hek
        injection e with e
        injection e with e1 e2
        subst e1 e2
        by_cases hq : x = r
        · subst hq
          have hll : l = l0 := by
            refine Classical.byContradiction fun h => ?_
            exact Hl0.out.2 l (by omega) hek
          subst hll
          have hbe := Hbl.out l Hl0.out
          have hx1 := fun w' (h : IntsAt w' (some ⟨b, off, none⟩) xs) => h.sub f (l + 1)
          have hl1 : ((xs.take (l + 1)).drop f).length = l + 1 - f := by have := Hn.out; simp; omega
          generalize (xs.take (l + 1)).drop f = X at *
          have Hbe := Lib.hid hbe
          obtain ⟨m, hm⟩ : ∃ m, l + 1 = m := ⟨_, rfl⟩
          have Hm := Lib.hid hm
          have hfm : f < m := by omega
          have hmn : m ≤ n := by omega
          have hmc : m ≤ c := by omega
          have hfc : ¬ f = c := by omega
          have hfc2 : ¬ c = f := by omega
          have hwl : IntKind.i64.wrap ((l : Int) + 1) = (m : Int) := by rw [IntKind.wrap_i64]; omega
          have hwl2 : (l : Int) + 1 = (m : Int) := by omega
          have hi1 : (f : Int) ≤ (m : Int) := by omega
          have hi2 : (m : Int) ≤ (c : Int) := by omega
          rw [hm] at hl1
          have hcl := fun w' h => cloneI_c (some ⟨b, off + f, none⟩) (c - f) X w' h (by omega)
          rw [hl1] at hcl
          have Hx1 := Lib.hid hx1
          have HL1 := Lib.hid hl1
          have Hcl := Lib.hid hcl
          clear hx1 hl1 hm hbe hek hcl
          go_wp2_with fail
          refine (Hcl.out _ (Hx1.out _ (Hx.out.nx hn2))).mono ?_
          rintro e w3 ⟨A3, c3, rfl, ho3, hn3⟩
          go_wp2
          go_ret2
          exact ⟨A3, c3, by rw [Hbe.out]; rfl, by rw [Hbe.out]; exact ho3.mono hn2.size, hn2.trans hn3⟩
        · have hne : l ≠ l0 := fun h => by
            subst h
            rw [Hl0.out.1] at hek
            injection hek with hek
            exact hq hek.symm
          have hq1 : (x != r) = true := by simpa using hq
          have hq2 : (x == r) = false := by simpa using hq
          clear hek hq
          go_wp2_with fail
          go_roundg (gk - 1)
          case measure => omega
          case rel => exact ⟨l - 1, by omega, by omega, by omega, by go_num, rfl⟩
    · rw [tBelow_no (fun h => hr h.2), turnB_no (fun h => hr h.2)]
      rw [fstV_no hr] at hi
      have Hv := Lib.hid hv
      have Hi := Lib.hid hi
      clear hv hi hn hx ht hr
      go_enter Try.func27, Try.ntmps27
      go_wp2_with fail
      refine (Hi.out _ Hx.out).mono ?_
      rintro e w1 ⟨rfl, rfl⟩
      go_wp2_with fail
      refine (Hv.out _ Hx.out).mono ?_
      rintro e w2 ⟨rfl, hn2⟩
      go_wp2
      go_ret2
      exact ⟨none, 0, rfl, OwnI.nil _ _ _, hn2⟩
  · rw [tBelow_no (fun h => ht h.1), turnB_no (fun h => ht h.1)]
    rw [decide_eq_false ht] at hv
    generalize fstV xs r = z at *
    have Hv := Lib.hid hv
    have Hi := Lib.hid hi
    clear hv hi hn hx ht
    go_enter Try.func27, Try.ntmps27
    go_wp2_with fail
    refine (Hi.out _ Hx.out).mono ?_
    rintro e w1 ⟨rfl, rfl⟩
    go_wp2_with fail
    refine (Hv.out _ Hx.out).mono ?_
    rintro e w2 ⟨rfl, hn2⟩
    go_wp2
    go_ret2
    exact ⟨none, 0, rfl, OwnI.nil _ _ _, hn2⟩
end Go.Proofs.Ytbceoigmcomlbaa
