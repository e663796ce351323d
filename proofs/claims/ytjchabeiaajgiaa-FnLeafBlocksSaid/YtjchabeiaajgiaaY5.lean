/- Contract: l5Cycle of the reference. -/
import Derived.Test.YtjchabeiaajgiaaY4
namespace Go.Proofs.Ytjchabeiaajgiaa
open Go.RowKit set_option linter.unusedVariables false set_option linter.unusedSimpArgs false

/-- a node at which the reference finds a cycle -/
def HitN (n : Nat) (es : Es) (e f : Int × Int) (v : Int) : Prop := 0 ≤ oth e v ∧ 0 ≤ oth f v ∧ oth e v ≠ oth f v ∧ connB n (aloneL es v) (oth e v) (oth f v) = true
theorem hit_cyc {n : Nat} {es : Es} {e f : Int × Int} (he : 0 ≤ e.1 ∧ e.1 < e.2) (hf : 0 ≤ f.1 ∧ f.1 < f.2) {v : Int} (h : HitN n es e f v) : cyc n es e f = true := by
  obtain ⟨h1, h2, h3, h4⟩ := h
  rw [cyc_some (com_of_oth he hf h1 h2 h3)]; exact h4
theorem no_hit {n : Nat} {es : Es} {e f : Int × Int} (hne : e ≠ f) (he : 0 ≤ e.1 ∧ e.1 < e.2 ∧ e.2 < n) (hf : 0 ≤ f.1 ∧ f.1 < f.2) (h : ∀ v : Nat, v < n → ¬ HitN n es e f v) : cyc n es e f = false := by
  cases hc : cyc n es e f with
  | false => rfl
  | true =>
    exfalso
    cases hcom : com e f with
    | none => rw [cyc_none hcom] at hc; cases hc
    | some p =>
      obtain ⟨v, x, y⟩ := p
      rw [cyc_some hcom] at hc
      obtain ⟨h1, h2, h3, h4, h5, h6⟩ := oth_of_com hne ⟨he.1, he.2.1⟩ hf hcom
      obtain ⟨v, rfl⟩ := Int.eq_ofNat_of_zero_le (show 0 ≤ v by rcases h1 with h | h <;> omega)
      refine h v (by rcases h1 with h | h <;> omega) ⟨by rw [← h2]; exact h4, by rw [← h3]; exact h5, by rw [← h2, ← h3]; exact h6, by rw [← h2, ← h3]; exact hc⟩
theorem oth_lt {n : Nat} {e : Int × Int} (he : 0 ≤ e.1 ∧ e.1 < e.2 ∧ e.2 < n) (v : Int) : oth e v < n := by
  unfold oth
  split
  · omega
  · split <;> omega

set_option maxRecDepth 100000 in
set_option maxHeartbeats 4000000 in
theorem l5Cycle_c (n : Nat) (A : Option Addr) (c : Nat) (es : List (Int × Int)) (a b u v : Int) (w : World) (hx : EdgesAt w A es) (hl : es.length ≤ 1048576) (hn16 : n ≤ 16) (hr : InR n es) (hd : ∀ e ∈ es, e.1 ≠ e.2)
    (h1 : 0 ≤ a ∧ a < b ∧ b < n) (h2 : 0 ≤ u ∧ u < v ∧ v < n) (hne : (a, b) ≠ (u, v)) :
    Calls Try.prog 157 #[.agg #[V n, .slice A es.length c], Ed a b, Ed u v] w (RetV (.bool (cyc n es (a, b) (u, v))) w) := by
  have Hr := Lib.hid hr
  have Hd := Lib.hid hd
  have Hne := Lib.hid hne
  have Ha := Lib.hid (fun k => oth_lt (e := (a, b)) h1 k)
  have Hb := Lib.hid (fun k => oth_lt (e := (u, v)) h2 k)
  have H1 := Lib.hid h1
  have H2 := Lib.hid h2
  clear hr hd hne h1 h2
  go_enter Try.func157, Try.ntmps157
  go_wp2_with fail
  generalize hW1 : World.alloc _ _ = W1
  have gW1 : Nx w W1 := by subst hW1; exact (by repeat (first | exact Nx.refl _ | assumption | apply Nx.alloc | apply Nx.drew | apply Nx.drewN | (refine Nx.setCell ?_ (by first | (simp; done) | (simp; omega) | omega) _) | refine Nx.trans ?_ (by assumption)))
  have sW1 : W1.heap.size = w.heap.size + 3 := by subst hW1; simp
  have X0 : Bx W1 (w.heap.size) 26 [V n, .slice A es.length c] := by subst hW1; have h := Bx.alloc w 26 [V n, .slice A es.length c]; have h := h.nx (Nx.alloc (Nx.refl _) (.cells #[V a, V b] 36)); have h := h.nx (Nx.alloc (Nx.refl _) (.cells #[V u, V v] 36)); simpa using h
  have X1 : Bx W1 (w.heap.size + 1) 36 [V a, V b] := by subst hW1; have h := Bx.alloc (w.alloc (.cells #[V n, .slice A es.length c] 26)) 36 [V a, V b]; have h := h.nx (Nx.alloc (Nx.refl _) (.cells #[V u, V v] 36)); simpa using h
  have X2 : Bx W1 (w.heap.size + 2) 36 [V u, V v] := by subst hW1; have h := Bx.alloc ((w.alloc (.cells #[V n, .slice A es.length c] 26)).alloc (.cells #[V a, V b] 36)) 36 [V u, V v]; simpa using h
  have X0_0 := X0.cell (j := 0) rfl
  have X0_1 := X0.cell (j := 1) rfl
  have X0_z := X0.lt
  have X1_0 := X1.cell (j := 0) rfl
  have X1_1 := X1.cell (j := 1) rfl
  have X1_z := X1.lt
  have X2_0 := X2.cell (j := 0) rfl
  have X2_1 := X2.cell (j := 1) rfl
  have X2_z := X2.lt
  have HsW1 := Lib.hid sW1
  have lW1 : w.heap.size + 3 ≤ W1.heap.size := by omega
  clear hW1 sW1
  replace hx := hx.nx gW1
  go_loopg [7] n (fun gk i wr => ∃ k : Nat, k + gk = n ∧ i = .int .i64 k ∧ (∀ j : Nat, j < k → ¬ HitN n es (a, b) (u, v) j) ∧ Nx W1 wr)
  case atStart => exact ⟨0, by omega, rfl, fun j hj => by omega, Nx.refl _⟩
  case round =>
    obtain ⟨k, hk, rfl, hno, hn⟩ := hrel
    have Hno := Lib.hid hno
    clear hno
    replace X0 := X0.nx hn
    replace X0_0 := X0.cell (j := 0) rfl
    replace X0_1 := X0.cell (j := 1) rfl
    replace X0_z := X0.lt
    replace X1 := X1.nx hn
    replace X1_0 := X1.cell (j := 0) rfl
    replace X1_1 := X1.cell (j := 1) rfl
    replace X1_z := X1.lt
    replace X2 := X2.nx hn
    replace X2_0 := X2.cell (j := 0) rfl
    replace X2_1 := X2.cell (j := 1) rfl
    replace X2_z := X2.lt
    replace hx := hx.nx hn
    by_cases hlt : k < n
    · go_wp2_with fail
      refine (l5Other_c a b k _).mono ?_
      rintro e w2 ⟨rfl, hn2⟩
      replace X0 := X0.nx hn2
      replace X0_0 := X0.cell (j := 0) rfl
      replace X0_1 := X0.cell (j := 1) rfl
      replace X0_z := X0.lt
      replace X1 := X1.nx hn2
      replace X1_0 := X1.cell (j := 0) rfl
      replace X1_1 := X1.cell (j := 1) rfl
      replace X1_z := X1.lt
      replace X2 := X2.nx hn2
      replace X2_0 := X2.cell (j := 0) rfl
      replace X2_1 := X2.cell (j := 1) rfl
      replace X2_z := X2.lt
      replace hx := hx.nx hn2
      go_wp2_with fail
      refine (l5Other_c u v k _).mono ?_
      rintro e w3 ⟨rfl, hn3⟩
      replace X0 := X0.nx hn3
      replace X0_0 := X0.cell (j := 0) rfl
      replace X0_1 := X0.cell (j := 1) rfl
      replace X0_z := X0.lt
      replace X1 := X1.nx hn3
      replace X1_0 := X1.cell (j := 0) rfl
      replace X1_1 := X1.cell (j := 1) rfl
      replace X1_z := X1.lt
      replace X2 := X2.nx hn3
      replace X2_0 := X2.cell (j := 0) rfl
      replace X2_1 := X2.cell (j := 1) rfl
      replace X2_z := X2.lt
      replace hx := hx.nx hn3
      have hpl := Ha.out k
      have hql := Hb.out k
      obtain ⟨p, hp⟩ : ∃ p, oth (a, b) k = p := ⟨_, rfl⟩
      obtain ⟨q, hq⟩ : ∃ q, oth (u, v) k = q := ⟨_, rfl⟩
      rw [hp] at hpl ⊢
      rw [hq] at hql ⊢
      have Hp := Lib.hid hp
      have Hq := Lib.hid hq
      clear hp hq
      have step : ¬ HitN n es (a, b) (u, v) k → ∀ j : Nat, j < k + 1 → ¬ HitN n es (a, b) (u, v) j := fun h j hj => by
        by_cases e : j = k
        · subst e; exact h
        · exact Hno.out j (by omega)
      have Step := Lib.hid step
      clear step
      by_cases h0 : 0 ≤ p
      · by_cases h1 : 0 ≤ q
        · by_cases h2 : (p != q) = true
          · have HOr := Lib.hid (InR.sub Hr.out (aloneL_sub (es := es) (v := (k : Int))))
            have HOd := Lib.hid (fun e (he : e ∈ aloneL es (k : Int)) => Hd.out e (aloneL_sub e he))
            have hol := aloneL_len es k
            go_wp2_with fail
            refine (l1Alone_c n A c es k _ hx (by omega)).mono ?_
            rintro e w4 ⟨B, d, rfl, ho4, hn4⟩
            replace X0 := X0.nx hn4
            replace X0_0 := X0.cell (j := 0) rfl
            replace X0_1 := X0.cell (j := 1) rfl
            replace X0_z := X0.lt
            replace X1 := X1.nx hn4
            replace X1_0 := X1.cell (j := 0) rfl
            replace X1_1 := X1.cell (j := 1) rfl
            replace X1_z := X1.lt
            replace X2 := X2.nx hn4
            replace X2_0 := X2.cell (j := 0) rfl
            replace X2_1 := X2.cell (j := 1) rfl
            replace X2_z := X2.lt
            replace hx := hx.nx hn4
            go_wp2_with fail
            refine (l2Joined_c n B d (aloneL es k) p q _ ho4.edgesAt (by omega) hn16 HOr.out HOd.out ⟨h0, hpl⟩ ⟨h1, hql⟩).mono ?_
            rintro e w5 ⟨rfl, hn5⟩
            replace X0 := X0.nx hn5
            replace X0_0 := X0.cell (j := 0) rfl
            replace X0_1 := X0.cell (j := 1) rfl
            replace X0_z := X0.lt
            replace X1 := X1.nx hn5
            replace X1_0 := X1.cell (j := 0) rfl
            replace X1_1 := X1.cell (j := 1) rfl
            replace X1_z := X1.lt
            replace X2 := X2.nx hn5
            replace X2_0 := X2.cell (j := 0) rfl
            replace X2_1 := X2.cell (j := 1) rfl
            replace X2_z := X2.lt
            have hn05 : Nx W1 w5 := ((((hn.trans hn2).trans hn3).trans hn4).trans hn5)
            cases hc : connB n (aloneL es k) p q with
            | true =>
              have Hc := Lib.hid hc
              clear hc ho4
              go_wp2
              go_ret
              exact RetV.bool (hit_cyc (v := k) ⟨H1.out.1, H1.out.2.1⟩ ⟨H2.out.1, H2.out.2.1⟩ ⟨by rw [Hp.out]; exact h0, by rw [Hq.out]; exact h1, by rw [Hp.out, Hq.out]; simpa using h2, by rw [Hp.out, Hq.out]; exact Hc.out⟩).symm (gW1.trans hn05)
            | false =>
              have Hc := Lib.hid hc
              clear hc ho4
              go_wp2
              go_roundg (gk - 1)
              case measure => omega
              case rel => exact ⟨k + 1, by omega, by go_num, Step.out (fun h => by have := h.2.2.2; rw [Hp.out, Hq.out, Hc.out] at this; cases this), hn05⟩
          · have h2 : (p != q) = false := by simpa using h2
            go_wp2
            go_roundg (gk - 1)
            case measure => omega
            case rel => exact ⟨k + 1, by omega, by go_num, Step.out (fun h => by have := h.2.2.1; rw [Hp.out, Hq.out] at this; simp at h2; exact this h2), (hn.trans hn2).trans hn3⟩
        · go_wp2
          go_roundg (gk - 1)
          case measure => omega
          case rel => exact ⟨k + 1, by omega, by go_num, Step.out (fun h => by have := h.2.1; rw [Hq.out] at this; omega), (hn.trans hn2).trans hn3⟩
      · go_wp2
        go_roundg (gk - 1)
        case measure => omega
        case rel => exact ⟨k + 1, by omega, by go_num, Step.out (fun h => by have := h.1; rw [Hp.out] at this; omega), (hn.trans hn2).trans hn3⟩
    · go_wp2
      go_ret
      exact RetV.bool (no_hit Hne.out H1.out ⟨H2.out.1, H2.out.2.1⟩ (fun j hj => Hno.out j (by omega))).symm (gW1.trans hn)
end Go.Proofs.Ytjchabeiaajgiaa
