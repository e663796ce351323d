import Derived.Test.YtbceoigmcomlbaaJ15
import Derived.Test.YtbceoigmcomlbaaJ6
import Derived.Test.YtbceoigmcomlbaaJ13
import Derived.Deep.RegionHeld3
/- Contracts: l6Edges, l6Times, l6In, l6Count. -/
namespace Go.Proofs.Ytbceoigmcomlbaa
open Go.RowKit set_option linter.unusedVariables false set_option linter.unusedSimpArgs false

theorem IntsAt.take {w : World} {A : Option Addr} {xs : List Int} (h : IntsAt w A xs) (k : Nat) : IntsAt w A (xs.take k) := fun h0 => by
  rw [List.length_take] at h0
  obtain ⟨b, off, e, hb, hc⟩ := h (by omega)
  refine ⟨b, off, e, hb, fun j hj => ?_⟩
  rw [List.length_take] at hj
  rw [List.getElem_take]
  exact hc j (by omega)

set_option maxRecDepth 100000 in
set_option maxHeartbeats 2000000 in
theorem l6In_c (A : Option Addr) (c : Nat) (xs : List Int) (n : Int) (w : World) (hx : IntsAt w A xs) (hl : xs.length ≤ 1048576) :
    Calls Try.prog 60 #[.slice A xs.length c, V n] w (RetS (.bool (decide (n ∈ xs))) w) := by
  go_enter Try.func60, Try.ntmps60
  go_wp2
  go_loopg [5] xs.length (fun gk i wr => ∃ k : Nat, k + gk = xs.length ∧ i = .int .i64 k ∧ wr = w ∧ n ∉ xs.take k)
  case atStart => exact ⟨0, by omega, rfl, rfl, by simp⟩
  case round =>
    obtain ⟨k, hk, rfl, rfl, hno⟩ := hrel
    have Hno := Lib.hid hno
    clear hno
    by_cases hlt : k < xs.length
    · obtain ⟨x, hek⟩ : ∃ x, xs[k]? = some x := ⟨_, List.getElem?_eq_getElem hlt⟩
      obtain ⟨b, off, rfl, hbl, h1⟩ := hx.rd hek
      have Hek := Lib.hid hek
      clear hek hx
      by_cases hq : (x == n) = true
      · go_wp2_with fail
        go_ret
        exact RetS.bool (by
          simp at hq
          subst hq
          simp [List.mem_of_getElem? Hek.out])
      · have hq : (x == n) = false := by simpa using hq
        go_wp2_with fail
        go_roundg (gk - 1)
        case measure => omega
        case rel =>
          refine ⟨k + 1, by omega, by go_num, rfl, ?_⟩
          rw [List.take_add_one, Hek.out]
          simp at hq
          simp [Hno.out]
          exact fun h => hq h.symm
    · have he : xs.take k = xs := List.take_of_length_le (by omega)
      have Hno2 := Lib.hid (he ▸ Hno.out)
      clear he
      go_wp2
      go_ret
      exact RetS.bool (by simp [Hno2.out])

set_option maxRecDepth 100000 in
set_option maxHeartbeats 2000000 in
theorem l6Count_c (A : Option Addr) (c : Nat) (xs : List Int) (w : World) (hc : xs.length ≤ c) (hx : IntsAt w A xs) (hl : xs.length ≤ 1048576) :
    Calls Try.prog 47 #[.slice A xs.length c] w (RetV (V (uniq xs).length) w) := by
  go_enter Try.func47, Try.ntmps47
  go_wp2
  go_loopg [3, 4] xs.length (fun gk n i wr => ∃ k : Nat, k + gk = xs.length ∧ i = .int .i64 k ∧ n = .int .i64 (uniq (xs.take k)).length ∧ Nx w wr)
  case atStart => exact ⟨0, by omega, rfl, by simp [uniq], Nx.refl _⟩
  case round =>
    obtain ⟨k, hk, rfl, rfl, hn⟩ := hrel
    have hle := uniq_len_le xs k
    by_cases hlt : k < xs.length
    · obtain ⟨x, hek⟩ : ∃ x, xs[k]? = some x := ⟨_, List.getElem?_eq_getElem hlt⟩
      have Hx := Lib.hid (hx.nx hn)
      obtain ⟨b, off, rfl, hbl, h1⟩ := (hx.nx hn).rd hek
      have Hst := Lib.hid (uniq_take hek)
      have hin := fun w' h => RetS.same (l6In_c (some ⟨b, off, none⟩) c (xs.take k) x w' h (by rw [List.length_take]; omega))
      rw [List.length_take, Nat.min_eq_left (by omega)] at hin
      generalize (uniq (xs.take k)).length = u at *
      obtain ⟨q, hq⟩ : ∃ q, decide (x ∈ xs.take k) = q := ⟨_, rfl⟩
      rw [hq] at hin
      have Hin := Lib.hid hin
      have Hq := Lib.hid hq
      clear hin hek hx hq
      cases q with
      | true =>
        go_wp2
        go_quiet ((go_at_call 60; refine Calls.quiet_of_same (Hin.out _ ((Hx.out.nx (Nx.drewN (.refl _) _)).take k))))
        go_wp2
        go_roundg (gk - 1)
        case measure => omega
        case rel => exact ⟨k + 1, by omega, by go_num, by rw [Hst.out, if_pos (of_decide_eq_true Hq.out)]; go_num, (by repeat (first | exact Nx.refl _ | assumption | apply Nx.alloc | apply Nx.drew | apply Nx.drewN | (refine Nx.setCell ?_ (by first | (simp; done) | (simp; omega) | omega) _) | refine Nx.trans ?_ (by assumption)))⟩
      | false =>
        go_wp2
        go_quiet ((go_at_call 60; refine Calls.quiet_of_same (Hin.out _ ((Hx.out.nx (Nx.drewN (.refl _) _)).take k))))
        go_wp2
        go_roundg (gk - 1)
        case measure => omega
        case rel => exact ⟨k + 1, by omega, by go_num, by rw [Hst.out, if_neg (of_decide_eq_false Hq.out)]; go_num, (by repeat (first | exact Nx.refl _ | assumption | apply Nx.alloc | apply Nx.drew | apply Nx.drewN | (refine Nx.setCell ?_ (by first | (simp; done) | (simp; omega) | omega) _) | refine Nx.trans ?_ (by assumption)))⟩
    · have he : xs.take k = xs := List.take_of_length_le (by omega)
      have He := Lib.hid he
      clear he
      go_wp2
      go_ret
      exact RetV.int (by rw [He.out]) hn

set_option maxRecDepth 100000 in
set_option maxHeartbeats 4000000 in
theorem l6Times_c (A : Option Addr) (c : Nat) (xs : List Int) (u v : Int) (w : World) (hx : IntsAt w A xs) (hl : xs.length ≤ 1048576) :
    Calls Try.prog 46 #[.slice A xs.length c, Ed u v] w (RetV (V ((stepsL xs).count (u, v))) w) := by
  go_enter Try.func46, Try.ntmps46
  go_wp2
  generalize hW1 : World.alloc _ _ = W1
  have gW1 : Nx w W1 := by subst hW1; exact (by repeat (first | exact Nx.refl _ | assumption | apply Nx.alloc | apply Nx.drew | apply Nx.drewN | (refine Nx.setCell ?_ (by first | (simp; done) | (simp; omega) | omega) _) | refine Nx.trans ?_ (by assumption)))
  have sW1 : W1.heap.size = w.heap.size + 1 := by subst hW1; simp
  have X0 : Bx W1 (w.heap.size) 30 [V u, V v] := by subst hW1; have h := Bx.alloc w 30 [V u, V v]; simpa using h
  have X0_0 := X0.cell (j := 0) rfl
  have X0_1 := X0.cell (j := 1) rfl
  have X0_z := X0.lt
  have HsW1 := Lib.hid sW1
  have lW1 : w.heap.size + 1 ≤ W1.heap.size := by omega
  clear hW1 sW1
  have hw0 : ∀ wr, Nx W1 wr → Nx w wr := fun wr h => gW1.trans h
  go_loopg [5, 6] xs.length (fun gk n i wr => ∃ k : Nat, k + gk = xs.length ∧ i = .int .i64 ((k + 1 : Nat) : Int) ∧ n = .int .i64 ((stepsL (xs.take (k + 1))).count (u, v)) ∧ Nx W1 wr)
  case atStart => exact ⟨0, by omega, rfl, by rw [stepsL_one]; rfl, Nx.refl _⟩
  case round =>
    obtain ⟨k, hk, rfl, rfl, hn⟩ := hrel
    have hcle : (stepsL (xs.take (k + 1))).count (u, v) ≤ 1048576 := by
      have h1 := List.count_le_length (a := (u, v)) (l := stepsL (xs.take (k + 1)))
      rw [stepsL_len, List.length_take] at h1
      omega
    replace X0 := X0.nx hn
    replace X0_0 := X0.cell (j := 0) rfl
    replace X0_1 := X0.cell (j := 1) rfl
    replace X0_z := X0.lt
    by_cases hlt : k + 1 < xs.length
    · obtain ⟨x, hx0⟩ : ∃ x, xs[k]? = some x := ⟨_, List.getElem?_eq_getElem (by omega)⟩
      obtain ⟨y, hy0⟩ : ∃ x, xs[k + 1]? = some x := ⟨_, List.getElem?_eq_getElem (by omega)⟩
      obtain ⟨b, off, rfl, hbl, h1⟩ := (hx.nx (hw0 _ hn)).rd hx0
      obtain ⟨b', off', e, _, h2⟩ := (hx.nx (hw0 _ hn)).rd hy0
      injection e with e
      injection e with e1 e2
      subst e1 e2
      have Hst := Lib.hid (stepsL_take hx0 hy0)
      generalize hcg : (stepsL (xs.take (k + 1))).count (u, v) = m at *
      have Hcg := Lib.hid hcg
      clear hcg hx hx0 hy0
      have hwm : IntKind.i64.wrap (((k + 1 : Nat) : Int) - 1) = (k : Int) := by rw [IntKind.wrap_i64]; omega
      have hkl : k < xs.length := by omega
      have Hk2 : Hid (k + 2 = k + 1 + 1) := Lib.hid rfl
      generalize hM : k + 1 = j at *
      have HM := Lib.hid hM
      clear hM
      have kp : ∀ w', Nx wr w' → (fun w_ => Nx wr w_ ∧ w_.cell? ⟨w.heap.size, 0, none⟩ = some (V u) ∧ w_.cell? ⟨w.heap.size, 1, none⟩ = some (V v) ∧ w_.cell? ⟨b, off + k, none⟩ = some (V x) ∧ w_.cell? ⟨b, off + j, none⟩ = some (V y)) w' := fun w' h => ⟨h, h.cell X0_z X0_0, h.cell X0_z X0_1, h.cell (p := ⟨b, off + k, none⟩) hbl h1, h.cell (p := ⟨b, off + j, none⟩) hbl h2⟩
      have hdr : Nx wr wr.drew := .drew (.refl _)
      have hcon := fun w' => l1Edge_c x y w'
      have Hcon := Lib.hid hcon
      have hq1 : Hid ((stepsL (xs.take (k + 2))).count (u, v) = m + if eOf x y = (u, v) then 1 else 0) := Lib.hid (by
        rw [Hst.out, List.count_append, Hcg.out]
        congr 1
        by_cases h : eOf x y = (u, v)
        · rw [if_pos h, h]; simp
        · rw [if_neg h]
          simp [List.count_cons, h])
      have hmm : Hid (eOf x y = (min x y, max x y)) := Lib.hid rfl
      clear hcon
      generalize min x y = e1 at *
      generalize max x y = e2 at *
      by_cases hq : e1 = u ∧ e2 = v
      · have Hq := Lib.hid (show eOf x y = (u, v) by rw [hmm.out, hq.1, hq.2])
        go_wp2_with fail
        go_region_held3 (fun w_ => Nx wr w_ ∧ w_.cell? ⟨w.heap.size, 0, none⟩ = some (V u) ∧ w_.cell? ⟨w.heap.size, 1, none⟩ = some (V v) ∧ w_.cell? ⟨b, off + k, none⟩ = some (V x) ∧ w_.cell? ⟨b, off + j, none⟩ = some (V y))
          (first | with_reducible exact kp _ hdr | with_reducible exact kp _ hh3)
          ((go_at_call 52; (with_reducible refine (Hcon.out _).mono ?_); rintro e w3 ⟨rfl, hx3⟩; have hh3 : Nx wr w3 := hdr.trans hx3))
        all_goals go_wp2
        all_goals go_roundg (gk - 1)
        all_goals first
          | (show _ < _; omega)
          | exact ⟨j, by have := HM.out; omega, by go_num, by rw [← Hk2.out, hq1.out, if_pos Hq.out]; go_num, hn.trans hh3⟩
      · have Hq := Lib.hid (show ¬ eOf x y = (u, v) by rw [hmm.out]; simpa using hq)
        by_cases f1 : (e1 == u) = true
        · have f2 : (e2 == v) = false := by simp at f1; simp; exact fun h => hq ⟨f1, h⟩
          clear hq
          go_wp2_with fail
          go_region_held3 (fun w_ => Nx wr w_ ∧ w_.cell? ⟨w.heap.size, 0, none⟩ = some (V u) ∧ w_.cell? ⟨w.heap.size, 1, none⟩ = some (V v) ∧ w_.cell? ⟨b, off + k, none⟩ = some (V x) ∧ w_.cell? ⟨b, off + j, none⟩ = some (V y))
            (first | with_reducible exact kp _ hdr | with_reducible exact kp _ hh3)
            ((go_at_call 52; (with_reducible refine (Hcon.out _).mono ?_); rintro e w3 ⟨rfl, hx3⟩; have hh3 : Nx wr w3 := hdr.trans hx3))
          all_goals go_wp2
          all_goals go_roundg (gk - 1)
          all_goals first
            | (show _ < _; omega)
            | exact ⟨j, by have := HM.out; omega, by go_num, by rw [← Hk2.out, hq1.out, if_neg Hq.out]; go_num, hn.trans hh3⟩
        · have f1 : (e1 == u) = false := by simpa using f1
          clear hq
          go_wp2_with fail
          go_region_held3 (fun w_ => Nx wr w_ ∧ w_.cell? ⟨w.heap.size, 0, none⟩ = some (V u) ∧ w_.cell? ⟨w.heap.size, 1, none⟩ = some (V v) ∧ w_.cell? ⟨b, off + k, none⟩ = some (V x) ∧ w_.cell? ⟨b, off + j, none⟩ = some (V y))
            (first | with_reducible exact kp _ hdr | with_reducible exact kp _ hh3)
            ((go_at_call 52; (with_reducible refine (Hcon.out _).mono ?_); rintro e w3 ⟨rfl, hx3⟩; have hh3 : Nx wr w3 := hdr.trans hx3))
          all_goals go_wp2
          all_goals go_roundg (gk - 1)
          all_goals first
            | (show _ < _; omega)
            | exact ⟨j, by have := HM.out; omega, by go_num, by rw [← Hk2.out, hq1.out, if_neg Hq.out]; go_num, hn.trans hh3⟩
    · have he : xs.take (k + 1) = xs := List.take_of_length_le (by omega)
      have He := Lib.hid he
      clear he
      go_wp2
      go_ret
      exact RetV.int (by rw [He.out]) (hw0 _ hn)
end Go.Proofs.Ytbceoigmcomlbaa
