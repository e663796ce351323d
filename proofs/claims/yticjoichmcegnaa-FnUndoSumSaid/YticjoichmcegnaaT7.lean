/- Contract: l3Same of the reference. -/
import Derived.Test.YticjoichmcegnaaT6
namespace Go.Proofs.Yticjoichmcegnaa
open Go.RowKit set_option linter.unusedVariables false set_option linter.unusedSimpArgs false

set_option maxRecDepth 100000 in
set_option maxHeartbeats 4000000 in
theorem l3Same_c (A B C A' B' C' : Option Addr) (ca cb cc ca' cb' cc' n m l n' m' l' : Nat) (P Z P' Z' : List Int) (T T' : Es) (w : World) (hA : IntsAt w A P) (hB : IntsAt w B Z) (hC : EdgesAt w C T) (hA' : IntsAt w A' P') (hB' : IntsAt w B' Z') (hC' : EdgesAt w C' T')
    (h1 : P.length = n) (h2 : Z.length = m) (h3 : T.length = l) (h1' : P'.length = n') (h2' : Z'.length = m') (h3' : T'.length = l') (l1 : n ≤ 1048576) (l2 : m ≤ 1048576) (l3 : l ≤ 1048576) (l1' : n' ≤ 1048576) (l2' : m' ≤ 1048576) (l3' : l' ≤ 1048576) :
    Calls Try.prog 73 #[St A n ca B m cb C l cc, St A' n' ca' B' m' cb' C' l' cc'] w (RetV (.bool (decide (P = P' ∧ Z = Z' ∧ T = T'))) w) := by
  have HA := Lib.hid hA
  have HB := Lib.hid hB
  have HC := Lib.hid hC
  have HA' := Lib.hid hA'
  have HB' := Lib.hid hB'
  have HC' := Lib.hid hC'
  have H1 := Lib.hid h1
  have H2 := Lib.hid h2
  have H3 := Lib.hid h3
  have H1' := Lib.hid h1'
  have H2' := Lib.hid h2'
  have H3' := Lib.hid h3'
  clear hA hB hC hA' hB' hC' h1 h2 h3 h1' h2' h3'
  by_cases e1 : n = n'
  · by_cases e2 : m = m'
    · by_cases e3 : l = l'
      · subst e1 e2 e3
        go_enter Try.func73, Try.ntmps73
        go_wp2_with fail
        generalize hW1 : World.alloc _ _ = W1
        have gW1 : Nx w W1 := by subst hW1; exact (by repeat (first | exact Nx.refl _ | assumption | apply Nx.alloc | apply Nx.drew | apply Nx.drewN | (refine Nx.setCell ?_ (by first | (simp; done) | (simp; omega) | omega) _) | refine Nx.trans ?_ (by assumption)))
        have sW1 : W1.heap.size = w.heap.size + 2 := by subst hW1; simp
        have X0 : Bx W1 (w.heap.size) 37 [.slice A n ca, .slice B m cb, .slice C l cc] := by subst hW1; have h := Bx.alloc w 37 [.slice A n ca, .slice B m cb, .slice C l cc]; have h := h.nx (Nx.alloc (Nx.refl _) (.cells #[.slice A' n ca', .slice B' m cb', .slice C' l cc'] 37)); simpa using h
        have X1 : Bx W1 (w.heap.size + 1) 37 [.slice A' n ca', .slice B' m cb', .slice C' l cc'] := by subst hW1; have h := Bx.alloc (w.alloc (.cells #[.slice A n ca, .slice B m cb, .slice C l cc] 37)) 37 [.slice A' n ca', .slice B' m cb', .slice C' l cc']; simpa using h
        have X0_0 := X0.cell (j := 0) rfl
        have X0_1 := X0.cell (j := 1) rfl
        have X0_2 := X0.cell (j := 2) rfl
        have X0_z := X0.lt
        have X1_0 := X1.cell (j := 0) rfl
        have X1_1 := X1.cell (j := 1) rfl
        have X1_2 := X1.cell (j := 2) rfl
        have X1_z := X1.lt
        have HsW1 := Lib.hid sW1
        have lW1 : w.heap.size + 2 ≤ W1.heap.size := by omega
        clear hW1 sW1
        go_loopg [5] n (fun gk i wr => ∃ k : Nat, k + gk = n ∧ i = .int .i64 k ∧ Nx W1 wr ∧ ∀ j, j < k → P[j]? = P'[j]?)
        case atStart => exact ⟨0, by omega, rfl, Nx.refl _, fun j hj => by omega⟩
        case round =>
          obtain ⟨k, hk, rfl, hn, he⟩ := hrel
          replace X0 := X0.nx hn
          replace X0_0 := X0.cell (j := 0) rfl
          replace X0_1 := X0.cell (j := 1) rfl
          replace X0_2 := X0.cell (j := 2) rfl
          replace X0_z := X0.lt
          replace X1 := X1.nx hn
          replace X1_0 := X1.cell (j := 0) rfl
          replace X1_1 := X1.cell (j := 1) rfl
          replace X1_2 := X1.cell (j := 2) rfl
          replace X1_z := X1.lt
          have He := Lib.hid he
          clear he
          by_cases hlt : k < n
          · obtain ⟨p, hp⟩ : ∃ p, P[k]? = some p := ⟨_, List.getElem?_eq_getElem (by rw [H1.out]; exact hlt)⟩
            obtain ⟨q, hq⟩ : ∃ q, P'[k]? = some q := ⟨_, List.getElem?_eq_getElem (by rw [H1'.out]; exact hlt)⟩
            obtain ⟨b, off, rfl, hb, r1⟩ := (HA.out.nx (gW1.trans hn)).rd hp
            obtain ⟨b', off', rfl, hb', r2⟩ := (HA'.out.nx (gW1.trans hn)).rd hq
            have Hp := Lib.hid hp
            have Hq := Lib.hid hq
            clear hp hq
            by_cases e : (p != q) = true
            · go_wp2_with fail
              go_quiet (fail)
              go_wp2
              go_ret
              exact RetV.bool (by
                have : P ≠ P' := pref_ne Hp.out Hq.out (by simpa using e)
                simp [this]) ((gW1.trans hn).drewN _)
            · have e : (p != q) = false := by simpa using e
              go_wp2_with fail
              go_quiet (fail)
              go_wp2
              go_roundg (gk - 1)
              case measure => omega
              case rel => exact ⟨k + 1, by omega, by go_num, hn.drewN _, pref_step He.out Hp.out (by rw [Hq.out]; simp at e; rw [e])⟩
          · have HP := Lib.hid (show P = P' from pref_eq (by rw [H1.out, H1'.out]) (fun j hj => He.out j (by rw [H1'.out] at hj; omega)))
            obtain ⟨w2, rfl⟩ : ∃ x : World, x = wr := ⟨_, rfl⟩
            have hn2 := gW1.trans hn
            go_wp2
            clear He hn hlt hk
            go_loopg [6] m (fun gk i wr => ∃ k : Nat, k + gk = m ∧ i = .int .i64 k ∧ Nx w2 wr ∧ ∀ j, j < k → Z[j]? = Z'[j]?)
            case atStart => exact ⟨0, by omega, rfl, Nx.refl _, fun j hj => by omega⟩
            case round =>
              obtain ⟨k, hk, rfl, hn, he⟩ := hrel
              replace X0 := X0.nx hn
              replace X0_0 := X0.cell (j := 0) rfl
              replace X0_1 := X0.cell (j := 1) rfl
              replace X0_2 := X0.cell (j := 2) rfl
              replace X0_z := X0.lt
              replace X1 := X1.nx hn
              replace X1_0 := X1.cell (j := 0) rfl
              replace X1_1 := X1.cell (j := 1) rfl
              replace X1_2 := X1.cell (j := 2) rfl
              replace X1_z := X1.lt
              have He := Lib.hid he
              clear he
              by_cases hlt : k < m
              · obtain ⟨p, hp⟩ : ∃ p, Z[k]? = some p := ⟨_, List.getElem?_eq_getElem (by rw [H2.out]; exact hlt)⟩
                obtain ⟨q, hq⟩ : ∃ q, Z'[k]? = some q := ⟨_, List.getElem?_eq_getElem (by rw [H2'.out]; exact hlt)⟩
                obtain ⟨b, off, rfl, hb, r1⟩ := (HB.out.nx (hn2.trans hn)).rd hp
                obtain ⟨b', off', rfl, hb', r2⟩ := (HB'.out.nx (hn2.trans hn)).rd hq
                have Hp := Lib.hid hp
                have Hq := Lib.hid hq
                clear hp hq
                by_cases e : (p != q) = true
                · go_wp2_with fail
                  go_quiet (fail)
                  go_wp2
                  go_ret
                  exact RetV.bool (by
                    have : Z ≠ Z' := pref_ne Hp.out Hq.out (by simpa using e)
                    simp [this]) ((hn2.trans hn).drewN _)
                · have e : (p != q) = false := by simpa using e
                  go_wp2_with fail
                  go_quiet (fail)
                  go_wp2
                  go_roundg (gk - 1)
                  case measure => omega
                  case rel => exact ⟨k + 1, by omega, by go_num, hn.drewN _, pref_step He.out Hp.out (by rw [Hq.out]; simp at e; rw [e])⟩
              · have HZ := Lib.hid (show Z = Z' from pref_eq (by rw [H2.out, H2'.out]) (fun j hj => He.out j (by rw [H2'.out] at hj; omega)))
                obtain ⟨w3, rfl⟩ : ∃ x : World, x = wr := ⟨_, rfl⟩
                have hn3 := hn2.trans hn
                go_wp2
                clear He hn hlt hk hn2
                go_loopg [7] l (fun gk i wr => ∃ k : Nat, k + gk = l ∧ i = .int .i64 k ∧ Nx w3 wr ∧ ∀ j, j < k → T[j]? = T'[j]?)
                case atStart => exact ⟨0, by omega, rfl, Nx.refl _, fun j hj => by omega⟩
                case round =>
                  obtain ⟨k, hk, rfl, hn, he⟩ := hrel
                  replace X0 := X0.nx hn
                  replace X0_0 := X0.cell (j := 0) rfl
                  replace X0_1 := X0.cell (j := 1) rfl
                  replace X0_2 := X0.cell (j := 2) rfl
                  replace X0_z := X0.lt
                  replace X1 := X1.nx hn
                  replace X1_0 := X1.cell (j := 0) rfl
                  replace X1_1 := X1.cell (j := 1) rfl
                  replace X1_2 := X1.cell (j := 2) rfl
                  replace X1_z := X1.lt
                  have He := Lib.hid he
                  clear he
                  by_cases hlt : k < l
                  · obtain ⟨p, hp⟩ : ∃ p, T[k]? = some p := ⟨_, List.getElem?_eq_getElem (by rw [H3.out]; exact hlt)⟩
                    obtain ⟨q, hq⟩ : ∃ q, T'[k]? = some q := ⟨_, List.getElem?_eq_getElem (by rw [H3'.out]; exact hlt)⟩
                    obtain ⟨b, off, rfl, hb, r1, r2⟩ := (HC.out.nx (hn3.trans hn)).rd hp
                    obtain ⟨b', off', rfl, hb', r3, r4⟩ := (HC'.out.nx (hn3.trans hn)).rd hq
                    obtain ⟨p1, p2⟩ := p
                    obtain ⟨q1, q2⟩ := q
                    simp only at r1 r2 r3 r4
                    have Hp := Lib.hid hp
                    have Hq := Lib.hid hq
                    clear hp hq
                    by_cases e : p1 = q1 ∧ p2 = q2
                    · obtain ⟨rfl, rfl⟩ := e
                      go_wp2_with fail
                      go_quiet (fail)
                      go_wp2
                      go_roundg (gk - 1)
                      case measure => omega
                      case rel => exact ⟨k + 1, by omega, by go_num, hn.drewN _, pref_step He.out Hp.out Hq.out⟩
                    · have hne : T ≠ T' := pref_ne Hp.out Hq.out (by simpa using e)
                      have Hne := Lib.hid hne
                      clear hne
                      by_cases f1 : (p1 == q1) = true
                      · have f2 : (p2 == q2) = false := by simp at f1; simp; intro h; exact e ⟨f1, h⟩
                        clear e
                        go_wp2_with fail
                        go_quiet (fail)
                        go_wp2
                        go_ret
                        exact RetV.bool (by simp [Hne.out]) ((hn3.trans hn).drewN _)
                      · have f1 : (p1 == q1) = false := by simpa using f1
                        clear e
                        go_wp2_with fail
                        go_quiet (fail)
                        go_wp2
                        go_ret
                        exact RetV.bool (by simp [Hne.out]) ((hn3.trans hn).drewN _)
                  · go_wp2
                    go_ret
                    have hT : T = T' := pref_eq (by rw [H3.out, H3'.out]) (fun j hj => He.out j (by rw [H3'.out] at hj; omega))
                    exact RetV.bool (by simp [HP.out, HZ.out, hT]) (hn3.trans hn)
      · have d1 : ((n : Int) != (n' : Int)) = false := by simp [e1]
        have d2 : ((m : Int) != (m' : Int)) = false := by simp [e2]
        have d3 : ((l : Int) != (l' : Int)) = true := by simp; omega
        have hne : T ≠ T' := fun h => e3 (by rw [← H3.out, ← H3'.out, h])
        have Hne := Lib.hid hne
        clear e1 e2 e3 hne
        go_enter Try.func73, Try.ntmps73
        go_wp2
        go_ret
        exact RetV.bool (by simp [Hne.out]) (by repeat (first | exact Nx.refl _ | assumption | apply Nx.alloc | apply Nx.drew | apply Nx.drewN | (refine Nx.setCell ?_ (by first | (simp; done) | (simp; omega) | omega) _) | refine Nx.trans ?_ (by assumption)))
    · have d1 : ((n : Int) != (n' : Int)) = false := by simp [e1]
      have d2 : ((m : Int) != (m' : Int)) = true := by simp; omega
      have hne : Z ≠ Z' := fun h => e2 (by rw [← H2.out, ← H2'.out, h])
      have Hne := Lib.hid hne
      clear e1 e2 hne
      go_enter Try.func73, Try.ntmps73
      go_wp2
      go_ret
      exact RetV.bool (by simp [Hne.out]) (by repeat (first | exact Nx.refl _ | assumption | apply Nx.alloc | apply Nx.drew | apply Nx.drewN | (refine Nx.setCell ?_ (by first | (simp; done) | (simp; omega) | omega) _) | refine Nx.trans ?_ (by assumption)))
  · have d1 : ((n : Int) != (n' : Int)) = true := by simp; omega
    have hne : P ≠ P' := fun h => e1 (by rw [← H1.out, ← H1'.out, h])
    have Hne := Lib.hid hne
    clear e1 hne
    go_enter Try.func73, Try.ntmps73
    go_wp2
    go_ret
    exact RetV.bool (by simp [Hne.out]) (by repeat (first | exact Nx.refl _ | assumption | apply Nx.alloc | apply Nx.drew | apply Nx.drewN | (refine Nx.setCell ?_ (by first | (simp; done) | (simp; omega) | omega) _) | refine Nx.trans ?_ (by assumption)))
end Go.Proofs.Yticjoichmcegnaa
