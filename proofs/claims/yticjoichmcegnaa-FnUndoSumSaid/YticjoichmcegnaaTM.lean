/- Contracts for the laws on taking back: dySets on equal sets, UndoSets again. -/
import Derived.Test.YticjoichmcegnaaTK
import Derived.Test.YticjoichmcegnaaTG
import Derived.Test.YticjoichmcegnaaN2
namespace Go.Proofs.Yticjoichmcegnaa
open Go.RowKit set_option linter.unusedVariables false set_option linter.unusedSimpArgs false

def RetRn (s : SS) (n1 n2 n3 : Nat) (f : Value → Value) (w : World) (e : Ending) (w' : World) : Prop :=
  ∃ A ca B cb C cc, e = .returned (f (St A n1 ca B n2 cb C n3 cc)) ∧ n3 ≤ cc ∧ Rds w' w.heap.size w'.heap.size s A B C ∧ Nx w w'
theorem RetR.n {s : SS} {n1 n2 n3 : Nat} {f : Value → Value} {w : World} {e : Ending} {w' : World} (h : RetR s f w e w') (h1 : s.P.length = n1) (h2 : s.Z.length = n2) (h3 : s.T.length = n3) : RetRn s n1 n2 n3 f w e w' := by
  subst h1 h2 h3
  obtain ⟨A, ca, B, cb, C, cc, e1, h, hn⟩ := h
  exact ⟨A, ca, B, cb, C, cc, e1, h.c.cap, h.rd, hn⟩
def RetDn (s : SS) (n1 n2 n3 : Nat) (f : Value → Value) (w : World) (e : Ending) (w' : World) : Prop :=
  ∃ A ca B cb C cc, e = .returned (f (St A n1 ca B n2 cb C n3 cc)) ∧ Rds w' w.heap.size w'.heap.size s A B C ∧ Nx w w'
theorem RetD.n {s : SS} {n1 n2 n3 : Nat} {f : Value → Value} {w : World} {e : Ending} {w' : World} (h : RetD s f w e w') (h1 : s.P.length = n1) (h2 : s.Z.length = n2) (h3 : s.T.length = n3) : RetDn s n1 n2 n3 f w e w' := by
  subst h1 h2 h3
  exact h
theorem backS_SV {P Z : List Int} {T : Es} (h : SV P Z T) (k : Nat) : SV (backS P T k).P (backS P T k).Z (backS P T k).T := by
  have hi := backS_inv h k
  have hT := backS_T h k
  have hl := hi.lp
  have e : rpS (backS P T k).P.length (backS P T k).T = rpS P.length (T.take (T.length - k)) := by rw [hl, hT]
  refine ⟨by rw [hl]; exact h.1, by rw [hl]; exact h.2.1, by rw [e]; exact backS_ok h k, by rw [e]; rfl, by rw [e]; rfl⟩
theorem backS_back {P Z : List Int} {T : Es} (h : SV P Z T) (j k : Nat) (hj : j + k ≤ T.length) : backS (backS P T j).P (backS P T j).T k = backS P T (j + k) := by
  have hl := (backS_inv h j).lp
  have hT := backS_T h j
  have e : backS (backS P T j).P (backS P T j).T k = (rpS (backS P T j).P.length ((backS P T j).T.take ((backS P T j).T.length - k))).1 := rfl
  rw [e, hl, hT, List.take_take, List.length_take]
  have : min (min (T.length - j) T.length - k) (T.length - j) = T.length - (j + k) := by omega
  rw [this]
  rfl
theorem backS_all (P : List Int) (T : Es) : backS P T T.length = newS P.length := by
  unfold backS
  simp [rpS]
theorem backS_zero {P Z : List Int} {T : Es} (h : SV P Z T) : backS P T 0 = ⟨P, Z, T⟩ := by
  have e : (backS P T 0) = (rpS P.length T).1 := by unfold backS; simp
  rw [e]
  have h1 := h.2.2.2.1
  have h2 := h.2.2.2.2
  have h3 := (rpS_T T h.2.2.1).1
  cases hh : (rpS P.length T).1 with
  | mk p z t => rw [hh] at h1 h2 h3; simp only at h1 h2 h3; rw [h1, h2, h3]

set_option maxRecDepth 100000 in
set_option maxHeartbeats 4000000 in
theorem dyS_yes (lo hi lo' hi' n1 n2 n3 : Nat) (s : SS) (A B C A' B' C' : Option Addr) (ca cb cc ca' cb' cc' : Nat) (w : World) (h : Rds w lo hi s A B C) (h' : Rds w lo' hi' s A' B' C') (h1 : s.P.length = n1) (h2 : s.Z.length = n2) (h3 : s.T.length = n3) (l1 : n1 ≤ 1048576) (l2 : n2 ≤ 1048576) (l3 : n3 ≤ 1048576) :
    Calls Try.prog 29 #[St A n1 ca B n2 cb C n3 cc, St A' n1 ca' B' n2 cb' C' n3 cc'] w (RetV (.bool true) w) := by
  have hy1 := fun w' a b => dyInts_c A A' ca ca' s.P s.P w' a b (by omega) (by omega)
  have hy2 := fun w' a b => dyInts_c B B' cb cb' s.Z s.Z w' a b (by omega) (by omega)
  rw [h1, decide_eq_true rfl] at hy1
  rw [h2, decide_eq_true rfl] at hy2
  have Hy1 := Lib.hid hy1
  have Hy2 := Lib.hid hy2
  have H3 := Lib.hid h3
  have Ha := Lib.hid h.a
  have Hb := Lib.hid h.b
  have Hc := Lib.hid h.c
  have Ha' := Lib.hid h'.a
  have Hb' := Lib.hid h'.b
  have Hc' := Lib.hid h'.c
  clear hy1 hy2 h h' h1 h2 h3
  go_enter Try.func29, Try.ntmps29
  go_wp2_with fail
  generalize hW1 : World.alloc _ _ = W1
  have gW1 : Nx w W1 := by subst hW1; exact (by repeat (first | exact Nx.refl _ | assumption | apply Nx.alloc | apply Nx.drew | apply Nx.drewN | (refine Nx.setCell ?_ (by first | (simp; done) | (simp; omega) | omega) _) | refine Nx.trans ?_ (by assumption)))
  have sW1 : W1.heap.size = w.heap.size + 2 := by subst hW1; simp
  have X0 : Bx W1 (w.heap.size) 37 [.slice A n1 ca, .slice B n2 cb, .slice C n3 cc] := by subst hW1; have h := Bx.alloc w 37 [.slice A n1 ca, .slice B n2 cb, .slice C n3 cc]; have h := h.nx (Nx.alloc (Nx.refl _) (.cells #[.slice A' n1 ca', .slice B' n2 cb', .slice C' n3 cc'] 37)); simpa using h
  have X1 : Bx W1 (w.heap.size + 1) 37 [.slice A' n1 ca', .slice B' n2 cb', .slice C' n3 cc'] := by subst hW1; have h := Bx.alloc (w.alloc (.cells #[.slice A n1 ca, .slice B n2 cb, .slice C n3 cc] 37)) 37 [.slice A' n1 ca', .slice B' n2 cb', .slice C' n3 cc']; simpa using h
  have X0_0 := X0.cell (j := 0) rfl
  have X0_1 := X0.cell (j := 1) rfl
  have X0_2 := X0.cell (j := 2) rfl
  have X0_z := X0.lt
  have X1_0 := X1.cell (j := 0) rfl
  have X1_1 := X1.cell (j := 1) rfl
  have X1_2 := X1.cell (j := 2) rfl
  have X1_z := X1.lt
  have HsW1 := Lib.hid sW1
  have lW1 : w.heap.size + 2 ≤ W1.heap.size := by omega
  clear hW1 sW1
  have N := gW1
  refine (Hy1.out _ (Ha.out.nx N) (Ha'.out.nx N)).mono ?_
  rintro e w2 ⟨rfl, hn2⟩
  replace X0 := X0.nx hn2
  replace X0_0 := X0.cell (j := 0) rfl
  replace X0_1 := X0.cell (j := 1) rfl
  replace X0_2 := X0.cell (j := 2) rfl
  replace X0_z := X0.lt
  replace X1 := X1.nx hn2
  replace X1_0 := X1.cell (j := 0) rfl
  replace X1_1 := X1.cell (j := 1) rfl
  replace X1_2 := X1.cell (j := 2) rfl
  replace X1_z := X1.lt
  replace N := N.trans hn2
  go_wp2_with fail
  refine (Hy2.out _ (Hb.out.nx N) (Hb'.out.nx N)).mono ?_
  rintro e w3 ⟨rfl, hn3⟩
  replace X0 := X0.nx hn3
  replace X0_0 := X0.cell (j := 0) rfl
  replace X0_1 := X0.cell (j := 1) rfl
  replace X0_2 := X0.cell (j := 2) rfl
  replace X0_z := X0.lt
  replace X1 := X1.nx hn3
  replace X1_0 := X1.cell (j := 0) rfl
  replace X1_1 := X1.cell (j := 1) rfl
  replace X1_2 := X1.cell (j := 2) rfl
  replace X1_z := X1.lt
  replace N := N.trans hn3
  go_wp2_with fail
  go_loopg [5] n3 (fun gk i wr => ∃ k : Nat, k + gk = n3 ∧ i = .int .i64 k ∧ Nx w3 wr)
  case atStart => exact ⟨0, by omega, rfl, Nx.refl _⟩
  case round =>
    obtain ⟨k, hk, rfl, hn⟩ := hrel
    replace X0 := X0.nx hn
    replace X0_0 := X0.cell (j := 0) rfl
    replace X0_1 := X0.cell (j := 1) rfl
    replace X0_2 := X0.cell (j := 2) rfl
    replace X0_z := X0.lt
    replace X1 := X1.nx hn
    replace X1_0 := X1.cell (j := 0) rfl
    replace X1_1 := X1.cell (j := 1) rfl
    replace X1_2 := X1.cell (j := 2) rfl
    replace X1_z := X1.lt
    by_cases hlt : k < n3
    · obtain ⟨t, ht⟩ : ∃ t, s.T[k]? = some t := ⟨_, List.getElem?_eq_getElem (by rw [H3.out]; exact hlt)⟩
      obtain ⟨b, off, rfl, hb, r1, r2⟩ := (Hc.out.nx (N.trans hn)).rd ht
      obtain ⟨b', off', rfl, hb', r3, r4⟩ := (Hc'.out.nx (N.trans hn)).rd ht
      obtain ⟨x, y⟩ := t
      simp only at r1 r2 r3 r4
      clear ht
      go_wp2_with fail
      go_quiet (fail)
      go_wp2
      go_roundg (gk - 1)
      case measure => omega
      case rel => exact ⟨k + 1, by omega, by go_num, hn.drewN _⟩
    · go_wp2
      go_ret
      exact RetV.bool rfl (N.trans hn)
end Go.Proofs.Yticjoichmcegnaa
