/- Contracts: slices.Equal of numbers, the closures of LevelsValid; plain: parts of few edges, sizes of parts. -/
import Derived.Test.YtjchabeiaajgiaaLV1
import Derived.Test.YtjchabeiaajgiaaNC
import Derived.Test.YtjchabeiaajgiaaVN
import Derived.BigQuiet
namespace Go.Proofs.Ytjchabeiaajgiaa
open Go.RowKit set_option linter.unusedVariables false set_option linter.unusedSimpArgs false

set_option maxRecDepth 100000 in
set_option maxHeartbeats 1000000 in
theorem equalI_c (A A' : Option Addr) (c c' : Nat) (xs ys : List Int) (w : World) (hx : IntsAt w A xs) (hy : IntsAt w A' ys) (hl : xs.length ≤ 1048576) (hl' : ys.length ≤ 1048576) :
    Calls Try.prog 56 #[.slice A xs.length c, .slice A' ys.length c'] w (RetV (.bool (decide (xs = ys))) w) := by
  by_cases hlen : xs.length = ys.length
  · have hne : ((xs.length : Int) != (ys.length : Int)) = false := by simp [hlen]
    have Hlen := Lib.hid hlen
    have Hlt := Lib.hid (show ∀ k, k < xs.length → k < ys.length from fun k h => by omega)
    clear hlen
    go_enter Try.func56, Try.ntmps56
    go_wp2
    go_loopg [13] xs.length (fun gk i wr => ∃ k : Nat, k + gk = xs.length ∧ i = .int .i64 k ∧ Nx w wr ∧ ∀ j, j < k → xs[j]? = ys[j]?)
    case atStart => exact ⟨0, by omega, rfl, Nx.refl _, fun j hj => by omega⟩
    case round =>
      obtain ⟨k, hk, rfl, hn, he⟩ := hrel
      have He := Lib.hid he
      clear he
      by_cases hlt : k < xs.length
      · have hlt' := Hlt.out k hlt
        obtain ⟨p, hp⟩ : ∃ p, xs[k]? = some p := ⟨_, List.getElem?_eq_getElem hlt⟩
        obtain ⟨q, hq⟩ : ∃ q, ys[k]? = some q := ⟨_, List.getElem?_eq_getElem hlt'⟩
        obtain ⟨b, off, rfl, hb, r1⟩ := (hx.nx hn).rd hp
        obtain ⟨b', off', rfl, hb', r2⟩ := (hy.nx hn).rd hq
        have Hp := Lib.hid hp
        have Hq := Lib.hid hq
        clear hp hq
        by_cases e : (p != q) = true
        · go_wp2_with fail
          go_quiet (fail)
          go_wp2
          go_ret
          exact RetV.bool (by
            have : xs ≠ ys := pref_ne Hp.out Hq.out (by simpa using e)
            simp [this]) (hn.drewN _)
        · have e : (p != q) = false := by simpa using e
          go_wp2_with fail
          go_quiet (fail)
          go_wp2
          go_roundg (gk - 1)
          case measure => omega
          case rel => exact ⟨k + 1, by omega, by go_num, hn.drewN _, pref_step He.out Hp.out (by rw [Hq.out]; simp at e; rw [e])⟩
      · go_wp2
        go_ret
        exact RetV.bool (by
          have : xs = ys := pref_eq Hlen.out (fun j hj => He.out j (by have := Hlen.out; omega))
          simp [this]) hn
  · have hne : ((xs.length : Int) != (ys.length : Int)) = true := by simp; omega
    have Hlen := Lib.hid hlen
    clear hlen
    go_enter Try.func56, Try.ntmps56
    go_wp2
    go_ret
    exact RetV.bool (by
      have : xs ≠ ys := fun e => Hlen.out (by rw [e])
      simp [this]) (by repeat (first | exact Nx.refl _ | assumption | apply Nx.alloc | apply Nx.drew | apply Nx.drewN | (refine Nx.setCell ?_ (by first | (simp; done) | (simp; omega) | omega) _) | refine Nx.trans ?_ (by assumption)))

/-! ### plain -/
theorem conn_nil {x y : Int} (c : Conn [] x y) : x = y := by
  induction c with
  | refl => rfl
  | step _ a ih => rcases a with a | a <;> simp at a
theorem InR.nil (n : Nat) : InR n [] := fun e he => by simp at he
theorem connB_nil {n : Nat} {x y : Int} (hx : 0 ≤ x ∧ x < n) (hy : 0 ≤ y ∧ y < n) (h : x ≠ y) : connB n [] x y = false := by
  unfold connB
  rw [decide_eq_false_iff_not, labels_iff (InR.nil n) hx hy]
  exact fun c => h (conn_nil c)
theorem forest_small {n : Nat} {es : Es} (hl : es.length ≤ 1) (hr : InR n es) (hd : ∀ e ∈ es, e.1 ≠ e.2) : forestL n es = es := by
  match es, hl with
  | [], _ => rfl
  | [e], _ =>
    have h := hr e (by simp)
    have h2 := hd e (by simp)
    unfold forestL
    simp only [List.foldl_cons, List.foldl_nil]
    rw [fstep_no (connB_nil ⟨h.1, h.2.1⟩ ⟨h.2.2.1, h.2.2.2⟩ h2)]
    rfl
theorem labels_nil_lk {n : Nat} {x : Int} (h0 : 0 ≤ x) (h1 : x < n) : lk (labels n []) x = x :=
  (conn_nil ((labels_isLab (InR.nil n)).1.2 x h0 h1).2.2).symm
/-- how often each number stands in a list -/
def cnts (n : Nat) (L : List Int) : List Int := (List.range n).map fun (i : Nat) => ((L.count (i : Int) : Nat) : Int)
theorem cnts_len (n : Nat) (L : List Int) : (cnts n L).length = n := by simp [cnts]
theorem cnts_get {n : Nat} {L : List Int} {i : Nat} (h : i < n) : (cnts n L)[i]? = some ((L.count (i : Int) : Nat) : Int) := by simp [cnts, h]
theorem cnts_nil (n : Nat) : cnts n [] = List.replicate n 0 := by
  apply List.ext_getElem?
  intro i
  by_cases h : i < n
  · rw [cnts_get h]; simp [h]
  · rw [List.getElem?_eq_none (by rw [cnts_len]; omega), List.getElem?_eq_none (by simp; omega)]
theorem cnts_step {n : Nat} {L : List Int} {j x : Nat} (hj : L[j]? = some (x : Int)) (hx : x < n) : cnts n (L.take (j + 1)) = (cnts n (L.take j)).set x (((L.take j).count (x : Int) : Nat) + 1) := by
  obtain ⟨h1, h2⟩ := List.getElem?_eq_some_iff.1 hj
  apply List.ext_getElem?
  intro i
  by_cases h : i < n
  · rw [cnts_get h, List.take_succ_eq_append_getElem h1, h2, List.count_append]
    by_cases e : x = i
    · subst e
      rw [List.getElem?_set_self (by rw [cnts_len]; exact h)]
      simp
    · rw [List.getElem?_set_ne e, cnts_get h]
      have : ((x : Int) == (i : Int)) = false := by simp; omega
      simp [List.count_cons, this]
  · rw [List.getElem?_eq_none (by rw [cnts_len]; omega), List.getElem?_eq_none (by rw [List.length_set, cnts_len]; omega)]
theorem count_one {n : Nat} {x : Nat} : (labels n []).count (x : Int) ≤ 1 := by
  have hl := labels_length (InR.nil n)
  have he : labels n [] = (List.range n).map Int.ofNat := by
    refine lk_ext (by simp [hl]) fun x h0 h1 => ?_
    rw [hl] at h1
    rw [labels_nil_lk h0 h1]
    obtain ⟨k, rfl⟩ := Int.eq_ofNat_of_zero_le h0
    have hk : k < n := by omega
    simp [lk, hk]
  have hn : (labels n []).Nodup := by
    rw [he]
    exact List.Pairwise.map _ (fun a b h => by simp; omega) List.nodup_range
  have hc : ∀ (L : List Int) (a : Int), L.Nodup → L.count a ≤ 1 := by
    intro L a
    induction L with
    | nil => simp
    | cons b L ih =>
      intro h
      rw [List.nodup_cons] at h
      rw [List.count_cons]
      by_cases e : b = a
      · subst e
        have := List.count_eq_zero.2 h.1
        simp [this]
      · have := ih h.2
        simp [e]; exact this
  exact hc _ _ hn

theorem lvClos1_c (w : World) : Calls Try.prog 52 #[V 0] w (RetV (.bool false) w) := by
  go_enter Try.func52, Try.ntmps52
  go_wp2
  go_ret
  exact RetV.bool rfl (by repeat (first | exact Nx.refl _ | assumption | apply Nx.alloc | apply Nx.drew | apply Nx.drewN | (refine Nx.setCell ?_ (by first | (simp; done) | (simp; omega) | omega) _) | refine Nx.trans ?_ (by assumption)))
/-- the sizes of parts are small enough -/
theorem lvClos2_c (n : Nat) (G A B : Option Addr) (m gc m1 c1 m2 c2 : Nat) (bl bk : Nat) (k x : Nat) (w : World) (hL : Bx w bl 30 [V n, .slice G m gc, .slice A m1 c1, .slice B m2 c2]) (hK : Bx w bk 3 [V k]) (hn : n ≤ 16) (hx : x ≤ 1 ∨ k = 0 ∧ x ≤ n) :
    Calls Try.prog 57 #[V x, .pointer (some ⟨bl, 0, none⟩), .pointer (some ⟨bk, 0, none⟩)] w (RetV (.bool false) w) := by
  have L_0 := hL.cell (j := 0) rfl
  have K_0 := hK.cell (j := 0) rfl
  by_cases h : x ≤ 1
  · have hd : decide ((1 : Int) < (x : Int)) = false := by simp; omega
    go_enter Try.func57, Try.ntmps57
    go_wp2
    go_ret
    exact RetV.bool rfl (by repeat (first | exact Nx.refl _ | assumption | apply Nx.alloc | apply Nx.drew | apply Nx.drewN | (refine Nx.setCell ?_ (by first | (simp; done) | (simp; omega) | omega) _) | refine Nx.trans ?_ (by assumption)))
  · obtain ⟨rfl, hx⟩ : k = 0 ∧ x ≤ n := by omega
    have hd : decide ((1 : Int) < (x : Int)) = true := by simp; omega
    have hd2 : decide ((n : Int) < (x : Int)) = false := by simp; omega
    clear hL hK
    go_enter Try.func57, Try.ntmps57
    go_wp2
    go_ret
    exact RetV.bool (by simp; omega) (by repeat (first | exact Nx.refl _ | assumption | apply Nx.alloc | apply Nx.drew | apply Nx.drewN | (refine Nx.setCell ?_ (by first | (simp; done) | (simp; omega) | omega) _) | refine Nx.trans ?_ (by assumption)))
end Go.Proofs.Ytjchabeiaajgiaa
