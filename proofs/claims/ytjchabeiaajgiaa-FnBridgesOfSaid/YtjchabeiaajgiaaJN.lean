/- Contracts: dyInts, dyEdges, dyHas, dyIn. -/
import Derived.Test.YtjchabeiaajgiaaG3
import Derived.Test.YtjchabeiaajgiaaG4
import Derived.Test.YtjchabeiaajgiaaH
/- Contracts: dyInts. -/
namespace Go.Proofs.Ytjchabeiaajgiaa
open Go.RowKit

set_option maxRecDepth 100000 in
set_option maxHeartbeats 1000000 in
theorem dyInts_c (A A' : Option Addr) (c c' : Nat) (xs ys : List Int) (w : World) (hx : IntsAt w A xs) (hy : IntsAt w A' ys) (hl : xs.length ≤ 1048576) (hl' : ys.length ≤ 1048576) :
    Calls Try.prog 45 #[.slice A xs.length c, .slice A' ys.length c'] w (RetV (.bool (decide (xs = ys))) w) := by
  by_cases hlen : xs.length = ys.length
  · have hne : ((xs.length : Int) != (ys.length : Int)) = false := by simp [hlen]
    have Hlen := Lib.hid hlen
    clear hlen
    go_enter Try.func45, Try.ntmps45
    go_wp2
    go_loopw [5] (fun i wr => ∃ k : Nat, k ≤ xs.length ∧ i = .int .i64 k ∧ Nx w wr ∧ ∀ j, j < k → xs[j]? = ys[j]?) (fun i _ => xs.length - (intOf i).toNat)
    case atStart => exact ⟨0, by omega, rfl, Nx.refl _, fun j hj => by omega⟩
    case round =>
      obtain ⟨k, hk, rfl, hn, he⟩ := hrel
      have He := Lib.hid he
      clear he
      by_cases hlt : k < xs.length
      · have hlt' : k < ys.length := by have := Hlen.out; omega
        obtain ⟨b, off, rfl, hb, hc⟩ := hx (by omega)
        obtain ⟨b', off', rfl, hb', hc'⟩ := hy (by omega)
        have h1 := hn.cell (p := ⟨b, off + k, none⟩) hb (hc k hlt)
        have h3 := hn.cell (p := ⟨b', off' + k, none⟩) hb' (hc' k hlt')
        have ha : xs[k]? = some xs[k] := List.getElem?_eq_getElem hlt
        have hd : ys[k]? = some ys[k] := List.getElem?_eq_getElem hlt'
        generalize xs[k] = p at *
        generalize ys[k] = q at *
        have Ha := Lib.hid ha
        have Hd := Lib.hid hd
        clear hx hy hc hc' ha hd
        by_cases heq : (p != q) = true
        · go_wp2
          go_quiet (fail)
          go_wp2
          go_ret
          exact RetV.bool (by
            have : xs ≠ ys := pref_ne Ha.out Hd.out (by simpa using heq)
            simp [this]) (by repeat (first | exact Nx.refl _ | assumption | apply Nx.alloc | apply Nx.drew | apply Nx.drewN | (refine Nx.setCell ?_ (by first | (simp; done) | (simp; omega) | omega) _) | refine Nx.trans ?_ (by assumption)))
        · have heq : (p != q) = false := by simpa using heq
          go_wp2
          go_quiet (fail)
          go_wp2
          go_roundw
          case rel => exact ⟨k + 1, by omega, by go_num, (by repeat (first | exact Nx.refl _ | assumption | apply Nx.alloc | apply Nx.drew | apply Nx.drewN | (refine Nx.setCell ?_ (by first | (simp; done) | (simp; omega) | omega) _) | refine Nx.trans ?_ (by assumption))), pref_step He.out Ha.out (by rw [Hd.out]; simp at heq; rw [heq])⟩
          case measure => simp [intOf]; omega
      · go_wp2
        go_ret
        exact RetV.bool (by
          have : xs = ys := pref_eq Hlen.out (fun j hj => He.out j (by have := Hlen.out; omega))
          simp [this]) (by repeat (first | exact Nx.refl _ | assumption | apply Nx.alloc | apply Nx.drew | apply Nx.drewN | (refine Nx.setCell ?_ (by first | (simp; done) | (simp; omega) | omega) _) | refine Nx.trans ?_ (by assumption)))
  · have hne : ((xs.length : Int) != (ys.length : Int)) = true := by simp; omega
    have Hlen := Lib.hid hlen
    clear hlen
    go_enter Try.func45, Try.ntmps45
    go_wp2
    go_ret
    exact RetV.bool (by
      have : xs ≠ ys := fun e => Hlen.out (by rw [e])
      simp [this]) (by repeat (first | exact Nx.refl _ | assumption | apply Nx.alloc | apply Nx.drew | apply Nx.drewN | (refine Nx.setCell ?_ (by first | (simp; done) | (simp; omega) | omega) _) | refine Nx.trans ?_ (by assumption)))


end Go.Proofs.Ytjchabeiaajgiaa
/- Contracts: dyEdges. -/
namespace Go.Proofs.Ytjchabeiaajgiaa
open Go.RowKit

set_option maxRecDepth 100000 in
set_option maxHeartbeats 1000000 in
theorem dyEdges_c (A A' : Option Addr) (c c' : Nat) (xs ys : List (Int × Int)) (w : World) (hx : EdgesAt w A xs) (hy : EdgesAt w A' ys) (hl : xs.length ≤ 1048576) (hl' : ys.length ≤ 1048576) :
    Calls Try.prog 33 #[.slice A xs.length c, .slice A' ys.length c'] w (RetV (.bool (decide (xs = ys))) w) := by
  by_cases hlen : xs.length = ys.length
  · have hne : ((xs.length : Int) != (ys.length : Int)) = false := by simp [hlen]
    have Hlen := Lib.hid hlen
    clear hlen
    go_enter Try.func33, Try.ntmps33
    go_wp2
    go_loopw [5] (fun i wr => ∃ k : Nat, k ≤ xs.length ∧ i = .int .i64 k ∧ Nx w wr ∧ ∀ j, j < k → xs[j]? = ys[j]?) (fun i _ => xs.length - (intOf i).toNat)
    case atStart => exact ⟨0, by omega, rfl, Nx.refl _, fun j hj => by omega⟩
    case round =>
      obtain ⟨k, hk, rfl, hn, he⟩ := hrel
      have He := Lib.hid he
      clear he
      by_cases hlt : k < xs.length
      · have hlt' : k < ys.length := by have := Hlen.out; omega
        obtain ⟨b, off, rfl, hb, hc⟩ := hx (by omega)
        obtain ⟨b', off', rfl, hb', hc'⟩ := hy (by omega)
        have h1 := hn.cell (p := ⟨b, off + k * 2, none⟩) hb (hc k hlt).1
        have h2 := hn.cell (p := ⟨b, off + k * 2 + 1, none⟩) hb (hc k hlt).2
        have h3 := hn.cell (p := ⟨b', off' + k * 2, none⟩) hb' (hc' k hlt').1
        have h4 := hn.cell (p := ⟨b', off' + k * 2 + 1, none⟩) hb' (hc' k hlt').2
        have ha : xs[k]? = some xs[k] := List.getElem?_eq_getElem hlt
        have hd : ys[k]? = some ys[k] := List.getElem?_eq_getElem hlt'
        generalize xs[k] = p at *
        generalize ys[k] = q at *
        obtain ⟨p1, p2⟩ := p
        obtain ⟨q1, q2⟩ := q
        have Ha := Lib.hid ha
        have Hd := Lib.hid hd
        clear hx hy hc hc' ha hd
        by_cases e1 : (p1 == q1) = true
        · by_cases e2 : (p2 == q2) = true
          · go_wp2
            go_quiet (fail)
            go_wp2
            go_roundw
            case rel => exact ⟨k + 1, by omega, by go_num, (by repeat (first | exact Nx.refl _ | assumption | apply Nx.alloc | apply Nx.drew | apply Nx.drewN | (refine Nx.setCell ?_ (by first | (simp; done) | (simp; omega) | omega) _) | refine Nx.trans ?_ (by assumption))), pref_step He.out Ha.out (by rw [Hd.out]; simp at e1 e2; rw [e1, e2])⟩
            case measure => simp [intOf]; omega
          · have e2 : (p2 == q2) = false := by simpa using e2
            go_wp2
            go_quiet (fail)
            go_wp2
            go_ret
            exact RetV.bool (by
              have : xs ≠ ys := pref_ne Ha.out Hd.out (fun e => by injection e with a1 a2; simp at e2; exact e2 a2)
              simp [this]) (by repeat (first | exact Nx.refl _ | assumption | apply Nx.alloc | apply Nx.drew | apply Nx.drewN | (refine Nx.setCell ?_ (by first | (simp; done) | (simp; omega) | omega) _) | refine Nx.trans ?_ (by assumption)))
        · have e1 : (p1 == q1) = false := by simpa using e1
          go_wp2
          go_quiet (fail)
          go_wp2
          go_ret
          exact RetV.bool (by
            have : xs ≠ ys := pref_ne Ha.out Hd.out (fun e => by injection e with a1 a2; simp at e1; exact e1 a1)
            simp [this]) (by repeat (first | exact Nx.refl _ | assumption | apply Nx.alloc | apply Nx.drew | apply Nx.drewN | (refine Nx.setCell ?_ (by first | (simp; done) | (simp; omega) | omega) _) | refine Nx.trans ?_ (by assumption)))
      · go_wp2
        go_ret
        exact RetV.bool (by
          have : xs = ys := pref_eq Hlen.out (fun j hj => He.out j (by have := Hlen.out; omega))
          simp [this]) (by repeat (first | exact Nx.refl _ | assumption | apply Nx.alloc | apply Nx.drew | apply Nx.drewN | (refine Nx.setCell ?_ (by first | (simp; done) | (simp; omega) | omega) _) | refine Nx.trans ?_ (by assumption)))
  · have hne : ((xs.length : Int) != (ys.length : Int)) = true := by simp; omega
    have Hlen := Lib.hid hlen
    clear hlen
    go_enter Try.func33, Try.ntmps33
    go_wp2
    go_ret
    exact RetV.bool (by
      have : xs ≠ ys := fun e => Hlen.out (by rw [e])
      simp [this]) (by repeat (first | exact Nx.refl _ | assumption | apply Nx.alloc | apply Nx.drew | apply Nx.drewN | (refine Nx.setCell ?_ (by first | (simp; done) | (simp; omega) | omega) _) | refine Nx.trans ?_ (by assumption)))


end Go.Proofs.Ytjchabeiaajgiaa
/- Contracts: dyHas. -/
namespace Go.Proofs.Ytjchabeiaajgiaa
open Go.RowKit

theorem dyHas_c (A : Option Addr) (c : Nat) (es : List (Int × Int)) (x y : Int) (w : World) (hx : EdgesAt w A es) (hl : es.length ≤ 1048576) :
    Calls Try.prog 37 #[.slice A es.length c, Ed x y] w (RetV (.bool (decide ((x, y) ∈ es))) w) := by
  go_enter Try.func37, Try.ntmps37
  go_wp2
  generalize hW : w.alloc _ = W
  have gn : Nx w W := by subst hW; exact (by repeat (first | exact Nx.refl _ | assumption | apply Nx.alloc | apply Nx.drew | apply Nx.drewN | (refine Nx.setCell ?_ (by first | (simp; done) | (simp; omega) | omega) _) | refine Nx.trans ?_ (by assumption)))
  have gs : w.heap.size < W.heap.size := by subst hW; simp
  have b0 : W.cell? ⟨w.heap.size, 0, none⟩ = some (V x) := by subst hW; go_simp
  have b1 : W.cell? ⟨w.heap.size, 1, none⟩ = some (V y) := by subst hW; go_simp
  clear hW
  go_loopw [5] (fun i wr => ∃ k : Nat, k ≤ es.length ∧ i = .int .i64 k ∧ Nx W wr ∧ ∀ j, j < k → es[j]? ≠ some (x, y)) (fun i _ => es.length - (intOf i).toNat)
  case atStart => exact ⟨0, by omega, rfl, Nx.refl _, fun j hj => by omega⟩
  case round =>
    obtain ⟨k, hk, rfl, hn, hno⟩ := hrel
    have Hno := Lib.hid hno
    clear hno
    have c0 := hn.cell (p := ⟨w.heap.size, 0, none⟩) gs b0
    have c1 := hn.cell (p := ⟨w.heap.size, 1, none⟩) gs b1
    clear b0 b1
    by_cases hlt : k < es.length
    · obtain ⟨b, off, rfl, hb, hc⟩ := hx (by omega)
      have h1 := (gn.trans hn).cell (p := ⟨b, off + k * 2, none⟩) hb (hc k hlt).1
      have h2 := (gn.trans hn).cell (p := ⟨b, off + k * 2 + 1, none⟩) hb (hc k hlt).2
      have hek : es[k]? = some es[k] := List.getElem?_eq_getElem hlt
      generalize es[k] = e at *
      obtain ⟨p, q⟩ := e
      have Hek := Lib.hid hek
      clear hc hx hek
      by_cases e1 : (p == x) = true
      · by_cases e2 : (q == y) = true
        · go_wp2
          go_quiet (fail)
          go_wp2
          go_ret
          exact RetV.bool (by
            have : (x, y) ∈ es := List.mem_of_getElem? (i := k) (by rw [Hek.out]; simp at e1 e2; rw [e1, e2])
            simp [this]) (by repeat (first | exact Nx.refl _ | assumption | apply Nx.alloc | apply Nx.drew | apply Nx.drewN | (refine Nx.setCell ?_ (by first | (simp; done) | (simp; omega) | omega) _) | refine Nx.trans ?_ (by assumption)))
        · have e2 : (q == y) = false := by simpa using e2
          go_wp2
          go_quiet (fail)
          go_wp2
          go_roundw
          case rel => exact ⟨k + 1, by omega, by go_num, (by repeat (first | exact Nx.refl _ | assumption | apply Nx.alloc | apply Nx.drew | apply Nx.drewN | (refine Nx.setCell ?_ (by first | (simp; done) | (simp; omega) | omega) _) | refine Nx.trans ?_ (by assumption))), ne_step Hno.out Hek.out (by simp at e2; simp [e2])⟩
          case measure => simp [intOf]; omega
      · have e1 : (p == x) = false := by simpa using e1
        go_wp2
        go_quiet (fail)
        go_wp2
        go_roundw
        case rel => exact ⟨k + 1, by omega, by go_num, (by repeat (first | exact Nx.refl _ | assumption | apply Nx.alloc | apply Nx.drew | apply Nx.drewN | (refine Nx.setCell ?_ (by first | (simp; done) | (simp; omega) | omega) _) | refine Nx.trans ?_ (by assumption))), ne_step Hno.out Hek.out (by simp at e1; simp [e1])⟩
        case measure => simp [intOf]; omega
    · go_wp2
      go_ret
      exact RetV.bool (by
        have : (x, y) ∉ es := fun hm => by
          obtain ⟨j, hj⟩ := List.mem_iff_getElem?.1 hm
          exact Hno.out j (by have := (List.getElem?_eq_some_iff.1 hj).1; omega) hj
        simp [this]) (by repeat (first | exact Nx.refl _ | assumption | apply Nx.alloc | apply Nx.drew | apply Nx.drewN | (refine Nx.setCell ?_ (by first | (simp; done) | (simp; omega) | omega) _) | refine Nx.trans ?_ (by assumption)))
end Go.Proofs.Ytjchabeiaajgiaa
/- Contract: dyIn. -/
namespace Go.Proofs.Ytjchabeiaajgiaa
open Go.RowKit set_option linter.unusedVariables false set_option linter.unusedSimpArgs false

set_option maxRecDepth 100000 in
set_option maxHeartbeats 2000000 in
theorem dyIn_c (A : Option Addr) (c n : Nat) (xs : List Int) (x : Int) (w : World) (hn : xs.length = n) (hx : IntsAt w A xs) (hl : n ≤ 1048576) :
    Calls Try.prog 28 #[.slice A n c, V x] w (RetS (.bool (decide (x ∈ xs))) w) := by
  subst hn
  go_enter Try.func28, Try.ntmps28
  go_wp2
  go_loopg [5] xs.length (fun gk i wr => ∃ k : Nat, k + gk = xs.length ∧ i = .int .i64 k ∧ w = wr ∧ x ∉ xs.take k)
  case atStart => exact ⟨0, by omega, rfl, rfl, by simp⟩
  case round =>
    obtain ⟨k, hk, rfl, rfl, hno⟩ := hrel
    have Hno := Lib.hid hno
    clear hno
    by_cases hlt : k < xs.length
    · obtain ⟨z, hek⟩ : ∃ x, xs[k]? = some x := ⟨_, List.getElem?_eq_getElem hlt⟩
      obtain ⟨b, off, rfl, hbl, h1⟩ := hx.rd hek
      have Hek := Lib.hid hek
      clear hek hx
      by_cases hq : (z == x) = true
      · go_wp2_with fail
        go_ret
        exact RetS.bool (by simp at hq; subst hq; simp [List.mem_of_getElem? Hek.out])
      · have hq : (z == x) = false := by simpa using hq
        go_wp2_with fail
        go_roundg (gk - 1)
        case measure => omega
        case rel =>
          refine ⟨k + 1, by omega, by go_num, rfl, ?_⟩
          rw [List.take_add_one, Hek.out]
          simp at hq
          simp [Hno.out]
          exact fun h => hq h.symm
    · have he : xs.take k = xs := List.take_of_length_le (by omega)
      have Hno2 := Lib.hid (he ▸ Hno.out)
      clear he
      go_wp2
      go_ret
      exact RetS.bool (by simp [Hno2.out])
end Go.Proofs.Ytjchabeiaajgiaa
