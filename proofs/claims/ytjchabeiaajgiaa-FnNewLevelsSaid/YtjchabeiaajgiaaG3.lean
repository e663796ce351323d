/- Contracts: sizes, copies and comparisons that the exact laws use, over graphs; l1Find. -/
import Derived.Test.YtjchabeiaajgiaaG2
import Derived.Test.YtjchabeiaajgiaaE0
import Derived.Test.YtjchabeiaajgiaaM
namespace Go.Proofs.Ytjchabeiaajgiaa
open Go.RowKit

/-- what is left of a size -/
def szL (n : Nat) (left : Int) : Int := if left - n < 0 then -1 else left - n
theorem szL_ok {n : Nat} {left : Int} (h : ¬ szL n left < 0) : (n : Int) ≤ left ∧ 0 ≤ szL n left ∧ szL n left ≤ left := by
  unfold szL at *
  split at h
  · omega
  · rename_i h1; rw [if_neg h1]; omega
theorem szEdgeS_c (A : Option Addr) (n c : Nat) (left : Int) (w : World) (hl : 0 ≤ left) (hl' : left ≤ 1048576) (hn : n ≤ 9223372036854775807) :
    Calls Try.prog 66 #[.slice A n c, V left] w (RetS (V (szL n left)) w) := by
  by_cases h : left - n < 0
  · rw [show szL n left = -1 by simp [szL, h]]
    go_enter Try.func66, Try.ntmps66
    go_wp2
    go_ret
    exact RetS.int rfl
  · rw [show szL n left = left - n by simp [szL, h]]
    go_enter Try.func66, Try.ntmps66
    go_wp2
    go_ret
    exact RetS.int rfl
theorem szGraph_c (m : Int) (A : Option Addr) (n c : Nat) (left : Int) (w : World) (hl : 0 ≤ left) (hl' : left ≤ 1048576) (hn : n ≤ 9223372036854775807) :
    Calls Try.prog 17 #[.agg #[V m, .slice A n c], V left] w (RetV (V (szL n left)) w) := by
  by_cases h : left - n < 0
  · have e : szL n left = -1 := by simp [szL, h]
    have e' := szEdgeS_c A n c left
    rw [e] at e' ⊢
    have E' := Lib.hid e'
    clear e e'
    go_enter Try.func17, Try.ntmps17
    go_wp2_with (go_at_call 66; go_must (refine (E'.out _ hl hl' hn).mono ?_; rintro e w_ ⟨rfl, rfl⟩))
    go_ret
    exact RetV.int rfl (by repeat (first | exact Nx.refl _ | assumption | apply Nx.alloc | apply Nx.drew | apply Nx.drewN | (refine Nx.setCell ?_ (by first | (simp; done) | (simp; omega) | omega) _) | refine Nx.trans ?_ (by assumption)))
  · have e : szL n left = left - n := by simp [szL, h]
    have e' := szEdgeS_c A n c left
    rw [e] at e' ⊢
    have E' := Lib.hid e'
    clear e e'
    go_enter Try.func17, Try.ntmps17
    go_wp2_with (go_at_call 66; go_must (refine (E'.out _ hl hl' hn).mono ?_; rintro e w_ ⟨rfl, rfl⟩))
    go_ret
    exact RetV.int rfl (by repeat (first | exact Nx.refl _ | assumption | apply Nx.alloc | apply Nx.drew | apply Nx.drewN | (refine Nx.setCell ?_ (by first | (simp; done) | (simp; omega) | omega) _) | refine Nx.trans ?_ (by assumption)))

theorem toEdge_c (x y : Int) (w : World) : Calls Try.prog 110 #[Ed x y] w (RetV (Ed x y) w) := by
  go_enter Try.func110, Try.ntmps110
  go_wp2
  refine bodyPost_ret (v := Ed x y) (by simp [results, Try.f110, go_sem, *]) rfl ?_
  exact RetV.mk rfl (by repeat (first | exact Nx.refl _ | assumption | apply Nx.alloc | apply Nx.drew | apply Nx.drewN | (refine Nx.setCell ?_ (by first | (simp; done) | (simp; omega) | omega) _) | refine Nx.trans ?_ (by assumption)))

/-- the call returns a row of edges of its own -/
def RetE (t : TypeId) (es : List (Int × Int)) (w : World) (e : Ending) (w' : World) : Prop :=
  ∃ A c, e = .returned (.slice A es.length c) ∧ OwnE w' w.heap.size t A c es ∧ Nx w w'
/-- .. of numbers -/
def RetI (t : TypeId) (xs : List Int) (w : World) (e : Ending) (w' : World) : Prop :=
  ∃ A c, e = .returned (.slice A xs.length c) ∧ OwnI w' w.heap.size t A c xs ∧ Nx w w'

theorem infoE : (Try.prog.info? 36).map (fun i => (i.zero, i.size, i.bytes)) = some (some (.agg #[.int .i64 0, .int .i64 0]), 2, 16) := by kernel_rfl
theorem infoI : (Try.prog.info? 3).map (fun i => (i.zero, i.size, i.bytes)) = some (some (.int .i64 0), 1, 8) := by kernel_rfl

set_option maxHeartbeats 1000000 in
theorem toEdgeS_c (A : Option Addr) (c : Nat) (es : List (Int × Int)) (w : World) (hx : EdgesAt w A es) (hl : es.length ≤ 1048576) :
    Calls Try.prog 69 #[.slice A es.length c] w (RetE 36 es w) := by
  obtain ⟨i0, hi, hz0, hz1, hz2⟩ := info_parts infoE
  have hmk := run_make_rowN (P := Try.prog) 24 36 i0 _ Try.underlying24 hi hz0 .i64 .i64 es.length es.length (Nat.le_refl _) (by rw [hz2]; omega) (by omega)
  rw [hz1] at hmk
  clear hi hz0 hz1 hz2
  go_enter Try.func69, Try.ntmps69
  go_wp2
  have hm := OwnE.made (w := w) (base := w.heap.size) (t := 36) es.length (Nat.le_refl _) (by omega)
  have hnm : Nx w (w.alloc (.cells (madeCells #[V 0, V 0] (es.length * 2)) 36)) := (by repeat (first | exact Nx.refl _ | assumption | apply Nx.alloc | apply Nx.drew | apply Nx.drewN | (refine Nx.setCell ?_ (by first | (simp; done) | (simp; omega) | omega) _) | refine Nx.trans ?_ (by assumption)))
  generalize w.alloc _ = W at *
  go_loopw [4] (fun i wr => ∃ (k : Nat) (xs : List (Int × Int)), k ≤ es.length ∧ i = .int .i64 k ∧ Nx w wr ∧ xs.length = es.length ∧ OwnE wr w.heap.size 36 (some ⟨w.heap.size, 0, none⟩) es.length xs ∧ ∀ j, j < k → xs[j]? = es[j]?) (fun i _ => es.length - (intOf i).toNat)
  case atStart => exact ⟨0, _, by omega, rfl, hnm, by simp, hm, fun j hj => by omega⟩
  case round =>
    obtain ⟨k, xs, hk, rfl, hn, hxl, hown, hxs⟩ := hrel
    have Hxs := Lib.hid hxs
    have Hxl := Lib.hid hxl
    have hxk : k < es.length → k < xs.length := by omega
    clear hxs hxl hm hnm
    by_cases hlt : k < es.length
    · obtain ⟨b, off, rfl, hb, hc⟩ := hx (by omega)
      have h1 := hn.cell (p := ⟨b, off + k * 2, none⟩) hb (hc k hlt).1
      have h2 := hn.cell (p := ⟨b, off + k * 2 + 1, none⟩) hb (hc k hlt).2
      have hek : es[k]? = some es[k] := List.getElem?_eq_getElem hlt
      generalize es[k] = e at *
      obtain ⟨x, y⟩ := e
      have Hek := Lib.hid hek
      clear hc hx hek
      go_wp2_with (go_at_call 110; go_must (refine (toEdge_c x y _).mono ?_; rintro e w1 ⟨rfl, hn1⟩; have ho1 := hown.nx hn1; obtain ⟨c1, c2⟩ := ho1.cell (hxk hlt); have f1 := ho1.free))
      go_roundw
      case rel => exact ⟨k + 1, xs.set k (x, y), by omega, by go_num, (by repeat (first | exact Nx.refl _ | assumption | apply Nx.alloc | apply Nx.drew | apply Nx.drewN | (refine Nx.setCell ?_ (by first | (simp; done) | (simp; omega) | omega) _) | refine Nx.trans ?_ (by assumption))), by rw [List.length_set]; exact Hxl.out, ho1.set k x y, set_pref Hxs.out (hxk hlt) Hek.out⟩
      case measure => simp [intOf]; omega
    · go_wp2
      go_ret
      have hex : xs = es := pref_eq Hxl.out (fun j hj => Hxs.out j (by omega))
      subst hex
      exact ⟨_, _, rfl, hown, hn⟩

/-- the call returns a graph, its row its own -/
def RetG (t : TypeId) (n : Int) (es : List (Int × Int)) (w : World) (e : Ending) (w' : World) : Prop :=
  ∃ A c, e = .returned (.agg #[V n, .slice A es.length c]) ∧ OwnE w' w.heap.size t A c es ∧ Nx w w'

theorem toGraph_c (n : Int) (A : Option Addr) (c : Nat) (es : List (Int × Int)) (w : World) (hx : EdgesAt w A es) (hl : es.length ≤ 1048576) :
    Calls Try.prog 19 #[.agg #[V n, .slice A es.length c]] w (RetG 36 n es w) := by
  go_enter Try.func19, Try.ntmps19
  go_wp2_with (go_at_call 69; go_must (refine (toEdgeS_c A c es _ (hx.nx (by repeat (first | exact Nx.refl _ | assumption | apply Nx.alloc | apply Nx.drew | apply Nx.drewN | (refine Nx.setCell ?_ (by first | (simp; done) | (simp; omega) | omega) _) | refine Nx.trans ?_ (by assumption)))) hl).mono ?_; rintro e w1 ⟨A', c', rfl, ho1, hn1⟩; obtain ⟨hc1, hf1, hz1⟩ := hn1.rules))
  refine bodyPost_ret (v := .agg #[V n, .slice A' es.length c']) (by simp [results, Try.f19, go_sem, *]) rfl ?_
  refine ⟨_, _, rfl, ?_, (by repeat (first | exact Nx.refl _ | assumption | apply Nx.alloc | apply Nx.drew | apply Nx.drewN | (refine Nx.setCell ?_ (by first | (simp; done) | (simp; omega) | omega) _) | refine Nx.trans ?_ (by assumption)))⟩
  exact (((ho1.far (by first | (simp; done) | (simp; omega) | omega) _).far (by first | (simp; done) | (simp; omega) | omega) _).far (by first | (simp; done) | (simp; omega) | omega) _).mono (by first | (simp; done) | (simp; omega) | omega)

theorem pref_ne {α : Type} {xs ys : List α} {k : Nat} {a b : α} (ha : xs[k]? = some a) (hb : ys[k]? = some b) (h : a ≠ b) : xs ≠ ys := fun e => by
  subst e; rw [ha] at hb; injection hb with hb; exact h hb
theorem pref_step {α : Type} {xs ys : List α} {k : Nat} {a : α} (hp : ∀ j, j < k → xs[j]? = ys[j]?) (ha : xs[k]? = some a) (hb : ys[k]? = some a) : ∀ j, j < k + 1 → xs[j]? = ys[j]? := fun j hj => by
  rcases Nat.lt_succ_iff_lt_or_eq.1 hj with h | rfl
  · exact hp j h
  · rw [ha, hb]

set_option maxRecDepth 100000 in
set_option maxHeartbeats 1000000 in
theorem eqEdgeS_c (A A' : Option Addr) (c c' : Nat) (xs ys : List (Int × Int)) (w : World) (hx : EdgesAt w A xs) (hy : EdgesAt w A' ys) (hl : xs.length ≤ 1048576) (hl' : ys.length ≤ 1048576) :
    Calls Try.prog 40 #[.slice A xs.length c, .slice A' ys.length c'] w (RetV (.bool (decide (xs = ys))) w) := by
  by_cases hlen : xs.length = ys.length
  · have hne : ((xs.length : Int) != (ys.length : Int)) = false := by simp [hlen]
    have Hlen := Lib.hid hlen
    clear hlen
    go_enter Try.func40, Try.ntmps40
    go_wp2
    go_loopw [5] (fun i wr => ∃ k : Nat, k ≤ xs.length ∧ i = .int .i64 k ∧ Nx w wr ∧ ∀ j, j < k → xs[j]? = ys[j]?) (fun i _ => xs.length - (intOf i).toNat)
    case atStart => exact ⟨0, by omega, rfl, Nx.refl _, fun j hj => by omega⟩
    case round =>
      obtain ⟨k, hk, rfl, hn, he⟩ := hrel
      have He := Lib.hid he
      clear he
      by_cases hlt : k < xs.length
      · have hlt' : k < ys.length := by have := Hlen.out; omega
        obtain ⟨b, off, rfl, hb, hc⟩ := hx (by omega)
        obtain ⟨b', off', rfl, hb', hc'⟩ := hy (by omega)
        have h1 := hn.cell (p := ⟨b, off + k * 2, none⟩) hb (hc k hlt).1
        have h2 := hn.cell (p := ⟨b, off + k * 2 + 1, none⟩) hb (hc k hlt).2
        have h3 := hn.cell (p := ⟨b', off' + k * 2, none⟩) hb' (hc' k hlt').1
        have h4 := hn.cell (p := ⟨b', off' + k * 2 + 1, none⟩) hb' (hc' k hlt').2
        have hb2 : b < wr.heap.size := Nat.lt_of_lt_of_le hb hn.size
        have hb2' : b' < wr.heap.size := Nat.lt_of_lt_of_le hb' hn.size
        have ha : xs[k]? = some xs[k] := List.getElem?_eq_getElem hlt
        have hd : ys[k]? = some ys[k] := List.getElem?_eq_getElem hlt'
        generalize xs[k] = p at *
        generalize ys[k] = q at *
        obtain ⟨p1, p2⟩ := p
        obtain ⟨q1, q2⟩ := q
        have Ha := Lib.hid ha
        have Hd := Lib.hid hd
        clear hx hy hc hc' ha hd
        by_cases heq : p1 = q1 ∧ p2 = q2
        · have e1 : decide (p1 = q1 ∧ p2 = q2) = true := by simpa using heq
          have Heq := Lib.hid heq
          clear heq
          go_wp2
          (refine tail_quiet 8 (by kernel_rfl) (by kernel_rfl) (fun W2 gW2 => ?_); obtain ⟨hcW2, hfW2, hzW2⟩ := gW2.rules; simp only [List.take_succ_cons, List.take_zero, List.drop_succ_cons, List.drop_zero]; (repeat go_big_quiet_step (fail)); with_reducible refine wpQuiet_nil ?_)
          go_wp2_with (go_at_call 87; go_must (refine (eqEdge_c _ _ _ _ _).mono ?_; rintro e w3 ⟨rfl, hn3⟩; obtain ⟨hc3, hf3, hz3⟩ := hn3.rules))
          go_roundw
          case rel => exact ⟨k + 1, by omega, by go_num, (by repeat (first | exact Nx.refl _ | assumption | apply Nx.alloc | apply Nx.drew | apply Nx.drewN | (refine Nx.setCell ?_ (by first | (simp; done) | (simp; omega) | omega) _) | refine Nx.trans ?_ (by assumption))), pref_step He.out Ha.out (by rw [Hd.out, Heq.out.1, Heq.out.2])⟩
          case measure => simp [intOf]; omega
        · have e1 : decide (p1 = q1 ∧ p2 = q2) = false := by simpa using heq
          have Heq := Lib.hid heq
          clear heq
          go_wp2
          (refine tail_quiet 8 (by kernel_rfl) (by kernel_rfl) (fun W2 gW2 => ?_); obtain ⟨hcW2, hfW2, hzW2⟩ := gW2.rules; simp only [List.take_succ_cons, List.take_zero, List.drop_succ_cons, List.drop_zero]; (repeat go_big_quiet_step (fail)); with_reducible refine wpQuiet_nil ?_)
          go_wp2_with (go_at_call 87; go_must (refine (eqEdge_c _ _ _ _ _).mono ?_; rintro e w3 ⟨rfl, hn3⟩; obtain ⟨hc3, hf3, hz3⟩ := hn3.rules))
          go_ret
          exact RetV.bool (by
            have : xs ≠ ys := pref_ne Ha.out Hd.out (fun e => Heq.out (by simpa using e))
            simp [this]) (by repeat (first | exact Nx.refl _ | assumption | apply Nx.alloc | apply Nx.drew | apply Nx.drewN | (refine Nx.setCell ?_ (by first | (simp; done) | (simp; omega) | omega) _) | refine Nx.trans ?_ (by assumption)))
      · go_wp2
        go_ret
        exact RetV.bool (by
          have : xs = ys := pref_eq Hlen.out (fun j hj => He.out j (by have := Hlen.out; omega))
          simp [this]) (by repeat (first | exact Nx.refl _ | assumption | apply Nx.alloc | apply Nx.drew | apply Nx.drewN | (refine Nx.setCell ?_ (by first | (simp; done) | (simp; omega) | omega) _) | refine Nx.trans ?_ (by assumption)))
  · have hne : ((xs.length : Int) != (ys.length : Int)) = true := by simp; omega
    have Hlen := Lib.hid hlen
    clear hlen
    go_enter Try.func40, Try.ntmps40
    go_wp2
    go_ret
    exact RetV.bool (by
      have : xs ≠ ys := fun e => Hlen.out (by rw [e])
      simp [this]) (by repeat (first | exact Nx.refl _ | assumption | apply Nx.alloc | apply Nx.drew | apply Nx.drewN | (refine Nx.setCell ?_ (by first | (simp; done) | (simp; omega) | omega) _) | refine Nx.trans ?_ (by assumption)))

theorem eqGraph_c (n m : Int) (A A' : Option Addr) (c c' : Nat) (xs ys : List (Int × Int)) (w : World) (hx : EdgesAt w A xs) (hy : EdgesAt w A' ys) (hl : xs.length ≤ 1048576) (hl' : ys.length ≤ 1048576) :
    Calls Try.prog 22 #[.agg #[V n, .slice A xs.length c], .agg #[V m, .slice A' ys.length c']] w (RetV (.bool (decide (n = m ∧ xs = ys))) w) := by
  by_cases hnm : (n != m) = true
  · go_enter Try.func22, Try.ntmps22
    go_wp2
    go_ret
    exact RetV.bool (by simp at hnm; simp [hnm]) (by repeat (first | exact Nx.refl _ | assumption | apply Nx.alloc | apply Nx.drew | apply Nx.drewN | (refine Nx.setCell ?_ (by first | (simp; done) | (simp; omega) | omega) _) | refine Nx.trans ?_ (by assumption)))
  · have hnm : (n != m) = false := by simpa using hnm
    have e : decide (n = m ∧ xs = ys) = decide (xs = ys) := by simp at hnm; simp [hnm]
    by_cases h : xs = ys
    · have e1 : decide (xs = ys) = true := by simpa using h
      rw [e, e1]
      clear e h
      go_enter Try.func22, Try.ntmps22
      go_wp2_with (go_at_call 40; go_must (refine (eqEdgeS_c A A' c c' xs ys _ (hx.nx (by repeat (first | exact Nx.refl _ | assumption | apply Nx.alloc | apply Nx.drew | apply Nx.drewN | (refine Nx.setCell ?_ (by first | (simp; done) | (simp; omega) | omega) _) | refine Nx.trans ?_ (by assumption)))) (hy.nx (by repeat (first | exact Nx.refl _ | assumption | apply Nx.alloc | apply Nx.drew | apply Nx.drewN | (refine Nx.setCell ?_ (by first | (simp; done) | (simp; omega) | omega) _) | refine Nx.trans ?_ (by assumption)))) hl hl').mono ?_; rintro e w1 ⟨rfl, hn1⟩; obtain ⟨hc1, hf1, hz1⟩ := hn1.rules))
      go_ret
      exact RetV.bool rfl (by repeat (first | exact Nx.refl _ | assumption | apply Nx.alloc | apply Nx.drew | apply Nx.drewN | (refine Nx.setCell ?_ (by first | (simp; done) | (simp; omega) | omega) _) | refine Nx.trans ?_ (by assumption)))
    · have e1 : decide (xs = ys) = false := by simpa using h
      rw [e, e1]
      clear e h
      go_enter Try.func22, Try.ntmps22
      go_wp2_with (go_at_call 40; go_must (refine (eqEdgeS_c A A' c c' xs ys _ (hx.nx (by repeat (first | exact Nx.refl _ | assumption | apply Nx.alloc | apply Nx.drew | apply Nx.drewN | (refine Nx.setCell ?_ (by first | (simp; done) | (simp; omega) | omega) _) | refine Nx.trans ?_ (by assumption)))) (hy.nx (by repeat (first | exact Nx.refl _ | assumption | apply Nx.alloc | apply Nx.drew | apply Nx.drewN | (refine Nx.setCell ?_ (by first | (simp; done) | (simp; omega) | omega) _) | refine Nx.trans ?_ (by assumption)))) hl hl').mono ?_; rintro e w1 ⟨rfl, hn1⟩; obtain ⟨hc1, hf1, hz1⟩ := hn1.rules))
      go_ret
      exact RetV.bool rfl (by repeat (first | exact Nx.refl _ | assumption | apply Nx.alloc | apply Nx.drew | apply Nx.drewN | (refine Nx.setCell ?_ (by first | (simp; done) | (simp; omega) | omega) _) | refine Nx.trans ?_ (by assumption)))
end Go.Proofs.Ytjchabeiaajgiaa
