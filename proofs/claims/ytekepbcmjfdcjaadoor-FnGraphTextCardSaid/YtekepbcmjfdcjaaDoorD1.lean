/- Contract: l1Put: an edge put into a row. -/
import Derived.Test.YtekepbcmjfdcjaaDoorG4
import Derived.Test.YtekepbcmjfdcjaaDoorH
import Derived.Deep.Cut
namespace Go.Proofs.YtekepbcmjfdcjaaDoor
open Go.RowKit

/-- e is put in front of the first greater one -/
def putL : List (Int × Int) → Int × Int → List (Int × Int)
  | [], e => [e]
  | x :: xs, e => if ltE e x then e :: x :: xs else x :: putL xs e
theorem putL_no : ∀ (l : List (Int × Int)) (e : Int × Int), (∀ y ∈ l, ¬ ltE e y) → putL l e = l ++ [e]
  | [], _, _ => rfl
  | x :: xs, e, h => by rw [putL, if_neg (h x (by simp)), putL_no xs e (fun y hy => h y (by simp [hy]))]; rfl
theorem putL_new : ∀ (l : List (Int × Int)) (e x : Int × Int), (∀ y ∈ l, ¬ ltE e y) → ltE e x → putL (l ++ [x]) e = l ++ [e] ++ [x]
  | [], e, x, _, h => by simp [putL, h]
  | z :: l, e, x, h, hx => by
    rw [List.cons_append, putL, if_neg (h z (by simp)), putL_new l e x (fun y hy => h y (by simp [hy])) hx]; rfl
theorem putL_old : ∀ (l : List (Int × Int)) (e x : Int × Int), (∃ y ∈ l, ltE e y) → putL (l ++ [x]) e = putL l e ++ [x]
  | [], e, x, h => by simp at h
  | z :: l, e, x, h => by
    rw [List.cons_append, putL, putL]
    by_cases hz : ltE e z
    · rw [if_pos hz, if_pos hz]; rfl
    · rw [if_neg hz, if_neg hz, putL_old l e x (by obtain ⟨y, hy, h2⟩ := h; simp at hy; rcases hy with rfl | hy; exact absurd h2 hz; exact ⟨y, hy, h2⟩)]; rfl
theorem putL_length : ∀ (l : List (Int × Int)) (e : Int × Int), (putL l e).length = l.length + 1
  | [], _ => rfl
  | x :: xs, e => by rw [putL]; split <;> simp [putL_length xs e]
theorem putL_mem : ∀ (l : List (Int × Int)) (e y : Int × Int), y ∈ putL l e ↔ y = e ∨ y ∈ l
  | [], e, y => by simp [putL]
  | x :: xs, e, y => by
    rw [putL]
    split
    · simp
    · simp [putL_mem xs e y, or_left_comm]

/-- where the loop stands behind the front l -/
def PutSt (l : List (Int × Int)) (e : Int × Int) (d : Bool) (ys : List (Int × Int)) : Prop :=
  (d = true → (∃ y ∈ l, ltE e y) ∧ ys = putL l e) ∧ (d = false → (∀ y ∈ l, ¬ ltE e y) ∧ ys = l)
theorem PutSt.zero (e : Int × Int) : PutSt [] e false [] := ⟨by simp, by simp⟩
theorem PutSt.old {l : List (Int × Int)} {e x : Int × Int} {ys : List (Int × Int)} (h : PutSt l e true ys) : PutSt (l ++ [x]) e true (ys ++ [x]) := by
  obtain ⟨⟨y, hy, hl⟩, rfl⟩ := h.1 rfl
  exact ⟨fun _ => ⟨⟨y, by simp [hy], hl⟩, (putL_old l e x ⟨y, hy, hl⟩).symm⟩, by simp⟩
theorem PutSt.new {l : List (Int × Int)} {e x : Int × Int} {ys : List (Int × Int)} (h : PutSt l e false ys) (hx : ltE e x) : PutSt (l ++ [x]) e true (ys ++ [e] ++ [x]) := by
  obtain ⟨h1, rfl⟩ := h.2 rfl
  exact ⟨fun _ => ⟨⟨x, by simp, hx⟩, (putL_new _ e x h1 hx).symm⟩, by simp⟩
theorem PutSt.not {l : List (Int × Int)} {e x : Int × Int} {ys : List (Int × Int)} (h : PutSt l e false ys) (hx : ¬ ltE e x) : PutSt (l ++ [x]) e false (ys ++ [x]) := by
  obtain ⟨h1, rfl⟩ := h.2 rfl
  exact ⟨by simp, fun _ => ⟨fun y hy => by simp at hy; rcases hy with hy | rfl; exact h1 y hy; exact hx, rfl⟩⟩
theorem PutSt.done {l : List (Int × Int)} {e : Int × Int} {ys : List (Int × Int)} (h : PutSt l e true ys) : ys = putL l e := (h.1 rfl).2
theorem PutSt.last {l : List (Int × Int)} {e : Int × Int} {ys : List (Int × Int)} (h : PutSt l e false ys) : ys ++ [e] = putL l e := by
  obtain ⟨h1, rfl⟩ := h.2 rfl
  exact (putL_no _ e h1).symm
theorem take_snoc {es : List (Int × Int)} {k : Nat} {x : Int × Int} (h : es[k]? = some x) : es.take (k + 1) = es.take k ++ [x] := by
  rw [List.take_add_one, h]; rfl

set_option maxRecDepth 100000 in
set_option maxHeartbeats 4000000 in
theorem l1Put_c (A : Option Addr) (c : Nat) (es : List (Int × Int)) (u v : Int) (w : World) (hx : EdgesAt w A es) (hl : es.length ≤ 1048576) :
    Calls Tryd.prog 49 #[.slice A es.length c, Ed u v] w (RetE 41 (putL es (u, v)) w) := by
  obtain ⟨i0, hi, hz0, hz1, hz2⟩ := info_parts infoE
  have Hi := Lib.hid hi
  have Hz0 := Lib.hid hz0
  have Hz1 := Lib.hid hz1
  have Hz2 := Lib.hid hz2
  clear hi hz0 hz1 hz2
  go_enter Tryd.func49, Tryd.ntmps49
  go_wp2
  generalize hW0 : World.alloc w _ = W0
  have gn0 : Nx w W0 := by subst hW0; exact (by repeat (first | exact Nx.refl _ | assumption | apply Nx.alloc | apply Nx.drew | apply Nx.drewN | (refine Nx.setCell ?_ (by first | (simp; done) | (simp; omega) | omega) _) | refine Nx.trans ?_ (by assumption)))
  have gs0 : w.heap.size < W0.heap.size := by subst hW0; simp
  have b0 : W0.cell? ⟨w.heap.size, 0, none⟩ = some (V u) := by subst hW0; go_simp
  have b1 : W0.cell? ⟨w.heap.size, 1, none⟩ = some (V v) := by subst hW0; go_simp
  have hx0 := hx.nx gn0
  have ho0 := OwnE.empty W0 W0.heap.size 41 (Nat.le_refl _)
  rw [show w.heap.size + 1 = W0.heap.size by subst hW0; simp]
  clear hW0 hx
  go_loopg [5, 6, 7] es.length (fun gk out dn i wr => ∃ (k m : Nat) (d : Bool) (A' : Option Addr) (c' : Nat) (ys : List (Int × Int)), k + gk = es.length ∧ i = .int .i64 k ∧ dn = .bool d ∧ out = .slice A' m c' ∧ ys.length = m ∧ m ≤ k + 1 ∧ OwnE wr W0.heap.size 41 A' c' ys ∧ Nx W0 wr ∧ PutSt (es.take k) (u, v) d ys)
  case atStart => exact ⟨0, 0, false, _, 0, [], by omega, rfl, rfl, rfl, rfl, by omega, ho0, (by repeat (first | exact Nx.refl _ | assumption | apply Nx.alloc | apply Nx.drew | apply Nx.drewN | (refine Nx.setCell ?_ (by first | (simp; done) | (simp; omega) | omega) _) | refine Nx.trans ?_ (by assumption))), PutSt.zero _⟩
  case round =>
    obtain ⟨k, m, d, A', c', ys, hk, rfl, rfl, rfl, hym, hm, hown, hn, hst⟩ := hrel
    have c0 := hn.cell (p := ⟨w.heap.size, 0, none⟩) gs0 b0
    have c1 := hn.cell (p := ⟨w.heap.size, 1, none⟩) gs0 b1
    have hsz := hn.size
    have hwz : w.heap.size < wr.heap.size := by omega
    have Hst := Lib.hid hst
    have Hym := Lib.hid hym
    have Hown := Lib.hid hown
    clear hst hym hown
    have hrest := Lib.hid hx0
    by_cases hlt : k < es.length
    · have hek : es[k]? = some es[k] := List.getElem?_eq_getElem hlt
      obtain ⟨b, off, rfl, hbW, hd1, hd2⟩ := hx0.rd hek
      have hc1 := hn.cell hbW hd1
      have hc2 := hn.cell hbW hd2
      have hb0 : b < wr.heap.size := by omega
      generalize es[k] = x at *
      obtain ⟨x1, x2⟩ := x
      have Hek := Lib.hid hek
      clear hek hx0 ho0
      cases d with
      | true =>
        go_wp2_with fail
        (refine tail_quiet 8 (by kernel_rfl) (by kernel_rfl) (fun W2 gW2 => ?_); obtain ⟨hcW2, hfW2, hzW2⟩ := gW2.rules; simp only [List.take_succ_cons, List.take_zero, List.drop_succ_cons, List.drop_zero]; (repeat go_big_quiet_step (fail)); with_reducible refine wpQuiet_nil ?_)
        go_wp2_with (at_builtin; go_must (refine appE (base := W0.heap.size) (t := 41) ys W2.heap.size x1 x2 rfl rfl Tryd.underlying22 Hi.out Hz0.out Hz1.out Hz2.out rfl (by rw [Hym.out]; rfl) (Hown.out.nx (by repeat (first | exact Nx.refl _ | assumption | apply Nx.alloc | apply Nx.drew | apply Nx.drewN | (refine Nx.setCell ?_ (by first | (simp; done) | (simp; omega) | omega) _) | refine Nx.trans ?_ (by assumption)))) rfl (by go_simp) (by go_simp) (by rw [Hym.out]; omega) (by simp; omega) ?_; intro A2 c2 w2 hown2 hnx2 _ _))
        go_roundg (gk - 1)
        case measure => omega
        case rel => exact ⟨k + 1, _, true, A2, c2, _, by omega, by go_num, rfl, rfl, by simp, by rw [Hym.out]; omega, hown2, hnx2 W0 (Nat.le_refl _) (by repeat (first | exact Nx.refl _ | assumption | apply Nx.alloc | apply Nx.drew | apply Nx.drewN | (refine Nx.setCell ?_ (by first | (simp; done) | (simp; omega) | omega) _) | refine Nx.trans ?_ (by assumption))), by rw [take_snoc Hek.out]; exact PutSt.old Hst.out⟩
      | false =>
        have hmk : m ≤ k := by have h := (Hst.out.2 rfl).2; rw [← Hym.out, h]; simp; omega
        by_cases hlx : ltE (u, v) (x1, x2)
        · have t6 : decide (ltE (u, v) (x1, x2)) = true := by simpa using hlx
          go_wp2_with fail
          (refine tail_quiet 8 (by kernel_rfl) (by kernel_rfl) (fun W2 gW2 => ?_); obtain ⟨hcW2, hfW2, hzW2⟩ := gW2.rules; simp only [List.take_succ_cons, List.take_zero, List.drop_succ_cons, List.drop_zero]; (repeat go_big_quiet_step (fail)); with_reducible refine wpQuiet_nil ?_)
          go_wp2_with fail
          refine (l1Less_c u v x1 x2 _).mono ?_
          rintro e w3 ⟨rfl, hn3⟩
          obtain ⟨hc3, hf3, hz3⟩ := hn3.rules
          have hz20 : w.heap.size < W2.heap.size := by omega
          have hb20 : b < W2.heap.size := by omega
          have hz30 : w.heap.size < w3.heap.size := by omega
          have hb30 : b < w3.heap.size := by omega
          go_upto_region 9 with (at_builtin; go_must (refine appE (base := W0.heap.size) (t := 41) ys w3.heap.size u v rfl rfl Tryd.underlying22 Hi.out Hz0.out Hz1.out Hz2.out rfl (by rw [Hym.out]; rfl) (Hown.out.nx (by repeat (first | exact Nx.refl _ | assumption | apply Nx.alloc | apply Nx.drew | apply Nx.drewN | (refine Nx.setCell ?_ (by first | (simp; done) | (simp; omega) | omega) _) | refine Nx.trans ?_ (by assumption)))) rfl (by go_simp) (by go_simp) (by rw [Hym.out]; omega) (by simp; omega) ?_; intro A4 c4 w4 hown4 hnx4 _ _))
          have Hx4 : Nx W0 w4 := hnx4 W0 (Nat.le_refl _) (by repeat (first | exact Nx.refl _ | assumption | apply Nx.alloc | apply Nx.drew | apply Nx.drewN | (refine Nx.setCell ?_ (by first | (simp; done) | (simp; omega) | omega) _) | refine Nx.trans ?_ (by assumption)))
          have d1 := Hx4.cell (p := ⟨b, off + k * 2, none⟩) hbW hd1
          have d2 := Hx4.cell (p := ⟨b, off + k * 2 + 1, none⟩) hbW hd2
          have hb4 : b < w4.heap.size := Nat.lt_of_lt_of_le hbW Hx4.size
          have hz40 := Hx4.size
          have Hy4 : Hid ((ys ++ [(u, v)]).length = m + 1) := Lib.hid (by rw [List.length_append, Hym.out]; rfl)
          rw [Hym.out]
          go_wp2_with (at_builtin; go_must (refine appE (base := W0.heap.size) (t := 41) (ys ++ [(u, v)]) w4.heap.size x1 x2 rfl rfl Tryd.underlying22 Hi.out Hz0.out Hz1.out Hz2.out rfl (by rw [Hy4.out]; rfl) (hown4.nx (by repeat (first | exact Nx.refl _ | assumption | apply Nx.alloc | apply Nx.drew | apply Nx.drewN | (refine Nx.setCell ?_ (by first | (simp; done) | (simp; omega) | omega) _) | refine Nx.trans ?_ (by assumption)))) rfl (by go_simp) (by go_simp) (by rw [Hy4.out]; omega) (by simp; omega) ?_; intro A2 c2 w2 hown2 hnx2 _ _))
          go_roundg (gk - 1)
          case measure => omega
          case rel => exact ⟨k + 1, _, true, A2, c2, _, by omega, by go_num, rfl, rfl, by simp, by rw [Hym.out]; omega, hown2, hnx2 W0 (Nat.le_refl _) (by repeat (first | exact Nx.refl _ | assumption | apply Nx.alloc | apply Nx.drew | apply Nx.drewN | (refine Nx.setCell ?_ (by first | (simp; done) | (simp; omega) | omega) _) | refine Nx.trans ?_ (by assumption))), by rw [take_snoc Hek.out]; exact PutSt.new Hst.out hlx⟩
        · have t6 : decide (ltE (u, v) (x1, x2)) = false := by simpa using hlx
          go_wp2_with fail
          (refine tail_quiet 8 (by kernel_rfl) (by kernel_rfl) (fun W2 gW2 => ?_); obtain ⟨hcW2, hfW2, hzW2⟩ := gW2.rules; simp only [List.take_succ_cons, List.take_zero, List.drop_succ_cons, List.drop_zero]; (repeat go_big_quiet_step (fail)); with_reducible refine wpQuiet_nil ?_)
          go_wp2_with fail
          refine (l1Less_c u v x1 x2 _).mono ?_
          rintro e w3 ⟨rfl, hn3⟩
          obtain ⟨hc3, hf3, hz3⟩ := hn3.rules
          have hz20 : w.heap.size < W2.heap.size := by omega
          have hb20 : b < W2.heap.size := by omega
          have hz30 : w.heap.size < w3.heap.size := by omega
          have hb30 : b < w3.heap.size := by omega
          have hb3 : b < w3.heap.size := by omega
          go_wp2_with (at_builtin; go_must (refine appE (base := W0.heap.size) (t := 41) ys w3.heap.size x1 x2 rfl rfl Tryd.underlying22 Hi.out Hz0.out Hz1.out Hz2.out rfl (by rw [Hym.out]; rfl) (Hown.out.nx (by repeat (first | exact Nx.refl _ | assumption | apply Nx.alloc | apply Nx.drew | apply Nx.drewN | (refine Nx.setCell ?_ (by first | (simp; done) | (simp; omega) | omega) _) | refine Nx.trans ?_ (by assumption)))) rfl (by go_simp) (by go_simp) (by rw [Hym.out]; omega) (by simp; omega) ?_; intro A2 c2 w2 hown2 hnx2 _ _))
          go_roundg (gk - 1)
          case measure => omega
          case rel => exact ⟨k + 1, _, false, A2, c2, _, by omega, by go_num, rfl, rfl, by simp, by rw [Hym.out]; omega, hown2, hnx2 W0 (Nat.le_refl _) (by repeat (first | exact Nx.refl _ | assumption | apply Nx.alloc | apply Nx.drew | apply Nx.drewN | (refine Nx.setCell ?_ (by first | (simp; done) | (simp; omega) | omega) _) | refine Nx.trans ?_ (by assumption))), by rw [take_snoc Hek.out]; exact PutSt.not Hst.out hlx⟩
    · cases d with
      | true =>
        go_wp2
        go_ret
        have hkl : k = es.length := by omega
        have he := Hst.out.done
        rw [hkl, List.take_length] at he
        subst he
        exact ⟨A', c', by simp [Hym.out], OwnE.mono Hown.out (by omega), (by repeat (first | exact Nx.refl _ | assumption | apply Nx.alloc | apply Nx.drew | apply Nx.drewN | (refine Nx.setCell ?_ (by first | (simp; done) | (simp; omega) | omega) _) | refine Nx.trans ?_ (by assumption)))⟩
      | false =>
        go_wp2_with (at_builtin; go_must (refine appE (base := W0.heap.size) (t := 41) ys wr.heap.size u v rfl rfl Tryd.underlying22 Hi.out Hz0.out Hz1.out Hz2.out rfl (by rw [Hym.out]; rfl) (Hown.out.nx (by repeat (first | exact Nx.refl _ | assumption | apply Nx.alloc | apply Nx.drew | apply Nx.drewN | (refine Nx.setCell ?_ (by first | (simp; done) | (simp; omega) | omega) _) | refine Nx.trans ?_ (by assumption)))) rfl (by go_simp) (by go_simp) (by rw [Hym.out]; omega) (by simp; omega) ?_; intro A2 c2 w2 hown2 hnx2 _ _))
        go_ret
        have hkl : k = es.length := by omega
        have he := Hst.out.last
        rw [hkl, List.take_length] at he
        rw [he] at hown2
        exact ⟨A2, c2, by rw [← he]; simp [Hym.out], OwnE.mono hown2 (by omega), (hnx2 w (by omega) (by repeat (first | exact Nx.refl _ | assumption | apply Nx.alloc | apply Nx.drew | apply Nx.drewN | (refine Nx.setCell ?_ (by first | (simp; done) | (simp; omega) | omega) _) | refine Nx.trans ?_ (by assumption))))⟩
end Go.Proofs.YtekepbcmjfdcjaaDoor
