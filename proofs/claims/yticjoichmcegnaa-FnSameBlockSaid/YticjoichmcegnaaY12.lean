/- Contracts: rows of rows compared, marked, held; compared by the laws. -/
import Derived.Test.YticjoichmcegnaaY10
import Derived.Test.YticjoichmcegnaaZ
namespace Go.Proofs.Yticjoichmcegnaa
open Go.RowKit set_option linter.unusedVariables false set_option linter.unusedSimpArgs false

theorem RowsAt.rd {w : World} {A : Option Addr} {q : List Row} {k : Nat} {r : Row} (h : RowsAt w A q) (hr : q[k]? = some r) : ∃ b off, A = some ⟨b, off, none⟩ ∧ b < w.heap.size ∧ w.cell? ⟨b, off + k, none⟩ = some (.slice r.1 r.2.2.length r.2.1) ∧ EdgesAt w r.1 r.2.2 := by
  obtain ⟨hk, he⟩ := List.getElem?_eq_some_iff.1 hr
  obtain ⟨b, off, e, hb, hc⟩ := h.1 (by omega)
  exact ⟨b, off, e, hb, by rw [hc k hk, he]; rfl, h.2 r (List.mem_of_getElem? hr)⟩
theorem rowsOf_at {q : List Row} {bs : List Es} (h : rowsOf q = bs) {k : Nat} (hk : k < bs.length) : ∃ A c, q[k]? = some (A, c, bs[k]) := by
  subst h
  have hk' : k < q.length := by rwa [rowsOf_length] at hk
  refine ⟨q[k].1, q[k].2.1, ?_⟩
  rw [List.getElem?_eq_getElem hk']
  simp [rowsOf]

set_option maxRecDepth 100000 in
set_option maxHeartbeats 2000000 in
theorem eqEdgeSS_c (A A' : Option Addr) (c c' : Nat) (q q' : List Row) (xs ys : List Es) (w : World) (hq : rowsOf q = xs) (hq' : rowsOf q' = ys) (hx : RowsAt w A q) (hy : RowsAt w A' q') (hl : xs.length ≤ 1048576) (hl' : ys.length ≤ 1048576)
    (hi : ∀ b ∈ xs, b.length ≤ 1048576) (hi' : ∀ b ∈ ys, b.length ≤ 1048576) :
    Calls Try.prog 54 #[.slice A xs.length c, .slice A' ys.length c'] w (RetV (.bool (decide (xs = ys))) w) := by
  have Hx := Lib.hid hx
  have Hy := Lib.hid hy
  have Hq := Lib.hid hq
  have Hq' := Lib.hid hq'
  have Hi := Lib.hid hi
  have Hi' := Lib.hid hi'
  clear hx hy hi hi' hq hq'
  by_cases hlen : xs.length = ys.length
  · have hne : ((xs.length : Int) != (ys.length : Int)) = false := by simp [hlen]
    have Hlen := Lib.hid hlen
    have hlt0 : ∀ k, k < xs.length → k < ys.length := fun k h => by omega
    have Hlt0 := Lib.hid hlt0
    clear hlen hlt0
    go_enter Try.func54, Try.ntmps54
    go_wp2
    go_loopg [5] xs.length (fun gk i wr => ∃ k : Nat, k + gk = xs.length ∧ i = .int .i64 k ∧ Nx w wr ∧ ∀ j, j < k → xs[j]? = ys[j]?)
    case atStart => exact ⟨0, by omega, rfl, Nx.refl _, fun j hj => by omega⟩
    case round =>
      obtain ⟨k, hk, rfl, hn, he⟩ := hrel
      have He := Lib.hid he
      clear he
      by_cases hlt : k < xs.length
      · have hlt' := Hlt0.out k hlt
        obtain ⟨B1, c1, h1⟩ := rowsOf_at Hq.out hlt
        obtain ⟨B2, c2, h2⟩ := rowsOf_at Hq'.out hlt'
        obtain ⟨b, off, rfl, hb, r1, x1⟩ := (Hx.out.nx hn).rd h1
        obtain ⟨b', off', rfl, hb', r2, x2⟩ := (Hy.out.nx hn).rd h2
        simp only at r1 r2 x1 x2
        have l1 := Hi.out _ (List.getElem_mem hlt)
        have l2 := Hi'.out _ (List.getElem_mem hlt')
        have ha : xs[k]? = some xs[k] := List.getElem?_eq_getElem hlt
        have hd : ys[k]? = some ys[k] := List.getElem?_eq_getElem hlt'
        generalize xs[k] = p at *
        generalize ys[k] = t at *
        have Ha := Lib.hid ha
        have Hd := Lib.hid hd
        clear ha hd h1 h2
        have hc := fun w1 h1 h2 => eqEdgeS_c B1 B2 c1 c2 p t w1 h1 h2 l1 l2
        obtain ⟨bq, hbq⟩ : ∃ bq, decide (p = t) = bq := ⟨_, rfl⟩
        rw [hbq] at hc
        have Hc := Lib.hid hc
        have Hbq := Lib.hid hbq
        clear hc hbq
        have kp : ∀ w', Nx wr w' → Nx wr w' ∧ w'.cell? ⟨b, off + k, none⟩ = some (.slice B1 p.length c1) ∧ w'.cell? ⟨b', off' + k, none⟩ = some (.slice B2 t.length c2) := fun w' h => ⟨h, h.cell hb r1, h.cell hb' r2⟩
        have hdr : Nx wr wr.drew := .drew (.refl _)
        cases bq with
        | true =>
          go_wp2_with fail
          go_region_held3 (fun w_ => Nx wr w_ ∧ w_.cell? ⟨b, off + k, none⟩ = some (.slice B1 p.length c1) ∧ w_.cell? ⟨b', off' + k, none⟩ = some (.slice B2 t.length c2))
            (first | exact kp _ hdr | exact kp _ hn3)
            (first | (go_at_call 91; (with_reducible refine (Hc.out _ (x1.nx hdr) (x2.nx hdr)).mono ?_); rintro e w3 ⟨rfl, hn23⟩; have hn3 : Nx wr w3 := hdr.trans hn23))
          go_wp2
          go_roundg (gk - 1)
          case measure => omega
          case rel => exact ⟨k + 1, by omega, by go_num, hn.trans hn3, pref_step He.out Ha.out (by rw [Hd.out, of_decide_eq_true Hbq.out])⟩
        | false =>
          go_wp2_with fail
          go_region_held3 (fun w_ => Nx wr w_ ∧ w_.cell? ⟨b, off + k, none⟩ = some (.slice B1 p.length c1) ∧ w_.cell? ⟨b', off' + k, none⟩ = some (.slice B2 t.length c2))
            (first | exact kp _ hdr | exact kp _ hn3)
            (first | (go_at_call 91; (with_reducible refine (Hc.out _ (x1.nx hdr) (x2.nx hdr)).mono ?_); rintro e w3 ⟨rfl, hn23⟩; have hn3 : Nx wr w3 := hdr.trans hn23))
          go_wp2
          go_ret
          exact RetV.bool (by
            have : xs ≠ ys := pref_ne Ha.out Hd.out (of_decide_eq_false Hbq.out)
            simp [this]) (hn.trans hn3)
      · go_wp2
        go_ret
        exact RetV.bool (by
          have : xs = ys := pref_eq Hlen.out (fun j hj => He.out j (by have := Hlen.out; omega))
          simp [this]) hn
  · have hne : ((xs.length : Int) != (ys.length : Int)) = true := by simp; omega
    have Hlen := Lib.hid hlen
    clear hlen
    go_enter Try.func54, Try.ntmps54
    go_wp2
    go_ret
    exact RetV.bool (by
      have : xs ≠ ys := fun e => Hlen.out (by rw [e])
      simp [this]) (by repeat (first | exact Nx.refl _ | assumption | apply Nx.alloc | apply Nx.drew | apply Nx.drewN | (refine Nx.setCell ?_ (by first | (simp; done) | (simp; omega) | omega) _) | refine Nx.trans ?_ (by assumption)))

/-- the number of edges in the first rows -/
def sumTo (xs : List Es) (k : Nat) : Nat := ((xs.take k).map List.length).sum
theorem sumTo_zero (xs : List Es) : sumTo xs 0 = 0 := by simp [sumTo]
theorem sumTo_succ {xs : List Es} {k : Nat} {x : Es} (h : xs[k]? = some x) : sumTo xs (k + 1) = sumTo xs k + x.length := by
  obtain ⟨h1, h2⟩ := List.getElem?_eq_some_iff.1 h
  unfold sumTo
  rw [List.take_succ_eq_append_getElem h1, h2]
  simp
theorem sumTo_le {xs : List Es} {B : Nat} (h : ∀ b ∈ xs, b.length ≤ B) : ∀ k, sumTo xs k ≤ k * B
  | 0 => by simp [sumTo_zero]
  | k + 1 => by
    by_cases hk : k < xs.length
    · rw [sumTo_succ (List.getElem?_eq_getElem hk), Nat.succ_mul]
      have := sumTo_le h k
      have := h _ (List.getElem_mem hk)
      omega
    · have : sumTo xs (k + 1) = sumTo xs k := by
        unfold sumTo
        rw [List.take_of_length_le (by omega), List.take_of_length_le (by omega)]
      rw [this, Nat.succ_mul]
      have := sumTo_le h k
      omega
/-- the rows as they are marked -/
def mkQ (k : Int) (q : List Row) : List Row := (List.range q.length).map fun j => ((q[j]?.getD (none, 0, [])).1, (q[j]?.getD (none, 0, [])).2.1, mkE (k + 2 * sumTo (rowsOf q) j) (q[j]?.getD (none, 0, [])).2.2.length)
theorem mkQ_length (k : Int) (q : List Row) : (mkQ k q).length = q.length := by simp [mkQ]
theorem mkQ_get {k : Int} {q : List Row} {j : Nat} {r : Row} (h : q[j]? = some r) : (mkQ k q)[j]? = some (r.1, r.2.1, mkE (k + 2 * sumTo (rowsOf q) j) r.2.2.length) := by
  have hj := (List.getElem?_eq_some_iff.1 h).1
  have he := (List.getElem?_eq_some_iff.1 h).2
  simp [mkQ, hj, h, he]
theorem mkQ_val (k : Int) (q : List Row) : (mkQ k q).map Row.val = q.map Row.val := by
  apply List.ext_getElem?
  intro j
  by_cases hj : j < q.length
  · rw [List.getElem?_map, List.getElem?_map, mkQ_get (List.getElem?_eq_getElem hj), List.getElem?_eq_getElem hj]
    simp [Row.val, mkE_length]
  · rw [List.getElem?_eq_none (by simp [mkQ_length]; omega), List.getElem?_eq_none (by simp; omega)]
/-- is a block one of the rows' -/
def InQ (q : List Row) (k : Nat) : Prop := ∃ r ∈ q, blk r.1 = some k
/-- what the marking of rows leaves -/
def MarkedQ (T t : TypeId) (base : Nat) (A : Option Addr) (c : Nat) (q : List Row) (k : Int) (w : World) (e : Ending) (w' : World) : Prop :=
  e = .returned (V (k + 2 * sumTo (rowsOf q) q.length)) ∧ OwnQ w' base T t A c (mkQ k q) ∧ Gx (InQ q) w w'
/-- the first j rows are marked -/
def MkTo (k : Int) (q : List Row) (j : Nat) : List Row := (mkQ k q).take j ++ q.drop j
theorem mkTo_get_lt {k : Int} {q : List Row} {j i : Nat} (h : i < j) : (MkTo k q j)[i]? = (mkQ k q)[i]? := by
  unfold MkTo
  by_cases hi : i < q.length
  · rw [List.getElem?_append_left (by simp [mkQ_length]; omega), List.getElem?_take_of_lt h]
  · rw [List.getElem?_eq_none (by simp [mkQ_length]; omega), List.getElem?_eq_none (by simp [mkQ_length]; omega)]
theorem mkTo_get_ge {k : Int} {q : List Row} {j i : Nat} (hj : j ≤ q.length) (h : j ≤ i) : (MkTo k q j)[i]? = q[i]? := by
  unfold MkTo
  rw [List.getElem?_append_right (by simp [mkQ_length]; omega)]
  simp [mkQ_length]
  congr 1
  omega
theorem mkTo_length {k : Int} {q : List Row} {j : Nat} : (MkTo k q j).length = q.length := by
  unfold MkTo
  simp [mkQ_length]
  omega
theorem mkTo_step {k : Int} {q : List Row} {j : Nat} {r : Row} (h : q[j]? = some r) : MkTo k q (j + 1) = (MkTo k q j).set j (r.1, r.2.1, mkE (k + 2 * sumTo (rowsOf q) j) r.2.2.length) := by
  have hj := (List.getElem?_eq_some_iff.1 h).1
  apply List.ext_getElem?
  intro i
  rcases Nat.lt_trichotomy i j with hi | hi | hi
  · rw [List.getElem?_set_ne (by omega), mkTo_get_lt (by omega), mkTo_get_lt hi]
  · subst hi
    rw [List.getElem?_set_self (by rw [mkTo_length]; exact hj), mkTo_get_lt (by omega), mkQ_get h]
  · rw [List.getElem?_set_ne (by omega), mkTo_get_ge (by omega) (by omega), mkTo_get_ge (by omega) (by omega)]
theorem mkTo_zero (k : Int) (q : List Row) : MkTo k q 0 = q := by simp [MkTo]
theorem mkTo_all (k : Int) (q : List Row) : MkTo k q q.length = mkQ k q := by
  unfold MkTo
  rw [List.take_of_length_le (by rw [mkQ_length]; exact Nat.le_refl _)]
  simp
theorem apart_flip {a b : Option Nat} (h : a = none ∨ a ≠ b) : b = none ∨ b ≠ a := by
  rcases h with h | h
  · subst h; cases b <;> simp
  · exact .inr (Ne.symm h)
theorem set_getElem {q : List Row} {j i : Nat} {r r' : Row} (h : q[j]? = some r) (h1 : r'.1 = r.1) (hi : i < (q.set j r').length) : ((q.set j r')[i]).1 = (q[i]'(by simpa using hi)).1 := by
  rw [List.getElem_set]
  split
  · rename_i e
    subst e
    rw [h1, (List.getElem?_eq_some_iff.1 h).2]
  · rfl
theorem OwnQ.mark {w w' : World} {base : Nat} {T t : TypeId} {A : Option Addr} {c : Nat} {q : List Row} {j : Nat} {r : Row} {es' : Es} (h : OwnQ w base T t A c q) (hr : q[j]? = some r) (hg : w.grownBy w' (blk r.1))
    (ho : OwnE w' base t r.1 r.2.1 es') (hl : es'.length = r.2.2.length) : OwnQ w' base T t A c (q.set j (r.1, r.2.1, es')) := by
  obtain ⟨hj, hre⟩ := List.getElem?_eq_some_iff.1 hr
  have hrm := List.mem_of_getElem? hr
  have hsl : (q.set j (r.1, r.2.1, es')).length = q.length := by simp
  refine ⟨?_, fun s hs => ?_, ?_, fun s hs => ?_⟩
  · have e : (q.set j (r.1, r.2.1, es')).map Row.val = q.map Row.val := by
      rw [List.map_set]
      apply List.ext_getElem?
      intro i
      by_cases e : j = i
      · subst e
        rw [List.getElem?_set_self (by simpa using hj), List.getElem?_map, hr]
        simp [Row.val, hl]
      · rw [List.getElem?_set_ne e]
    rw [e]
    exact h.1.kept hg (h.2.2.2 r hrm)
  · obtain ⟨i, hi, rfl⟩ := List.mem_iff_getElem.1 hs
    rw [List.getElem_set]
    split
    · exact ho
    · rename_i hij
      have hi' : i < q.length := by simpa using hi
      refine (h.2.1 _ (List.getElem_mem hi')).kept hg ?_
      have hp := List.pairwise_iff_getElem.1 h.2.2.1
      rcases Nat.lt_or_gt_of_ne hij with hlt | hlt
      · have := hp j i hj hi' hlt
        rw [hre] at this
        exact apart_flip this
      · have := hp i j hi' hj hlt
        rw [hre] at this
        exact this
  · rw [List.pairwise_iff_getElem]
    intro i k hi hk hik
    rw [set_getElem (r' := (r.1, r.2.1, es')) hr rfl, set_getElem (r' := (r.1, r.2.1, es')) hr rfl]
    exact List.pairwise_iff_getElem.1 h.2.2.1 i k (by simpa using hi) (by simpa using hk) hik
  · obtain ⟨i, hi, rfl⟩ := List.mem_iff_getElem.1 hs
    rw [set_getElem (r' := (r.1, r.2.1, es')) hr rfl]
    exact h.2.2.2 _ (List.getElem_mem _)

set_option maxRecDepth 100000 in
set_option maxHeartbeats 2000000 in
theorem markEdgeSS_c (T t : TypeId) (base : Nat) (A : Option Addr) (c m : Nat) (q : List Row) (k : Int) (w : World) (ho : OwnQ w base T t A c q) (hm : q.length = m) (hl : m ≤ 1000) (hi : ∀ r ∈ q, r.2.2.length ≤ 1000) (hk0 : 0 ≤ k) (hk1 : k ≤ 1073741824) :
    Calls Try.prog 56 #[.slice A m c, V k] w (MarkedQ T t base A c q k w) := by
  have Ho := Lib.hid ho
  have Hi := Lib.hid hi
  have Hm := Lib.hid hm
  have hS := sumTo_le (xs := rowsOf q) (B := 1000) (fun b hb => by obtain ⟨r, hr, rfl⟩ := List.mem_map.1 hb; exact hi r hr)
  have HS := Lib.hid hS
  clear ho hi hm hS
  go_enter Try.func56, Try.ntmps56
  go_wp2
  go_loopg [1, 5] m (fun gk kv i wr => ∃ j : Nat, j + gk = m ∧ i = .int .i64 j ∧ kv = V (k + 2 * sumTo (rowsOf q) j) ∧ OwnQ wr base T t A c (MkTo k q j) ∧ Gx (InQ q) w wr)
  case atStart => exact ⟨0, by omega, rfl, by simp [sumTo_zero], by rw [mkTo_zero]; exact Ho.out, Gx.refl _ _⟩
  case round =>
    obtain ⟨j, hj, rfl, rfl, hown, hgx⟩ := hrel
    have hsj := HS.out j
    have hmul : j * 1000 ≤ m * 1000 := Nat.mul_le_mul_right _ (by omega)
    by_cases hlt : j < m
    · obtain ⟨r, hr⟩ : ∃ r, q[j]? = some r := ⟨_, List.getElem?_eq_getElem (by rw [Hm.out]; exact hlt)⟩
      have hr2 : (MkTo k q j)[j]? = some r := by rw [mkTo_get_ge (by have := Hm.out; omega) (Nat.le_refl _)]; exact hr
      have hsuc := sumTo_succ (rowsOf_get hr)
      have hst := mkTo_step (k := k) hr
      have hrm := List.mem_of_getElem? hr
      have hlr := Hi.out r hrm
      obtain ⟨b, off, hA, hb, hc, _⟩ := hown.rowsAt.rd hr2
      subst hA
      obtain ⟨B, d, es⟩ := r
      simp only at hc hlr hsuc
      have hob := hown.2.1 _ (List.mem_of_getElem? hr2)
      have Hown := Lib.hid hown
      have Hr2 := Lib.hid hr2
      have Hrm := Lib.hid hrm
      have Hsuc := Lib.hid hsuc
      have Hst := Lib.hid hst
      have Hgx := Lib.hid hgx
      obtain ⟨sj, hsj2⟩ : ∃ s, sumTo (rowsOf q) j = s := ⟨_, rfl⟩
      rw [hsj2] at hsj ⊢
      have Hsj := Lib.hid hsj2
      clear hown hr hr2 hrm hsuc hst hgx hsj2
      have hmc := markEdgeS_c t base B d es (k + 2 * (sj : Nat)) wr hob (by omega) (by omega) (by omega)
      clear hob
      go_wp2_with fail
      refine hmc.mono ?_
      rintro e w3 ⟨rfl, ho3, hg3⟩
      clear hmc
      go_wp2
      go_roundg (gk - 1)
      case measure => omega
      case rel =>
        refine ⟨j + 1, by omega, by go_num, ?_, ?_, ?_⟩
        · rw [Hsuc.out, Hsj.out]; congr 1; omega
        · rw [Hst.out, Hsj.out]
          exact Hown.out.mark Hr2.out hg3 ho3 (by rw [mkE_length])
        · exact Hgx.out.grown hg3 (fun i hi => .inl ⟨_, Hrm.out, hi⟩)
    · go_wp2
      go_ret
      have hjm : j = q.length := by have := Hm.out; omega
      refine ⟨by rw [hjm]; rfl, ?_, hgx⟩
      rw [hjm, mkTo_all] at hown
      exact hown

set_option maxRecDepth 100000 in
set_option maxHeartbeats 2000000 in
theorem heldEdgeSS_c (A : Option Addr) (c m : Nat) (q : List Row) (k : Int) (w : World) (hx : RowsAt w A (mkQ k q)) (hm : q.length = m) (hl : m ≤ 1000) (hi : ∀ r ∈ q, r.2.2.length ≤ 1000) (hk0 : 0 ≤ k) (hk1 : k ≤ 1073741824) :
    Calls Try.prog 57 #[.slice A m c, V k] w (RetV (V (k + 2 * sumTo (rowsOf q) q.length)) w) := by
  have Hx := Lib.hid hx
  have Hi := Lib.hid hi
  have Hm := Lib.hid hm
  have hS := sumTo_le (xs := rowsOf q) (B := 1000) (fun b hb => by obtain ⟨r, hr, rfl⟩ := List.mem_map.1 hb; exact hi r hr)
  have HS := Lib.hid hS
  clear hx hi hm hS
  go_enter Try.func57, Try.ntmps57
  go_wp2
  go_loopg [1, 5] m (fun gk kv i wr => ∃ j : Nat, j + gk = m ∧ i = .int .i64 j ∧ kv = V (k + 2 * sumTo (rowsOf q) j) ∧ Nx w wr)
  case atStart => exact ⟨0, by omega, rfl, by simp [sumTo_zero], Nx.refl _⟩
  case round =>
    obtain ⟨j, hj, rfl, rfl, hn⟩ := hrel
    have hsj := HS.out j
    have hmul : j * 1000 ≤ m * 1000 := Nat.mul_le_mul_right _ (by omega)
    by_cases hlt : j < m
    · obtain ⟨r, hr⟩ : ∃ r, q[j]? = some r := ⟨_, List.getElem?_eq_getElem (by rw [Hm.out]; exact hlt)⟩
      have hsuc := sumTo_succ (rowsOf_get hr)
      have hlr := Hi.out r (List.mem_of_getElem? hr)
      obtain ⟨b, off, hA, hb, hc, hxe⟩ := (Hx.out.nx hn).rd (mkQ_get (k := k) hr)
      subst hA
      obtain ⟨B, d, es⟩ := r
      simp only [mkE_length] at hc hxe hlr hsuc
      have Hsuc := Lib.hid hsuc
      obtain ⟨sj, hsj2⟩ : ∃ s, sumTo (rowsOf q) j = s := ⟨_, rfl⟩
      rw [hsj2] at hsj hxe ⊢
      have Hsj := Lib.hid hsj2
      have hhc := heldEdgeS_c B d es.length (k + 2 * (sj : Nat)) wr hxe (by omega) (by omega) (by omega)
      clear hr hsuc hsj2 hxe
      go_wp2_with fail
      refine hhc.mono ?_
      rintro e w3 ⟨rfl, hn3⟩
      clear hhc
      have hpos : 0 ≤ k + 2 * (sj : Int) + 2 * (es.length : Int) := by omega
      go_wp2
      go_roundg (gk - 1)
      case measure => omega
      case rel => exact ⟨j + 1, by omega, by go_num, by rw [Hsuc.out, Hsj.out]; congr 1; omega, hn.trans hn3⟩
    · go_wp2
      go_ret
      have hjm : j = q.length := by have := Hm.out; omega
      exact RetV.int (by rw [hjm]) hn
end Go.Proofs.Yticjoichmcegnaa
