/- Contracts: neighbors, l1Next. -/
import Derived.Test.YtjchabeiaajgiaaNS
import Derived.Test.YtjchabeiaajgiaaNL
import Derived.Test.YtjchabeiaajgiaaY4
import Derived.Deep.RegionHeld3
namespace Go.Proofs.Ytjchabeiaajgiaa
open Go.RowKit set_option linter.unusedVariables false set_option linter.unusedSimpArgs false

theorem srt_next {n : Nat} {es : Es} (hn : es.Nodup) (ho : ∀ e ∈ es, 0 ≤ e.1 ∧ e.1 < e.2 ∧ e.2 < n) (v : Int) : srtI (gatherL es v) = nextL n es v := by
  have hp : List.Perm (srtI (gatherL es v)) (gatherL es v) := List.mergeSort_perm _ _
  have hs : (srtI (gatherL es v)).Pairwise (· ≤ ·) := by
    have := List.pairwise_mergeSort (le := fun x y : Int => decide (x ≤ y)) (fun a b c h1 h2 => by simp at *; omega) (fun a b => by simp; omega) (gatherL es v)
    exact this.imp fun h => by simpa using h
  have hnd : (srtI (gatherL es v)).Nodup := hp.nodup_iff.2 (gatherL_nodup es hn (fun e he => (ho e he).2.1) v)
  exact sorted_ext _ _ (strict_of hs hnd) (nextL_sorted n es v) fun x => by rw [hp.mem_iff]; exact gather_next hn ho v x
theorem gatherL_take {es : Es} {k : Nat} {e : Int × Int} (h : es[k]? = some e) (v : Int) : gatherL (es.take (k + 1)) v = gatherL (es.take k) v ++ (if e.1 = v then [e.2] else if e.2 = v then [e.1] else []) := by
  obtain ⟨h1, h2⟩ := List.getElem?_eq_some_iff.1 h
  rw [List.take_succ_eq_append_getElem h1, h2]
  simp [gatherL]
theorem gatherL_len (es : Es) (v : Int) : (gatherL es v).length ≤ es.length := by
  induction es with
  | nil => simp [gatherL]
  | cons e es ih =>
    have h1 : gatherL (e :: es) v = (if e.1 = v then [e.2] else if e.2 = v then [e.1] else []) ++ gatherL es v := rfl
    rw [h1, List.length_append, List.length_cons]
    split
    · simp; omega
    · split <;> simp <;> omega

set_option maxRecDepth 100000 in
set_option maxHeartbeats 4000000 in
theorem neighbors_c (n : Int) (A : Option Addr) (c : Nat) (es : List (Int × Int)) (v : Int) (w : World) (hx : EdgesAt w A es) (hl : es.length ≤ 1048576) :
    Calls Try.prog 129 #[.agg #[V n, .slice A es.length c], V v] w (RetI 3 (srtI (gatherL es v)) w) := by
  obtain ⟨i0, hi, hz0, hz1, hz2⟩ := info_parts infoI
  have Hi := Lib.hid hi
  have Hz0 := Lib.hid hz0
  have Hz1 := Lib.hid hz1
  have Hz2 := Lib.hid hz2
  clear hi hz0 hz1 hz2
  go_enter Try.func129, Try.ntmps129
  go_wp2
  generalize hW1 : World.alloc _ _ = W1
  have gW1 : Nx w W1 := by subst hW1; exact (by repeat (first | exact Nx.refl _ | assumption | apply Nx.alloc | apply Nx.drew | apply Nx.drewN | (refine Nx.setCell ?_ (by first | (simp; done) | (simp; omega) | omega) _) | refine Nx.trans ?_ (by assumption)))
  have sW1 : W1.heap.size = w.heap.size + 2 := by subst hW1; simp
  have X0 : Bx W1 (w.heap.size) 26 [V n, .slice A es.length c] := by subst hW1; have h := Bx.alloc w 26 [V n, .slice A es.length c]; have h := h.nx (Nx.alloc (Nx.refl _) (.cells #[] 3)); simpa using h
  have X1 : Bx W1 (w.heap.size + 1) 3 [] := by subst hW1; have h := Bx.alloc (w.alloc (.cells #[V n, .slice A es.length c] 26)) 3 []; simpa using h
  have X0_0 := X0.cell (j := 0) rfl
  have X0_1 := X0.cell (j := 1) rfl
  have X0_z := X0.lt
  have X1_z := X1.lt
  have HsW1 := Lib.hid sW1
  have lW1 : w.heap.size + 2 ≤ W1.heap.size := by omega
  clear hW1 sW1
  have ho0 : OwnI W1 (w.heap.size + 1) 3 _ 0 [] := X1.emptyI (Nat.le_refl _)
  go_loopg [5, 7, 12] es.length (fun gk out _ i wr => ∃ (k : Nat) (A' : Option Addr) (c' : Nat), k + gk = es.length ∧ i = .int .i64 k ∧ out = .slice A' (gatherL (es.take k) v).length c' ∧ OwnI wr (w.heap.size + 1) 3 A' c' (gatherL (es.take k) v) ∧ Nx w wr ∧ w.heap.size + 1 < wr.heap.size)
  case atStart => exact ⟨0, some ⟨w.heap.size + 1, 0, none⟩, 0, by omega, rfl, by simp [gatherL], by simpa [gatherL] using ho0, gW1, X1_z⟩
  case round =>
    obtain ⟨k, A', c', hk, rfl, rfl, hown, hn0, hsz⟩ := hrel
    by_cases hlt : k < es.length
    · obtain ⟨e, hek⟩ : ∃ e, es[k]? = some e := ⟨_, List.getElem?_eq_getElem hlt⟩
      have hst := gatherL_take hek v
      have hlen : (gatherL (es.take k) v).length ≤ k := Nat.le_trans (gatherL_len _ _) (List.length_take_le _ _)
      obtain ⟨b, off, rfl, hbl, h1, h2⟩ := (hx.nx hn0).rd hek
      obtain ⟨x, y⟩ := e
      simp only at h1 h2 hst
      generalize gatherL (es.take k) v = L at *
      have Hst := Lib.hid hst
      have Hown := Lib.hid hown
      clear hst hown hek
      by_cases e1 : (v == x) = true
      · have hL : Hid (gatherL (es.take (k + 1)) v = L ++ [y]) := Lib.hid (by rw [Hst.out, if_pos (by simp at e1; omega)])
        go_wp2_with (at_builtin; go_must (refine appI (base := w.heap.size + 1) (t := 3) L _ y rfl rfl Try.underlying27 Hi.out Hz0.out Hz1.out Hz2.out rfl rfl (Hown.out.nx (by repeat (first | exact Nx.refl _ | assumption | apply Nx.alloc | apply Nx.drew | apply Nx.drewN | (refine Nx.setCell ?_ (by first | (simp; done) | (simp; omega) | omega) _) | refine Nx.trans ?_ (by assumption)))) rfl (cellN (by simp) rfl) (by omega) (by simp; omega) ?_; intro A2 c2 w4 hown4 hnx4 hgr4 hbl4))
        go_roundg (gk - 1)
        case measure => omega
        case rel => exact ⟨k + 1, A2, c2, by omega, by go_num, by rw [hL.out]; simp, by rw [hL.out]; exact hown4, hnx4 w (by omega) (by first | (exact (by (repeat (first | exact Nx.refl _ | assumption | apply Nx.alloc | apply Nx.drew | apply Nx.drewN | (refine Nx.setCell ?_ (by first | (simp; done) | (simp; omega) | omega) _) | refine Nx.trans ?_ (by assumption))); done)) | exact (hn0.alloc _).alloc _), by have := hgr4.size; simp at this; omega⟩
      · have e1 : (v == x) = false := by simpa using e1
        by_cases e2 : (v == y) = true
        · have hL : Hid (gatherL (es.take (k + 1)) v = L ++ [x]) := Lib.hid (by rw [Hst.out, if_neg (by simp at e1; omega), if_pos (by simp at e2; omega)])
          go_wp2_with (at_builtin; go_must (refine appI (base := w.heap.size + 1) (t := 3) L _ x rfl rfl Try.underlying27 Hi.out Hz0.out Hz1.out Hz2.out rfl rfl (Hown.out.nx (by repeat (first | exact Nx.refl _ | assumption | apply Nx.alloc | apply Nx.drew | apply Nx.drewN | (refine Nx.setCell ?_ (by first | (simp; done) | (simp; omega) | omega) _) | refine Nx.trans ?_ (by assumption)))) rfl (cellN (by simp) rfl) (by omega) (by simp; omega) ?_; intro A2 c2 w4 hown4 hnx4 hgr4 hbl4))
          go_roundg (gk - 1)
          case measure => omega
          case rel => exact ⟨k + 1, A2, c2, by omega, by go_num, by rw [hL.out]; simp, by rw [hL.out]; exact hown4, hnx4 w (by omega) (by first | (exact (by (repeat (first | exact Nx.refl _ | assumption | apply Nx.alloc | apply Nx.drew | apply Nx.drewN | (refine Nx.setCell ?_ (by first | (simp; done) | (simp; omega) | omega) _) | refine Nx.trans ?_ (by assumption))); done)) | exact (hn0.alloc _).alloc _), by have := hgr4.size; simp at this; omega⟩
        · have e2 : (v == y) = false := by simpa using e2
          have hL : Hid (gatherL (es.take (k + 1)) v = L) := Lib.hid (by rw [Hst.out, if_neg (by simp at e1; omega), if_neg (by simp at e2; omega), List.append_nil])
          go_wp2
          go_roundg (gk - 1)
          case measure => omega
          case rel => exact ⟨k + 1, A', c', by omega, by go_num, by rw [hL.out], by rw [hL.out]; exact Hown.out.nx (by repeat (first | exact Nx.refl _ | assumption | apply Nx.alloc | apply Nx.drew | apply Nx.drewN | (refine Nx.setCell ?_ (by first | (simp; done) | (simp; omega) | omega) _) | refine Nx.trans ?_ (by assumption))), (by repeat (first | exact Nx.refl _ | assumption | apply Nx.alloc | apply Nx.drew | apply Nx.drewN | (refine Nx.setCell ?_ (by first | (simp; done) | (simp; omega) | omega) _) | refine Nx.trans ?_ (by assumption))), by simp; omega⟩
    · have he : es.take k = es := List.take_of_length_le (by omega)
      rw [he] at hown ⊢
      have hlen := gatherL_len es v
      generalize gatherL es v = L at *
      go_wp2_with fail
      refine (sortI_c _ A' c' L _ hown (by omega)).mono ?_
      rintro e w3 ⟨rfl, ho3, hg3⟩
      have hn3 : Nx w w3 := hn0.grown hg3 (fun k hk => by have := (hown.lt k hk).1; omega)
      have Ho3 := Lib.hid ho3
      clear ho3 hg3 hown
      go_wp2
      go_ret
      exact ⟨A', c', by rw [srtI_length]; rfl, Ho3.out.mono (by omega), hn3⟩

/-- y is joined with v -/
def nxtB (es : Es) (v : Int) (y : Int) : Bool := decide (y ≠ v) && decide ((min y v, max y v) ∈ es)
def nxtK (es : Es) (v : Int) (k : Nat) : List Int := ((List.range k).map Int.ofNat).filter (nxtB es v)
theorem nxtK_succ (es : Es) (v : Int) (k : Nat) : nxtK es v (k + 1) = nxtK es v k ++ (if nxtB es v (k : Int) = true then [(k : Int)] else []) := by
  unfold nxtK
  rw [List.range_succ, List.map_append, List.filter_append]
  congr 1
  show List.filter (nxtB es v) [((k : Nat) : Int)] = _
  by_cases h : nxtB es v (k : Int) = true
  · rw [if_pos h, List.filter_cons_of_pos h]; rfl
  · rw [if_neg h, List.filter_cons_of_neg h]; rfl
theorem nxtK_len (es : Es) (v : Int) (k : Nat) : (nxtK es v k).length ≤ k := by
  have := List.length_filter_le (nxtB es v) ((List.range k).map Int.ofNat)
  simpa [nxtK] using this
theorem nextL_eq (n : Nat) (es : Es) (v : Int) : nextL n es v = nxtK es v n := rfl

set_option maxRecDepth 100000 in
set_option maxHeartbeats 4000000 in
theorem l1Next_c (n : Nat) (A : Option Addr) (c : Nat) (es : List (Int × Int)) (v : Int) (w : World) (hx : EdgesAt w A es) (hl : es.length ≤ 1048576) (hn : n ≤ 1048576) :
    Calls Try.prog 132 #[.agg #[V n, .slice A es.length c], V v] w (RetI 3 (nextL n es v) w) := by
  rw [nextL_eq]
  obtain ⟨i0, hi, hz0, hz1, hz2⟩ := info_parts infoI
  have Hi := Lib.hid hi
  have Hz0 := Lib.hid hz0
  have Hz1 := Lib.hid hz1
  have Hz2 := Lib.hid hz2
  have HX := Lib.hid hx
  clear hi hz0 hz1 hz2 hx
  go_enter Try.func132, Try.ntmps132
  go_wp2
  generalize hW1 : World.alloc _ _ = W1
  have gW1 : Nx w W1 := by subst hW1; exact (by repeat (first | exact Nx.refl _ | assumption | apply Nx.alloc | apply Nx.drew | apply Nx.drewN | (refine Nx.setCell ?_ (by first | (simp; done) | (simp; omega) | omega) _) | refine Nx.trans ?_ (by assumption)))
  have sW1 : W1.heap.size = w.heap.size + 2 := by subst hW1; simp
  have X0 : Bx W1 (w.heap.size) 26 [V n, .slice A es.length c] := by subst hW1; have h := Bx.alloc w 26 [V n, .slice A es.length c]; have h := h.nx (Nx.alloc (Nx.refl _) (.cells #[] 3)); simpa using h
  have X1 : Bx W1 (w.heap.size + 1) 3 [] := by subst hW1; have h := Bx.alloc (w.alloc (.cells #[V n, .slice A es.length c] 26)) 3 []; simpa using h
  have X0_0 := X0.cell (j := 0) rfl
  have X0_1 := X0.cell (j := 1) rfl
  have X0_z := X0.lt
  have X1_z := X1.lt
  have HsW1 := Lib.hid sW1
  have lW1 : w.heap.size + 2 ≤ W1.heap.size := by omega
  clear hW1 sW1
  have ho0 : OwnI W1 (w.heap.size + 1) 3 _ 0 [] := X1.emptyI (Nat.le_refl _)
  go_loopg [5, 6] n (fun gk out i wr => ∃ (k : Nat) (A' : Option Addr) (c' : Nat), k + gk = n ∧ i = .int .i64 k ∧ out = .slice A' (nxtK es v k).length c' ∧ OwnI wr (w.heap.size + 1) 3 A' c' (nxtK es v k) ∧ Nx w wr ∧ Bx wr w.heap.size 26 [V n, .slice A es.length c])
  case atStart => exact ⟨0, some ⟨w.heap.size + 1, 0, none⟩, 0, by omega, rfl, by simp [nxtK], by simpa [nxtK] using ho0, gW1, X0⟩
  case round =>
    clear X0 X0_0 X0_1 X0_z X1 ho0
    obtain ⟨k, A', c', hk, rfl, rfl, hown, hn0, X0⟩ := hrel
    have X0_0 := X0.cell (j := 0) rfl
    have X0_1 := X0.cell (j := 1) rfl
    have X0_z := X0.lt
    have z0 := hn0.size
    by_cases hlt : k < n
    · have hst := nxtK_succ es v k
      have hlen := nxtK_len es v k
      have hmem : decide (0 ≤ idxE es (min (k : Int) v, max (k : Int) v)) = decide ((min (k : Int) v, max (k : Int) v) ∈ es) := by rw [decide_eq_decide]; exact idxE_nonneg _ _
      have hnx : nxtB es v (k : Int) = (decide ((k : Int) ≠ v) && decide ((min (k : Int) v, max (k : Int) v) ∈ es)) := rfl
      rw [← hmem] at hnx
      have hfd := fun w' hx => l1Find_c A c es (min (k : Int) v) (max (k : Int) v) w' hx (by omega)
      obtain ⟨ix, hix⟩ : ∃ ix, idxE es (min (k : Int) v, max (k : Int) v) = ix := ⟨_, rfl⟩
      rw [hix] at hnx hfd
      have Hfd := Lib.hid hfd
      have Hnx := Lib.hid hnx
      clear hfd hix hmem
      generalize nxtK es v k = L at *
      have Hst := Lib.hid hst
      have Hown := Lib.hid hown
      clear hst hown hnx
      by_cases e1 : ((k : Int) != v) = true
      · go_wp2_with fail
        have kp : ∀ w', Nx wr w' → (fun w_ => Nx wr w_ ∧ w_.cell? ⟨w.heap.size, 1, none⟩ = some (.slice A es.length c)) w' := fun w' h => ⟨h, h.cell X0_z X0_1⟩
        have hdr : Nx wr wr.drew := .drew (.refl _)
        go_region_held3 (fun w_ => Nx wr w_ ∧ w_.cell? ⟨w.heap.size, 1, none⟩ = some (.slice A es.length c))
          (first | exact kp _ hdr | exact kp _ hn2 | exact kp _ hn3)
          (first
            | (go_at_call 84; (with_reducible refine (l1Edge_c k v _).mono ?_); rintro e w2 ⟨rfl, hn2'⟩; have hn2 : Nx wr w2 := hdr.trans hn2')
            | (go_at_call 121; (with_reducible refine (Hfd.out _ (HX.out.nx (hn0.trans hn2))).mono ?_); rintro e w3 ⟨rfl, hn3'⟩; have hn3 : Nx wr w3 := hn2.trans hn3'))
        clear kp hdr
        have ho3 := Hown.out.nx hn3
        have hn03 := hn0.trans hn3
        have z3 := hn03.size
        have X3 := X0.nx hn3
        clear X0 X0_0 X0_1 X0_z hn2 hn3
        have X3_0 := X3.cell (j := 0) rfl
        have X3_1 := X3.cell (j := 1) rfl
        have X3_z := X3.lt
        by_cases e3 : 0 ≤ ix
        · have hL : Hid (nxtK es v (k + 1) = L ++ [(k : Int)]) := Lib.hid (by rw [Hst.out, if_pos (by rw [Hnx.out]; simp at e1; simp [e1, e3])])
          have Ho3 := Lib.hid ho3
          clear ho3
          have d3 : decide (0 ≤ ix) = true := by simpa using e3
          go_wp2_with (at_builtin; go_must (refine appI (base := w.heap.size + 1) (t := 3) L _ k rfl rfl Try.underlying27 Hi.out Hz0.out Hz1.out Hz2.out rfl rfl (Ho3.out.nx (by repeat (first | exact Nx.refl _ | assumption | apply Nx.alloc | apply Nx.drew | apply Nx.drewN | (refine Nx.setCell ?_ (by first | (simp; done) | (simp; omega) | omega) _) | refine Nx.trans ?_ (by assumption)))) rfl (cellN (by simp) rfl) (by omega) (by simp; omega) ?_; intro A2 c2 w4 hown4 hnx4 hgr4 hbl4))
          go_roundg (gk - 1)
          case measure => omega
          case rel => exact ⟨k + 1, A2, c2, by omega, by go_num, by rw [hL.out]; simp, by rw [hL.out]; exact hown4, hnx4 w (by omega) (hn03.alloc _), (X3.nx (Nx.alloc (Nx.refl _) _)).grown hgr4 (fun h => by have := (Ho3.out.lt _ h).1; omega)⟩
        · have hL : Hid (nxtK es v (k + 1) = L) := Lib.hid (by rw [Hst.out, if_neg (by rw [Hnx.out]; simp [e3]), List.append_nil])
          have Ho3 := Lib.hid ho3
          clear ho3
          have d3 : decide (0 ≤ ix) = false := by simpa using e3
          go_wp2
          go_roundg (gk - 1)
          case measure => omega
          case rel => exact ⟨k + 1, A', c', by omega, by go_num, by rw [hL.out], by rw [hL.out]; exact Ho3.out, hn03, X3⟩
      · have e1 : ((k : Int) != v) = false := by simpa using e1
        have hL : Hid (nxtK es v (k + 1) = L) := Lib.hid (by rw [Hst.out, if_neg (by rw [Hnx.out]; simp at e1; simp [e1]), List.append_nil])
        go_wp2_with fail
        go_quiet (fail)
        go_wp2
        go_roundg (gk - 1)
        case measure => omega
        case rel => exact ⟨k + 1, A', c', by omega, by go_num, by rw [hL.out], by rw [hL.out]; exact Hown.out.nx (Nx.drewN (.refl _) _), hn0.drewN _, X0.nx (Nx.drewN (.refl _) _)⟩
    · obtain rfl : k = n := by omega
      go_wp2
      go_ret
      exact ⟨A', c', rfl, hown.mono (by omega), hn0⟩
end Go.Proofs.Ytjchabeiaajgiaa
