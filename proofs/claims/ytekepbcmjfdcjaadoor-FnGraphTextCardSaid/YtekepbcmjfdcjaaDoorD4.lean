/- Contract: l1Wrong: a graph, sometimes turned. -/
import Derived.Test.YtekepbcmjfdcjaaDoorD3
import Derived.Test.YtekepbcmjfdcjaaDoorD2
import Derived.Test.YtekepbcmjfdcjaaDoorM2
namespace Go.Proofs.YtekepbcmjfdcjaaDoor
open Go.RowKit set_option linter.unusedVariables false set_option linter.unusedSimpArgs false
attribute [local go_sem ↓] Go.wp_at_zero Go.wp_at_succ

theorem edgesOne2 {w : World} {b : Nat} {x y : Int} (hb : b < w.heap.size) (h0 : w.cell? ⟨b, 0, none⟩ = some (V x)) (h1 : w.cell? ⟨b, 1, none⟩ = some (V y)) : EdgesAt w (some ⟨b, 0, none⟩) [(x, y)] := fun _ =>
  ⟨b, 0, rfl, hb, fun k hk => by
    obtain rfl : k = 0 := by simp at hk; omega
    exact ⟨by simpa using h0, by simpa using h1⟩⟩
/-- some graph in a row of the call's own, with one edge more than m at most; the reader is further by 6 picks at most -/
def WrongG (br : Nat) (P : Int) (m : Nat) (w : World) (e : Ending) (w' : World) : Prop :=
  ∃ (nn : Int) (A : Option Addr) (c : Nat) (es : Es), e = .returned (.agg #[V nn, .slice A es.length c]) ∧ 0 ≤ nn ∧ nn ≤ 17 ∧ es.length ≤ m + 1 ∧ OwnE w' w.heap.size 41 A c es ∧ RdL w' br (P + 6) ∧ Rx br w w'

set_option maxRecDepth 100000 in
set_option maxHeartbeats 8000000 in
theorem l1Wrong_c (br : Nat) (P : Int) (n : Int) (A : Option Addr) (c : Nat) (es : List (Int × Int)) (w : World) (hr : RdL w br P) (hP0 : 0 ≤ P) (hP : P < 1073741000) (hx : EdgesAt w A es) (hl : es.length ≤ 100000) (hn : 0 ≤ n ∧ n ≤ 17) :
    Calls Tryd.prog 42 #[.pointer (some ⟨br, 0, none⟩), .agg #[V n, .slice A es.length c]] w (WrongG br P es.length w) := by
  obtain ⟨i0, hi, hz0, hz1, hz2⟩ := info_parts infoE
  have Hi := Lib.hid hi
  have Hz0 := Lib.hid hz0
  have Hz1 := Lib.hid hz1
  have Hz2 := Lib.hid hz2
  clear hi hz0 hz1 hz2
  have hbr := hr.lt
  go_enter Tryd.func42, Tryd.ntmps42
  go_wp2_with fail
  generalize hW1 : World.alloc _ _ = W1
  have gW1 : Nx w W1 := by subst hW1; exact (by repeat (first | exact Nx.refl _ | assumption | apply Nx.alloc | apply Nx.drew | apply Nx.drewN | (refine Nx.setCell ?_ (by first | (simp; done) | (simp; omega) | omega) _) | refine Nx.trans ?_ (by assumption)))
  have sW1 : W1.heap.size = w.heap.size + 2 := by subst hW1; simp
  have X0 : Bx W1 (w.heap.size) 24 [V n, .slice A es.length c] := by subst hW1; have h := Bx.alloc w 24 [V n, .slice A es.length c]; have h := h.nx (Nx.alloc (Nx.refl _) (.cells #[V 0, .slice none 0 0] 24)); simpa using h
  have X1 : Bx W1 (w.heap.size + 1) 24 [V 0, .slice none 0 0] := by subst hW1; have h := Bx.alloc (w.alloc (.cells #[V n, .slice A es.length c] 24)) 24 [V 0, .slice none 0 0]; simpa using h
  have X0_0 := X0.cell (j := 0) rfl
  have X0_1 := X0.cell (j := 1) rfl
  have X0_z := X0.lt
  have X1_0 := X1.cell (j := 0) rfl
  have X1_1 := X1.cell (j := 1) rfl
  have X1_z := X1.lt
  have HsW1 := Lib.hid sW1
  have lW1 : w.heap.size + 2 ≤ W1.heap.size := by omega
  clear hW1 sW1
  refine (l1Copy_c n A c es _ (hx.nx gW1) (by omega)).mono ?_
  rintro e w2 ⟨B, d, rfl, ho2, hn2⟩
  have X1' := X1.nx hn2
  have hBlt : ∀ j, blk B = some j → j < w2.heap.size := fun j hj => (ho2.lt j hj).2
  have hr2 := (hr.nx gW1).nx hn2
  have hx2 : Rx br w w2 := (gW1.trans hn2).rx br
  have hz2 : W1.heap.size ≤ w2.heap.size := hn2.size
  clear hx X0 X1 X0_0 X0_1 X0_z X1_0 X1_1 X1_z hr gW1 HsW1
  go_wp2_with fail
  generalize hW3 : World.alloc w2 _ = W3
  have z3 : W3.heap.size = w2.heap.size + 1 := by subst hW3; simp
  have n3 : Nx w2 W3 := by subst hW3; exact (by repeat (first | exact Nx.refl _ | assumption | apply Nx.alloc | apply Nx.drew | apply Nx.drewN | (refine Nx.setCell ?_ (by first | (simp; done) | (simp; omega) | omega) _) | refine Nx.trans ?_ (by assumption)))
  have b3 : Bx W3 w2.heap.size 24 [V n, .slice B es.length d] := by subst hW3; exact Bx.alloc w2 24 [V n, .slice B es.length d]
  have z3' : w2.heap.size + 1 ≤ W3.heap.size := by omega
  have o3 := ho2.nx n3
  have r3 := hr2.nx n3
  have X3 := X1'.nx n3
  have x3 := hx2.trans (n3.rx br)
  clear hW3 z3 n3 ho2 hr2 X1' hx2 hn2
  refine (pick_l br P 16 _ r3 (by omega) (by omega) (by omega)).mono ?_
  rintro e w4 ⟨x, rfl, hx0, _, r4, x4⟩
  replace b3 := b3.rx x4 (by omega)
  replace o3 := o3.rx x4 (by omega)
  replace X3 := X3.rx x4 (by omega)
  replace x3 := x3.trans x4
  have z4 := Nat.le_trans z3' x4.size
  have c0 := b3.cell (j := 0) rfl
  have c1 := b3.cell (j := 1) rfl
  have y0 := X3.cell (j := 0) rfl
  have y1 := X3.cell (j := 1) rfl
  have yf := X3.free
  have cf := b3.free
  clear x4 r3
  -- the graph as it is handed back
  have hfin : ∀ (nn : Int) (A' : Option Addr) (c' : Nat) (es' : Es) (w' : World), 0 ≤ nn ∧ nn ≤ 17 → es'.length ≤ es.length + 1 → OwnE w' (w.heap.size + 2) 41 A' c' es' → RdL w' br (P + 6) → Rx br w w' →
      WrongG br P es.length w (.returned (.agg #[V nn, .slice A' es'.length c'])) ((w'.setCell ⟨w.heap.size + 1, 0, none⟩ (V nn)).setCell ⟨w.heap.size + 1, 1, none⟩ (.slice A' es'.length c')) := fun nn A' c' es' w' h1 h2 h3 h4 h5 =>
    ⟨nn, A', c', es', rfl, h1.1, h1.2, h2, ((h3.far (by simp) _).far (by simp) _).mono (by omega),
      (h4.kept (grown_setCell _ _ _ _) (fun k e => by injection e with e; omega)).kept (grown_setCell _ _ _ _) (fun k e => by injection e with e; omega),
      (h5.past (grown_setCell _ _ _ _) (fun j e => by injection e with e; omega)).past (grown_setCell _ _ _ _) (fun j e => by injection e with e; omega)⟩
  have Hfin := Lib.hid hfin
  clear hfin
  by_cases hxp : 0 < x
  · go_wp2
    refine bodyPost_ret (v := .agg #[V n, .slice B es.length d]) (by simp [results, Tryd.f42, go_sem, *]) rfl ?_
    exact Hfin.out n B d es w4 hn (by omega) (o3.mono (by omega)) (r4.mono (by omega)) x3
  · by_cases hl0 : es.length = 0
    · have hl1 : ((es.length : Int) == 0) = true := by rw [hl0]; rfl
      have Hl0 := Lib.hid hl0
      clear hl0
      go_wp2
      refine bodyPost_ret (v := .agg #[V n, .slice B es.length d]) (by simp [results, Tryd.f42, go_sem, *]) rfl ?_
      exact Hfin.out n B d es w4 hn (by omega) (o3.mono (by omega)) (r4.mono (by omega)) x3
    · have hl1 : ((es.length : Int) == 0) = false := beq_eq_false_iff_ne.2 (by omega)
      go_wp2_with fail
      refine (pick_l br (P + 1) es.length _ r4 (by omega) (by omega) (by omega)).mono ?_
      rintro e w5 ⟨k, rfl, hk0, hk1, r5, x5⟩
      replace b3 := b3.rx x5 (by omega)
      replace o3 := o3.rx x5 (by omega)
      replace X3 := X3.rx x5 (by omega)
      replace x3 := x3.trans x5
      replace z4 := Nat.le_trans z4 x5.size
      have hk2 := hk1 (by omega)
      obtain ⟨k, rfl⟩ := Int.eq_ofNat_of_zero_le hk0
      have hkl : k < es.length := by omega
      clear x5 r4 hk1 hk0
      go_wp2_with fail
      refine (pick_l br (P + 1 + 1) 5 _ r5 (by omega) (by omega) (by omega)).mono ?_
      rintro e w6 ⟨q, rfl, hq0, hq1, r6, x6⟩
      replace b3 := b3.rx x6 (by omega)
      replace o3 := o3.rx x6 (by omega)
      replace X3 := X3.rx x6 (by omega)
      replace x3 := x3.trans x6
      replace z4 := Nat.le_trans z4 x6.size
      replace c0 := b3.cell (j := 0) rfl
      replace c1 := b3.cell (j := 1) rfl
      replace y0 := X3.cell (j := 0) rfl
      replace y1 := X3.cell (j := 1) rfl
      replace yf := X3.free
      replace cf := b3.free
      clear x6 r5
      by_cases q0 : (q == 0) = true
      · -- an end of an edge is turned
        obtain ⟨g, rfl, hg1, hg2⟩ := o3.at (by omega)
        obtain ⟨m1, m2⟩ := o3.cell hkl
        have mf := o3.free
        have hki : (k : Int) < (es.length : Int) := by omega
        have m2z : g < w6.heap.size := hg2
        have cz := b3.lt
        have hgne : g ≠ w2.heap.size := by have := hBlt g rfl; omega
        go_wp2_with fail
        have hi7 : IntsAt (w6.alloc (.cells #[V 16, V (-1), V 0] 3)) (some ⟨w6.heap.size, 0, none⟩) [16, -1, 0] := Bx.ints (Bx.alloc w6 3 [V 16, V (-1), V 0])
        go_region_held3 (fun w_ => w_.cell? ⟨w2.heap.size, 1, none⟩ = some (.slice (some ⟨g, 0, none⟩) es.length d))
          (first | exact c1 | exact q7 | (first | (go_simp; done) | fail))
          (first
            | (go_at_call 48; (refine (num_l br (P + 1 + 1 + 1) _ 3 [16, -1, 0] _ (r6.nx (by (repeat (first | exact Nx.refl _ | assumption | apply Nx.alloc | apply Nx.drew | apply Nx.drewN | (refine Nx.setCell ?_ (by first | (simp; done) | (simp; omega) | omega) _) | refine Nx.trans ?_ (by assumption))); done)) (by omega) (hi7.nx (Nx.drew (Nx.refl _))) (by simp) (by simp) (ne_br (by omega))).mono ?_); rintro e w7 ⟨v, rfl, hv, r7, x7'⟩; have x7 : Rx br w6 w7 := ((show Nx w6 _ from (by (repeat (first | exact Nx.refl _ | assumption | apply Nx.alloc | apply Nx.drew | apply Nx.drewN | (refine Nx.setCell ?_ (by first | (simp; done) | (simp; omega) | omega) _) | refine Nx.trans ?_ (by assumption))); done)).rx br).trans x7'; have q7 := World.grownBy.cell x7 c1 (by simp; omega); have k7 := World.grownBy.cell x7 m2 (by simp; omega); have f7 : ∀ j, w7.frozen? ⟨g, j, none⟩ = false := fun j => (World.frozen?_of_block (a := ⟨g, j, none⟩) (x7.block g m2z (by simp; omega))).trans (mf j)))
        have o7 := o3.rx x7 (by omega)
        have b7 := b3.rx x7 (by omega)
        have X7 := X3.rx x7 (by omega)
        have xx7 := x3.trans x7
        replace c0 := b7.cell (j := 0) rfl
        replace y0 := X7.cell (j := 0) rfl
        replace y1 := X7.cell (j := 1) rfl
        replace yf := X7.free
        clear c1 m1 m2 mf cf
        have hsz7 := x7.size
        go_wp2
        refine bodyPost_ret (v := .agg #[V n, .slice (some ⟨g, 0, none⟩) es.length d]) (by simp [results, Tryd.f42, go_sem, *]) rfl ?_
        have h := Hfin.out n (some ⟨g, 0, none⟩) d (es.set k (es[k].1, v)) (w7.setCell ⟨g, k * 2 + 1, none⟩ (V v)) hn (by simp) ((o7.set1 k hkl v).mono (by omega)) ((r7.kept (grown_setCell _ _ _ _) (fun j e => by injection e with e; omega)).mono (by omega)) (xx7.past (grown_setCell _ _ _ _) (fun j e => by injection e with e; omega))
        rw [List.length_set] at h
        exact h
      · have q0 : (q == 0) = false := by simpa using q0
        by_cases q1 : (q == 1) = true
        · go_wp2_with fail
          have hn7 : Nx w6 (w6.alloc (.cells #[V 0, V 17, V 1] 3)) := .alloc (.refl _) _
          have hi7 : IntsAt (w6.alloc (.cells #[V 0, V 17, V 1] 3)) (some ⟨w6.heap.size, 0, none⟩) [0, 17, 1] := Bx.ints (Bx.alloc w6 3 [V 0, V 17, V 1])
          refine (num_l br (P + 1 + 1 + 1) _ 3 [0, 17, 1] _ (r6.nx hn7) (by omega) hi7 (by simp) (by simp) (ne_br (by omega))).mono ?_
          rintro e w7 ⟨v, rfl, hv, r7, x7'⟩
          have hv17 : 0 ≤ v ∧ v ≤ 17 := by simp at hv; omega
          have x7 : Rx br w6 w7 := (hn7.rx br).trans x7'
          have o7 := o3.rx x7 (by omega)
          have b7 := b3.rx x7 (by omega)
          have X7 := X3.rx x7 (by omega)
          have xx7 := x3.trans x7
          replace c0 := b7.cell (j := 0) rfl
          replace c1 := b7.cell (j := 1) rfl
          replace cf := b7.free
          replace y0 := X7.cell (j := 0) rfl
          replace y1 := X7.cell (j := 1) rfl
          replace yf := X7.free
          clear x7' hi7 hn7 hv
          go_wp2
          refine bodyPost_ret (v := .agg #[V v, .slice B es.length d]) (by simp [results, Tryd.f42, go_sem, *]) rfl ?_
          exact Hfin.out v B d es (w7.setCell ⟨w2.heap.size, 0, none⟩ (V v)) hv17 (by omega) ((o7.other (fun j hj e => by have := hBlt j hj; omega) _ _).mono (by omega)) ((r7.kept (grown_setCell _ _ _ _) (fun j e => by injection e with e; omega)).mono (by omega)) (xx7.past (grown_setCell _ _ _ _) (fun j e => by injection e with e; omega))
        · have q1 : (q == 1) = false := by simpa using q1
          by_cases q2 : (q == 2) = true
          · obtain ⟨g, rfl, hg1, hg2⟩ := o3.at (by omega)
            obtain ⟨m1, m2⟩ := o3.cell hkl
            have hki : (k : Int) < (es.length : Int) := by omega
            have cz := b3.lt
            have hgne : g ≠ w2.heap.size := by have := hBlt g rfl; omega
            generalize es[k] = e at m1 m2
            obtain ⟨u, v⟩ := e
            have hnd : Nx w6 (w6.alloc (.cells #[V u, V v] 41)).drew := .drew (.alloc (.refl _) _)
            have heo : EdgesAt (w6.alloc (.cells #[V u, V v] 41)) (some ⟨w6.heap.size, 0, none⟩) [(u, v)] := edgesOne2 (by simp) (cellN rfl rfl) (cellN rfl rfl)
            replace heo := heo.nx (Nx.drew (Nx.refl _))
            have o3d := o3.nx hnd
            go_wp2_with fail
            go_region_law (refine stepEs (A := some ⟨g, 0, none⟩) (c := d) (c' := 1) es [(u, v)] rfl rfl Tryd.underlying22 Hi.out Hz0.out Hz1.out Hz2.out rfl (by go_simp) o3d (by go_simp) heo (by simp; omega) (by simp [size_drew_]; omega) ?_; intro A2 c2 w7 o7 hg7 hb7; have hb7' := (b3.nx hnd).grown hg7 (fun h => by simp [blk] at h; omega); have q0 := hb7'.cell (j := 0) rfl; have q1 := hb7'.cell (j := 1) rfl; have qf := hb7'.free; have X7 := (X3.nx hnd).grown hg7 (fun h => by simp [blk] at h; omega); have p0 := X7.cell (j := 0) rfl; have p1 := X7.cell (j := 1) rfl; have pf := X7.free)
            all_goals go_wp2
            all_goals refine bodyPost_ret (v := .agg #[V n, .slice A2 (es.length + 1) c2]) (by simp [results, Tryd.f42, go_sem, *]) rfl ?_
            all_goals
              have hA2 : ∀ j, blk A2 = some j → j ≠ w2.heap.size := fun j hj e => by
                rcases hb7 with h | h
                · rw [h] at hj; simp [blk] at hj; omega
                · rw [h] at hj; simp [size_drew_] at hj; omega
              have h := Hfin.out n A2 c2 (es ++ [(u, v)]) (w7.setCell ⟨w2.heap.size, 1, none⟩ (.slice A2 (es.length + 1) c2)) hn (by simp) ((o7.other hA2 _ _).mono (by omega)) ((((r6.nx hnd).kept hg7 (fun j e => by simp [blk] at e; omega)).kept (grown_setCell _ _ _ _) (fun j e => by injection e with e; omega)).mono (by omega)) (((x3.trans (hnd.rx br)).past hg7 (fun j e => by simp [blk] at e; omega)).past (grown_setCell _ _ _ _) (fun j e => by injection e with e; omega))
              rw [List.length_append] at h
              exact h
          · have q2 : (q == 2) = false := by simpa using q2
            go_wp2
            refine bodyPost_ret (v := .agg #[V n, .slice B es.length d]) (by simp [results, Tryd.f42, go_sem, *]) rfl ?_
            exact Hfin.out n B d es w6 hn (by omega) (o3.mono (by omega)) (r6.mono (by omega)) x3
end Go.Proofs.YtekepbcmjfdcjaaDoor
