/- Contracts: BlockNodes of both. -/
import Derived.Test.YtafhojiialmbcaaNP
namespace Go.Proofs.Ytafhojiialmbcaa
open Go.RowKit set_option linter.unusedVariables false set_option linter.unusedSimpArgs false
open Go.Lib (compact compactUpTo keeps)

/-- the call returns numbers in a row of its own; the slice may be cut -/
def RetO (xs : List Int) (f : Value → Value) (w : World) (e : Ending) (w' : World) : Prop := ∃ A cv c, e = .returned (f (.slice A xs.length cv)) ∧ OwnI w' w.heap.size 3 A c xs ∧ Nx w w'
theorem markIntS_v (t : TypeId) (base : Nat) (A : Option Addr) (c cv : Nat) (xs : List Int) (k : Int) (w : World) (ho : OwnI w base t A c xs) (hl : xs.length ≤ 1048576) (hk0 : 0 ≤ k) (hk1 : k ≤ 1099511627776) :
    Calls Try.prog 34 #[.slice A xs.length cv, V k] w (MarkedI t base A c k xs.length w) := by
  go_enter Try.func34, Try.ntmps34
  go_wp2
  go_loopg [1, 5] xs.length (fun gk kv i wr => ∃ (j : Nat) (ys : List Int), j + gk = xs.length ∧ i = .int .i64 j ∧ kv = V (k + j) ∧ ys.length = xs.length ∧ OwnI wr base t A c ys ∧ w.grownBy wr (blk A) ∧ ∀ m, m < j → ys[m]? = (mkI k xs.length)[m]?)
  case atStart => exact ⟨0, xs, by omega, rfl, by simp, rfl, ho, World.grownBy.refl w _, fun m hm => by omega⟩
  case round =>
    obtain ⟨j, ys, hj, rfl, rfl, hyl, hown, hg, hys⟩ := hrel
    have Hys := Lib.hid hys
    have Hyl := Lib.hid hyl
    have Ho := Lib.hid hown
    have Hg := Lib.hid hg
    have hjy : j < xs.length → j < ys.length := by omega
    clear hys hyl hg hown ho
    by_cases hlt : j < xs.length
    · obtain ⟨g, rfl, hg1, hg2⟩ := Ho.out.at (by have := hjy hlt; omega)
      have f1 := Ho.out.cell (hjy hlt)
      have f3 := Ho.out.free
      generalize ys[j] = old at f1
      go_wp2
      go_roundg (gk - 1)
      case measure => omega
      case rel => exact ⟨j + 1, ys.set j (k + j), by omega, by go_num, by go_num, by rw [List.length_set]; exact Hyl.out, Ho.out.set j (k + j), grown_set Hg.out _ _, set_pref Hys.out (hjy hlt) (mkI_get hlt)⟩
    · go_wp2
      go_ret
      have hjl : j = xs.length := by omega
      have he : ys = mkI k xs.length := pref_eq (by rw [mkI_length]; exact Hyl.out) (fun m hm => Hys.out m (by rw [mkI_length] at hm; omega))
      refine ⟨?_, by rw [← he]; exact Ho.out, Hg.out⟩
      simp [hjl]

set_option maxRecDepth 100000 in
set_option maxHeartbeats 4000000 in
theorem nodesOf_o (n : Nat) (A : Option Addr) (c : Nat) (b : Es) (w : World) (hx : EdgesAt w A b) (hl : b.length ≤ 1000) (hb : ∀ e ∈ b, 0 ≤ e.1 ∧ e.1 < n ∧ 0 ≤ e.2 ∧ e.2 < n) :
    Calls Try.prog 79 #[.slice A b.length c] w (RetO (nodesL n b) id w) := by
  rw [← compact_nodes hb]
  obtain ⟨i0, hi, hz0, hz1, hz2⟩ := info_parts infoI
  have Hi := Lib.hid hi
  have Hz0 := Lib.hid hz0
  have Hz1 := Lib.hid hz1
  have Hz2 := Lib.hid hz2
  have HX := Lib.hid hx
  clear hi hz0 hz1 hz2 hx hb
  go_enter Try.func79, Try.ntmps79
  go_wp2
  generalize hW1 : World.alloc _ _ = W1
  have gW1 : Nx w W1 := by subst hW1; exact (by repeat (first | exact Nx.refl _ | assumption | apply Nx.alloc | apply Nx.drew | apply Nx.drewN | (refine Nx.setCell ?_ (by first | (simp; done) | (simp; omega) | omega) _) | refine Nx.trans ?_ (by assumption)))
  have sW1 : W1.heap.size = w.heap.size + 1 := by subst hW1; simp
  have X0 : Bx W1 (w.heap.size) 3 [] := by subst hW1; have h := Bx.alloc w 3 []; simpa using h
  have X0_z := X0.lt
  have HsW1 := Lib.hid sW1
  have lW1 : w.heap.size + 1 ≤ W1.heap.size := by omega
  clear hW1 sW1
  have ho0 : OwnI W1 w.heap.size 3 _ 0 [] := X0.emptyI (Nat.le_refl _)
  go_loopg [3, 5, 9] b.length (fun gk out _ i wr => ∃ (k : Nat) (A' : Option Addr) (c' : Nat), k + gk = b.length ∧ i = .int .i64 k ∧ out = .slice A' (flatL (b.take k)).length c' ∧ OwnI wr w.heap.size 3 A' c' (flatL (b.take k)) ∧ Nx w wr)
  case atStart => exact ⟨0, some ⟨w.heap.size, 0, none⟩, 0, by omega, rfl, by simp [flatL], by simpa [flatL] using ho0, gW1⟩
  case round =>
    clear X0 ho0
    obtain ⟨k, A', c', hk, rfl, rfl, hown, hn0⟩ := hrel
    by_cases hlt : k < b.length
    · obtain ⟨e, hek⟩ : ∃ e, b[k]? = some e := ⟨_, List.getElem?_eq_getElem hlt⟩
      have hst := flatL_take hek
      have hlen : (flatL (b.take k)).length ≤ 2 * k := by rw [flatL_len, List.length_take]; omega
      obtain ⟨bb, off, rfl, hbl, h1, h2⟩ := (HX.out.nx hn0).rd hek
      obtain ⟨x, y⟩ := e
      simp only at h1 h2 hst
      generalize flatL (b.take k) = L at *
      have Hst := Lib.hid hst
      have Hown := Lib.hid hown
      have z0 := hn0.size
      have hi : IntsAt ((wr.alloc (.cells #[V x, V y] 44)).alloc (.cells #[V x, V y] 3)) (some ⟨wr.heap.size + 1, 0, none⟩) [x, y] := Bx.ints (by have := Bx.alloc (wr.alloc (.cells #[V x, V y] 44)) 3 [V x, V y]; simpa using this)
      have HI := Lib.hid hi
      clear hst hown hek hi
      go_wp2_with (at_builtin; go_must (refine appIs (base := w.heap.size) (t := 3) (c' := 2) L [x, y] rfl rfl Try.underlying26 Hi.out Hz0.out Hz1.out Hz2.out rfl rfl (Hown.out.nx (by repeat (first | exact Nx.refl _ | assumption | apply Nx.alloc | apply Nx.drew | apply Nx.drewN | (refine Nx.setCell ?_ (by first | (simp; done) | (simp; omega) | omega) _) | refine Nx.trans ?_ (by assumption)))) rfl HI.out (by simp; omega) (by simp; omega) ?_; intro A2 c2 w4 hown4 hnx4 hgr4 hbl4))
      go_roundg (gk - 1)
      case measure => omega
      case rel => exact ⟨k + 1, A2, c2, by omega, by go_num, by rw [Hst.out]; simp, by rw [Hst.out]; exact hown4, hnx4 w (Nat.le_refl _) ((hn0.alloc _).alloc _)⟩
    · have he : b.take k = b := List.take_of_length_le (by omega)
      rw [he] at hown ⊢
      have hlen : (flatL b).length ≤ 2 * b.length := by rw [flatL_len]; exact Nat.le_refl _
      generalize flatL b = L at *
      go_wp2_with fail
      refine (sortI_c _ A' c' L _ hown (by omega)).mono ?_
      rintro e w3 ⟨rfl, ho3, hg3⟩
      have hn3 : Nx w w3 := hn0.grown hg3 (fun k hk => (hown.lt k hk).1)
      have hsl : (srtI L).length = L.length := srtI_length L
      have hcl := compact_len (srtI L)
      have hcm := compactI_c _ A' c' (srtI L) w3 ho3 (by omega) hcl
      rw [hsl] at hcm
      have Hcm := Lib.hid hcm
      have Hl3 := Lib.hid ho3.lt
      rw [hsl] at hcl
      clear hsl
      generalize compact (srtI L) = ys at *
      clear hg3 hown ho3 hcm
      go_wp2_with fail
      refine Hcm.out.mono ?_
      rintro e w4 ⟨rfl, ho4, hg4⟩
      have hn4 : Nx w w4 := hn3.grown hg4 (fun k hk => (Hl3.out k hk).1)
      have hcap := ho4.cap
      have HI := Lib.hid ho4
      clear ho4 hg4
      go_wp2_with fail
      refine (clip_c A' ys.length c' w4 hcap (by omega)).mono ?_
      rintro e w5 ⟨rfl, rfl⟩
      go_wp2
      go_ret
      exact ⟨A', ys.length, c', rfl, HI.out, hn4⟩


/-- the nodes of the block of an edge -/
noncomputable def bkOf (n : Nat) (es : Es) (e : Int × Int) : Es := blkAt (blkL n es) es (lk (blkL n es) (es.idxOf e))
noncomputable def bnL (n : Nat) (es : Es) (e : Int × Int) : List Int := nodesL n (bkOf n es e)
theorem bk_uniq {n : Nat} {es : Es} (hd : es.Nodup) {e : Int × Int} {b : Es} (hb : b ∈ blocksL n es) (he : e ∈ b) : b = bkOf n es e := by
  obtain ⟨i, _, hi, rfl⟩ := mem_blkTo.1 hb
  obtain ⟨k, h1, h2⟩ := mem_blkAt.1 he
  unfold bkOf
  have hk : es.idxOf e = k := by
    obtain ⟨hk, hek⟩ := List.getElem?_eq_some_iff.1 h1
    rw [← hek]
    exact hd.idxOf_getElem k hk
  rw [hk]
  have : lk (blkL n es) (k : Int) = i := by unfold lk; simp [h2]
  rw [this]
theorem bk_ex {n : Nat} {es : Es} (hd : es.Nodup) {e : Int × Int} (he : e ∈ es) : ∃ b ∈ blocksL n es, e ∈ b := by
  obtain ⟨b, h1, h2, _⟩ := (sameL_iff (n := n) hd he he).1 (by unfold sameL; simp)
  exact ⟨b, h1, h2⟩
theorem bk_in {n : Nat} {es : Es} (hd : es.Nodup) {e : Int × Int} (he : e ∈ es) : bkOf n es e ∈ blocksL n es := by
  obtain ⟨b, h1, h2⟩ := bk_ex (n := n) hd he
  rw [← bk_uniq hd h1 h2]; exact h1
theorem idxE_eqN {es : Es} {e : Int × Int} (h : e ∈ es) : idxE es e = (es.idxOf e : Nat) := by simp [idxE, h]

abbrev tupB (b : Bool) (v : Value) : Value := .tuple #[v, .bool b]

set_option maxRecDepth 100000 in
set_option maxHeartbeats 8000000 in
theorem iBlockNodes_yes (n : Nat) (A : Option Addr) (c : Nat) (es : List (Int × Int)) (a b : Int) (w : World) (hx : EdgesAt w A es) (hl : es.length ≤ 1048576) (hcap : es.length ≤ c) (hv : HasB n es a b) :
    Calls Try.prog 45 #[.agg #[V n, .slice A es.length c], Ed a b] w (RetO (bnL n es (a, b)) (tupB true) w) := by
  have hh := fun w' h h2 => iHasEdge_c n A c es a b w' h h2
  rw [show decide (HasB n es a b) = true by simpa using hv] at hh
  have hval := hv.1
  have h16 := hval.2.1
  have h40 := hval.2.2.1
  have ht := fun w' h => blocks_c n A c es w' h h40 hcap (by omega) (by have := hval.edOk; simpa using this) hval.nodupB
  have hix := fun w' h => index_c A c es a b w' h (by omega)
  rw [idxE_eqN hv.2] at hix
  have hil := List.idxOf_lt_length_iff.2 hv.2
  have hll := blkL_length n es
  have hbk := fun B d w' h h2 => block_c n A B c d es (blkL n es) es.length (lk (blkL n es) (es.idxOf (a, b))) w' h h2 hl hll rfl
  have hbl : bkOf n es (a, b) = blkAt (blkL n es) es (lk (blkL n es) (es.idxOf (a, b))) := rfl
  have hin := bk_in (n := n) hval.nodupB hv.2
  have hbe : ∀ e ∈ bkOf n es (a, b), 0 ≤ e.1 ∧ e.1 < n ∧ 0 ≤ e.2 ∧ e.2 < n := fun e he => by
    have := hval.ends e (blocksL_mem hin e he)
    simp at this
    omega
  have hblen : (bkOf n es (a, b)).length ≤ 1000 := by
    have h1 := (blocksOf_len n es).2 (bkOf n es (a, b)) (by rw [blocksOf_yes hval]; simpa using hin)
    omega
  rw [← hbl] at hbk
  have hno := fun B d w' h => nodesOf_o n B d (bkOf n es (a, b)) w' h hblen hbe
  have g1 : (blkL n es)[es.idxOf (a, b)]? = some (lk (blkL n es) (es.idxOf (a, b))) := by unfold lk; simp [hll, hil]
  unfold bnL
  generalize bkOf n es (a, b) = bk at *
  generalize lk (blkL n es) (es.idxOf (a, b)) = lab at *
  generalize blkL n es = L at *
  generalize es.idxOf (a, b) = ix at *
  generalize nodesL n bk = ys at *
  have Hh := Lib.hid hh
  have Ht := Lib.hid ht
  have Hix := Lib.hid hix
  have Hbk := Lib.hid hbk
  have Hno := Lib.hid hno
  have G1 := Lib.hid g1
  have Hll := Lib.hid hll
  have HX := Lib.hid hx
  clear hh ht hix hbk hno g1 hll hx hv hval hbl hin hbe hblen
  go_enter Try.func45, Try.ntmps45
  go_wp2_with fail
  generalize hW1 : World.alloc _ _ = W1
  have gW1 : Nx w W1 := by subst hW1; exact (by repeat (first | exact Nx.refl _ | assumption | apply Nx.alloc | apply Nx.drew | apply Nx.drewN | (refine Nx.setCell ?_ (by first | (simp; done) | (simp; omega) | omega) _) | refine Nx.trans ?_ (by assumption)))
  have sW1 : W1.heap.size = w.heap.size + 2 := by subst hW1; simp
  have X0 : Bx W1 (w.heap.size) 33 [V n, .slice A es.length c] := by subst hW1; have h := Bx.alloc w 33 [V n, .slice A es.length c]; have h := h.nx (Nx.alloc (Nx.refl _) (.cells #[V a, V b] 44)); simpa using h
  have X1 : Bx W1 (w.heap.size + 1) 44 [V a, V b] := by subst hW1; have h := Bx.alloc (w.alloc (.cells #[V n, .slice A es.length c] 33)) 44 [V a, V b]; simpa using h
  have X0_0 := X0.cell (j := 0) rfl
  have X0_1 := X0.cell (j := 1) rfl
  have X0_z := X0.lt
  have X1_0 := X1.cell (j := 0) rfl
  have X1_1 := X1.cell (j := 1) rfl
  have X1_z := X1.lt
  have HsW1 := Lib.hid sW1
  have lW1 : w.heap.size + 2 ≤ W1.heap.size := by omega
  clear hW1 sW1
  have N := gW1
  refine (Hh.out _ (HX.out.nx N) (by omega)).mono ?_
  rintro e w2 ⟨rfl, hn2⟩
  replace X0 := X0.nx hn2
  replace X0_0 := X0.cell (j := 0) rfl
  replace X0_1 := X0.cell (j := 1) rfl
  replace X0_z := X0.lt
  replace X1 := X1.nx hn2
  replace X1_0 := X1.cell (j := 0) rfl
  replace X1_1 := X1.cell (j := 1) rfl
  replace X1_z := X1.lt
  replace N := N.trans hn2
  go_wp2_with fail
  refine (Ht.out _ (HX.out.nx N)).mono ?_
  rintro e w3 ⟨B, d, rfl, ho3, hn3⟩
  replace X0 := X0.nx hn3
  replace X0_0 := X0.cell (j := 0) rfl
  replace X0_1 := X0.cell (j := 1) rfl
  replace X0_z := X0.lt
  replace X1 := X1.nx hn3
  replace X1_0 := X1.cell (j := 0) rfl
  replace X1_1 := X1.cell (j := 1) rfl
  replace X1_z := X1.lt
  replace N := N.trans hn3
  have hB := ho3.intsAt
  rw [Hll.out]
  obtain ⟨b3, off3, rfl, hb3, h3⟩ := hB.rd G1.out
  have HB := Lib.hid hB
  have z3 := N.size
  clear ho3 hB hn2 hn3
  go_wp2_with fail
  have kp : ∀ w', Nx w3 w' → (fun w_ => Nx w3 w_ ∧ w_.cell? ⟨w.heap.size, 0, none⟩ = some (V n) ∧ w_.cell? ⟨w.heap.size, 1, none⟩ = some (.slice A es.length c) ∧ w_.cell? ⟨w.heap.size + 1, 0, none⟩ = some (V a) ∧ w_.cell? ⟨w.heap.size + 1, 1, none⟩ = some (V b) ∧ w_.cell? ⟨b3, off3 + ix, none⟩ = some (V lab)) w' := fun w' h => ⟨h, h.cell X0_z X0_0, h.cell X0_z X0_1, h.cell X1_z X1_0, h.cell X1_z X1_1, h.cell hb3 h3⟩
  have hdr : Nx w3 w3.drew := .drew (.refl _)
  go_region_held3 (fun w_ => Nx w3 w_ ∧ w_.cell? ⟨w.heap.size, 0, none⟩ = some (V n) ∧ w_.cell? ⟨w.heap.size, 1, none⟩ = some (.slice A es.length c) ∧ w_.cell? ⟨w.heap.size + 1, 0, none⟩ = some (V a) ∧ w_.cell? ⟨w.heap.size + 1, 1, none⟩ = some (V b) ∧ w_.cell? ⟨b3, off3 + ix, none⟩ = some (V lab))
    (first | exact kp _ hdr | exact kp _ hn4 | exact kp _ hn5 | exact kp _ hn6)
    (first
      | (go_at_call 81; (with_reducible refine (Hix.out _ (HX.out.nx (N.trans hdr))).mono ?_); rintro e w4 ⟨rfl, hn4'⟩; have hn4 : Nx w3 w4 := hdr.trans hn4')
      | (go_at_call 80; (with_reducible refine (Hbk.out _ d _ (HX.out.nx (N.trans hn4)) (HB.out.nx hn4)).mono ?_); rintro e w5 ⟨D, d5, rfl, ho5, hn5'⟩; have hn5 : Nx w3 w5 := hn4.trans hn5')
      | (go_at_call 79; (with_reducible refine (Hno.out D d5 _ ho5.edgesAt).mono ?_); rintro e w6 ⟨F, fv, fc, rfl, ho6, hn6'⟩; have hn6 : Nx w3 w6 := hn5.trans hn6'))
  have Ho6 := Lib.hid ho6
  have z5 := hn5.size
  clear ho6
  go_wp2
  refine bodyPost_ret (v := tupB true (.slice F ys.length fv)) (by simp [results, Try.f45, go_sem, *]) rfl ?_
  exact ⟨F, fv, fc, rfl, Ho6.out.mono (by omega), N.trans hn6⟩
theorem iBlockNodes_no (n : Int) (A : Option Addr) (c : Nat) (es : List (Int × Int)) (a b : Int) (w : World) (hx : EdgesAt w A es) (hl : es.length ≤ 1048576) (hv : ¬ HasB n es a b) :
    Calls Try.prog 45 #[.agg #[V n, .slice A es.length c], Ed a b] w (RetO [] (tupB false) w) := by
  have hh := fun w' h h2 => iHasEdge_c n A c es a b w' h h2
  rw [show decide (HasB n es a b) = false by simpa using hv] at hh
  have Hh := Lib.hid hh
  clear hh hv
  go_enter Try.func45, Try.ntmps45
  go_wp2_with fail
  generalize hW1 : World.alloc _ _ = W1
  have gW1 : Nx w W1 := by subst hW1; exact (by repeat (first | exact Nx.refl _ | assumption | apply Nx.alloc | apply Nx.drew | apply Nx.drewN | (refine Nx.setCell ?_ (by first | (simp; done) | (simp; omega) | omega) _) | refine Nx.trans ?_ (by assumption)))
  have sW1 : W1.heap.size = w.heap.size + 2 := by subst hW1; simp
  have X0 : Bx W1 (w.heap.size) 33 [V n, .slice A es.length c] := by subst hW1; have h := Bx.alloc w 33 [V n, .slice A es.length c]; have h := h.nx (Nx.alloc (Nx.refl _) (.cells #[V a, V b] 44)); simpa using h
  have X1 : Bx W1 (w.heap.size + 1) 44 [V a, V b] := by subst hW1; have h := Bx.alloc (w.alloc (.cells #[V n, .slice A es.length c] 33)) 44 [V a, V b]; simpa using h
  have X0_0 := X0.cell (j := 0) rfl
  have X0_1 := X0.cell (j := 1) rfl
  have X0_z := X0.lt
  have X1_0 := X1.cell (j := 0) rfl
  have X1_1 := X1.cell (j := 1) rfl
  have X1_z := X1.lt
  have HsW1 := Lib.hid sW1
  have lW1 : w.heap.size + 2 ≤ W1.heap.size := by omega
  clear hW1 sW1
  have N := gW1
  refine (Hh.out _ (hx.nx N) (by omega)).mono ?_
  rintro e w2 ⟨rfl, hn2⟩
  go_wp2
  refine bodyPost_ret (v := tupB false (.slice none 0 0)) (by simp [results, Try.f45, go_sem, *]) rfl ?_
  exact ⟨none, 0, 0, rfl, OwnI.nil _ _ _, N.trans hn2⟩

set_option maxRecDepth 100000 in
set_option maxHeartbeats 8000000 in
theorem sBlockNodes_yes (n : Nat) (A : Option Addr) (c : Nat) (es : List (Int × Int)) (a b : Int) (w : World) (hx : EdgesAt w A es) (hl : es.length ≤ 1048576) (hv : HasB n es a b) :
    Calls Try.prog 43 #[.agg #[V n, .slice A es.length c], Ed a b] w (RetO (bnL n es (a, b)) (tupB true) w) := by
  have hh := fun w' h h2 => sHasEdge_c n A c es a b w' h h2
  rw [show decide (HasB n es a b) = true by simpa using hv] at hh
  have hval := hv.1
  have h16 := hval.2.1
  have h40 := hval.2.2.1
  have ht := fun w' h => l5Blocks_c n A c es w' h h40 (by omega) (by have := hval.edOk; simpa using this) hval.nodupB
  have hlen := blocksOf_len n es
  rw [blocksOf_yes hval] at hlen
  simp only [Int.toNat_natCast] at hlen
  have huq : ∀ (k : Nat) (bb : Es), (blocksL n es)[k]? = some bb → (a, b) ∈ bb → bb = bkOf n es (a, b) := fun k bb h1 h2 => bk_uniq hval.nodupB (List.mem_of_getElem? h1) h2
  have hex : ∃ (k : Nat) (bb : Es), (blocksL n es)[k]? = some bb ∧ (a, b) ∈ bb := by
    obtain ⟨bb, h1, h2⟩ := bk_ex (n := n) hval.nodupB hv.2
    obtain ⟨k, hk⟩ := List.mem_iff_getElem?.1 h1
    exact ⟨k, bb, hk, h2⟩
  unfold bnL
  generalize bkOf n es (a, b) = bk at *
  generalize blocksL n es = bs at *
  have Hh := Lib.hid hh
  have Ht := Lib.hid ht
  have Huq := Lib.hid huq
  have Hex := Lib.hid hex
  have hb40 : bs.length ≤ 40 := hlen.1
  have Hlen := Lib.hid hlen.2
  have HX := Lib.hid hx
  clear hh ht huq hex hx hv hval hlen
  go_enter Try.func43, Try.ntmps43
  go_wp2_with fail
  generalize hW1 : World.alloc _ _ = W1
  have gW1 : Nx w W1 := by subst hW1; exact (by repeat (first | exact Nx.refl _ | assumption | apply Nx.alloc | apply Nx.drew | apply Nx.drewN | (refine Nx.setCell ?_ (by first | (simp; done) | (simp; omega) | omega) _) | refine Nx.trans ?_ (by assumption)))
  have sW1 : W1.heap.size = w.heap.size + 2 := by subst hW1; simp
  have X0 : Bx W1 (w.heap.size) 33 [V n, .slice A es.length c] := by subst hW1; have h := Bx.alloc w 33 [V n, .slice A es.length c]; have h := h.nx (Nx.alloc (Nx.refl _) (.cells #[V a, V b] 44)); simpa using h
  have X1 : Bx W1 (w.heap.size + 1) 44 [V a, V b] := by subst hW1; have h := Bx.alloc (w.alloc (.cells #[V n, .slice A es.length c] 33)) 44 [V a, V b]; simpa using h
  have X0_0 := X0.cell (j := 0) rfl
  have X0_1 := X0.cell (j := 1) rfl
  have X0_z := X0.lt
  have X1_0 := X1.cell (j := 0) rfl
  have X1_1 := X1.cell (j := 1) rfl
  have X1_z := X1.lt
  have HsW1 := Lib.hid sW1
  have lW1 : w.heap.size + 2 ≤ W1.heap.size := by omega
  clear hW1 sW1
  have N := gW1
  refine (Hh.out _ (HX.out.nx N) (by omega)).mono ?_
  rintro e w2 ⟨rfl, hn2⟩
  replace X0 := X0.nx hn2
  replace X0_0 := X0.cell (j := 0) rfl
  replace X0_1 := X0.cell (j := 1) rfl
  replace X0_z := X0.lt
  replace X1 := X1.nx hn2
  replace X1_0 := X1.cell (j := 0) rfl
  replace X1_1 := X1.cell (j := 1) rfl
  replace X1_z := X1.lt
  replace N := N.trans hn2
  go_wp2_with fail
  refine (Ht.out _ (HX.out.nx N)).mono ?_
  rintro e w3 ⟨D, d, q, rfl, hqb, hoq, hn3⟩
  replace X0 := X0.nx hn3
  replace X0_0 := X0.cell (j := 0) rfl
  replace X0_1 := X0.cell (j := 1) rfl
  replace X0_z := X0.lt
  replace X1 := X1.nx hn3
  replace X1_0 := X1.cell (j := 0) rfl
  replace X1_1 := X1.cell (j := 1) rfl
  replace X1_z := X1.lt
  replace N := N.trans hn3
  have hrq := hoq.rowsAt
  have hq1 : Hid (q.length = bs.length) := Lib.hid (by rw [← hqb, rowsOf_length])
  have hqb' := Lib.hid hqb
  have Hrq := Lib.hid hrq
  clear hoq hn2 hn3 hqb hrq
  go_wp2_with fail
  go_loopg [7] bs.length (fun gk i wr => ∃ k : Nat, k + gk = bs.length ∧ i = .int .i64 k ∧ Nx w3 wr ∧ ∀ j, j < k → ∀ bb : Es, bs[j]? = some bb → (a, b) ∉ bb)
  case atStart => exact ⟨0, by omega, rfl, Nx.refl _, fun j hj => by omega⟩
  case round =>
    obtain ⟨k, hk, rfl, hn, hno⟩ := hrel
    replace X0 := X0.nx hn
    replace X0_0 := X0.cell (j := 0) rfl
    replace X0_1 := X0.cell (j := 1) rfl
    replace X0_z := X0.lt
    replace X1 := X1.nx hn
    replace X1_0 := X1.cell (j := 0) rfl
    replace X1_1 := X1.cell (j := 1) rfl
    replace X1_z := X1.lt
    have Hno := Lib.hid hno
    clear hno
    by_cases hlt : k < bs.length
    · obtain ⟨r, hr⟩ : ∃ r, q[k]? = some r := ⟨_, List.getElem?_eq_getElem (by rw [hq1.out]; exact hlt)⟩
      have hbk : bs[k]? = some r.2.2 := by rw [← hqb'.out]; exact rowsOf_get hr
      obtain ⟨b1, o1, hD1, hb1, r1, hE⟩ := (Hrq.out.nx hn).at' hr
      have hbl40 := Hlen.out _ (List.mem_of_getElem? hbk)
      obtain ⟨Ar, cr, bb⟩ := r
      simp only at r1 hE hbk hbl40
      subst hD1
      have Hbk := Lib.hid hbk
      have hfd := fun w' h => l1Find_c Ar cr bb a b w' h (by omega)
      have hix := idxE_nonneg bb (a, b)
      have hno := fun w' h => l5Nodes_c n Ar cr bb w' h (by omega) (by omega)
      obtain ⟨ix, hixe⟩ : ∃ ix, idxE bb (a, b) = ix := ⟨_, rfl⟩
      rw [hixe] at hfd hix
      have Hfd := Lib.hid hfd
      have Hix := Lib.hid hix
      have Hnd := Lib.hid hno
      have HE := Lib.hid hE
      clear hbk hfd hixe hix hno hr hE
      go_wp2_with fail
      have kp : ∀ w', Nx wr w' → (fun w_ => Nx wr w_ ∧ w_.cell? ⟨w.heap.size + 1, 0, none⟩ = some (V a) ∧ w_.cell? ⟨w.heap.size + 1, 1, none⟩ = some (V b) ∧ w_.cell? ⟨b1, o1 + k, none⟩ = some (.slice Ar bb.length cr)) w' := fun w' h => ⟨h, h.cell X1_z X1_0, h.cell X1_z X1_1, h.cell hb1 r1⟩
      have hdr : Nx wr wr.drew := .drew (.refl _)
      have hbq : (k : Int) < (bs.length : Int) := by omega
      by_cases h0 : 0 ≤ ix
      · have d0 : decide (0 ≤ ix) = true := by simpa using h0
        have hbe := Huq.out k bb Hbk.out (Hix.out.1 h0)
        subst hbe
        go_region_held3 (fun w_ => Nx wr w_ ∧ w_.cell? ⟨w.heap.size + 1, 0, none⟩ = some (V a) ∧ w_.cell? ⟨w.heap.size + 1, 1, none⟩ = some (V b) ∧ w_.cell? ⟨b1, o1 + k, none⟩ = some (.slice Ar bb.length cr))
          (first | exact kp _ hdr | exact kp _ hn4)
          (first | (go_at_call 76; (with_reducible refine (Hfd.out _ (HE.out.nx hdr)).mono ?_); rintro e w4 ⟨rfl, hn4'⟩; have hn4 : Nx wr w4 := hdr.trans hn4'))
        clear kp hdr
        replace X0 := X0.nx hn4
        replace X0_0 := X0.cell (j := 0) rfl
        replace X0_1 := X0.cell (j := 1) rfl
        replace X0_z := X0.lt
        replace X1 := X1.nx hn4
        replace X1_0 := X1.cell (j := 0) rfl
        replace X1_1 := X1.cell (j := 1) rfl
        replace X1_z := X1.lt
        replace r1 := hn4.cell hb1 r1
        replace hb1 := Nat.lt_of_lt_of_le hb1 hn4.size
        have HE4 := Lib.hid (HE.out.nx hn4)
        have N4 := N.trans (hn.trans hn4)
        have z4 := N4.size
        clear hn4 hn
        go_wp2_with fail
        have kp : ∀ w', Nx w4 w' → (fun w_ => Nx w4 w_ ∧ w_.cell? ⟨w.heap.size, 0, none⟩ = some (V n) ∧ w_.cell? ⟨b1, o1 + k, none⟩ = some (.slice Ar bb.length cr)) w' := fun w' h => ⟨h, h.cell X0_z X0_0, h.cell hb1 r1⟩
        have hdr : Nx w4 w4.drew := .drew (.refl _)
        go_region_held3 (fun w_ => Nx w4 w_ ∧ w_.cell? ⟨w.heap.size, 0, none⟩ = some (V n) ∧ w_.cell? ⟨b1, o1 + k, none⟩ = some (.slice Ar bb.length cr))
          (first | exact kp _ hdr | exact kp _ hn5)
          (first | (go_at_call 77; (with_reducible refine (Hnd.out _ (HE4.out.nx hdr)).mono ?_); rintro e w5 ⟨F, fc, rfl, ho5, hn5'⟩; have hn5 : Nx w4 w5 := hdr.trans hn5'))
        have zd : w4.drew.heap.size = w4.heap.size := size_drew_ _
        have Ho5 := Lib.hid (ho5.mono (base' := w.heap.size) (by omega))
        have N5 := N4.trans hn5
        clear ho5 kp
        go_wp2
        refine bodyPost_ret (v := tupB true (.slice F (nodesL n bb).length fc)) (by simp [results, Try.f43, go_sem, *]) rfl ?_
        exact ⟨F, fc, fc, rfl, Ho5.out, N5⟩
      · have d0 : decide (0 ≤ ix) = false := by simpa using h0
        go_region_held3 (fun w_ => Nx wr w_ ∧ w_.cell? ⟨w.heap.size + 1, 0, none⟩ = some (V a) ∧ w_.cell? ⟨w.heap.size + 1, 1, none⟩ = some (V b) ∧ w_.cell? ⟨b1, o1 + k, none⟩ = some (.slice Ar bb.length cr))
          (first | exact kp _ hdr | exact kp _ hn4)
          (first | (go_at_call 76; (with_reducible refine (Hfd.out _ (HE.out.nx hdr)).mono ?_); rintro e w4 ⟨rfl, hn4'⟩; have hn4 : Nx wr w4 := hdr.trans hn4'))
        go_wp2
        go_roundg (gk - 1)
        case measure => omega
        case rel =>
          refine ⟨k + 1, by omega, by go_num, hn.trans hn4, fun j hj bb' hb' => ?_⟩
          rcases Nat.lt_succ_iff_lt_or_eq.1 hj with h | rfl
          · exact Hno.out j h bb' hb'
          · rw [Hbk.out] at hb'; injection hb' with hb'; subst hb'; exact fun h => by have := Hix.out.2 h; omega
    · exfalso
      obtain ⟨j, bb, h1, h2⟩ := Hex.out
      exact Hno.out j (by have := (List.getElem?_eq_some_iff.1 h1).1; omega) bb h1 h2
theorem sBlockNodes_no (n : Int) (A : Option Addr) (c : Nat) (es : List (Int × Int)) (a b : Int) (w : World) (hx : EdgesAt w A es) (hl : es.length ≤ 1048576) (hv : ¬ HasB n es a b) :
    Calls Try.prog 43 #[.agg #[V n, .slice A es.length c], Ed a b] w (RetO [] (tupB false) w) := by
  have hh := fun w' h h2 => sHasEdge_c n A c es a b w' h h2
  rw [show decide (HasB n es a b) = false by simpa using hv] at hh
  have Hh := Lib.hid hh
  clear hh hv
  go_enter Try.func43, Try.ntmps43
  go_wp2_with fail
  generalize hW1 : World.alloc _ _ = W1
  have gW1 : Nx w W1 := by subst hW1; exact (by repeat (first | exact Nx.refl _ | assumption | apply Nx.alloc | apply Nx.drew | apply Nx.drewN | (refine Nx.setCell ?_ (by first | (simp; done) | (simp; omega) | omega) _) | refine Nx.trans ?_ (by assumption)))
  have sW1 : W1.heap.size = w.heap.size + 2 := by subst hW1; simp
  have X0 : Bx W1 (w.heap.size) 33 [V n, .slice A es.length c] := by subst hW1; have h := Bx.alloc w 33 [V n, .slice A es.length c]; have h := h.nx (Nx.alloc (Nx.refl _) (.cells #[V a, V b] 44)); simpa using h
  have X1 : Bx W1 (w.heap.size + 1) 44 [V a, V b] := by subst hW1; have h := Bx.alloc (w.alloc (.cells #[V n, .slice A es.length c] 33)) 44 [V a, V b]; simpa using h
  have X0_0 := X0.cell (j := 0) rfl
  have X0_1 := X0.cell (j := 1) rfl
  have X0_z := X0.lt
  have X1_0 := X1.cell (j := 0) rfl
  have X1_1 := X1.cell (j := 1) rfl
  have X1_z := X1.lt
  have HsW1 := Lib.hid sW1
  have lW1 : w.heap.size + 2 ≤ W1.heap.size := by omega
  clear hW1 sW1
  have N := gW1
  refine (Hh.out _ (hx.nx N) (by omega)).mono ?_
  rintro e w2 ⟨rfl, hn2⟩
  replace N := N.trans hn2
  have z2 := N.size
  go_wp2
  refine bodyPost_ret (v := tupB false (.slice (some ⟨w2.heap.size, 0, none⟩) 0 0)) (by simp [results, Try.f43, go_sem, *]) rfl ?_
  exact ⟨some ⟨w2.heap.size, 0, none⟩, 0, 0, rfl, OwnI.empty w2 w.heap.size 3 z2, N.alloc _⟩
end Go.Proofs.Ytafhojiialmbcaa
