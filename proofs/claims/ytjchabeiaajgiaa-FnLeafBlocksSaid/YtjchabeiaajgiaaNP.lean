/- Contracts: LeafBlocks of both. -/
import Derived.Test.YtjchabeiaajgiaaNO
import Derived.Test.YtjchabeiaajgiaaY10
namespace Go.Proofs.Ytjchabeiaajgiaa
open Go.RowKit set_option linter.unusedVariables false set_option linter.unusedSimpArgs false

theorem RowsAt.at' {w : World} {A : Option Addr} {q : List Row} {k : Nat} {r : Row} (h : RowsAt w A q) (hr : q[k]? = some r) : ∃ b off, A = some ⟨b, off, none⟩ ∧ b < w.heap.size ∧ w.cell? ⟨b, off + k, none⟩ = some (.slice r.1 r.2.2.length r.2.1) ∧ EdgesAt w r.1 r.2.2 := by
  obtain ⟨hk, he⟩ := List.getElem?_eq_some_iff.1 hr
  obtain ⟨b, off, e, hb, hc⟩ := h.1 (by omega)
  have := hc k hk
  rw [he] at this
  exact ⟨b, off, e, hb, this, h.2 r (List.mem_of_getElem? hr)⟩
theorem Gx.rows {p : Nat → Prop} {a w : World} (g : Gx p a w) {A : Option Addr} {q : List Row} (h : RowsAt a A q) (hA : ∀ k, blk A = some k → ¬ p k) (hq : ∀ r ∈ q, ∀ k, blk r.1 = some k → ¬ p k) : RowsAt w A q := by
  refine ⟨fun h0 => ?_, fun r hr => g.edges (h.2 r hr) (hq r hr)⟩
  obtain ⟨b, off, rfl, hb, hc⟩ := h.1 h0
  exact ⟨b, off, rfl, Nat.lt_of_lt_of_le hb g.size, fun k hk => g.cell hb (hA b rfl) (hc k hk)⟩
/-- a block with at most one cut node -/
noncomputable def leafB (n : Nat) (es b : Es) : Bool := decide (((nodesL n b).filter (cutB n es)).length ≤ 1)
noncomputable def leavesOf (n : Int) (es : Es) : List Int := byK (fun i => leafB n.toNat es ((blocksOf n es)[i.toNat]?.getD [])) (blocksOf n es).length
theorem leavesOf_length (n : Int) (es : Es) : (leavesOf n es).length ≤ 40 := Nat.le_trans (byK_len _ _) (blocksOf_len n es).1
theorem nodesL_bd {n : Nat} {b : Es} {y : Int} (h : y ∈ nodesL n b) : 0 ≤ y ∧ y < n := ⟨(mem_byK.1 h).1, (mem_byK.1 h).2.1⟩
theorem filter_take1 {p : Int → Bool} {ys : List Int} {j : Nat} {y : Int} (h : ys[j]? = some y) : ((ys.take (j + 1)).filter p).length = ((ys.take j).filter p).length + (if p y = true then 1 else 0) := by
  obtain ⟨h1, h2⟩ := List.getElem?_eq_some_iff.1 h
  rw [List.take_succ_eq_append_getElem h1, h2, List.filter_append, List.length_append]
  congr 1
  by_cases hp : p y = true
  · rw [if_pos hp, List.filter_cons_of_pos hp]; rfl
  · rw [if_neg hp, List.filter_cons_of_neg hp]; rfl

set_option maxRecDepth 100000 in
set_option maxHeartbeats 8000000 in
theorem iLeafBlocks_c (n : Int) (A : Option Addr) (c : Nat) (es : List (Int × Int)) (w : World) (hx : EdgesAt w A es) (hl : es.length ≤ 1048576) (hcap : es.length ≤ c) :
    Calls Try.prog 44 #[.agg #[V n, .slice A es.length c]] w (RetI 3 (leavesOf n es) w) := by
  obtain ⟨i0, hi, hz0, hz1, hz2⟩ := info_parts infoI
  have Hi := Lib.hid hi
  have Hz0 := Lib.hid hz0
  have Hz1 := Lib.hid hz1
  have Hz2 := Lib.hid hz2
  have HX := Lib.hid hx
  clear hi hz0 hz1 hz2 hx
  have Hbl := Lib.hid (fun w' h => iBlocksOf_c n A c es w' h hl hcap)
  clear hcap
  by_cases hv : Valid n es
  · have hlen := blocksOf_len n es
    have hmem : ∀ b ∈ blocksOf n es, ∀ e ∈ b, 0 ≤ e.1 ∧ e.1 < (n.toNat : Int) ∧ 0 ≤ e.2 ∧ e.2 < (n.toNat : Int) := fun b hb e he => by
      rw [blocksOf_yes hv] at hb
      have := hv.ends e (blocksL_mem hb e he)
      omega
    have hcn := fun v W h => isCutNode_c n.toNat A c es v W h hl (by have := hv.2.1; omega) hv.inR hv.apart hv.nodupB hv.ends
    have h01 := hv.1
    have h16 := hv.2.1
    have hlv : leavesOf n es = byK (fun i => leafB n.toNat es ((blocksOf n es)[i.toNat]?.getD [])) (blocksOf n es).length := rfl
    rw [hlv]
    clear hv hlv
    generalize blocksOf n es = bs at *
    obtain ⟨n, rfl⟩ := Int.eq_ofNat_of_zero_le (show 0 ≤ n by omega)
    simp only [Int.toNat_natCast] at hcn hmem ⊢
    have hleaf : ∀ b, leafB n es b = decide (((nodesL n b).filter (cutB n es)).length ≤ 1) := fun b => rfl
    have Hleaf := Lib.hid hleaf
    generalize cutB n es = p at *
    generalize leafB n es = lf at *
    have Hcn := Lib.hid hcn
    have Hmem := Lib.hid hmem
    have hb40 : bs.length ≤ 40 := hlen.1
    have Hlen := Lib.hid hlen.2
    have hP := Lib.hid (show ∀ i : Nat, ∀ b, bs[i]? = some b → (fun i : Int => lf (bs[i.toNat]?.getD [])) (i : Int) = lf b from fun i b h => by simp [h])
    generalize (fun i : Int => lf (bs[i.toNat]?.getD [])) = P at *
    clear hcn hmem hlen hleaf
    go_enter Try.func44, Try.ntmps44
    go_wp2_with fail
    generalize hW1 : World.alloc _ _ = W1
    have gW1 : Nx w W1 := by subst hW1; exact (by repeat (first | exact Nx.refl _ | assumption | apply Nx.alloc | apply Nx.drew | apply Nx.drewN | (refine Nx.setCell ?_ (by first | (simp; done) | (simp; omega) | omega) _) | refine Nx.trans ?_ (by assumption)))
    have sW1 : W1.heap.size = w.heap.size + 2 := by subst hW1; simp
    have X0 : Bx W1 (w.heap.size) 26 [V n, .slice A es.length c] := by subst hW1; have h := Bx.alloc w 26 [V n, .slice A es.length c]; have h := h.nx (Nx.alloc (Nx.refl _) (.cells #[] 3)); simpa using h
    have X1 : Bx W1 (w.heap.size + 1) 3 [] := by subst hW1; have h := Bx.alloc (w.alloc (.cells #[V n, .slice A es.length c] 26)) 3 []; simpa using h
    have X0_0 := X0.cell (j := 0) rfl
    have X0_1 := X0.cell (j := 1) rfl
    have X0_z := X0.lt
    have X1_z := X1.lt
    have HsW1 := Lib.hid sW1
    have lW1 : w.heap.size + 2 ≤ W1.heap.size := by omega
    clear hW1 sW1
    have ho0 : OwnI W1 (w.heap.size + 1) 3 (some ⟨w.heap.size + 1, 0, none⟩) 0 [] := X1.emptyI (Nat.le_refl _)
    have N := gW1
    refine (Hbl.out _ (HX.out.nx N)).mono ?_
    rintro e w3 ⟨D, d, q, rfl, hqb, hoq, hn3⟩
    replace X0 := X0.nx hn3
    replace X0_0 := X0.cell (j := 0) rfl
    replace X0_1 := X0.cell (j := 1) rfl
    replace X0_z := X0.lt
    replace N := N.trans hn3
    have ho3 := Lib.hid (ho0.nx hn3)
    have hrq := hoq.rowsAt
    have hqA : Hid (∀ k, blk D = some k → w.heap.size + 2 ≤ k) := Lib.hid fun k hk => by have := (hoq.1.lt k hk).1; omega
    have hqr : Hid (∀ r ∈ q, ∀ k, blk r.1 = some k → w.heap.size + 2 ≤ k) := Lib.hid fun r hr k hk => by have := ((hoq.2.1 r hr).lt k hk).1; omega
    have hq1 : Hid (q.length = bs.length) := Lib.hid (by rw [← hqb, rowsOf_length])
    have hqb' := Lib.hid hqb
    have z3 := hn3.size
    have Hrq := Lib.hid hrq
    clear ho0 hoq hn3 gW1 hqb hrq X1
    go_wp2_with fail
    go_loopg [3, 4, 5, 6, 8, 13] bs.length (fun gk out _ _ _ _ i wr => ∃ (k : Nat) (A' : Option Addr) (c' : Nat), k + gk = bs.length ∧ i = .int .i64 k ∧ out = .slice A' (byK P k).length c' ∧ OwnI wr (w.heap.size + 1) 3 A' c' (byK P k) ∧ (∀ j, blk A' = some j → j = w.heap.size + 1 ∨ w3.heap.size ≤ j) ∧ Nx w wr ∧ Gx (fun j => j = w.heap.size + 1) w3 wr)
    case atStart => exact ⟨0, some ⟨w.heap.size + 1, 0, none⟩, 0, by omega, rfl, by simp [byK], by simpa [byK] using ho3.out, fun j hj => by simp [blk] at hj; omega, N, Gx.refl _ _⟩
    case round =>
      obtain ⟨k, A', c', hk, rfl, rfl, hown, hAk, hn0, gx⟩ := hrel
      obtain ⟨gko, rfl⟩ : ∃ g : Nat, g = gk := ⟨_, rfl⟩
      obtain ⟨wo, rfl⟩ : ∃ x : World, x = wr := ⟨_, rfl⟩
      replace X0 := gx.bx X0 (by omega)
      replace X0_0 := X0.cell (j := 0) rfl
      replace X0_1 := X0.cell (j := 1) rfl
      replace X0_z := X0.lt
      have zx := gx.size
      by_cases hlt : k < bs.length
      · have hst := byK_succ P k
        have hlen2 := byK_len P k
        generalize byK P k = L at *
        have Hst := Lib.hid hst
        have Hown := Lib.hid hown
        have HAk := Lib.hid hAk
        clear hst hown hAk
        obtain ⟨r, hr⟩ : ∃ r, q[k]? = some r := ⟨_, List.getElem?_eq_getElem (by rw [hq1.out]; exact hlt)⟩
        have hbk : bs[k]? = some r.2.2 := by rw [← hqb'.out]; exact rowsOf_get hr
        obtain ⟨b1, o1, hD1, hb1, r1, hE⟩ := (gx.rows Hrq.out (fun k hk => by have := hqA.out k hk; omega) (fun r hr k hk => by have := hqr.out r hr k hk; omega)).at' hr
        have hmb := List.mem_of_getElem? hbk
        have hPk := hP.out k _ hbk
        rw [Hleaf.out] at hPk
        have hbl40 := Hlen.out _ hmb
        have hbnd := Hmem.out _ hmb
        obtain ⟨Ar, cr, b⟩ := r
        simp only at r1 hE hPk hbl40 hbnd
        have HD1 := Lib.hid hD1
        have hno := fun w' h => nodesOf_c n Ar cr b w' h (by omega) hbnd
        have hy16 := byK_len (onB b) n
        have hyb : ∀ y ∈ nodesL n b, 0 ≤ y ∧ y < n := fun y h => nodesL_bd h
        rw [show byK (onB b) n = nodesL n b from rfl] at hy16
        generalize nodesL n b = ys at *
        have Hno := Lib.hid hno
        have HPk := Lib.hid hPk
        have Hyb := Lib.hid hyb
        subst hD1
        clear hno hPk hbk hr hmb hbnd hyb
        go_wp2_with fail
        refine (Hno.out _ hE).mono ?_
        rintro e w5 ⟨B, bc, rfl, hB, hn5⟩
        replace X0 := X0.nx hn5
        replace X0_0 := X0.cell (j := 0) rfl
        replace X0_1 := X0.cell (j := 1) rfl
        replace X0_z := X0.lt
        have HB := Lib.hid hB
        clear hB hE r1 hb1
        go_wp2_with fail
        go_loopg [6, 8, 21] ys.length (fun gk cnt _ i wr => ∃ j : Nat, j + gk = ys.length ∧ i = .int .i64 j ∧ cnt = .int .i64 ((ys.take j).filter p).length ∧ Nx w5 wr)
        case atStart => exact ⟨0, by omega, rfl, by simp, Nx.refl _⟩
        case round =>
          obtain ⟨j, hj, rfl, rfl, hn6⟩ := hrel
          replace X0 := X0.nx hn6
          replace X0_0 := X0.cell (j := 0) rfl
          replace X0_1 := X0.cell (j := 1) rfl
          replace X0_z := X0.lt
          have hn56 := hn5.trans hn6
          have hcl : ((ys.take j).filter p).length ≤ 1048576 := Nat.le_trans (List.length_filter_le _ _) (by rw [List.length_take]; omega)
          by_cases hjl : j < ys.length
          · obtain ⟨y, hy⟩ : ∃ y, ys[j]? = some y := ⟨_, List.getElem?_eq_getElem hjl⟩
            have hft := filter_take1 (p := p) hy
            have Hft := Lib.hid hft
            generalize ((ys.take j).filter p).length = cn at *
            obtain ⟨b2, o2, hB2, hb2, r2⟩ := (HB.out.nx hn6).rd hy
            subst hB2
            have hyy := Hyb.out y (List.mem_of_getElem? hy)
            clear hy hft
            go_wp2_with fail
            refine (Hcn.out y _ (HX.out.nx (hn0.trans hn56))).mono ?_
            rintro e w7 ⟨rfl, hn7⟩
            cases hq : p y with
            | true =>
              have Hq := Lib.hid (show (if p y = true then 1 else 0) = 1 from if_pos hq)
              clear hq
              go_wp2
              go_roundg (gk - 1)
              case measure => omega
              case rel => exact ⟨j + 1, by omega, by go_num, by rw [Hft.out, Hq.out]; go_num, hn6.trans hn7⟩
            | false =>
              have Hq := Lib.hid (show (if p y = true then 1 else 0) = 0 from if_neg (by simp [hq]))
              clear hq
              go_wp2
              go_roundg (gk - 1)
              case measure => omega
              case rel => exact ⟨j + 1, by omega, by go_num, by rw [Hft.out, Hq.out]; rfl, hn6.trans hn7⟩
          · have hyt : ys.take j = ys := List.take_of_length_le (by omega)
            rw [hyt] at hcl ⊢
            have hsz := hn56.size
            have z0 := hn0.size
            have hn06 := hn0.trans hn56
            have gx6 := gx.nx hn56
            have Ho6 := Lib.hid (Hown.out.nx hn56)
            clear hyt
            by_cases hle : (ys.filter p).length ≤ 1
            · have hL : Hid (byK P (k + 1) = L ++ [(k : Int)]) := Lib.hid (by rw [Hst.out, if_pos (by rw [HPk.out]; simpa using hle)])
              generalize (ys.filter p).length = cn at *
              have dle : decide ((cn : Int) ≤ 1) = true := by simp; omega
              go_wp2_with (at_builtin; go_must (refine appI (base := w.heap.size + 1) (t := 3) L _ k rfl rfl Try.underlying27 Hi.out Hz0.out Hz1.out Hz2.out rfl rfl (Ho6.out.nx (by repeat (first | exact Nx.refl _ | assumption | apply Nx.alloc | apply Nx.drew | apply Nx.drewN | (refine Nx.setCell ?_ (by first | (simp; done) | (simp; omega) | omega) _) | refine Nx.trans ?_ (by assumption)))) rfl (cellN (by simp) rfl) (by omega) (by simp; omega) ?_; intro A2 c2 w8 hown8 hnx8 hgr8 hbl8))
              go_roundg (gko - 1)
              case measure => omega
              case rel =>
                refine ⟨k + 1, A2, c2, by omega, by go_num, by rw [hL.out]; simp, by rw [hL.out]; exact hown8, fun j hj => ?_, hnx8 w (by omega) (hn06.alloc _), (gx6.nx (Nx.alloc (.refl _) _)).grown hgr8 (fun j e => by rcases HAk.out j e with h | h; exact .inl h; exact .inr h)⟩
                rcases hbl8 with h | h
                · exact HAk.out j (h ▸ hj)
                · rw [h] at hj; injection hj with hj; simp at hj; right; omega
            · have hL : Hid (byK P (k + 1) = L) := Lib.hid (by rw [Hst.out, if_neg (by rw [HPk.out]; simpa using hle), List.append_nil])
              generalize (ys.filter p).length = cn at *
              have dle : decide ((cn : Int) ≤ 1) = false := by simp; omega
              go_wp2
              go_roundg (gko - 1)
              case measure => omega
              case rel => exact ⟨k + 1, A', c', by omega, by go_num, by rw [hL.out], by rw [hL.out]; exact Ho6.out, HAk.out, hn06, gx6⟩
      · obtain rfl : k = bs.length := by omega
        go_wp2
        go_ret
        exact ⟨A', c', rfl, hown.mono (by omega), hn0⟩
  · have hlv : leavesOf n es = [] := by unfold leavesOf; rw [blocksOf_no hv]; rfl
    rw [hlv]
    rw [blocksOf_no hv] at Hbl
    clear hv hlv
    go_enter Try.func44, Try.ntmps44
    go_wp2_with fail
    generalize hW1 : World.alloc _ _ = W1
    have gW1 : Nx w W1 := by subst hW1; exact (by repeat (first | exact Nx.refl _ | assumption | apply Nx.alloc | apply Nx.drew | apply Nx.drewN | (refine Nx.setCell ?_ (by first | (simp; done) | (simp; omega) | omega) _) | refine Nx.trans ?_ (by assumption)))
    have sW1 : W1.heap.size = w.heap.size + 2 := by subst hW1; simp
    have X0 : Bx W1 (w.heap.size) 26 [V n, .slice A es.length c] := by subst hW1; have h := Bx.alloc w 26 [V n, .slice A es.length c]; have h := h.nx (Nx.alloc (Nx.refl _) (.cells #[] 3)); simpa using h
    have X1 : Bx W1 (w.heap.size + 1) 3 [] := by subst hW1; have h := Bx.alloc (w.alloc (.cells #[V n, .slice A es.length c] 26)) 3 []; simpa using h
    have X0_0 := X0.cell (j := 0) rfl
    have X0_1 := X0.cell (j := 1) rfl
    have X0_z := X0.lt
    have X1_z := X1.lt
    have HsW1 := Lib.hid sW1
    have lW1 : w.heap.size + 2 ≤ W1.heap.size := by omega
    clear hW1 sW1
    have ho0 : OwnI W1 (w.heap.size + 1) 3 (some ⟨w.heap.size + 1, 0, none⟩) 0 [] := X1.emptyI (Nat.le_refl _)
    refine (Hbl.out _ (HX.out.nx gW1)).mono ?_
    rintro e w3 ⟨D, d, q, rfl, hqb, hoq, hn3⟩
    have ho3 := Lib.hid (ho0.nx hn3)
    have N := gW1.trans hn3
    clear ho0 hoq hqb X1
    go_wp2_with fail
    go_loopg [3, 4, 5, 6, 8, 13] 1 (fun gk out _ _ _ _ i wr => i = .int .i64 0 ∧ out = .slice (some ⟨w.heap.size + 1, 0, none⟩) 0 0 ∧ wr = w3)
    case atStart => exact ⟨rfl, rfl, rfl⟩
    case round =>
      obtain ⟨rfl, rfl, rfl⟩ := hrel
      go_wp2
      go_ret
      exact ⟨_, 0, rfl, ho3.out.mono (by omega), N⟩

set_option maxRecDepth 100000 in
set_option maxHeartbeats 8000000 in
theorem sLeafBlocks_c (n : Int) (A : Option Addr) (c : Nat) (es : List (Int × Int)) (w : World) (hx : EdgesAt w A es) (hl : es.length ≤ 1048576) :
    Calls Try.prog 46 #[.agg #[V n, .slice A es.length c]] w (RetI 3 (leavesOf n es) w) := by
  obtain ⟨i0, hi, hz0, hz1, hz2⟩ := info_parts infoI
  have Hi := Lib.hid hi
  have Hz0 := Lib.hid hz0
  have Hz1 := Lib.hid hz1
  have Hz2 := Lib.hid hz2
  have HX := Lib.hid hx
  clear hi hz0 hz1 hz2 hx
  have hgv := sGraphValid_c n A c es
  by_cases hv : Valid n es
  · rw [show decide (Valid n es) = true by simpa using hv] at hgv
    have Hgv := Lib.hid hgv
    have hbl := fun w' h => l5Blocks_c n.toNat A c es w' h hv.2.2.1 (by have := hv.2.1; omega) hv.edOk hv.nodupB
    rw [hv.nat] at hbl
    rw [← blocksOf_yes hv] at hbl
    have Hbl := Lib.hid hbl
    clear hgv hbl
    have hlen := blocksOf_len n es
    have hmem : ∀ b ∈ blocksOf n es, ∀ e ∈ b, 0 ≤ e.1 ∧ e.1 < (n.toNat : Int) ∧ 0 ≤ e.2 ∧ e.2 < (n.toNat : Int) := fun b hb e he => by
      rw [blocksOf_yes hv] at hb
      have := hv.ends e (blocksL_mem hb e he)
      omega
    have hcn := fun v W h => l4Cut_c n.toNat A c es v W h hl (by have := hv.2.1; omega) hv.inR hv.apart
    have h01 := hv.1
    have h16 := hv.2.1
    have hlv : leavesOf n es = byK (fun i => leafB n.toNat es ((blocksOf n es)[i.toNat]?.getD [])) (blocksOf n es).length := rfl
    rw [hlv]
    clear hv hlv
    generalize blocksOf n es = bs at *
    obtain ⟨n, rfl⟩ := Int.eq_ofNat_of_zero_le (show 0 ≤ n by omega)
    simp only [Int.toNat_natCast] at hcn hmem ⊢
    have hleaf : ∀ b, leafB n es b = decide (((nodesL n b).filter (cutB n es)).length ≤ 1) := fun b => rfl
    have Hleaf := Lib.hid hleaf
    generalize cutB n es = p at *
    generalize leafB n es = lf at *
    have Hcn := Lib.hid hcn
    have Hmem := Lib.hid hmem
    have hb40 : bs.length ≤ 40 := hlen.1
    have Hlen := Lib.hid hlen.2
    have hP := Lib.hid (show ∀ i : Nat, ∀ b, bs[i]? = some b → (fun i : Int => lf (bs[i.toNat]?.getD [])) (i : Int) = lf b from fun i b h => by simp [h])
    generalize (fun i : Int => lf (bs[i.toNat]?.getD [])) = P at *
    clear hcn hmem hlen hleaf
    go_enter Try.func46, Try.ntmps46
    go_wp2_with fail
    generalize hW1 : World.alloc _ _ = W1
    have gW1 : Nx w W1 := by subst hW1; exact (by repeat (first | exact Nx.refl _ | assumption | apply Nx.alloc | apply Nx.drew | apply Nx.drewN | (refine Nx.setCell ?_ (by first | (simp; done) | (simp; omega) | omega) _) | refine Nx.trans ?_ (by assumption)))
    have sW1 : W1.heap.size = w.heap.size + 2 := by subst hW1; simp
    have X0 : Bx W1 (w.heap.size) 26 [V n, .slice A es.length c] := by subst hW1; have h := Bx.alloc w 26 [V n, .slice A es.length c]; have h := h.nx (Nx.alloc (Nx.refl _) (.cells #[] 3)); simpa using h
    have X1 : Bx W1 (w.heap.size + 1) 3 [] := by subst hW1; have h := Bx.alloc (w.alloc (.cells #[V n, .slice A es.length c] 26)) 3 []; simpa using h
    have X0_0 := X0.cell (j := 0) rfl
    have X0_1 := X0.cell (j := 1) rfl
    have X0_z := X0.lt
    have X1_z := X1.lt
    have HsW1 := Lib.hid sW1
    have lW1 : w.heap.size + 2 ≤ W1.heap.size := by omega
    clear hW1 sW1
    have ho0 : OwnI W1 (w.heap.size + 1) 3 (some ⟨w.heap.size + 1, 0, none⟩) 0 [] := X1.emptyI (Nat.le_refl _)
    refine (Hgv.out _ (HX.out.nx gW1) (by omega)).mono ?_
    rintro e w2 ⟨rfl, hn2⟩
    replace X0 := X0.nx hn2
    replace X0_0 := X0.cell (j := 0) rfl
    replace X0_1 := X0.cell (j := 1) rfl
    replace X0_z := X0.lt
    have N := gW1.trans hn2
    replace ho0 := ho0.nx hn2
    have z2 := hn2.size
    go_wp2_with fail
    refine (Hbl.out _ (HX.out.nx N)).mono ?_
    rintro e w3 ⟨D, d, q, rfl, hqb, hoq, hn3⟩
    replace X0 := X0.nx hn3
    replace X0_0 := X0.cell (j := 0) rfl
    replace X0_1 := X0.cell (j := 1) rfl
    replace X0_z := X0.lt
    replace N := N.trans hn3
    have ho3 := Lib.hid (ho0.nx hn3)
    have hrq := hoq.rowsAt
    have hqA : Hid (∀ k, blk D = some k → w.heap.size + 2 ≤ k) := Lib.hid fun k hk => by have := (hoq.1.lt k hk).1; omega
    have hqr : Hid (∀ r ∈ q, ∀ k, blk r.1 = some k → w.heap.size + 2 ≤ k) := Lib.hid fun r hr k hk => by have := ((hoq.2.1 r hr).lt k hk).1; omega
    have hq1 : Hid (q.length = bs.length) := Lib.hid (by rw [← hqb, rowsOf_length])
    have hqb' := Lib.hid hqb
    have z3 := hn3.size
    have Hrq := Lib.hid hrq
    clear ho0 hoq hn3 gW1 hqb hrq X1
    go_wp2_with fail
    go_loopg [3, 5, 6, 7, 8] bs.length (fun gk out i _ _ _ wr => ∃ (k : Nat) (A' : Option Addr) (c' : Nat), k + gk = bs.length ∧ i = .int .i64 k ∧ out = .slice A' (byK P k).length c' ∧ OwnI wr (w.heap.size + 1) 3 A' c' (byK P k) ∧ (∀ j, blk A' = some j → j = w.heap.size + 1 ∨ w3.heap.size ≤ j) ∧ Nx w wr ∧ Gx (fun j => j = w.heap.size + 1) w3 wr)
    case atStart => exact ⟨0, some ⟨w.heap.size + 1, 0, none⟩, 0, by omega, rfl, by simp [byK], by simpa [byK] using ho3.out, fun j hj => by simp [blk] at hj; omega, N, Gx.refl _ _⟩
    case round =>
      obtain ⟨k, A', c', hk, rfl, rfl, hown, hAk, hn0, gx⟩ := hrel
      obtain ⟨gko, rfl⟩ : ∃ g : Nat, g = gk := ⟨_, rfl⟩
      obtain ⟨wo, rfl⟩ : ∃ x : World, x = wr := ⟨_, rfl⟩
      replace X0 := gx.bx X0 (by omega)
      replace X0_0 := X0.cell (j := 0) rfl
      replace X0_1 := X0.cell (j := 1) rfl
      replace X0_z := X0.lt
      have zx := gx.size
      by_cases hlt : k < bs.length
      · have hst := byK_succ P k
        have hlen2 := byK_len P k
        generalize byK P k = L at *
        have Hst := Lib.hid hst
        have Hown := Lib.hid hown
        have HAk := Lib.hid hAk
        clear hst hown hAk
        obtain ⟨r, hr⟩ : ∃ r, q[k]? = some r := ⟨_, List.getElem?_eq_getElem (by rw [hq1.out]; exact hlt)⟩
        have hbk : bs[k]? = some r.2.2 := by rw [← hqb'.out]; exact rowsOf_get hr
        obtain ⟨b1, o1, hD1, hb1, r1, hE⟩ := (gx.rows Hrq.out (fun k hk => by have := hqA.out k hk; omega) (fun r hr k hk => by have := hqr.out r hr k hk; omega)).at' hr
        have hmb := List.mem_of_getElem? hbk
        have hPk := hP.out k _ hbk
        rw [Hleaf.out] at hPk
        have hbl40 := Hlen.out _ hmb
        have hbnd := Hmem.out _ hmb
        obtain ⟨Ar, cr, b⟩ := r
        simp only at r1 hE hPk hbl40 hbnd
        have HD1 := Lib.hid hD1
        have hno := fun w' h => l5Nodes_c n Ar cr b w' h (by omega) (by omega)
        have hy16 := byK_len (onB b) n
        have hyb : ∀ y ∈ nodesL n b, 0 ≤ y ∧ y < n := fun y h => nodesL_bd h
        rw [show byK (onB b) n = nodesL n b from rfl] at hy16
        generalize nodesL n b = ys at *
        have Hno := Lib.hid hno
        have HPk := Lib.hid hPk
        have Hyb := Lib.hid hyb
        subst hD1
        clear hno hPk hbk hr hmb hbnd hyb
        go_wp2_with fail
        (refine tail_quiet 6 (by kernel_rfl) (by kernel_rfl) (fun W4 gW4 => ?_); obtain ⟨hcW4, hfW4, hzW4⟩ := gW4.rules; simp only [List.take_succ_cons, List.take_zero, List.drop_succ_cons, List.drop_zero]; (repeat go_big_quiet_step (fail)); with_reducible refine wpQuiet_nil ?_)
        go_wp2_with fail
        refine (Hno.out _ (hE.nx gW4)).mono ?_
        rintro e w5 ⟨B, bc, rfl, oB, hn5'⟩
        have hn5 := gW4.trans hn5'
        have hB := oB.intsAt
        clear oB
        replace X0 := X0.nx hn5
        replace X0_0 := X0.cell (j := 0) rfl
        replace X0_1 := X0.cell (j := 1) rfl
        replace X0_z := X0.lt
        have HB := Lib.hid hB
        clear hB hE r1 hb1
        go_wp2_with fail
        go_loopg [6, 8] ys.length (fun gk cnt i wr => ∃ j : Nat, j + gk = ys.length ∧ i = .int .i64 j ∧ cnt = .int .i64 ((ys.take j).filter p).length ∧ Nx w5 wr)
        case atStart => exact ⟨0, by omega, rfl, by simp, Nx.refl _⟩
        case round =>
          obtain ⟨j, hj, rfl, rfl, hn6⟩ := hrel
          replace X0 := X0.nx hn6
          replace X0_0 := X0.cell (j := 0) rfl
          replace X0_1 := X0.cell (j := 1) rfl
          replace X0_z := X0.lt
          have hn56 := hn5.trans hn6
          have hcl : ((ys.take j).filter p).length ≤ 1048576 := Nat.le_trans (List.length_filter_le _ _) (by rw [List.length_take]; omega)
          by_cases hjl : j < ys.length
          · obtain ⟨y, hy⟩ : ∃ y, ys[j]? = some y := ⟨_, List.getElem?_eq_getElem hjl⟩
            have hft := filter_take1 (p := p) hy
            have Hft := Lib.hid hft
            generalize ((ys.take j).filter p).length = cn at *
            obtain ⟨b2, o2, hB2, hb2, r2⟩ := (HB.out.nx hn6).rd hy
            subst hB2
            have hyy := Hyb.out y (List.mem_of_getElem? hy)
            clear hy hft
            go_wp2_with fail
            (refine tail_quiet 5 (by kernel_rfl) (by kernel_rfl) (fun W6 gW6 => ?_); obtain ⟨hcW6, hfW6, hzW6⟩ := gW6.rules; simp only [List.take_succ_cons, List.take_zero, List.drop_succ_cons, List.drop_zero]; (repeat go_big_quiet_step (fail)); with_reducible refine wpQuiet_nil ?_)
            go_wp2_with fail
            refine (Hcn.out y _ (HX.out.nx ((hn0.trans hn56).trans gW6))).mono ?_
            rintro e w7 ⟨rfl, hn7'⟩
            have hn7 := gW6.trans hn7'
            cases hq : p y with
            | true =>
              have Hq := Lib.hid (show (if p y = true then 1 else 0) = 1 from if_pos hq)
              clear hq
              go_wp2
              go_roundg (gk - 1)
              case measure => omega
              case rel => exact ⟨j + 1, by omega, by go_num, by rw [Hft.out, Hq.out]; go_num, hn6.trans hn7⟩
            | false =>
              have Hq := Lib.hid (show (if p y = true then 1 else 0) = 0 from if_neg (by simp [hq]))
              clear hq
              go_wp2
              go_roundg (gk - 1)
              case measure => omega
              case rel => exact ⟨j + 1, by omega, by go_num, by rw [Hft.out, Hq.out]; rfl, hn6.trans hn7⟩
          · have hyt : ys.take j = ys := List.take_of_length_le (by omega)
            rw [hyt] at hcl ⊢
            have hsz := hn56.size
            have z0 := hn0.size
            have hn06 := hn0.trans hn56
            have gx6 := gx.nx hn56
            have Ho6 := Lib.hid (Hown.out.nx hn56)
            clear hyt
            by_cases hle : (ys.filter p).length ≤ 1
            · have hL : Hid (byK P (k + 1) = L ++ [(k : Int)]) := Lib.hid (by rw [Hst.out, if_pos (by rw [HPk.out]; simpa using hle)])
              generalize (ys.filter p).length = cn at *
              have dle : decide ((cn : Int) ≤ 1) = true := by simp; omega
              go_wp2_with (at_builtin; go_must (refine appI (base := w.heap.size + 1) (t := 3) L _ k rfl rfl Try.underlying27 Hi.out Hz0.out Hz1.out Hz2.out rfl rfl (Ho6.out.nx (by repeat (first | exact Nx.refl _ | assumption | apply Nx.alloc | apply Nx.drew | apply Nx.drewN | (refine Nx.setCell ?_ (by first | (simp; done) | (simp; omega) | omega) _) | refine Nx.trans ?_ (by assumption)))) rfl (cellN (by simp) rfl) (by omega) (by simp; omega) ?_; intro A2 c2 w8 hown8 hnx8 hgr8 hbl8))
              go_roundg (gko - 1)
              case measure => omega
              case rel =>
                refine ⟨k + 1, A2, c2, by omega, by go_num, by rw [hL.out]; simp, by rw [hL.out]; exact hown8, fun j hj => ?_, hnx8 w (by omega) (hn06.alloc _), (gx6.nx (Nx.alloc (.refl _) _)).grown hgr8 (fun j e => by rcases HAk.out j e with h | h; exact .inl h; exact .inr h)⟩
                rcases hbl8 with h | h
                · exact HAk.out j (h ▸ hj)
                · rw [h] at hj; injection hj with hj; simp at hj; right; omega
            · have hL : Hid (byK P (k + 1) = L) := Lib.hid (by rw [Hst.out, if_neg (by rw [HPk.out]; simpa using hle), List.append_nil])
              generalize (ys.filter p).length = cn at *
              have dle : decide ((cn : Int) ≤ 1) = false := by simp; omega
              go_wp2
              go_roundg (gko - 1)
              case measure => omega
              case rel => exact ⟨k + 1, A', c', by omega, by go_num, by rw [hL.out], by rw [hL.out]; exact Ho6.out, HAk.out, hn06, gx6⟩
      · obtain rfl : k = bs.length := by omega
        go_wp2
        go_ret
        exact ⟨A', c', rfl, hown.mono (by omega), hn0⟩
  · have hlv : leavesOf n es = [] := by unfold leavesOf; rw [blocksOf_no hv]; rfl
    rw [hlv]
    rw [show decide (Valid n es) = false by simpa using hv] at hgv
    have Hgv := Lib.hid hgv
    clear hv hlv hgv
    go_enter Try.func46, Try.ntmps46
    go_wp2_with fail
    generalize hW1 : World.alloc _ _ = W1
    have gW1 : Nx w W1 := by subst hW1; exact (by repeat (first | exact Nx.refl _ | assumption | apply Nx.alloc | apply Nx.drew | apply Nx.drewN | (refine Nx.setCell ?_ (by first | (simp; done) | (simp; omega) | omega) _) | refine Nx.trans ?_ (by assumption)))
    have sW1 : W1.heap.size = w.heap.size + 2 := by subst hW1; simp
    have X0 : Bx W1 (w.heap.size) 26 [V n, .slice A es.length c] := by subst hW1; have h := Bx.alloc w 26 [V n, .slice A es.length c]; have h := h.nx (Nx.alloc (Nx.refl _) (.cells #[] 3)); simpa using h
    have X1 : Bx W1 (w.heap.size + 1) 3 [] := by subst hW1; have h := Bx.alloc (w.alloc (.cells #[V n, .slice A es.length c] 26)) 3 []; simpa using h
    have X0_0 := X0.cell (j := 0) rfl
    have X0_1 := X0.cell (j := 1) rfl
    have X0_z := X0.lt
    have X1_z := X1.lt
    have HsW1 := Lib.hid sW1
    have lW1 : w.heap.size + 2 ≤ W1.heap.size := by omega
    clear hW1 sW1
    have ho0 : OwnI W1 (w.heap.size + 1) 3 (some ⟨w.heap.size + 1, 0, none⟩) 0 [] := X1.emptyI (Nat.le_refl _)
    refine (Hgv.out _ (HX.out.nx gW1) (by omega)).mono ?_
    rintro e w2 ⟨rfl, hn2⟩
    have ho3 := Lib.hid (ho0.nx hn2)
    have N := gW1.trans hn2
    clear ho0 X1
    go_wp2
    go_ret
    exact ⟨_, 0, rfl, ho3.out.mono (by omega), N⟩
end Go.Proofs.Ytjchabeiaajgiaa
