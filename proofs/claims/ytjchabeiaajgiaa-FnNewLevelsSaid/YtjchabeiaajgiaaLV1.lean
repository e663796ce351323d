/- Contract: above, of levels that are all zero and a forest of all edges. -/
import Derived.Test.YtjchabeiaajgiaaF3
import Derived.Test.YtjchabeiaajgiaaH
import Derived.Deep.RegionHeld3
namespace Go.Proofs.Ytjchabeiaajgiaa
open Go.RowKit set_option linter.unusedVariables false set_option linter.unusedSimpArgs false

/-- a leveled graph -/
abbrev LvV (n : Int) (G : Option Addr) (m gc : Nat) (A : Option Addr) (m1 c1 : Nat) (B : Option Addr) (m2 c2 : Nat) : Value := .agg #[V n, .slice G m gc, .slice A m1 c1, .slice B m2 c2]
/-- m times true -/
def TrueAt (w : World) (A : Option Addr) (m : Nat) : Prop := 0 < m → ∃ b off, A = some ⟨b, off, none⟩ ∧ b < w.heap.size ∧ ∀ j, j < m → w.cell? ⟨b, off + j, none⟩ = some (.bool true)
theorem TrueAt.nx {w w' : World} {A : Option Addr} {m : Nat} (h : TrueAt w A m) (hn : Nx w w') : TrueAt w' A m := fun h0 => by
  obtain ⟨b, off, e, hb, hc⟩ := h h0
  exact ⟨b, off, e, Nat.lt_of_lt_of_le hb hn.size, fun j hj => hn.cell hb (hc j hj)⟩
/-- the edges of a level -/
def lvE (es : Es) (k : Nat) : Es := if k = 0 then es else []
theorem lvE_zero (es : Es) : lvE es 0 = es := rfl
theorem lvE_pos (es : Es) {k : Nat} (h : k ≠ 0) : lvE es k = [] := if_neg h
def lvK (es : Es) (k j : Nat) : Es := if k = 0 then es.take j else []
theorem lvK_all (es : Es) (k : Nat) {j : Nat} (h : es.length ≤ j) : lvK es k j = lvE es k := by
  unfold lvK lvE
  split
  · exact List.take_of_length_le h
  · rfl
theorem lvK_len (es : Es) (k j : Nat) : (lvK es k j).length ≤ j := by
  unfold lvK
  split
  · exact List.length_take_le _ _
  · simp

set_option maxRecDepth 100000 in
set_option maxHeartbeats 4000000 in
theorem above_c (n : Int) (G A B : Option Addr) (gc c1 c2 : Nat) (es : Es) (k : Nat) (f : Bool) (w : World) (hG : EdgesAt w G es) (hA : IntsAt w A (List.replicate es.length 0)) (hB : TrueAt w B es.length) (hl : es.length ≤ 40) (hk : k ≤ 4) :
    Calls Try.prog 53 #[LvV n G es.length gc A es.length c1 B es.length c2, V k, .bool f] w (RetG 36 n (lvE es k) w) := by
  obtain ⟨i0, hi, hz0, hz1, hz2⟩ := info_parts infoE
  have Hi := Lib.hid hi
  have Hz0 := Lib.hid hz0
  have Hz1 := Lib.hid hz1
  have Hz2 := Lib.hid hz2
  clear hi hz0 hz1 hz2
  have HG := Lib.hid hG
  have HA := Lib.hid hA
  have HB := Lib.hid hB
  clear hG hA hB
  go_enter Try.func53, Try.ntmps53
  go_wp2_with fail
  generalize hW1 : World.alloc _ _ = W1
  have gW1 : Nx w W1 := by subst hW1; exact (by repeat (first | exact Nx.refl _ | assumption | apply Nx.alloc | apply Nx.drew | apply Nx.drewN | (refine Nx.setCell ?_ (by first | (simp; done) | (simp; omega) | omega) _) | refine Nx.trans ?_ (by assumption)))
  have sW1 : W1.heap.size = w.heap.size + 3 := by subst hW1; simp
  have L : Bx W1 (w.heap.size) 30 [V n, .slice G es.length gc, .slice A es.length c1, .slice B es.length c2] := by subst hW1; have h := Bx.alloc w 30 [V n, .slice G es.length gc, .slice A es.length c1, .slice B es.length c2]; have h := h.nx (Nx.alloc (Nx.refl _) (.cells #[V 0, .slice none 0 0] 26)); have h := h.nx (Nx.alloc (Nx.refl _) (.cells #[V n, .slice none 0 0] 26)); simpa using h
  have R : Bx W1 (w.heap.size + 1) 26 [V 0, .slice none 0 0] := by subst hW1; have h := Bx.alloc (w.alloc (.cells #[V n, .slice G es.length gc, .slice A es.length c1, .slice B es.length c2] 30)) 26 [V 0, .slice none 0 0]; have h := h.nx (Nx.alloc (Nx.refl _) (.cells #[V n, .slice none 0 0] 26)); simpa using h
  have O : Bx W1 (w.heap.size + 2) 26 [V n, .slice none 0 0] := by subst hW1; have h := Bx.alloc ((w.alloc (.cells #[V n, .slice G es.length gc, .slice A es.length c1, .slice B es.length c2] 30)).alloc (.cells #[V 0, .slice none 0 0] 26)) 26 [V n, .slice none 0 0]; simpa using h
  have L_0 := L.cell (j := 0) rfl
  have L_1 := L.cell (j := 1) rfl
  have L_2 := L.cell (j := 2) rfl
  have L_3 := L.cell (j := 3) rfl
  have L_z := L.lt
  have R_0 := R.cell (j := 0) rfl
  have R_1 := R.cell (j := 1) rfl
  have R_z := R.lt
  have O_0 := O.cell (j := 0) rfl
  have O_1 := O.cell (j := 1) rfl
  have O_z := O.lt
  have HsW1 := Lib.hid sW1
  have lW1 : w.heap.size + 3 ≤ W1.heap.size := by omega
  clear hW1 sW1
  clear O_0 O_1 O_z R_0 R_1 R_z L_0 L_1 L_2 L_3 L_z
  go_loopg [8, 18] es.length (fun gk _ i wr => ∃ (j : Nat) (A' : Option Addr) (c' : Nat), j + gk = es.length ∧ i = .int .i64 j ∧ Bx wr (w.heap.size + 2) 26 [V n, .slice A' (lvK es k j).length c'] ∧ OwnE wr W1.heap.size 36 A' c' (lvK es k j) ∧ Rx (w.heap.size + 2) W1 wr)
  case atStart => exact ⟨0, none, 0, by omega, rfl, by simpa [lvK] using O, by simpa [lvK] using (OwnE.nil W1 _ _), Rx.refl _ _⟩
  case round =>
    obtain ⟨j, A', c', hj, rfl, hbo, hown, hrx⟩ := hrel
    have hnx : Nx w wr := Rx.nx gW1 hrx (by omega)
    have hsz := hrx.size
    have L' := L.grown hrx (by simp)
    have L_0 := L'.cell (j := 0) rfl
    have L_1 := L'.cell (j := 1) rfl
    have L_2 := L'.cell (j := 2) rfl
    have L_3 := L'.cell (j := 3) rfl
    have L_z := L'.lt
    have R' := R.grown hrx (by simp)
    by_cases hlt : j < es.length
    · have hek : es[j]? = some es[j] := List.getElem?_eq_getElem hlt
      have hlen := lvK_len es k j
      obtain ⟨bG, oG, rfl, zG, rG⟩ := (HG.out.nx hnx) (by omega)
      obtain ⟨bA, oA, rfl, zA, rA⟩ := (HA.out.nx hnx).rd (j := j) (v := 0) (by simp [hlt])
      obtain ⟨bB, oB, rfl, zB, rB⟩ := (HB.out.nx hnx) (by omega)
      have r1 := (rG j hlt).1
      have r2 := (rG j hlt).2
      have r3 := rB j hlt
      clear rG rB
      by_cases hk0 : k = 0
      · subst hk0
        have hst : lvK es 0 (j + 1) = lvK es 0 j ++ [es[j]] := by
          unfold lvK
          rw [if_pos rfl, if_pos rfl, List.take_succ_eq_append_getElem hlt]
        generalize lvK es 0 j = Lj at *
        generalize es[j] = e at *
        obtain ⟨x, y⟩ := e
        have Hst := Lib.hid hst
        clear hst hek
        cases f with
        | true =>
          have hb2 := hbo
          have q1 := hb2.cell (j := 1) rfl
          have qz := hb2.lt
          go_wp2_with (at_builtin; go_must (refine appE (base := W1.heap.size) (t := 36) Lj _ x y rfl rfl Try.underlying24 Hi.out Hz0.out Hz1.out Hz2.out rfl rfl (hown.nx (by repeat (first | exact Nx.refl _ | assumption | apply Nx.alloc | apply Nx.drew | apply Nx.drewN | (refine Nx.setCell ?_ (by first | (simp; done) | (simp; omega) | omega) _) | refine Nx.trans ?_ (by assumption)))) rfl (by go_simp) (by go_simp) (by omega) (by simp; omega) ?_; intro A2 c2 w3 hown3 hnx3 hgr3 hbl3; have hb3 := (hb2.nx (Nx.alloc (Nx.alloc (Nx.refl _) _) _)).grown hgr3 (by intro e; have := hown.lt _ e; omega); have r1 := hb3.cell (j := 1) rfl; have rf := hb3.free))
          have hr3 : Rx (w.heap.size + 2) W1 w3 := ((hrx.alloc _).alloc _).own hgr3 (fun t ht => (hown.lt t ht).1)
          go_roundg (gk - 1)
          case measure => omega
          case rel =>
            refine ⟨j + 1, A2, c2, by omega, by go_num, ?_, ?_, hr3.setCell _ _⟩
            · rw [Hst.out, List.length_append]
              exact hb3.set (j := 1) _
            · rw [Hst.out]
              exact hown3.far (by simp; omega) _
        | false =>
          have hb2 := hbo
          have q1 := hb2.cell (j := 1) rfl
          have qz := hb2.lt
          go_wp2_with (at_builtin; go_must (refine appE (base := W1.heap.size) (t := 36) Lj _ x y rfl rfl Try.underlying24 Hi.out Hz0.out Hz1.out Hz2.out rfl rfl (hown.nx (by repeat (first | exact Nx.refl _ | assumption | apply Nx.alloc | apply Nx.drew | apply Nx.drewN | (refine Nx.setCell ?_ (by first | (simp; done) | (simp; omega) | omega) _) | refine Nx.trans ?_ (by assumption)))) rfl (by go_simp) (by go_simp) (by omega) (by simp; omega) ?_; intro A2 c2 w3 hown3 hnx3 hgr3 hbl3; have hb3 := (hb2.nx (Nx.alloc (Nx.alloc (Nx.refl _) _) _)).grown hgr3 (by intro e; have := hown.lt _ e; omega); have r1 := hb3.cell (j := 1) rfl; have rf := hb3.free))
          have hr3 : Rx (w.heap.size + 2) W1 w3 := ((hrx.alloc _).alloc _).own hgr3 (fun t ht => (hown.lt t ht).1)
          go_roundg (gk - 1)
          case measure => omega
          case rel =>
            refine ⟨j + 1, A2, c2, by omega, by go_num, ?_, ?_, hr3.setCell _ _⟩
            · rw [Hst.out, List.length_append]
              exact hb3.set (j := 1) _
            · rw [Hst.out]
              exact hown3.far (by simp; omega) _
      · have hst : lvK es k (j + 1) = lvK es k j := by
          unfold lvK
          rw [if_neg hk0, if_neg hk0]
        generalize lvK es k j = Lj at *
        have Hst := Lib.hid hst
        have hkd : decide ((k : Int) ≤ 0) = false := by simp; omega
        clear hst
        go_wp2
        go_roundg (gk - 1)
        case measure => omega
        case rel => exact ⟨j + 1, A', c', by omega, by go_num, by rw [Hst.out]; exact hbo.nx (.alloc (.refl _) _), by rw [Hst.out]; exact hown.nx (.alloc (.refl _) _), hrx.trans ((Nx.alloc (.refl _) _).rx _)⟩
    · have he := lvK_all es k (j := j) (by omega)
      rw [he] at hown hbo
      have q0 := hbo.cell (j := 0) rfl
      have q1 := hbo.cell (j := 1) rfl
      have qz := hbo.lt
      have R_0 := R'.cell (j := 0) rfl
      have R_1 := R'.cell (j := 1) rfl
      have R_f := R'.free
      have R_z := R'.lt
      go_wp2
      refine bodyPost_ret (v := .agg #[V n, .slice A' (lvE es k).length c']) (by simp [results, Try.f53, go_sem, *]) rfl ?_
      exact ⟨A', c', rfl, (((hown.far (by simp; omega) _).far (by simp; omega) _)).mono (by omega), (hnx.setCell (by first | (simp; done) | (simp; omega)) _).setCell (by first | (simp; done) | (simp; omega)) _⟩
end Go.Proofs.Ytjchabeiaajgiaa
