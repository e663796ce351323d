/- Contracts: replay, SetsValid of the program. -/
import Derived.Test.YticjoichmcegnaaT3
import Derived.Test.YticjoichmcegnaaS3
namespace Go.Proofs.Yticjoichmcegnaa
open Go.RowKit set_option linter.unusedVariables false set_option linter.unusedSimpArgs false

/-- the call returns sets in rows of their own -/
def RetSS (s : SS) (f : Value → Value) (w : World) (e : Ending) (w' : World) : Prop :=
  ∃ A ca B cb C cc, e = .returned (f (St A s.P.length ca B s.Z.length cb C s.T.length cc)) ∧ OwnI w' w.heap.size 3 A ca s.P ∧ OwnI w' w.heap.size 3 B cb s.Z ∧ OwnE w' w.heap.size 98 C cc s.T ∧ Apart A B ∧ Apart A C ∧ Apart B C ∧ Nx w w'

theorem Inv.bd {n : Nat} {s : SS} (h : Inv n s) (hn : n ≤ 16) : ∀ x : Int, 0 ≤ x → x < n → 0 ≤ lk s.Z x ∧ lk s.Z x ≤ 16 := fun x h0 h1 => by
  have := h.one x h0 h1
  have := h.top x h0 h1
  omega

set_option maxRecDepth 100000 in
set_option maxHeartbeats 4000000 in
theorem replay_c (n : Nat) (hn1 : 1 ≤ n) (hn : n ≤ 16) (A : Option Addr) (c : Nat) (ts : Es) (w : World) (hx : EdgesAt w A ts) (hl : ts.length ≤ 1048576) :
    Calls Try.prog 68 #[V n, .slice A ts.length c] w (RetSS (rpS n ts).1 (tupT (rpS n ts).2) w) := by
  have Hinv := Lib.hid (fun k => rpS_inv (n := n) hn1 (ts.take k))
  go_enter Try.func68, Try.ntmps68
  go_wp2_with fail
  generalize hW1 : World.alloc _ _ = W1
  have gW1 : Nx w W1 := by subst hW1; exact (by repeat (first | exact Nx.refl _ | assumption | apply Nx.alloc | apply Nx.drew | apply Nx.drewN | (refine Nx.setCell ?_ (by first | (simp; done) | (simp; omega) | omega) _) | refine Nx.trans ?_ (by assumption)))
  have sW1 : W1.heap.size = w.heap.size + 1 := by subst hW1; simp
  have X0 : Bx W1 (w.heap.size) 37 [.slice none 0 0, .slice none 0 0, .slice none 0 0] := by subst hW1; have h := Bx.alloc w 37 [.slice none 0 0, .slice none 0 0, .slice none 0 0]; simpa using h
  have X0_0 := X0.cell (j := 0) rfl
  have X0_1 := X0.cell (j := 1) rfl
  have X0_2 := X0.cell (j := 2) rfl
  have X0_z := X0.lt
  have HsW1 := Lib.hid sW1
  have lW1 : w.heap.size + 1 ≤ W1.heap.size := by omega
  clear hW1 sW1
  refine (iNewSets_c n hn1 hn _).mono ?_
  rintro e w2 ⟨A1, ca, B1, cb, rfl, hA, hB, hAB, hn2⟩
  replace X0 := X0.nx hn2
  replace X0_0 := X0.cell (j := 0) rfl
  replace X0_1 := X0.cell (j := 1) rfl
  replace X0_2 := X0.cell (j := 2) rfl
  replace X0_z := X0.lt
  have hs12 := hn2.size
  go_wp2_with fail
  generalize hW3 : World.alloc w2 _ = W3
  have gn3 : Nx w2 W3 := by subst hW3; exact (by repeat (first | exact Nx.refl _ | assumption | apply Nx.alloc | apply Nx.drew | apply Nx.drewN | (refine Nx.setCell ?_ (by first | (simp; done) | (simp; omega) | omega) _) | refine Nx.trans ?_ (by assumption)))
  have G : Bx W3 w2.heap.size 37 [.slice A1 n ca, .slice B1 n cb, .slice none 0 0] := by subst hW3; exact Bx.alloc w2 37 [.slice A1 n ca, .slice B1 n cb, .slice none 0 0]
  clear hW3
  replace X0 := X0.nx gn3
  replace X0_0 := X0.cell (j := 0) rfl
  replace X0_1 := X0.cell (j := 1) rfl
  replace X0_2 := X0.cell (j := 2) rfl
  replace X0_z := X0.lt
  have hset : SetAt W3 W1.heap.size w2.heap.size (newS n) := ⟨A1, ca, B1, cb, none, 0, by simpa [newS] using G, hA.nx gn3, hB.nx gn3, OwnE.nil _ _ _, hAB, by unfold Apart blk; cases A1 <;> simp, by unfold Apart blk; cases B1 <;> simp, fun k hk => by have := (hA.lt k hk).2; omega, fun k hk => by have := (hB.lt k hk).2; omega, fun k hk => by cases hk⟩
  have hn03 : Nx w W3 := (gW1.trans hn2).trans gn3
  have hW13 := (hn2.trans gn3).size
  clear hA hB G
  go_loopg [7, 17] ts.length (fun gk o i wr => ∃ (k : Nat) (b : Bool), k + gk = ts.length ∧ i = .int .i64 k ∧ o = .bool b ∧ (rpS n (ts.take k)).2 = b ∧ SetAt wr W1.heap.size w2.heap.size (rpS n (ts.take k)).1 ∧ Gx (fun k => W1.heap.size ≤ k) W3 wr)
  case atStart => exact ⟨0, true, by omega, rfl, rfl, by simp [rpS], by simpa [rpS] using hset, Gx.refl _ _⟩
  case round =>
    obtain ⟨k, b, hk, rfl, rfl, hb, hs, hgx⟩ := hrel
    have Hs := Lib.hid hs
    have Hb := Lib.hid hb
    have Hgx := Lib.hid hgx
    have hnw : Nx w wr := hgx.back hn03 (fun k hk => by omega)
    have Y0 := hgx.bx X0 (by omega)
    have Y0_0 := Y0.cell (j := 0) rfl
    have Y0_1 := Y0.cell (j := 1) rfl
    have Y0_2 := Y0.cell (j := 2) rfl
    have Y0_z := Y0.lt
    have Y0_f := Y0.free
    have hsz := hgx.size
    clear hs hb hgx hset
    by_cases hlt : k < ts.length
    · obtain ⟨t, ht⟩ : ∃ t, ts[k]? = some t := ⟨_, List.getElem?_eq_getElem hlt⟩
      have hst := rpS_take (n := n) ht
      obtain ⟨b1, off, rfl, hb1, h1, h2⟩ := (hx.nx hnw).rd ht
      obtain ⟨x, y⟩ := t
      simp only at h1 h2
      have hinv := Hinv.out k
      have Hst := Lib.hid hst
      have Hinvk := Lib.hid hinv
      clear hst hinv ht
      cases b with
      | false =>
        go_wp2
        go_roundg (gk - 1)
        case measure => omega
        case rel =>
          have e1 : rpS n (ts.take (k + 1)) = rpS n (ts.take k) := by rw [Hst.out]; unfold rp1; rw [if_neg (by simp [Hb.out])]
          exact ⟨k + 1, false, by omega, by go_num, rfl, by rw [e1]; exact Hb.out, by rw [e1]; exact Hs.out.nx (by repeat (first | exact Nx.refl _ | assumption | apply Nx.alloc | apply Nx.drew | apply Nx.drewN | (refine Nx.setCell ?_ (by first | (simp; done) | (simp; omega) | omega) _) | refine Nx.trans ?_ (by assumption))), Hgx.out.nx (by repeat (first | exact Nx.refl _ | assumption | apply Nx.alloc | apply Nx.drew | apply Nx.drewN | (refine Nx.setCell ?_ (by first | (simp; done) | (simp; omega) | omega) _) | refine Nx.trans ?_ (by assumption)))⟩
      | true =>
        have hT := rpS_T (n := n) _ Hb.out
        have hstep := fun w' hs => step_c W1.heap.size w2.heap.size n (rpS n (ts.take k)).1 x y w' hs (by omega) Hinvk.out.lp Hinvk.out.lz hn1 hn (by rw [hT.1]; exact hT.2) (Hinvk.out.bd hn)
        have Hstep := Lib.hid hstep
        clear hT hstep
        go_wp2_with fail
        generalize hW5 : World.alloc _ _ = W5
        have gW5 : Nx wr W5 := by subst hW5; exact (by repeat (first | exact Nx.refl _ | assumption | apply Nx.alloc | apply Nx.drew | apply Nx.drewN | (refine Nx.setCell ?_ (by first | (simp; done) | (simp; omega) | omega) _) | refine Nx.trans ?_ (by assumption)))
        have sW5 : W5.heap.size = wr.heap.size + 1 := by subst hW5; simp
        have F : Bx W5 (wr.heap.size) 98 [V x, V y] := by subst hW5; have h := Bx.alloc wr 98 [V x, V y]; simpa using h
        have F_0 := F.cell (j := 0) rfl
        have F_1 := F.cell (j := 1) rfl
        have F_z := F.lt
        have HsW5 := Lib.hid sW5
        have lW5 : wr.heap.size + 1 ≤ W5.heap.size := by omega
        clear hW5 sW5
        refine (Hstep.out _ (Hs.out.nx gW5)).mono ?_
        rintro e w6 ⟨rfl, hs6, hg6⟩
        have e1 : rpS n (ts.take (k + 1)) = (stS (rpS n (ts.take k)).1 (x, y), stOk (rpS n (ts.take k)).1.P (rpS n (ts.take k)).1.Z (rpS n (ts.take k)).1.T.length (x, y)) := by
          rw [Hst.out]; unfold rp1; rw [if_pos Hb.out]
        have E1 := Lib.hid e1
        have Hs6 := Lib.hid hs6
        clear e1 hs6
        generalize stOk (rpS n (ts.take k)).1.P (rpS n (ts.take k)).1.Z (rpS n (ts.take k)).1.T.length (x, y) = ok at *
        have hgx6 := (Hgx.out.nx gW5)
        have hgx7 : Gx (fun k => W1.heap.size ≤ k) W3 w6 := ⟨hg6.os.trans hgx6.os, hg6.tape.trans hgx6.tape, hg6.output.trans hgx6.output, Nat.le_trans hgx6.size hg6.size, fun i hi hp => (hg6.block i (Nat.lt_of_lt_of_le hi hgx6.size) hp).trans (hgx6.block i hi hp)⟩
        go_wp2
        go_roundg (gk - 1)
        case measure => omega
        case rel => exact ⟨k + 1, ok, by omega, by go_num, rfl, by rw [E1.out], by rw [E1.out]; exact Hs6.out, hgx7⟩
    · have hkl : ts.take k = ts := List.take_of_length_le (by omega)
      obtain ⟨A2, ca2, B2, cb2, C2, cc2, h⟩ := Hs.out
      rw [hkl] at h
      have hb := Hb.out
      rw [hkl] at hb
      have Hb2 := Lib.hid hb
      generalize (rpS n ts).1 = s at *
      have bx := h.bx
      have z0 := bx.cell (j := 0) rfl
      have z1 := bx.cell (j := 1) rfl
      have z2 := bx.cell (j := 2) rfl
      have z3 := bx.lt
      have HH := Lib.hid h
      clear h hb hkl bx
      go_wp2
      refine bodyPost_ret (v := tupT b (St A2 s.P.length ca2 B2 s.Z.length cb2 C2 s.T.length cc2)) (by simp [results, Try.f68, go_sem, *]) rfl ?_
      have hf : w.heap.size < W1.heap.size := by omega
      refine ⟨A2, ca2, B2, cb2, C2, cc2, by rw [Hb2.out], ?_, ?_, ?_, HH.out.ab, HH.out.ac, HH.out.bc, (by repeat (first | exact Nx.refl _ | assumption | apply Nx.alloc | apply Nx.drew | apply Nx.drewN | (refine Nx.setCell ?_ (by first | (simp; done) | (simp; omega) | omega) _) | refine Nx.trans ?_ (by assumption)))⟩
      · exact (((HH.out.a.far (by simpa using hf) _).far (by simpa using hf) _).far (by simpa using hf) _).mono (by omega)
      · exact (((HH.out.b.far (by simpa using hf) _).far (by simpa using hf) _).far (by simpa using hf) _).mono (by omega)
      · exact (((HH.out.c.far (by simpa using hf) _).far (by simpa using hf) _).far (by simpa using hf) _).mono (by omega)
end Go.Proofs.Yticjoichmcegnaa
