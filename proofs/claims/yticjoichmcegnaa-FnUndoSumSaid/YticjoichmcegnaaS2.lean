/- Contracts: l3New, NewSets of both. -/
import Derived.Test.YticjoichmcegnaaS1
import Derived.Test.YticjoichmcegnaaU2
import Derived.Test.YticjoichmcegnaaB
import Derived.Deep.Cut
namespace Go.Proofs.Yticjoichmcegnaa
open Go.RowKit

def reps (n : Nat) (x : Int) : List Int := List.replicate n x
theorem reps_length (n : Nat) (x : Int) : (reps n x).length = n := List.length_replicate
theorem reps_succ (n : Nat) (x : Int) : reps (n + 1) x = reps n x ++ [x] := List.replicate_succ'

theorem Apart.new {A A2 B : Option Addr} {m h l : Nat} (h1 : Apart A B) (h2 : blk A2 = blk A ∨ blk A2 = some m) (h3 : ∀ k, blk B = some k → l ≤ k ∧ k < h) (hm : h ≤ m) : Apart A2 B := by
  unfold Apart at *
  rcases h2 with e | e
  · rw [e]; exact h1
  · rw [e]
    refine .inr fun e2 => ?_
    have := h3 m e2.symm
    omega

/-- sets with no step, of n elements, in rows of their own -/
def RetN (t : TypeId) (n : Nat) (f : Value → Value) (w : World) (e : Ending) (w' : World) : Prop :=
  ∃ A ca B cb, e = .returned (f (St A n ca B n cb none 0 0)) ∧ OwnI w' w.heap.size t A ca (reps n (-1)) ∧ OwnI w' w.heap.size t B cb (reps n 1) ∧ Apart A B ∧ Nx w w'

set_option maxRecDepth 100000 in
set_option maxHeartbeats 2000000 in
theorem l3New_c (n : Nat) (hn : n ≤ 16) (w : World) : Calls Try.prog 70 #[V n] w (RetN 3 n id w) := by
  obtain ⟨i0, hi, hz0, hz1, hz2⟩ := info_parts infoI
  have Hi := Lib.hid hi
  have Hz0 := Lib.hid hz0
  have Hz1 := Lib.hid hz1
  have Hz2 := Lib.hid hz2
  clear hi hz0 hz1 hz2
  go_enter Try.func70, Try.ntmps70
  go_upto_region 2 with fail
  generalize hW0 : World.alloc _ _ = W0
  have gn0 : Nx w W0 := by subst hW0; exact (by repeat (first | exact Nx.refl _ | assumption | apply Nx.alloc | apply Nx.drew | apply Nx.drewN | (refine Nx.setCell ?_ (by first | (simp; done) | (simp; omega) | omega) _) | refine Nx.trans ?_ (by assumption)))
  have gs0 : W0.heap.size = w.heap.size + 2 := by subst hW0; simp
  have hb0 : Bx W0 (w.heap.size + 1) 37 [.slice none 0 0, .slice none 0 0, .slice none 0 0] := by subst hW0; have h := Bx.alloc (w.alloc (.cells #[.slice none 0 0, .slice none 0 0, .slice none 0 0] 37)) 37 [.slice none 0 0, .slice none 0 0, .slice none 0 0]; simpa using h
  have hr0 : Bx W0 w.heap.size 37 [.slice none 0 0, .slice none 0 0, .slice none 0 0] := by subst hW0; exact (Bx.alloc w 37 [.slice none 0 0, .slice none 0 0, .slice none 0 0]).nx (Nx.alloc (Nx.refl _) _)
  clear hW0
  go_wp2
  go_loopg [4] n (fun gk i wr => ∃ (k : Nat) (A : Option Addr) (ca : Nat) (B : Option Addr) (cb : Nat), k + gk = n ∧ i = .int .i64 k ∧ Nx w wr ∧ W0.heap.size ≤ wr.heap.size ∧ Bx wr (w.heap.size + 1) 37 [.slice A k ca, .slice B k cb, .slice none 0 0] ∧ Bx wr w.heap.size 37 [.slice none 0 0, .slice none 0 0, .slice none 0 0] ∧ OwnI wr W0.heap.size 3 A ca (reps k (-1)) ∧ OwnI wr W0.heap.size 3 B cb (reps k 1) ∧ Apart A B)
  case atStart => exact ⟨0, none, 0, none, 0, by omega, rfl, gn0, Nat.le_refl _, hb0, hr0, OwnI.nil _ _ _, OwnI.nil _ _ _, .inl rfl⟩
  case round =>
    obtain ⟨k, A, ca, B, cb, hk, rfl, hnx, hsz, hb, hr, hA, hB, hAB⟩ := hrel
    have e0 := hb.cell (j := 0) rfl
    have e1 := hb.cell (j := 1) rfl
    have e2 := hb.cell (j := 2) rfl
    have HAB := Lib.hid hAB
    clear hAB hb0 hr0
    by_cases hlt : k < n
    · go_upto_region 6 with (at_builtin; go_must (refine appI (base := W0.heap.size) (t := 3) (reps k (-1)) wr.heap.size (-1) rfl rfl Try.underlying34 Hi.out Hz0.out Hz1.out Hz2.out rfl (by rw [reps_length]; rfl) (hA.nx (by repeat (first | exact Nx.refl _ | assumption | apply Nx.alloc | apply Nx.drew | apply Nx.drewN | (refine Nx.setCell ?_ (by first | (simp; done) | (simp; omega) | omega) _) | refine Nx.trans ?_ (by assumption)))) rfl (by go_simp) (by rw [reps_length]; omega) (by simp; omega) ?_; intro A2 c2 w2 hA2 hnx2 hgr2 hdis2; have hb2 := (hb.nx (Nx.alloc (Nx.refl _) _)).grown hgr2 (fun e => by have := hA.lt _ e; omega); have hr2 := (hr.nx (Nx.alloc (Nx.refl _) _)).grown hgr2 (fun e => by have := hA.lt _ e; omega); have c20 := hb2.cell (j := 0) rfl; have f20 := hb2.free))
      have hg2' : wr.grownBy w2 (blk A) := grown_trans (Nx.grownR (Nx.alloc (Nx.refl _) _) _) hgr2
      have hsz2 := hgr2.size
      simp at hsz2
      generalize hW3 : World.setCell w2 _ _ = W3
      have hz3 : W3.heap.size = w2.heap.size := by subst hW3; simp [World.setCell]
      have hb3 : Bx W3 (w.heap.size + 1) 37 [.slice A2 (k + 1) c2, .slice B k cb, .slice none 0 0] := by subst hW3; have := hb2.set (j := 0) (.slice A2 (k + 1) c2); simpa [reps_length] using this
      have hr3 : Bx W3 w.heap.size 37 [.slice none 0 0, .slice none 0 0, .slice none 0 0] := by subst hW3; exact hr2.far (by simp) _
      have hA3 : OwnI W3 W0.heap.size 3 A2 c2 (reps k (-1) ++ [-1]) := by subst hW3; exact hA2.far (by simp; omega) _
      have hB3 : OwnI W3 W0.heap.size 3 B cb (reps k 1) := by subst hW3; exact (hB.kept hg2' HAB.out.symm).far (by simp; omega) _
      have hn3 : Nx w W3 := by subst hW3; exact (hnx2 w gn0.size (.alloc hnx _)).setCell (by simp) _
      have HAB3 := Lib.hid (Apart.new HAB.out hdis2 hB.lt (by simp))
      clear hW3 hnx2 hgr2 hdis2 hb2 hr2 c20 f20 hg2' hA2 e0 e1 e2 hA
      have e0 := hb3.cell (j := 0) rfl
      have e1 := hb3.cell (j := 1) rfl
      have q0 : (W3.alloc (.cells #[V 1] 3)).cell? ⟨w2.heap.size, 0, none⟩ = some (V 1) := by rw [← hz3]; go_simp
      go_wp2_with (at_builtin; go_must (refine appI (base := W0.heap.size) (t := 3) (reps k 1) w2.heap.size 1 rfl rfl Try.underlying34 Hi.out Hz0.out Hz1.out Hz2.out rfl (by rw [reps_length k 1]; rfl) (hB3.nx (by repeat (first | exact Nx.refl _ | assumption | apply Nx.alloc | apply Nx.drew | apply Nx.drewN | (refine Nx.setCell ?_ (by first | (simp; done) | (simp; omega) | omega) _) | refine Nx.trans ?_ (by assumption)))) rfl q0 (by rw [reps_length]; omega) (by simp; omega) ?_; intro B4 c4 w4 hB4 hnx4 hgr4 hdis4; have hb4 := (hb3.nx (Nx.alloc (Nx.refl _) _)).grown hgr4 (fun e => by have := hB.lt _ e; omega); have hr4 := (hr3.nx (Nx.alloc (Nx.refl _) _)).grown hgr4 (fun e => by have := hB.lt _ e; omega); have c41 := hb4.cell (j := 1) rfl; have f40 := hb4.free))
      have hg4' : W3.grownBy w4 (blk B) := grown_trans (Nx.grownR (Nx.alloc (Nx.refl _) _) _) hgr4
      have hsz4 := hgr4.size
      simp at hsz4
      generalize hW5 : World.setCell w4 _ _ = W5
      have hz5 : W5.heap.size = w4.heap.size := by subst hW5; simp [World.setCell]
      have hb5 : Bx W5 (w.heap.size + 1) 37 [.slice A2 (k + 1) c2, .slice B4 (k + 1) c4, .slice none 0 0] := by subst hW5; have := hb4.set (j := 1) (.slice B4 (k + 1) c4); simpa [reps_length] using this
      have hr5 : Bx W5 w.heap.size 37 [.slice none 0 0, .slice none 0 0, .slice none 0 0] := by subst hW5; exact hr4.far (by simp) _
      have hA5 : OwnI W5 W0.heap.size 3 A2 c2 (reps k (-1) ++ [-1]) := by subst hW5; exact (hA3.kept hg4' HAB3.out).far (by simp; omega) _
      have hB5 : OwnI W5 W0.heap.size 3 B4 c4 (reps k 1 ++ [1]) := by subst hW5; exact hB4.far (by simp; omega) _
      have hn5 : Nx w W5 := by subst hW5; exact (hnx4 w gn0.size (.alloc hn3 _)).setCell (by simp) _
      have HAB5 := Lib.hid (Apart.new HAB3.out.symm hdis4 hA3.lt (by simp)).symm
      clear hW5 hnx4 hgr4 hdis4 hb4 hr4 c41 f40 hg4' hB4 e0 e1 hB hB3 hA3
      go_wp2
      go_roundg (gk - 1)
      case measure => omega
      case rel => exact ⟨k + 1, A2, c2, B4, c4, by omega, by go_num, hn5, by omega, hb5, hr5, by rw [reps_succ]; exact hA5, by rw [reps_succ]; exact hB5, HAB5.out⟩
    · obtain rfl : k = n := by omega
      have r0 := hr.cell (j := 0) rfl
      have r1 := hr.cell (j := 1) rfl
      have r2 := hr.cell (j := 2) rfl
      have rf := hr.free
      go_wp2
      refine bodyPost_ret (v := St A k ca B k cb none 0 0) (by simp [results, Try.f70, go_sem, *]) rfl ?_
      refine ⟨A, ca, B, cb, rfl, ?_, ?_, HAB.out, (by repeat (first | exact Nx.refl _ | assumption | apply Nx.alloc | apply Nx.drew | apply Nx.drewN | (refine Nx.setCell ?_ (by first | (simp; done) | (simp; omega) | omega) _) | refine Nx.trans ?_ (by assumption)))⟩
      · refine OwnI.mono (base := W0.heap.size) ?_ (by omega)
        (repeat (refine OwnI.far ?_ (by simp; omega) _))
        exact hA
      · refine OwnI.mono (base := W0.heap.size) ?_ (by omega)
        (repeat (refine OwnI.far ?_ (by simp; omega) _))
        exact hB

abbrev tupT (b : Bool) (v : Value) : Value := .tuple #[v, .bool b]
theorem iNewSets_no (n : Int) (hn : ¬ (1 ≤ n ∧ n ≤ 16)) (w : World) : Calls Try.prog 30 #[V n] w (RetV (tupT false (St none 0 0 none 0 0 none 0 0)) w) := by
  go_enter Try.func30, Try.ntmps30
  go_wp2_with (first | (go_at_call 83; exfalso; simp_all; omega) | fail)
  all_goals first | (exfalso; simp_all; omega) | refine bodyPost_ret (v := tupT false (St none 0 0 none 0 0 none 0 0)) (by simp [results, Try.f30, go_sem, *]) rfl ?_
  all_goals exact RetV.mk rfl (by repeat (first | exact Nx.refl _ | assumption | apply Nx.alloc | apply Nx.drew | apply Nx.drewN | (refine Nx.setCell ?_ (by first | (simp; done) | (simp; omega) | omega) _) | refine Nx.trans ?_ (by assumption)))

theorem iNewSets_c (n : Nat) (hn1 : 1 ≤ n) (hn : n ≤ 16) (w : World) : Calls Try.prog 30 #[V n] w (RetN 3 n (tupT true) w) := by
  go_enter Try.func30, Try.ntmps30
  go_wp2_with fail
  refine (repeat_c (-1) n _ _ hn1 hn (by simp) (by go_simp)).mono ?_
  rintro e w1 ⟨A, ca, rfl, hA, hx1⟩
  rw [List.length_replicate]
  obtain ⟨hc1, hf1, hz1⟩ := hx1.rules
  have hz10 : w.heap.size < w1.heap.size := by have h := hx1.size; simp at h; omega
  go_wp2_with fail
  refine (repeat_c 1 n _ _ hn1 hn (by simp) (by go_simp)).mono ?_
  rintro e w2 ⟨B, cb, rfl, hB, hx2⟩
  rw [List.length_replicate]
  obtain ⟨hc2, hf2, hz2⟩ := hx2.rules
  have hz20 : w.heap.size < w2.heap.size := by have h := hx2.size; simp at h; omega
  have z0 : w2.cell? ⟨w.heap.size, 0, none⟩ = some (.slice none 0 0) := hx2.cell (by simp; omega) (by go_simp)
  have z1 : w2.cell? ⟨w.heap.size, 1, none⟩ = some (.slice none 0 0) := hx2.cell (by simp; omega) (by go_simp)
  have z2 : w2.cell? ⟨w.heap.size, 2, none⟩ = some (.slice none 0 0) := hx2.cell (by simp; omega) (by go_simp)
  have f0 : w2.frozen? ⟨w.heap.size, 0, none⟩ = false := hx2.frozen (by simp; omega) (by go_simp)
  have f1 : w2.frozen? ⟨w.heap.size, 1, none⟩ = false := hx2.frozen (by simp; omega) (by go_simp)
  have f2 : w2.frozen? ⟨w.heap.size, 2, none⟩ = false := hx2.frozen (by simp; omega) (by go_simp)
  clear hc1 hc2 hf1 hf2
  go_wp2
  refine bodyPost_ret (v := tupT true (St A n ca B n cb none 0 0)) (by simp [results, Try.f30, go_sem, *]) rfl ?_
  refine ⟨A, ca, B, cb, rfl, ?_, ?_, ?_, (by repeat (first | exact Nx.refl _ | assumption | apply Nx.alloc | apply Nx.drew | apply Nx.drewN | (refine Nx.setCell ?_ (by first | (simp; done) | (simp; omega) | omega) _) | refine Nx.trans ?_ (by assumption)))⟩
  · refine OwnI.mono (base := w.heap.size + 1) ?_ (by omega)
    (repeat (refine OwnI.far ?_ (by simp) _))
    exact OwnI.nx (OwnI.mono hA (by simp)) (by repeat (first | exact Nx.refl _ | assumption | apply Nx.alloc | apply Nx.drew | apply Nx.drewN | (refine Nx.setCell ?_ (by first | (simp; done) | (simp; omega) | omega) _) | refine Nx.trans ?_ (by assumption)))
  · refine OwnI.mono (base := w.heap.size + 1) ?_ (by omega)
    (repeat (refine OwnI.far ?_ (by simp) _))
    exact OwnI.mono hB (by simp; omega)
  · exact apart_of hA.lt hB.lt (by simp)
end Go.Proofs.Yticjoichmcegnaa
