/- Contracts: CutEdge of both sides. -/
import Derived.Test.YticjoichmcegnaaC3
namespace Go.Proofs.Yticjoichmcegnaa
open Go.RowKit

open Classical in
/-- what CutEdge returns -/
noncomputable def cutN (n : Int) (es : Es) (e : Int × Int) : Int := if HasB n es e.1 e.2 then n else 0
open Classical in
noncomputable def cutL (n : Int) (es : Es) (e : Int × Int) : Es := if HasB n es e.1 e.2 then outE es e else []
theorem cutL_len (n : Int) (es : Es) (e : Int × Int) : (cutL n es e).length ≤ es.length := by
  unfold cutL; split
  · exact outE_len es e
  · simp

/-- the call returns a graph, its row its own, and whether it is one -/
def RetGB (t : TypeId) (n : Int) (es : Es) (b : Bool) (w : World) (e : Ending) (w' : World) : Prop :=
  ∃ A c, e = .returned (.tuple #[.agg #[V n, .slice A es.length c], .bool b]) ∧ OwnE w' w.heap.size t A c es ∧ Nx w w'

set_option maxRecDepth 100000 in
set_option maxHeartbeats 2000000 in
theorem iCutEdge_c (n : Int) (A : Option Addr) (c : Nat) (es : List (Int × Int)) (u v : Int) (w : World) (hx : EdgesAt w A es) (hl : es.length ≤ 1048576) :
    Calls Try.prog 18 #[.agg #[V n, .slice A es.length c], Ed u v] w (RetGB 31 (cutN n es (u, v)) (cutL n es (u, v)) (decide (HasB n es u v)) w) := by
  have hh := iHasEdge_c n A c es u v
  by_cases hv : HasB n es u v
  · have hd : decide (HasB n es u v) = true := by simpa using hv
    rw [show cutN n es (u, v) = n from if_pos hv, show cutL n es (u, v) = outE es (u, v) from if_pos hv]
    rw [hd] at hh ⊢
    have Hh := Lib.hid hh
    clear hh hd hv
    go_enter Try.func18, Try.ntmps18
    go_wp2_with fail
    generalize hW1 : World.alloc _ _ = W1
    have gs1 : W1.heap.size = w.heap.size + 3 := by subst hW1; simp
    have gn1 : Nx w W1 := by subst hW1; exact (by repeat (first | exact Nx.refl _ | assumption | apply Nx.alloc | apply Nx.drew | apply Nx.drewN | (refine Nx.setCell ?_ (by first | (simp; done) | (simp; omega) | omega) _) | refine Nx.trans ?_ (by assumption)))
    have hbx : Bx W1 (w.heap.size + 2) 25 [V 0, .slice none 0 0] := by subst hW1; have h := Bx.alloc ((w.alloc (.cells #[V n, .slice A es.length c] 25)).alloc (.cells #[V u, V v] 31)) 25 [V 0, .slice none 0 0]; simpa using h
    have c0 : W1.cell? ⟨w.heap.size, 0, none⟩ = some (V n) := by subst hW1; go_simp
    have c1 : W1.cell? ⟨w.heap.size, 1, none⟩ = some (.slice A es.length c) := by subst hW1; go_simp
    have e0 : W1.cell? ⟨w.heap.size + 1, 0, none⟩ = some (V u) := by subst hW1; go_simp
    have e1 : W1.cell? ⟨w.heap.size + 1, 1, none⟩ = some (V v) := by subst hW1; go_simp
    have gs2 : w.heap.size + 1 < W1.heap.size := by omega
    have gs3 : w.heap.size < W1.heap.size := by omega
    have gs4 : w.heap.size + 3 ≤ W1.heap.size := by omega
    clear hW1 gs1
    refine (Hh.out _ (hx.nx gn1) (by omega)).mono ?_
    rintro e w2 ⟨rfl, hn2⟩
    have c0 := hn2.cell (p := ⟨w.heap.size, 0, none⟩) gs3 c0
    have c1 := hn2.cell (p := ⟨w.heap.size, 1, none⟩) gs3 c1
    have e0 := hn2.cell (p := ⟨w.heap.size + 1, 0, none⟩) gs2 e0
    have e1 := hn2.cell (p := ⟨w.heap.size + 1, 1, none⟩) gs2 e1
    have gz2 := hn2.size
    go_wp2_with fail
    refine (cut_c n A c es u v _ ((hx.nx gn1).nx hn2) hl).mono ?_
    rintro e w3 ⟨B, d, rfl, ho3, hn3⟩
    have hb3 := (hbx.nx hn2).nx hn3
    have r0 := hb3.cell (j := 0) rfl
    have r1 := hb3.cell (j := 1) rfl
    have rf := hb3.free
    have hn03 : Nx w w3 := (gn1.trans hn2).trans hn3
    generalize outE es (u, v) = ys at *
    go_wp2
    refine bodyPost_ret (v := .tuple #[.agg #[V n, .slice B ys.length d], .bool true]) (by simp [results, Try.f18, go_sem, *]) rfl ?_
    refine ⟨B, d, rfl, ?_, (by repeat (first | exact Nx.refl _ | assumption | apply Nx.alloc | apply Nx.drew | apply Nx.drewN | (refine Nx.setCell ?_ (by first | (simp; done) | (simp; omega) | omega) _) | refine Nx.trans ?_ (by assumption)))⟩
    exact ((ho3.far (by simp; omega) _).far (by simp; omega) _).mono (by omega)
  · have hd : decide (HasB n es u v) = false := by simpa using hv
    rw [show cutN n es (u, v) = 0 from if_neg hv, show cutL n es (u, v) = [] from if_neg hv]
    rw [hd] at hh ⊢
    have Hh := Lib.hid hh
    clear hh hd hv
    go_enter Try.func18, Try.ntmps18
    go_wp2_with fail
    generalize hW1 : World.alloc _ _ = W1
    have gs1 : W1.heap.size = w.heap.size + 3 := by subst hW1; simp
    have gn1 : Nx w W1 := by subst hW1; exact (by repeat (first | exact Nx.refl _ | assumption | apply Nx.alloc | apply Nx.drew | apply Nx.drewN | (refine Nx.setCell ?_ (by first | (simp; done) | (simp; omega) | omega) _) | refine Nx.trans ?_ (by assumption)))
    have hbx : Bx W1 (w.heap.size + 2) 25 [V 0, .slice none 0 0] := by subst hW1; have h := Bx.alloc ((w.alloc (.cells #[V n, .slice A es.length c] 25)).alloc (.cells #[V u, V v] 31)) 25 [V 0, .slice none 0 0]; simpa using h
    have gs4 : w.heap.size + 3 ≤ W1.heap.size := by omega
    clear hW1 gs1
    refine (Hh.out _ (hx.nx gn1) (by omega)).mono ?_
    rintro e w2 ⟨rfl, hn2⟩
    have hb2 := hbx.nx hn2
    have r0 := hb2.cell (j := 0) rfl
    have r1 := hb2.cell (j := 1) rfl
    have rf := hb2.free
    have hn02 : Nx w w2 := gn1.trans hn2
    go_wp2
    refine bodyPost_ret (v := .tuple #[.agg #[V 0, .slice none 0 0], .bool false]) (by simp [results, Try.f18, go_sem, *]) rfl ?_
    exact ⟨none, 0, rfl, OwnE.nil _ _ _, (by repeat (first | exact Nx.refl _ | assumption | apply Nx.alloc | apply Nx.drew | apply Nx.drewN | (refine Nx.setCell ?_ (by first | (simp; done) | (simp; omega) | omega) _) | refine Nx.trans ?_ (by assumption)))⟩

end Go.Proofs.Yticjoichmcegnaa
