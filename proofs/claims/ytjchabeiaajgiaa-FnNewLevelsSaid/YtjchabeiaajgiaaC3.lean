/- Contracts: a graph without some edges (without), without one (cut); CutEdge of both sides; is an edge a bridge. -/
import Derived.Test.YtjchabeiaajgiaaC2
import Derived.Test.YtjchabeiaajgiaaG4
import Derived.Deep.RegionHeld3
import Derived.Shelf.Abstract
namespace Go.Proofs.Ytjchabeiaajgiaa
open Go.RowKit

set_option maxRecDepth 100000 in
set_option maxHeartbeats 2000000 in
theorem without_c (g : Nat) (bd lb : Array Value) (p : Int × Int → Bool) (eg : ∀ args w, (callFunc g args).run Try.prog w = .ok (.enter g args) w) (n : Int) (A : Option Addr) (c : Nat) (es : List (Int × Int)) (w : World) (hx : EdgesAt w A es) (hl : es.length ≤ 1048576)
    (hp : TellsE g bd lb p es none w) :
    Calls Try.prog 115 #[.agg #[V n, .slice A es.length c], .func (.func g) bd lb] w (RetG 36 n (es.filter fun e => !p e) w) := by
  have Hp := Lib.hid hp
  clear hp
  obtain ⟨ys, hys⟩ : ∃ ys, (es.filter fun e => !p e) = ys := ⟨_, rfl⟩
  rw [hys]
  have Hys := Lib.hid hys
  clear hys
  go_enter Try.func115, Try.ntmps115
  go_wp2_with fail
  generalize hW1 : World.alloc _ _ = W1
  have gs1 : W1.heap.size = w.heap.size + 2 := by subst hW1; simp
  have gn1 : Nx w W1 := by subst hW1; exact (by repeat (first | exact Nx.refl _ | assumption | apply Nx.alloc | apply Nx.drew | apply Nx.drewN | (refine Nx.setCell ?_ (by first | (simp; done) | (simp; omega) | omega) _) | refine Nx.trans ?_ (by assumption)))
  have hbx : Bx W1 (w.heap.size + 1) 26 [V 0, .slice none 0 0] := by subst hW1; have h := Bx.alloc (w.alloc (.cells #[V n, .slice A es.length c] 26)) 26 [V 0, .slice none 0 0]; simpa using h
  have c0 : W1.cell? ⟨w.heap.size, 0, none⟩ = some (V n) := by subst hW1; go_simp
  have c1 : W1.cell? ⟨w.heap.size, 1, none⟩ = some (.slice A es.length c) := by subst hW1; go_simp
  have Gs1 := Lib.hid gs1
  have gs2 : w.heap.size < W1.heap.size := by omega
  have gs3 : w.heap.size + 1 < W1.heap.size := by omega
  clear hW1 gs1
  have kp : ∀ w', Rx (w.heap.size + 1) W1 w' → Rx (w.heap.size + 1) W1 w' ∧ w'.cell? ⟨w.heap.size, 0, none⟩ = some (V n) ∧ w'.cell? ⟨w.heap.size, 1, none⟩ = some (.slice A es.length c) := fun w' h => ⟨h, World.grownBy.cell h c0 (by simp), World.grownBy.cell h c1 (by simp)⟩
  have hd : Nx W1 W1.drew := .drew (.refl _)
  go_region_held3 (fun w_ => Rx (w.heap.size + 1) W1 w_ ∧ w_.cell? ⟨w.heap.size, 0, none⟩ = some (V n) ∧ w_.cell? ⟨w.heap.size, 1, none⟩ = some (.slice A es.length c))
    (first | exact kp _ (hd.rx _) | exact kp _ (hn13.rx _) | exact kp _ (hn14.rx _) | exact kp _ (((hn14.rx _).setCell _ _).setCell _ _))
    (first
      | (go_at_call 103; (with_reducible refine (cloneE_c A c es _ ((hx.nx gn1).nx hd) hl).mono ?_); rintro e w3 ⟨B, d, rfl, ho3, hn3⟩; have hn13 := hd.trans hn3; have hn03 : Nx w w3 := gn1.trans hn13; have hlt3 : ∀ k, blk B = some k → W1.heap.size ≤ k := fun k hk => (ho3.lt k hk).1)
      | (go_at_call 141; (with_reducible refine (deleteFuncE_c g bd lb p eg W1.heap.size B d es _ ho3 hl (Hp.out.row hn03 (fun k hk => by have := hlt3 k hk; omega))).mono ?_); rintro e w4 ⟨rfl, ho4, hg4⟩; rw [Hys.out] at ho4 ⊢; have hb4 := (hbx.nx hn13).grown hg4 (fun h => by have := hlt3 _ h; omega); have hn14 : Nx W1 w4 := Nx.grown hn13 hg4 hlt3; have r0 := hb4.cell (j := 0) rfl; have r1 := hb4.cell (j := 1) rfl; have rf := hb4.free))
  have hn4 : Nx w w4 := gn1.trans hn14
  go_wp2
  refine bodyPost_ret (v := .agg #[V n, .slice B ys.length d]) (by simp [results, Try.f115, go_sem, *]) rfl ?_
  refine ⟨B, d, rfl, ?_, (by repeat (first | exact Nx.refl _ | assumption | apply Nx.alloc | apply Nx.drew | apply Nx.drewN | (refine Nx.setCell ?_ (by first | (simp; done) | (simp; omega) | omega) _) | refine Nx.trans ?_ (by assumption)))⟩
  have gs1 := Gs1.out
  exact ((ho4.far (by simp; omega) _).far (by simp; omega) _).mono (by omega)

/-- the closure of cut: is it the edge? -/
theorem cutIs_c (b : Nat) (u v x y : Int) (w : World) (h0 : w.cell? ⟨b, 0, none⟩ = some (V u)) (h1 : w.cell? ⟨b, 1, none⟩ = some (V v)) :
    Calls Try.prog 142 #[Ed x y, .pointer (some ⟨b, 0, none⟩)] w (RetV (.bool (decide ((x, y) = (u, v)))) w) := by
  have hb : b < w.heap.size := World.block_lt_of_cell? w _ h0
  by_cases e1 : (x == u) = true
  · by_cases e2 : (y == v) = true
    · go_enter Try.func142, Try.ntmps142
      go_wp2
      go_ret
      exact RetV.bool (by simp at e1 e2; simp [e1, e2]) (by repeat (first | exact Nx.refl _ | assumption | apply Nx.alloc | apply Nx.drew | apply Nx.drewN | (refine Nx.setCell ?_ (by first | (simp; done) | (simp; omega) | omega) _) | refine Nx.trans ?_ (by assumption)))
    · have e2 : (y == v) = false := by simpa using e2
      go_enter Try.func142, Try.ntmps142
      go_wp2
      go_ret
      exact RetV.bool (by simp at e2; simp [e2]) (by repeat (first | exact Nx.refl _ | assumption | apply Nx.alloc | apply Nx.drew | apply Nx.drewN | (refine Nx.setCell ?_ (by first | (simp; done) | (simp; omega) | omega) _) | refine Nx.trans ?_ (by assumption)))
  · have e1 : (x == u) = false := by simpa using e1
    go_enter Try.func142, Try.ntmps142
    go_wp2
    go_ret
    exact RetV.bool (by simp at e1; simp [e1]) (by repeat (first | exact Nx.refl _ | assumption | apply Nx.alloc | apply Nx.drew | apply Nx.drewN | (refine Nx.setCell ?_ (by first | (simp; done) | (simp; omega) | omega) _) | refine Nx.trans ?_ (by assumption)))

theorem outE_filter (es : Es) (e : Int × Int) : (es.filter fun f => !decide (f = e)) = outE es e := by
  unfold outE
  congr 1
  funext f
  simp

set_option maxRecDepth 100000 in
set_option maxHeartbeats 2000000 in
theorem cut_c (n : Int) (A : Option Addr) (c : Nat) (es : List (Int × Int)) (u v : Int) (w : World) (hx : EdgesAt w A es) (hl : es.length ≤ 1048576) :
    Calls Try.prog 117 #[.agg #[V n, .slice A es.length c], Ed u v] w (RetG 36 n (outE es (u, v)) w) := by
  have Hys := Lib.hid (outE_filter es (u, v))
  generalize outE es (u, v) = ys at Hys ⊢
  go_enter Try.func117, Try.ntmps117
  go_wp2_with fail
  generalize hW1 : World.alloc _ _ = W1
  have gs1 : W1.heap.size = w.heap.size + 3 := by subst hW1; simp
  have gn1 : Nx w W1 := by subst hW1; exact (by repeat (first | exact Nx.refl _ | assumption | apply Nx.alloc | apply Nx.drew | apply Nx.drewN | (refine Nx.setCell ?_ (by first | (simp; done) | (simp; omega) | omega) _) | refine Nx.trans ?_ (by assumption)))
  have hbx : Bx W1 (w.heap.size + 2) 26 [V 0, .slice none 0 0] := by subst hW1; have h := Bx.alloc ((w.alloc (.cells #[V n, .slice A es.length c] 26)).alloc (.cells #[V u, V v] 36)) 26 [V 0, .slice none 0 0]; simpa using h
  have e0 : W1.cell? ⟨w.heap.size + 1, 0, none⟩ = some (V u) := by subst hW1; go_simp
  have e1 : W1.cell? ⟨w.heap.size + 1, 1, none⟩ = some (V v) := by subst hW1; go_simp
  have gs2 : w.heap.size + 1 < W1.heap.size := by omega
  have gs3 : w.heap.size + 3 ≤ W1.heap.size := by omega
  clear hW1 gs1
  refine (without_c 142 #[] #[.pointer (some ⟨w.heap.size + 1, 0, none⟩)] (fun f => decide (f = (u, v))) (enters_of Try.func142 (by rfl) rfl) n A c es _ (hx.nx gn1) hl (fun W x y _ hW => ?_)).mono ?_
  · have hWn : Nx W1 W := ⟨hW.os, hW.tape, hW.output, hW.size, fun k hk => hW.block k hk (by simp)⟩
    exact cutIs_c (w.heap.size + 1) u v x y W (hWn.cell gs2 e0) (hWn.cell gs2 e1)
  rintro e w2 ⟨B, d, rfl, ho2, hn2⟩
  rw [Hys.out] at ho2 ⊢
  have hb2 := hbx.nx hn2
  have r0 := hb2.cell (j := 0) rfl
  have r1 := hb2.cell (j := 1) rfl
  have rf := hb2.free
  clear e0 e1 hbx
  go_wp2
  refine bodyPost_ret (v := .agg #[V n, .slice B ys.length d]) (by simp [results, Try.f117, go_sem, *]) rfl ?_
  refine ⟨B, d, rfl, ?_, (by repeat (first | exact Nx.refl _ | assumption | apply Nx.alloc | apply Nx.drew | apply Nx.drewN | (refine Nx.setCell ?_ (by first | (simp; done) | (simp; omega) | omega) _) | refine Nx.trans ?_ (by assumption)))⟩
  exact ((ho2.far (by simp; omega) _).far (by simp; omega) _).mono (by omega)
end Go.Proofs.Ytjchabeiaajgiaa
