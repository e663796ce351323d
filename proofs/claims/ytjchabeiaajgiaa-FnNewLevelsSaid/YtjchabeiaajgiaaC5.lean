/- Contracts: is an edge a bridge (isBridge, l4Bridge, IsBridge); the bridges (edgesBy, BridgesOf; l4Bridges, BridgesOf). -/
import Derived.Test.YtjchabeiaajgiaaC4
namespace Go.Proofs.Ytjchabeiaajgiaa
open Go.RowKit

set_option maxRecDepth 100000 in
set_option maxHeartbeats 4000000 in
theorem isBridge_c (n : Nat) (A : Option Addr) (c : Nat) (es : List (Int × Int)) (u v : Int) (w : World) (hx : EdgesAt w A es) (hl : es.length ≤ 1048576) (hn16 : n ≤ 16) (hr : InR n es) (hd : ∀ e ∈ es, e.1 ≠ e.2) (hu : 0 ≤ u ∧ u < n) (hv : 0 ≤ v ∧ v < n) :
    Calls Try.prog 78 #[.agg #[V n, .slice A es.length c], Ed u v] w (RetV (.bool (bridgeB n es (u, v))) w) := by
  have HOr := Lib.hid (InR.sub hr (outE_sub (e := (u, v))))
  have HOd := Lib.hid (fun e (he : e ∈ outE es (u, v)) => hd e (outE_sub e he))
  have hOl := outE_len es (u, v)
  have hB : bridgeB n es (u, v) = !connB n (outE es (u, v)) u v := rfl
  have HB := Lib.hid hB
  have HU := Lib.hid hu
  have HV := Lib.hid hv
  clear hB hu hv hr hd
  go_enter Try.func78, Try.ntmps78
  go_wp2_with fail
  generalize hW1 : World.alloc _ _ = W1
  have gW1 : Nx w W1 := by subst hW1; exact (by repeat (first | exact Nx.refl _ | assumption | apply Nx.alloc | apply Nx.drew | apply Nx.drewN | (refine Nx.setCell ?_ (by first | (simp; done) | (simp; omega) | omega) _) | refine Nx.trans ?_ (by assumption)))
  have sW1 : W1.heap.size = w.heap.size + 2 := by subst hW1; simp
  have X0 : Bx W1 (w.heap.size) 26 [V n, .slice A es.length c] := by subst hW1; have h := Bx.alloc w 26 [V n, .slice A es.length c]; have h := h.nx (Nx.alloc (Nx.refl _) (.cells #[V u, V v] 36)); simpa using h
  have X1 : Bx W1 (w.heap.size + 1) 36 [V u, V v] := by subst hW1; have h := Bx.alloc (w.alloc (.cells #[V n, .slice A es.length c] 26)) 36 [V u, V v]; simpa using h
  have X0_0 := X0.cell (j := 0) rfl
  have X0_1 := X0.cell (j := 1) rfl
  have X0_z := X0.lt
  have X1_0 := X1.cell (j := 0) rfl
  have X1_1 := X1.cell (j := 1) rfl
  have X1_z := X1.lt
  have HsW1 := Lib.hid sW1
  have lW1 : w.heap.size + 2 ≤ W1.heap.size := by omega
  clear hW1 sW1
  have kp : ∀ w', Nx W1 w' → Nx W1 w' ∧ w'.cell? ⟨w.heap.size, 0, none⟩ = some (V n) ∧ w'.cell? ⟨w.heap.size, 1, none⟩ = some (.slice A es.length c) ∧ w'.cell? ⟨w.heap.size + 1, 0, none⟩ = some (V u) ∧ w'.cell? ⟨w.heap.size + 1, 1, none⟩ = some (V v) := fun w' h => ⟨h, h.cell X0_z X0_0, h.cell X0_z X0_1, h.cell X1_z X1_0, h.cell X1_z X1_1⟩
  have hdr : Nx W1 W1.drew := .drew (.refl _)
  have hg1 := hx.nx gW1
  go_region_held3 (fun w_ => Nx W1 w_ ∧ w_.cell? ⟨w.heap.size, 0, none⟩ = some (V n) ∧ w_.cell? ⟨w.heap.size, 1, none⟩ = some (.slice A es.length c) ∧ w_.cell? ⟨w.heap.size + 1, 0, none⟩ = some (V u) ∧ w_.cell? ⟨w.heap.size + 1, 1, none⟩ = some (V v))
    (first | exact kp _ hdr | exact kp _ hn12 | exact kp _ hn13)
    (first
      | (go_at_call 117; (with_reducible refine (cut_c n A c es u v _ (hg1.nx hdr) hl).mono ?_); rintro e w2 ⟨B, d, rfl, ho2, hn2⟩; have hn12 : Nx W1 w2 := hdr.trans hn2; have he2 := ho2.edgesAt)
      | (go_at_call 65; (with_reducible refine (connected_c n B d (outE es (u, v)) u v _ he2 (by omega) hn16 HOr.out HOd.out HU.out HV.out).mono ?_); rintro e w3 ⟨rfl, hn3⟩; have hn13 : Nx W1 w3 := hn12.trans hn3))
  go_wp2
  go_ret
  exact RetV.bool (by rw [HB.out]) (gW1.trans hn13)

set_option maxRecDepth 100000 in
set_option maxHeartbeats 4000000 in
theorem l4Bridge_c (n : Nat) (A : Option Addr) (c : Nat) (es : List (Int × Int)) (u v : Int) (w : World) (hx : EdgesAt w A es) (hl : es.length ≤ 1048576) (hn16 : n ≤ 16) (hr : InR n es) (hd : ∀ e ∈ es, e.1 ≠ e.2) (hu : 0 ≤ u ∧ u < n) (hv : 0 ≤ v ∧ v < n) :
    Calls Try.prog 118 #[.agg #[V n, .slice A es.length c], Ed u v] w (RetV (.bool (bridgeB n es (u, v))) w) := by
  have HOr := Lib.hid (InR.sub hr (outE_sub (e := (u, v))))
  have HOd := Lib.hid (fun e (he : e ∈ outE es (u, v)) => hd e (outE_sub e he))
  have hOl := outE_len es (u, v)
  have hB : bridgeB n es (u, v) = !connB n (outE es (u, v)) u v := rfl
  have HB := Lib.hid hB
  have HU := Lib.hid hu
  have HV := Lib.hid hv
  clear hB hu hv hr hd
  go_enter Try.func118, Try.ntmps118
  go_wp2_with fail
  generalize hW1 : World.alloc _ _ = W1
  have gW1 : Nx w W1 := by subst hW1; exact (by repeat (first | exact Nx.refl _ | assumption | apply Nx.alloc | apply Nx.drew | apply Nx.drewN | (refine Nx.setCell ?_ (by first | (simp; done) | (simp; omega) | omega) _) | refine Nx.trans ?_ (by assumption)))
  have sW1 : W1.heap.size = w.heap.size + 2 := by subst hW1; simp
  have X0 : Bx W1 (w.heap.size) 26 [V n, .slice A es.length c] := by subst hW1; have h := Bx.alloc w 26 [V n, .slice A es.length c]; have h := h.nx (Nx.alloc (Nx.refl _) (.cells #[V u, V v] 36)); simpa using h
  have X1 : Bx W1 (w.heap.size + 1) 36 [V u, V v] := by subst hW1; have h := Bx.alloc (w.alloc (.cells #[V n, .slice A es.length c] 26)) 36 [V u, V v]; simpa using h
  have X0_0 := X0.cell (j := 0) rfl
  have X0_1 := X0.cell (j := 1) rfl
  have X0_z := X0.lt
  have X1_0 := X1.cell (j := 0) rfl
  have X1_1 := X1.cell (j := 1) rfl
  have X1_z := X1.lt
  have HsW1 := Lib.hid sW1
  have lW1 : w.heap.size + 2 ≤ W1.heap.size := by omega
  clear hW1 sW1
  have kp : ∀ w', Nx W1 w' → Nx W1 w' ∧ w'.cell? ⟨w.heap.size, 0, none⟩ = some (V n) ∧ w'.cell? ⟨w.heap.size, 1, none⟩ = some (.slice A es.length c) ∧ w'.cell? ⟨w.heap.size + 1, 0, none⟩ = some (V u) ∧ w'.cell? ⟨w.heap.size + 1, 1, none⟩ = some (V v) := fun w' h => ⟨h, h.cell X0_z X0_0, h.cell X0_z X0_1, h.cell X1_z X1_0, h.cell X1_z X1_1⟩
  have hdr : Nx W1 W1.drew := .drew (.refl _)
  have hg1 := hx.nx gW1
  go_region_held3 (fun w_ => Nx W1 w_ ∧ w_.cell? ⟨w.heap.size, 0, none⟩ = some (V n) ∧ w_.cell? ⟨w.heap.size, 1, none⟩ = some (.slice A es.length c) ∧ w_.cell? ⟨w.heap.size + 1, 0, none⟩ = some (V u) ∧ w_.cell? ⟨w.heap.size + 1, 1, none⟩ = some (V v))
    (first | exact kp _ hdr | exact kp _ hn12 | exact kp _ hn13)
    (first
      | (go_at_call 143; (with_reducible refine (l1Without_c A c es u v _ (hg1.nx hdr) hl).mono ?_); rintro e w2 ⟨B, d, rfl, ho2, hn2⟩; have hn12 : Nx W1 w2 := hdr.trans hn2; have he2 := ho2.edgesAt)
      | (go_at_call 134; (with_reducible refine (l2Joined_c n B d (outE es (u, v)) u v _ he2 (by omega) hn16 HOr.out HOd.out HU.out HV.out).mono ?_); rintro e w3 ⟨rfl, hn3⟩; have hn13 : Nx W1 w3 := hn12.trans hn3))
  go_wp2
  go_ret
  exact RetV.bool (by rw [HB.out]) (gW1.trans hn13)
end Go.Proofs.Ytjchabeiaajgiaa
