/- Contracts: IsBridge of both sides; the bridges (edgesBy, BridgesOf; l4Bridges, BridgesOf). -/
import Derived.Test.YticjoichmcegnaaC5
import Derived.Test.YticjoichmcegnaaP4
namespace Go.Proofs.Yticjoichmcegnaa
open Go.RowKit

/-- what IsBridge returns -/
noncomputable def isBr (n : Int) (es : Es) (u v : Int) : Bool := decide (HasB n es u v) && bridgeB n.toNat es (u, v)
theorem isBr_no {n : Int} {es : Es} {u v : Int} (h : ¬ HasB n es u v) : isBr n es u v = false := by simp [isBr, h]
theorem isBr_yes {n : Int} {es : Es} {u v : Int} (h : HasB n es u v) : isBr n es u v = bridgeB n.toNat es (u, v) := by simp [isBr, h]

set_option maxRecDepth 100000 in
set_option maxHeartbeats 2000000 in
theorem iIsBridge_c (n : Int) (A : Option Addr) (c : Nat) (es : List (Int × Int)) (u v : Int) (w : World) (hx : EdgesAt w A es) (hl : es.length ≤ 1048576) :
    Calls Try.prog 58 #[.agg #[V n, .slice A es.length c], Ed u v] w (RetV (.bool (isBr n es u v)) w) := by
  have hh := iHasEdge_c n A c es u v
  by_cases hv : HasB n es u v
  · rw [isBr_yes hv]
    rw [show decide (HasB n es u v) = true by simpa using hv] at hh
    have Hh := Lib.hid hh
    have hb := isBridge_c n.toNat A c es u v
    rw [hv.1.nat] at hb
    have Hb := Lib.hid hb
    have hp := hv.1.pair hv.2
    have h16 := hv.1.2.1
    have h01 := hv.1.1
    have HR := Lib.hid hv.1.inR
    have HD := Lib.hid hv.1.apart
    clear hh hb hv
    go_enter Try.func58, Try.ntmps58
    go_wp2_with fail
    generalize hW1 : World.alloc _ _ = W1
    have gW1 : Nx w W1 := by subst hW1; exact (by repeat (first | exact Nx.refl _ | assumption | apply Nx.alloc | apply Nx.drew | apply Nx.drewN | (refine Nx.setCell ?_ (by first | (simp; done) | (simp; omega) | omega) _) | refine Nx.trans ?_ (by assumption)))
    have sW1 : W1.heap.size = w.heap.size + 2 := by subst hW1; simp
    have X0 : Bx W1 (w.heap.size) 25 [V n, .slice A es.length c] := by subst hW1; have h := Bx.alloc w 25 [V n, .slice A es.length c]; have h := h.nx (Nx.alloc (Nx.refl _) (.cells #[V u, V v] 31)); simpa using h
    have X1 : Bx W1 (w.heap.size + 1) 31 [V u, V v] := by subst hW1; have h := Bx.alloc (w.alloc (.cells #[V n, .slice A es.length c] 25)) 31 [V u, V v]; simpa using h
    have X0_0 := X0.cell (j := 0) rfl
    have X0_1 := X0.cell (j := 1) rfl
    have X0_z := X0.lt
    have X1_0 := X1.cell (j := 0) rfl
    have X1_1 := X1.cell (j := 1) rfl
    have X1_z := X1.lt
    have HsW1 := Lib.hid sW1
    have lW1 : w.heap.size + 2 ≤ W1.heap.size := by omega
    clear hW1 sW1
    refine (Hh.out _ (hx.nx gW1) (by omega)).mono ?_
    rintro e w2 ⟨rfl, hn2⟩
    replace X0 := X0.nx hn2
    replace X0_0 := X0.cell (j := 0) rfl
    replace X0_1 := X0.cell (j := 1) rfl
    replace X0_z := X0.lt
    replace X1 := X1.nx hn2
    replace X1_0 := X1.cell (j := 0) rfl
    replace X1_1 := X1.cell (j := 1) rfl
    replace X1_z := X1.lt
    go_wp2_with fail
    refine (Hb.out _ ((hx.nx gW1).nx hn2) hl (by omega) HR.out HD.out (by omega) (by omega)).mono ?_
    rintro e w3 ⟨rfl, hn3⟩
    generalize bridgeB n.toNat es (u, v) = br at *
    go_wp2
    go_ret
    exact RetV.bool rfl ((gW1.trans hn2).trans hn3)
  · rw [isBr_no hv]
    rw [show decide (HasB n es u v) = false by simpa using hv] at hh
    have Hh := Lib.hid hh
    clear hh hv
    go_enter Try.func58, Try.ntmps58
    go_wp2_with fail
    generalize hW1 : World.alloc _ _ = W1
    have gW1 : Nx w W1 := by subst hW1; exact (by repeat (first | exact Nx.refl _ | assumption | apply Nx.alloc | apply Nx.drew | apply Nx.drewN | (refine Nx.setCell ?_ (by first | (simp; done) | (simp; omega) | omega) _) | refine Nx.trans ?_ (by assumption)))
    have sW1 : W1.heap.size = w.heap.size + 2 := by subst hW1; simp
    have X0 : Bx W1 (w.heap.size) 25 [V n, .slice A es.length c] := by subst hW1; have h := Bx.alloc w 25 [V n, .slice A es.length c]; have h := h.nx (Nx.alloc (Nx.refl _) (.cells #[V u, V v] 31)); simpa using h
    have X1 : Bx W1 (w.heap.size + 1) 31 [V u, V v] := by subst hW1; have h := Bx.alloc (w.alloc (.cells #[V n, .slice A es.length c] 25)) 31 [V u, V v]; simpa using h
    have X0_0 := X0.cell (j := 0) rfl
    have X0_1 := X0.cell (j := 1) rfl
    have X0_z := X0.lt
    have X1_0 := X1.cell (j := 0) rfl
    have X1_1 := X1.cell (j := 1) rfl
    have X1_z := X1.lt
    have HsW1 := Lib.hid sW1
    have lW1 : w.heap.size + 2 ≤ W1.heap.size := by omega
    clear hW1 sW1
    refine (Hh.out _ (hx.nx gW1) (by omega)).mono ?_
    rintro e w2 ⟨rfl, hn2⟩
    replace X0 := X0.nx hn2
    replace X0_0 := X0.cell (j := 0) rfl
    replace X0_1 := X0.cell (j := 1) rfl
    replace X0_z := X0.lt
    replace X1 := X1.nx hn2
    replace X1_0 := X1.cell (j := 0) rfl
    replace X1_1 := X1.cell (j := 1) rfl
    replace X1_z := X1.lt
    go_wp2
    go_ret
    exact RetV.bool rfl (gW1.trans hn2)

/-- isBridge as a function value -/
theorem isBridge_tells (n : Nat) (A : Option Addr) (c : Nat) (es : Es) (w : World) (hx : EdgesAt w A es) (hl : es.length ≤ 1048576) (hn16 : n ≤ 16) (hr : InR n es) (hd : ∀ e ∈ es, e.1 ≠ e.2) :
    TellsE 117 #[.agg #[V n, .slice A es.length c]] #[] (bridgeB n es) es none w := fun W x y hm hW => by
  have hWn : Nx w W := ⟨hW.os, hW.tape, hW.output, hW.size, fun k hk => hW.block k hk (by simp)⟩
  have h := hr _ hm
  exact isBridge_c n A c es x y W (hx.nx hWn) hl hn16 hr hd ⟨h.1, h.2.1⟩ ⟨h.2.2.1, h.2.2.2⟩

theorem filter_nn (p : Int × Int → Bool) (es : Es) : (es.filter fun e => !(!p e)) = es.filter p := by
  congr 1
  funext e
  simp

open Classical in
/-- what BridgesOf returns -/
noncomputable def bridgesOf (n : Int) (es : Es) : Es := if Valid n es then bridgesL n.toNat es else []
theorem bridgesOf_yes {n : Int} {es : Es} (h : Valid n es) : bridgesOf n es = bridgesL n.toNat es := if_pos h
theorem bridgesOf_no {n : Int} {es : Es} (h : ¬ Valid n es) : bridgesOf n es = [] := if_neg h
theorem bridgesOf_length (n : Int) (es : Es) : (bridgesOf n es).length ≤ 40 := by
  by_cases h : Valid n es
  · rw [bridgesOf_yes h]; have := h.2.2.1; have := bridgesL_len n.toNat es; omega
  · rw [bridgesOf_no h]; simp

end Go.Proofs.Yticjoichmcegnaa
