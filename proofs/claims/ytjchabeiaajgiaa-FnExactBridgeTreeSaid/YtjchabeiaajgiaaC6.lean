/- Contracts: IsBridge of both sides; the bridges (edgesBy, BridgesOf; l4Bridges, BridgesOf). -/
import Derived.Test.YtjchabeiaajgiaaC5
import Derived.Test.YtjchabeiaajgiaaP4
namespace Go.Proofs.Ytjchabeiaajgiaa
open Go.RowKit

/-- what IsBridge returns -/
noncomputable def isBr (n : Int) (es : Es) (u v : Int) : Bool := decide (HasB n es u v) && bridgeB n.toNat es (u, v)
theorem isBr_no {n : Int} {es : Es} {u v : Int} (h : ¬ HasB n es u v) : isBr n es u v = false := by simp [isBr, h]
theorem isBr_yes {n : Int} {es : Es} {u v : Int} (h : HasB n es u v) : isBr n es u v = bridgeB n.toNat es (u, v) := by simp [isBr, h]

set_option maxRecDepth 100000 in
set_option maxHeartbeats 2000000 in
theorem iIsBridge_c (n : Int) (A : Option Addr) (c : Nat) (es : List (Int × Int)) (u v : Int) (w : World) (hx : EdgesAt w A es) (hl : es.length ≤ 1048576) :
    Calls Try.prog 36 #[.agg #[V n, .slice A es.length c], Ed u v] w (RetV (.bool (isBr n es u v)) w) := by
  have hh := iHasEdge_c n A c es u v
  by_cases hv : HasB n es u v
  · rw [isBr_yes hv]
    rw [show decide (HasB n es u v) = true by simpa using hv] at hh
    have Hh := Lib.hid hh
    have hb := isBridge_c n.toNat A c es u v
    rw [hv.1.nat] at hb
    have Hb := Lib.hid hb
    have hp := hv.1.pair hv.2
    have h16 := hv.1.2.1
    have h01 := hv.1.1
    have HR := Lib.hid hv.1.inR
    have HD := Lib.hid hv.1.apart
    clear hh hb hv
    go_enter Try.func36, Try.ntmps36
    go_wp2_with fail
    generalize hW1 : World.alloc _ _ = W1
    have gW1 : Nx w W1 := by subst hW1; exact (by repeat (first | exact Nx.refl _ | assumption | apply Nx.alloc | apply Nx.drew | apply Nx.drewN | (refine Nx.setCell ?_ (by first | (simp; done) | (simp; omega) | omega) _) | refine Nx.trans ?_ (by assumption)))
    have sW1 : W1.heap.size = w.heap.size + 2 := by subst hW1; simp
    have X0 : Bx W1 (w.heap.size) 26 [V n, .slice A es.length c] := by subst hW1; have h := Bx.alloc w 26 [V n, .slice A es.length c]; have h := h.nx (Nx.alloc (Nx.refl _) (.cells #[V u, V v] 36)); simpa using h
    have X1 : Bx W1 (w.heap.size + 1) 36 [V u, V v] := by subst hW1; have h := Bx.alloc (w.alloc (.cells #[V n, .slice A es.length c] 26)) 36 [V u, V v]; simpa using h
    have X0_0 := X0.cell (j := 0) rfl
    have X0_1 := X0.cell (j := 1) rfl
    have X0_z := X0.lt
    have X1_0 := X1.cell (j := 0) rfl
    have X1_1 := X1.cell (j := 1) rfl
    have X1_z := X1.lt
    have HsW1 := Lib.hid sW1
    have lW1 : w.heap.size + 2 ≤ W1.heap.size := by omega
    clear hW1 sW1
    refine (Hh.out _ (hx.nx gW1) (by omega)).mono ?_
    rintro e w2 ⟨rfl, hn2⟩
    replace X0 := X0.nx hn2
    replace X0_0 := X0.cell (j := 0) rfl
    replace X0_1 := X0.cell (j := 1) rfl
    replace X0_z := X0.lt
    replace X1 := X1.nx hn2
    replace X1_0 := X1.cell (j := 0) rfl
    replace X1_1 := X1.cell (j := 1) rfl
    replace X1_z := X1.lt
    go_wp2_with fail
    refine (Hb.out _ ((hx.nx gW1).nx hn2) hl (by omega) HR.out HD.out (by omega) (by omega)).mono ?_
    rintro e w3 ⟨rfl, hn3⟩
    generalize bridgeB n.toNat es (u, v) = br at *
    go_wp2
    go_ret
    exact RetV.bool rfl ((gW1.trans hn2).trans hn3)
  · rw [isBr_no hv]
    rw [show decide (HasB n es u v) = false by simpa using hv] at hh
    have Hh := Lib.hid hh
    clear hh hv
    go_enter Try.func36, Try.ntmps36
    go_wp2_with fail
    generalize hW1 : World.alloc _ _ = W1
    have gW1 : Nx w W1 := by subst hW1; exact (by repeat (first | exact Nx.refl _ | assumption | apply Nx.alloc | apply Nx.drew | apply Nx.drewN | (refine Nx.setCell ?_ (by first | (simp; done) | (simp; omega) | omega) _) | refine Nx.trans ?_ (by assumption)))
    have sW1 : W1.heap.size = w.heap.size + 2 := by subst hW1; simp
    have X0 : Bx W1 (w.heap.size) 26 [V n, .slice A es.length c] := by subst hW1; have h := Bx.alloc w 26 [V n, .slice A es.length c]; have h := h.nx (Nx.alloc (Nx.refl _) (.cells #[V u, V v] 36)); simpa using h
    have X1 : Bx W1 (w.heap.size + 1) 36 [V u, V v] := by subst hW1; have h := Bx.alloc (w.alloc (.cells #[V n, .slice A es.length c] 26)) 36 [V u, V v]; simpa using h
    have X0_0 := X0.cell (j := 0) rfl
    have X0_1 := X0.cell (j := 1) rfl
    have X0_z := X0.lt
    have X1_0 := X1.cell (j := 0) rfl
    have X1_1 := X1.cell (j := 1) rfl
    have X1_z := X1.lt
    have HsW1 := Lib.hid sW1
    have lW1 : w.heap.size + 2 ≤ W1.heap.size := by omega
    clear hW1 sW1
    refine (Hh.out _ (hx.nx gW1) (by omega)).mono ?_
    rintro e w2 ⟨rfl, hn2⟩
    replace X0 := X0.nx hn2
    replace X0_0 := X0.cell (j := 0) rfl
    replace X0_1 := X0.cell (j := 1) rfl
    replace X0_z := X0.lt
    replace X1 := X1.nx hn2
    replace X1_0 := X1.cell (j := 0) rfl
    replace X1_1 := X1.cell (j := 1) rfl
    replace X1_z := X1.lt
    go_wp2
    go_ret
    exact RetV.bool rfl (gW1.trans hn2)

/-- isBridge as a function value -/
theorem isBridge_tells (n : Nat) (A : Option Addr) (c : Nat) (es : Es) (w : World) (hx : EdgesAt w A es) (hl : es.length ≤ 1048576) (hn16 : n ≤ 16) (hr : InR n es) (hd : ∀ e ∈ es, e.1 ≠ e.2) :
    TellsE 78 #[.agg #[V n, .slice A es.length c]] #[] (bridgeB n es) es none w := fun W x y hm hW => by
  have hWn : Nx w W := ⟨hW.os, hW.tape, hW.output, hW.size, fun k hk => hW.block k hk (by simp)⟩
  have h := hr _ hm
  exact isBridge_c n A c es x y W (hx.nx hWn) hl hn16 hr hd ⟨h.1, h.2.1⟩ ⟨h.2.2.1, h.2.2.2⟩

set_option maxRecDepth 100000 in
set_option maxHeartbeats 1000000 in
/-- the closure of edgesBy: not so -/
theorem notIs_c (g : Nat) (bd lb : Array Value) (q : Bool) (b : Nat) (x y : Int) (w : World) (eg : ∀ args w, (callFunc g args).run Try.prog w = .ok (.enter g args) w)
    (h0 : w.cell? ⟨b, 0, none⟩ = some (.func (.func g) bd lb)) (hp : ∀ W, Nx w W → Calls Try.prog g (bd.push (Ed x y) ++ lb) W (RetV (.bool q) W)) :
    Calls Try.prog 116 #[Ed x y, .pointer (some ⟨b, 0, none⟩)] w (RetV (.bool (!q)) w) := by
  have Hp := Lib.hid hp
  have hb : b < w.heap.size := World.block_lt_of_cell? w _ h0
  clear hp
  go_enter Try.func116, Try.ntmps116
  go_wp2_with fail
  refine (Hp.out _ (by repeat (first | exact Nx.refl _ | assumption | apply Nx.alloc | apply Nx.drew | apply Nx.drewN | (refine Nx.setCell ?_ (by first | (simp; done) | (simp; omega) | omega) _) | refine Nx.trans ?_ (by assumption)))).mono ?_
  rintro e w2 ⟨rfl, hn2⟩
  go_wp2
  go_ret
  exact RetV.bool rfl (by repeat (first | exact Nx.refl _ | assumption | apply Nx.alloc | apply Nx.drew | apply Nx.drewN | (refine Nx.setCell ?_ (by first | (simp; done) | (simp; omega) | omega) _) | refine Nx.trans ?_ (by assumption)))

theorem filter_nn (p : Int × Int → Bool) (es : Es) : (es.filter fun e => !(!p e)) = es.filter p := by
  congr 1
  funext e
  simp

set_option maxRecDepth 100000 in
set_option maxHeartbeats 2000000 in
theorem edgesBy_c (g : Nat) (bd lb : Array Value) (p : Int × Int → Bool) (eg : ∀ args w, (callFunc g args).run Try.prog w = .ok (.enter g args) w) (n : Int) (A : Option Addr) (c : Nat) (es : List (Int × Int)) (w : World) (hx : EdgesAt w A es) (hl : es.length ≤ 1048576)
    (hp : TellsE g bd lb p es none w) :
    Calls Try.prog 77 #[.agg #[V n, .slice A es.length c], .func (.func g) bd lb] w (RetE 36 (es.filter p) w) := by
  have Hp := Lib.hid hp
  have Hf := Lib.hid (filter_nn p es)
  clear hp
  generalize es.filter p = ys at Hf ⊢
  go_enter Try.func77, Try.ntmps77
  go_wp2_with fail
  generalize hW1 : World.alloc _ _ = W1
  have gW1 : Nx w W1 := by subst hW1; exact (by repeat (first | exact Nx.refl _ | assumption | apply Nx.alloc | apply Nx.drew | apply Nx.drewN | (refine Nx.setCell ?_ (by first | (simp; done) | (simp; omega) | omega) _) | refine Nx.trans ?_ (by assumption)))
  have sW1 : W1.heap.size = w.heap.size + 2 := by subst hW1; simp
  have X0 : Bx W1 (w.heap.size) 26 [V n, .slice A es.length c] := by subst hW1; have h := Bx.alloc w 26 [V n, .slice A es.length c]; have h := h.nx (Nx.alloc (Nx.refl _) (.cells #[.func (.func g) bd lb] 89)); simpa using h
  have X1 : Bx W1 (w.heap.size + 1) 89 [.func (.func g) bd lb] := by subst hW1; have h := Bx.alloc (w.alloc (.cells #[V n, .slice A es.length c] 26)) 89 [.func (.func g) bd lb]; simpa using h
  have X0_0 := X0.cell (j := 0) rfl
  have X0_1 := X0.cell (j := 1) rfl
  have X0_z := X0.lt
  have X1_0 := X1.cell (j := 0) rfl
  have X1_z := X1.lt
  have HsW1 := Lib.hid sW1
  have lW1 : w.heap.size + 2 ≤ W1.heap.size := by omega
  clear hW1 sW1
  refine (without_c 116 #[] #[.pointer (some ⟨w.heap.size + 1, 0, none⟩)] (fun f => !p f) (enters_of Try.func116 (by rfl) rfl) n A c es _ (hx.nx gW1) hl (fun W x y hm hW => ?_)).mono ?_
  · have hWn : Nx W1 W := ⟨hW.os, hW.tape, hW.output, hW.size, fun k hk => hW.block k hk (by simp)⟩
    exact notIs_c g bd lb (p (x, y)) (w.heap.size + 1) x y W eg (hWn.cell X1_z X1_0) (fun W' hW' => Hp.out W' x y hm ((gW1.trans hWn).trans hW').grownNone)
  rintro e w2 ⟨B, d, rfl, ho2, hn2⟩
  rw [Hf.out] at ho2 ⊢
  have hfd : ∀ (m : Nat) (w : World), (Instr.field 26 (.agg #[V n, .slice B m d]) 1).run Try.prog w = .ok (.slice B m d) w := fun _ _ => by kernel_rfl
  go_wp2
  go_ret
  exact ⟨B, d, rfl, ho2.mono (by omega), gW1.trans hn2⟩

open Classical in
/-- what BridgesOf returns -/
noncomputable def bridgesOf (n : Int) (es : Es) : Es := if Valid n es then bridgesL n.toNat es else []
theorem bridgesOf_yes {n : Int} {es : Es} (h : Valid n es) : bridgesOf n es = bridgesL n.toNat es := if_pos h
theorem bridgesOf_no {n : Int} {es : Es} (h : ¬ Valid n es) : bridgesOf n es = [] := if_neg h
theorem bridgesOf_length (n : Int) (es : Es) : (bridgesOf n es).length ≤ 40 := by
  by_cases h : Valid n es
  · rw [bridgesOf_yes h]; have := h.2.2.1; have := bridgesL_len n.toNat es; omega
  · rw [bridgesOf_no h]; simp

set_option maxRecDepth 100000 in
set_option maxHeartbeats 2000000 in
theorem iBridgesOf_c (n : Int) (A : Option Addr) (c : Nat) (es : List (Int × Int)) (w : World) (hx : EdgesAt w A es) (hl : es.length ≤ 1048576) :
    Calls Try.prog 32 #[.agg #[V n, .slice A es.length c]] w (RetE 36 (bridgesOf n es) w) := by
  have hgv := iGraphValid_c n A c es
  by_cases hv : Valid n es
  · rw [bridgesOf_yes hv]
    rw [show decide (Valid n es) = true by simpa using hv] at hgv
    have Hgv := Lib.hid hgv
    have ht := isBridge_tells n.toNat A c es
    rw [hv.nat] at ht
    have Ht := Lib.hid ht
    have h16 := hv.2.1
    have HR := Lib.hid hv.inR
    have HD := Lib.hid hv.apart
    clear hgv ht hv
    go_enter Try.func32, Try.ntmps32
    go_wp2_with fail
    generalize hW1 : World.alloc _ _ = W1
    have gW1 : Nx w W1 := by subst hW1; exact (by repeat (first | exact Nx.refl _ | assumption | apply Nx.alloc | apply Nx.drew | apply Nx.drewN | (refine Nx.setCell ?_ (by first | (simp; done) | (simp; omega) | omega) _) | refine Nx.trans ?_ (by assumption)))
    have sW1 : W1.heap.size = w.heap.size + 1 := by subst hW1; simp
    have X0 : Bx W1 (w.heap.size) 26 [V n, .slice A es.length c] := by subst hW1; have h := Bx.alloc w 26 [V n, .slice A es.length c]; simpa using h
    have X0_0 := X0.cell (j := 0) rfl
    have X0_1 := X0.cell (j := 1) rfl
    have X0_z := X0.lt
    have HsW1 := Lib.hid sW1
    have lW1 : w.heap.size + 1 ≤ W1.heap.size := by omega
    clear hW1 sW1
    refine (Hgv.out _ (hx.nx gW1) (by omega)).mono ?_
    rintro e w2 ⟨rfl, hn2⟩
    replace X0 := X0.nx hn2
    replace X0_0 := X0.cell (j := 0) rfl
    replace X0_1 := X0.cell (j := 1) rfl
    replace X0_z := X0.lt
    have hx2 := (hx.nx gW1).nx hn2
    go_wp2_with fail
    refine (edgesBy_c 78 #[.agg #[V n, .slice A es.length c]] #[] (bridgeB n.toNat es) (enters_of Try.func78 (by rfl) rfl) n A c es _ hx2 hl (Ht.out _ hx2 hl (by omega) HR.out HD.out)).mono ?_
    rintro e w3 ⟨B, d, rfl, ho3, hn3⟩
    have ho3 : OwnE w3 w2.heap.size 36 B d (bridgesL n.toNat es) := ho3
    have hlen : (es.filter (bridgeB n.toNat es)).length = (bridgesL n.toNat es).length := rfl
    have Hlen := Lib.hid hlen
    have hz2 := hn2.size
    clear hlen
    go_wp2
    go_ret
    exact ⟨B, d, by rw [Hlen.out]; rfl, ho3.mono (by omega), (gW1.trans hn2).trans hn3⟩
  · rw [bridgesOf_no hv]
    rw [show decide (Valid n es) = false by simpa using hv] at hgv
    have Hgv := Lib.hid hgv
    clear hgv hv
    go_enter Try.func32, Try.ntmps32
    go_wp2_with fail
    generalize hW1 : World.alloc _ _ = W1
    have gW1 : Nx w W1 := by subst hW1; exact (by repeat (first | exact Nx.refl _ | assumption | apply Nx.alloc | apply Nx.drew | apply Nx.drewN | (refine Nx.setCell ?_ (by first | (simp; done) | (simp; omega) | omega) _) | refine Nx.trans ?_ (by assumption)))
    have sW1 : W1.heap.size = w.heap.size + 1 := by subst hW1; simp
    have X0 : Bx W1 (w.heap.size) 26 [V n, .slice A es.length c] := by subst hW1; have h := Bx.alloc w 26 [V n, .slice A es.length c]; simpa using h
    have X0_0 := X0.cell (j := 0) rfl
    have X0_1 := X0.cell (j := 1) rfl
    have X0_z := X0.lt
    have HsW1 := Lib.hid sW1
    have lW1 : w.heap.size + 1 ≤ W1.heap.size := by omega
    clear hW1 sW1
    refine (Hgv.out _ (hx.nx gW1) (by omega)).mono ?_
    rintro e w2 ⟨rfl, hn2⟩
    go_wp2
    go_ret
    exact ⟨none, 0, rfl, OwnE.nil _ _ _, gW1.trans hn2⟩
end Go.Proofs.Ytjchabeiaajgiaa
