/- Contracts: safeParts, SafeParts of both sides. -/
import Derived.Test.YtmagbdcmanchmaaC8
namespace Go.Proofs.Ytmagbdcmanchmaa
open Go.RowKit

set_option maxRecDepth 100000 in
set_option maxHeartbeats 2000000 in
theorem safeParts_c (n : Nat) (A : Option Addr) (c : Nat) (es : List (Int × Int)) (w : World) (hx : EdgesAt w A es) (hl : es.length ≤ 1048576) (hn16 : n ≤ 16) (hr : InR n es) (hd : ∀ e ∈ es, e.1 ≠ e.2) :
    Calls Try.prog 70 #[.agg #[V n, .slice A es.length c]] w (RetI 3 (labels n (bareL n es)) w) := by
  have HBr := Lib.hid (hr.sub (bareL_sub (n := n) (es := es)))
  have HBd := Lib.hid (fun e (he : e ∈ bareL n es) => hd e (bareL_sub e he))
  have hbl := bareL_len n es
  have Ht := Lib.hid (fun w hx => isBridge_tells n A c es w hx hl hn16 hr hd)
  clear hr hd
  go_enter Try.func70, Try.ntmps70
  go_wp2_with fail
  generalize hW1 : World.alloc _ _ = W1
  have gW1 : Nx w W1 := by subst hW1; exact (by repeat (first | exact Nx.refl _ | assumption | apply Nx.alloc | apply Nx.drew | apply Nx.drewN | (refine Nx.setCell ?_ (by first | (simp; done) | (simp; omega) | omega) _) | refine Nx.trans ?_ (by assumption)))
  have sW1 : W1.heap.size = w.heap.size + 1 := by subst hW1; simp
  have X0 : Bx W1 (w.heap.size) 29 [V n, .slice A es.length c] := by subst hW1; have h := Bx.alloc w 29 [V n, .slice A es.length c]; simpa using h
  have X0_0 := X0.cell (j := 0) rfl
  have X0_1 := X0.cell (j := 1) rfl
  have X0_z := X0.lt
  have HsW1 := Lib.hid sW1
  have lW1 : w.heap.size + 1 ≤ W1.heap.size := by omega
  clear hW1 sW1
  have hx1 := hx.nx gW1
  refine (without_c 62 #[.agg #[V n, .slice A es.length c]] #[] (bridgeB n es) (enters_of Try.func62 (by rfl) rfl) n A c es _ hx1 hl (Ht.out _ hx1)).mono ?_
  rintro e w2 ⟨B, d, rfl, ho2, hn2⟩
  have ho2 : OwnE w2 W1.heap.size 40 B d (bareL n es) := ho2
  go_wp2_with fail
  refine (parts_c n B d (bareL n es) _ ho2.edgesAt (by omega) hn16 HBr.out HBd.out).mono ?_
  rintro e w3 ⟨C, k, rfl, ho3, hn3⟩
  have gz2 := hn2.size
  generalize labels n (bareL n es) = ls at *
  go_wp2
  go_ret
  exact ⟨C, k, rfl, ho3.mono (by omega), (gW1.trans hn2).trans hn3⟩

open Classical in
/-- what SafeParts returns -/
noncomputable def safeOf (n : Int) (es : Es) : List Int := if Valid n es then labels n.toNat (bareL n.toNat es) else []
theorem safeOf_yes {n : Int} {es : Es} (h : Valid n es) : safeOf n es = labels n.toNat (bareL n.toNat es) := if_pos h
theorem safeOf_no {n : Int} {es : Es} (h : ¬ Valid n es) : safeOf n es = [] := if_neg h
theorem safeOf_length (n : Int) (es : Es) : (safeOf n es).length ≤ 16 := by
  by_cases h : Valid n es
  · rw [safeOf_yes h, labels_length (h.inR.sub bareL_sub)]; have := h.2.1; omega
  · rw [safeOf_no h]; simp

set_option maxRecDepth 100000 in
set_option maxHeartbeats 2000000 in
theorem iSafeParts_c (n : Int) (A : Option Addr) (c : Nat) (es : List (Int × Int)) (w : World) (hx : EdgesAt w A es) (hl : es.length ≤ 1048576) :
    Calls Try.prog 38 #[.agg #[V n, .slice A es.length c]] w (RetI 3 (safeOf n es) w) := by
  have hgv := iGraphValid_c n A c es
  by_cases hv : Valid n es
  · rw [safeOf_yes hv]
    rw [show decide (Valid n es) = true by simpa using hv] at hgv
    have Hgv := Lib.hid hgv
    have ht := safeParts_c n.toNat A c es
    rw [hv.nat] at ht
    have Ht := Lib.hid ht
    have h16 := hv.2.1
    have HR := Lib.hid hv.inR
    have HD := Lib.hid hv.apart
    clear hgv ht hv
    go_enter Try.func38, Try.ntmps38
    go_wp2_with fail
    generalize hW1 : World.alloc _ _ = W1
    have gW1 : Nx w W1 := by subst hW1; exact (by repeat (first | exact Nx.refl _ | assumption | apply Nx.alloc | apply Nx.drew | apply Nx.drewN | (refine Nx.setCell ?_ (by first | (simp; done) | (simp; omega) | omega) _) | refine Nx.trans ?_ (by assumption)))
    have sW1 : W1.heap.size = w.heap.size + 1 := by subst hW1; simp
    have X0 : Bx W1 (w.heap.size) 29 [V n, .slice A es.length c] := by subst hW1; have h := Bx.alloc w 29 [V n, .slice A es.length c]; simpa using h
    have X0_0 := X0.cell (j := 0) rfl
    have X0_1 := X0.cell (j := 1) rfl
    have X0_z := X0.lt
    have HsW1 := Lib.hid sW1
    have lW1 : w.heap.size + 1 ≤ W1.heap.size := by omega
    clear hW1 sW1
    refine (Hgv.out _ (hx.nx gW1) (by omega)).mono ?_
    rintro e w2 ⟨rfl, hn2⟩
    replace X0 := X0.nx hn2
    replace X0_0 := X0.cell (j := 0) rfl
    replace X0_1 := X0.cell (j := 1) rfl
    replace X0_z := X0.lt
    have hz2 := hn2.size
    go_wp2_with fail
    refine (Ht.out _ ((hx.nx gW1).nx hn2) hl (by omega) HR.out HD.out).mono ?_
    rintro e w3 ⟨B, d, rfl, ho3, hn3⟩
    go_wp2
    go_ret
    exact ⟨B, d, rfl, ho3.mono (by omega), (gW1.trans hn2).trans hn3⟩
  · rw [safeOf_no hv]
    rw [show decide (Valid n es) = false by simpa using hv] at hgv
    have Hgv := Lib.hid hgv
    clear hgv hv
    go_enter Try.func38, Try.ntmps38
    go_wp2_with fail
    generalize hW1 : World.alloc _ _ = W1
    have gW1 : Nx w W1 := by subst hW1; exact (by repeat (first | exact Nx.refl _ | assumption | apply Nx.alloc | apply Nx.drew | apply Nx.drewN | (refine Nx.setCell ?_ (by first | (simp; done) | (simp; omega) | omega) _) | refine Nx.trans ?_ (by assumption)))
    have sW1 : W1.heap.size = w.heap.size + 1 := by subst hW1; simp
    have X0 : Bx W1 (w.heap.size) 29 [V n, .slice A es.length c] := by subst hW1; have h := Bx.alloc w 29 [V n, .slice A es.length c]; simpa using h
    have X0_0 := X0.cell (j := 0) rfl
    have X0_1 := X0.cell (j := 1) rfl
    have X0_z := X0.lt
    have HsW1 := Lib.hid sW1
    have lW1 : w.heap.size + 1 ≤ W1.heap.size := by omega
    clear hW1 sW1
    refine (Hgv.out _ (hx.nx gW1) (by omega)).mono ?_
    rintro e w2 ⟨rfl, hn2⟩
    go_wp2
    go_ret
    exact ⟨none, 0, rfl, OwnI.nil _ _ _, gW1.trans hn2⟩

set_option maxRecDepth 100000 in
set_option maxHeartbeats 2000000 in
theorem sSafeParts_c (n : Int) (A : Option Addr) (c : Nat) (es : List (Int × Int)) (w : World) (hx : EdgesAt w A es) (hl : es.length ≤ 1048576) :
    Calls Try.prog 37 #[.agg #[V n, .slice A es.length c]] w (RetI 3 (safeOf n es) w) := by
  have hgv := sGraphValid_c n A c es
  by_cases hv : Valid n es
  · rw [safeOf_yes hv]
    rw [show decide (Valid n es) = true by simpa using hv] at hgv
    have Hgv := Lib.hid hgv
    have ht := l5Bare_c n.toNat A c es
    have ht2 := fun B d => l2Labels_c n.toNat B d (bareL n.toNat es)
    rw [hv.nat] at ht ht2
    have Ht := Lib.hid ht
    have Ht2 := Lib.hid ht2
    have h16 := hv.2.1
    have HR := Lib.hid hv.inR
    have HD := Lib.hid hv.apart
    have HBr := Lib.hid (hv.inR.sub (bareL_sub (n := n.toNat) (es := es)))
    have HBd := Lib.hid (fun e (he : e ∈ bareL n.toNat es) => hv.apart e (bareL_sub e he))
    have hbl := bareL_len n.toNat es
    clear hgv ht ht2 hv
    go_enter Try.func37, Try.ntmps37
    go_wp2_with fail
    generalize hW1 : World.alloc _ _ = W1
    have gW1 : Nx w W1 := by subst hW1; exact (by repeat (first | exact Nx.refl _ | assumption | apply Nx.alloc | apply Nx.drew | apply Nx.drewN | (refine Nx.setCell ?_ (by first | (simp; done) | (simp; omega) | omega) _) | refine Nx.trans ?_ (by assumption)))
    have sW1 : W1.heap.size = w.heap.size + 1 := by subst hW1; simp
    have X0 : Bx W1 (w.heap.size) 29 [V n, .slice A es.length c] := by subst hW1; have h := Bx.alloc w 29 [V n, .slice A es.length c]; simpa using h
    have X0_0 := X0.cell (j := 0) rfl
    have X0_1 := X0.cell (j := 1) rfl
    have X0_z := X0.lt
    have HsW1 := Lib.hid sW1
    have lW1 : w.heap.size + 1 ≤ W1.heap.size := by omega
    clear hW1 sW1
    refine (Hgv.out _ (hx.nx gW1) (by omega)).mono ?_
    rintro e w2 ⟨rfl, hn2⟩
    replace X0 := X0.nx hn2
    replace X0_0 := X0.cell (j := 0) rfl
    replace X0_1 := X0.cell (j := 1) rfl
    replace X0_z := X0.lt
    have hz2 := hn2.size
    go_wp2_with fail
    refine (Ht.out _ ((hx.nx gW1).nx hn2) hl (by omega) HR.out HD.out).mono ?_
    rintro e w3 ⟨B, d, rfl, ho3, hn3⟩
    have hz3 := hn3.size
    go_wp2_with fail
    refine (Ht2.out B d _ ho3.edgesAt (by omega) (by omega) HBr.out HBd.out).mono ?_
    rintro e w4 ⟨C, k, rfl, ho4, hn4⟩
    generalize labels n.toNat (bareL n.toNat es) = ls at *
    go_wp2
    go_ret
    exact ⟨C, k, rfl, ho4.mono (by omega), ((gW1.trans hn2).trans hn3).trans hn4⟩
  · rw [safeOf_no hv]
    rw [show decide (Valid n es) = false by simpa using hv] at hgv
    have Hgv := Lib.hid hgv
    clear hgv hv
    go_enter Try.func37, Try.ntmps37
    go_wp2_with fail
    generalize hW1 : World.alloc _ _ = W1
    have gW1 : Nx w W1 := by subst hW1; exact (by repeat (first | exact Nx.refl _ | assumption | apply Nx.alloc | apply Nx.drew | apply Nx.drewN | (refine Nx.setCell ?_ (by first | (simp; done) | (simp; omega) | omega) _) | refine Nx.trans ?_ (by assumption)))
    have sW1 : W1.heap.size = w.heap.size + 1 := by subst hW1; simp
    have X0 : Bx W1 (w.heap.size) 29 [V n, .slice A es.length c] := by subst hW1; have h := Bx.alloc w 29 [V n, .slice A es.length c]; simpa using h
    have X0_0 := X0.cell (j := 0) rfl
    have X0_1 := X0.cell (j := 1) rfl
    have X0_z := X0.lt
    have HsW1 := Lib.hid sW1
    have lW1 : w.heap.size + 1 ≤ W1.heap.size := by omega
    clear hW1 sW1
    refine (Hgv.out _ (hx.nx gW1) (by omega)).mono ?_
    rintro e w2 ⟨rfl, hn2⟩
    have hz2 := hn2.size
    go_wp2
    go_ret
    exact ⟨_, 0, rfl, OwnI.empty w2 _ _ (by omega), (by repeat (first | exact Nx.refl _ | assumption | apply Nx.alloc | apply Nx.drew | apply Nx.drewN | (refine Nx.setCell ?_ (by first | (simp; done) | (simp; omega) | omega) _) | refine Nx.trans ?_ (by assumption)))⟩
end Go.Proofs.Ytmagbdcmanchmaa
