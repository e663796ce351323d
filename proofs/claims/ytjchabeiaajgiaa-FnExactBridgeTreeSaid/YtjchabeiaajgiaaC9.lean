/- Contracts: safeParts, SafeParts of both sides. -/
import Derived.Test.YtjchabeiaajgiaaC8
namespace Go.Proofs.Ytjchabeiaajgiaa
open Go.RowKit

set_option maxRecDepth 100000 in
set_option maxHeartbeats 2000000 in
theorem safeParts_c (n : Nat) (A : Option Addr) (c : Nat) (es : List (Int × Int)) (w : World) (hx : EdgesAt w A es) (hl : es.length ≤ 1048576) (hn16 : n ≤ 16) (hr : InR n es) (hd : ∀ e ∈ es, e.1 ≠ e.2) :
    Calls Try.prog 85 #[.agg #[V n, .slice A es.length c]] w (RetI 3 (labels n (bareL n es)) w) := by
  have HBr := Lib.hid (hr.sub (bareL_sub (n := n) (es := es)))
  have HBd := Lib.hid (fun e (he : e ∈ bareL n es) => hd e (bareL_sub e he))
  have hbl := bareL_len n es
  have Ht := Lib.hid (fun w hx => isBridge_tells n A c es w hx hl hn16 hr hd)
  clear hr hd
  go_enter Try.func85, Try.ntmps85
  go_wp2_with fail
  generalize hW1 : World.alloc _ _ = W1
  have gW1 : Nx w W1 := by subst hW1; exact (by repeat (first | exact Nx.refl _ | assumption | apply Nx.alloc | apply Nx.drew | apply Nx.drewN | (refine Nx.setCell ?_ (by first | (simp; done) | (simp; omega) | omega) _) | refine Nx.trans ?_ (by assumption)))
  have sW1 : W1.heap.size = w.heap.size + 1 := by subst hW1; simp
  have X0 : Bx W1 (w.heap.size) 26 [V n, .slice A es.length c] := by subst hW1; have h := Bx.alloc w 26 [V n, .slice A es.length c]; simpa using h
  have X0_0 := X0.cell (j := 0) rfl
  have X0_1 := X0.cell (j := 1) rfl
  have X0_z := X0.lt
  have HsW1 := Lib.hid sW1
  have lW1 : w.heap.size + 1 ≤ W1.heap.size := by omega
  clear hW1 sW1
  have hx1 := hx.nx gW1
  refine (without_c 78 #[.agg #[V n, .slice A es.length c]] #[] (bridgeB n es) (enters_of Try.func78 (by rfl) rfl) n A c es _ hx1 hl (Ht.out _ hx1)).mono ?_
  rintro e w2 ⟨B, d, rfl, ho2, hn2⟩
  have ho2 : OwnE w2 W1.heap.size 36 B d (bareL n es) := ho2
  go_wp2_with fail
  refine (parts_c n B d (bareL n es) _ ho2.edgesAt (by omega) hn16 HBr.out HBd.out).mono ?_
  rintro e w3 ⟨C, k, rfl, ho3, hn3⟩
  have gz2 := hn2.size
  generalize labels n (bareL n es) = ls at *
  go_wp2
  go_ret
  exact ⟨C, k, rfl, ho3.mono (by omega), (gW1.trans hn2).trans hn3⟩

open Classical in
/-- what SafeParts returns -/
noncomputable def safeOf (n : Int) (es : Es) : List Int := if Valid n es then labels n.toNat (bareL n.toNat es) else []
theorem safeOf_yes {n : Int} {es : Es} (h : Valid n es) : safeOf n es = labels n.toNat (bareL n.toNat es) := if_pos h
theorem safeOf_no {n : Int} {es : Es} (h : ¬ Valid n es) : safeOf n es = [] := if_neg h
theorem safeOf_length (n : Int) (es : Es) : (safeOf n es).length ≤ 16 := by
  by_cases h : Valid n es
  · rw [safeOf_yes h, labels_length (h.inR.sub bareL_sub)]; have := h.2.1; omega
  · rw [safeOf_no h]; simp

end Go.Proofs.Ytjchabeiaajgiaa
