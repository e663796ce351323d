/- Contracts: PartsOf of the program. -/
import Derived.Test.YtjchabeiaajgiaaP1
import Derived.Test.YtjchabeiaajgiaaG3
namespace Go.Proofs.Ytjchabeiaajgiaa
open Go.RowKit

theorem Valid.pair {n : Int} {es : List (Int × Int)} (h : Valid n es) {e : Int × Int} (he : e ∈ es) : 0 ≤ e.1 ∧ e.1 < e.2 ∧ e.2 < n := by
  obtain ⟨j, hj, rfl⟩ := List.getElem_of_mem he
  have := h.2.2.2 j hj es[j] (List.getElem?_eq_getElem hj)
  exact ⟨this.1, this.2.1, this.2.2.1⟩
theorem Valid.inR {n : Int} {es : List (Int × Int)} (h : Valid n es) : InR n.toNat es := fun e he => by
  have := h.pair he
  have := h.1
  omega
theorem Valid.apart {n : Int} {es : List (Int × Int)} (h : Valid n es) : ∀ e ∈ es, e.1 ≠ e.2 := fun e he => by have := h.pair he; omega
theorem Valid.nat {n : Int} {es : List (Int × Int)} (h : Valid n es) : ((n.toNat : Nat) : Int) = n := by have := h.1; omega

open Classical in
/-- what PartsOf returns -/
noncomputable def partsOf (n : Int) (es : List (Int × Int)) : List Int := if Valid n es then labels n.toNat es else []
theorem partsOf_yes {n : Int} {es : List (Int × Int)} (h : Valid n es) : partsOf n es = labels n.toNat es := if_pos h
theorem partsOf_no {n : Int} {es : List (Int × Int)} (h : ¬ Valid n es) : partsOf n es = [] := if_neg h
theorem partsOf_length (n : Int) (es : List (Int × Int)) : (partsOf n es).length ≤ 16 := by
  by_cases h : Valid n es
  · rw [partsOf_yes h, labels_length h.inR]; have := h.2.1; omega
  · rw [partsOf_no h]; simp

theorem iPartsOf_c (n : Int) (A : Option Addr) (c : Nat) (es : List (Int × Int)) (w : World) (hx : EdgesAt w A es) (hl : es.length ≤ 1048576) :
    Calls Try.prog 76 #[.agg #[V n, .slice A es.length c]] w (RetI 3 (partsOf n es) w) := by
  by_cases hv : Valid n es
  · have e1 : decide (Valid n es) = true := by simpa using hv
    rw [partsOf_yes hv]
    have hp := parts_c n.toNat A c es
    rw [hv.nat] at hp
    have HP := Lib.hid hp
    have h16 := hv.2.1
    have hir := hv.inR
    have hap := hv.apart
    clear hp
    go_enter Try.func76, Try.ntmps76
    go_wp2_with (first | (go_at_call 35; go_must (refine (iGraphValid_c n A c es _ (hx.nx (by repeat (first | exact Nx.refl _ | assumption | apply Nx.alloc | apply Nx.drew | apply Nx.drewN | (refine Nx.setCell ?_ (by first | (simp; done) | (simp; omega) | omega) _) | refine Nx.trans ?_ (by assumption)))) (by omega)).mono ?_; rintro e w1 ⟨rfl, hn1⟩; obtain ⟨hc1, hf1, hz1⟩ := hn1.rules; have hz1_0 : w.heap.size < w1.heap.size := (by have h := hn1.size; first | omega | (simp at h; done) | (simp at h; omega)))) | (go_at_call 54; go_must (refine (HP.out _ (hx.nx (by repeat (first | exact Nx.refl _ | assumption | apply Nx.alloc | apply Nx.drew | apply Nx.drewN | (refine Nx.setCell ?_ (by first | (simp; done) | (simp; omega) | omega) _) | refine Nx.trans ?_ (by assumption)))) hl (by omega) hir hap).mono ?_; rintro e w2 ⟨A', c', rfl, ho, hn2⟩)))
    go_ret
    exact ⟨A', c', rfl, ho.mono (by have := hn1.size; simp at this; omega), (by repeat (first | exact Nx.refl _ | assumption | apply Nx.alloc | apply Nx.drew | apply Nx.drewN | (refine Nx.setCell ?_ (by first | (simp; done) | (simp; omega) | omega) _) | refine Nx.trans ?_ (by assumption)))⟩
  · have e1 : decide (Valid n es) = false := by simpa using hv
    rw [partsOf_no hv]
    go_enter Try.func76, Try.ntmps76
    go_wp2_with (go_at_call 35; go_must (refine (iGraphValid_c n A c es _ (hx.nx (by repeat (first | exact Nx.refl _ | assumption | apply Nx.alloc | apply Nx.drew | apply Nx.drewN | (refine Nx.setCell ?_ (by first | (simp; done) | (simp; omega) | omega) _) | refine Nx.trans ?_ (by assumption)))) (by omega)).mono ?_; rintro e w1 ⟨rfl, hn1⟩; obtain ⟨hc1, hf1, hz1⟩ := hn1.rules; have hz1_0 : w.heap.size < w1.heap.size := (by have h := hn1.size; first | omega | (simp at h; done) | (simp at h; omega))))
    go_ret
    exact ⟨none, 0, rfl, OwnI.nil _ _ _, (by repeat (first | exact Nx.refl _ | assumption | apply Nx.alloc | apply Nx.drew | apply Nx.drewN | (refine Nx.setCell ?_ (by first | (simp; done) | (simp; omega) | omega) _) | refine Nx.trans ?_ (by assumption)))⟩
end Go.Proofs.Ytjchabeiaajgiaa
