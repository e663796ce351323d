/- Contracts: are two nodes connected: connected of the program, l2Joined of the reference. -/
import Derived.Test.YtjchabeiaajgiaaF1
import Derived.Test.YtjchabeiaajgiaaP2
import Derived.Test.YtjchabeiaajgiaaR
import Derived.Test.YtjchabeiaajgiaaB
namespace Go.Proofs.Ytjchabeiaajgiaa
open Go.RowKit

theorem Rx.own {br : Nat} {a b c : World} {r : Option Nat} (h : Rx br a b) (k : b.grownBy c r) (hr : ∀ j, r = some j → a.heap.size ≤ j) : Rx br a c :=
  ⟨k.os.trans h.os, k.tape.trans h.tape, k.output.trans h.output, Nat.le_trans h.size k.size, fun i hi hne => (k.block i (Nat.lt_of_lt_of_le hi h.size) (fun e => by have := hr i e.symm; omega)).trans (h.block i hi hne)⟩
theorem Rx.setCell {br : Nat} {a b : World} (h : Rx br a b) (i : Nat) (u : Value) : Rx br a (b.setCell ⟨br, i, none⟩ u) :=
  ⟨h.os, h.tape, h.output, by have := h.size; simpa [World.setCell] using this, fun k hk hne => (Below.heap_setCell b ⟨br, i, none⟩ u k (by rintro rfl; exact hne rfl)).trans (h.block k hk hne)⟩

theorem connB_nat {n i j : Nat} {es : Es} {L : List Int} (hL : labels n es = L) (hi : i < L.length) (hj : j < L.length) : connB n es i j = (L[i] == L[j]) := by
  subst hL
  simp [connB, lk, hi, hj]
  rfl

set_option maxRecDepth 100000 in
set_option maxHeartbeats 1000000 in
theorem connected_c (n : Nat) (A : Option Addr) (c : Nat) (es : List (Int × Int)) (x y : Int) (w : World) (hx : EdgesAt w A es) (hl : es.length ≤ 1048576) (hn16 : n ≤ 16) (hr : InR n es) (hd : ∀ e ∈ es, e.1 ≠ e.2) (h1 : 0 ≤ x ∧ x < n) (h2 : 0 ≤ y ∧ y < n) :
    Calls Try.prog 65 #[.agg #[V n, .slice A es.length c], V x, V y] w (RetV (.bool (connB n es x y)) w) := by
  obtain ⟨i, rfl⟩ := Int.eq_ofNat_of_zero_le h1.1
  obtain ⟨j, rfl⟩ := Int.eq_ofNat_of_zero_le h2.1
  have hll := labels_length hr
  have Hll := Lib.hid hll
  have hi : i < n := by omega
  have hj : j < n := by omega
  clear h1 h2 hll
  go_enter Try.func65, Try.ntmps65
  go_wp2_with fail
  refine (parts_c n A c es _ (hx.nx (by repeat (first | exact Nx.refl _ | assumption | apply Nx.alloc | apply Nx.drew | apply Nx.drewN | (refine Nx.setCell ?_ (by first | (simp; done) | (simp; omega) | omega) _) | refine Nx.trans ?_ (by assumption)))) hl hn16 hr hd).mono ?_
  rintro e w1 ⟨A', c', rfl, ho, hn1⟩
  have hn : Nx w w1 := (by repeat (first | exact Nx.refl _ | assumption | apply Nx.alloc | apply Nx.drew | apply Nx.drewN | (refine Nx.setCell ?_ (by first | (simp; done) | (simp; omega) | omega) _) | refine Nx.trans ?_ (by assumption)))
  obtain ⟨L, hL⟩ : ∃ L, labels n es = L := ⟨_, rfl⟩
  have hi' : i < L.length := by have := Hll.out; rw [hL] at this; omega
  have hj' : j < L.length := by have := Hll.out; rw [hL] at this; omega
  have hcb := connB_nat hL hi' hj'
  rw [hL] at ho ⊢
  have Hcb := Lib.hid hcb
  obtain ⟨g, rfl, hg1, hg2⟩ := ho.at (by omega)
  have c1 := ho.cell hi'
  have c2 := ho.cell hj'
  clear hcb hL ho hn1 hx hr hd hi hj
  generalize L[i] = p at *
  generalize L[j] = q at *
  go_wp2
  go_quiet (fail)
  go_wp2
  go_ret
  exact RetV.bool Hcb.out.symm (by repeat (first | exact Nx.refl _ | assumption | apply Nx.alloc | apply Nx.drew | apply Nx.drewN | (refine Nx.setCell ?_ (by first | (simp; done) | (simp; omega) | omega) _) | refine Nx.trans ?_ (by assumption)))

set_option maxRecDepth 100000 in
set_option maxHeartbeats 1000000 in
theorem l2Joined_c (n : Nat) (A : Option Addr) (c : Nat) (es : List (Int × Int)) (x y : Int) (w : World) (hx : EdgesAt w A es) (hl : es.length ≤ 1048576) (hn16 : n ≤ 16) (hr : InR n es) (hd : ∀ e ∈ es, e.1 ≠ e.2) (h1 : 0 ≤ x ∧ x < n) (h2 : 0 ≤ y ∧ y < n) :
    Calls Try.prog 134 #[.agg #[V n, .slice A es.length c], V x, V y] w (RetV (.bool (connB n es x y)) w) := by
  obtain ⟨i, rfl⟩ := Int.eq_ofNat_of_zero_le h1.1
  obtain ⟨j, rfl⟩ := Int.eq_ofNat_of_zero_le h2.1
  have hll := labels_length hr
  have Hll := Lib.hid hll
  have hi : i < n := by omega
  have hj : j < n := by omega
  clear h1 h2 hll
  go_enter Try.func134, Try.ntmps134
  go_wp2_with fail
  refine (l2Labels_c n A c es _ (hx.nx (by repeat (first | exact Nx.refl _ | assumption | apply Nx.alloc | apply Nx.drew | apply Nx.drewN | (refine Nx.setCell ?_ (by first | (simp; done) | (simp; omega) | omega) _) | refine Nx.trans ?_ (by assumption)))) hl hn16 hr hd).mono ?_
  rintro e w1 ⟨A', c', rfl, ho, hn1⟩
  have hn : Nx w w1 := (by repeat (first | exact Nx.refl _ | assumption | apply Nx.alloc | apply Nx.drew | apply Nx.drewN | (refine Nx.setCell ?_ (by first | (simp; done) | (simp; omega) | omega) _) | refine Nx.trans ?_ (by assumption)))
  obtain ⟨L, hL⟩ : ∃ L, labels n es = L := ⟨_, rfl⟩
  have hi' : i < L.length := by have := Hll.out; rw [hL] at this; omega
  have hj' : j < L.length := by have := Hll.out; rw [hL] at this; omega
  have hcb := connB_nat hL hi' hj'
  rw [hL] at ho ⊢
  have Hcb := Lib.hid hcb
  obtain ⟨g, rfl, hg1, hg2⟩ := ho.at (by omega)
  have c1 := ho.cell hi'
  have c2 := ho.cell hj'
  clear hcb hL ho hn1 hx hr hd hi hj
  generalize L[i] = p at *
  generalize L[j] = q at *
  go_wp2
  go_quiet (fail)
  go_wp2
  go_ret
  exact RetV.bool Hcb.out.symm (by repeat (first | exact Nx.refl _ | assumption | apply Nx.alloc | apply Nx.drew | apply Nx.drewN | (refine Nx.setCell ?_ (by first | (simp; done) | (simp; omega) | omega) _) | refine Nx.trans ?_ (by assumption)))
end Go.Proofs.Ytjchabeiaajgiaa
