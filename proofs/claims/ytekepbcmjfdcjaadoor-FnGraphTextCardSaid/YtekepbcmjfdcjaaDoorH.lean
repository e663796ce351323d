/- Contracts: eqIntS, and the marks that the exact laws lay into rows and look for again. -/
import Derived.Test.YtekepbcmjfdcjaaDoorG3
namespace Go.Proofs.YtekepbcmjfdcjaaDoor
open Go.RowKit

/-- the marks from k on -/
def mkI (k : Int) (n : Nat) : List Int := (List.range n).map fun (i : Nat) => k + i
theorem mkI_length (k : Int) (n : Nat) : (mkI k n).length = n := by simp [mkI]
theorem mkI_get {k : Int} {n j : Nat} (h : j < n) : (mkI k n)[j]? = some (k + j) := by simp [mkI, h]
def mkE (k : Int) (n : Nat) : List (Int × Int) := (List.range n).map fun (i : Nat) => (k + 2 * i, k + 2 * i + 1)
theorem mkE_length (k : Int) (n : Nat) : (mkE k n).length = n := by simp [mkE]
theorem mkE_get {k : Int} {n j : Nat} (h : j < n) : (mkE k n)[j]? = some (k + 2 * j, k + 2 * j + 1) := by simp [mkE, h]

/-- the row is marked, and nothing else has turned -/
def MarkedI (t : TypeId) (base : Nat) (A : Option Addr) (c : Nat) (k : Int) (n : Nat) (w : World) (e : Ending) (w' : World) : Prop :=
  e = .returned (V (k + n)) ∧ OwnI w' base t A c (mkI k n) ∧ w.grownBy w' (blk A)
def MarkedE (t : TypeId) (base : Nat) (A : Option Addr) (c : Nat) (k : Int) (n : Nat) (w : World) (e : Ending) (w' : World) : Prop :=
  e = .returned (V (k + 2 * n)) ∧ OwnE w' base t A c (mkE k n) ∧ w.grownBy w' (blk A)
theorem apart_of {A A' : Option Addr} {l l' h h' : Nat} (h1 : ∀ k, blk A = some k → l ≤ k ∧ k < h) (h2 : ∀ k, blk A' = some k → l' ≤ k ∧ k < h') (hd : h ≤ l' ∨ h' ≤ l) : blk A = none ∨ blk A ≠ blk A' := by
  cases hA : blk A with
  | none => exact .inl rfl
  | some k => exact .inr fun e => by have := h1 k hA; have := h2 k e.symm; omega
theorem grown_set {a w : World} {g : Nat} (h : a.grownBy w (some g)) (i : Nat) (u : Value) : a.grownBy (w.setCell ⟨g, i, none⟩ u) (some g) :=
  ⟨h.os, h.tape, h.output, by simpa [World.setCell] using h.size, fun k hk hne => (Below.heap_setCell w _ u k (by rintro rfl; exact hne rfl)).trans (h.block k hk hne)⟩

theorem IntsAt.rd {w : World} {A : Option Addr} {xs : List Int} {j : Nat} {v : Int} (h : IntsAt w A xs) (hv : xs[j]? = some v) : ∃ b off, A = some ⟨b, off, none⟩ ∧ b < w.heap.size ∧ w.cell? ⟨b, off + j, none⟩ = some (V v) := by
  obtain ⟨hj, he⟩ := List.getElem?_eq_some_iff.1 hv
  obtain ⟨b, off, e, hb, hc⟩ := h (by omega)
  exact ⟨b, off, e, hb, he ▸ hc j hj⟩
theorem EdgesAt.rd {w : World} {A : Option Addr} {xs : List (Int × Int)} {j : Nat} {v : Int × Int} (h : EdgesAt w A xs) (hv : xs[j]? = some v) :
    ∃ b off, A = some ⟨b, off, none⟩ ∧ b < w.heap.size ∧ w.cell? ⟨b, off + j * 2, none⟩ = some (V v.1) ∧ w.cell? ⟨b, off + j * 2 + 1, none⟩ = some (V v.2) := by
  obtain ⟨hj, he⟩ := List.getElem?_eq_some_iff.1 hv
  obtain ⟨b, off, e, hb, hc⟩ := h (by omega)
  exact ⟨b, off, e, hb, he ▸ (hc j hj).1, he ▸ (hc j hj).2⟩

set_option maxRecDepth 100000 in
set_option maxHeartbeats 1000000 in
theorem markEdgeS_c (t : TypeId) (base : Nat) (A : Option Addr) (c : Nat) (xs : List (Int × Int)) (k : Int) (w : World) (ho : OwnE w base t A c xs) (hl : xs.length ≤ 1048576) (hk0 : 0 ≤ k) (hk1 : k ≤ 1099511627776) :
    Calls Tryd.prog 24 #[.slice A xs.length c, V k] w (MarkedE t base A c k xs.length w) := by
  go_enter Tryd.func24, Tryd.ntmps24
  go_wp2
  go_loopg [1, 5] xs.length (fun gk kv i wr => ∃ (j : Nat) (ys : List (Int × Int)), j + gk = xs.length ∧ i = .int .i64 j ∧ kv = V (k + 2 * j) ∧ ys.length = xs.length ∧ OwnE wr base t A c ys ∧ w.grownBy wr (blk A) ∧ ∀ m, m < j → ys[m]? = (mkE k xs.length)[m]?)
  case atStart => exact ⟨0, xs, by omega, rfl, by simp, rfl, ho, World.grownBy.refl w _, fun m hm => by omega⟩
  case round =>
    obtain ⟨j, ys, hj, rfl, rfl, hyl, hown, hg, hys⟩ := hrel
    have Hys := Lib.hid hys
    have Hyl := Lib.hid hyl
    have Ho := Lib.hid hown
    have Hg := Lib.hid hg
    have hjy : j < xs.length → j < ys.length := by omega
    clear hys hyl hg hown ho
    by_cases hlt : j < xs.length
    · obtain ⟨g, rfl, hg1, hg2⟩ := Ho.out.at (by have := hjy hlt; omega)
      obtain ⟨f1, f2⟩ := Ho.out.cell (hjy hlt)
      have f3 := Ho.out.free
      generalize (ys[j]).1 = old1 at f1
      generalize (ys[j]).2 = old2 at f2
      go_wp2
      go_roundg (gk - 1)
      case measure => omega
      case rel => exact ⟨j + 1, ys.set j (k + 2 * j, k + 2 * j + 1), by omega, by go_num, by go_num, by rw [List.length_set]; exact Hyl.out, Ho.out.set j (k + 2 * j) (k + 2 * j + 1), grown_set (grown_set Hg.out _ _) _ _, set_pref Hys.out (hjy hlt) (mkE_get hlt)⟩
    · go_wp2
      go_ret
      have hjl : j = xs.length := by omega
      have he : ys = mkE k xs.length := pref_eq (by rw [mkE_length]; exact Hyl.out) (fun m hm => Hys.out m (by rw [mkE_length] at hm; omega))
      refine ⟨?_, by rw [← he]; exact Ho.out, Hg.out⟩
      simp [hjl]

set_option maxRecDepth 100000 in
set_option maxHeartbeats 1000000 in
theorem heldEdgeS_c (A : Option Addr) (c n : Nat) (k : Int) (w : World) (hx : EdgesAt w A (mkE k n)) (hl : n ≤ 1048576) (hk0 : 0 ≤ k) (hk1 : k ≤ 1099511627776) :
    Calls Tryd.prog 25 #[.slice A n c, V k] w (RetV (V (k + 2 * n)) w) := by
  go_enter Tryd.func25, Tryd.ntmps25
  go_wp2
  go_loopg [1, 5] n (fun gk kv i wr => ∃ (j : Nat), j + gk = n ∧ i = .int .i64 j ∧ kv = V (k + 2 * j) ∧ Nx w wr)
  case atStart => exact ⟨0, by omega, rfl, by simp, Nx.refl _⟩
  case round =>
    obtain ⟨j, hj, rfl, rfl, hn⟩ := hrel
    by_cases hlt : j < n
    · obtain ⟨b, off, rfl, hb, hc1, hc2⟩ := hx.rd (mkE_get hlt)
      have h1 := hn.cell hb hc1
      have h2 := hn.cell hb hc2
      clear hx hc1 hc2
      go_wp2
      go_roundg (gk - 1)
      case measure => omega
      case rel => exact ⟨j + 1, by omega, by go_num, by go_num, (by repeat (first | exact Nx.refl _ | assumption | apply Nx.alloc | apply Nx.drew | apply Nx.drewN | (refine Nx.setCell ?_ (by first | (simp; done) | (simp; omega) | omega) _) | refine Nx.trans ?_ (by assumption)))⟩
    · go_wp2
      go_ret
      have hjl : j = n := by omega
      exact RetV.int (by simp [hjl]) (by repeat (first | exact Nx.refl _ | assumption | apply Nx.alloc | apply Nx.drew | apply Nx.drewN | (refine Nx.setCell ?_ (by first | (simp; done) | (simp; omega) | omega) _) | refine Nx.trans ?_ (by assumption)))

theorem grown_trans {a b c : World} {row : Option Nat} (h : a.grownBy b row) (k : b.grownBy c row) : a.grownBy c row :=
  ⟨k.os.trans h.os, k.tape.trans h.tape, k.output.trans h.output, Nat.le_trans h.size k.size, fun i hi hne => (k.block i (Nat.lt_of_lt_of_le hi h.size) hne).trans (h.block i hi hne)⟩
theorem Nx.grownR {a b : World} (h : Nx a b) (row : Option Nat) : a.grownBy b row := ⟨h.os, h.tape, h.output, h.size, fun i hi _ => h.block i hi⟩

theorem markGraph_c (t : TypeId) (base : Nat) (n : Int) (A : Option Addr) (c : Nat) (xs : List (Int × Int)) (k : Int) (w : World) (ho : OwnE w base t A c xs) (hl : xs.length ≤ 1048576) (hk0 : 0 ≤ k) (hk1 : k ≤ 1099511627776) :
    Calls Tryd.prog 8 #[.agg #[V n, .slice A xs.length c], V k] w (MarkedE t base A c k xs.length w) := by
  go_enter Tryd.func8, Tryd.ntmps8
  go_wp2_with (go_at_call 24; go_must (refine (markEdgeS_c t base A c xs k _ (ho.nx (by repeat (first | exact Nx.refl _ | assumption | apply Nx.alloc | apply Nx.drew | apply Nx.drewN | (refine Nx.setCell ?_ (by first | (simp; done) | (simp; omega) | omega) _) | refine Nx.trans ?_ (by assumption)))) hl hk0 hk1).mono ?_; rintro e w1 ⟨rfl, ho1, hg1⟩))
  go_ret
  exact ⟨rfl, ho1, grown_trans (Nx.grownR (Nx.alloc (Nx.refl _) _) _) hg1⟩
theorem heldGraph_c (n : Int) (A : Option Addr) (c m : Nat) (k : Int) (w : World) (hx : EdgesAt w A (mkE k m)) (hl : m ≤ 1048576) (hk0 : 0 ≤ k) (hk1 : k ≤ 1099511627776) :
    Calls Tryd.prog 9 #[.agg #[V n, .slice A m c], V k] w (RetV (V (k + 2 * m)) w) := by
  go_enter Tryd.func9, Tryd.ntmps9
  go_wp2_with (go_at_call 25; go_must (refine (heldEdgeS_c A c m k _ (hx.nx (by repeat (first | exact Nx.refl _ | assumption | apply Nx.alloc | apply Nx.drew | apply Nx.drewN | (refine Nx.setCell ?_ (by first | (simp; done) | (simp; omega) | omega) _) | refine Nx.trans ?_ (by assumption)))) hl hk0 hk1).mono ?_; rintro e w1 ⟨rfl, hn1⟩; obtain ⟨hc1, hf1, hz1⟩ := hn1.rules))
  go_ret
  exact RetV.int rfl (by repeat (first | exact Nx.refl _ | assumption | apply Nx.alloc | apply Nx.drew | apply Nx.drewN | (refine Nx.setCell ?_ (by first | (simp; done) | (simp; omega) | omega) _) | refine Nx.trans ?_ (by assumption)))
end Go.Proofs.YtekepbcmjfdcjaaDoor
