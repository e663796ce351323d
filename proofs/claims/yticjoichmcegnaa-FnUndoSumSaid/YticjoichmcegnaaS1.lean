/- Contracts: eqSets, markSets, heldSets; several rows that grow. -/
import Derived.Test.YticjoichmcegnaaT
namespace Go.Proofs.Yticjoichmcegnaa
open Go.RowKit

/-- one row after the other has turned, and else there are at most new blocks -/
def GrowS : List (Option Nat) → World → World → Prop
  | [], w, w' => Nx w w'
  | r :: s, w, w' => ∃ u, w.grownBy u r ∧ GrowS s u w'
def Apart (A B : Option Addr) : Prop := blk A = none ∨ blk A ≠ blk B
theorem Apart.symm {A B : Option Addr} (h : Apart A B) : Apart B A := by
  unfold Apart at *
  rcases h with h | h
  · rw [h]; cases blk B <;> simp
  · exact .inr (Ne.symm h)
theorem OwnI.keptS {base : Nat} {t : TypeId} {A : Option Addr} {c : Nat} {xs : List Int} {w' : World} : ∀ (s : List (Option Nat)) (w : World), OwnI w base t A c xs → GrowS s w w' → (∀ r ∈ s, blk A = none ∨ blk A ≠ r) → OwnI w' base t A c xs
  | [], _, h, hg, _ => h.nx hg
  | _ :: s, _, h, ⟨_, h1, h2⟩, ha => OwnI.keptS s _ (h.kept h1 (ha _ (by simp))) h2 (fun r hr => ha r (by simp [hr]))
theorem OwnE.keptS {base : Nat} {t : TypeId} {A : Option Addr} {c : Nat} {xs : List (Int × Int)} {w' : World} : ∀ (s : List (Option Nat)) (w : World), OwnE w base t A c xs → GrowS s w w' → (∀ r ∈ s, blk A = none ∨ blk A ≠ r) → OwnE w' base t A c xs
  | [], _, h, hg, _ => h.nx hg
  | _ :: s, _, h, ⟨_, h1, h2⟩, ha => OwnE.keptS s _ (h.kept h1 (ha _ (by simp))) h2 (fun r hr => ha r (by simp [hr]))
theorem GrowS.nx {W w' : World} : ∀ (s : List (Option Nat)) (w : World), GrowS s w w' → (∀ r ∈ s, ∀ k, r = some k → W.heap.size ≤ k) → Nx W w → Nx W w'
  | [], _, hg, _, hn => hn.trans hg
  | _ :: s, _, ⟨_, h1, h2⟩, ha, hn => GrowS.nx s _ h2 (fun r hr => ha r (by simp [hr])) (hn.grown h1 (ha _ (by simp)))
theorem GrowS.cell {w' : World} {p : Addr} {v : Value} : ∀ (s : List (Option Nat)) (w : World), GrowS s w w' → w.cell? p = some v → (∀ r ∈ s, some p.block ≠ r) → w'.cell? p = some v
  | [], _, hg, h, _ => World.grownBy.cell hg.grownNone h (by simp)
  | _ :: s, _, ⟨_, h1, h2⟩, h, ha => GrowS.cell s _ h2 (World.grownBy.cell h1 h (ha _ (by simp))) (fun r hr => ha r (by simp [hr]))
theorem GrowS.size {w' : World} : ∀ (s : List (Option Nat)) (w : World), GrowS s w w' → w.heap.size ≤ w'.heap.size
  | [], _, hg => Nx.size hg
  | _ :: s, _, ⟨_, h1, h2⟩ => Nat.le_trans h1.size (GrowS.size s _ h2)

/-- sets as a value -/
abbrev St (A : Option Addr) (n ca : Nat) (B : Option Addr) (m cb : Nat) (C : Option Addr) (l cc : Nat) : Value := .agg #[.slice A n ca, .slice B m cb, .slice C l cc]

set_option maxRecDepth 100000 in
set_option maxHeartbeats 1000000 in
theorem eqSets_c (A B C A' B' C' : Option Addr) (ca cb cc ca' cb' cc' : Nat) (xs ys xs' ys' : List Int) (zs zs' : List (Int × Int)) (w : World) (hA : IntsAt w A xs) (hB : IntsAt w B ys) (hC : EdgesAt w C zs) (hA' : IntsAt w A' xs') (hB' : IntsAt w B' ys') (hC' : EdgesAt w C' zs')
    (h1 : xs.length ≤ 1048576) (h2 : ys.length ≤ 1048576) (h3 : zs.length ≤ 1048576) (h1' : xs'.length ≤ 1048576) (h2' : ys'.length ≤ 1048576) (h3' : zs'.length ≤ 1048576) :
    Calls Try.prog 25 #[St A xs.length ca B ys.length cb C zs.length cc, St A' xs'.length ca' B' ys'.length cb' C' zs'.length cc'] w (RetV (.bool (decide (xs = xs' ∧ ys = ys' ∧ zs = zs'))) w) := by
  by_cases e1 : decide (xs = xs') = true
  · by_cases e2 : decide (ys = ys') = true
    · by_cases e3 : decide (zs = zs') = true
      · go_enter Try.func25, Try.ntmps25
        go_wp2_with fail
        refine (eqIntS_c A A' ca ca' xs xs' _ (hA.nx (by repeat (first | exact Nx.refl _ | assumption | apply Nx.alloc | apply Nx.drew | apply Nx.drewN | (refine Nx.setCell ?_ (by first | (simp; done) | (simp; omega) | omega) _) | refine Nx.trans ?_ (by assumption)))) (hA'.nx (by repeat (first | exact Nx.refl _ | assumption | apply Nx.alloc | apply Nx.drew | apply Nx.drewN | (refine Nx.setCell ?_ (by first | (simp; done) | (simp; omega) | omega) _) | refine Nx.trans ?_ (by assumption)))) h1 h1').mono ?_
        rintro e w1 ⟨rfl, hn1⟩
        obtain ⟨hc1, hf1, hz1⟩ := hn1.rules
        have hz1_0 : w.heap.size < w1.heap.size := by have h := hn1.size; simp at h; omega
        have hz1_1 : w.heap.size + 1 < w1.heap.size := by have h := hn1.size; simp at h; omega
        go_wp2_with fail
        refine (eqIntS_c B B' cb cb' ys ys' _ (hB.nx (by repeat (first | exact Nx.refl _ | assumption | apply Nx.alloc | apply Nx.drew | apply Nx.drewN | (refine Nx.setCell ?_ (by first | (simp; done) | (simp; omega) | omega) _) | refine Nx.trans ?_ (by assumption)))) (hB'.nx (by repeat (first | exact Nx.refl _ | assumption | apply Nx.alloc | apply Nx.drew | apply Nx.drewN | (refine Nx.setCell ?_ (by first | (simp; done) | (simp; omega) | omega) _) | refine Nx.trans ?_ (by assumption)))) h2 h2').mono ?_
        rintro e w2 ⟨rfl, hn2⟩
        obtain ⟨hc2, hf2, hz2⟩ := hn2.rules
        have hz2_0 : w.heap.size < w2.heap.size := by have h := hn2.size; omega
        have hz2_1 : w.heap.size + 1 < w2.heap.size := by have h := hn2.size; omega
        go_wp2_with fail
        refine (eqStepS_c C C' cc cc' zs zs' _ (hC.nx (by repeat (first | exact Nx.refl _ | assumption | apply Nx.alloc | apply Nx.drew | apply Nx.drewN | (refine Nx.setCell ?_ (by first | (simp; done) | (simp; omega) | omega) _) | refine Nx.trans ?_ (by assumption)))) (hC'.nx (by repeat (first | exact Nx.refl _ | assumption | apply Nx.alloc | apply Nx.drew | apply Nx.drewN | (refine Nx.setCell ?_ (by first | (simp; done) | (simp; omega) | omega) _) | refine Nx.trans ?_ (by assumption)))) h3 h3').mono ?_
        rintro e w3 ⟨rfl, hn3⟩
        go_wp2
        go_ret
        exact RetV.bool (by simp at e1 e2 e3; simp [e1, e2, e3]) (by repeat (first | exact Nx.refl _ | assumption | apply Nx.alloc | apply Nx.drew | apply Nx.drewN | (refine Nx.setCell ?_ (by first | (simp; done) | (simp; omega) | omega) _) | refine Nx.trans ?_ (by assumption)))
      · have e3 : decide (zs = zs') = false := by simpa using e3
        go_enter Try.func25, Try.ntmps25
        go_wp2_with fail
        refine (eqIntS_c A A' ca ca' xs xs' _ (hA.nx (by repeat (first | exact Nx.refl _ | assumption | apply Nx.alloc | apply Nx.drew | apply Nx.drewN | (refine Nx.setCell ?_ (by first | (simp; done) | (simp; omega) | omega) _) | refine Nx.trans ?_ (by assumption)))) (hA'.nx (by repeat (first | exact Nx.refl _ | assumption | apply Nx.alloc | apply Nx.drew | apply Nx.drewN | (refine Nx.setCell ?_ (by first | (simp; done) | (simp; omega) | omega) _) | refine Nx.trans ?_ (by assumption)))) h1 h1').mono ?_
        rintro e w1 ⟨rfl, hn1⟩
        obtain ⟨hc1, hf1, hz1⟩ := hn1.rules
        have hz1_0 : w.heap.size < w1.heap.size := by have h := hn1.size; simp at h; omega
        have hz1_1 : w.heap.size + 1 < w1.heap.size := by have h := hn1.size; simp at h; omega
        go_wp2_with fail
        refine (eqIntS_c B B' cb cb' ys ys' _ (hB.nx (by repeat (first | exact Nx.refl _ | assumption | apply Nx.alloc | apply Nx.drew | apply Nx.drewN | (refine Nx.setCell ?_ (by first | (simp; done) | (simp; omega) | omega) _) | refine Nx.trans ?_ (by assumption)))) (hB'.nx (by repeat (first | exact Nx.refl _ | assumption | apply Nx.alloc | apply Nx.drew | apply Nx.drewN | (refine Nx.setCell ?_ (by first | (simp; done) | (simp; omega) | omega) _) | refine Nx.trans ?_ (by assumption)))) h2 h2').mono ?_
        rintro e w2 ⟨rfl, hn2⟩
        obtain ⟨hc2, hf2, hz2⟩ := hn2.rules
        have hz2_0 : w.heap.size < w2.heap.size := by have h := hn2.size; omega
        have hz2_1 : w.heap.size + 1 < w2.heap.size := by have h := hn2.size; omega
        go_wp2_with fail
        refine (eqStepS_c C C' cc cc' zs zs' _ (hC.nx (by repeat (first | exact Nx.refl _ | assumption | apply Nx.alloc | apply Nx.drew | apply Nx.drewN | (refine Nx.setCell ?_ (by first | (simp; done) | (simp; omega) | omega) _) | refine Nx.trans ?_ (by assumption)))) (hC'.nx (by repeat (first | exact Nx.refl _ | assumption | apply Nx.alloc | apply Nx.drew | apply Nx.drewN | (refine Nx.setCell ?_ (by first | (simp; done) | (simp; omega) | omega) _) | refine Nx.trans ?_ (by assumption)))) h3 h3').mono ?_
        rintro e w3 ⟨rfl, hn3⟩
        go_wp2
        go_ret
        exact RetV.bool (by simp at e3; simp [e3]) (by repeat (first | exact Nx.refl _ | assumption | apply Nx.alloc | apply Nx.drew | apply Nx.drewN | (refine Nx.setCell ?_ (by first | (simp; done) | (simp; omega) | omega) _) | refine Nx.trans ?_ (by assumption)))
    · have e2 : decide (ys = ys') = false := by simpa using e2
      go_enter Try.func25, Try.ntmps25
      go_wp2_with fail
      refine (eqIntS_c A A' ca ca' xs xs' _ (hA.nx (by repeat (first | exact Nx.refl _ | assumption | apply Nx.alloc | apply Nx.drew | apply Nx.drewN | (refine Nx.setCell ?_ (by first | (simp; done) | (simp; omega) | omega) _) | refine Nx.trans ?_ (by assumption)))) (hA'.nx (by repeat (first | exact Nx.refl _ | assumption | apply Nx.alloc | apply Nx.drew | apply Nx.drewN | (refine Nx.setCell ?_ (by first | (simp; done) | (simp; omega) | omega) _) | refine Nx.trans ?_ (by assumption)))) h1 h1').mono ?_
      rintro e w1 ⟨rfl, hn1⟩
      obtain ⟨hc1, hf1, hz1⟩ := hn1.rules
      have hz1_0 : w.heap.size < w1.heap.size := by have h := hn1.size; simp at h; omega
      have hz1_1 : w.heap.size + 1 < w1.heap.size := by have h := hn1.size; simp at h; omega
      go_wp2_with fail
      refine (eqIntS_c B B' cb cb' ys ys' _ (hB.nx (by repeat (first | exact Nx.refl _ | assumption | apply Nx.alloc | apply Nx.drew | apply Nx.drewN | (refine Nx.setCell ?_ (by first | (simp; done) | (simp; omega) | omega) _) | refine Nx.trans ?_ (by assumption)))) (hB'.nx (by repeat (first | exact Nx.refl _ | assumption | apply Nx.alloc | apply Nx.drew | apply Nx.drewN | (refine Nx.setCell ?_ (by first | (simp; done) | (simp; omega) | omega) _) | refine Nx.trans ?_ (by assumption)))) h2 h2').mono ?_
      rintro e w2 ⟨rfl, hn2⟩
      go_wp2
      go_ret
      exact RetV.bool (by simp at e2; simp [e2]) (by repeat (first | exact Nx.refl _ | assumption | apply Nx.alloc | apply Nx.drew | apply Nx.drewN | (refine Nx.setCell ?_ (by first | (simp; done) | (simp; omega) | omega) _) | refine Nx.trans ?_ (by assumption)))
  · have e1 : decide (xs = xs') = false := by simpa using e1
    go_enter Try.func25, Try.ntmps25
    go_wp2_with fail
    refine (eqIntS_c A A' ca ca' xs xs' _ (hA.nx (by repeat (first | exact Nx.refl _ | assumption | apply Nx.alloc | apply Nx.drew | apply Nx.drewN | (refine Nx.setCell ?_ (by first | (simp; done) | (simp; omega) | omega) _) | refine Nx.trans ?_ (by assumption)))) (hA'.nx (by repeat (first | exact Nx.refl _ | assumption | apply Nx.alloc | apply Nx.drew | apply Nx.drewN | (refine Nx.setCell ?_ (by first | (simp; done) | (simp; omega) | omega) _) | refine Nx.trans ?_ (by assumption)))) h1 h1').mono ?_
    rintro e w1 ⟨rfl, hn1⟩
    go_wp2
    go_ret
    exact RetV.bool (by simp at e1; simp [e1]) (by repeat (first | exact Nx.refl _ | assumption | apply Nx.alloc | apply Nx.drew | apply Nx.drewN | (refine Nx.setCell ?_ (by first | (simp; done) | (simp; omega) | omega) _) | refine Nx.trans ?_ (by assumption)))

/-- the three rows are marked, and nothing else has turned -/
def MarkedS (t1 t2 t3 : TypeId) (b1 b2 b3 : Nat) (A : Option Addr) (n1 ca : Nat) (B : Option Addr) (n2 cb : Nat) (C : Option Addr) (n3 cc : Nat) (k : Int) (w : World) (e : Ending) (w' : World) : Prop :=
  e = .returned (V (k + n1 + n2 + 2 * n3)) ∧ OwnI w' b1 t1 A ca (mkI k n1) ∧ OwnI w' b2 t2 B cb (mkI (k + n1) n2) ∧ OwnE w' b3 t3 C cc (mkE (k + n1 + n2) n3) ∧ GrowS [blk A, blk B, blk C] w w'

set_option maxRecDepth 100000 in
set_option maxHeartbeats 1000000 in
theorem markSets_c (t1 t2 t3 : TypeId) (b1 b2 b3 : Nat) (A B C : Option Addr) (n1 n2 n3 ca cb cc : Nat) (xs ys : List Int) (zs : List (Int × Int)) (k : Int) (w : World) (hx : xs.length = n1) (hy : ys.length = n2) (hz : zs.length = n3)
    (hA : OwnI w b1 t1 A ca xs) (hB : OwnI w b2 t2 B cb ys) (hC : OwnE w b3 t3 C cc zs) (hAB : Apart A B) (hAC : Apart A C) (hBC : Apart B C)
    (h1 : n1 ≤ 1048576) (h2 : n2 ≤ 1048576) (h3 : n3 ≤ 1048576) (hk0 : 0 ≤ k) (hk1 : k ≤ 1073741824) :
    Calls Try.prog 37 #[St A n1 ca B n2 cb C n3 cc, V k] w (MarkedS t1 t2 t3 b1 b2 b3 A n1 ca B n2 cb C n3 cc k w) := by
  subst hx hy hz
  have HAB := Lib.hid hAB
  have HAC := Lib.hid hAC
  have HBC := Lib.hid hBC
  clear hAB hAC hBC
  go_enter Try.func37, Try.ntmps37
  go_wp2_with fail
  refine (markIntS_c t1 b1 A ca xs k _ (hA.nx (by repeat (first | exact Nx.refl _ | assumption | apply Nx.alloc | apply Nx.drew | apply Nx.drewN | (refine Nx.setCell ?_ (by first | (simp; done) | (simp; omega) | omega) _) | refine Nx.trans ?_ (by assumption)))) h1 hk0 (by omega)).mono ?_
  rintro e w1 ⟨rfl, hA1, hg1⟩
  have gw1 : w.grownBy w1 (blk A) := grown_trans (Nx.grownR (Nx.alloc (Nx.refl _) _) _) hg1
  have c1 : w1.cell? ⟨w.heap.size, 1, none⟩ = some (.slice B ys.length cb) := World.grownBy.cell hg1 (by go_simp) (fun h => by have := hA.lt _ h.symm; first | omega | (simp at this; done) | (simp at this; omega))
  have c2 : w1.cell? ⟨w.heap.size, 2, none⟩ = some (.slice C zs.length cc) := World.grownBy.cell hg1 (by go_simp) (fun h => by have := hA.lt _ h.symm; first | omega | (simp at this; done) | (simp at this; omega))
  have hB1 := hB.kept gw1 HAB.out.symm
  have hC1 := hC.kept gw1 HAC.out.symm
  clear hg1
  go_wp2_with fail
  refine (markIntS_c t2 b2 B cb ys (k + (xs.length : Nat)) _ (hB1.nx (by repeat (first | exact Nx.refl _ | assumption | apply Nx.alloc | apply Nx.drew | apply Nx.drewN | (refine Nx.setCell ?_ (by first | (simp; done) | (simp; omega) | omega) _) | refine Nx.trans ?_ (by assumption)))) h2 (by omega) (by omega)).mono ?_
  rintro e w2 ⟨rfl, hB2, hg2⟩
  have d2 : w2.cell? ⟨w.heap.size, 2, none⟩ = some (.slice C zs.length cc) := World.grownBy.cell hg2 (by go_simp) (fun h => by have := hB.lt _ h.symm; first | omega | (simp at this; done) | (simp at this; omega))
  have hA2 := hA1.kept hg2 HAB.out
  have hC2 := hC1.kept hg2 HBC.out.symm
  have Hg2 := Lib.hid hg2
  clear hg2
  go_wp2_with fail
  refine (markStepS_c t3 b3 C cc zs (k + (xs.length : Nat) + (ys.length : Nat)) _ (hC2.nx (by repeat (first | exact Nx.refl _ | assumption | apply Nx.alloc | apply Nx.drew | apply Nx.drewN | (refine Nx.setCell ?_ (by first | (simp; done) | (simp; omega) | omega) _) | refine Nx.trans ?_ (by assumption)))) h3 (by omega) (by omega)).mono ?_
  rintro e w3 ⟨rfl, hC3, hg3⟩
  have hA3 := hA2.kept hg3 HAC.out
  have hB3 := hB2.kept hg3 HBC.out
  have Hg3 := Lib.hid hg3
  clear hg3
  go_wp2
  go_ret
  exact ⟨rfl, hA3, hB3, hC3, ⟨_, gw1, _, Hg2.out, _, Hg3.out, Nx.refl _⟩⟩

set_option maxRecDepth 100000 in
set_option maxHeartbeats 1000000 in
theorem heldSets_c (A B C : Option Addr) (n1 n2 n3 ca cb cc : Nat) (k : Int) (w : World) (hA : IntsAt w A (mkI k n1)) (hB : IntsAt w B (mkI (k + n1) n2)) (hC : EdgesAt w C (mkE (k + n1 + n2) n3))
    (h1 : n1 ≤ 1048576) (h2 : n2 ≤ 1048576) (h3 : n3 ≤ 1048576) (hk0 : 0 ≤ k) (hk1 : k ≤ 1073741824) :
    Calls Try.prog 38 #[St A n1 ca B n2 cb C n3 cc, V k] w (RetV (V (k + n1 + n2 + 2 * n3)) w) := by
  go_enter Try.func38, Try.ntmps38
  go_wp2_with fail
  refine (heldIntS_c A ca n1 k _ (hA.nx (by repeat (first | exact Nx.refl _ | assumption | apply Nx.alloc | apply Nx.drew | apply Nx.drewN | (refine Nx.setCell ?_ (by first | (simp; done) | (simp; omega) | omega) _) | refine Nx.trans ?_ (by assumption)))) h1 hk0 (by omega)).mono ?_
  rintro e w1 ⟨rfl, hn1⟩
  obtain ⟨hc1, hf1, hz1⟩ := hn1.rules
  have hz1_0 : w.heap.size < w1.heap.size := by have h := hn1.size; simp at h; omega
  go_wp2_with fail
  refine (heldIntS_c B cb n2 (k + (n1 : Nat)) _ (hB.nx (by repeat (first | exact Nx.refl _ | assumption | apply Nx.alloc | apply Nx.drew | apply Nx.drewN | (refine Nx.setCell ?_ (by first | (simp; done) | (simp; omega) | omega) _) | refine Nx.trans ?_ (by assumption)))) h2 (by omega) (by omega)).mono ?_
  rintro e w2 ⟨rfl, hn2⟩
  obtain ⟨hc2, hf2, hz2⟩ := hn2.rules
  have hz2_0 : w.heap.size < w2.heap.size := by have h := hn2.size; omega
  go_wp2_with fail
  refine (heldStepS_c C cc n3 (k + (n1 : Nat) + (n2 : Nat)) _ (hC.nx (by repeat (first | exact Nx.refl _ | assumption | apply Nx.alloc | apply Nx.drew | apply Nx.drewN | (refine Nx.setCell ?_ (by first | (simp; done) | (simp; omega) | omega) _) | refine Nx.trans ?_ (by assumption)))) h3 (by omega) (by omega)).mono ?_
  rintro e w3 ⟨rfl, hn3⟩
  go_wp2
  go_ret
  exact RetV.int rfl (by repeat (first | exact Nx.refl _ | assumption | apply Nx.alloc | apply Nx.drew | apply Nx.drewN | (refine Nx.setCell ?_ (by first | (simp; done) | (simp; omega) | omega) _) | refine Nx.trans ?_ (by assumption)))
end Go.Proofs.Yticjoichmcegnaa
