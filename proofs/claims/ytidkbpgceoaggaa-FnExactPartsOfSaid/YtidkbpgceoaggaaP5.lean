/- Contracts: PartsOf and PartCount of the reference. -/
import Derived.Test.YtidkbpgceoaggaaP4
import Derived.Test.YtidkbpgceoaggaaP2
namespace Go.Proofs.Ytidkbpgceoaggaa
open Go.RowKit

theorem sPartsOf_c (n : Int) (A : Option Addr) (c : Nat) (es : List (Int × Int)) (w : World) (hx : EdgesAt w A es) (hl : es.length ≤ 1048576) :
    Calls Try.prog 42 #[.agg #[V n, .slice A es.length c]] w (RetI 3 (partsOf n es) w) := by
  by_cases hv : Valid n es
  · have e1 : decide (Valid n es) = true := by simpa using hv
    rw [partsOf_yes hv]
    have hp := l2Labels_c n.toNat A c es
    rw [hv.nat] at hp
    have HP := Lib.hid hp
    have h16 := hv.2.1
    have hir := hv.inR
    have hap := hv.apart
    clear hp
    go_enter Try.func42, Try.ntmps42
    go_wp2_with (first | (go_at_call 24; go_must (refine (sGraphValid_c n A c es _ (hx.nx (by repeat (first | exact Nx.refl _ | assumption | apply Nx.alloc | apply Nx.drew | apply Nx.drewN | (refine Nx.setCell ?_ (by first | (simp; done) | (simp; omega) | omega) _) | refine Nx.trans ?_ (by assumption)))) (by omega)).mono ?_; rintro e w1 ⟨rfl, hn1⟩; obtain ⟨hc1, hf1, hz1⟩ := hn1.rules; have hz1_0 : w.heap.size < w1.heap.size := (by have h := hn1.size; first | omega | (simp at h; done) | (simp at h; omega)))) | (go_at_call 72; go_must (refine (HP.out _ (hx.nx (by repeat (first | exact Nx.refl _ | assumption | apply Nx.alloc | apply Nx.drew | apply Nx.drewN | (refine Nx.setCell ?_ (by first | (simp; done) | (simp; omega) | omega) _) | refine Nx.trans ?_ (by assumption)))) hl (by omega) hir hap).mono ?_; rintro e w2 ⟨A', c', rfl, ho, hn2⟩)))
    go_ret
    exact ⟨A', c', rfl, ho.mono (by have := hn1.size; simp at this; omega), (by repeat (first | exact Nx.refl _ | assumption | apply Nx.alloc | apply Nx.drew | apply Nx.drewN | (refine Nx.setCell ?_ (by first | (simp; done) | (simp; omega) | omega) _) | refine Nx.trans ?_ (by assumption)))⟩
  · have e1 : decide (Valid n es) = false := by simpa using hv
    rw [partsOf_no hv]
    go_enter Try.func42, Try.ntmps42
    go_wp2_with (go_at_call 24; go_must (refine (sGraphValid_c n A c es _ (hx.nx (by repeat (first | exact Nx.refl _ | assumption | apply Nx.alloc | apply Nx.drew | apply Nx.drewN | (refine Nx.setCell ?_ (by first | (simp; done) | (simp; omega) | omega) _) | refine Nx.trans ?_ (by assumption)))) (by omega)).mono ?_; rintro e w1 ⟨rfl, hn1⟩; obtain ⟨hc1, hf1, hz1⟩ := hn1.rules; have hz1_0 : w.heap.size < w1.heap.size := (by have h := hn1.size; first | omega | (simp at h; done) | (simp at h; omega))))
    go_ret
    exact ⟨_, 0, rfl, OwnI.empty w1 _ _ (by have := hn1.size; simp at this; omega), (by repeat (first | exact Nx.refl _ | assumption | apply Nx.alloc | apply Nx.drew | apply Nx.drewN | (refine Nx.setCell ?_ (by first | (simp; done) | (simp; omega) | omega) _) | refine Nx.trans ?_ (by assumption)))⟩

set_option maxRecDepth 100000 in
set_option maxHeartbeats 1000000 in
theorem sPartCount_c (n : Int) (A : Option Addr) (c : Nat) (es : List (Int × Int)) (w : World) (hx : EdgesAt w A es) (hl : es.length ≤ 1048576) :
    Calls Try.prog 40 #[.agg #[V n, .slice A es.length c]] w (RetV (V (partCnt n es)) w) := by
  have hL := partsOf_length n es
  go_enter Try.func40, Try.ntmps40
  go_wp2_with fail
  refine (sPartsOf_c n A c es _ (hx.nx (by repeat (first | exact Nx.refl _ | assumption | apply Nx.alloc | apply Nx.drew | apply Nx.drewN | (refine Nx.setCell ?_ (by first | (simp; done) | (simp; omega) | omega) _) | refine Nx.trans ?_ (by assumption)))) hl).mono ?_
  rintro e w1 ⟨A', c', rfl, ho, hn1⟩
  have hn : Nx w w1 := (by repeat (first | exact Nx.refl _ | assumption | apply Nx.alloc | apply Nx.drew | apply Nx.drewN | (refine Nx.setCell ?_ (by first | (simp; done) | (simp; omega) | omega) _) | refine Nx.trans ?_ (by assumption)))
  have hi := ho.intsAt
  have hpc : partCnt n es = cntTo (partsOf n es) (partsOf n es).length := rfl
  generalize partsOf n es = L at *
  have Hpc := Lib.hid hpc
  clear ho hn1 hx hpc
  go_wp2
  go_loopg [3, 5] L.length (fun gk cv i wr => ∃ (j : Nat), j + gk = L.length ∧ i = .int .i64 j ∧ cv = V (cntTo L j) ∧ Nx w1 wr)
  case atStart => exact ⟨0, by omega, rfl, by simp [cntTo], Nx.refl _⟩
  case round =>
    obtain ⟨j, hj, rfl, rfl, hn2⟩ := hrel
    have hle := cntTo_le L j
    by_cases hlt : j < L.length
    · have hs := cntTo_succ L j
      have hLj : L[j]? = some L[j] := List.getElem?_eq_getElem hlt
      obtain ⟨b, off, rfl, hb, hc⟩ := hi.rd hLj
      have h1 := hn2.cell hb hc
      rw [hLj] at hs
      generalize L[j] = p at *
      have Hs := Lib.hid hs
      clear hi hc hs hLj
      generalize cntTo L j = m at *
      by_cases e1 : (p == (j : Int)) = true
      · go_wp2
        go_roundg (gk - 1)
        case measure => omega
        case rel => exact ⟨j + 1, by omega, by go_num, by rw [Hs.out]; simp at e1; simp [e1], (by repeat (first | exact Nx.refl _ | assumption | apply Nx.alloc | apply Nx.drew | apply Nx.drewN | (refine Nx.setCell ?_ (by first | (simp; done) | (simp; omega) | omega) _) | refine Nx.trans ?_ (by assumption)))⟩
      · have e1 : (p == (j : Int)) = false := by simpa using e1
        go_wp2
        go_roundg (gk - 1)
        case measure => omega
        case rel => exact ⟨j + 1, by omega, by go_num, by rw [Hs.out]; simp at e1; simp [e1], (by repeat (first | exact Nx.refl _ | assumption | apply Nx.alloc | apply Nx.drew | apply Nx.drewN | (refine Nx.setCell ?_ (by first | (simp; done) | (simp; omega) | omega) _) | refine Nx.trans ?_ (by assumption)))⟩
    · go_wp2
      go_ret
      have hjl : j = L.length := by omega
      exact RetV.int (by rw [Hpc.out, hjl]) (by repeat (first | exact Nx.refl _ | assumption | apply Nx.alloc | apply Nx.drew | apply Nx.drewN | (refine Nx.setCell ?_ (by first | (simp; done) | (simp; omega) | omega) _) | refine Nx.trans ?_ (by assumption)))
end Go.Proofs.Ytidkbpgceoaggaa
