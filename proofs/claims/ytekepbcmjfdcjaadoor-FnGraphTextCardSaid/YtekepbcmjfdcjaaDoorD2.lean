/- Contract: l1Copy. -/
import Derived.Test.YtekepbcmjfdcjaaDoorD1
import Derived.Test.YtekepbcmjfdcjaaDoorB
import Derived.Deep.RegionLaw
namespace Go.Proofs.YtekepbcmjfdcjaaDoor
open Go.RowKit

theorem cellsE_news {w : World} {b off : Nat} : ∀ {es : List (Int × Int)}, (∀ (k : Nat) (h : k < es.length), w.cell? ⟨b, off + k * 2, none⟩ = some (V es[k].1) ∧ w.cell? ⟨b, off + k * 2 + 1, none⟩ = some (V es[k].2)) →
    ∀ j u, (cellsE es)[j]? = some u → w.cell? ((⟨b, off, none⟩ : Addr).add j) = some u := by
  intro es h j u hu
  have hadd : (⟨b, off, none⟩ : Addr).add j = ⟨b, off + j, none⟩ := by unfold Addr.add; split <;> simp_all
  rw [hadd]
  have hj : j < (cellsE es).length := (List.getElem?_eq_some_iff.1 hu).1
  rw [cellsE_length] at hj
  have hk : j / 2 < es.length := by omega
  obtain ⟨h1, h2⟩ := h (j / 2) hk
  rcases Nat.mod_two_eq_zero_or_one j with hm | hm
  · have e : off + j / 2 * 2 = off + j := by omega
    rw [e] at h1
    rw [h1]
    have := cellsE_get0 es (j / 2) hk
    rw [show j / 2 * 2 = j by omega, hu] at this
    exact this.symm
  · have e : off + j / 2 * 2 + 1 = off + j := by omega
    rw [e] at h2
    rw [h2]
    have := cellsE_get1 es (j / 2) hk
    rw [show j / 2 * 2 + 1 = j by omega, hu] at this
    exact this.symm
theorem cellsE_one : ∀ (es : List (Int × Int)), ∀ u ∈ cellsE es, u.oneCell' = true
  | [], u, h => by simp [cellsE] at h
  | e :: es, u, h => by
    rw [cellsE_cons] at h
    simp at h
    rcases h with rfl | rfl | h
    · rfl
    · rfl
    · exact cellsE_one es u h

set_option maxRecDepth 100000 in
set_option maxHeartbeats 4000000 in
theorem l1Copy_c (n : Int) (A : Option Addr) (c : Nat) (es : List (Int × Int)) (w : World) (hx : EdgesAt w A es) (hl : es.length ≤ 1048576) :
    Calls Tryd.prog 61 #[.agg #[V n, .slice A es.length c]] w (RetG 41 n es w) := by
  obtain ⟨i0, hi, hz0, hz1, hz2⟩ := info_parts infoE
  have Hi := Lib.hid hi
  have Hz0 := Lib.hid hz0
  have Hz1 := Lib.hid hz1
  have Hz2 := Lib.hid hz2
  clear hi hz0 hz1 hz2
  by_cases hne : 0 < es.length
  · obtain ⟨b, off, rfl, hb, hc⟩ := hx hne
    have Hc := Lib.hid hc
    clear hc hx
    go_enter Tryd.func61, Tryd.ntmps61
    go_wp2_with fail
    generalize hW1 : World.alloc _ _ = W1
    have gs1 : W1.heap.size = w.heap.size + 2 := by subst hW1; simp
    have gn1 : Nx w W1 := by subst hW1; exact (by repeat (first | exact Nx.refl _ | assumption | apply Nx.alloc | apply Nx.drew | apply Nx.drewN | (refine Nx.setCell ?_ (by first | (simp; done) | (simp; omega) | omega) _) | refine Nx.trans ?_ (by assumption)))
    have hbx : Bx W1 (w.heap.size + 1) 24 [V 0, .slice none 0 0] := by subst hW1; have h := Bx.alloc (w.alloc (.cells #[V n, .slice (some ⟨b, off, none⟩) es.length c] 24)) 24 [V 0, .slice none 0 0]; simpa using h
    have c0 : W1.cell? ⟨w.heap.size, 0, none⟩ = some (V n) := by subst hW1; go_simp
    have c1 : W1.cell? ⟨w.heap.size, 1, none⟩ = some (.slice (some ⟨b, off, none⟩) es.length c) := by subst hW1; go_simp
    clear hW1
    have hown : OwnE (W1.drew.alloc (.cells #[] 41)) W1.heap.size 41 (some ⟨W1.heap.size, 0, none⟩) 0 [] := OwnE.empty W1.drew W1.heap.size 41 (Nat.le_refl _)
    have hnW : Nx W1 (W1.drew.alloc (.cells #[] 41)) := (by repeat (first | exact Nx.refl _ | assumption | apply Nx.alloc | apply Nx.drew | apply Nx.drewN | (refine Nx.setCell ?_ (by first | (simp; done) | (simp; omega) | omega) _) | refine Nx.trans ?_ (by assumption)))
    have hnews := cellsE_news (es := es) (w := W1.drew.alloc (.cells #[] 41)) (b := b) (off := off) (fun k h => ⟨(gn1.trans hnW).cell hb (Hc.out k h).1, (gn1.trans hnW).cell hb (Hc.out k h).2⟩)
    have hb2 := hbx.nx hnW
    have Hbx := Lib.hid hbx
    clear hbx
    go_region_law (refine step_append_lies _ rfl (.tmp 5) (.tmp 7) 22 rfl W1.heap.size 41 i0 _ 2 16 Tryd.underlying22 Hi.out Hz0.out Hz1.out Hz2.out rfl (by omega) (.slice (some ⟨W1.heap.size, 0, none⟩) 0 0) 0 [] (by go_simp) hown ⟨b, off, none⟩ es.length c (cellsE es) (by go_simp) (cellsE_length es) hnews (cellsE_one es) hne (by simp [maxLen]; omega) (by omega) (by simp) _ rfl ?_; intro g cap w4 hown4 hgr4 _ _; have hb4 := hb2.grown hgr4 (by simp [Value.ownBlock]; omega); have r0 := hb4.cell (j := 0) rfl; have r1 := hb4.cell (j := 1) rfl; have rf := hb4.free; have q0 : w4.cell? ⟨w.heap.size, 0, none⟩ = some (V n) := World.grownBy.cell hgr4 (hnW.cell (by simp; omega) c0) (by simp [Value.ownBlock]; omega); have q1 : w4.cell? ⟨w.heap.size, 1, none⟩ = some (.slice (some ⟨b, off, none⟩) es.length c) := World.grownBy.cell hgr4 (hnW.cell (by simp; omega) c1) (by simp [Value.ownBlock]; omega))
    all_goals go_wp2
    all_goals refine bodyPost_ret (v := .agg #[V n, .slice (some ⟨g, 0, none⟩) es.length cap]) (by simp [results, Tryd.f61, go_sem, *]) rfl ?_
    all_goals refine ⟨some ⟨g, 0, none⟩, cap, rfl, ?_, ?_⟩
    all_goals first
      | (refine OwnE.mono (base := W1.heap.size) ?_ (by omega)
         (repeat (refine OwnE.far ?_ (by simp; omega) _))
         unfold OwnE
         simpa using hown4)
      | (have hn4 : Nx w w4 := (gn1.trans hnW).grown hgr4 (fun k hk => by simp [Value.ownBlock] at hk; omega)
         exact (by repeat (first | exact Nx.refl _ | assumption | apply Nx.alloc | apply Nx.drew | apply Nx.drewN | (refine Nx.setCell ?_ (by first | (simp; done) | (simp; omega) | omega) _) | refine Nx.trans ?_ (by assumption))))
  · obtain rfl : es = [] := List.eq_nil_of_length_eq_zero (by omega)
    go_enter Tryd.func61, Tryd.ntmps61
    go_wp2_with fail
    generalize hW1 : World.alloc _ _ = W1
    have gs1 : W1.heap.size = w.heap.size + 2 := by subst hW1; simp
    have gn1 : Nx w W1 := by subst hW1; exact (by repeat (first | exact Nx.refl _ | assumption | apply Nx.alloc | apply Nx.drew | apply Nx.drewN | (refine Nx.setCell ?_ (by first | (simp; done) | (simp; omega) | omega) _) | refine Nx.trans ?_ (by assumption)))
    have hbx : Bx W1 (w.heap.size + 1) 24 [V 0, .slice none 0 0] := by subst hW1; have h := Bx.alloc (w.alloc (.cells #[V n, .slice A 0 c] 24)) 24 [V 0, .slice none 0 0]; simpa using h
    have c0 : W1.cell? ⟨w.heap.size, 0, none⟩ = some (V n) := by subst hW1; go_simp
    have c1 : W1.cell? ⟨w.heap.size, 1, none⟩ = some (.slice A 0 c) := by subst hW1; go_simp
    clear hW1
    have hown : OwnE (W1.drew.alloc (.cells #[] 41)) W1.heap.size 41 (some ⟨W1.heap.size, 0, none⟩) 0 [] := OwnE.empty W1.drew W1.heap.size 41 (Nat.le_refl _)
    have hnW : Nx W1 (W1.drew.alloc (.cells #[] 41)) := (by repeat (first | exact Nx.refl _ | assumption | apply Nx.alloc | apply Nx.drew | apply Nx.drewN | (refine Nx.setCell ?_ (by first | (simp; done) | (simp; omega) | omega) _) | refine Nx.trans ?_ (by assumption)))
    have b0 := hbx.cell (j := 0) rfl
    have b1 := hbx.cell (j := 1) rfl
    have bf := hbx.free
    rw [show W1.heap.size = w.heap.size + 2 from gs1] at hown
    cases A with
    | none =>
      go_region
      all_goals go_wp2
      refine bodyPost_ret (v := .agg #[V n, .slice (some ⟨w.heap.size + 2, 0, none⟩) 0 0]) (by simp [results, Tryd.f61, go_sem, *]) rfl ?_
      refine ⟨some ⟨w.heap.size + 2, 0, none⟩, 0, rfl, ?_, (by repeat (first | exact Nx.refl _ | assumption | apply Nx.alloc | apply Nx.drew | apply Nx.drewN | (refine Nx.setCell ?_ (by first | (simp; done) | (simp; omega) | omega) _) | refine Nx.trans ?_ (by assumption)))⟩
      generalize hW2 : World.setCell (World.setCell W1 _ _) _ _ = W2
      have hs2 : W2.heap.size = w.heap.size + 2 := by subst hW2; simp [World.setCell, gs1]
      have hx2 := (OwnE.empty W2 w.heap.size 41 (by omega)).nx (show Nx _ (W2.alloc (.cells #[] 41)).drew from (by repeat (first | exact Nx.refl _ | assumption | apply Nx.alloc | apply Nx.drew | apply Nx.drewN | (refine Nx.setCell ?_ (by first | (simp; done) | (simp; omega) | omega) _) | refine Nx.trans ?_ (by assumption))))
      rw [hs2] at hx2
      exact hx2
    | some a =>
      go_region
      all_goals go_wp2
      refine bodyPost_ret (v := .agg #[V n, .slice (some ⟨w.heap.size + 2, 0, none⟩) 0 0]) (by simp [results, Tryd.f61, go_sem, *]) rfl ?_
      refine ⟨some ⟨w.heap.size + 2, 0, none⟩, 0, rfl, ?_, (by repeat (first | exact Nx.refl _ | assumption | apply Nx.alloc | apply Nx.drew | apply Nx.drewN | (refine Nx.setCell ?_ (by first | (simp; done) | (simp; omega) | omega) _) | refine Nx.trans ?_ (by assumption)))⟩
      generalize hW2 : World.setCell (World.setCell W1 _ _) _ _ = W2
      have hs2 : W2.heap.size = w.heap.size + 2 := by subst hW2; simp [World.setCell, gs1]
      have hx2 := (OwnE.empty W2 w.heap.size 41 (by omega)).nx (show Nx _ (W2.alloc (.cells #[] 41)).drew from (by repeat (first | exact Nx.refl _ | assumption | apply Nx.alloc | apply Nx.drew | apply Nx.drewN | (refine Nx.setCell ?_ (by first | (simp; done) | (simp; omega) | omega) _) | refine Nx.trans ?_ (by assumption))))
      rw [hs2] at hx2
      exact hx2
end Go.Proofs.YtekepbcmjfdcjaaDoor
