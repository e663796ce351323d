/- Contracts: places of edges, HasEdge, GraphSame. -/
import Derived.Test.YtekepbcmjfdcjaaDoorG3
namespace Go.Proofs.YtekepbcmjfdcjaaDoor
open Go.RowKit

/-- the place of an edge, or -1 -/
def idxE (es : List (Int × Int)) (e : Int × Int) : Int := if e ∈ es then (es.idxOf e : Int) else -1
theorem idxE_at {es : List (Int × Int)} {e : Int × Int} {k : Nat} (hno : ∀ j, j < k → es[j]? ≠ some e) (hk : es[k]? = some e) : idxE es e = k := by
  have hm : e ∈ es := List.mem_of_getElem? hk
  have h1 : es.idxOf e < es.length := List.idxOf_lt_length_iff.2 hm
  have h2 : es[es.idxOf e]? = some e := by rw [List.getElem?_eq_getElem h1]; simp
  have h3 : ¬ es.idxOf e < k := fun h => hno _ h h2
  have h4 : ¬ k < es.idxOf e := fun h => by
    have hkl := (List.getElem?_eq_some_iff.1 hk).1
    have h5 : (es[k] == e) = false := List.not_of_lt_findIdx (p := fun x => x == e) h
    rw [List.getElem?_eq_getElem hkl] at hk
    injection hk with hk
    simp [hk] at h5
  simp only [idxE, hm, if_true]
  omega
theorem idxE_no {es : List (Int × Int)} {e : Int × Int} (hno : ∀ j, j < es.length → es[j]? ≠ some e) : idxE es e = -1 := by
  have : e ∉ es := fun hm => by
    obtain ⟨j, hj, he⟩ := List.getElem_of_mem hm
    exact hno j hj (by rw [List.getElem?_eq_getElem hj, he])
  simp [idxE, this]
theorem idxE_nonneg (es : List (Int × Int)) (e : Int × Int) : 0 ≤ idxE es e ↔ e ∈ es := by
  unfold idxE; split <;> simp_all

theorem ne_step {α : Type} {xs : List α} {k : Nat} {a d : α} (hp : ∀ j, j < k → xs[j]? ≠ some a) (hd : xs[k]? = some d) (h : d ≠ a) : ∀ j, j < k + 1 → xs[j]? ≠ some a := fun j hj => by
  rcases Nat.lt_succ_iff_lt_or_eq.1 hj with h' | rfl
  · exact hp j h'
  · rw [hd]; intro e; injection e with e; exact h e

set_option maxRecDepth 100000 in
set_option maxHeartbeats 1000000 in
theorem l1Find_c (A : Option Addr) (c : Nat) (es : List (Int × Int)) (x y : Int) (w : World) (hx : EdgesAt w A es) (hl : es.length ≤ 1099511627776) :
    Calls Tryd.prog 51 #[.slice A es.length c, Ed x y] w (RetV (V (idxE es (x, y))) w) := by
  go_enter Tryd.func51, Tryd.ntmps51
  go_wp2
  generalize hW : w.alloc _ = W
  have gn : Nx w W := by subst hW; exact (by repeat (first | exact Nx.refl _ | assumption | apply Nx.alloc | apply Nx.drew | apply Nx.drewN | (refine Nx.setCell ?_ (by first | (simp; done) | (simp; omega) | omega) _) | refine Nx.trans ?_ (by assumption)))
  have gs : w.heap.size < W.heap.size := by subst hW; simp
  have b0 : W.cell? ⟨w.heap.size, 0, none⟩ = some (V x) := by subst hW; go_simp
  have b1 : W.cell? ⟨w.heap.size, 1, none⟩ = some (V y) := by subst hW; go_simp
  clear hW
  go_loopw [5] (fun i wr => ∃ k : Nat, k ≤ es.length ∧ i = .int .i64 k ∧ Nx W wr ∧ ∀ j, j < k → es[j]? ≠ some (x, y)) (fun i _ => es.length - (intOf i).toNat)
  case atStart => exact ⟨0, by omega, rfl, Nx.refl _, fun j hj => by omega⟩
  case round =>
    obtain ⟨k, hk, rfl, hn, hno⟩ := hrel
    have Hno := Lib.hid hno
    clear hno
    have c0 := hn.cell (p := ⟨w.heap.size, 0, none⟩) gs b0
    have c1 := hn.cell (p := ⟨w.heap.size, 1, none⟩) gs b1
    clear b0 b1
    by_cases hlt : k < es.length
    · obtain ⟨b, off, rfl, hb, hc⟩ := hx (by omega)
      have h1 := (gn.trans hn).cell (p := ⟨b, off + k * 2, none⟩) hb (hc k hlt).1
      have h2 := (gn.trans hn).cell (p := ⟨b, off + k * 2 + 1, none⟩) hb (hc k hlt).2
      have hek : es[k]? = some es[k] := List.getElem?_eq_getElem hlt
      generalize es[k] = e at *
      obtain ⟨p, q⟩ := e
      have Hek := Lib.hid hek
      clear hc hx hek
      by_cases e1 : (p == x) = true
      · by_cases e2 : (q == y) = true
        · go_wp2
          go_quiet (fail)
          go_wp2
          go_ret
          exact RetV.int (idxE_at Hno.out (by rw [Hek.out]; simp at e1 e2; rw [e1, e2])).symm (by repeat (first | exact Nx.refl _ | assumption | apply Nx.alloc | apply Nx.drew | apply Nx.drewN | (refine Nx.setCell ?_ (by first | (simp; done) | (simp; omega) | omega) _) | refine Nx.trans ?_ (by assumption)))
        · have e2 : (q == y) = false := by simpa using e2
          go_wp2
          go_quiet (fail)
          go_wp2
          go_roundw
          case rel => exact ⟨k + 1, by omega, by go_num, (by repeat (first | exact Nx.refl _ | assumption | apply Nx.alloc | apply Nx.drew | apply Nx.drewN | (refine Nx.setCell ?_ (by first | (simp; done) | (simp; omega) | omega) _) | refine Nx.trans ?_ (by assumption))), ne_step Hno.out Hek.out (by simp at e2; simp [e2])⟩
          case measure => simp [intOf]; omega
      · have e1 : (p == x) = false := by simpa using e1
        go_wp2
        go_quiet (fail)
        go_wp2
        go_roundw
        case rel => exact ⟨k + 1, by omega, by go_num, (by repeat (first | exact Nx.refl _ | assumption | apply Nx.alloc | apply Nx.drew | apply Nx.drewN | (refine Nx.setCell ?_ (by first | (simp; done) | (simp; omega) | omega) _) | refine Nx.trans ?_ (by assumption))), ne_step Hno.out Hek.out (by simp at e1; simp [e1])⟩
        case measure => simp [intOf]; omega
    · go_wp2
      go_ret
      exact RetV.int (idxE_no (fun j hj => Hno.out j (by omega))).symm (by repeat (first | exact Nx.refl _ | assumption | apply Nx.alloc | apply Nx.drew | apply Nx.drewN | (refine Nx.setCell ?_ (by first | (simp; done) | (simp; omega) | omega) _) | refine Nx.trans ?_ (by assumption)))
/-- does a valid graph have the edge? -/
def HasB (n : Int) (es : List (Int × Int)) (x y : Int) : Prop := Valid n es ∧ (x, y) ∈ es
noncomputable instance (n : Int) (es : List (Int × Int)) (x y : Int) : Decidable (HasB n es x y) := Classical.propDecidable _
theorem hasB_no {n : Int} {es : List (Int × Int)} {x y : Int} (h : ¬ Valid n es) : decide (HasB n es x y) = false := by simp [HasB, h]
theorem hasB_yes {n : Int} {es : List (Int × Int)} {x y : Int} (h : Valid n es) : decide (HasB n es x y) = decide ((x, y) ∈ es) := by
  by_cases h2 : (x, y) ∈ es <;> simp [HasB, h, h2]

end Go.Proofs.YtekepbcmjfdcjaaDoor
