/- Contracts: forests: forest, ForestOf of the program; l2Forest, ForestOf of the reference. -/
import Derived.Test.YtjchabeiaajgiaaF2
import Derived.Test.YtjchabeiaajgiaaP4
namespace Go.Proofs.Ytjchabeiaajgiaa
open Go.RowKit

theorem forest_step {n k : Nat} {es : Es} {e : Int × Int} (h : es[k]? = some e) : (es.take (k + 1)).foldl (fstep n) [] = fstep n ((es.take k).foldl (fstep n) []) e := fold_take_succ _ _ h
theorem forest_front_sub {n k : Nat} {es : Es} : ∀ e ∈ (es.take k).foldl (fstep n) [], e ∈ es := fun e h => by
  rcases fold_fstep_sub n (es.take k) [] e h with h | h
  · simp at h
  · exact List.mem_of_mem_take h
theorem forest_front_len {n k : Nat} {es : Es} : ((es.take k).foldl (fstep n) []).length ≤ k := by
  have h := fold_fstep_len n (es.take k) []
  have := List.length_take_le k es
  simp at h; omega

set_option maxRecDepth 100000 in
set_option maxHeartbeats 4000000 in
theorem forest_c (n : Nat) (A : Option Addr) (c : Nat) (es : List (Int × Int)) (w : World) (hx : EdgesAt w A es) (hl : es.length ≤ 1048576) (hn16 : n ≤ 16) (hr : InR n es) (hd : ∀ e ∈ es, e.1 ≠ e.2) :
    Calls Try.prog 55 #[.agg #[V n, .slice A es.length c]] w (RetE 36 (forestL n es) w) := by
  obtain ⟨i0, hi, hz0, hz1, hz2⟩ := info_parts infoE
  have Hi := Lib.hid hi
  have Hz0 := Lib.hid hz0
  have Hz1 := Lib.hid hz1
  have Hz2 := Lib.hid hz2
  clear hi hz0 hz1 hz2
  go_enter Try.func55, Try.ntmps55
  go_wp2
  generalize hW0 : World.alloc _ _ = W0
  have gn0 : Nx w W0 := by subst hW0; exact (by repeat (first | exact Nx.refl _ | assumption | apply Nx.alloc | apply Nx.drew | apply Nx.drewN | (refine Nx.setCell ?_ (by first | (simp; done) | (simp; omega) | omega) _) | refine Nx.trans ?_ (by assumption)))
  have gs0 : W0.heap.size = w.heap.size + 2 := by subst hW0; simp
  have hb : Bx W0 (w.heap.size + 1) 26 [V n, .slice none 0 0] := by subst hW0; have h := Bx.alloc (w.alloc (.cells #[V n, .slice A es.length c] 26)) 26 [V n, .slice none 0 0]; simpa using h
  have Gs0 := Lib.hid gs0
  have gs1 : w.heap.size + 1 < W0.heap.size := by omega
  have gs2 : W0.heap.size ≤ w.heap.size + 2 := by omega
  clear hW0 gs0
  go_loopg [12] es.length (fun gk i wr => ∃ (k : Nat) (A' : Option Addr) (c' : Nat), k + gk = es.length ∧ i = .int .i64 k ∧ Bx wr (w.heap.size + 1) 26 [V n, .slice A' ((es.take k).foldl (fstep n) []).length c'] ∧ OwnE wr W0.heap.size 36 A' c' ((es.take k).foldl (fstep n) []) ∧ Rx (w.heap.size + 1) W0 wr)
  case atStart => exact ⟨0, none, 0, by omega, rfl, hb, OwnE.nil _ _ _, Rx.refl _ _⟩
  case round =>
    obtain ⟨k, A', c', hk, rfl, hbo, hown, hrx⟩ := hrel
    have hnx : Nx w wr := Rx.nx gn0 hrx (by omega)
    have hsz := hrx.size
    by_cases hlt : k < es.length
    · have hek : es[k]? = some es[k] := List.getElem?_eq_getElem hlt
      have her := hr es[k] (List.getElem_mem hlt)
      have hst := forest_step (n := n) hek
      have hsub := forest_front_sub (n := n) (k := k) (es := es)
      have hlen := forest_front_len (n := n) (k := k) (es := es)
      obtain ⟨b, off, rfl, hbl, hc⟩ := hx (by omega)
      have h1 := hnx.cell (p := ⟨b, off + k * 2, none⟩) hbl (hc k hlt).1
      have h2 := hnx.cell (p := ⟨b, off + k * 2 + 1, none⟩) hbl (hc k hlt).2
      clear hc
      generalize (es.take k).foldl (fstep n) [] = L at *
      generalize es[k] = e at *
      obtain ⟨x, y⟩ := e
      have Hst := Lib.hid hst
      have Hsub := Lib.hid hsub
      have hLr : InR n L := InR.sub hr hsub
      have hLd : ∀ e ∈ L, e.1 ≠ e.2 := fun e he => hd e (hsub e he)
      have HLr := Lib.hid hLr
      have HLd := Lib.hid hLd
      have Her := Lib.hid her
      have q0 := hbo.cell (j := 0) rfl
      have q1 := hbo.cell (j := 1) rfl
      have qz := hbo.lt
      clear hst hsub hLr hLd her hek hx
      go_wp2_with fail
      refine (connected_c n A' c' L x y _ (hown.edgesAt.nx (by repeat (first | exact Nx.refl _ | assumption | apply Nx.alloc | apply Nx.drew | apply Nx.drewN | (refine Nx.setCell ?_ (by first | (simp; done) | (simp; omega) | omega) _) | refine Nx.trans ?_ (by assumption)))) (by omega) hn16 HLr.out HLd.out ⟨Her.out.1, Her.out.2.1⟩ ⟨Her.out.2.2.1, Her.out.2.2.2⟩).mono ?_
      rintro e w2 ⟨rfl, hn2⟩
      have hn2' : Nx wr w2 := (by repeat (first | exact Nx.refl _ | assumption | apply Nx.alloc | apply Nx.drew | apply Nx.drewN | (refine Nx.setCell ?_ (by first | (simp; done) | (simp; omega) | omega) _) | refine Nx.trans ?_ (by assumption)))
      have e0 : w2.cell? ⟨wr.heap.size, 0, none⟩ = some (V x) := hn2.cell (by simp) (by go_simp)
      have e1 : w2.cell? ⟨wr.heap.size, 1, none⟩ = some (V y) := hn2.cell (by simp) (by go_simp)
      have hb2 := hbo.nx hn2'
      have ho2 := hown.nx hn2'
      have hr2 : Rx (w.heap.size + 1) W0 w2 := hrx.trans (hn2'.rx _)
      have hz2 := hn2.size
      have hz2 : wr.heap.size < w2.heap.size := by simp at hz2; omega
      have q0 := hb2.cell (j := 0) rfl
      have q1 := hb2.cell (j := 1) rfl
      have qz := hb2.lt
      clear h1 h2 hn2 hbo hown hrx hnx hn2'
      cases hcb : connB n L x y with
      | true =>
        have hcb' : fstep n L (x, y) = L := fstep_yes hcb
        clear hcb
        go_wp2
        go_roundg (gk - 1)
        case measure => omega
        case rel => exact ⟨k + 1, A', c', by omega, by go_num, by rw [Hst.out, hcb']; exact hb2, by rw [Hst.out, hcb']; exact ho2, hr2⟩
      | false =>
        have hcb' : fstep n L (x, y) = L ++ [(x, y)] := fstep_no hcb
        have Hcb := Lib.hid hcb'
        clear hcb hcb'
        go_wp2_with (at_builtin; go_must (refine appE (base := W0.heap.size) (t := 36) L w2.heap.size x y rfl rfl Try.underlying24 Hi.out Hz0.out Hz1.out Hz2.out rfl rfl (ho2.nx (by repeat (first | exact Nx.refl _ | assumption | apply Nx.alloc | apply Nx.drew | apply Nx.drewN | (refine Nx.setCell ?_ (by first | (simp; done) | (simp; omega) | omega) _) | refine Nx.trans ?_ (by assumption)))) rfl (by go_simp) (by go_simp) (by omega) (by simp; omega) ?_; intro A2 c2 w3 hown3 hnx3 hgr3 hbl3; have hb3 := (hb2.nx (Nx.alloc (Nx.refl _) _)).grown hgr3 (by intro e; have := ho2.lt _ e; omega); have r1 := hb3.cell (j := 1) rfl; have rf := hb3.free; have hr3 : Rx (w.heap.size + 1) W0 w3 := (hr2.alloc _).own hgr3 (fun j hj => (ho2.lt j hj).1)))
        go_roundg (gk - 1)
        case measure => omega
        case rel =>
          refine ⟨k + 1, A2, c2, by omega, by go_num, ?_, ?_, hr3.setCell _ _⟩
          · rw [Hst.out, Hcb.out, List.length_append]
            exact hb3.set (j := 1) _
          · rw [Hst.out, Hcb.out]
            exact hown3.far (by simp; omega) _
    · have q1 := hbo.cell (j := 1) rfl
      go_wp2
      go_ret
      have he : es.take k = es := List.take_of_length_le (by omega)
      rw [he] at hown ⊢
      exact ⟨A', c', rfl, OwnE.mono hown (by omega), hnx⟩

open Classical in
/-- what ForestOf returns -/
noncomputable def forestOf (n : Int) (es : List (Int × Int)) : List (Int × Int) := if Valid n es then forestL n.toNat es else []
theorem forestOf_yes {n : Int} {es : List (Int × Int)} (h : Valid n es) : forestOf n es = forestL n.toNat es := if_pos h
theorem forestOf_no {n : Int} {es : List (Int × Int)} (h : ¬ Valid n es) : forestOf n es = [] := if_neg h
theorem forestOf_length (n : Int) (es : List (Int × Int)) : (forestOf n es).length ≤ 40 := by
  by_cases h : Valid n es
  · rw [forestOf_yes h]; have := h.2.2.1; have := forest_len n.toNat es; omega
  · rw [forestOf_no h]; simp

end Go.Proofs.Ytjchabeiaajgiaa
