import Derived.Test.YtbceoigmcomlbaaJ30
import Derived.Test.YtbceoigmcomlbaaJ35
/- Contracts: forests: forest, ForestOf of the program; l2Forest, ForestOf of the reference. -/
namespace Go.Proofs.Ytbceoigmcomlbaa
open Go.RowKit

theorem forest_step {n k : Nat} {es : Es} {e : Int × Int} (h : es[k]? = some e) : (es.take (k + 1)).foldl (fstep n) [] = fstep n ((es.take k).foldl (fstep n) []) e := fold_take_succ _ _ h
theorem forest_front_sub {n k : Nat} {es : Es} : ∀ e ∈ (es.take k).foldl (fstep n) [], e ∈ es := fun e h => by
  rcases fold_fstep_sub n (es.take k) [] e h with h | h
  · simp at h
  · exact List.mem_of_mem_take h
theorem forest_front_len {n k : Nat} {es : Es} : ((es.take k).foldl (fstep n) []).length ≤ k := by
  have h := fold_fstep_len n (es.take k) []
  have := List.length_take_le k es
  simp at h; omega

set_option maxRecDepth 100000 in
set_option maxHeartbeats 4000000 in
theorem l2Forest_c (n : Nat) (A : Option Addr) (c : Nat) (es : List (Int × Int)) (w : World) (hx : EdgesAt w A es) (hl : es.length ≤ 1048576) (hn16 : n ≤ 16) (hr : InR n es) (hd : ∀ e ∈ es, e.1 ≠ e.2) :
    Calls Try.prog 77 #[V n, .slice A es.length c] w (RetE 30 (forestL n es) w) := by
  obtain ⟨i0, hi, hz0, hz1, hz2⟩ := info_parts infoE
  have Hi := Lib.hid hi
  have Hz0 := Lib.hid hz0
  have Hz1 := Lib.hid hz1
  have Hz2 := Lib.hid hz2
  clear hi hz0 hz1 hz2
  go_enter Try.func77, Try.ntmps77
  go_wp2
  have ho0 := OwnE.empty w w.heap.size 30 (Nat.le_refl _)
  go_loopg [5, 6] es.length (fun gk out i wr => ∃ (k : Nat) (A' : Option Addr) (c' : Nat), k + gk = es.length ∧ i = .int .i64 k ∧ out = .slice A' ((es.take k).foldl (fstep n) []).length c' ∧ OwnE wr w.heap.size 30 A' c' ((es.take k).foldl (fstep n) []) ∧ Nx w wr)
  case atStart => exact ⟨0, _, 0, by omega, rfl, rfl, ho0, (by repeat (first | exact Nx.refl _ | assumption | apply Nx.alloc | apply Nx.drew | apply Nx.drewN | (refine Nx.setCell ?_ (by first | (simp; done) | (simp; omega) | omega) _) | refine Nx.trans ?_ (by assumption)))⟩
  case round =>
    obtain ⟨k, A', c', hk, rfl, rfl, hown, hnx⟩ := hrel
    have hsz := hnx.size
    by_cases hlt : k < es.length
    · have hek : es[k]? = some es[k] := List.getElem?_eq_getElem hlt
      have her := hr es[k] (List.getElem_mem hlt)
      have hst := forest_step (n := n) hek
      have hsub := forest_front_sub (n := n) (k := k) (es := es)
      have hlen := forest_front_len (n := n) (k := k) (es := es)
      obtain ⟨b, off, rfl, hbl, hc⟩ := hx (by omega)
      have h1 := hnx.cell (p := ⟨b, off + k * 2, none⟩) hbl (hc k hlt).1
      have h2 := hnx.cell (p := ⟨b, off + k * 2 + 1, none⟩) hbl (hc k hlt).2
      have hb3 : b < wr.heap.size := by omega
      clear hc
      generalize (es.take k).foldl (fstep n) [] = L at *
      generalize es[k] = e at *
      obtain ⟨x, y⟩ := e
      have Hst := Lib.hid hst
      have hLr : InR n L := InR.sub hr hsub
      have hLd : ∀ e ∈ L, e.1 ≠ e.2 := fun e he => hd e (hsub e he)
      have HLr := Lib.hid hLr
      have HLd := Lib.hid hLd
      have Her := Lib.hid her
      have Hown := Lib.hid hown
      clear hst hsub hLr hLd her hek hx ho0 hown
      go_wp2_with fail
      (refine tail_quiet 13 (by kernel_rfl) (by kernel_rfl) (fun W2 gW2 => ?_); obtain ⟨hcW2, hfW2, hzW2⟩ := gW2.rules; simp only [List.take_succ_cons, List.take_zero, List.drop_succ_cons, List.drop_zero]; (repeat go_big_quiet_step (fail)); with_reducible refine wpQuiet_nil ?_)
      go_wp2_with fail
      refine (l2Joined_c n A' c' L x y _ (Hown.out.edgesAt.nx (by repeat (first | exact Nx.refl _ | assumption | apply Nx.alloc | apply Nx.drew | apply Nx.drewN | (refine Nx.setCell ?_ (by first | (simp; done) | (simp; omega) | omega) _) | refine Nx.trans ?_ (by assumption)))) (by omega) hn16 HLr.out HLd.out ⟨Her.out.1, Her.out.2.1⟩ ⟨Her.out.2.2.1, Her.out.2.2.2⟩).mono ?_
      rintro e w2 ⟨rfl, hn2⟩
      have hn2' : Nx wr w2 := (by repeat (first | exact Nx.refl _ | assumption | apply Nx.alloc | apply Nx.drew | apply Nx.drewN | (refine Nx.setCell ?_ (by first | (simp; done) | (simp; omega) | omega) _) | refine Nx.trans ?_ (by assumption)))
      have h1 := hn2'.cell (p := ⟨b, off + k * 2, none⟩) hb3 h1
      have h2 := hn2'.cell (p := ⟨b, off + k * 2 + 1, none⟩) hb3 h2
      have ho2 := Hown.out.nx hn2'
      have hnx2 : Nx w w2 := hnx.trans hn2'
      have hz2 := hn2'.size
      cases hcb : connB n L x y with
      | true =>
        have hcb' : fstep n L (x, y) = L := fstep_yes hcb
        have Hcb := Lib.hid hcb'
        clear hcb hcb'
        go_wp2
        go_roundg (gk - 1)
        case measure => omega
        case rel => exact ⟨k + 1, A', c', by omega, by go_num, by rw [Hst.out, Hcb.out], by rw [Hst.out, Hcb.out]; exact ho2, hnx2⟩
      | false =>
        have hcb' : fstep n L (x, y) = L ++ [(x, y)] := fstep_no hcb
        have Hcb := Lib.hid hcb'
        clear hcb hcb'
        go_wp2_with (at_builtin; go_must (refine appE (base := w.heap.size) (t := 30) L w2.heap.size x y rfl rfl Try.underlying26 Hi.out Hz0.out Hz1.out Hz2.out rfl rfl (ho2.nx (by repeat (first | exact Nx.refl _ | assumption | apply Nx.alloc | apply Nx.drew | apply Nx.drewN | (refine Nx.setCell ?_ (by first | (simp; done) | (simp; omega) | omega) _) | refine Nx.trans ?_ (by assumption)))) rfl (by go_simp) (by go_simp) (by omega) (by simp; omega) ?_; intro A2 c2 w3 hown3 hnx3 hgr3 hbl3))
        go_roundg (gk - 1)
        case measure => omega
        case rel => exact ⟨k + 1, A2, c2, by omega, by go_num, by rw [Hst.out, Hcb.out]; simp, by rw [Hst.out, Hcb.out]; exact hown3, hnx3 w (Nat.le_refl _) (by repeat (first | exact Nx.refl _ | assumption | apply Nx.alloc | apply Nx.drew | apply Nx.drewN | (refine Nx.setCell ?_ (by first | (simp; done) | (simp; omega) | omega) _) | refine Nx.trans ?_ (by assumption)))⟩
    · go_wp2
      go_ret
      have he : es.take k = es := List.take_of_length_le (by omega)
      rw [he] at hown ⊢
      exact ⟨A', c', rfl, hown, hnx⟩

open Classical in
/-- what ForestOf returns -/
noncomputable def forestOf (n : Int) (es : List (Int × Int)) : List (Int × Int) := if Valid n es then forestL n.toNat es else []
theorem forestOf_yes {n : Int} {es : List (Int × Int)} (h : Valid n es) : forestOf n es = forestL n.toNat es := if_pos h
theorem forestOf_no {n : Int} {es : List (Int × Int)} (h : ¬ Valid n es) : forestOf n es = [] := if_neg h
theorem forestOf_length (n : Int) (es : List (Int × Int)) : (forestOf n es).length ≤ 40 := by
  by_cases h : Valid n es
  · rw [forestOf_yes h]; have := h.2.2.1; have := forest_len n.toNat es; omega
  · rw [forestOf_no h]; simp

end Go.Proofs.Ytbceoigmcomlbaa
