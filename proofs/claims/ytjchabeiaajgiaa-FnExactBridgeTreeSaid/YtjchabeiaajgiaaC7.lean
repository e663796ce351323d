/- Contracts: the bridges of the reference; the safe parts (l5Bare, safeParts, SafeParts). -/
import Derived.Test.YtjchabeiaajgiaaC6
import Derived.Deep.DrawnRows
namespace Go.Proofs.Ytjchabeiaajgiaa
open Go.RowKit

theorem edgesOne {w : World} {b : Nat} {x y : Int} (hb : b < w.heap.size) (h0 : w.cell? ⟨b, 0, none⟩ = some (V x)) (h1 : w.cell? ⟨b, 1, none⟩ = some (V y)) : EdgesAt w (some ⟨b, 0, none⟩) [(x, y)] := fun _ =>
  ⟨b, 0, rfl, hb, fun k hk => by
    obtain rfl : k = 0 := by simp at hk; omega
    exact ⟨by simpa using h0, by simpa using h1⟩⟩

set_option maxRecDepth 100000 in
set_option maxHeartbeats 4000000 in
theorem l4Bridges_c (n : Nat) (A : Option Addr) (c : Nat) (es : List (Int × Int)) (w : World) (hx : EdgesAt w A es) (hl : es.length ≤ 1048576) (hn16 : n ≤ 16) (hr : InR n es) (hd : ∀ e ∈ es, e.1 ≠ e.2) :
    Calls Try.prog 79 #[.agg #[V n, .slice A es.length c]] w (RetE 36 (bridgesL n es) w) := by
  obtain ⟨i0, hi, hz0, hz1, hz2⟩ := info_parts infoE
  have Hi := Lib.hid hi
  have Hz0 := Lib.hid hz0
  have Hz1 := Lib.hid hz1
  have Hz2 := Lib.hid hz2
  clear hi hz0 hz1 hz2
  go_enter Try.func79, Try.ntmps79
  go_wp2
  generalize hW1 : World.alloc _ _ = W1
  have gW1 : Nx w W1 := by subst hW1; exact (by repeat (first | exact Nx.refl _ | assumption | apply Nx.alloc | apply Nx.drew | apply Nx.drewN | (refine Nx.setCell ?_ (by first | (simp; done) | (simp; omega) | omega) _) | refine Nx.trans ?_ (by assumption)))
  have sW1 : W1.heap.size = w.heap.size + 2 := by subst hW1; simp
  have X0 : Bx W1 (w.heap.size) 26 [V n, .slice A es.length c] := by subst hW1; have h := Bx.alloc w 26 [V n, .slice A es.length c]; have h := h.nx (Nx.alloc (Nx.refl _) (.cells #[] 36)); simpa using h
  have X1 : Bx W1 (w.heap.size + 1) 36 [] := by subst hW1; have h := Bx.alloc (w.alloc (.cells #[V n, .slice A es.length c] 26)) 36 []; simpa using h
  have X0_0 := X0.cell (j := 0) rfl
  have X0_1 := X0.cell (j := 1) rfl
  have X0_z := X0.lt
  have X1_z := X1.lt
  have HsW1 := Lib.hid sW1
  have lW1 : w.heap.size + 2 ≤ W1.heap.size := by omega
  clear hW1 sW1
  have ho0 : OwnE W1 (w.heap.size + 1) 36 _ 0 [] := X1.emptyE (Nat.le_refl _)
  go_loopg [3, 4] es.length (fun gk out i wr => ∃ (k : Nat) (A' : Option Addr) (c' : Nat), k + gk = es.length ∧ i = .int .i64 k ∧ out = .slice A' ((es.take k).filter (bridgeB n es)).length c' ∧ OwnE wr (w.heap.size + 1) 36 A' c' ((es.take k).filter (bridgeB n es)) ∧ Bx wr w.heap.size 26 [V n, .slice A es.length c] ∧ Nx w wr)
  case atStart => exact ⟨0, _, 0, by omega, rfl, rfl, ho0, X0, gW1⟩
  case round =>
    obtain ⟨k, A', c', hk, rfl, rfl, hown, X0, hn0⟩ := hrel
    have X0_0 := X0.cell (j := 0) rfl
    have X0_1 := X0.cell (j := 1) rfl
    have X0_z := X0.lt
    have hsz := hn0.size
    by_cases hlt : k < es.length
    · have hek : es[k]? = some es[k] := List.getElem?_eq_getElem hlt
      have hst := filter_take_succ (bridgeB n es) hek
      have hlen : ((es.take k).filter (bridgeB n es)).length ≤ k := Nat.le_trans (List.length_filter_le _ _) (List.length_take_le _ _)
      have her := hr es[k] (List.getElem_mem hlt)
      have hxw := hx.nx hn0
      obtain ⟨b, off, rfl, hbl, hc⟩ := hxw (by omega)
      have h1 := (hc k hlt).1
      have h2 := (hc k hlt).2
      clear hc ho0 hek
      generalize (es.take k).filter (bridgeB n es) = L at *
      generalize es[k] = e at *
      obtain ⟨x, y⟩ := e
      have Hst := Lib.hid hst
      have Hown := Lib.hid hown
      have Her := Lib.hid her
      have Hr := Lib.hid hr
      have Hd := Lib.hid hd
      clear hst hown her hx
      go_wp2_with fail
      (refine tail_quiet 6 (by kernel_rfl) (by kernel_rfl) (fun W2 gW2 => ?_); obtain ⟨hcW2, hfW2, hzW2⟩ := gW2.rules; simp only [List.take_succ_cons, List.take_zero, List.drop_succ_cons, List.drop_zero]; (repeat go_big_quiet_step (fail)); with_reducible refine wpQuiet_nil ?_)
      go_wp2_with fail
      refine (l4Bridge_c n (some ⟨b, off, none⟩) c es x y _ (hxw.nx gW2) hl hn16 Hr.out Hd.out ⟨Her.out.1, Her.out.2.1⟩ ⟨Her.out.2.2.1, Her.out.2.2.2⟩).mono ?_
      rintro e w3 ⟨rfl, hn3⟩
      have hn23 : Nx wr w3 := gW2.trans hn3
      replace X0 := X0.nx hn23
      replace X0_0 := X0.cell (j := 0) rfl
      replace X0_1 := X0.cell (j := 1) rfl
      replace X0_z := X0.lt
      replace h1 := hn23.cell (p := ⟨b, off + k * 2, none⟩) hbl h1
      replace h2 := hn23.cell (p := ⟨b, off + k * 2 + 1, none⟩) hbl h2
      have ho3 := Hown.out.nx hn23
      have hz3 := hn23.size
      have hn03 : Nx w w3 := hn0.trans hn23
      cases hq : bridgeB n es (x, y) with
      | true =>
        have Hq := Lib.hid hq
        clear hq
        go_wp2_with (at_builtin; go_must (refine appE (base := w.heap.size + 1) (t := 36) L _ x y rfl rfl Try.underlying24 Hi.out Hz0.out Hz1.out Hz2.out rfl rfl (ho3.nx (by repeat (first | exact Nx.refl _ | assumption | apply Nx.alloc | apply Nx.drew | apply Nx.drewN | (refine Nx.setCell ?_ (by first | (simp; done) | (simp; omega) | omega) _) | refine Nx.trans ?_ (by assumption)))) rfl (cellN rfl rfl) (cellN rfl rfl) (by omega) (by simp; omega) ?_; intro A2 c2 w4 hown4 hnx4 hgr4 hbl4))
        go_roundg (gk - 1)
        case measure => omega
        case rel => exact ⟨k + 1, A2, c2, by omega, by go_num, by rw [Hst.out, if_pos Hq.out]; simp, by rw [Hst.out, if_pos Hq.out]; exact hown4, (X0.nx (Nx.alloc (Nx.refl _) _)).grown hgr4 (fun h => by have := (ho3.lt _ h).1; omega), hnx4 w (by omega) (hn03.alloc _)⟩
      | false =>
        have Hq := Lib.hid (show ¬ bridgeB n es (x, y) = true by simp [hq])
        clear hq
        go_wp2
        go_roundg (gk - 1)
        case measure => omega
        case rel => exact ⟨k + 1, A', c', by omega, by go_num, by rw [Hst.out, if_neg Hq.out, List.append_nil], by rw [Hst.out, if_neg Hq.out, List.append_nil]; exact ho3, X0, hn03⟩
    · have he : es.take k = es := List.take_of_length_le (by omega)
      rw [he] at hown ⊢
      have hown : OwnE wr (w.heap.size + 1) 36 A' c' (bridgesL n es) := hown
      have hL : (es.filter (bridgeB n es)).length = (bridgesL n es).length := rfl
      have HL := Lib.hid hL
      clear hL
      go_wp2
      go_ret
      exact ⟨A', c', by rw [HL.out]; rfl, hown.mono (by omega), hn0⟩

set_option maxRecDepth 100000 in
set_option maxHeartbeats 2000000 in
theorem sBridgesOf_c (n : Int) (A : Option Addr) (c : Nat) (es : List (Int × Int)) (w : World) (hx : EdgesAt w A es) (hl : es.length ≤ 1048576) :
    Calls Try.prog 34 #[.agg #[V n, .slice A es.length c]] w (RetE 36 (bridgesOf n es) w) := by
  have hgv := sGraphValid_c n A c es
  by_cases hv : Valid n es
  · rw [bridgesOf_yes hv]
    rw [show decide (Valid n es) = true by simpa using hv] at hgv
    have Hgv := Lib.hid hgv
    have ht := l4Bridges_c n.toNat A c es
    rw [hv.nat] at ht
    have Ht := Lib.hid ht
    have h16 := hv.2.1
    have HR := Lib.hid hv.inR
    have HD := Lib.hid hv.apart
    clear hgv ht hv
    go_enter Try.func34, Try.ntmps34
    go_wp2_with fail
    generalize hW1 : World.alloc _ _ = W1
    have gW1 : Nx w W1 := by subst hW1; exact (by repeat (first | exact Nx.refl _ | assumption | apply Nx.alloc | apply Nx.drew | apply Nx.drewN | (refine Nx.setCell ?_ (by first | (simp; done) | (simp; omega) | omega) _) | refine Nx.trans ?_ (by assumption)))
    have sW1 : W1.heap.size = w.heap.size + 1 := by subst hW1; simp
    have X0 : Bx W1 (w.heap.size) 26 [V n, .slice A es.length c] := by subst hW1; have h := Bx.alloc w 26 [V n, .slice A es.length c]; simpa using h
    have X0_0 := X0.cell (j := 0) rfl
    have X0_1 := X0.cell (j := 1) rfl
    have X0_z := X0.lt
    have HsW1 := Lib.hid sW1
    have lW1 : w.heap.size + 1 ≤ W1.heap.size := by omega
    clear hW1 sW1
    refine (Hgv.out _ (hx.nx gW1) (by omega)).mono ?_
    rintro e w2 ⟨rfl, hn2⟩
    replace X0 := X0.nx hn2
    replace X0_0 := X0.cell (j := 0) rfl
    replace X0_1 := X0.cell (j := 1) rfl
    replace X0_z := X0.lt
    have hz2 := hn2.size
    go_wp2_with fail
    refine (Ht.out _ ((hx.nx gW1).nx hn2) hl (by omega) HR.out HD.out).mono ?_
    rintro e w3 ⟨B, d, rfl, ho3, hn3⟩
    go_wp2
    go_ret
    exact ⟨B, d, rfl, ho3.mono (by omega), (gW1.trans hn2).trans hn3⟩
  · rw [bridgesOf_no hv]
    rw [show decide (Valid n es) = false by simpa using hv] at hgv
    have Hgv := Lib.hid hgv
    clear hgv hv
    go_enter Try.func34, Try.ntmps34
    go_wp2_with fail
    generalize hW1 : World.alloc _ _ = W1
    have gW1 : Nx w W1 := by subst hW1; exact (by repeat (first | exact Nx.refl _ | assumption | apply Nx.alloc | apply Nx.drew | apply Nx.drewN | (refine Nx.setCell ?_ (by first | (simp; done) | (simp; omega) | omega) _) | refine Nx.trans ?_ (by assumption)))
    have sW1 : W1.heap.size = w.heap.size + 1 := by subst hW1; simp
    have X0 : Bx W1 (w.heap.size) 26 [V n, .slice A es.length c] := by subst hW1; have h := Bx.alloc w 26 [V n, .slice A es.length c]; simpa using h
    have X0_0 := X0.cell (j := 0) rfl
    have X0_1 := X0.cell (j := 1) rfl
    have X0_z := X0.lt
    have HsW1 := Lib.hid sW1
    have lW1 : w.heap.size + 1 ≤ W1.heap.size := by omega
    clear hW1 sW1
    refine (Hgv.out _ (hx.nx gW1) (by omega)).mono ?_
    rintro e w2 ⟨rfl, hn2⟩
    have hz2 := hn2.size
    go_wp2
    go_ret
    exact ⟨_, 0, rfl, OwnE.empty w2 _ _ (by omega), (by repeat (first | exact Nx.refl _ | assumption | apply Nx.alloc | apply Nx.drew | apply Nx.drewN | (refine Nx.setCell ?_ (by first | (simp; done) | (simp; omega) | omega) _) | refine Nx.trans ?_ (by assumption)))⟩
end Go.Proofs.Ytjchabeiaajgiaa
