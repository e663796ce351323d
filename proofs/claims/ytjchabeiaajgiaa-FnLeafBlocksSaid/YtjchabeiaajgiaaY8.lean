/- Contracts: block of the program; BlocksOf of both sides. -/
import Derived.Test.YtjchabeiaajgiaaY6
import Derived.Test.YtjchabeiaajgiaaY7
import Derived.Test.YtjchabeiaajgiaaY2
namespace Go.Proofs.Ytjchabeiaajgiaa
open Go.RowKit set_option linter.unusedVariables false set_option linter.unusedSimpArgs false

theorem infoEE : (Try.prog.info? 24).map (fun i => (i.zero, i.size, i.bytes)) = some (some (.slice none 0 0), 1, 24) := by kernel_rfl
theorem IntsAt.mono0 {w : World} {A : Option Addr} {L : List Int} (h : IntsAt w A L) : IntsAt w A L := h
theorem OwnQ.push {w w1 w' : World} {base : Nat} {T t : TypeId} {A A' : Option Addr} {c c' : Nat} {q : List Row} {r : Row} (h : OwnQ w base T t A c q) (hb : base ≤ w.heap.size) (hn : Nx w w1) (hr : OwnE w1 w.heap.size t r.1 r.2.1 r.2.2)
    (hg : w1.grownBy w' (blk A)) (ho : OwnV w' base T A' c' (q.map Row.val ++ [r.val])) (hA : blk A' = blk A ∨ blk A' = some w1.heap.size) : OwnQ w' base T t A' c' (q ++ [r]) := by
  have sep : ∀ {o : Option Nat}, (∀ k, o = some k → k < w.heap.size) → (o = none ∨ o ≠ blk r.1) := fun {o} ho => by
    cases o with
    | none => exact .inl rfl
    | some k => exact .inr fun e => by have := ho k rfl; have := (hr.lt k e.symm).1; omega
  exact OwnQ.append (h.nx hn) hg ho hA (hr.mono hb) (sep fun k hk => (h.1.lt k hk).2) (fun s hs => sep fun k hk => ((h.2.1 s hs).lt k hk).2)

set_option maxRecDepth 100000 in
set_option maxHeartbeats 4000000 in
theorem block_c (n : Int) (A B : Option Addr) (c d : Nat) (es : List (Int × Int)) (L : List Int) (m : Nat) (i : Int) (w : World) (hx : EdgesAt w A es) (hL : IntsAt w B L) (hl : es.length ≤ 1048576) (hm : L.length = m) (hm2 : es.length = m) :
    Calls Try.prog 97 #[.agg #[V n, .slice A es.length c], .slice B m d, V i] w (RetE 36 (blkAt L es i) w) := by
  obtain ⟨i0, hi, hz0, hz1, hz2⟩ := info_parts infoE
  have Hi := Lib.hid hi
  have Hz0 := Lib.hid hz0
  have Hz1 := Lib.hid hz1
  have Hz2 := Lib.hid hz2
  clear hi hz0 hz1 hz2
  rw [hm2]
  have hl : m ≤ 1048576 := by omega
  have Hm := Lib.hid hm
  have Hm2 := Lib.hid hm2
  clear hm hm2
  go_enter Try.func97, Try.ntmps97
  go_wp2
  generalize hW0 : World.alloc w _ = W0
  have gn0 : Nx w W0 := by subst hW0; exact (by repeat (first | exact Nx.refl _ | assumption | apply Nx.alloc | apply Nx.drew | apply Nx.drewN | (refine Nx.setCell ?_ (by first | (simp; done) | (simp; omega) | omega) _) | refine Nx.trans ?_ (by assumption)))
  have X0 : Bx W0 w.heap.size 26 [V n, .slice A m c] := by subst hW0; exact Bx.alloc w 26 [V n, .slice A m c]
  have ho0 := OwnE.empty W0 W0.heap.size 36 (Nat.le_refl _)
  rw [show w.heap.size + 1 = W0.heap.size by subst hW0; simp]
  clear hW0
  replace hx := hx.nx gn0
  replace hL := hL.nx gn0
  go_loopg [7, 14] m (fun gk out i' wr => ∃ (k : Nat) (A' : Option Addr) (c' : Nat), k + gk = m ∧ i' = .int .i64 k ∧ out = .slice A' (blkAt (L.take k) (es.take k) i).length c' ∧ OwnE wr W0.heap.size 36 A' c' (blkAt (L.take k) (es.take k) i) ∧ Nx W0 wr)
  case atStart => exact ⟨0, some ⟨W0.heap.size, 0, none⟩, 0, by omega, rfl, by simp [blkAt_nil], by simp [blkAt_nil]; exact ho0, (by repeat (first | exact Nx.refl _ | assumption | apply Nx.alloc | apply Nx.drew | apply Nx.drewN | (refine Nx.setCell ?_ (by first | (simp; done) | (simp; omega) | omega) _) | refine Nx.trans ?_ (by assumption)))⟩
  case round =>
    obtain ⟨k, A', c', hk, rfl, rfl, hown, hn⟩ := hrel
    by_cases hlt : k < m
    · obtain ⟨e, he⟩ : ∃ e, es[k]? = some e := ⟨_, List.getElem?_eq_getElem (by have := Hm2.out; omega)⟩
      obtain ⟨x0, hx0⟩ : ∃ x, L[k]? = some x := ⟨_, List.getElem?_eq_getElem (by have := Hm.out; omega)⟩
      have hst := blkAt_step (i := i) hx0 he
      have hlen : (blkAt (L.take k) (es.take k) i).length ≤ k := Nat.le_trans (blkAt_len _ _ _) (List.length_take_le _ _)
      obtain ⟨b1, off, rfl, hb1, h1, h2⟩ := (hx.nx hn).rd he
      obtain ⟨b2, off2, rfl, hb2, h3⟩ := (hL.nx hn).rd hx0
      obtain ⟨x, y⟩ := e
      have hsz := hn.size
      generalize blkAt (L.take k) (es.take k) i = M at *
      have Hst := Lib.hid hst
      have Hown := Lib.hid hown
      clear hst hown he hx0 ho0
      by_cases e1 : (x0 == i) = true
      · go_wp2_with (at_builtin; go_must (refine appE (base := W0.heap.size) (t := 36) M _ x y rfl rfl Try.underlying24 Hi.out Hz0.out Hz1.out Hz2.out rfl rfl (Hown.out.nx (by repeat (first | exact Nx.refl _ | assumption | apply Nx.alloc | apply Nx.drew | apply Nx.drewN | (refine Nx.setCell ?_ (by first | (simp; done) | (simp; omega) | omega) _) | refine Nx.trans ?_ (by assumption)))) rfl (cellN (by simp) rfl) (cellN (by simp) rfl) (by omega) (by simp; omega) ?_; intro A2 c2 w3 hown3 hnx3 hgr3 hbl3))
        go_roundg (gk - 1)
        case measure => omega
        case rel =>
          have e1 : x0 = i := by simpa using e1
          exact ⟨k + 1, A2, c2, by omega, by go_num, by rw [Hst.out, if_pos e1]; simp, by rw [Hst.out, if_pos e1]; exact hown3, hnx3 W0 (Nat.le_refl _) (by repeat (first | exact Nx.refl _ | assumption | apply Nx.alloc | apply Nx.drew | apply Nx.drewN | (refine Nx.setCell ?_ (by first | (simp; done) | (simp; omega) | omega) _) | refine Nx.trans ?_ (by assumption)))⟩
      · have e1 : (x0 == i) = false := by simpa using e1
        go_wp2
        go_roundg (gk - 1)
        case measure => omega
        case rel =>
          have e1 : x0 ≠ i := by simpa using e1
          exact ⟨k + 1, A', c', by omega, by go_num, by rw [Hst.out, if_neg e1, List.append_nil], by rw [Hst.out, if_neg e1, List.append_nil]; exact Hown.out.nx (by repeat (first | exact Nx.refl _ | assumption | apply Nx.alloc | apply Nx.drew | apply Nx.drewN | (refine Nx.setCell ?_ (by first | (simp; done) | (simp; omega) | omega) _) | refine Nx.trans ?_ (by assumption))), (by repeat (first | exact Nx.refl _ | assumption | apply Nx.alloc | apply Nx.drew | apply Nx.drewN | (refine Nx.setCell ?_ (by first | (simp; done) | (simp; omega) | omega) _) | refine Nx.trans ?_ (by assumption)))⟩
    · go_wp2
      go_ret
      have hkm : k = m := by omega
      have e1 : L.take k = L := List.take_of_length_le (by have := Hm.out; omega)
      have e2 : es.take k = es := List.take_of_length_le (by have := Hm2.out; omega)
      rw [e1, e2] at hown ⊢
      exact ⟨A', c', rfl, hown.mono gn0.size, gn0.trans hn⟩
end Go.Proofs.Ytjchabeiaajgiaa
