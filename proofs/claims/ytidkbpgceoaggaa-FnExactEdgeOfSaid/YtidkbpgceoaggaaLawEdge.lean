/- FnExactEdgeOf, FnEdgeOf: the walks. -/
import Derived.Test.YtidkbpgceoaggaaE
import Derived.Test.YtidkbpgceoaggaaR
namespace Go.Proofs.Ytidkbpgceoaggaa
open Go.RowKit

set_option maxHeartbeats 1000000 in
theorem fnExactEdgeOf_walk (x : Int) (_ : Fits x) (y : Int) (_ : Fits y) (w : World) : Calls Try.prog 4 #[V x, V y] w (RetV (.bool true) w) := by
  have hb : (decide (okE x y) != decide (okE x y)) = false := by simp
  go_enter Try.func4, Try.ntmps4
  go_wp2_with (first | (go_at_call 15; go_must (refine (sEdgeOf_c x y _).mono ?_; rintro e w1 ⟨rfl, hn1⟩; obtain ⟨hc1, hf1, hz1⟩ := hn1.rules)) | (go_at_call 16; go_must (refine (iEdgeOf_c x y _).mono ?_; rintro e w2 ⟨rfl, hn2⟩; obtain ⟨hc2, hf2, hz2⟩ := hn2.rules; have hz2_0 : w1.heap.size < w2.heap.size := by (have h := hn2.size; (try simp at h); omega))) | (go_at_call 17; go_must (refine (eqEdge_c _ _ _ _ _).mono ?_; rintro e w3 ⟨rfl, hn3⟩; obtain ⟨hc3, hf3, hz3⟩ := hn3.rules)))
  go_ret
  exact RetV.bool rfl (by repeat (first | exact Nx.refl _ | assumption | apply Nx.alloc | apply Nx.drew | apply Nx.drewN | (refine Nx.setCell ?_ (by first | (simp; done) | (simp; omega) | omega) _) | refine Nx.trans ?_ (by assumption)))

def DrewTwo (w : World) (e : Ending) (w' : World) : Prop := ∃ x y : Int, e = .returned (.tuple #[V x, V y]) ∧ Nx w w'

theorem intsAt_lit {w : World} (xs : List Int) (cs : Array Value) (h : cs = (xs.map V).toArray) : IntsAt (w.alloc (.cells cs 3)) (some ⟨w.heap.size, 0, none⟩) xs := by
  intro _
  refine ⟨_, _, rfl, by simp, fun k hk => ?_⟩
  subst h
  simp [hk]

set_option maxHeartbeats 1000000 in
theorem drawEdgeOf_c (A : Option Addr) (n c : Nat) (w : World) (hnc : n ≤ c) (hb : BytesAt w w.heap.size A n) :
    Calls Try.prog 18 #[.slice A n c] w (DrewTwo w) := by
  go_enter Try.func18, Try.ntmps18
  go_wp2_with (go_at_call 52; go_must (refine (open_c A n c _ hnc hb).mono ?_; rintro e w1 ⟨m, rfl, hr1, hn1⟩))
  go_wp2_with fail
  have hl1 : w.heap.size < w1.heap.size := by obtain ⟨_, _, h, _⟩ := hr1; exact lt_of_heap h
  refine (num_c w.heap.size m 0 _ 7 [3, 0, 7, 15, 1, 16, -1] _ (hr1.nx (.alloc (.refl _) _)) (by omega) (intsAt_lit _ _ rfl) (by simp) (by simp) (by rintro b off h; injection h with h; injection h with h; omega)).mono ?_
  rintro e w2 ⟨x, rfl, _, hr2, hx2⟩
  go_wp2_with fail
  have hl2 : w.heap.size < w2.heap.size := by obtain ⟨_, _, h, _⟩ := hr2; exact lt_of_heap h
  refine (num_c w.heap.size m _ _ 7 [5, 1, 0, 15, 3, 16, -1] _ (hr2.nx (.alloc (.refl _) _)) (by omega) (intsAt_lit _ _ rfl) (by simp) (by simp) (by rintro b off h; injection h with h; injection h with h; omega)).mono ?_
  rintro e w3 ⟨y, rfl, _, hr3, hx3⟩
  go_wp2
  go_ret2
  refine ⟨x, y, rfl, ?_⟩
  exact ((Rx.trans (.alloc hx2 _) hx3).nx (.alloc hn1 _) (Nat.le_refl _))

theorem iEdgeOf_c' (x y : Int) (w : World) : Calls Try.prog 16 #[V y, V x] w (RetV (eofV x y) w) := by
  have h := iEdgeOf_c y x w
  have e : eofV y x = eofV x y := by
    by_cases hk : okE x y
    · have hk' : okE y x := by unfold okE at *; omega
      rw [eof_yes hk, eof_yes hk', Int.min_comm, Int.max_comm]
    · have hk' : ¬ okE y x := by unfold okE at *; omega
      rw [eof_no hk, eof_no hk']
  rwa [e] at h

set_option maxHeartbeats 2000000 in
theorem fnEdgeOf_walk (A : Option Addr) (n c : Nat) (w : World) (hnc : n ≤ c) (hb : BytesAt w w.heap.size A n) :
    Calls Try.prog 5 #[.slice A n c] w (RetV (.bool true) w) := by
  by_cases hs : 1048576 < n
  · go_enter Try.func5, Try.ntmps5
    go_wp2
    go_ret
    exact RetV.bool rfl (by repeat (first | exact Nx.refl _ | assumption | apply Nx.alloc | apply Nx.drew | apply Nx.drewN | (refine Nx.setCell ?_ (by first | (simp; done) | (simp; omega) | omega) _) | refine Nx.trans ?_ (by assumption)))
  · go_enter Try.func5, Try.ntmps5
    go_wp2_with (first | (go_at_call 18; go_must (refine (drawEdgeOf_c A n c _ hnc hb).mono ?_; rintro e w1 ⟨x, y, rfl, hn1⟩)) | fail)
    go_wp2_with fail
    refine (iEdgeOf_c x y _).mono ?_
    rintro e w2 ⟨rfl, hn2⟩
    go_wp2_with fail
    refine (sEdgeOf_c x y _).mono ?_
    rintro e w3 ⟨rfl, hn3⟩
    obtain ⟨hc3, hf3, hz3⟩ := hn3.rules
    have hz3a : w2.heap.size < w3.heap.size := by have := hn3.size; simp at this; omega
    go_wp2_with fail
    refine (iEdgeOf_c' x y _).mono ?_
    rintro e w4 ⟨rfl, hn4⟩
    obtain ⟨hc4, hf4, hz4⟩ := hn4.rules
    have hz4a : w3.heap.size < w4.heap.size := by have := hn4.size; simp at this; omega
    have hz4b : w2.heap.size < w4.heap.size := by omega
    by_cases hk : okE x y
    · have e1 : decide (okE x y) = true := by simpa using hk
      have e2 : eofA x y = min x y := by simp [eofA, hk]
      have e3 : eofB x y = max x y := by simp [eofB, hk]
      obtain ⟨_, _, _, _, hne⟩ := hk
      rcases Int.lt_or_gt_of_ne hne with h9 | h9
      · have e4 : eofA x y = x := by omega
        have e5 : eofB x y = y := by omega
        clear e2 e3
        go_wp2
        go_ret
        exact RetV.bool rfl (by repeat (first | exact Nx.refl _ | assumption | apply Nx.alloc | apply Nx.drew | apply Nx.drewN | (refine Nx.setCell ?_ (by first | (simp; done) | (simp; omega) | omega) _) | refine Nx.trans ?_ (by assumption)))
      · have e4 : eofA x y = y := by omega
        have e5 : eofB x y = x := by omega
        clear e2 e3
        go_wp2
        go_ret
        exact RetV.bool rfl (by repeat (first | exact Nx.refl _ | assumption | apply Nx.alloc | apply Nx.drew | apply Nx.drewN | (refine Nx.setCell ?_ (by first | (simp; done) | (simp; omega) | omega) _) | refine Nx.trans ?_ (by assumption)))
    · have e1 : decide (okE x y) = false := by simpa using hk
      go_wp2
      go_ret
      exact RetV.bool rfl (by repeat (first | exact Nx.refl _ | assumption | apply Nx.alloc | apply Nx.drew | apply Nx.drewN | (refine Nx.setCell ?_ (by first | (simp; done) | (simp; omega) | omega) _) | refine Nx.trans ?_ (by assumption)))
end Go.Proofs.Ytidkbpgceoaggaa
