/- Contracts: of, l1Bend: some text near a text. -/
import Derived.Test.YtekepbcmjfdcjaaDoorD5g
import Derived.Test.YtekepbcmjfdcjaaDoorPG3
namespace Go.Proofs.YtekepbcmjfdcjaaDoor
open Go.RowKit set_option linter.unusedVariables false set_option linter.unusedSimpArgs false
attribute [local go_sem ↓] Go.wp_at_zero Go.wp_at_succ

set_option maxHeartbeats 2000000 in
theorem of_l (br : Nat) (P : Int) (A : Option Addr) (c : Nat) (ps : List (List UInt8)) (w : World) (hr : RdL w br P) (hp : P < 1073741824) (hx : StrsAt w A ps) (hl : 0 < ps.length) (hl' : ps.length < 1000)
    (hb : ∀ b off, A = some ⟨b, off, none⟩ → b ≠ br) :
    Calls Tryd.prog 47 #[.pointer (some ⟨br, 0, none⟩), .slice A ps.length c] w (fun e w' => ∃ s, e = .returned (Str s) ∧ s ∈ ps ∧ RdL w' br (P + 1) ∧ Rx br w w') := by
  obtain ⟨b, off, rfl, hlt, hc⟩ := hx hl
  have hne := hb _ _ rfl
  go_enter Tryd.func47, Tryd.ntmps47
  go_wp2_with (go_at_call 46; go_must (refine (pick_l br P _ _ hr hp (by omega) (by omega)).mono ?_; rintro e w1 ⟨x, rfl, h1, h2, h3, h4⟩; obtain ⟨k, rfl⟩ := Int.eq_ofNat_of_zero_le h1; have hk : k < ps.length := (by omega); have hcell : w1.cell? ⟨b, off + k, none⟩ = some (Str ps[k]) := World.grownBy.cell h4 (hc k _ (List.getElem?_eq_getElem hk)) (by simpa using hne); have H3 := Lib.hid h3; have H4 := Lib.hid h4; clear h3 h4 h2))
  go_ret
  exact ⟨_, rfl, List.getElem_mem _, H3.out, H4.out⟩

/-- what 'l1Bend' hands back -/
def BentL (br : Nat) (P : Int) (m : Nat) (w : World) (e : Ending) (w' : World) : Prop :=
  ∃ t : List UInt8, e = .returned (Str t) ∧ t.length ≤ m + 1 ∧ RdL w' br (P + 4) ∧ Rx br w w'
set_option maxRecDepth 100000 in
set_option maxHeartbeats 4000000 in
theorem l1Bend_c (br : Nat) (P : Int) (s : List UInt8) (A : Option Addr) (c : Nat) (ps : List (List UInt8)) (w : World) (hr : RdL w br P) (hp : P < 1073741000) (hs : s.length ≤ 1000000) (hx : StrsAt w A ps)
    (hl : 0 < ps.length) (hl' : ps.length < 1000) (hq : ∀ p ∈ ps, p.length ≤ 1) (hb : ∀ b off, A = some ⟨b, off, none⟩ → b ≠ br) :
    Calls Tryd.prog 35 #[.pointer (some ⟨br, 0, none⟩), Str s, .slice A ps.length c] w (BentL br P s.length w) := by
  have hfin : ∀ (t : List UInt8) (w' : World) (Q : Int), t.length ≤ s.length + 1 → RdL w' br Q → Q ≤ P + 4 → Rx br w w' → BentL br P s.length w (.returned (Str t)) w' := fun t w' Q h1 h2 h3 h4 => ⟨t, rfl, h1, h2.mono h3, h4⟩
  have Hfin := Lib.hid hfin
  clear hfin
  by_cases h0 : s.length = 0
  · obtain rfl : s = [] := List.length_eq_zero_iff.1 h0
    go_enter Tryd.func35, Tryd.ntmps35
    go_wp2
    go_ret
    exact Hfin.out [] w P (by simp) hr (by omega) (.refl _ _)
  · have hz : ((s.length : Int) == 0) = false := beq_eq_false_iff_ne.2 (by omega)
    have hbr := hr.lt
    go_enter Tryd.func35, Tryd.ntmps35
    go_wp2_with fail
    refine (pick_l br P 2 w hr (by omega) (by omega) (by omega)).mono ?_
    rintro e w1 ⟨x, rfl, hx0, hx1, r1, x1⟩
    by_cases hx2 : x = 0
    · subst hx2
      go_wp2_with fail
      go_ret
      exact Hfin.out s w1 (P + 1) (by omega) r1 (by omega) x1
    · have hxb : (x == 0) = false := by simpa using hx2
      go_wp2_with fail
      refine (pick_l br (P + 1) s.length w1 r1 (by omega) (by omega) (by omega)).mono ?_
      rintro e w2 ⟨k, rfl, hk0, hk1, r2, x2⟩
      obtain ⟨k, rfl⟩ := Int.eq_ofNat_of_zero_le hk0
      have hk : k < s.length := by have := hk1 (by omega); omega
      have hS2 : StrsAt w2 A ps := fun h => by
        obtain ⟨b, off, e, hlt, hc⟩ := hx h
        have hne := hb _ _ e
        have x12 := x1.trans x2
        exact ⟨b, off, e, Nat.lt_of_lt_of_le hlt x12.size, fun j p hj => World.grownBy.cell x12 (hc j p hj) (by simpa using hne)⟩
      have e1 := extr s 0 k
      rw [List.drop_zero, Nat.sub_zero] at e1
      have e2 := fun y => extr s (k + y) s.length
      have x12 := x1.trans x2
      clear hx x1 x2 hk1
      have b1 : (0 : Int) ≤ (k : Int) := by omega
      have b2 : (k : Int) ≤ (s.length : Int) := by omega
      go_wp2_with fail
      go_region_held3 (fun _ => True)
        (exact trivial)
        (first
          | (go_at_call 47; (refine (of_l br (P + 1 + 1) A c ps _ (r2.nx (by (repeat (first | exact Nx.refl _ | assumption | apply Nx.alloc | apply Nx.drew | apply Nx.drewN | (refine Nx.setCell ?_ (by first | (simp; done) | (simp; omega) | omega) _) | refine Nx.trans ?_ (by assumption))); done)) (by omega) (hS2.nx (by (repeat (first | exact Nx.refl _ | assumption | apply Nx.alloc | apply Nx.drew | apply Nx.drewN | (refine Nx.setCell ?_ (by first | (simp; done) | (simp; omega) | omega) _) | refine Nx.trans ?_ (by assumption))); done)) hl hl' hb).mono ?_); rintro e w3 ⟨p, rfl, hp3, r3, x3⟩; have hp4 := hq p hp3; have ad1 := adds (x := s.take k) (y := p) (by simp; omega))
          | (go_at_call 46; (refine (pick_l br (P + 1 + 1 + 1) 2 _ (r3.nx (by (repeat (first | exact Nx.refl _ | assumption | apply Nx.alloc | apply Nx.drew | apply Nx.drewN | (refine Nx.setCell ?_ (by first | (simp; done) | (simp; omega) | omega) _) | refine Nx.trans ?_ (by assumption))); done)) (by omega) (by omega) (by omega)).mono ?_); rintro e w4 ⟨y, rfl, hy0, hy1, r4, x4⟩; obtain ⟨y, rfl⟩ := Int.eq_ofNat_of_zero_le hy0; have hy2 := hy1 (by omega); have b3 : (0 : Int) ≤ (k : Int) + (y : Int) := (by omega); have b4 : (k : Int) + (y : Int) ≤ (s.length : Int) := (by omega); have b5 : IntKind.i64.wrap ((k : Int) + (y : Int)) = (k : Int) + (y : Int) := (IntWalk.i64_in _ (by omega)); have e3 := extr s (k + y) s.length; have b6 : ((k : Int) + (y : Int)).toNat = k + y := (by omega); have ad2 := adds (x := s.take k ++ p) (y := (s.drop (k + y)).take (s.length - (k + y))) (by simp; omega)))
      all_goals go_wp2
      all_goals go_ret
      all_goals exact Hfin.out _ _ (P + 1 + 1 + 1 + 1) (by simp; omega) (r4.nx (by (repeat (first | exact Nx.refl _ | assumption | apply Nx.alloc | apply Nx.drew | apply Nx.drewN | (refine Nx.setCell ?_ (by first | (simp; done) | (simp; omega) | omega) _) | refine Nx.trans ?_ (by assumption))); done)) (by omega) (((x12.trans ((show Nx w2 _ from (by (repeat (first | exact Nx.refl _ | assumption | apply Nx.alloc | apply Nx.drew | apply Nx.drewN | (refine Nx.setCell ?_ (by first | (simp; done) | (simp; omega) | omega) _) | refine Nx.trans ?_ (by assumption))); done)).rx br)).trans x3).trans (((show Nx w3 _ from (by (repeat (first | exact Nx.refl _ | assumption | apply Nx.alloc | apply Nx.drew | apply Nx.drewN | (refine Nx.setCell ?_ (by first | (simp; done) | (simp; omega) | omega) _) | refine Nx.trans ?_ (by assumption))); done)).rx br).trans (x4.trans ((show Nx w4 _ from (by (repeat (first | exact Nx.refl _ | assumption | apply Nx.alloc | apply Nx.drew | apply Nx.drewN | (refine Nx.setCell ?_ (by first | (simp; done) | (simp; omega) | omega) _) | refine Nx.trans ?_ (by assumption))); done)).rx br))))
end Go.Proofs.YtekepbcmjfdcjaaDoor
