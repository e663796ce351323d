/- The random source once more: readers whose code lies below them, with an upper bound on the place. -/
import Derived.Test.YtekepbcmjfdcjaaDoorR
import Derived.Test.YtekepbcmjfdcjaaDoorM2
namespace Go.Proofs.YtekepbcmjfdcjaaDoor
open Go.RowKit

theorem Rx.past {br : Nat} {a b c : World} {r : Option Nat} (h : Rx br a b) (k : b.grownBy c r) (hr : ∀ j, r = some j → a.heap.size ≤ j) : Rx br a c :=
  ⟨k.os.trans h.os, k.tape.trans h.tape, k.output.trans h.output, Nat.le_trans h.size k.size, fun i hi hne => (k.block i (Nat.lt_of_lt_of_le hi h.size) (fun e => by have := hr i e.symm; omega)).trans (h.block i hi hne)⟩
/-- a reader in block br whose bytes lie in an elder block -/
def RdK (w : World) (br n : Nat) (p : Int) : Prop :=
  ∃ A c, w.heap[br]? = some (.cells #[.slice A n c, .int .i64 p] 68 (0, 0)) ∧ n ≤ 2000 ∧ 0 ≤ p ∧ BytesAt w br A n ∧ (0 < n → ∀ a : Addr, A = some a → a.block < br)
theorem RdK.at {w : World} {br n : Nat} {p : Int} (h : RdK w br n p) : RdAt w br n p := by
  obtain ⟨A, c, h1, h2, h3, h4, _⟩ := h
  exact ⟨A, c, h1, h2, h3, h4⟩
theorem RdK.step {w : World} {br n : Nat} {p : Int} (h : RdK w br n p) : RdK (w.setCell ⟨br, 1, none⟩ (.int .i64 (p + 1))) br n (p + 1) := by
  obtain ⟨A, c, hh, hn, hp, hb, hlo⟩ := h
  refine ⟨A, c, ?_, hn, by omega, ?_, hlo⟩
  · simp [World.setCell, Array.getElem?_modify, hh]
  · intro h0
    obtain ⟨b, off, e, hne, hlt, hc⟩ := hb h0
    refine ⟨b, off, e, hne, by simpa [World.setCell] using hlt, fun j hj => ?_⟩
    obtain ⟨u, h1, h2, h3⟩ := hc j hj
    refine ⟨u, h1, h2, ?_⟩
    rw [World.cell?_setCell_other _ _ _ _ (by intro e; injection e with e1; exact hne e1.symm)]
    exact h3
theorem RdK.kept {w w' : World} {br n : Nat} {p : Int} {row : Option Nat} (h : RdK w br n p) (g : w.grownBy w' row) (hr : ∀ k, row = some k → br < k) : RdK w' br n p := by
  obtain ⟨A, c, hh, h1, h2, hb, hlo⟩ := h
  refine ⟨A, c, (g.block br (lt_of_heap hh) (fun e => by have := hr br e.symm; omega)).trans hh, h1, h2, fun h0 => ?_, hlo⟩
  obtain ⟨b, off, e, hne, hlt, hc⟩ := hb h0
  have hbb := hlo h0 _ e
  refine ⟨b, off, e, hne, Nat.lt_of_lt_of_le hlt g.size, fun j hj => ?_⟩
  obtain ⟨u, h1, h2, h3⟩ := hc j hj
  exact ⟨u, h1, h2, World.grownBy.cell g h3 (fun e => by have := hr _ e.symm; simp at hbb this; omega)⟩
def PickedK (br n : Nat) (p m : Int) (w : World) (e : Ending) (w' : World) : Prop :=
  ∃ x : Int, e = .returned (.int .i64 x) ∧ 0 ≤ x ∧ (1 ≤ m → x < m) ∧ RdK w' br n (p + 1) ∧ Rx br w w'

set_option maxHeartbeats 2000000 in
set_option maxRecDepth 100000 in
theorem pick_k (br n : Nat) (p m : Int) (w : World) (hr : RdK w br n p) (hp : p < 1073741824) (hm : m < 1099511627776) (hm0 : -1099511627776 < m) :
    Calls Tryd.prog 46 #[.pointer (some ⟨br, 0, none⟩), V m] w (PickedK br n p m w) := by
  have hs := hr.step
  have hx := RdAt.rx (w := w) (br := br) (.int .i64 (p + 1)) 1
  have hfin : ∀ x : Int, 0 ≤ x → (1 ≤ m → x < m) → PickedK br n p m w (.returned (.int .i64 x)) (w.setCell ⟨br, 1, none⟩ (.int .i64 (p + 1))) := fun x h1 h2 => ⟨x, rfl, h1, h2, hs, hx⟩
  have hfin2 : ∀ (x : Int) (q : Nat), 0 ≤ x → (1 ≤ m → x < m) → PickedK br n p m w (.returned (.int .i64 x)) ((w.setCell ⟨br, 1, none⟩ (.int .i64 (p + 1))).drewN q) := fun x q h1 h2 => ⟨x, rfl, h1, h2, hs, ⟨hx.os, hx.tape, hx.output, hx.size, hx.block⟩⟩
  obtain ⟨A, c, hh, hn, hp0, hb, _⟩ := hr
  have hc0 := cell_of_heap hh 0
  have hc1 := cell_of_heap hh 1
  have hf1 := unfrozen_of_heap hh 1
  simp at hc0 hc1
  have Hb := Lib.hid hb
  have Hfin := Lib.hid hfin
  have Hfin2 := Lib.hid hfin2
  clear hs hx hfin hfin2 hb hh
  by_cases hm1 : m < 1
  · go_enter Tryd.func46, Tryd.ntmps46
    go_wp2
    go_ret
    exact Hfin.out 0 (by omega) (by omega)
  · by_cases hn0 : n = 0
    · subst hn0
      go_enter Tryd.func46, Tryd.ntmps46
      go_wp2
      go_ret
      exact Hfin.out 0 (by omega) (by omega)
    · have hn1 : ((n : Int) == 0) = false := by simp; omega
      obtain ⟨k, rfl⟩ := Int.eq_ofNat_of_zero_le hp0
      obtain ⟨b, off, rfl, hne, hlt, hc⟩ := Hb.out (by omega)
      by_cases hk : k < n
      · obtain ⟨u, h1, h2, h3⟩ := hc k hk
        clear hc
        go_enter Tryd.func46, Tryd.ntmps46
        go_wp2
        go_ret
        exact Hfin.out _ (Int.emod_nonneg _ (by omega)) (fun _ => Int.emod_lt_of_pos _ (by omega))
      · obtain ⟨u, h1, h2, h3⟩ := hc (k % n) (Nat.mod_lt _ (by omega))
        obtain ⟨u', h1', h2', h3'⟩ := hc ((k * 7 + 3) % n) (Nat.mod_lt _ (by omega))
        clear hc
        go_enter Tryd.func46, Tryd.ntmps46
        go_wp2
        have g0 : (w.setCell ⟨br, 1, none⟩ (.int .i64 ((k : Int) + 1))).cell? ⟨br, 0, none⟩ = some (.slice (some ⟨b, off, none⟩) n c) := by go_simp
        have g1 : (w.setCell ⟨br, 1, none⟩ (.int .i64 ((k : Int) + 1))).cell? ⟨b, off + k % n, none⟩ = some (.int .u8 u) := by go_simp
        have g2 : (w.setCell ⟨br, 1, none⟩ (.int .i64 ((k : Int) + 1))).cell? ⟨b, off + (k * 7 + 3) % n, none⟩ = some (.int .u8 u') := by go_simp
        clear h3 h3' hc0 hc1 hf1
        have hmn : ((k % n : Nat) : Int) = (k : Int) % (n : Int) := by simp
        have hmn' : (((k * 7 + 3) % n : Nat) : Int) = ((k : Int) * 7 + 3) % (n : Int) := by simp
        have ht1 := Nat.mod_lt k (by omega : 0 < n)
        have ht2 := Nat.mod_lt (k * 7 + 3) (by omega : 0 < n)
        have i1 : IntKind.i64.wrap ((k : Int).tmod (n : Int)) = (k : Int) % (n : Int) := by
          rw [Int.tmod_eq_emod_of_nonneg (by omega)]; exact IntWalk.i64_in _ (by omega)
        have i2 : IntKind.i64.wrap ((k : Int) * 7) = (k : Int) * 7 := IntWalk.i64_in _ (by omega)
        have i3 : IntKind.i64.wrap ((k : Int) * 7 + 3) = (k : Int) * 7 + 3 := IntWalk.i64_in _ (by omega)
        have i4 : IntKind.i64.wrap (((k : Int) * 7 + 3).tmod (n : Int)) = ((k : Int) * 7 + 3) % (n : Int) := by
          rw [Int.tmod_eq_emod_of_nonneg (by omega)]; exact IntWalk.i64_in _ (by omega)
        have j1 : ((k : Int) % (n : Int)).toNat = k % n := by omega
        have j2 : (((k : Int) * 7 + 3) % (n : Int)).toNat = (k * 7 + 3) % n := by omega
        have j3 : 0 ≤ (k : Int) % (n : Int) := by omega
        have j4 : (k : Int) % (n : Int) < (n : Int) := by omega
        have j5 : 0 ≤ ((k : Int) * 7 + 3) % (n : Int) := by omega
        have j6 : ((k : Int) * 7 + 3) % (n : Int) < (n : Int) := by omega
        clear hmn hmn' ht1 ht2
        generalize w.setCell ⟨br, 1, none⟩ (.int .i64 ((k : Int) + 1)) = W at *
        go_quiet (fail)
        go_wp2
        go_ret
        have hq : (k : Int) / (n : Int) ≤ k := Int.ediv_le_self _ (by omega)
        have hq0 : 0 ≤ (k : Int) / (n : Int) := Int.ediv_nonneg (by omega) (by omega)
        have hv := pick_val u u' k ((k : Int) / (n : Int)) m h1 h2 h1' h2' (by omega) (by omega) hq0 hq (by omega)
        exact Hfin2.out _ nq hv.1 (fun _ => hv.2)


def NummedK (br n : Nat) (p : Int) (xs : List Int) (w : World) (e : Ending) (w' : World) : Prop :=
  ∃ x : Int, e = .returned (.int .i64 x) ∧ x ∈ xs ∧ RdK w' br n (p + 1) ∧ Rx br w w'

set_option maxHeartbeats 2000000 in
theorem num_k (br n : Nat) (p : Int) (A : Option Addr) (c : Nat) (xs : List Int) (w : World) (hr : RdK w br n p) (hp : p < 1073741824) (hx : IntsAt w A xs) (hl : 0 < xs.length) (hl' : xs.length < 1000)
    (hb : ∀ b off, A = some ⟨b, off, none⟩ → b ≠ br) :
    Calls Tryd.prog 48 #[.pointer (some ⟨br, 0, none⟩), .slice A xs.length c] w (NummedK br n p xs w) := by
  obtain ⟨b, off, rfl, hlt, hc⟩ := hx hl
  have hne := hb _ _ rfl
  go_enter Tryd.func48, Tryd.ntmps48
  go_wp2_with (go_at_call 46; go_must (refine (pick_k br n p _ _ hr hp (by omega) (by omega)).mono ?_; rintro e w1 ⟨x, rfl, h1, h2, h3, h4⟩; obtain ⟨k, rfl⟩ := Int.eq_ofNat_of_zero_le h1; have hk : k < xs.length := (by omega); have hcell : w1.cell? ⟨b, off + k, none⟩ = some (V xs[k]) := World.grownBy.cell h4 (hc k hk) (by simpa using hne); have H3 := Lib.hid h3; have H4 := Lib.hid h4; clear h3 h4 h2))
  go_ret
  exact ⟨_, rfl, List.getElem_mem _, H3.out, H4.out⟩


/-- a reader in block br, at a place that is P at most -/
def RdL (w : World) (br : Nat) (P : Int) : Prop := ∃ n p, RdK w br n p ∧ p ≤ P
theorem RdL.lt {w : World} {br : Nat} {P : Int} (h : RdL w br P) : br < w.heap.size := by
  obtain ⟨n, p, ⟨A, c, hh, _⟩, _⟩ := h
  exact lt_of_heap hh
theorem RdL.mono {w : World} {br : Nat} {P P' : Int} (h : RdL w br P) (hP : P ≤ P') : RdL w br P' := by
  obtain ⟨n, p, h1, h2⟩ := h
  exact ⟨n, p, h1, Int.le_trans h2 hP⟩
theorem RdL.kept {w w' : World} {br : Nat} {P : Int} {row : Option Nat} (h : RdL w br P) (g : w.grownBy w' row) (hr : ∀ k, row = some k → br < k) : RdL w' br P := by
  obtain ⟨n, p, h1, h2⟩ := h
  exact ⟨n, p, h1.kept g hr, h2⟩
theorem RdL.nx {w w' : World} {br : Nat} {P : Int} (h : RdL w br P) (g : Nx w w') : RdL w' br P := h.kept g.grownNone (fun k e => by cases e)
def PickedL (br : Nat) (P m : Int) (w : World) (e : Ending) (w' : World) : Prop :=
  ∃ x : Int, e = .returned (.int .i64 x) ∧ 0 ≤ x ∧ (1 ≤ m → x < m) ∧ RdL w' br (P + 1) ∧ Rx br w w'
theorem pick_l (br : Nat) (P m : Int) (w : World) (hr : RdL w br P) (hp : P < 1073741824) (hm : m < 1099511627776) (hm0 : -1099511627776 < m) :
    Calls Tryd.prog 46 #[.pointer (some ⟨br, 0, none⟩), V m] w (PickedL br P m w) := by
  obtain ⟨n, p, h1, h2⟩ := hr
  refine (pick_k br n p m w h1 (by omega) hm hm0).mono ?_
  rintro e w' ⟨x, rfl, g1, g2, g3, g4⟩
  exact ⟨x, rfl, g1, g2, ⟨n, p + 1, g3, by omega⟩, g4⟩
def NummedL (br : Nat) (P : Int) (xs : List Int) (w : World) (e : Ending) (w' : World) : Prop :=
  ∃ x : Int, e = .returned (.int .i64 x) ∧ x ∈ xs ∧ RdL w' br (P + 1) ∧ Rx br w w'
theorem num_l (br : Nat) (P : Int) (A : Option Addr) (c : Nat) (xs : List Int) (w : World) (hr : RdL w br P) (hp : P < 1073741824) (hx : IntsAt w A xs) (hl : 0 < xs.length) (hl' : xs.length < 1000)
    (hb : ∀ b off, A = some ⟨b, off, none⟩ → b ≠ br) :
    Calls Tryd.prog 48 #[.pointer (some ⟨br, 0, none⟩), .slice A xs.length c] w (NummedL br P xs w) := by
  obtain ⟨n, p, h1, h2⟩ := hr
  refine (num_k br n p A c xs w h1 (by omega) hx hl hl' hb).mono ?_
  rintro e w' ⟨x, rfl, g1, g2, g3⟩
  exact ⟨x, rfl, g1, ⟨n, p + 1, g2, by omega⟩, g3⟩
def OpenedL (w : World) (e : Ending) (w' : World) : Prop := e = .returned (.pointer (some ⟨w.heap.size, 0, none⟩)) ∧ RdL w' w.heap.size 0 ∧ Nx w w'
theorem open_l (A : Option Addr) (n c : Nat) (w : World) (hnc : n ≤ c) (hb : BytesAt w w.heap.size A n) :
    Calls Tryd.prog 34 #[.slice A n c] w (OpenedL w) := by
  have Hb := Lib.hid hb
  clear hb
  by_cases h : n ≤ 2000
  · go_enter Tryd.func34, Tryd.ntmps34
    go_wp2
    go_ret
    refine ⟨rfl, ⟨n, 0, ⟨A, c, heap_alloc_new w _, h, by omega, fun h0 => ?_, fun h0 a ha => ?_⟩, Int.le_refl _⟩, (by repeat (first | exact Nx.refl _ | assumption | apply Nx.alloc | apply Nx.drew | apply Nx.drewN | (refine Nx.setCell ?_ (by first | (simp; done) | (simp; omega) | omega) _) | refine Nx.trans ?_ (by assumption)))⟩
    · obtain ⟨b, off, e, hne, hlt, hc⟩ := Hb.out h0
      refine ⟨b, off, e, hne, by simp; omega, fun j hj => ?_⟩
      obtain ⟨u, h1, h2, h3⟩ := hc j hj
      exact ⟨u, h1, h2, (Nx.alloc (.refl _) _).cell hlt h3⟩
    · obtain ⟨b, off, e, hne, hlt, hc⟩ := Hb.out h0
      rw [e] at ha; injection ha with ha; subst ha; exact hlt
  · go_enter Tryd.func34, Tryd.ntmps34
    go_wp2
    go_ret
    refine ⟨rfl, ⟨2000, 0, ⟨A, c, heap_alloc_new w _, by omega, by omega, fun h0 => ?_, fun h0 a ha => ?_⟩, Int.le_refl _⟩, (by repeat (first | exact Nx.refl _ | assumption | apply Nx.alloc | apply Nx.drew | apply Nx.drewN | (refine Nx.setCell ?_ (by first | (simp; done) | (simp; omega) | omega) _) | refine Nx.trans ?_ (by assumption)))⟩
    · obtain ⟨b, off, e, hne, hlt, hc⟩ := Hb.out (by omega)
      refine ⟨b, off, e, hne, by simp; omega, fun j hj => ?_⟩
      obtain ⟨u, h1, h2, h3⟩ := hc j (by omega)
      exact ⟨u, h1, h2, (Nx.alloc (.refl _) _).cell hlt h3⟩
    · obtain ⟨b, off, e, hne, hlt, hc⟩ := Hb.out (by omega)
      rw [e] at ha; injection ha with ha; subst ha; exact hlt
end Go.Proofs.YtekepbcmjfdcjaaDoor
