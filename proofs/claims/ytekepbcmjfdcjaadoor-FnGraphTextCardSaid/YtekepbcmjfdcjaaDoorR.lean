/- Contracts of the random source: l14Open, pick, num. -/
import Derived.Test.YtekepbcmjfdcjaaDoorProg
import Derived.Test.YtekepbcmjfdcjaaDoorK
namespace Go.Proofs.YtekepbcmjfdcjaaDoor
open Go.RowKit

/-- a reader lies whole in block br: n bytes, the place p -/
def RdAt (w : World) (br n : Nat) (p : Int) : Prop :=
  ∃ A c, w.heap[br]? = some (.cells #[.slice A n c, .int .i64 p] 68 (0, 0)) ∧ n ≤ 2000 ∧ 0 ≤ p ∧ BytesAt w br A n

theorem cell_of_heap {w : World} {b : Nat} {cs : Array Value} {t : TypeId} {f : Nat × Nat} (h : w.heap[b]? = some (.cells cs t f)) (i : Nat) : w.cell? ⟨b, i, none⟩ = cs[i]? := by
  simp [World.cell?, h]
theorem unfrozen_of_heap {w : World} {b : Nat} {cs : Array Value} {t : TypeId} (h : w.heap[b]? = some (.cells cs t (0, 0))) (i : Nat) : w.frozen? ⟨b, i, none⟩ = false := by
  simp [World.frozen?, h]
theorem lt_of_heap {w : World} {b : Nat} {o : Obj} (h : w.heap[b]? = some o) : b < w.heap.size := by
  rcases Nat.lt_or_ge b w.heap.size with hlt | hge
  · exact hlt
  · rw [Array.getElem?_eq_none hge] at h; cases h

/-- the world behind a step of the reader in block br -/
def Rx (br : Nat) (a w : World) : Prop := a.grownBy w (some br)

theorem RdAt.step {w : World} {br n : Nat} {p : Int} (h : RdAt w br n p) : RdAt (w.setCell ⟨br, 1, none⟩ (.int .i64 (p + 1))) br n (p + 1) := by
  obtain ⟨A, c, hh, hn, hp, hb⟩ := h
  refine ⟨A, c, ?_, hn, by omega, ?_⟩
  · simp [World.setCell, Array.getElem?_modify, hh]
  · intro h0
    obtain ⟨b, off, e, hne, hlt, hc⟩ := hb h0
    refine ⟨b, off, e, hne, by simpa [World.setCell] using hlt, fun j hj => ?_⟩
    obtain ⟨u, h1, h2, h3⟩ := hc j hj
    refine ⟨u, h1, h2, ?_⟩
    rw [World.cell?_setCell_other _ _ _ _ (by intro e; injection e with e1; exact hne e1.symm)]
    exact h3
theorem RdAt.rx {w : World} {br : Nat} (v : Value) (i : Nat) : Rx br w (w.setCell ⟨br, i, none⟩ v) :=
  ⟨rfl, rfl, rfl, by simp [World.setCell], fun k _ hne => Below.heap_setCell w _ v k (by rintro rfl; exact hne rfl)⟩

/-- what 'pick' hands back -/
def Picked (br n : Nat) (p m : Int) (w : World) (e : Ending) (w' : World) : Prop :=
  ∃ x : Int, e = .returned (.int .i64 x) ∧ 0 ≤ x ∧ (1 ≤ m → x < m) ∧ RdAt w' br n (p + 1) ∧ Rx br w w'

theorem xor_bd (a b : Int) (ha : 0 ≤ a) (ha' : a < 4611686018427387904) (hb : 0 ≤ b) (hb' : b < 4611686018427387904) : 0 ≤ bits .xor .i64 a b := by
  obtain ⟨x, rfl⟩ := Int.eq_ofNat_of_zero_le ha
  obtain ⟨y, rfl⟩ := Int.eq_ofNat_of_zero_le hb
  have e : ∀ z : Nat, z < 9223372036854775808 → (BitVec.ofInt 64 (z : Int)).toNat = z := fun z hz => by
    rw [BitVec.ofInt_natCast, BitVec.toNat_ofNat]; exact Nat.mod_eq_of_lt (by omega)
  have hx : x ^^^ y < 2 ^ 62 := Nat.xor_lt_two_pow (by omega) (by omega)
  show 0 ≤ IntKind.i64.wrap ((BitVec.ofInt 64 (x : Int) ^^^ BitVec.ofInt 64 (y : Int)).toNat : Int)
  rw [BitVec.toNat_xor, e x (by omega), e y (by omega), IntKind.wrap_i64]
  omega
theorem tmod_bd (a m : Int) (ha : 0 ≤ a) (hm : 1 ≤ m) : 0 ≤ a.tmod m ∧ a.tmod m < m := by
  rw [Int.tmod_eq_emod_of_nonneg ha]
  exact ⟨Int.emod_nonneg _ (by omega), Int.emod_lt_of_pos _ (by omega)⟩

theorem pick_val (u u' k q m : Int) (h1 : 0 ≤ u) (h2 : u < 256) (h3 : 0 ≤ u') (h4 : u' < 256) (h5 : 0 ≤ k) (h6 : k < 1073741824) (h7 : 0 ≤ q) (h8 : q ≤ k) (hm : 1 ≤ m) :
    0 ≤ (bits BinOp.xor IntKind.i64 (wrap64 (u * 131 + u' * 1117 + k * 29 + wrap64 (wrap64 q * 53))) (wrap64 ((wrap64 (u * 131 + u' * 1117 + k * 29 + wrap64 (wrap64 q * 53))).tdiv 64))).tmod m ∧
    (bits BinOp.xor IntKind.i64 (wrap64 (u * 131 + u' * 1117 + k * 29 + wrap64 (wrap64 q * 53))) (wrap64 ((wrap64 (u * 131 + u' * 1117 + k * 29 + wrap64 (wrap64 q * 53))).tdiv 64))).tmod m < m := by
  rw [IntWalk.wrap64_in q ⟨by omega, by omega⟩, IntWalk.wrap64_in (q * 53) ⟨by omega, by omega⟩, IntWalk.wrap64_in (u * 131 + u' * 1117 + k * 29 + q * 53) ⟨by omega, by omega⟩,
    Int.tdiv_eq_ediv_of_nonneg (by omega), IntWalk.wrap64_in ((u * 131 + u' * 1117 + k * 29 + q * 53) / 64) ⟨by omega, by omega⟩]
  exact tmod_bd _ _ (xor_bd _ _ (by omega) (by omega) (by omega) (by omega)) hm

set_option maxHeartbeats 2000000 in
set_option maxRecDepth 100000 in
theorem pick_c (br n : Nat) (p m : Int) (w : World) (hr : RdAt w br n p) (hp : p < 1073741824) (hm : m < 1099511627776) (hm0 : -1099511627776 < m) :
    Calls Tryd.prog 46 #[.pointer (some ⟨br, 0, none⟩), V m] w (Picked br n p m w) := by
  have hs := hr.step
  have hx := RdAt.rx (w := w) (br := br) (.int .i64 (p + 1)) 1
  have hfin : ∀ x : Int, 0 ≤ x → (1 ≤ m → x < m) → Picked br n p m w (.returned (.int .i64 x)) (w.setCell ⟨br, 1, none⟩ (.int .i64 (p + 1))) := fun x h1 h2 => ⟨x, rfl, h1, h2, hs, hx⟩
  have hfin2 : ∀ (x : Int) (q : Nat), 0 ≤ x → (1 ≤ m → x < m) → Picked br n p m w (.returned (.int .i64 x)) ((w.setCell ⟨br, 1, none⟩ (.int .i64 (p + 1))).drewN q) := fun x q h1 h2 => ⟨x, rfl, h1, h2, hs, ⟨hx.os, hx.tape, hx.output, hx.size, hx.block⟩⟩
  obtain ⟨A, c, hh, hn, hp0, hb⟩ := hr
  have hc0 := cell_of_heap hh 0
  have hc1 := cell_of_heap hh 1
  have hf1 := unfrozen_of_heap hh 1
  simp at hc0 hc1
  have Hb := Lib.hid hb
  have Hfin := Lib.hid hfin
  have Hfin2 := Lib.hid hfin2
  clear hs hx hfin hfin2 hb hh
  by_cases hm1 : m < 1
  · go_enter Tryd.func46, Tryd.ntmps46
    go_wp2
    go_ret
    exact Hfin.out 0 (by omega) (by omega)
  · by_cases hn0 : n = 0
    · subst hn0
      go_enter Tryd.func46, Tryd.ntmps46
      go_wp2
      go_ret
      exact Hfin.out 0 (by omega) (by omega)
    · have hn1 : ((n : Int) == 0) = false := by simp; omega
      obtain ⟨k, rfl⟩ := Int.eq_ofNat_of_zero_le hp0
      obtain ⟨b, off, rfl, hne, hlt, hc⟩ := Hb.out (by omega)
      by_cases hk : k < n
      · obtain ⟨u, h1, h2, h3⟩ := hc k hk
        clear hc
        go_enter Tryd.func46, Tryd.ntmps46
        go_wp2
        go_ret
        exact Hfin.out _ (Int.emod_nonneg _ (by omega)) (fun _ => Int.emod_lt_of_pos _ (by omega))
      · obtain ⟨u, h1, h2, h3⟩ := hc (k % n) (Nat.mod_lt _ (by omega))
        obtain ⟨u', h1', h2', h3'⟩ := hc ((k * 7 + 3) % n) (Nat.mod_lt _ (by omega))
        clear hc
        go_enter Tryd.func46, Tryd.ntmps46
        go_wp2
        have g0 : (w.setCell ⟨br, 1, none⟩ (.int .i64 ((k : Int) + 1))).cell? ⟨br, 0, none⟩ = some (.slice (some ⟨b, off, none⟩) n c) := by go_simp
        have g1 : (w.setCell ⟨br, 1, none⟩ (.int .i64 ((k : Int) + 1))).cell? ⟨b, off + k % n, none⟩ = some (.int .u8 u) := by go_simp
        have g2 : (w.setCell ⟨br, 1, none⟩ (.int .i64 ((k : Int) + 1))).cell? ⟨b, off + (k * 7 + 3) % n, none⟩ = some (.int .u8 u') := by go_simp
        clear h3 h3' hc0 hc1 hf1
        have hmn : ((k % n : Nat) : Int) = (k : Int) % (n : Int) := by simp
        have hmn' : (((k * 7 + 3) % n : Nat) : Int) = ((k : Int) * 7 + 3) % (n : Int) := by simp
        have ht1 := Nat.mod_lt k (by omega : 0 < n)
        have ht2 := Nat.mod_lt (k * 7 + 3) (by omega : 0 < n)
        have i1 : IntKind.i64.wrap ((k : Int).tmod (n : Int)) = (k : Int) % (n : Int) := by
          rw [Int.tmod_eq_emod_of_nonneg (by omega)]; exact IntWalk.i64_in _ (by omega)
        have i2 : IntKind.i64.wrap ((k : Int) * 7) = (k : Int) * 7 := IntWalk.i64_in _ (by omega)
        have i3 : IntKind.i64.wrap ((k : Int) * 7 + 3) = (k : Int) * 7 + 3 := IntWalk.i64_in _ (by omega)
        have i4 : IntKind.i64.wrap (((k : Int) * 7 + 3).tmod (n : Int)) = ((k : Int) * 7 + 3) % (n : Int) := by
          rw [Int.tmod_eq_emod_of_nonneg (by omega)]; exact IntWalk.i64_in _ (by omega)
        have j1 : ((k : Int) % (n : Int)).toNat = k % n := by omega
        have j2 : (((k : Int) * 7 + 3) % (n : Int)).toNat = (k * 7 + 3) % n := by omega
        have j3 : 0 ≤ (k : Int) % (n : Int) := by omega
        have j4 : (k : Int) % (n : Int) < (n : Int) := by omega
        have j5 : 0 ≤ ((k : Int) * 7 + 3) % (n : Int) := by omega
        have j6 : ((k : Int) * 7 + 3) % (n : Int) < (n : Int) := by omega
        clear hmn hmn' ht1 ht2
        generalize w.setCell ⟨br, 1, none⟩ (.int .i64 ((k : Int) + 1)) = W at *
        go_quiet (fail)
        go_wp2
        go_ret
        have hq : (k : Int) / (n : Int) ≤ k := Int.ediv_le_self _ (by omega)
        have hq0 : 0 ≤ (k : Int) / (n : Int) := Int.ediv_nonneg (by omega) (by omega)
        have hv := pick_val u u' k ((k : Int) / (n : Int)) m h1 h2 h1' h2' (by omega) (by omega) hq0 hq (by omega)
        exact Hfin2.out _ nq hv.1 (fun _ => hv.2)

/-- what 'num' hands back: an element of the list -/
def Nummed (br n : Nat) (p : Int) (xs : List Int) (w : World) (e : Ending) (w' : World) : Prop :=
  ∃ x : Int, e = .returned (.int .i64 x) ∧ x ∈ xs ∧ RdAt w' br n (p + 1) ∧ Rx br w w'

set_option maxHeartbeats 2000000 in
theorem num_c (br n : Nat) (p : Int) (A : Option Addr) (c : Nat) (xs : List Int) (w : World) (hr : RdAt w br n p) (hp : p < 1073741824) (hx : IntsAt w A xs) (hl : 0 < xs.length) (hl' : xs.length < 1000)
    (hb : ∀ b off, A = some ⟨b, off, none⟩ → b ≠ br) :
    Calls Tryd.prog 48 #[.pointer (some ⟨br, 0, none⟩), .slice A xs.length c] w (Nummed br n p xs w) := by
  obtain ⟨b, off, rfl, hlt, hc⟩ := hx hl
  have hne := hb _ _ rfl
  go_enter Tryd.func48, Tryd.ntmps48
  go_wp2_with (go_at_call 46; go_must (refine (pick_c br n p _ _ hr hp (by omega) (by omega)).mono ?_; rintro e w1 ⟨x, rfl, h1, h2, h3, h4⟩; obtain ⟨k, rfl⟩ := Int.eq_ofNat_of_zero_le h1; have hk : k < xs.length := (by omega); have hcell : w1.cell? ⟨b, off + k, none⟩ = some (V xs[k]) := World.grownBy.cell h4 (hc k hk) (by simpa using hne); have H3 := Lib.hid h3; have H4 := Lib.hid h4; clear h3 h4 h2))
  go_ret
  exact ⟨_, rfl, List.getElem_mem _, H3.out, H4.out⟩

theorem Rx.refl (br : Nat) (w : World) : Rx br w w := World.grownBy.refl w _
theorem Rx.trans {br : Nat} {a b c : World} (h : Rx br a b) (k : Rx br b c) : Rx br a c :=
  ⟨k.os.trans h.os, k.tape.trans h.tape, k.output.trans h.output, Nat.le_trans h.size k.size, fun i hi hne => (k.block i (Nat.lt_of_lt_of_le hi h.size) hne).trans (h.block i hi hne)⟩
theorem Rx.alloc {br : Nat} {a w : World} (h : Rx br a w) (o : Obj) : Rx br a (w.alloc o) := h.trans (World.grownBy_alloc w o _)
theorem Rx.drew {br : Nat} {a w : World} (h : Rx br a w) : Rx br a w.drew := ⟨h.os, h.tape, h.output, h.size, h.block⟩
theorem Rx.drewN {br : Nat} {a w : World} (h : Rx br a w) (k : Nat) : Rx br a (w.drewN k) := ⟨h.os, h.tape, h.output, h.size, h.block⟩
theorem Nx.rx {a b : World} (h : Nx a b) (br : Nat) : Rx br a b := ⟨h.os, h.tape, h.output, h.size, fun i hi _ => h.block i hi⟩
theorem Rx.nx {br : Nat} {a b w : World} (h : Nx a b) (k : Rx br b w) (hbr : a.heap.size ≤ br) : Nx a w := Nx.grown h k (fun i e => by injection e with e; omega)
theorem Rx.rules {br : Nat} {W w1 : World} (h : Rx br W w1) : (∀ b o, b < W.heap.size → b ≠ br → w1.cell? ⟨b, o, none⟩ = W.cell? ⟨b, o, none⟩) ∧
    (∀ b o, b < W.heap.size → b ≠ br → w1.frozen? ⟨b, o, none⟩ = W.frozen? ⟨b, o, none⟩) ∧ W.heap.size ≤ w1.heap.size :=
  ⟨fun b o hb hne => World.cell?_of_block (h.block b hb (by simpa using hne)), fun b o hb hne => World.frozen?_of_block (h.block b hb (by simpa using hne)), h.size⟩
theorem RdAt.nx {w w' : World} {br n : Nat} {p : Int} (h : RdAt w br n p) (hn : Nx w w') : RdAt w' br n p := by
  obtain ⟨A, c, hh, h1, h2, hb⟩ := h
  refine ⟨A, c, (hn.block br (lt_of_heap hh)).trans hh, h1, h2, fun h0 => ?_⟩
  obtain ⟨b, off, e, hne, hlt, hc⟩ := hb h0
  refine ⟨b, off, e, hne, Nat.lt_of_lt_of_le hlt hn.size, fun j hj => ?_⟩
  obtain ⟨u, h1, h2, h3⟩ := hc j hj
  exact ⟨u, h1, h2, hn.cell hlt h3⟩

/-- what 'l14Open' hands back: a reader at its start -/
def Opened (w : World) (e : Ending) (w' : World) : Prop :=
  ∃ n, e = .returned (.pointer (some ⟨w.heap.size, 0, none⟩)) ∧ RdAt w' w.heap.size n 0 ∧ Nx w w'

theorem open_c (A : Option Addr) (n c : Nat) (w : World) (hnc : n ≤ c) (hb : BytesAt w w.heap.size A n) :
    Calls Tryd.prog 34 #[.slice A n c] w (Opened w) := by
  have Hb := Lib.hid hb
  clear hb
  by_cases h : n ≤ 2000
  · go_enter Tryd.func34, Tryd.ntmps34
    go_wp2
    go_ret
    refine ⟨n, rfl, ⟨A, c, ?_, h, by omega, fun h0 => ?_⟩, (by repeat (first | exact Nx.refl _ | assumption | apply Nx.alloc | apply Nx.drew | apply Nx.drewN | (refine Nx.setCell ?_ (by first | (simp; done) | (simp; omega) | omega) _) | refine Nx.trans ?_ (by assumption)))⟩
    · exact heap_alloc_new w _
    · obtain ⟨b, off, e, hne, hlt, hc⟩ := Hb.out h0
      refine ⟨b, off, e, hne, by simp; omega, fun j hj => ?_⟩
      obtain ⟨u, h1, h2, h3⟩ := hc j hj
      exact ⟨u, h1, h2, (Nx.alloc (.refl _) _).cell hlt h3⟩
  · go_enter Tryd.func34, Tryd.ntmps34
    go_wp2
    go_ret
    refine ⟨2000, rfl, ⟨A, c, heap_alloc_new w _, by omega, by omega, fun h0 => ?_⟩, (by repeat (first | exact Nx.refl _ | assumption | apply Nx.alloc | apply Nx.drew | apply Nx.drewN | (refine Nx.setCell ?_ (by first | (simp; done) | (simp; omega) | omega) _) | refine Nx.trans ?_ (by assumption)))⟩
    obtain ⟨b, off, e, hne, hlt, hc⟩ := Hb.out (by omega)
    refine ⟨b, off, e, hne, by simp; omega, fun j hj => ?_⟩
    obtain ⟨u, h1, h2, h3⟩ := hc j (by omega)
    exact ⟨u, h1, h2, (Nx.alloc (.refl _) _).cell hlt h3⟩
end Go.Proofs.YtekepbcmjfdcjaaDoor
