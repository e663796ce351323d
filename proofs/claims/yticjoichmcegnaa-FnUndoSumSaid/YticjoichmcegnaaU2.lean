/- Contract: slices.Repeat of one number. -/
import Derived.Test.YticjoichmcegnaaU
import Derived.Test.YticjoichmcegnaaH
import Derived.Deep.Cut
namespace Go.Proofs.Yticjoichmcegnaa
open Go.RowKit

theorem mul_c (n : Nat) (hn : n ≤ 16) (w : World) : Calls Try.prog 131 #[.int .u64 1, .int .u64 (n : Int)] w (RetS (.tuple #[.int .u64 0, .int .u64 (n : Int)]) w) := by
  refine (Any.bits_Mul Try.lays212 1 n (by omega) (by omega) w).mono ?_
  rintro e w1 ⟨rfl, rfl⟩
  refine ⟨?_, rfl⟩
  have h1 : 1 * n / 18446744073709551616 = 0 := by omega
  have h2 : 1 * n % 18446744073709551616 = n := by omega
  rw [h1, h2]
  rfl

theorem madeI (n : Nat) : madeCells #[V 0] n = (List.replicate n (V 0)).toArray := by
  apply Array.toList_inj.1
  rw [toList_madeCells_one]

theorem rowOwnI {w : World} {base g n : Nat} {t : TypeId} {cur : List Value} {x : Int} (hb : base ≤ g) (hn : n ≤ 16) (h : w.heap[g]? = some (.cells cur.toArray t (0, 0))) (he : cur = List.replicate n (V x)) :
    OwnI w base t (some ⟨g, 0, none⟩) n (List.replicate n x) := by
  subst he
  unfold OwnI
  rw [List.length_replicate, List.map_replicate]
  exact ⟨by simp, .inr ⟨g, n, _, rfl, hb, h, Nat.le_refl _, by simp [maxLen]; omega, by simp, by simp⟩⟩

/-- the first k cells hold x -/
def PreX (cur : List Value) (x : Int) (k : Nat) : Prop := ∀ j, j < k → cur[j]? = some (V x)
theorem PreX.splice {cur : List Value} {x : Int} {k m : Nat} (h : PreX cur x k) (hk : k + m ≤ cur.length) : PreX (splice cur k (List.replicate m (V x))) x (k + m) := by
  intro j hj
  unfold Go.splice
  by_cases h1 : j < k
  · rw [List.getElem?_append_left (by simp; omega), List.getElem?_take_of_lt h1]
    exact h j h1
  · rw [List.getElem?_append_right (by simp; omega), List.getElem?_append_left (by simp; omega)]
    rw [List.getElem?_replicate]
    simp
    omega
theorem PreX.all {cur : List Value} {x : Int} {n : Nat} (h : PreX cur x n) (hl : cur.length = n) : cur = List.replicate n (V x) := by
  apply List.ext_getElem?
  intro j
  by_cases hj : j < n
  · rw [h j hj]; simp [hj]
  · simp [hj, hl]
theorem rowCell {w : World} {g j : Nat} {t : TypeId} {cur : List Value} {v : Value} (h : w.heap[g]? = some (.cells cur.toArray t (0, 0))) (hv : cur[j]? = some v) : w.cell? ⟨g, j, none⟩ = some v := by
  simp [World.cell?, h, hv]

set_option maxRecDepth 100000 in
set_option maxHeartbeats 2000000 in
theorem repeat_c (x : Int) (n b : Nat) (w : World) (hn1 : 1 ≤ n) (hn : n ≤ 16) (hb : b < w.heap.size) (hc : w.cell? ⟨b, 0, none⟩ = some (V x)) :
    Calls Try.prog 83 #[.slice (some ⟨b, 0, none⟩) 1 1, V n] w (RetI 3 (List.replicate n x) w) := by
  have hw : IntKind.u64.wrap (n : Int) = n := by rw [IntKind.wrap_u64]; omega
  obtain ⟨i0, hi, hz0, hz1, hz2⟩ := info_parts infoI
  have hmk := run_make_rowN (P := Try.prog) 34 3 i0 _ Try.underlying34 hi hz0 .i64 .i64 n n (Nat.le_refl _) (by rw [hz2]; omega) (by omega)
  rw [hz1, Nat.mul_one] at hmk
  have hsz : (Try.prog.info? 3).map (·.size) = some 1 := by kernel_rfl
  clear hi hz0 hz1 hz2
  go_enter Try.func83, Try.ntmps83
  go_upto_region 7 with (first | (go_at_call 131; go_must (refine (mul_c n hn _).mono ?_; rintro e w_ ⟨rfl, rfl⟩)) | fail)
  have hrow : (w.alloc (.cells (madeCells #[V 0] n) 3)).heap[w.heap.size]? = some (.cells (List.replicate n (V 0)).toArray 3 (0, 0)) := by
    rw [madeI, World.alloc]; simp
  have hbel : Below w.heap.size w (w.alloc (.cells (madeCells #[V 0] n) 3)) := (show Nx w _ from (by repeat (first | exact Nx.refl _ | assumption | apply Nx.alloc | apply Nx.drew | apply Nx.drewN | (refine Nx.setCell ?_ (by first | (simp; done) | (simp; omega) | omega) _) | refine Nx.trans ?_ (by assumption))))
  have hcell : (w.alloc (.cells (madeCells #[V 0] n) 3)).cell? ⟨b, 0, none⟩ = some (V x) := (show Nx w _ from (by repeat (first | exact Nx.refl _ | assumption | apply Nx.alloc | apply Nx.drew | apply Nx.drewN | (refine Nx.setCell ?_ (by first | (simp; done) | (simp; omega) | omega) _) | refine Nx.trans ?_ (by assumption)))).cell hb hc
  generalize w.alloc _ = W at *
  have hx1 : ∀ j v, [V x][j]? = some v → W.cell? ((⟨b, 0, none⟩ : Addr).add j) = some v := by
    intro j v hv
    cases j with
    | zero => simp at hv; subst hv; exact hcell
    | succ j => simp at hv
  clear hmk
  have hmin : [V x].length = Nat.min 1 n := (Nat.min_eq_left hn1).symm
  have hfit : 0 + [V x].length ≤ (List.replicate n (V 0)).length := by simp; omega
  have hone : ∀ v ∈ [V x], v.oneCell' = true := by simp [Value.oneCell']
  go_wp2_with (refine wpList_copy_splice rfl (.tmp 31) (.tmp 32) 34 34 rfl 3 Try.underlying34 hsz (some ⟨w.heap.size, 0, none⟩) (some ⟨b, 0, none⟩) n n 1 1 rfl rfl w.heap.size 0 (List.replicate n (V 0)) 3 hrow [V x] hmin (fun _ => ⟨rfl, _, rfl, hx1⟩) hfit hone w.heap.size w hbel (Nat.le_refl _) ?_; intro W1 hg1 hb1)
  clear hbel hrow hx1 hmin hone hfit hcell
  go_loopg [8] (n - 1) (fun gk i wr => ∃ (k : Nat) (cur : List Value), k + gk = n ∧ 1 ≤ k ∧ i = .int .i64 k ∧ Nx w wr ∧ cur.length = n ∧ wr.heap[w.heap.size]? = some (.cells cur.toArray 3 (0, 0)) ∧ PreX cur x k)
  case atStart => exact ⟨1, _, by omega, by omega, rfl, hb1, by rw [length_splice]; simp; simp; omega, hg1, PreX.splice (k := 0) (m := 1) (fun j hj => by omega) (by simp; omega)⟩
  case round =>
    obtain ⟨k, cur, hk, hk1, rfl, hnx, hcl, hrow, hpre⟩ := hrel
    by_cases hlt : k < n
    · have hn2 : Nx w wr.drew := .drew hnx
      obtain ⟨m, hm⟩ : ∃ m, m = Nat.min k (n - k) := ⟨_, rfl⟩
      have hm1 : 1 ≤ m := by have : Nat.min k (n - k) = min k (n - k) := rfl; omega
      have hm2 : k + m ≤ n := by have : Nat.min k (n - k) = min k (n - k) := rfl; omega
      have hm3 : m ≤ k := by have : Nat.min k (n - k) = min k (n - k) := rfl; omega
      have hsrc : ∀ j v, (List.replicate (m) (V x))[j]? = some v → wr.cell? ((⟨w.heap.size, 0, none⟩ : Addr).add j) = some v := by
        intro j v hv
        rw [List.getElem?_replicate] at hv
        split at hv
        · rename_i h
          injection hv with hv
          subst hv
          have := rowCell hrow (hpre j (by omega))
          by_cases h0 : j = 0 <;> simpa [Addr.add, h0] using this
        · simp at hv
      have hmin : (List.replicate (m) (V x)).length = Nat.min k (n - k) := by rw [List.length_replicate]; exact hm
      have hfit : k + (List.replicate (m) (V x)).length ≤ cur.length := by simp; omega
      have hone : ∀ v ∈ List.replicate (m) (V x), v.oneCell' = true := by
        intro v hv
        have := List.eq_of_mem_replicate hv
        subst this
        rfl
      have hsp := PreX.splice (m := m) hpre (by omega)
      have Hsp := Lib.hid hsp
      have Hcl := Lib.hid hcl
      have Hm := Lib.hid hm
      clear hsp hpre hcl hm
      have q1 : ¬ n = k := by omega
      have q2 : ¬ k = 0 := by omega
      have q3 : (k : Int) ≤ (n : Int) := by omega
      have q4 : k ≤ n := by omega
      have q5 : (0 : Int) ≤ (k : Int) := by omega
      go_wp2_with fail
      go_region_law (refine step_copy_splice rfl (.tmp 41) (.tmp 44) 34 34 rfl 3 Try.underlying34 hsz (some ⟨w.heap.size, k, none⟩) (some ⟨w.heap.size, 0, none⟩) (n - k) (n - k) k n (by go_simp) (by go_simp) w.heap.size k cur 3 hrow (List.replicate (m) (V x)) hmin (fun _ => ⟨rfl, _, rfl, hsrc⟩) hfit hone w.heap.size w hn2 (Nat.le_refl _) ?_; intro W2 hg2 hb2)
      clear q1 q2 q3 q4 q5 hmin hsrc hone hfit
      have hwk : IntKind.i64.wrap ((k : Int) + (m : Int)) = ((k + m : Nat) : Int) := by rw [IntKind.wrap_i64]; omega
      go_wp2
      go_roundg (gk - m)
      case measure => omega
      case rel => exact ⟨k + m, _, by omega, by omega, by rw [← Hm.out]; exact congrArg _ hwk, hb2, by rw [length_splice _ _ _ (by rw [List.length_replicate, Hcl.out]; exact hm2)]; exact Hcl.out, hg2, Hsp.out⟩
    · go_wp2
      go_ret
      have hk0 : k = n := by omega
      subst hk0
      refine ⟨some ⟨w.heap.size, 0, none⟩, k, ?_, rowOwnI (Nat.le_refl _) hn hrow (hpre.all hcl), hnx⟩
      simp
end Go.Proofs.Yticjoichmcegnaa
