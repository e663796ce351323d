/- Openers: from the reading of an argument to what the walks are told of it. Generic in the program. -/
import Derived.Test.YtekepbcmjfdcjaaDoorK
import Derived.ProofKit
import Derived.OpenShut
import Derived.ShutString
import Derived.ChangeOld
import Derived.Lib.SmallJoins
namespace Go.Proofs.YtekepbcmjfdcjaaDoor
open Go.ChangeShapes Go.WideShapes Go.ChangeAt Go.RowKit

section
variable {P : Program} {w : World} {H : Type} {enc : TypeId × Value → H} {held : Bool}

theorem plain_of_cell {x : Addr} {v : Value} (h : w.cell? x = some v) : x.spot = none ∧ x.block < w.heap.size := by
  unfold World.cell? at h
  split at h
  · rename_i hh
    refine ⟨?_, ?_⟩
    · by_cases hs : x.spot.isSome
      · simp [hs] at h
      · simpa using hs
    · rcases Nat.lt_or_ge x.block w.heap.size with hlt | hge
      · exact hlt
      · rw [Array.getElem?_eq_none hge] at hh; cases hh
  · cases h
theorem add_plain {a : Addr} (h : a.spot = none) (k : Nat) : a.add k = ⟨a.block, a.off + k, none⟩ := by
  unfold Addr.add
  split
  · rename_i h0; subst h0; cases a; simp_all
  · rfl

/-- the length's bound, hidden from the walks -/
theorem hid_len {n c : Nat} (h : n ≤ c) (hc : c ≤ maxLen) : Hid (n ≤ 9223372036854775807) := by
  have : n ≤ 9223372036854775807 := by unfold maxLen at hc; omega
  exact this

/-- a slice of integers that came in -/
theorem rd_ints {t e : TypeId} {k : IntKind} {fuel : Nat} {v : Value} {x : DataW H × List MemPlace} (ht : P.underlying t = some (.slice e)) (he : P.underlying e = some (.int k)) (hc : P.cellsOf e = 1)
    (h : DataW.trod enc P w 0 (fun _ => true) held fuel t [v] = some x) :
    ∃ (A : Option Addr) (c : Nat) (xs : List Int), v = .slice A xs.length c ∧ xs.length ≤ c ∧ c ≤ maxLen ∧ (0 < xs.length → ∃ b off, A = some ⟨b, off, none⟩ ∧ b < w.heap.size ∧ ∀ j (h : j < xs.length), w.cell? ⟨b, off + j, none⟩ = some (.int k xs[j])) ∧ ∀ n ∈ xs, (Lit.int k n).wf = true := by
  rcases open_ints ht he hc h with ⟨hcs, _⟩ | ⟨a, len, cap, zs, hcs, _, hl, hml, hz, _, hcell, hwz⟩
  · simp at hcs
    exact ⟨none, 0, [], by simpa using hcs, by simp, by simp [maxLen], by simp, by simp⟩
  · simp at hcs hz
    have hlen : (zs.take len).length = len := by simp; omega
    refine ⟨some a, cap, zs.take len, by rw [hlen]; exact hcs, by omega, hml, fun h0 => ?_, fun n hn => hwz n (List.mem_of_mem_take hn)⟩
    rw [hlen] at h0
    obtain ⟨hs, hb⟩ := plain_of_cell (hcell 0 (by omega))
    have hb : a.block < w.heap.size := by simpa [Addr.add] using hb
    have hs : a.spot = none := by simpa [Addr.add] using hs
    refine ⟨a.block, a.off, by cases a; simp_all, hb, fun j hj => ?_⟩
    rw [hlen] at hj
    have := hcell j (by omega)
    rw [add_plain hs] at this
    rw [this]
    simp [List.getD_eq_getElem?_getD, List.getElem?_eq_getElem (show j < zs.length by omega)]

/-- a slice of structs of two integers that came in -/
theorem rd_pairs {t e i0 i1 : TypeId} {f0 f1 : Field} {fuel : Nat} {v : Value} {x : DataW H × List MemPlace} (ht : P.underlying t = some (.slice e)) (he : P.underlying e = some (.struct #[f0, f1])) (hc : P.cellsOf e = 2)
    (h0 : f0.type = i0 ∧ f0.offset = 0 ∧ P.underlying i0 = some (.int .i64) ∧ P.cellsOf i0 = 1) (h1 : f1.type = i1 ∧ f1.offset = 1 ∧ P.underlying i1 = some (.int .i64) ∧ P.cellsOf i1 = 1)
    (h : DataW.trod enc P w 0 (fun _ => true) held fuel t [v] = some x) :
    ∃ (A : Option Addr) (c : Nat) (xs : List (Int × Int)), v = .slice A xs.length c ∧ xs.length ≤ c ∧ c ≤ maxLen ∧
      (0 < xs.length → ∃ b off, A = some ⟨b, off, none⟩ ∧ b < w.heap.size ∧ ∀ j (h : j < xs.length), w.cell? ⟨b, off + j * 2, none⟩ = some (V xs[j].1) ∧ w.cell? ⟨b, off + j * 2 + 1, none⟩ = some (V xs[j].2)) ∧
      ∀ n ∈ xs, (Lit.int .i64 n.1).wf = true ∧ (Lit.int .i64 n.2).wf = true := by
  rcases DataW.trod_slice ht h with ⟨hcs, _⟩ | ⟨a, len, cap, elems, rest, n, _, hcs, _, _, hl, hml, hlen, hel, hsp⟩
  · simp at hcs
    exact ⟨none, 0, [], by simpa using hcs, by simp, by simp [maxLen], by simp, by simp⟩
  · simp at hcs
    rw [hc] at hel
    have key : ∀ i, i < len → ∃ a0 b0 : Int, w.cell? (a.add (i * 2)) = some (V a0) ∧ w.cell? ((a.add (i * 2)).add 1) = some (V b0) ∧ (Lit.int .i64 a0).wf = true ∧ (Lit.int .i64 b0).wf = true := by
      intro i hi
      have hh := hel i hi
      rw [List.getElem?_eq_getElem (by omega)] at hh
      obtain ⟨cs, hcs1, hcs2⟩ := Option.bind_eq_some_iff.1 hh
      have hcc := World.cells?_some hcs1
      obtain ⟨y0, y1, m, _, _, ha, hb⟩ := trod_struct2 he hcs2
      obtain ⟨e0, o0, u0, z0⟩ := h0
      obtain ⟨e1, o1, u1, z1⟩ := h1
      rw [e0, o0, z0] at ha
      rw [e1, o1, z1] at hb
      obtain ⟨a0, ea, _, wa⟩ := DataW.trod_int u0 ha
      obtain ⟨b0, eb, _, wb⟩ := DataW.trod_int u1 hb
      obtain ⟨_, hcl, hcc⟩ := hcc
      match cs, hcl, ea, eb, hcc with
      | [c0, c1], _, ea, eb, hcc =>
        simp at ea eb
        subst ea; subst eb
        exact ⟨a0, b0, by simpa [Addr.add] using hcc 0 (by omega), by simpa using hcc 1 (by omega), wa, wb⟩
    have keyS : ∃ xs : List (Int × Int), xs.length = len ∧ ∀ j (h : j < xs.length), w.cell? (a.add (j * 2)) = some (V xs[j].1) ∧ w.cell? ((a.add (j * 2)).add 1) = some (V xs[j].2) ∧ (Lit.int .i64 xs[j].1).wf = true ∧ (Lit.int .i64 xs[j].2).wf = true := by
      clear hsp hel hlen hl hml hcs h h0 h1
      induction len with
      | zero => exact ⟨[], rfl, fun j h => by simp at h⟩
      | succ m ih =>
        obtain ⟨xs, hx, hxs⟩ := ih (fun i hi => key i (by omega))
        obtain ⟨a0, b0, k1, k2, k3, k4⟩ := key m (by omega)
        refine ⟨xs ++ [(a0, b0)], by simp [hx], fun j hj => ?_⟩
        by_cases hjm : j < xs.length
        · rw [List.getElem_append_left hjm]; exact hxs j hjm
        · have : j = xs.length := by simp at hj; omega
          subst this
          simp only [List.getElem_append_right (Nat.le_refl _), Nat.sub_self, List.getElem_cons_zero]
          rw [hx]; exact ⟨k1, k2, k3, k4⟩
    obtain ⟨xs, hx, hxs⟩ := keyS
    refine ⟨some a, cap, xs, by rw [hx]; exact hcs, by omega, hml, fun hp => ?_, fun m hm => ?_⟩
    · obtain ⟨hs, hb⟩ := plain_of_cell (hxs 0 hp).1
      have hb : a.block < w.heap.size := by simpa [Addr.add] using hb
      have hs : a.spot = none := by simpa [Addr.add] using hs
      refine ⟨a.block, a.off, by cases a; simp_all, hb, fun j hj => ?_⟩
      have h2 := hxs j hj
      rw [add_plain hs, add_plain rfl] at h2
      exact ⟨h2.1, h2.2.1⟩
    · obtain ⟨j, hj, rfl⟩ := List.getElem_of_mem hm
      exact (hxs j hj).2.2
end
end Go.Proofs.YtekepbcmjfdcjaaDoor
