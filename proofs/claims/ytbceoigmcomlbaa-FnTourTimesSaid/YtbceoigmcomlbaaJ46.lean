import Derived.Test.YtbceoigmcomlbaaJ42
import Derived.Test.YtbceoigmcomlbaaJ43
import Derived.Test.YtbceoigmcomlbaaJ44
import Derived.Test.YtbceoigmcomlbaaJ45
import Derived.Test.YtbceoigmcomlbaaJ1
import Derived.ProofKit
import Derived.OpenShut
import Derived.ShutString
import Derived.ChangeOld
import Derived.Lib.SmallJoins
/- Short contracts of the tours, and the plain law of turning and of what lies below, as the laws use them. -/
namespace Go.Proofs.Ytbceoigmcomlbaa
open Go.RowKit set_option linter.unusedVariables false set_option linter.unusedSimpArgs false

section
variable {xs ys X Y : List Int} {E : Es} {r x y u v : Int} {b : Bool} (A B : Option Addr) (c d n m : Nat) (w : World)
theorem iValid_t (h : decide (TV xs) = b) (hn : xs.length = n) (hc : n ≤ c) (hx : IntsAt w A xs) (hl : n ≤ 1048576) : Calls Try.prog 13 #[.slice A n c] w (RetV (.bool b) w) := h ▸ iTourValid_c A c n xs w hn hc hx hl
theorem sValid_t (h : decide (TV xs) = b) (hn : xs.length = n) (hc : n ≤ c) (hx : IntsAt w A xs) (hl : n ≤ 1048576) : Calls Try.prog 14 #[.slice A n c] w (RetV (.bool b) w) := h ▸ sTourValid_c A c n xs w hn hc hx hl
theorem iEdges_t (h1 : tEdges xs = E) (h2 : decide (TV xs) = b) (hn : xs.length = n) (hc : n ≤ c) (hx : IntsAt w A xs) (hl : n ≤ 1048576) : Calls Try.prog 15 #[.slice A n c] w (RetEB E b w) := h1 ▸ h2 ▸ iTourEdges_c A c n xs w hn hc hx hl
theorem iTurn_t (h1 : tTurn xs r = X) (h2 : turnB xs r = b) (hn : xs.length = n) (hc : n ≤ c) (hx : IntsAt w A xs) (hl : n ≤ 1048576) : Calls Try.prog 26 #[.slice A n c, V r] w (RetIB X b w) := h1 ▸ h2 ▸ iTurnTour_c A c n xs r w hn hc hx hl
theorem sTurn_t (h1 : tTurn xs r = X) (h2 : turnB xs r = b) (hn : xs.length = n) (hc : n ≤ c) (hx : IntsAt w A xs) (hl : n ≤ 1048576) : Calls Try.prog 34 #[.slice A n c, V r] w (RetIB X b w) := h1 ▸ h2 ▸ sTurnTour_c A c n xs r w hn hc hx hl
theorem iBelow_t (h1 : tBelow xs r = X) (h2 : turnB xs r = b) (hn : xs.length = n) (hc : n ≤ c) (hx : IntsAt w A xs) (hl : n ≤ 1048576) : Calls Try.prog 27 #[.slice A n c, V r] w (RetIB X b w) := h1 ▸ h2 ▸ iTourBelow_c A c n xs r w hn hc hx hl
theorem sBelow_t (h1 : tBelow xs r = X) (h2 : turnB xs r = b) (hn : xs.length = n) (hc : n ≤ c) (hx : IntsAt w A xs) (hl : n ≤ 1048576) : Calls Try.prog 32 #[.slice A n c, V r] w (RetIB X b w) := h1 ▸ h2 ▸ sTourBelow_c A c n xs r w hn hc hx hl
theorem iDepths_t (h1 : tDepths xs = X) (h2 : decide (TV xs) = b) (hn : xs.length = n) (hc : n ≤ c) (hx : IntsAt w A xs) (hl : n ≤ 1048576) : Calls Try.prog 28 #[.slice A n c] w (RetIB X b w) := h1 ▸ h2 ▸ iTourDepths_c A c n xs w hn hc hx hl
theorem sDepths_t (h1 : tDepths xs = X) (h2 : decide (TV xs) = b) (hn : xs.length = n) (hc : n ≤ c) (hx : IntsAt w A xs) (hl : n ≤ 1048576) : Calls Try.prog 30 #[.slice A n c] w (RetIB X b w) := h1 ▸ h2 ▸ sTourDepths_c A c n xs w hn hc hx hl
theorem iLink_t (h1 : tLink xs ys x y = X) (h2 : decide (linkOk xs ys x y) = b) (hn : xs.length = n) (hm : ys.length = m) (hc : n ≤ c) (hd : m ≤ d) (hx : IntsAt w A xs) (hy : IntsAt w B ys) (hl : n ≤ 1048576) (hl2 : m ≤ 1048576) : Calls Try.prog 21 #[.slice A n c, .slice B m d, V x, V y] w (RetIB X b w) := h1 ▸ h2 ▸ iLinkTours_c A B c n d m xs ys x y w hn hm hc hd hx hy hl hl2
theorem sLink_t (h1 : tLink xs ys x y = X) (h2 : decide (linkOk xs ys x y) = b) (hn : xs.length = n) (hm : ys.length = m) (hc : n ≤ c) (hd : m ≤ d) (hx : IntsAt w A xs) (hy : IntsAt w B ys) (hl : n ≤ 1048576) (hl2 : m ≤ 1048576) : Calls Try.prog 24 #[.slice A n c, .slice B m d, V x, V y] w (RetIB X b w) := h1 ▸ h2 ▸ sLinkTours_c A B c n d m xs ys x y w hn hm hc hd hx hy hl hl2
theorem iSplit_t (h1 : tSplA xs (u, v) = X) (h3 : tSplB xs (u, v) = Y) (h2 : decide (spOk xs (u, v)) = b) (hn : xs.length = n) (hc : n ≤ c) (hx : IntsAt w A xs) (hl : n ≤ 1048576) : Calls Try.prog 17 #[.slice A n c, Ed u v] w (RetIIB X Y b w) := h1 ▸ h3 ▸ h2 ▸ iSplitTour_c A c n xs u v w hn hc hx hl
theorem sSplit_t (h1 : tSplA xs (u, v) = X) (h3 : tSplB xs (u, v) = Y) (h2 : decide (spOk xs (u, v)) = b) (hn : xs.length = n) (hc : n ≤ c) (hx : IntsAt w A xs) (hl : n ≤ 1048576) : Calls Try.prog 18 #[.slice A n c, Ed u v] w (RetIIB X Y b w) := h1 ▸ h3 ▸ h2 ▸ sSplitTour_c A c n xs u v w hn hc hx hl
theorem same_i (hx : IntsAt w A xs) (hy : IntsAt w B xs) (hl : xs.length ≤ 1048576) : Calls Try.prog 19 #[.slice A xs.length c, .slice B xs.length d] w (RetV (.bool true) w) := by
  have h := dyInts_c A B c d xs xs w hx hy hl hl
  simpa using h
theorem same_e (hx : EdgesAt w A E) (hy : EdgesAt w B E) (hl : E.length ≤ 1048576) : Calls Try.prog 22 #[.slice A E.length c, .slice B E.length d] w (RetV (.bool true) w) := by
  have h := dyEdges_c A B c d E E w hx hy hl hl
  simpa using h
end
set_option maxRecDepth 100000 in
set_option maxHeartbeats 2000000 in
theorem dyIn_c (A : Option Addr) (c n : Nat) (xs : List Int) (x : Int) (w : World) (hn : xs.length = n) (hx : IntsAt w A xs) (hl : n ≤ 1048576) :
    Calls Try.prog 20 #[.slice A n c, V x] w (RetS (.bool (decide (x ∈ xs))) w) := by
  subst hn
  go_enter Try.func20, Try.ntmps20
  go_wp2
  go_loopg [5] xs.length (fun gk i wr => ∃ k : Nat, k + gk = xs.length ∧ i = .int .i64 k ∧ w = wr ∧ x ∉ xs.take k)
  case atStart => exact ⟨0, by omega, rfl, rfl, by simp⟩
  case round =>
    obtain ⟨k, hk, rfl, rfl, hno⟩ := hrel
    have Hno := Lib.hid hno
    clear hno
    by_cases hlt : k < xs.length
    · obtain ⟨z, hek⟩ : ∃ x, xs[k]? = some x := ⟨_, List.getElem?_eq_getElem hlt⟩
      obtain ⟨b, off, rfl, hbl, h1⟩ := hx.rd hek
      have Hek := Lib.hid hek
      clear hek hx
      by_cases hq : (z == x) = true
      · go_wp2_with fail
        go_ret
        exact RetS.bool (by simp at hq; subst hq; simp [List.mem_of_getElem? Hek.out])
      · have hq : (z == x) = false := by simpa using hq
        go_wp2_with fail
        go_roundg (gk - 1)
        case measure => omega
        case rel =>
          refine ⟨k + 1, by omega, by go_num, rfl, ?_⟩
          rw [List.take_add_one, Hek.out]
          simp at hq
          simp [Hno.out]
          exact fun h => hq h.symm
    · have he : xs.take k = xs := List.take_of_length_le (by omega)
      have Hno2 := Lib.hid (he ▸ Hno.out)
      clear he
      go_wp2
      go_ret
      exact RetS.bool (by simp [Hno2.out])

/-! ### plain -/
theorem cut_at {L : List Int} {k : Nat} {v : Int} (h : L[k]? = some v) : L = L.take k ++ v :: L.drop (k + 1) := by
  obtain ⟨hl, he⟩ := List.getElem?_eq_some_iff.1 h
  conv => lhs; rw [← List.take_append_drop k L, List.drop_eq_getElem_cons hl, he]
theorem turnL_eq {L : List Int} {k : Nat} {v : Int} (hf : fstV L v = k) (h : L[k]? = some v) : turnL L v = (v :: L.drop (k + 1)).dropLast ++ (L.take k ++ [v]) := by
  obtain ⟨hl, he⟩ := List.getElem?_eq_some_iff.1 h
  unfold turnL
  rw [hf, Int.toNat_natCast]
  congr 1
  rw [show v :: L.drop (k + 1) = L.drop k by rw [List.drop_eq_getElem_cons hl, he], List.dropLast_eq_take, List.drop_take, List.length_drop]
  congr 1
  omega
/-- a turned tour -/
theorem turn_spec {L : List Int} {v : Int} (h : TV L) (hv : v ∈ L) : TV (turnL L v) ∧ (∀ z, z ∈ turnL L v ↔ z ∈ L) ∧ (turnL L v)[0]? = some v ∧ eset (stepsL (turnL L v)) = eset (stepsL L) := by
  obtain ⟨k, hk, hg, _⟩ := fstV_spec hv
  have hT := (tv_iff L).1 h
  rw [cut_at hg] at hT
  obtain ⟨h1, h2, h3, h4, h5⟩ := turn_core hT
  rw [turnL_eq hk hg]
  refine ⟨(tv_iff _).2 h1, fun z => by rw [h3, ← cut_at hg], by rw [← List.head?_eq_getElem?]; exact h5, ?_⟩
  have := eset_ext fun e => h2.mem_iff (a := e)
  rw [← cut_at hg] at this
  exact this
theorem first_zero {L : List Int} {v : Int} (h : L[0]? = some v) : fstV L v = (0 : Nat) := by
  obtain ⟨k, hk, hg, hf⟩ := fstV_spec (List.mem_of_getElem? h)
  rcases Nat.eq_zero_or_pos k with h0 | h0
  · rw [hk, h0]
  · exact absurd h (hf 0 h0)
theorem tv_last {L : List Int} (h : TV L) {v : Int} (h0 : L[0]? = some v) : L.getLast? = some v := by
  rw [List.getLast?_eq_getElem?, ← h.1.2.2, h0]
/-- turned to its root a tour is as it was -/
theorem turn_root {L : List Int} {v : Int} (h : TV L) (h0 : L[0]? = some v) : turnL L v = L := by
  rw [turnL_eq (first_zero h0) h0]
  obtain ⟨t, ht⟩ := last_snoc (tv_last h h0)
  obtain ⟨s, hs⟩ := head_cons (by rw [List.head?_eq_getElem?]; exact h0 : L.head? = some v)
  rw [List.take_zero, List.nil_append, show v :: L.drop (0 + 1) = L by rw [hs]; rfl]
  conv => rhs; rw [ht]
  rw [ht, List.dropLast_concat]
theorem below_spec {L : List Int} {v : Int} (h : TV L) (hv : v ∈ L) : TV (belowL L v) ∧ (belowL L v)[0]? = some v ∧ (L[0]? = some v → belowL L v = L) := by
  obtain ⟨k, hk, hg, hf⟩ := fstV_spec hv
  obtain ⟨l, hl⟩ := last_ex L hv
  have hkl : k ≤ l := by
    refine Classical.byContradiction fun h => ?_
    exact hl.2 k (by omega) hg
  obtain ⟨h1, h2⟩ := tour_below ((tv_iff L).1 h) hg hf hl.1 hl.2
  have he : belowL L v = (L.take (l + 1)).drop k := by unfold belowL; rw [lstV_eq hl, hk]; rfl
  rw [he]
  refine ⟨(tv_iff _).2 h1, ?_, h2⟩
  rw [List.getElem?_drop, List.getElem?_take_of_lt (by omega)]
  exact hg
end Go.Proofs.Ytbceoigmcomlbaa

/- Openers: from the reading of an argument to what the walks are told of it. Generic in the program. -/
namespace Go.Proofs.Ytbceoigmcomlbaa
open Go.ChangeShapes Go.WideShapes Go.ChangeAt Go.RowKit

section
variable {P : Program} {w : World} {H : Type} {enc : TypeId × Value → H} {held : Bool}

theorem plain_of_cell {x : Addr} {v : Value} (h : w.cell? x = some v) : x.spot = none ∧ x.block < w.heap.size := by
  unfold World.cell? at h
  split at h
  · rename_i hh
    refine ⟨?_, ?_⟩
    · by_cases hs : x.spot.isSome
      · simp [hs] at h
      · simpa using hs
    · rcases Nat.lt_or_ge x.block w.heap.size with hlt | hge
      · exact hlt
      · rw [Array.getElem?_eq_none hge] at hh; cases hh
  · cases h
theorem add_plain {a : Addr} (h : a.spot = none) (k : Nat) : a.add k = ⟨a.block, a.off + k, none⟩ := by
  unfold Addr.add
  split
  · rename_i h0; subst h0; cases a; simp_all
  · rfl

/-- the length's bound, hidden from the walks -/
theorem hid_len {n c : Nat} (h : n ≤ c) (hc : c ≤ maxLen) : Hid (n ≤ 9223372036854775807) := by
  have : n ≤ 9223372036854775807 := by unfold maxLen at hc; omega
  exact this

/-- a slice of integers that came in -/
theorem rd_ints {t e : TypeId} {k : IntKind} {fuel : Nat} {v : Value} {x : DataW H × List MemPlace} (ht : P.underlying t = some (.slice e)) (he : P.underlying e = some (.int k)) (hc : P.cellsOf e = 1)
    (h : DataW.trod enc P w 0 (fun _ => true) held fuel t [v] = some x) :
    ∃ (A : Option Addr) (c : Nat) (xs : List Int), v = .slice A xs.length c ∧ xs.length ≤ c ∧ c ≤ maxLen ∧ (0 < xs.length → ∃ b off, A = some ⟨b, off, none⟩ ∧ b < w.heap.size ∧ ∀ j (h : j < xs.length), w.cell? ⟨b, off + j, none⟩ = some (.int k xs[j])) ∧ ∀ n ∈ xs, (Lit.int k n).wf = true := by
  rcases open_ints ht he hc h with ⟨hcs, _⟩ | ⟨a, len, cap, zs, hcs, _, hl, hml, hz, _, hcell, hwz⟩
  · simp at hcs
    exact ⟨none, 0, [], by simpa using hcs, by simp, by simp [maxLen], by simp, by simp⟩
  · simp at hcs hz
    have hlen : (zs.take len).length = len := by simp; omega
    refine ⟨some a, cap, zs.take len, by rw [hlen]; exact hcs, by omega, hml, fun h0 => ?_, fun n hn => hwz n (List.mem_of_mem_take hn)⟩
    rw [hlen] at h0
    obtain ⟨hs, hb⟩ := plain_of_cell (hcell 0 (by omega))
    have hb : a.block < w.heap.size := by simpa [Addr.add] using hb
    have hs : a.spot = none := by simpa [Addr.add] using hs
    refine ⟨a.block, a.off, by cases a; simp_all, hb, fun j hj => ?_⟩
    rw [hlen] at hj
    have := hcell j (by omega)
    rw [add_plain hs] at this
    rw [this]
    simp [List.getD_eq_getElem?_getD, List.getElem?_eq_getElem (show j < zs.length by omega)]

/-- a slice of structs of two integers that came in -/
theorem rd_pairs {t e i0 i1 : TypeId} {f0 f1 : Field} {fuel : Nat} {v : Value} {x : DataW H × List MemPlace} (ht : P.underlying t = some (.slice e)) (he : P.underlying e = some (.struct #[f0, f1])) (hc : P.cellsOf e = 2)
    (h0 : f0.type = i0 ∧ f0.offset = 0 ∧ P.underlying i0 = some (.int .i64) ∧ P.cellsOf i0 = 1) (h1 : f1.type = i1 ∧ f1.offset = 1 ∧ P.underlying i1 = some (.int .i64) ∧ P.cellsOf i1 = 1)
    (h : DataW.trod enc P w 0 (fun _ => true) held fuel t [v] = some x) :
    ∃ (A : Option Addr) (c : Nat) (xs : List (Int × Int)), v = .slice A xs.length c ∧ xs.length ≤ c ∧ c ≤ maxLen ∧
      (0 < xs.length → ∃ b off, A = some ⟨b, off, none⟩ ∧ b < w.heap.size ∧ ∀ j (h : j < xs.length), w.cell? ⟨b, off + j * 2, none⟩ = some (V xs[j].1) ∧ w.cell? ⟨b, off + j * 2 + 1, none⟩ = some (V xs[j].2)) ∧
      ∀ n ∈ xs, (Lit.int .i64 n.1).wf = true ∧ (Lit.int .i64 n.2).wf = true := by
  rcases DataW.trod_slice ht h with ⟨hcs, _⟩ | ⟨a, len, cap, elems, rest, n, _, hcs, _, _, hl, hml, hlen, hel, hsp⟩
  · simp at hcs
    exact ⟨none, 0, [], by simpa using hcs, by simp, by simp [maxLen], by simp, by simp⟩
  · simp at hcs
    rw [hc] at hel
    have key : ∀ i, i < len → ∃ a0 b0 : Int, w.cell? (a.add (i * 2)) = some (V a0) ∧ w.cell? ((a.add (i * 2)).add 1) = some (V b0) ∧ (Lit.int .i64 a0).wf = true ∧ (Lit.int .i64 b0).wf = true := by
      intro i hi
      have hh := hel i hi
      rw [List.getElem?_eq_getElem (by omega)] at hh
      obtain ⟨cs, hcs1, hcs2⟩ := Option.bind_eq_some_iff.1 hh
      have hcc := World.cells?_some hcs1
      obtain ⟨y0, y1, m, _, _, ha, hb⟩ := trod_struct2 he hcs2
      obtain ⟨e0, o0, u0, z0⟩ := h0
      obtain ⟨e1, o1, u1, z1⟩ := h1
      rw [e0, o0, z0] at ha
      rw [e1, o1, z1] at hb
      obtain ⟨a0, ea, _, wa⟩ := DataW.trod_int u0 ha
      obtain ⟨b0, eb, _, wb⟩ := DataW.trod_int u1 hb
      obtain ⟨_, hcl, hcc⟩ := hcc
      match cs, hcl, ea, eb, hcc with
      | [c0, c1], _, ea, eb, hcc =>
        simp at ea eb
        subst ea; subst eb
        exact ⟨a0, b0, by simpa [Addr.add] using hcc 0 (by omega), by simpa using hcc 1 (by omega), wa, wb⟩
    have keyS : ∃ xs : List (Int × Int), xs.length = len ∧ ∀ j (h : j < xs.length), w.cell? (a.add (j * 2)) = some (V xs[j].1) ∧ w.cell? ((a.add (j * 2)).add 1) = some (V xs[j].2) ∧ (Lit.int .i64 xs[j].1).wf = true ∧ (Lit.int .i64 xs[j].2).wf = true := by
      clear hsp hel hlen hl hml hcs h h0 h1
      induction len with
      | zero => exact ⟨[], rfl, fun j h => by simp at h⟩
      | succ m ih =>
        obtain ⟨xs, hx, hxs⟩ := ih (fun i hi => key i (by omega))
        obtain ⟨a0, b0, k1, k2, k3, k4⟩ := key m (by omega)
        refine ⟨xs ++ [(a0, b0)], by simp [hx], fun j hj => ?_⟩
        by_cases hjm : j < xs.length
        · rw [List.getElem_append_left hjm]; exact hxs j hjm
        · have : j = xs.length := by simp at hj; omega
          subst this
          simp only [List.getElem_append_right (Nat.le_refl _), Nat.sub_self, List.getElem_cons_zero]
          rw [hx]; exact ⟨k1, k2, k3, k4⟩
    obtain ⟨xs, hx, hxs⟩ := keyS
    refine ⟨some a, cap, xs, by rw [hx]; exact hcs, by omega, hml, fun hp => ?_, fun m hm => ?_⟩
    · obtain ⟨hs, hb⟩ := plain_of_cell (hxs 0 hp).1
      have hb : a.block < w.heap.size := by simpa [Addr.add] using hb
      have hs : a.spot = none := by simpa [Addr.add] using hs
      refine ⟨a.block, a.off, by cases a; simp_all, hb, fun j hj => ?_⟩
      have h2 := hxs j hj
      rw [add_plain hs, add_plain rfl] at h2
      exact ⟨h2.1, h2.2.1⟩
    · obtain ⟨j, hj, rfl⟩ := List.getElem_of_mem hm
      exact (hxs j hj).2.2
end
end Go.Proofs.Ytbceoigmcomlbaa
