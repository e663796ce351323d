import Derived.Test.YtbceoigmcomlbaaJ26
import Derived.Deep.RegionHeld3
/- Contracts: TourDepths of both. -/
namespace Go.Proofs.Ytbceoigmcomlbaa
open Go.RowKit set_option linter.unusedVariables false set_option linter.unusedSimpArgs false

section
variable {P : Program} {w : World} {ops : Array Oper} {o : Oper} {a : Act} {K : Act → World → Prop} {Q : Exit → Act → World → Prop} {E : Prop} {s x : Operand} {T t : TypeId} {i : TypeInfo} {z : Value} {X : Option Addr} {c' g base : Nat}
/-- an append to an empty row with no room: a row made anew, or nothing turns -/
theorem stepIn1 (ys : List Int) (hgd : o.guard = none) (ho : o.op = .call { callee := .builtin .append, args := #[s, x], argTypes := #[T, T] })
    (ht : P.underlying T = some (.slice t)) (hi : P.info? t = some i) (hz : i.zero = some z) (hsize : i.size = 1) (hby : i.bytes = 8) (hzs : z.cells.size = 1)
    (hs : a.eval s = .slice (some ⟨g, 0, none⟩) 0 0) (hbase : base ≤ w.heap.size) (hx : a.eval x = .slice X ys.length c') (hy : IntsAt w X ys) (hm : 0 < ys.length) (hl : ys.length < 1073741824)
    (h : ∀ A' cc w', OwnI w' base t A' cc ys → Nx w w' → (∀ k, blk A' = some k → w.heap.size ≤ k ∧ k < w'.heap.size) → K (a.put o.dst (.slice A' ys.length cc)) w') :
    if Region.wanted o (yielded ops a.tmps) = true then Oper.wp P o a w K Q else E := by
  have hw : Region.wanted o (yielded ops a.tmps) = true := by simp [Region.wanted, hgd]
  rw [if_pos hw]
  obtain ⟨b, off, rfl, hbb, hc⟩ := hy hm
  have hr := run_append_grow (P := P) (w := w) T o.type t i z ht hi hz ⟨g, 0, none⟩ 0 0 [] (by simp) (by simp) ⟨b, off, none⟩ ys.length c' (ys.map V) (by simp [hsize]) (cellsI_at hc) (by omega) (by omega) (by
    rw [hby]
    have h1 : Builtin.nextslicecap (0 + ys.length) 0 = 0 + ys.length := by unfold Builtin.nextslicecap; rw [if_pos (by omega)]
    rw [h1]; omega)
  have hge := grownCap_ge w (0 + ys.length) 0 t
  have hle := grownCap_le_maxLen w (0 + ys.length) 0 t (by simp [maxLen]; omega)
  generalize grownCap w (0 + ys.length) 0 t = cap at *
  have hcs : ((#[] : Array Value) ++ (ys.map V).toArray ++ Builtin.zeroCells z.cells (cap - (0 + ys.length))).size = cap := by
    have h1 : (Builtin.zeroCells z.cells (cap - (0 + ys.length))).size = cap - ys.length := by simp [Builtin.zeroCells, hzs]
    simp only [Array.size_append, h1]
    simp
    omega
  have hct : ((#[] : Array Value) ++ (ys.map V).toArray ++ Builtin.zeroCells z.cells (cap - (0 + ys.length))).toList.take (ys.length * 1) = ys.map V := by
    simp [List.take_append_of_le_length, List.take_of_length_le]
  generalize (#[] : Array Value) ++ (ys.map V).toArray ++ Builtin.zeroCells z.cells (cap - (0 + ys.length)) = cs at *
  have hnw := heap_alloc_new w.drew (.cells cs t)
  have hsz : w.heap.size < (w.drew.alloc (.cells cs t)).heap.size := by simp [size_drew_]
  have hnx : Nx w (w.drew.alloc (.cells cs t)) := (Nx.drew (.refl _)).alloc _
  generalize w.drew.alloc (.cells cs t) = w' at *
  have hon : OwnI w' base t (some ⟨w.heap.size, 0, none⟩) cap ys := ⟨by simp, .inr ⟨w.heap.size, cap, cs, rfl, hbase, hnw, by omega, hle, by rw [hcs]; omega, hct⟩⟩
  unfold Oper.wp
  simp [execOp, ho, resolve, invoke, builtin, hs, hx, hr, Result.andThen]
  refine h _ cap _ hon hnx fun k hk => ?_
  simp [blk] at hk
  subst hk
  exact ⟨Nat.le_refl _, hsz⟩
end

theorem depL_take {L : List Int} {k : Nat} (h : k < L.length) : (depL L).take (k + 1) = (depL L).take k ++ [(depN L k : Int)] := by
  rw [List.take_add_one, depL_get h]; rfl
noncomputable def tDepths (L : List Int) : List Int := if TV L then depL L else []
theorem tDepths_yes {L : List Int} (h : TV L) : tDepths L = depL L := if_pos h
theorem tDepths_no {L : List Int} (h : ¬ TV L) : tDepths L = [] := if_neg h
theorem tDepths_len (L : List Int) : (tDepths L).length ≤ 31 := by
  by_cases h : TV L
  · rw [tDepths_yes h, depL_len]; exact h.1.2.1
  · rw [tDepths_no h]; simp
theorem depL_take_len {L : List Int} {k n : Nat} (h : k ≤ n) (hn : L.length = n) : ((depL L).take k).length = k := by
  rw [List.length_take, depL_len]; omega

set_option maxRecDepth 100000 in
set_option maxHeartbeats 4000000 in
theorem iTourDepths_c (A : Option Addr) (c n : Nat) (xs : List Int) (w : World) (hn : xs.length = n) (hc : n ≤ c) (hx : IntsAt w A xs) (hl : n ≤ 1048576) :
    Calls Try.prog 28 #[.slice A n c] w (RetIB (tDepths xs) (decide (TV xs)) w) := by
  have hv := fun w' h => iTourValid_c A c n xs w' hn hc h hl
  have Hx := Lib.hid hx
  by_cases ht : TV xs
  · rw [tDepths_yes ht]
    rw [decide_eq_true ht] at hv ⊢
    have hT := (tv_iff xs).1 ht
    have hn31 := ht.1.2.1
    have hn1 := ht.1.1
    rw [hn] at hn31 hn1
    have hix := fun x w' h => indexI_c A c xs x w' h (by omega)
    rw [hn] at hix
    obtain ⟨i0, hi0, hz0, hz1, hz2⟩ := info_parts infoI
    have Hi0 := Lib.hid hi0
    have Hz0 := Lib.hid hz0
    have Hz1 := Lib.hid hz1
    have Hz2 := Lib.hid hz2
    clear hi0 hz0 hz1 hz2
    obtain ⟨b, off, rfl, hb⟩ := hx.addr (by omega)
    have HT := Lib.hid hT
    have Hv := Lib.hid hv
    have Hix := Lib.hid hix
    have Hn := Lib.hid hn
    clear hv hix hn hx ht hT
    go_enter Try.func28, Try.ntmps28
    go_wp2_with fail
    refine (Hv.out _ Hx.out).mono ?_
    rintro e w1 ⟨rfl, hn1'⟩
    go_wp2
    have ho0 : OwnI (w1.alloc (.cells #[] 3)) w.heap.size 3 (some ⟨w1.heap.size, 0, none⟩) 0 [] := OwnI.empty w1 w.heap.size 3 hn1'.size
    have N0 : Nx w (w1.alloc (.cells #[] 3)) := hn1'.alloc _
    generalize w1.alloc (.cells #[] 3) = w2 at *
    go_loopg [4, 14] n (fun gk o i wr => ∃ (k : Nat) (O : Option Addr) (oc : Nat), k + gk = n ∧ i = .int .i64 k ∧ o = .slice O k oc ∧ OwnI wr w.heap.size 3 O oc ((depL xs).take k) ∧ Nx w wr)
    case atStart => exact ⟨0, _, 0, by omega, rfl, rfl, ho0, N0⟩
    case round =>
      clear ho0 N0
      obtain ⟨k, O, oc, hk, rfl, rfl, hown, N⟩ := hrel
      have hzN := N.size
      by_cases hlt : k < n
      · have hlen : ((depL xs).take k).length = k := depL_take_len (by omega) Hn.out
        have hst := depL_take (L := xs) (k := k) (by have := Hn.out; omega)
        obtain ⟨x, hek⟩ : ∃ x, xs[k]? = some x := ⟨_, List.getElem?_eq_getElem (by have := Hn.out; omega)⟩
        obtain ⟨f, hf, hfx, hff⟩ := fstV_spec (List.mem_of_getElem? hek)
        have hfk : f ≤ k := by
          refine Classical.byContradiction fun h => ?_
          exact hff k (by omega) hek
        obtain ⟨b', off', e, _, r1⟩ := (Hx.out.nx N).rd hek
        injection e with e
        injection e with e1 e2
        subst e1 e2
        have hic := Hix.out x
        rw [hf] at hic
        have Hic := Lib.hid hic
        have Hst := Lib.hid hst
        have Hlen := Lib.hid hlen
        have Hown := Lib.hid hown
        have HL1 : ∀ z : Int, Hid ([z].length = 1) := fun z => Lib.hid rfl
        have hdle := depN_le xs k
        clear hic hst hown
        by_cases h0 : k = 0
        · subst h0
          rw [Nat.add_zero] at r1
          have hd0 := depN_zero xs
          have Hd := Lib.hid hd0
          have hff0 : f = 0 := by omega
          subst hff0
          clear hd0 hek hff hfx hf hdle hlen
          go_wp2_with fail
          refine (Hic.out _ (Hx.out.nx N)).mono ?_
          rintro e w4 ⟨rfl, rfl⟩
          go_wp2_with (at_builtin; refine appIn (base := w.heap.size) (t := 3) (c' := 1) ((depL xs).take 0) [0] 0 1 Hlen.out rfl rfl rfl Try.underlying23 Hi0.out Hz0.out Hz1.out Hz2.out rfl rfl (Hown.out.nx (Nx.alloc (Nx.refl _) _)) rfl (intsOne (by first | (simp; done) | (simp; omega) | omega) (by go_simp)) (by omega) (by simp; omega) ?_; intro A2 c2 w5 hown5 hnx5 hgr5 hbl5)
          go_roundg (gk - 1)
          case measure => omega
          case rel => exact ⟨1, A2, c2, by omega, by go_num, rfl, by rw [Hst.out, Hd.out]; exact hown5, hnx5 w (Nat.le_refl _) (N.alloc _)⟩
        · have hk0 : 0 < k := by omega
          by_cases hfl : f < k
          · have hdf := depN_seen HT.out hek hfx hff
            have hdd : ((depL xs).take k)[f]? = some (depN xs k : Int) := by rw [List.getElem?_take_of_lt hfl, depL_get (by have := Hn.out; omega), hdf]
            obtain ⟨bo, oo, rfl, hbo, q1⟩ := Hown.out.intsAt.rd hdd
            generalize depN xs k = d at *
            clear hek hff hfx hf hdd hdf hlen h0
            go_wp2_with fail
            refine (Hic.out _ (Hx.out.nx N)).mono ?_
            rintro e w4 ⟨rfl, rfl⟩
            go_wp2_with (at_builtin; refine appIn (base := w.heap.size) (t := 3) (c' := 1) ((depL xs).take k) [(d : Int)] k 1 Hlen.out rfl rfl rfl Try.underlying23 Hi0.out Hz0.out Hz1.out Hz2.out rfl rfl (Hown.out.nx (Nx.alloc (Nx.refl _) _)) rfl (intsOne (by first | (simp; done) | (simp; omega) | omega) (by go_simp)) (by omega) (by simp; omega) ?_; intro A2 c2 w5 hown5 hnx5 hgr5 hbl5)
            go_roundg (gk - 1)
            case measure => omega
            case rel => exact ⟨k + 1, A2, c2, by omega, by go_num, rfl, by rw [Hst.out]; exact hown5, hnx5 w (Nat.le_refl _) (N.alloc _)⟩
          · obtain rfl : f = k := by omega
            obtain ⟨j, rfl⟩ : ∃ j, f = j + 1 := ⟨f - 1, by omega⟩
            have hdn := depN_new HT.out hek hff
            have hdd : ((depL xs).take (j + 1))[j]? = some (depN xs j : Int) := by rw [List.getElem?_take_of_lt (by omega), depL_get (by have := Hn.out; omega)]
            obtain ⟨bo, oo, rfl, hbo, q1⟩ := Hown.out.intsAt.rd hdd
            have hdj := depN_le xs j
            rw [hdn] at Hst
            generalize depN xs j = d at *
            obtain ⟨k, hkj⟩ : ∃ k, j + 1 = k := ⟨_, rfl⟩
            have hwj : IntKind.i64.wrap (((j + 1 : Nat) : Int) - 1) = (j : Int) := by rw [IntKind.wrap_i64]; omega
            have hwj2 : (((j + 1 : Nat) : Int) - 1) = (j : Int) := by omega
            have hjk : j < j + 1 := by omega
            clear hek hff hfx hf hdd hdn hlen h0 hfl hfk hdle
            rw [hkj] at r1 Hst Hlen Hown hwj hwj2 hjk hk hlt Hic hk0
            rw [hkj]
            have hk0i : ¬ (k : Int) = 0 := by omega
            clear hkj
            go_wp2_with fail
            refine (Hic.out _ (Hx.out.nx N)).mono ?_
            rintro e w4 ⟨rfl, rfl⟩
            go_wp2_with (at_builtin; refine appIn (base := w.heap.size) (t := 3) (c' := 1) ((depL xs).take k) [(d : Int) + 1] k 1 Hlen.out rfl rfl rfl Try.underlying23 Hi0.out Hz0.out Hz1.out Hz2.out rfl rfl (Hown.out.nx (Nx.alloc (Nx.refl _) _)) rfl (intsOne (by first | (simp; done) | (simp; omega) | omega) (by go_simp)) (by omega) (by simp; omega) ?_; intro A2 c2 w5 hown5 hnx5 hgr5 hbl5)
            go_roundg (gk - 1)
            case measure => omega
            case rel => exact ⟨k + 1, A2, c2, by omega, by go_num, rfl, by rw [Hst.out]; exact hown5, hnx5 w (Nat.le_refl _) (N.alloc _)⟩
      · obtain rfl : k = n := by omega
        have he : (depL xs).take k = depL xs := List.take_of_length_le (by rw [depL_len, Hn.out]; exact Nat.le_refl _)
        have hdl : (depL xs).length = k := by rw [depL_len, Hn.out]
        have He := Lib.hid he
        have Hdl := Lib.hid hdl
        have Hown := Lib.hid hown
        clear he hdl hown
        go_wp2
        go_ret2
        exact ⟨O, oc, by rw [Hdl.out]; rfl, by have := Hown.out; rw [He.out] at this; exact this, N⟩
  · rw [tDepths_no ht]
    rw [decide_eq_false ht] at hv ⊢
    have Hv := Lib.hid hv
    clear hv hn hx ht
    go_enter Try.func28, Try.ntmps28
    go_wp2_with fail
    refine (Hv.out _ Hx.out).mono ?_
    rintro e w1 ⟨rfl, hn1⟩
    go_wp2
    go_ret2
    exact ⟨none, 0, rfl, OwnI.nil _ _ _, hn1⟩

section
variable {P : Program} {w : World} {ops : Array Oper} {o : Oper} {a : Act} {Q : Exit → Act → World → Prop} {K : Act → World → Prop} {E : Prop} {s x : Operand} {T t : TypeId} {i : TypeInfo} {z : Value} {base g : Nat} {A X : Option Addr} {c c' : Nat}
theorem stepI0 (hgd : o.guard = none) (ho : o.op = .call { callee := .builtin .append, args := #[s, x], argTypes := #[T, T] })
    (ht : P.underlying T = some (.slice t)) (hi : P.info? t = some i) (hs : a.eval s = .slice (some ⟨g, 0, none⟩) 0 0) (hx : a.eval x = .slice X 0 c') (h : K (a.put o.dst (.slice (some ⟨g, 0, none⟩) 0 0)) w) :
    if Region.wanted o (yielded ops a.tmps) = true then Oper.wp P o a w K Q else E := by
  have hw : Region.wanted o (yielded ops a.tmps) = true := by simp [Region.wanted, hgd]
  rw [if_pos hw]
  have hr : ∀ ty, (Builtin.append_ #[T, T] ty #[.slice (some ⟨g, 0, none⟩) 0 0, .slice X 0 c']).run P w = .ok (.slice (some ⟨g, 0, none⟩) 0 0) w := fun ty => by
    cases X <;> simp [Builtin.append_, run_underlying ht, sizeOf, typeInfo, hi, Builtin.lenOf, Builtin.firstCells, storeCells, loadCells, loadCellsFrom]
  unfold Oper.wp
  simp [execOp, ho, resolve, invoke, builtin, hs, hx, hr, Result.andThen]
  exact h
theorem stepInN (ys : List Int) (ny : Nat) (hny : ys.length = ny) (hgd : o.guard = none) (ho : o.op = .call { callee := .builtin .append, args := #[s, x], argTypes := #[T, T] })
    (ht : P.underlying T = some (.slice t)) (hi : P.info? t = some i) (hz : i.zero = some z) (hsize : i.size = 1) (hby : i.bytes = 8) (hzs : z.cells.size = 1)
    (hs : a.eval s = .slice (some ⟨g, 0, none⟩) 0 0) (hbase : base ≤ w.heap.size) (hx : a.eval x = .slice X ny c') (hy : IntsAt w X ys) (hm : 0 < ny) (hl : ny < 1073741824)
    (h : ∀ A' cc w', OwnI w' base t A' cc ys → Nx w w' → (∀ k, blk A' = some k → w.heap.size ≤ k ∧ k < w'.heap.size) → K (a.put o.dst (.slice A' ny cc)) w') :
    if Region.wanted o (yielded ops a.tmps) = true then Oper.wp P o a w K Q else E := by
  subst hny
  exact stepIn1 ys hgd ho ht hi hz hsize hby hzs hs hbase hx hy hm hl h
theorem stepIsN (es ys : List Int) (ne ny : Nat) (hne : es.length = ne) (hny : ys.length = ny) (hgd : o.guard = none) (ho : o.op = .call { callee := .builtin .append, args := #[s, x], argTypes := #[T, T] })
    (ht : P.underlying T = some (.slice t)) (hi : P.info? t = some i) (hz : i.zero = some z) (hsize : i.size = 1) (hby : i.bytes = 8) (hzs : z.cells.size = 1)
    (hs : a.eval s = .slice A ne c) (hown : OwnI w base t A c es) (hx : a.eval x = .slice X ny c') (hy : IntsAt w X ys) (hl : ne + ny < 1073741824) (hbase : base ≤ w.heap.size)
    (h : ∀ A' cc w', OwnI w' base t A' cc (es ++ ys) → w.grownBy w' (blk A) → (blk A' = blk A ∨ blk A' = some w.heap.size) → K (a.put o.dst (.slice A' (ne + ny) cc)) w') :
    if Region.wanted o (yielded ops a.tmps) = true then Oper.wp P o a w K Q else E := by
  subst hne hny
  exact stepIs es ys hgd ho ht hi hz hsize hby hzs hs hown hx hy hl hbase h
end

/-- where the stack lies -/
def StkAt (w : World) (O : Option Addr) (S : Option Addr) (sc : Nat) (s : List Int) : Prop := IntsAt w S s ∧ s.length ≤ sc ∧ (∀ q, blk S = some q → q < w.heap.size) ∧ ∀ q, blk O = some q → blk S ≠ some q
theorem StkAt.next {w4 w6 : World} {O A4 A6 : Option Addr} {c4 lo : Nat} {s : List Int} {u : Value} {t : TypeId} (h4 : OwnI w4 lo 3 A4 c4 s) (hO : ∀ k, blk O = some k → k < lo) (hg : (w4.alloc (.cells #[u] t)).grownBy w6 (blk O)) (hb : blk A6 = blk O ∨ blk A6 = some (w4.alloc (.cells #[u] t)).heap.size) : StkAt w6 A6 A4 c4 s := by
  have hlt := h4.lt
  have hz : w4.heap.size + 1 ≤ w6.heap.size := by have := hg.size; simpa using this
  have hne : ∀ q, blk O = some q → blk A4 ≠ some q := fun q hq e => by have := hO q hq; have := (hlt q e).1; omega
  refine ⟨?_, h4.cap, fun q hq => by have := (hlt q hq).2; omega, fun q hq e => ?_⟩
  · refine ((h4.nx (Nx.alloc (Nx.refl _) (.cells #[u] t))).kept hg ?_).intsAt
    cases hA : blk A4 with
    | none => exact .inl rfl
    | some a => exact .inr fun e => hne a e.symm hA
  · rcases hb with hb | hb
    · rw [hb] at hq; exact hne q hq e
    · rw [hb] at hq; injection hq with hq; have := (hlt q e).2; simp at hq; omega
set_option maxRecDepth 100000 in
set_option maxHeartbeats 4000000 in
theorem sTourDepths_c (A : Option Addr) (c n : Nat) (xs : List Int) (w : World) (hn : xs.length = n) (hc : n ≤ c) (hx : IntsAt w A xs) (hl : n ≤ 1048576) :
    Calls Try.prog 30 #[.slice A n c] w (RetIB (tDepths xs) (decide (TV xs)) w) := by
  have hv := fun w' h => sTourValid_c A c n xs w' hn hc h hl
  have Hx := Lib.hid hx
  by_cases ht : TV xs
  · rw [tDepths_yes ht]
    rw [decide_eq_true ht] at hv ⊢
    have hT := (tv_iff xs).1 ht
    have hn31 := ht.1.2.1
    have hn1 := ht.1.1
    rw [hn] at hn31 hn1
    obtain ⟨i0, hi0, hz0, hz1, hz2⟩ := info_parts infoI
    have Hi0 := Lib.hid hi0
    have Hz0 := Lib.hid hz0
    have Hz1 := Lib.hid hz1
    have Hz2 := Lib.hid hz2
    clear hi0 hz0 hz1 hz2
    obtain ⟨b, off, rfl, hb⟩ := hx.addr (by omega)
    have HT := Lib.hid hT
    have Hv := Lib.hid hv
    have Hn := Lib.hid hn
    have HL1 : ∀ z : Int, Hid ([z].length = 1) := fun z => Lib.hid rfl
    clear hv hn hx ht hT
    go_enter Try.func30, Try.ntmps30
    go_wp2_with fail
    refine (Hv.out _ (Hx.out.nx (by repeat (first | exact Nx.refl _ | assumption | apply Nx.alloc | apply Nx.drew | apply Nx.drewN | (refine Nx.setCell ?_ (by first | (simp; done) | (simp; omega) | omega) _) | refine Nx.trans ?_ (by assumption))))).mono ?_
    rintro e w1 ⟨rfl, hn1'⟩
    go_wp2
    have hN1 : Nx w w1 := (Nx.alloc (Nx.refl w) _).trans hn1'
    have hz1 : w.heap.size < w1.heap.size := by have := hn1'.size; simp at this; omega
    have ho0 : OwnI (w1.alloc (.cells #[] 3)) w.heap.size 3 (some ⟨w.heap.size, 0, none⟩) 0 [] := ((OwnI.empty w w.heap.size 3 (Nat.le_refl _)).nx hn1').nx (Nx.alloc (Nx.refl _) _)
    have N0 : Nx w (w1.alloc (.cells #[] 3)) := hN1.alloc _
    have hS0 : StkAt (w1.alloc (.cells #[] 3)) (some ⟨w.heap.size, 0, none⟩) (some ⟨w1.heap.size, 0, none⟩) 0 [] := ⟨fun h => by simp at h, by simp, fun q hq => by injection hq with hq; subst hq; simp, fun q hq e => by injection hq with hq; injection e with e; simp at hq e; omega⟩
    generalize w1.alloc (.cells #[] 3) = w2 at *
    go_loopg [4, 5, 6] n (fun gk o s i wr => ∃ (k m : Nat) (O : Option Addr) (oc : Nat) (S : Option Addr) (sc : Nat), k + gk = n ∧ i = .int .i64 k ∧ o = .slice O k oc ∧ s = .slice S m sc ∧ (stk (xs.take k)).length = m ∧ OwnI wr w.heap.size 3 O oc ((depL xs).take k) ∧ StkAt wr O S sc (stk (xs.take k)) ∧ Nx w wr)
    case atStart => exact ⟨0, 0, _, 0, _, 0, by omega, rfl, rfl, rfl, rfl, ho0, hS0, N0⟩
    case round =>
      clear ho0 N0 hS0
      obtain ⟨k, m, O, oc, S, sc, hk, rfl, rfl, rfl, hm, hown, hS, N⟩ := hrel
      have hzN := N.size
      have hmk : m ≤ k := by rw [← hm]; exact stk_len_le xs k
      by_cases hlt : k < n
      · have hlen : ((depL xs).take k).length = k := depL_take_len (by omega) Hn.out
        have hst := depL_take (L := xs) (k := k) (by have := Hn.out; omega)
        obtain ⟨x, hek⟩ : ∃ x, xs[k]? = some x := ⟨_, List.getElem?_eq_getElem (by have := Hn.out; omega)⟩
        have hsn := stk_take hek
        have hdn : depN xs k = (stk (xs.take (k + 1))).length - 1 := rfl
        have hone := (stk_inv HT.out k (by have := Hn.out; omega)).one
        obtain ⟨b', off', e, _, r1⟩ := (Hx.out.nx N).rd hek
        injection e with e
        injection e with e1 e2
        subst e1 e2
        have Hown := Lib.hid hown
        have Hlen := Lib.hid hlen
        have hlo := hown.lt
        have Hlo := Lib.hid hlo
        have hS1 := hS.1
        have hS2 := hS.2.1
        have HS3 := Lib.hid hS.2.2.1
        have HS4 := Lib.hid hS.2.2.2
        have Hd := Lib.hid hdn
        generalize stk (xs.take k) = s at *
        generalize hsE : stk (xs.take (k + 1)) = s' at *
        have HsE := Lib.hid hsE.symm
        clear hsE
        generalize depN xs k = d at *
        have Hst := Lib.hid hst
        have Hsn := Lib.hid hsn
        have Hm := Lib.hid hm
        have HSa := Lib.hid hS1
        have Hone := Lib.hid hone
        clear hown hlen hlo hS hst hsn hdn hek hone hS1
        by_cases hm1 : 1 < m
        · obtain ⟨y, hey⟩ : ∃ y, s[m - 2]? = some y := ⟨_, List.getElem?_eq_getElem (by have := Hm.out; omega)⟩
          obtain ⟨bs, os, rfl, hbs, q1⟩ := HSa.out.rd hey
          obtain ⟨j, hj⟩ : ∃ j, m - 2 = j := ⟨_, rfl⟩
          have hw2 : IntKind.i64.wrap ((m : Int) - 2) = (j : Int) := by rw [IntKind.wrap_i64]; omega
          have hw1 : IntKind.i64.wrap ((m : Int) - 1) = ((m - 1 : Nat) : Int) := by rw [IntKind.wrap_i64]; omega
          have hjm : j < m := by omega
          rw [hj] at q1 hey
          have Hj := Lib.hid hj
          have Hey := Lib.hid hey
          have Hw2 := Lib.hid hw2
          have Hw1 := Lib.hid hw1
          have hm1i : decide ((1 : Int) < (m : Int)) = true := decide_eq_true (by omega)
          clear hj hey hw2 hw1
          by_cases hq : y = x
          · subst hq
            have hs' : s' = s.dropLast := by
              rw [Hsn.out]; unfold stkStep
              rw [if_pos ⟨by have := Hm.out; omega, by rw [Hm.out, Hj.out]; exact Hey.out⟩]
            have Hs' := Lib.hid hs'
            clear hs'
            go_wp2
            have hw2 := Hw2.out
            go_quiet (fail)
            clear hw2
            generalize hW : World.drewN _ _ = w3
            have n3 : Nx wr w3 := by subst hW; exact (by repeat (first | exact Nx.refl _ | assumption | apply Nx.alloc | apply Nx.drew | apply Nx.drewN | (refine Nx.setCell ?_ (by first | (simp; done) | (simp; omega) | omega) _) | refine Nx.trans ?_ (by assumption)))
            clear hW
            have hsz3 := n3.size
            have hw1 := Hw1.out
            obtain ⟨m', hm'⟩ : ∃ m', m - 1 = m' := ⟨_, rfl⟩
            rw [hm'] at hw1
            have hmm : (m : Int) - 1 = (m' : Int) := by omega
            have hm'c : m' ≤ sc := by omega
            have hi1 : (m' : Int) ≤ (sc : Int) := by omega
            have hsl : s'.length = m' := by rw [Hs'.out, List.length_dropLast, Hm.out, hm']
            have Hsl := Lib.hid hsl
            have hse : s' = s.take m' := by rw [Hs'.out, List.dropLast_eq_take, Hm.out, hm']
            have HSt := Lib.hid (show IntsAt w3 (some ⟨bs, os, none⟩) s' from hse ▸ ((HSa.out.nx n3).take m'))
            have HL0 : Hid (([] : List Int).length = 0) := Lib.hid rfl
            clear hsl hse hm'
            go_wp2_with (first
              | (at_builtin; refine appIn (base := w3.heap.size) (t := 3) (c' := sc) [] s' 0 m' HL0.out Hsl.out rfl rfl Try.underlying23 Hi0.out Hz0.out Hz1.out Hz2.out rfl rfl (OwnI.empty w3 w3.heap.size 3 (Nat.le_refl _)) rfl (HSt.out.nx (by (repeat (first | exact Nx.refl _ | assumption | apply Nx.alloc | apply Nx.drew | apply Nx.drewN | (refine Nx.setCell ?_ (by first | (simp; done) | (simp; omega) | omega) _) | refine Nx.trans ?_ (by assumption))); done)) (by omega) (by simp) ?_; intro A4 c4 w4 hown4 hnx4 hgr4 hbl4; have N4 := hnx4 w3 (Nat.le_refl _) (by (repeat (first | exact Nx.refl _ | assumption | apply Nx.alloc | apply Nx.drew | apply Nx.drewN | (refine Nx.setCell ?_ (by first | (simp; done) | (simp; omega) | omega) _) | refine Nx.trans ?_ (by assumption))); done); rw [List.nil_append] at hown4; have HO4 := Lib.hid hown4; clear hown4; have hz4 := N4.size)
              | (at_builtin; refine appIn (base := w.heap.size) (t := 3) (c' := 1) ((depL xs).take k) [(m' : Int) - 1] k 1 Hlen.out rfl rfl rfl Try.underlying23 Hi0.out Hz0.out Hz1.out Hz2.out rfl rfl (Hown.out.nx (by (repeat (first | exact Nx.refl _ | assumption | apply Nx.alloc | apply Nx.drew | apply Nx.drewN | (refine Nx.setCell ?_ (by first | (simp; done) | (simp; omega) | omega) _) | refine Nx.trans ?_ (by assumption))); done)) rfl (intsOne (by first | (simp; done) | (simp; omega) | omega) (by go_simp)) (by omega) (by simp; omega) ?_; intro A6 c6 w6 hown6 hnx6 hgr6 hbl6; have HO6 := Lib.hid hown6; clear hown6; have hz6 := hgr6.size))
            go_roundg (gk - 1)
            case measure => omega
            case rel =>
              have hm'1 : 1 ≤ m' := by have := Hone.out; rw [Hsl.out] at this; exact this
              have hN6 : Nx w w6 := hnx6 w (Nat.le_refl _) (by exact (by repeat (first | exact Nx.refl _ | assumption | apply Nx.alloc | apply Nx.drew | apply Nx.drewN | (refine Nx.setCell ?_ (by first | (simp; done) | (simp; omega) | omega) _) | refine Nx.trans ?_ (by assumption))))
              have hd : (d : Int) = (m' : Int) - 1 := by rw [Hd.out, Hsl.out]; omega
              have hfin := StkAt.next HO4.out (fun q hq => Nat.lt_of_lt_of_le (Hlo.out q hq).2 hsz3) hgr6 hbl6
              refine ⟨k + 1, m', A6, c6, A4, c4, by omega, by go_num, rfl, (by first | rfl | (simp; done)), by rw [← HsE.out]; exact Hsl.out, by rw [Hst.out, hd]; exact HO6.out, by rw [← HsE.out]; exact hfin, hN6⟩
          · have hs' : s' = s ++ [x] := by
              rw [Hsn.out]; unfold stkStep
              rw [if_neg]
              rintro ⟨_, h⟩
              rw [Hm.out, Hj.out, Hey.out] at h
              injection h with h
              exact hq h
            have hq2 : (y == x) = false := by simpa using hq
            have Hs' := Lib.hid hs'
            clear hs' hq
            have hm0 : 0 < m := by omega
            go_wp2
            have hw2 := Hw2.out
            go_quiet (fail)
            clear hw2
            generalize hW : World.drewN _ _ = w3
            have n3 : Nx wr w3 := by subst hW; exact (by repeat (first | exact Nx.refl _ | assumption | apply Nx.alloc | apply Nx.drew | apply Nx.drewN | (refine Nx.setCell ?_ (by first | (simp; done) | (simp; omega) | omega) _) | refine Nx.trans ?_ (by assumption)))
            clear hW q1
            have r1 := n3.cell (p := ⟨b, off + k, none⟩) (by have := hn1'.size; omega) r1
            have hsz3 := n3.size
            have HSa3 := Lib.hid (HSa.out.nx n3)
            have hs'l : s'.length = m + 1 := by rw [Hs'.out, List.length_append, Hm.out]; rfl
            have Hsl := Lib.hid hs'l
            clear hs'l
            have hbz : b < w3.heap.size := by have := hn1'.size; omega
            have kp : ∀ w', Nx w3 w' → (fun w_ => Nx w3 w_ ∧ w_.cell? ⟨b, off + k, none⟩ = some (V x)) w' := fun w' h => ⟨h, h.cell (p := ⟨b, off + k, none⟩) hbz r1⟩
            go_upto_region 10 with (fail)
            go_cut [5] from 42 to 50 (fun s5 wc => ∃ (A4 : Option Addr) (c4 : Nat), s5 = .slice A4 (m + 1) c4 ∧ OwnI wc w3.heap.size 3 A4 c4 s' ∧ Nx w3 wc)
            case first =>
              have hi := Hi0.out
              have hz0 := Hz0.out
              have hz1 := Hz1.out
              have hz2 := Hz2.out
              go_region_held3 (fun w_ => Nx w3 w_ ∧ w_.cell? ⟨b, off + k, none⟩ = some (V x))
                (exact kp _ (by (repeat (first | exact Nx.refl _ | assumption | apply Nx.alloc | apply Nx.drew | apply Nx.drewN | (refine Nx.setCell ?_ (by first | (simp; done) | (simp; omega) | omega) _) | refine Nx.trans ?_ (by assumption))); done))
                (first
                  | (refine stepInN (c' := sc) (X := (some ⟨bs, os, none⟩)) (base := w3.heap.size) s m Hm.out rfl rfl Try.underlying23 hi hz0 hz1 hz2 rfl rfl (Nx.size (a := w3) (by exact (by (repeat (first | exact Nx.refl _ | assumption | apply Nx.alloc | apply Nx.drew | apply Nx.drewN | (refine Nx.setCell ?_ (by first | (simp; done) | (simp; omega) | omega) _) | refine Nx.trans ?_ (by assumption))); done))) rfl (HSa3.out.nx (by (repeat (first | exact Nx.refl _ | assumption | apply Nx.alloc | apply Nx.drew | apply Nx.drewN | (refine Nx.setCell ?_ (by first | (simp; done) | (simp; omega) | omega) _) | refine Nx.trans ?_ (by assumption))); done)) hm0 (by omega) ?_; intro A4 c4 w4 o4 n4 b4; have O4 := o4; have N4 : Nx w3 w4 := (by exact Nx.trans (by (repeat (first | exact Nx.refl _ | assumption | apply Nx.alloc | apply Nx.drew | apply Nx.drewN | (refine Nx.setCell ?_ (by first | (simp; done) | (simp; omega) | omega) _) | refine Nx.trans ?_ (by assumption))); done) n4); obtain ⟨hc4, hf4, hz4⟩ := n4.rules; (try simp [size_drew_] at hz4))
                  | (refine stepIsN (base := w3.heap.size) (c' := 1) s [x] m 1 Hm.out rfl rfl rfl Try.underlying23 hi hz0 hz1 hz2 rfl rfl (O4.nx (by (repeat (first | exact Nx.refl _ | assumption | apply Nx.alloc | apply Nx.drew | apply Nx.drewN | (refine Nx.setCell ?_ (by first | (simp; done) | (simp; omega) | omega) _) | refine Nx.trans ?_ (by assumption))); done)) rfl (intsOne (by first | (simp; done) | omega | (simp; omega) | (simp [size_drew_]; done) | (simp [size_drew_]; omega)) (by go_simp)) (by omega) (Nx.size (a := w3) (by exact (by (repeat (first | exact Nx.refl _ | assumption | apply Nx.alloc | apply Nx.drew | apply Nx.drewN | (refine Nx.setCell ?_ (by first | (simp; done) | (simp; omega) | omega) _) | refine Nx.trans ?_ (by assumption))); done))) ?_; intro A5 c5 w5 o5 g5 b5; have N5 : Nx w3 w5 := (Nx.grown (by exact (by (repeat (first | exact Nx.refl _ | assumption | apply Nx.alloc | apply Nx.drew | apply Nx.drewN | (refine Nx.setCell ?_ (by first | (simp; done) | (simp; omega) | omega) _) | refine Nx.trans ?_ (by assumption))); done)) g5 (fun q hq => (O4.lt q hq).1))))
              all_goals go_wp2
              all_goals go_meet
              all_goals exact ⟨A5, c5, rfl, by rw [Hs'.out]; exact o5, N5⟩
            obtain ⟨A4, c4, rfl, ho4, N4⟩ := hcut
            obtain ⟨w4, hw4⟩ : ∃ v, v = wc := ⟨_, rfl⟩
            subst hw4
            have HO4 := Lib.hid ho4
            have hz4 := N4.size
            clear kp r1 ho4
            obtain ⟨m', hm'⟩ : ∃ m', m + 1 = m' := ⟨_, rfl⟩
            rw [hm'] at Hsl
            rw [hm']
            have hmm : (m' : Int) - 1 = (m : Int) := by omega
            have hm'z : m' ≤ 1000 := by omega
            have hm'1 : 1 ≤ m' := by omega
            clear hm'
            go_wp2_with (first
              | (at_builtin; refine appIn (base := w.heap.size) (t := 3) (c' := 1) ((depL xs).take k) [(m' : Int) - 1] k 1 Hlen.out rfl rfl rfl Try.underlying23 Hi0.out Hz0.out Hz1.out Hz2.out rfl rfl (Hown.out.nx (by (repeat (first | exact Nx.refl _ | assumption | apply Nx.alloc | apply Nx.drew | apply Nx.drewN | (refine Nx.setCell ?_ (by first | (simp; done) | (simp; omega) | omega) _) | refine Nx.trans ?_ (by assumption))); done)) rfl (intsOne (by first | (simp; done) | (simp; omega) | omega) (by go_simp)) (by omega) (by simp; omega) ?_; intro A6 c6 w6 hown6 hnx6 hgr6 hbl6; have HO6 := Lib.hid hown6; clear hown6; have hz6 := hgr6.size))
            go_roundg (gk - 1)
            case measure => omega
            case rel =>
              have hm'1 : 1 ≤ m' := by have := Hone.out; rw [Hsl.out] at this; exact this
              have hN6 : Nx w w6 := hnx6 w (Nat.le_refl _) (by exact (by repeat (first | exact Nx.refl _ | assumption | apply Nx.alloc | apply Nx.drew | apply Nx.drewN | (refine Nx.setCell ?_ (by first | (simp; done) | (simp; omega) | omega) _) | refine Nx.trans ?_ (by assumption))))
              have hd : (d : Int) = (m' : Int) - 1 := by rw [Hd.out, Hsl.out]; omega
              have hfin := StkAt.next HO4.out (fun q hq => Nat.lt_of_lt_of_le (Hlo.out q hq).2 hsz3) hgr6 hbl6
              refine ⟨k + 1, m', A6, c6, A4, c4, by omega, by go_num, rfl, (by first | rfl | (simp; done)), by rw [← HsE.out]; exact Hsl.out, by rw [Hst.out, hd]; exact HO6.out, by rw [← HsE.out]; exact hfin, hN6⟩
        · have hm1i : decide ((1 : Int) < (m : Int)) = false := decide_eq_false (by omega)
          have hs' : s' = s ++ [x] := by
            rw [Hsn.out]; unfold stkStep
            rw [if_neg]
            rintro ⟨h, _⟩
            rw [Hm.out] at h
            exact hm1 h
          have Hs' := Lib.hid hs'
          clear hs'
          by_cases hm0 : 0 < m
          · go_wp2
            go_quiet (fail)
            generalize hW : World.drewN _ _ = w3
            have n3 : Nx wr w3 := by subst hW; exact (by repeat (first | exact Nx.refl _ | assumption | apply Nx.alloc | apply Nx.drew | apply Nx.drewN | (refine Nx.setCell ?_ (by first | (simp; done) | (simp; omega) | omega) _) | refine Nx.trans ?_ (by assumption)))
            clear hW
            have r1 := n3.cell (p := ⟨b, off + k, none⟩) (by have := hn1'.size; omega) r1
            have hsz3 := n3.size
            have HSa3 := Lib.hid (HSa.out.nx n3)
            have hs'l : s'.length = m + 1 := by rw [Hs'.out, List.length_append, Hm.out]; rfl
            have Hsl := Lib.hid hs'l
            clear hs'l
            have hbz : b < w3.heap.size := by have := hn1'.size; omega
            have kp : ∀ w', Nx w3 w' → (fun w_ => Nx w3 w_ ∧ w_.cell? ⟨b, off + k, none⟩ = some (V x)) w' := fun w' h => ⟨h, h.cell (p := ⟨b, off + k, none⟩) hbz r1⟩
            go_upto_region 10 with (fail)
            go_cut [5] from 42 to 50 (fun s5 wc => ∃ (A4 : Option Addr) (c4 : Nat), s5 = .slice A4 (m + 1) c4 ∧ OwnI wc w3.heap.size 3 A4 c4 s' ∧ Nx w3 wc)
            case first =>
              have hi := Hi0.out
              have hz0 := Hz0.out
              have hz1 := Hz1.out
              have hz2 := Hz2.out
              go_region_held3 (fun w_ => Nx w3 w_ ∧ w_.cell? ⟨b, off + k, none⟩ = some (V x))
                (exact kp _ (by (repeat (first | exact Nx.refl _ | assumption | apply Nx.alloc | apply Nx.drew | apply Nx.drewN | (refine Nx.setCell ?_ (by first | (simp; done) | (simp; omega) | omega) _) | refine Nx.trans ?_ (by assumption))); done))
                (first
                  | (refine stepInN (c' := sc) (X := S) (base := w3.heap.size) s m Hm.out rfl rfl Try.underlying23 hi hz0 hz1 hz2 rfl rfl (Nx.size (a := w3) (by exact (by (repeat (first | exact Nx.refl _ | assumption | apply Nx.alloc | apply Nx.drew | apply Nx.drewN | (refine Nx.setCell ?_ (by first | (simp; done) | (simp; omega) | omega) _) | refine Nx.trans ?_ (by assumption))); done))) rfl (HSa3.out.nx (by (repeat (first | exact Nx.refl _ | assumption | apply Nx.alloc | apply Nx.drew | apply Nx.drewN | (refine Nx.setCell ?_ (by first | (simp; done) | (simp; omega) | omega) _) | refine Nx.trans ?_ (by assumption))); done)) hm0 (by omega) ?_; intro A4 c4 w4 o4 n4 b4; have O4 := o4; have N4 : Nx w3 w4 := (by exact Nx.trans (by (repeat (first | exact Nx.refl _ | assumption | apply Nx.alloc | apply Nx.drew | apply Nx.drewN | (refine Nx.setCell ?_ (by first | (simp; done) | (simp; omega) | omega) _) | refine Nx.trans ?_ (by assumption))); done) n4); obtain ⟨hc4, hf4, hz4⟩ := n4.rules; (try simp [size_drew_] at hz4))
                  | (refine stepIsN (base := w3.heap.size) (c' := 1) s [x] m 1 Hm.out rfl rfl rfl Try.underlying23 hi hz0 hz1 hz2 rfl rfl (O4.nx (by (repeat (first | exact Nx.refl _ | assumption | apply Nx.alloc | apply Nx.drew | apply Nx.drewN | (refine Nx.setCell ?_ (by first | (simp; done) | (simp; omega) | omega) _) | refine Nx.trans ?_ (by assumption))); done)) rfl (intsOne (by first | (simp; done) | omega | (simp; omega) | (simp [size_drew_]; done) | (simp [size_drew_]; omega)) (by go_simp)) (by omega) (Nx.size (a := w3) (by exact (by (repeat (first | exact Nx.refl _ | assumption | apply Nx.alloc | apply Nx.drew | apply Nx.drewN | (refine Nx.setCell ?_ (by first | (simp; done) | (simp; omega) | omega) _) | refine Nx.trans ?_ (by assumption))); done))) ?_; intro A5 c5 w5 o5 g5 b5; have N5 : Nx w3 w5 := (Nx.grown (by exact (by (repeat (first | exact Nx.refl _ | assumption | apply Nx.alloc | apply Nx.drew | apply Nx.drewN | (refine Nx.setCell ?_ (by first | (simp; done) | (simp; omega) | omega) _) | refine Nx.trans ?_ (by assumption))); done)) g5 (fun q hq => (O4.lt q hq).1))))
              all_goals go_wp2
              all_goals go_meet
              all_goals exact ⟨A5, c5, rfl, by rw [Hs'.out]; exact o5, N5⟩
            obtain ⟨A4, c4, rfl, ho4, N4⟩ := hcut
            obtain ⟨w4, hw4⟩ : ∃ v, v = wc := ⟨_, rfl⟩
            subst hw4
            have HO4 := Lib.hid ho4
            have hz4 := N4.size
            clear kp r1 ho4
            obtain ⟨m', hm'⟩ : ∃ m', m + 1 = m' := ⟨_, rfl⟩
            rw [hm'] at Hsl
            rw [hm']
            have hmm : (m' : Int) - 1 = (m : Int) := by omega
            have hm'z : m' ≤ 1000 := by omega
            have hm'1 : 1 ≤ m' := by omega
            clear hm'
            go_wp2_with (first
              | (at_builtin; refine appIn (base := w.heap.size) (t := 3) (c' := 1) ((depL xs).take k) [(m' : Int) - 1] k 1 Hlen.out rfl rfl rfl Try.underlying23 Hi0.out Hz0.out Hz1.out Hz2.out rfl rfl (Hown.out.nx (by (repeat (first | exact Nx.refl _ | assumption | apply Nx.alloc | apply Nx.drew | apply Nx.drewN | (refine Nx.setCell ?_ (by first | (simp; done) | (simp; omega) | omega) _) | refine Nx.trans ?_ (by assumption))); done)) rfl (intsOne (by first | (simp; done) | (simp; omega) | omega) (by go_simp)) (by omega) (by simp; omega) ?_; intro A6 c6 w6 hown6 hnx6 hgr6 hbl6; have HO6 := Lib.hid hown6; clear hown6; have hz6 := hgr6.size))
            go_roundg (gk - 1)
            case measure => omega
            case rel =>
              have hm'1 : 1 ≤ m' := by have := Hone.out; rw [Hsl.out] at this; exact this
              have hN6 : Nx w w6 := hnx6 w (Nat.le_refl _) (by exact (by repeat (first | exact Nx.refl _ | assumption | apply Nx.alloc | apply Nx.drew | apply Nx.drewN | (refine Nx.setCell ?_ (by first | (simp; done) | (simp; omega) | omega) _) | refine Nx.trans ?_ (by assumption))))
              have hd : (d : Int) = (m' : Int) - 1 := by rw [Hd.out, Hsl.out]; omega
              have hfin := StkAt.next HO4.out (fun q hq => Nat.lt_of_lt_of_le (Hlo.out q hq).2 hsz3) hgr6 hbl6
              refine ⟨k + 1, m', A6, c6, A4, c4, by omega, by go_num, rfl, (by first | rfl | (simp; done)), by rw [← HsE.out]; exact Hsl.out, by rw [Hst.out, hd]; exact HO6.out, by rw [← HsE.out]; exact hfin, hN6⟩
          · obtain rfl : m = 0 := by omega
            have hs0 : s = [] := List.eq_nil_of_length_eq_zero Hm.out
            have hz30 : (0 : Nat) < 1 := by omega
            subst hs0
            have Hsl : Hid (s'.length = 1) := Lib.hid (by rw [Hs'.out]; rfl)
            go_wp2
            go_quiet (fail)
            generalize hW : World.drewN _ _ = w3
            have n3 : Nx wr w3 := by subst hW; exact (by repeat (first | exact Nx.refl _ | assumption | apply Nx.alloc | apply Nx.drew | apply Nx.drewN | (refine Nx.setCell ?_ (by first | (simp; done) | (simp; omega) | omega) _) | refine Nx.trans ?_ (by assumption)))
            clear hW
            have r1 := n3.cell (p := ⟨b, off + k, none⟩) (by have := hn1'.size; omega) r1
            have hsz3 := n3.size
            have hbz : b < w3.heap.size := by have := hn1'.size; omega
            have kp : ∀ w', Nx w3 w' → (fun w_ => Nx w3 w_ ∧ w_.cell? ⟨b, off + k, none⟩ = some (V x)) w' := fun w' h => ⟨h, h.cell (p := ⟨b, off + k, none⟩) hbz r1⟩
            have HL1x : Hid ([x].length = 1) := Lib.hid rfl
            go_upto_region 10 with (fail)
            go_cut [5] from 42 to 50 (fun s5 wc => ∃ (A4 : Option Addr) (c4 : Nat), s5 = .slice A4 1 c4 ∧ OwnI wc w3.heap.size 3 A4 c4 s' ∧ Nx w3 wc)
            case first =>
              have hi := Hi0.out
              have hz0 := Hz0.out
              have hz1 := Hz1.out
              have hz2 := Hz2.out
              go_region_held3 (fun w_ => Nx w3 w_ ∧ w_.cell? ⟨b, off + k, none⟩ = some (V x))
                (exact kp _ (by (repeat (first | exact Nx.refl _ | assumption | apply Nx.alloc | apply Nx.drew | apply Nx.drewN | (refine Nx.setCell ?_ (by first | (simp; done) | (simp; omega) | omega) _) | refine Nx.trans ?_ (by assumption))); done))
                (first
                  | (refine stepI0 (c' := sc) rfl rfl Try.underlying23 hi rfl rfl ?_)
                  | (refine stepInN (c' := 1) (base := w3.heap.size) [x] 1 HL1x.out rfl rfl Try.underlying23 hi hz0 hz1 hz2 rfl rfl (Nx.size (a := w3) (by exact (by (repeat (first | exact Nx.refl _ | assumption | apply Nx.alloc | apply Nx.drew | apply Nx.drewN | (refine Nx.setCell ?_ (by first | (simp; done) | (simp; omega) | omega) _) | refine Nx.trans ?_ (by assumption))); done))) rfl (intsOne (by first | (simp; done) | omega | (simp; omega) | (simp [size_drew_]; done) | (simp [size_drew_]; omega)) (by go_simp)) hz30 (by omega) ?_; intro A5 c5 w5 o5 n5 b5; have N5 : Nx w3 w5 := (by exact Nx.trans (by (repeat (first | exact Nx.refl _ | assumption | apply Nx.alloc | apply Nx.drew | apply Nx.drewN | (refine Nx.setCell ?_ (by first | (simp; done) | (simp; omega) | omega) _) | refine Nx.trans ?_ (by assumption))); done) n5)))
              all_goals go_wp2
              all_goals go_meet
              all_goals exact ⟨A5, c5, rfl, by rw [Hs'.out]; exact o5, N5⟩
            obtain ⟨A4, c4, rfl, ho4, N4⟩ := hcut
            obtain ⟨w4, hw4⟩ : ∃ v, v = wc := ⟨_, rfl⟩
            subst hw4
            have HO4 := Lib.hid ho4
            have hz4 := N4.size
            clear kp r1 ho4
            obtain ⟨m', hm'⟩ : ∃ m', 1 = m' := ⟨_, rfl⟩
            rw [hm'] at Hsl
            rw [hm']
            have hm'z : m' ≤ 1000 := by omega
            have hm'1 : 1 ≤ m' := by omega
            clear hm'
            go_wp2_with (first
              | (at_builtin; refine appIn (base := w.heap.size) (t := 3) (c' := 1) ((depL xs).take k) [(m' : Int) - 1] k 1 Hlen.out rfl rfl rfl Try.underlying23 Hi0.out Hz0.out Hz1.out Hz2.out rfl rfl (Hown.out.nx (by (repeat (first | exact Nx.refl _ | assumption | apply Nx.alloc | apply Nx.drew | apply Nx.drewN | (refine Nx.setCell ?_ (by first | (simp; done) | (simp; omega) | omega) _) | refine Nx.trans ?_ (by assumption))); done)) rfl (intsOne (by first | (simp; done) | (simp; omega) | omega) (by go_simp)) (by omega) (by simp; omega) ?_; intro A6 c6 w6 hown6 hnx6 hgr6 hbl6; have HO6 := Lib.hid hown6; clear hown6; have hz6 := hgr6.size))
            go_roundg (gk - 1)
            case measure => omega
            case rel =>
              have hm'1 : 1 ≤ m' := by have := Hone.out; rw [Hsl.out] at this; exact this
              have hN6 : Nx w w6 := hnx6 w (Nat.le_refl _) (by exact (by repeat (first | exact Nx.refl _ | assumption | apply Nx.alloc | apply Nx.drew | apply Nx.drewN | (refine Nx.setCell ?_ (by first | (simp; done) | (simp; omega) | omega) _) | refine Nx.trans ?_ (by assumption))))
              have hd : (d : Int) = (m' : Int) - 1 := by rw [Hd.out, Hsl.out]; omega
              have hfin := StkAt.next HO4.out (fun q hq => Nat.lt_of_lt_of_le (Hlo.out q hq).2 hsz3) hgr6 hbl6
              refine ⟨k + 1, m', A6, c6, A4, c4, by omega, by go_num, rfl, (by first | rfl | (simp; done)), by rw [← HsE.out]; exact Hsl.out, by rw [Hst.out, hd]; exact HO6.out, by rw [← HsE.out]; exact hfin, hN6⟩
      · obtain rfl : k = n := by omega
        have he : (depL xs).take k = depL xs := List.take_of_length_le (by rw [depL_len, Hn.out]; exact Nat.le_refl _)
        have hdl : (depL xs).length = k := by rw [depL_len, Hn.out]
        have He := Lib.hid he
        have Hdl := Lib.hid hdl
        have Hown := Lib.hid hown
        clear he hdl hown hS
        go_wp2
        go_ret2
        exact ⟨O, oc, by rw [Hdl.out]; rfl, by have := Hown.out; rw [He.out] at this; exact this, N⟩
  · rw [tDepths_no ht]
    rw [decide_eq_false ht] at hv ⊢
    have Hv := Lib.hid hv
    clear hv hn hx ht
    go_enter Try.func30, Try.ntmps30
    go_wp2_with fail
    refine (Hv.out _ (Hx.out.nx (by repeat (first | exact Nx.refl _ | assumption | apply Nx.alloc | apply Nx.drew | apply Nx.drewN | (refine Nx.setCell ?_ (by first | (simp; done) | (simp; omega) | omega) _) | refine Nx.trans ?_ (by assumption))))).mono ?_
    rintro e w1 ⟨rfl, hn1⟩
    go_wp2
    go_ret2
    exact ⟨_, 0, rfl, ((OwnI.empty w w.heap.size 3 (Nat.le_refl _)).nx hn1), (Nx.alloc (Nx.refl w) _).trans hn1⟩
end Go.Proofs.Ytbceoigmcomlbaa
