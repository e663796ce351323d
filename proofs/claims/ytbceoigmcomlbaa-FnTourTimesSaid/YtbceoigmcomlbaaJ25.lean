import Derived.Test.YtbceoigmcomlbaaJ20
import Derived.Test.YtbceoigmcomlbaaJ23
import Derived.Test.YtbceoigmcomlbaaJ24
/- Contracts: TourEdges and TurnTour, of both. -/
namespace Go.Proofs.Ytbceoigmcomlbaa
open Go.RowKit set_option linter.unusedVariables false set_option linter.unusedSimpArgs false

theorem IntsAt.sub {w : World} {b off : Nat} {xs : List Int} (h : IntsAt w (some ⟨b, off, none⟩) xs) (i j : Nat) : IntsAt w (some ⟨b, off + i, none⟩) ((xs.take j).drop i) := fun h0 => by
  rw [List.length_drop, List.length_take] at h0
  obtain ⟨b', off', e, hb, hc⟩ := h (by omega)
  injection e with e
  injection e with e1 e2
  subst e1 e2
  refine ⟨b, off + i, rfl, hb, fun k hk => ?_⟩
  rw [List.length_drop, List.length_take] at hk
  rw [List.getElem_drop, List.getElem_take, Nat.add_assoc]
  exact hc (i + k) (by omega)
theorem IntsAt.tail {w : World} {b off : Nat} {xs : List Int} (h : IntsAt w (some ⟨b, off, none⟩) xs) (i : Nat) : IntsAt w (some ⟨b, off + i, none⟩) (xs.drop i) := by
  have := h.sub i xs.length
  rwa [List.take_length] at this
theorem intsOne {w : World} {b : Nat} {x : Int} (hb : b < w.heap.size) (h : w.cell? ⟨b, 0, none⟩ = some (V x)) : IntsAt w (some ⟨b, 0, none⟩) [x] := fun _ => ⟨b, 0, rfl, hb, fun k hk => by
  obtain rfl : k = 0 := by simp at hk; omega
  exact h⟩
theorem IntsAt.addr {w : World} {A : Option Addr} {xs : List Int} (h : IntsAt w A xs) (h0 : 0 < xs.length) : ∃ b off, A = some ⟨b, off, none⟩ ∧ b < w.heap.size := by
  obtain ⟨b, off, e, hb, _⟩ := h h0
  exact ⟨b, off, e, hb⟩

section
variable {P : Program} {w : World} {ops : Array Oper} {rest : List Oper} {o : Oper} {a : Act} {Q : Exit → Act → World → Prop} {s x : Operand} {T t : TypeId} {i : TypeInfo} {z : Value} {base : Nat} {A X : Option Addr} {c c' : Nat}
/-- append of numbers, the lengths by name -/
theorem appIn (es ys : List Int) (ne ny : Nat) (hne : es.length = ne) (hny : ys.length = ny) (hgd : o.guard = none) (ho : o.op = .call { callee := .builtin .append, args := #[s, x], argTypes := #[T, T] })
    (ht : P.underlying T = some (.slice t)) (hi : P.info? t = some i) (hz : i.zero = some z) (hsize : i.size = 1) (hby : i.bytes = 8) (hzs : z.cells.size = 1)
    (hs : a.eval s = .slice A ne c) (hown : OwnI w base t A c es) (hx : a.eval x = .slice X ny c') (hy : IntsAt w X ys) (hl : ne + ny < 1073741824) (hbase : base ≤ w.heap.size)
    (h : ∀ A' cc w', OwnI w' base t A' cc (es ++ ys) → (∀ B, B.heap.size ≤ base → Nx B w → Nx B w') → w.grownBy w' (blk A) → (blk A' = blk A ∨ blk A' = some w.heap.size) → wpList P ops Q rest (a.put o.dst (.slice A' (ne + ny) cc)) w') :
    wpList P ops Q (o :: rest) a w := by
  subst hne hny
  exact appIs es ys hgd ho ht hi hz hsize hby hzs hs hown hx hy hl hbase h
end

/-- a row of edges, and whether it is one -/
def RetEB (es : Es) (b : Bool) (w : World) (e : Ending) (w' : World) : Prop := ∃ A c, e = .returned (.tuple #[.slice A es.length c, .bool b]) ∧ OwnE w' w.heap.size 30 A c es ∧ Nx w w'
/-- a row of numbers, and whether it is one -/
def RetIB (xs : List Int) (b : Bool) (w : World) (e : Ending) (w' : World) : Prop := ∃ A c, e = .returned (.tuple #[.slice A xs.length c, .bool b]) ∧ OwnI w' w.heap.size 3 A c xs ∧ Nx w w'

theorem concat3_c (g : Nat) (A1 A2 A3 : Option Addr) (n1 n2 n3 c1 c2 c3 : Nat) (X Y Z : List Int) (w : World) (l1 : X.length = n1) (l2 : Y.length = n2) (l3 : Z.length = n3) (hl : n1 + n2 + n3 ≤ 1048576) (hg : g < w.heap.size)
    (h1 : w.cell? ⟨g, 0, none⟩ = some (.slice A1 n1 c1)) (h2 : w.cell? ⟨g, 1, none⟩ = some (.slice A2 n2 c2)) (h3 : w.cell? ⟨g, 2, none⟩ = some (.slice A3 n3 c3)) (i1 : IntsAt w A1 X) (i2 : IntsAt w A2 Y) (i3 : IntsAt w A3 Z) :
    Calls Try.prog 55 #[.slice (some ⟨g, 0, none⟩) 3 3] w (RetI 3 (X ++ (Y ++ Z)) w) := by
  subst l1 l2 l3
  have h := concatI_c g 3 [(A1, c1, X), (A2, c2, Y), (A3, c3, Z)] w rfl hg (fun j A c xs hj => by
    match j with
    | 0 => injection hj with hj; injection hj with a b; injection b with b d; subst a b d; exact ⟨h1, i1⟩
    | 1 => injection hj with hj; injection hj with a b; injection b with b d; subst a b d; exact ⟨h2, i2⟩
    | 2 => injection hj with hj; injection hj with a b; injection b with b d; subst a b d; exact ⟨h3, i3⟩
    | j + 3 => simp at hj) (by simp [catL]; omega) (by omega)
  simpa [catL] using h
theorem concat2_c (g : Nat) (A1 A2 : Option Addr) (n1 n2 c1 c2 : Nat) (X Y : List Int) (w : World) (l1 : X.length = n1) (l2 : Y.length = n2) (hl : n1 + n2 ≤ 1048576) (hg : g < w.heap.size)
    (h1 : w.cell? ⟨g, 0, none⟩ = some (.slice A1 n1 c1)) (h2 : w.cell? ⟨g, 1, none⟩ = some (.slice A2 n2 c2)) (i1 : IntsAt w A1 X) (i2 : IntsAt w A2 Y) :
    Calls Try.prog 55 #[.slice (some ⟨g, 0, none⟩) 2 2] w (RetI 3 (X ++ Y) w) := by
  subst l1 l2
  have h := concatI_c g 2 [(A1, c1, X), (A2, c2, Y)] w rfl hg (fun j A c xs hj => by
    match j with
    | 0 => injection hj with hj; injection hj with a b; injection b with b d; subst a b d; exact ⟨h1, i1⟩
    | 1 => injection hj with hj; injection hj with a b; injection b with b d; subst a b d; exact ⟨h2, i2⟩
    | j + 2 => simp at hj) (by simp [catL]; omega) (by omega)
  simpa [catL] using h

/-! ### TourEdges -/
noncomputable def tEdges (L : List Int) : Es := if TV L then eset (stepsL L) else []
theorem tEdges_yes {L : List Int} (h : TV L) : tEdges L = eset (stepsL L) := if_pos h
theorem tEdges_no {L : List Int} (h : ¬ TV L) : tEdges L = [] := if_neg h
theorem tv_len {L : List Int} (h : TV L) : (eset (stepsL L)).length ≤ 30 := by
  have h1 := eset_len (stepsL L)
  rw [stepsL_len] at h1
  have := h.1.2.1
  omega
theorem tEdges_len (L : List Int) : (tEdges L).length ≤ 31 := by
  by_cases h : TV L
  · rw [tEdges_yes h]; have := tv_len h; omega
  · rw [tEdges_no h]; simp
set_option maxRecDepth 100000 in
theorem tourEdges_c (A : Option Addr) (c n : Nat) (xs : List Int) (w : World) (hn : xs.length = n) (ht : TV xs) (hx : IntsAt w A xs) :
    Calls Try.prog 48 #[.slice A n c] w (RetE 30 (eset (stepsL xs)) w) := by
  have hst := steps_c A c xs w hx (by have := ht.1.2.1; omega) ht.2.1
  rw [hn] at hst
  have Hst := Lib.hid hst
  have Ht := Lib.hid ht
  clear hst ht hn hx
  go_enter Try.func48, Try.ntmps48
  go_wp2_with fail
  refine Hst.out.mono ?_
  rintro e w2 (⟨hok, A2, c2, rfl, ho2, hn2⟩ | ⟨hbadS, rfl, hn2⟩)
  rotate_left
  · exact absurd Ht.out.2.2.1 hbadS
  · have hSl := srtE_length (stepsL xs)
    have hml2 : (stepsL xs).length ≤ 31 := by rw [stepsL_len]; have := Ht.out.1.2.1; omega
    have hsort := sortE_c w.heap.size A2 c2 (stepsL xs) w2 ho2 (by omega)
    have hlt2 := ho2.lt
    unfold SortedE OwnE at hsort
    rw [hSl] at hsort
    have hcomp := fun w' h => compactE_c w.heap.size A2 c2 (srtE (stepsL xs)) w' h (by omega)
    unfold OwnE at hcomp
    rw [hSl, dd_srt] at hcomp
    have hel := eset_len (stepsL xs)
    have hclone := fun w' h => cloneE_c A2 c2 (eset (stepsL xs)) w' h (by omega)
    generalize srtE (stepsL xs) = S at *
    generalize eset (stepsL xs) = es at *
    generalize (stepsL xs).length = m2 at *
    have Hsort := Lib.hid hsort
    have Hcomp := Lib.hid hcomp
    have Hclone := Lib.hid hclone
    clear hsort hcomp hclone hok ho2 hSl
    go_wp2_with fail
    refine Hsort.out.mono ?_
    rintro e w3 ⟨rfl, ho3, hg3⟩
    have N3 : Nx w w3 := Nx.grown hn2 hg3 (fun k hk => (hlt2 k hk).1)
    have Ho3 := Lib.hid ho3
    clear ho3
    go_wp2_with fail
    refine (Hcomp.out _ Ho3.out).mono ?_
    rintro e w4 ⟨rfl, ho4, hg4⟩
    have N4 : Nx w w4 := Nx.grown N3 hg4 (fun k hk => (hlt2 k hk).1)
    go_wp2_with fail
    refine (Hclone.out _ ho4.edgesAt).mono ?_
    rintro e w5 ⟨A5, c5, rfl, ho5, hn5⟩
    go_wp2
    go_ret
    exact ⟨A5, c5, rfl, ho5.mono N4.size, N4.trans hn5⟩
set_option maxRecDepth 100000 in
theorem iTourEdges_c (A : Option Addr) (c n : Nat) (xs : List Int) (w : World) (hn : xs.length = n) (hc : n ≤ c) (hx : IntsAt w A xs) (hl : n ≤ 1048576) :
    Calls Try.prog 15 #[.slice A n c] w (RetEB (tEdges xs) (decide (TV xs)) w) := by
  have hv := fun w' h => iTourValid_c A c n xs w' hn hc h hl
  have Hx := Lib.hid hx
  by_cases ht : TV xs
  · rw [tEdges_yes ht]
    rw [decide_eq_true ht] at hv ⊢
    have hle := tv_len ht
    have he := fun w' h => tourEdges_c A c n xs w' hn ht h
    generalize eset (stepsL xs) = es at *
    have Hv := Lib.hid hv
    have He := Lib.hid he
    clear hv he hn hx ht
    go_enter Try.func15, Try.ntmps15
    go_wp2_with fail
    refine (Hv.out _ Hx.out).mono ?_
    rintro e w1 ⟨rfl, hn1⟩
    go_wp2_with fail
    refine (He.out _ (Hx.out.nx hn1)).mono ?_
    rintro e w2 ⟨A2, c2, rfl, ho2, hn2⟩
    go_wp2
    go_ret2
    exact ⟨A2, c2, rfl, ho2.mono hn1.size, hn1.trans hn2⟩
  · rw [tEdges_no ht]
    rw [decide_eq_false ht] at hv ⊢
    have Hv := Lib.hid hv
    clear hv hn hx ht
    go_enter Try.func15, Try.ntmps15
    go_wp2_with fail
    refine (Hv.out _ Hx.out).mono ?_
    rintro e w1 ⟨rfl, hn1⟩
    go_wp2
    go_ret2
    exact ⟨none, 0, rfl, OwnE.nil _ _ _, hn1⟩

/-! ### TurnTour -/
/-- the tour from the first place of r on -/
def turnL (L : List Int) (r : Int) : List Int := (L.take (L.length - 1)).drop (fstV L r).toNat ++ (L.take (fstV L r).toNat ++ [r])
noncomputable def tTurn (L : List Int) (r : Int) : List Int := if TV L ∧ r ∈ L then turnL L r else []
noncomputable def turnB (L : List Int) (r : Int) : Bool := decide (TV L ∧ r ∈ L)
theorem tTurn_yes {L : List Int} {r : Int} (h : TV L) (hr : r ∈ L) : tTurn L r = turnL L r := if_pos ⟨h, hr⟩
theorem tTurn_no {L : List Int} {r : Int} (h : ¬ (TV L ∧ r ∈ L)) : tTurn L r = [] := if_neg h
theorem turnL_len {L : List Int} {r : Int} (hr : r ∈ L) : (turnL L r).length = L.length := by
  obtain ⟨k, hk, hg, _⟩ := fstV_spec hr
  have hl := (List.getElem?_eq_some_iff.1 hg).1
  unfold turnL
  rw [hk]
  simp
  omega
theorem tTurn_len (L : List Int) (r : Int) : (tTurn L r).length ≤ 31 := by
  by_cases h : TV L ∧ r ∈ L
  · rw [tTurn_yes h.1 h.2, turnL_len h.2]; exact h.1.1.2.1
  · rw [tTurn_no h]; simp
theorem l6In_y (A : Option Addr) (c n : Nat) (xs : List Int) (x : Int) (w : World) (hn : xs.length = n) (hx : IntsAt w A xs) (hl : n ≤ 1048576) :
    Calls Try.prog 60 #[.slice A n c, V x] w (RetS (.bool (decide (x ∈ xs))) w) := by
  subst hn; exact l6In_c A c xs x w hx hl
set_option maxRecDepth 100000 in
set_option maxHeartbeats 2000000 in
theorem l6Turn_c (A : Option Addr) (c n : Nat) (xs : List Int) (r : Int) (w : World) (hn : xs.length = n) (hc : n ≤ c) (hx : IntsAt w A xs) (hl : n ≤ 1048576) (hr : r ∈ xs) :
    Calls Try.prog 62 #[.slice A n c, V r] w (RetI 3 (turnL xs r) w) := by
  obtain ⟨i0, hi, hz0, hz1, hz2⟩ := info_parts infoI
  have Hi := Lib.hid hi
  have Hz0 := Lib.hid hz0
  have Hz1 := Lib.hid hz1
  have Hz2 := Lib.hid hz2
  clear hi hz0 hz1 hz2
  have hf := fun w' h => l6First_c A c xs r w' h (by omega)
  obtain ⟨k, hk, hg, _⟩ := fstV_spec hr
  have hkl := (List.getElem?_eq_some_iff.1 hg).1
  have htl : turnL xs r = (xs.take (n - 1)).drop k ++ xs.take k ++ [r] := by unfold turnL; rw [hk, hn, List.append_assoc]; rfl
  rw [htl]
  rw [hk, hn] at hf
  rw [hn] at hkl
  have hl1 : ((xs.take (n - 1)).drop k).length = n - 1 - k := by simp; omega
  have hl2 : (xs.take k).length = k := by simp; omega
  obtain ⟨b, off, rfl, hb⟩ := hx.addr (by omega)
  have hx1 := hx.sub k (n - 1)
  have hx2 := hx.take k
  generalize (xs.take (n - 1)).drop k = X at *
  generalize xs.take k = Y at *
  have Hf := Lib.hid hf
  have Hx := Lib.hid hx
  have Hx1 := Lib.hid hx1
  have Hx2 := Lib.hid hx2
  have hkc : ¬ k = c := by omega
  have hkc2 : ¬ c = k := by omega
  have hwm : IntKind.i64.wrap ((n : Int) - 1) = ((n - 1 : Nat) : Int) := by rw [IntKind.wrap_i64]; omega
  have hk1 : k ≤ n - 1 := by omega
  have hm1 : n - 1 ≤ c := by omega
  have hmn : n - 1 < n := by omega
  obtain ⟨m, hm⟩ : ∃ m, n - 1 = m := ⟨_, rfl⟩
  have Hm := Lib.hid hm
  rw [hm] at hwm hl1 hk1 hm1 hmn
  have HL1 := Lib.hid hl1
  have HL2 := Lib.hid hl2
  clear hm hf hx hx1 hx2 htl hg hk hr hl1 hl2
  go_enter Try.func62, Try.ntmps62
  go_wp2_with fail
  refine (Hf.out _ Hx.out).mono ?_
  rintro e w1 ⟨rfl, rfl⟩
  have hl0 : ([] : List Int).length = 0 := rfl
  have HL0 := Lib.hid hl0
  clear hl0
  have HL3 : Hid ((X ++ Y).length = m) := Lib.hid (by rw [List.length_append, HL1.out, HL2.out]; omega)
  go_wp2_with (first
    | (at_builtin; refine appIn (base := w.heap.size) (t := 3) (c' := c - k) [] X 0 (m - k) HL0.out HL1.out rfl rfl Try.underlying23 Hi.out Hz0.out Hz1.out Hz2.out rfl rfl (OwnI.empty w w.heap.size 3 (Nat.le_refl _)) rfl (Hx1.out.nx (by repeat (first | exact Nx.refl _ | assumption | apply Nx.alloc | apply Nx.drew | apply Nx.drewN | (refine Nx.setCell ?_ (by first | (simp; done) | (simp; omega) | omega) _) | refine Nx.trans ?_ (by assumption)))) (by omega) (by simp) ?_; intro A2 c2 w3 hown3 hnx3 hgr3 hbl3; have N3 := hnx3 w (Nat.le_refl _) (by repeat (first | exact Nx.refl _ | assumption | apply Nx.alloc | apply Nx.drew | apply Nx.drewN | (refine Nx.setCell ?_ (by first | (simp; done) | (simp; omega) | omega) _) | refine Nx.trans ?_ (by assumption))); have hz3 := N3.size; rw [List.nil_append] at hown3; rw [Nat.zero_add])
    | (at_builtin; refine appIn (base := w.heap.size) (t := 3) (c' := c) X Y (m - k) k HL1.out HL2.out rfl rfl Try.underlying23 Hi.out Hz0.out Hz1.out Hz2.out rfl rfl hown3 rfl (Hx2.out.nx N3) (by omega) (by omega) ?_; intro A4 c4 w4 hown4 hnx4 hgr4 hbl4; have N4 := hnx4 w (Nat.le_refl _) N3; have hz4 := N4.size)
    | (at_builtin; refine appIn (base := w.heap.size) (t := 3) (c' := 1) (X ++ Y) [r] m 1 HL3.out rfl rfl rfl Try.underlying23 Hi.out Hz0.out Hz1.out Hz2.out rfl rfl (hown4.nx (Nx.alloc (Nx.refl _) _)) rfl (intsOne (by simp) (by go_simp)) (by omega) (by simp; omega) ?_; intro A5 c5 w5 hown5 hnx5 hgr5 hbl5))
  go_ret
  exact ⟨A5, c5, by rw [List.length_append, List.length_append, HL1.out, HL2.out, Nat.sub_add_cancel hk1]; rfl, hown5, hnx5 w (Nat.le_refl _) (N4.alloc _)⟩

theorem turnB_no {L : List Int} {r : Int} (h : ¬ (TV L ∧ r ∈ L)) : turnB L r = false := decide_eq_false h
theorem turnB_yes {L : List Int} {r : Int} (h : TV L) (hr : r ∈ L) : turnB L r = true := decide_eq_true ⟨h, hr⟩
set_option maxRecDepth 100000 in
theorem sTurnTour_c (A : Option Addr) (c n : Nat) (xs : List Int) (r : Int) (w : World) (hn : xs.length = n) (hc : n ≤ c) (hx : IntsAt w A xs) (hl : n ≤ 1048576) :
    Calls Try.prog 34 #[.slice A n c, V r] w (RetIB (tTurn xs r) (turnB xs r) w) := by
  have hv := fun w' h => sTourValid_c A c n xs w' hn hc h hl
  have hi := fun w' h => l6In_y A c n xs r w' hn h hl
  have Hx := Lib.hid hx
  by_cases ht : TV xs
  · rw [decide_eq_true ht] at hv
    by_cases hr : r ∈ xs
    · rw [tTurn_yes ht hr, turnB_yes ht hr]
      rw [decide_eq_true hr] at hi
      have htn := fun w' h => l6Turn_c A c n xs r w' hn hc h hl hr
      generalize turnL xs r = T at *
      have Hv := Lib.hid hv
      have Hi := Lib.hid hi
      have Htn := Lib.hid htn
      clear hv hi htn hn hx ht hr
      go_enter Try.func34, Try.ntmps34
      go_wp2_with fail
      refine (Hv.out _ Hx.out).mono ?_
      rintro e w1 ⟨rfl, hn1⟩
      go_wp2_with fail
      refine (Hi.out _ (Hx.out.nx hn1)).mono ?_
      rintro e w2 ⟨rfl, rfl⟩
      go_wp2_with fail
      refine (Htn.out _ (Hx.out.nx hn1)).mono ?_
      rintro e w3 ⟨A3, c3, rfl, ho3, hn3⟩
      go_wp2
      go_ret2
      exact ⟨A3, c3, rfl, ho3.mono hn1.size, hn1.trans hn3⟩
    · rw [tTurn_no (fun h => hr h.2), turnB_no (fun h => hr h.2)]
      rw [decide_eq_false hr] at hi
      have Hv := Lib.hid hv
      have Hi := Lib.hid hi
      clear hv hi hn hx ht hr
      go_enter Try.func34, Try.ntmps34
      go_wp2_with fail
      refine (Hv.out _ Hx.out).mono ?_
      rintro e w1 ⟨rfl, hn1⟩
      go_wp2_with fail
      refine (Hi.out _ (Hx.out.nx hn1)).mono ?_
      rintro e w2 ⟨rfl, rfl⟩
      go_wp2
      go_ret2
      exact ⟨_, 0, rfl, OwnI.empty w1 w.heap.size 3 hn1.size, hn1.alloc _⟩
  · rw [tTurn_no (fun h => ht h.1), turnB_no (fun h => ht h.1)]
    rw [decide_eq_false ht] at hv
    have Hv := Lib.hid hv
    clear hv hi hn hx ht
    go_enter Try.func34, Try.ntmps34
    go_wp2_with fail
    refine (Hv.out _ Hx.out).mono ?_
    rintro e w1 ⟨rfl, hn1⟩
    go_wp2
    go_ret2
    exact ⟨_, 0, rfl, OwnI.empty w1 w.heap.size 3 hn1.size, hn1.alloc _⟩

set_option maxRecDepth 100000 in
set_option maxHeartbeats 2000000 in
theorem iTurnTour_c (A : Option Addr) (c n : Nat) (xs : List Int) (r : Int) (w : World) (hn : xs.length = n) (hc : n ≤ c) (hx : IntsAt w A xs) (hl : n ≤ 1048576) :
    Calls Try.prog 26 #[.slice A n c, V r] w (RetIB (tTurn xs r) (turnB xs r) w) := by
  have hv := fun w' h => iTourValid_c A c n xs w' hn hc h hl
  have hi := fun w' h => indexI_c A c xs r w' h (by omega)
  rw [hn] at hi
  have Hx := Lib.hid hx
  by_cases ht : TV xs
  · rw [decide_eq_true ht] at hv
    by_cases hr : r ∈ xs
    · rw [tTurn_yes ht hr, turnB_yes ht hr]
      obtain ⟨k, hk, hg, _⟩ := fstV_spec hr
      have hkl := (List.getElem?_eq_some_iff.1 hg).1
      rw [hn] at hkl
      have hn31 := ht.1.2.1
      rw [hn] at hn31
      rw [hk] at hi
      obtain ⟨b, off, rfl, hb⟩ := hx.addr (by omega)
      have htl : turnL xs r = (xs.take (n - 1)).drop k ++ (xs.take k ++ [r]) := by unfold turnL; rw [hk, hn]; rfl
      rw [htl]
      have hl1 : ((xs.take (n - 1)).drop k).length = n - 1 - k := by simp; omega
      have hl2 : (xs.take k).length = k := by simp; omega
      have hx1 := fun w' (h : IntsAt w' (some ⟨b, off, none⟩) xs) => h.sub k (n - 1)
      have hx2 := fun w' (h : IntsAt w' (some ⟨b, off, none⟩) xs) => h.take k
      have hwm : IntKind.i64.wrap ((n : Int) - 1) = ((n - 1 : Nat) : Int) := by rw [IntKind.wrap_i64]; omega
      have hkc : ¬ k = c := by omega
      have hkc2 : ¬ c = k := by omega
      have hk1 : k ≤ n - 1 := by omega
      have hm1 : n - 1 ≤ c := by omega
      have hmn : n - 1 < n := by omega
      have hkn : k ≤ c := by omega
      generalize (xs.take (n - 1)).drop k = X at *
      generalize xs.take k = Y at *
      obtain ⟨m, hm⟩ : ∃ m, n - 1 = m := ⟨_, rfl⟩
      rw [hm] at hwm hl1 hk1 hm1 hmn
      have Hv := Lib.hid hv
      have Hi := Lib.hid hi
      have Hx1 := Lib.hid hx1
      have Hx2 := Lib.hid hx2
      have HL1 := Lib.hid hl1
      have HL2 := Lib.hid hl2
      have Hwm := Lib.hid hwm
      have hkz : ¬ (k : Int) < 0 := by omega
      have hi1 : (k : Int) ≤ (m : Int) := by omega
      have hi2 : (m : Int) ≤ (c : Int) := by omega
      have hi3 : (k : Int) ≤ (c : Int) := by omega
      clear hv hi hx1 hx2 hn hx ht hr htl hg hk hl1 hl2 hm hwm
      go_enter Try.func26, Try.ntmps26
      go_wp2_with fail
      refine (Hi.out _ Hx.out).mono ?_
      rintro e w1 ⟨rfl, rfl⟩
      go_wp2_with fail
      refine (Hv.out _ Hx.out).mono ?_
      rintro e w2 ⟨rfl, hn2⟩
      go_wp2
      have hwm := Hwm.out
      go_region_held3 (fun w_ => Nx w2 w_)
        (exact (by (repeat (first | exact Nx.refl _ | assumption | apply Nx.alloc | apply Nx.drew | apply Nx.drewN | (refine Nx.setCell ?_ (by first | (simp; done) | (simp; omega) | omega) _) | refine Nx.trans ?_ (by assumption))); done))
        (first | (go_at_call 55; (with_reducible refine (concat3_c _ (some ⟨b, off + k, none⟩) (some ⟨b, off, none⟩) (some ⟨w2.heap.size, 0, none⟩) (m - k) k 1 (c - k) c 1 X Y [r] _ HL1.out HL2.out rfl (by omega) (by first | (simp; done) | omega | (simp; omega) | (simp [size_drew_]; done) | (simp [size_drew_]; omega)) (by go_simp) (by go_simp) (by go_simp) (Hx1.out _ (Hx.out.nx (hn2.trans (by (repeat (first | exact Nx.refl _ | assumption | apply Nx.alloc | apply Nx.drew | apply Nx.drewN | (refine Nx.setCell ?_ (by first | (simp; done) | (simp; omega) | omega) _) | refine Nx.trans ?_ (by assumption))); done)))) (Hx2.out _ (Hx.out.nx (hn2.trans (by (repeat (first | exact Nx.refl _ | assumption | apply Nx.alloc | apply Nx.drew | apply Nx.drewN | (refine Nx.setCell ?_ (by first | (simp; done) | (simp; omega) | omega) _) | refine Nx.trans ?_ (by assumption))); done)))) (intsOne (by first | (simp; done) | omega | (simp; omega) | (simp [size_drew_]; done) | (simp [size_drew_]; omega)) (by go_simp))).mono ?_); rintro e w4 ⟨A4, c4, rfl, ho4, hn4⟩; have hs4 : w2.heap.size ≤ w4.heap.size := Nx.size (by exact (by (repeat (first | exact Nx.refl _ | assumption | apply Nx.alloc | apply Nx.drew | apply Nx.drewN | (refine Nx.setCell ?_ (by first | (simp; done) | (simp; omega) | omega) _) | refine Nx.trans ?_ (by assumption))); done))))
      all_goals go_wp2
      all_goals go_ret2
      all_goals exact ⟨A4, c4, by rw [List.length_append, List.length_append]; rfl, ho4.mono (by have := hn2.size; first | omega | (simp; omega) | (simp [size_drew_]; omega)), hn2.trans (by (repeat (first | exact Nx.refl _ | assumption | apply Nx.alloc | apply Nx.drew | apply Nx.drewN | (refine Nx.setCell ?_ (by first | (simp; done) | (simp; omega) | omega) _) | refine Nx.trans ?_ (by assumption))); done)⟩
    · rw [tTurn_no (fun h => hr h.2), turnB_no (fun h => hr h.2)]
      rw [fstV_no hr] at hi
      have Hv := Lib.hid hv
      have Hi := Lib.hid hi
      clear hv hi hn hx ht hr
      go_enter Try.func26, Try.ntmps26
      go_wp2_with fail
      refine (Hi.out _ Hx.out).mono ?_
      rintro e w1 ⟨rfl, rfl⟩
      go_wp2_with fail
      refine (Hv.out _ Hx.out).mono ?_
      rintro e w2 ⟨rfl, hn2⟩
      go_wp2
      go_ret2
      exact ⟨none, 0, rfl, OwnI.nil _ _ _, hn2⟩
  · rw [tTurn_no (fun h => ht h.1), turnB_no (fun h => ht h.1)]
    rw [decide_eq_false ht] at hv
    generalize fstV xs r = z at *
    have Hv := Lib.hid hv
    have Hi := Lib.hid hi
    clear hv hi hn hx ht
    go_enter Try.func26, Try.ntmps26
    go_wp2_with fail
    refine (Hi.out _ Hx.out).mono ?_
    rintro e w1 ⟨rfl, rfl⟩
    go_wp2_with fail
    refine (Hv.out _ Hx.out).mono ?_
    rintro e w2 ⟨rfl, hn2⟩
    go_wp2
    go_ret2
    exact ⟨none, 0, rfl, OwnI.nil _ _ _, hn2⟩
end Go.Proofs.Ytbceoigmcomlbaa
