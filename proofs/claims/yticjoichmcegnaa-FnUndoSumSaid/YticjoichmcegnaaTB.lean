/- Contract: l3Unite of the reference. -/
import Derived.Test.YticjoichmcegnaaT9
import Derived.Test.YticjoichmcegnaaT8
import Derived.Deep.RegionWith
import Derived.Deep.RegionLaw
import Derived.Deep.Cut
namespace Go.Proofs.Yticjoichmcegnaa
open Go.RowKit set_option linter.unusedVariables false set_option linter.unusedSimpArgs false

section
variable {P : Program} {w : World} {ops : Array Oper} {o : Oper} {rest : List Oper} {a : Act} {Q : Exit → Act → World → Prop} {s x : Operand} {T t : TypeId} {i : TypeInfo} {z : Value} {A : Option Addr} {c base : Nat}
/-- an append of one to a row of one's own, or to an empty one of which nothing is known -/
theorem appW (es : List (Int × Int)) (g : Nat) (p q : Int) (hgd : o.guard = none) (ho : o.op = .call { callee := .builtin .append, args := #[s, x], argTypes := #[T, T] })
    (ht : P.underlying T = some (.slice t)) (hi : P.info? t = some i) (hz : i.zero = some z) (hsize : i.size = 2) (hby : i.bytes = 16) (hzs : z.cells.size = 2)
    (hs : a.eval s = .slice A es.length c) (hown : WkE w base t A c es) (hx : a.eval x = .slice (some ⟨g, 0, none⟩) 1 1)
    (h0 : w.cell? ⟨g, 0, none⟩ = some (V p)) (h1 : w.cell? ⟨g, 1, none⟩ = some (V q)) (hl : es.length < 1073741824) (hbase : base ≤ w.heap.size)
    (h : ∀ A' c' w', OwnE w' base t A' c' (es ++ [(p, q)]) → w.grownBy w' (blk A) → (blk A' = blk A ∨ blk A' = some w.heap.size) → wpList P ops Q rest (a.put o.dst (.slice A' (es.length + 1) c')) w') :
    wpList P ops Q (o :: rest) a w := by
  rcases hown with hown | ⟨rfl, rfl, hA, hlt⟩
  · exact appE es g p q hgd ho ht hi hz hsize hby hzs hs hown hx h0 h1 hl hbase (fun A' c' w' e1 _ e3 e4 => h A' c' w' e1 e3 e4)
  · obtain ⟨ad, rfl⟩ := Option.isSome_iff_exists.1 hA
    have hr := run_append_grow (P := P) (w := w) T o.type t i z ht hi hz ad 0 0 [] (by simp) (by simp) ⟨g, 0, none⟩ 1 1 [V p, V q] (by simp [hsize]) (by
      intro j v hj
      match j, hj with
      | 0, hj => simp at hj; subst hj; simpa [Addr.add] using h0
      | 1, hj => simp at hj; subst hj; simpa [Addr.add] using h1
      | (j + 2), hj => simp at hj) (by omega) (by omega) (by
      rw [hby]
      have h1 : Builtin.nextslicecap (0 + 1) 0 = 0 + 1 := by unfold Builtin.nextslicecap; rw [if_pos (by omega)]
      rw [h1]; omega)
    have hge := grownCap_ge w (0 + 1) 0 t
    have hle := grownCap_le_maxLen w (0 + 1) 0 t (by simp [maxLen])
    generalize grownCap w (0 + 1) 0 t = cap at *
    have hcs : ((#[] : Array Value) ++ [V p, V q].toArray ++ Builtin.zeroCells z.cells (cap - (0 + 1))).size = cap * 2 := by
      have h1 : (Builtin.zeroCells z.cells (cap - (0 + 1))).size = (cap - 1) * 2 := by simp [Builtin.zeroCells, hzs]
      simp only [Array.size_append, h1]
      simp
      omega
    have hct : ((#[] : Array Value) ++ [V p, V q].toArray ++ Builtin.zeroCells z.cells (cap - (0 + 1))).toList.take (1 * 2) = cellsE [(p, q)] := by
      rw [Array.toList_append, Array.toList_append]
      simp [cellsE]
    generalize (#[] : Array Value) ++ [V p, V q].toArray ++ Builtin.zeroCells z.cells (cap - (0 + 1)) = cs at *
    have hnw := heap_alloc_new w.drew (.cells cs t)
    have hnx : Nx w (w.drew.alloc (.cells cs t)) := (Nx.drew (.refl _)).alloc _
    generalize w.drew.alloc (.cells cs t) = w' at *
    have hon : OwnE w' base t (some ⟨w.heap.size, 0, none⟩) cap ([] ++ [(p, q)]) := ⟨by rfl, .inr ⟨w.heap.size, cap, cs, rfl, hbase, hnw, by simpa using hge, hle, by rw [hcs], hct⟩⟩
    refine wpList_plain hgd fun K hK => ?_
    have hs' : a.eval s = .slice (some ad) 0 0 := hs
    unfold Oper.wp
    simp [execOp, ho, resolve, invoke, builtin, hs', hx, hr, Result.andThen]
    exact hK _ _ (h _ cap w' hon (hnx.grownR _) (.inr rfl))
end
theorem WkE.kept {w w' : World} {base c : Nat} {t : TypeId} {A : Option Addr} {es : Es} {row : Option Nat} (h : WkE w base t A c es) (hg : w.grownBy w' row) (hne : blk A = none ∨ blk A ≠ row) : WkE w' base t A c es := by
  rcases h with h | ⟨h1, h2, h3, h4⟩
  · exact .inl (h.kept hg hne)
  · exact .inr ⟨h1, h2, h3, fun k hk => ⟨(h4 k hk).1, Nat.lt_of_lt_of_le (h4 k hk).2 hg.size⟩⟩
theorem WkE.lt {w : World} {base c : Nat} {t : TypeId} {A : Option Addr} {es : Es} (h : WkE w base t A c es) : ∀ k, blk A = some k → base ≤ k ∧ k < w.heap.size := by
  rcases h with h | ⟨_, _, _, h4⟩
  · exact h.lt
  · exact h4
theorem WkE.edgesAt {w : World} {base c : Nat} {t : TypeId} {A : Option Addr} {es : Es} (h : WkE w base t A c es) : EdgesAt w A es := by
  rcases h with h | ⟨rfl, _, _, _⟩
  · exact h.edgesAt
  · exact fun h => by simp at h
theorem WkE.cap {w : World} {base c : Nat} {t : TypeId} {A : Option Addr} {es : Es} (h : WkE w base t A c es) : es.length ≤ c := by
  rcases h with h | ⟨rfl, _, _, _⟩
  · exact h.cap
  · simp
/-- sets in the box gb, as SB; of an empty row of steps nothing is known -/
structure SBW (w : World) (base gb : Nat) (s : SS) (A : Option Addr) (ca : Nat) (B : Option Addr) (cb : Nat) (C : Option Addr) (cc : Nat) : Prop where
  bx : Bx w gb 37 [.slice A s.P.length ca, .slice B s.Z.length cb, .slice C s.T.length cc]
  a : OwnI w base 3 A ca s.P
  b : OwnI w base 3 B cb s.Z
  c : WkE w base 98 C cc s.T
  ab : Apart A B
  ac : Apart A C
  bc : Apart B C
  ga : ∀ k, blk A = some k → k ≠ gb
  gb' : ∀ k, blk B = some k → k ≠ gb
  gc : ∀ k, blk C = some k → k ≠ gb
section
variable {w w' : World} {base gb ca cb cc : Nat} {s : SS} {A B C : Option Addr}
theorem SBW.nx (h : SBW w base gb s A ca B cb C cc) (hn : Nx w w') : SBW w' base gb s A ca B cb C cc := ⟨h.bx.nx hn, h.a.nx hn, h.b.nx hn, h.c.nx hn, h.ab, h.ac, h.bc, h.ga, h.gb', h.gc⟩
/-- a cell of the parents turns -/
theorem SBW.setP {g : Nat} (h : SBW w base gb s (some ⟨g, 0, none⟩) ca B cb C cc) (i : Nat) (v : Int) : SBW (w.setCell ⟨g, i, none⟩ (V v)) base gb ⟨s.P.set i v, s.Z, s.T⟩ (some ⟨g, 0, none⟩) ca B cb C cc := by
  have hg := grown_setCell w g i (V v)
  have hne : g ≠ gb := h.ga g rfl
  exact ⟨by have := h.bx.far (p := ⟨g, i, none⟩) hne (V v); simpa using this, h.a.set i v, h.b.kept hg h.ab.sym, h.c.kept hg h.ac.sym, h.ab, h.ac, h.bc, h.ga, h.gb', h.gc⟩
theorem SBW.setZ {g : Nat} (h : SBW w base gb s A ca (some ⟨g, 0, none⟩) cb C cc) (i : Nat) (v : Int) : SBW (w.setCell ⟨g, i, none⟩ (V v)) base gb ⟨s.P, s.Z.set i v, s.T⟩ A ca (some ⟨g, 0, none⟩) cb C cc := by
  have hg := grown_setCell w g i (V v)
  have hne : g ≠ gb := h.gb' g rfl
  exact ⟨by have := h.bx.far (p := ⟨g, i, none⟩) hne (V v); simpa using this, h.a.kept hg h.ab, h.b.set i v, h.c.kept hg h.bc.sym, h.ab, h.ac, h.bc, h.ga, h.gb', h.gc⟩
/-- a step more: the row has grown, and the box knows it -/
theorem SBW.push {C' : Option Addr} {cc' : Nat} {t : Int × Int} (h : SBW w base gb s A ca B cb C cc) (hb : gb < w.heap.size) (hg : w.grownBy w' (blk C)) (ho : OwnE w' base 98 C' cc' (s.T ++ [t])) (hC : blk C' = blk C ∨ blk C' = some w.heap.size) :
    SB (w'.setCell ⟨gb, 2, none⟩ (.slice C' (s.T.length + 1) cc')) base gb ⟨s.P, s.Z, s.T ++ [t]⟩ A ca B cb C' cc' := by
  have sep : ∀ {X : Option Addr}, Apart X C → (∀ k, blk X = some k → k < w.heap.size) → Apart X C' := fun {X} h1 h2 => by
    unfold Apart at *
    rcases hC with e | e
    · rw [e]; exact h1
    · rw [e]
      cases hX : blk X with
      | none => exact .inl rfl
      | some k => exact .inr fun e2 => by injection e2 with e2; have := h2 k hX; omega
  have hgc : ∀ k, blk C' = some k → k ≠ gb := fun k hk => by
    rcases hC with e | e
    · exact h.gc k (e ▸ hk)
    · rw [e] at hk; injection hk with hk; omega
  have hg2 := grown_setCell w' gb 2 (.slice C' (s.T.length + 1) cc')
  have ne : ∀ {X : Option Addr}, (∀ k, blk X = some k → k ≠ gb) → (blk X = none ∨ blk X ≠ some gb) := fun {X} h => apart_ne h
  refine ⟨?_, (h.a.kept hg h.ac).kept hg2 (ne h.ga), (h.b.kept hg h.bc).kept hg2 (ne h.gb'), ho.kept hg2 (ne hgc), h.ab, sep h.ac (fun k hk => (h.a.lt k hk).2), sep h.bc (fun k hk => (h.b.lt k hk).2), h.ga, h.gb', hgc⟩
  have h1 := h.bx.grown hg (fun e => h.gc gb e rfl)
  have h2 := h1.set (j := 2) (.slice C' (s.T.length + 1) cc')
  simpa using h2
theorem SB.far (h : SB w base gb s A ca B cb C cc) {g i : Nat} (hg : g < base) (hne : g ≠ gb) (u : Value) : SB (w.setCell ⟨g, i, none⟩ u) base gb s A ca B cb C cc := by
  have g1 := grown_setCell w g i u
  have ne : ∀ k : Nat, base ≤ k → k ≠ g := fun k hk => by omega
  exact ⟨h.bx.far (p := ⟨g, i, none⟩) hne u, h.a.kept g1 (apart_ne fun k hk => ne k (h.a.lt k hk).1), h.b.kept g1 (apart_ne fun k hk => ne k (h.b.lt k hk).1), h.c.kept g1 (apart_ne fun k hk => ne k (h.c.lt k hk).1), h.ab, h.ac, h.bc, h.ga, h.gb', h.gc⟩
end
theorem RetSS.of {s : SS} {w w' : World} {base gb ca cb cc : Nat} {A B C : Option Addr} {v : Value} (h : SB w' base gb s A ca B cb C cc) (hb : w.heap.size ≤ base) (hn : Nx w w') (hv : v = St A s.P.length ca B s.Z.length cb C s.T.length cc) : RetSS s id w (.returned v) w' := by
  subst hv
  exact ⟨A, ca, B, cb, C, cc, rfl, h.a.mono hb, h.b.mono hb, h.c.mono hb, h.ab, h.ac, h.bc, hn⟩
theorem Nx.nx' {a b c : World} (h : Nx a b) (k : Nx b c) : Nx a c := h.trans k
/-- what l3Unite returns -/
def United (s : SS) (x y : Int) (w : World) (e : Ending) (w' : World) : Prop := ∃ a b : Nat, Up s.P x a ∧ Up s.P y b ∧ (a : Int) < s.P.length ∧ (b : Int) < s.P.length ∧ RetSS (unS s a b) id w e w'

set_option maxRecDepth 100000 in
set_option maxHeartbeats 16000000 in
theorem l3Unite_c (A B C : Option Addr) (n ca cb l cc : Nat) (s : SS) (x y : Nat) (w : World) (hA : IntsAt w A s.P) (hB : IntsAt w B s.Z) (hC : EdgesAt w C s.T) (hi : Inv n s) (hn0 : 0 < n) (hn : n ≤ 16) (h3 : s.T.length = l) (l3 : l ≤ 1048576) (hx : x < n) (hy : y < n) :
    Calls Try.prog 72 #[St A n ca B n cb C l cc, V x, V y] w (United s x y w) := by
  obtain ⟨i0, ii, hz0, hz1, hz2⟩ := info_parts infoSt
  have Ii := Lib.hid ii
  have Hz0 := Lib.hid hz0
  have Hz1 := Lib.hid hz1
  have Hz2 := Lib.hid hz2
  have HA := Lib.hid hA
  have HB := Lib.hid hB
  have HC := Lib.hid hC
  have HI := Lib.hid hi
  have H3 := Lib.hid h3
  have HP := Lib.hid hi.lp
  have HZ := Lib.hid hi.lz
  have hcopy := fun w' a b c => l3Copy_c A B C ca cb cc n n l s w' a b c hi.lp hi.lz h3 (by omega) (by omega) l3 hn0 hn0
  have Hcopy := Lib.hid hcopy
  clear ii hz0 hz1 hz2 hA hB hC hi h3 hcopy
  go_enter Try.func72, Try.ntmps72
  go_wp2_with fail
  generalize hW1 : World.alloc _ _ = W1
  have gW1 : Nx w W1 := by subst hW1; exact (by repeat (first | exact Nx.refl _ | assumption | apply Nx.alloc | apply Nx.drew | apply Nx.drewN | (refine Nx.setCell ?_ (by first | (simp; done) | (simp; omega) | omega) _) | refine Nx.trans ?_ (by assumption)))
  have sW1 : W1.heap.size = w.heap.size + 2 := by subst hW1; simp
  have X0 : Bx W1 (w.heap.size) 37 [.slice A n ca, .slice B n cb, .slice C l cc] := by subst hW1; have h := Bx.alloc w 37 [.slice A n ca, .slice B n cb, .slice C l cc]; have h := h.nx (Nx.alloc (Nx.refl _) (.cells #[.slice none 0 0, .slice none 0 0, .slice none 0 0] 37)); simpa using h
  have X1 : Bx W1 (w.heap.size + 1) 37 [.slice none 0 0, .slice none 0 0, .slice none 0 0] := by subst hW1; have h := Bx.alloc (w.alloc (.cells #[.slice A n ca, .slice B n cb, .slice C l cc] 37)) 37 [.slice none 0 0, .slice none 0 0, .slice none 0 0]; simpa using h
  have X0_0 := X0.cell (j := 0) rfl
  have X0_1 := X0.cell (j := 1) rfl
  have X0_2 := X0.cell (j := 2) rfl
  have X0_z := X0.lt
  have X1_0 := X1.cell (j := 0) rfl
  have X1_1 := X1.cell (j := 1) rfl
  have X1_2 := X1.cell (j := 2) rfl
  have X1_z := X1.lt
  have HsW1 := Lib.hid sW1
  have lW1 : w.heap.size + 2 ≤ W1.heap.size := by omega
  clear hW1 sW1
  have N := gW1
  refine (Hcopy.out _ (HA.out.nx N) (HB.out.nx N) (HC.out.nx N)).mono ?_
  rintro e w2 ⟨A2, ca2, B2, cb2, C2, cc2, rfl, oA, oB, oC, sAB, sAC, sBC, hn2⟩
  replace X0 := X0.nx hn2
  replace X0_0 := X0.cell (j := 0) rfl
  replace X0_1 := X0.cell (j := 1) rfl
  replace X0_2 := X0.cell (j := 2) rfl
  replace X0_z := X0.lt
  replace X1 := X1.nx hn2
  replace X1_0 := X1.cell (j := 0) rfl
  replace X1_1 := X1.cell (j := 1) rfl
  replace X1_2 := X1.cell (j := 2) rfl
  replace X1_z := X1.lt
  replace N := N.trans hn2
  have z2 := hn2.size
  have HoA := Lib.hid oA
  have HoB := Lib.hid oB
  have HoC := Lib.hid oC
  clear oA oB oC
  rw [HP.out, HZ.out, H3.out]
  go_wp2_with fail
  generalize hW3 : World.alloc _ _ = W3
  have gW3 : Nx w2 W3 := by subst hW3; exact (by repeat (first | exact Nx.refl _ | assumption | apply Nx.alloc | apply Nx.drew | apply Nx.drewN | (refine Nx.setCell ?_ (by first | (simp; done) | (simp; omega) | omega) _) | refine Nx.trans ?_ (by assumption)))
  have sW3 : W3.heap.size = w2.heap.size + 1 := by subst hW3; simp
  have OUT : Bx W3 (w2.heap.size) 37 [.slice A2 n ca2, .slice B2 n cb2, .slice C2 l cc2] := by subst hW3; have h := Bx.alloc w2 37 [.slice A2 n ca2, .slice B2 n cb2, .slice C2 l cc2]; simpa using h
  have OUT_0 := OUT.cell (j := 0) rfl
  have OUT_1 := OUT.cell (j := 1) rfl
  have OUT_2 := OUT.cell (j := 2) rfl
  have OUT_z := OUT.lt
  have HsW3 := Lib.hid sW3
  have lW3 : w2.heap.size + 1 ≤ W3.heap.size := by omega
  clear hW3 sW3
  replace X0 := X0.nx gW3
  replace X0_0 := X0.cell (j := 0) rfl
  replace X0_1 := X0.cell (j := 1) rfl
  replace X0_2 := X0.cell (j := 2) rfl
  replace X0_z := X0.lt
  replace X1 := X1.nx gW3
  replace X1_0 := X1.cell (j := 0) rfl
  replace X1_1 := X1.cell (j := 1) rfl
  replace X1_2 := X1.cell (j := 2) rfl
  replace X1_z := X1.lt
  replace N := N.trans gW3
  have h3 : SBW W3 W1.heap.size w2.heap.size s A2 ca2 B2 cb2 C2 cc2 := ⟨by rw [HP.out, HZ.out, H3.out]; exact OUT, HoA.out.nx gW3, HoB.out.nx gW3, HoC.out.nx gW3, sAB, sAC, sBC, fun k hk => by have := (HoA.out.lt k hk).2; omega, fun k hk => by have := (HoB.out.lt k hk).2; omega, fun k hk => by have := (HoC.out.lt k hk).2; omega⟩
  clear HoA HoB HoC
  refine (l3Root_c A B C n ca n cb l cc s x _ (HA.out.nx N) HI.out hn hx).mono ?_
  rintro e w4 ⟨a, rfl, ha, han, hn4⟩
  replace X0 := X0.nx hn4
  replace X0_0 := X0.cell (j := 0) rfl
  replace X0_1 := X0.cell (j := 1) rfl
  replace X0_2 := X0.cell (j := 2) rfl
  replace X0_z := X0.lt
  replace X1 := X1.nx hn4
  replace X1_0 := X1.cell (j := 0) rfl
  replace X1_1 := X1.cell (j := 1) rfl
  replace X1_2 := X1.cell (j := 2) rfl
  replace X1_z := X1.lt
  replace OUT := OUT.nx hn4
  replace OUT_0 := OUT.cell (j := 0) rfl
  replace OUT_1 := OUT.cell (j := 1) rfl
  replace OUT_2 := OUT.cell (j := 2) rfl
  replace OUT_z := OUT.lt
  replace N := N.trans hn4
  replace h3 := h3.nx hn4
  have Ha := Lib.hid ha
  clear ha
  go_wp2_with fail
  refine (l3Root_c A B C n ca n cb l cc s y _ (HA.out.nx N) HI.out hn hy).mono ?_
  rintro e w5 ⟨b, rfl, hb, hbn, hn5⟩
  replace X0 := X0.nx hn5
  replace X0_0 := X0.cell (j := 0) rfl
  replace X0_1 := X0.cell (j := 1) rfl
  replace X0_2 := X0.cell (j := 2) rfl
  replace X0_z := X0.lt
  replace X1 := X1.nx hn5
  replace X1_0 := X1.cell (j := 0) rfl
  replace X1_1 := X1.cell (j := 1) rfl
  replace X1_2 := X1.cell (j := 2) rfl
  replace X1_z := X1.lt
  replace OUT := OUT.nx hn5
  replace OUT_0 := OUT.cell (j := 0) rfl
  replace OUT_1 := OUT.cell (j := 1) rfl
  replace OUT_2 := OUT.cell (j := 2) rfl
  replace OUT_z := OUT.lt
  replace N := N.trans hn5
  replace h3 := h3.nx hn5
  have Hb := Lib.hid hb
  clear hb
  have hsz : W3.heap.size ≤ w5.heap.size := Nat.le_trans hn4.size hn5.size
  have hsz2 : w2.heap.size < w5.heap.size := h3.bx.lt
  clear hn2 hn4 hn5 gW1 gW3
  by_cases eab : ((a : Int) == (b : Int)) = true
  · have e2 : a = b := by simp at eab; omega
    subst e2
    go_wp2_with (at_builtin; go_must (refine appW (A := C2) (c := cc2) (base := W1.heap.size) (t := 98) s.T _ (-1) (a) rfl rfl Try.underlying35 Ii.out Hz0.out Hz1.out Hz2.out rfl (by rw [H3.out]; go_simp) (h3.c.nx (by repeat (first | exact Nx.refl _ | assumption | apply Nx.alloc | apply Nx.drew | apply Nx.drewN | (refine Nx.setCell ?_ (by first | (simp; done) | (simp; omega) | omega) _) | refine Nx.trans ?_ (by assumption)))) rfl (cellN rfl rfl) (cellN rfl rfl) (by rw [H3.out]; omega) (by simp; omega) ?_; intro A6 c6 w6 o6 g6 b6; have hnd : Nx w5 (w5.alloc (.cells #[V (-1), V (a)] 98)) := (Nx.alloc (Nx.refl _) _); have G6 := (OUT.nx hnd).grown g6 (fun e => h3.gc _ e rfl); have F6 := (X1.nx hnd).grown g6 (fun e => by have := (h3.c.lt _ e).1; omega); have r0 := G6.cell (j := 0) rfl; have r1 := G6.cell (j := 1) rfl; have r2 := G6.cell (j := 2) rfl; have rf := G6.free; have q0 := F6.cell (j := 0) rfl; have q1 := F6.cell (j := 1) rfl; have q2 := F6.cell (j := 2) rfl; have qf := F6.free; have qz := F6.lt; have rz := G6.lt))
    refine bodyPost_ret (v := id (St A2 n ca2 B2 n cb2 A6 (s.T.length + 1) c6)) (by simp [results, Try.f72, go_sem, *]) rfl ?_
    refine ⟨a, a, Ha.out, Hb.out, by rw [HP.out]; omega, by rw [HP.out]; omega, ?_⟩
    rw [show unS s (a : Int) (a : Int) = ⟨s.P, s.Z, s.T ++ [(-1, (a : Int))]⟩ by unfold unS; rw [if_pos rfl]]
    refine RetSS.of (((((h3.nx hnd).push (by simp; omega) g6 o6 b6).far (by omega) (by omega) _).far (by omega) (by omega) _).far (by omega) (by omega) _) (by omega) ?_ (by simp [HP.out, HZ.out, id])
    exact (((N.nx' hnd).grown g6 (fun k hk => by have := (h3.c.lt k hk).1; omega)).setCell (by simp; omega) _ |>.setCell (by simp) _ |>.setCell (by simp) _ |>.setCell (by simp) _)
  · have eab : ((a : Int) == (b : Int)) = false := by simpa using eab
    have hab : Hid ((a : Int) ≠ (b : Int)) := Lib.hid (by simpa using eab)
    obtain ⟨bz, off, rfl, hbz, r1⟩ := (HB.out.nx N).atLk (x := a) (by rw [HZ.out]; omega)
    obtain ⟨bz', off', hB', _, r2⟩ := (HB.out.nx N).atLk (x := b) (by rw [HZ.out]; omega)
    injection hB' with hB'
    injection hB' with hB1 hB2
    subst hB1 hB2
    have a1 := HI.out.one a (by omega) (by omega)
    have a2 := HI.out.top a (by omega) (by omega)
    have b1 := HI.out.one b (by omega) (by omega)
    have b2 := HI.out.top b (by omega) (by omega)
    obtain ⟨za, hza⟩ : ∃ v, lk s.Z (a : Int) = v := ⟨_, rfl⟩
    obtain ⟨zb, hzb⟩ : ∃ v, lk s.Z (b : Int) = v := ⟨_, rfl⟩
    rw [hza] at r1 a1 a2
    rw [hzb] at r2 b1 b2
    have Haz := Lib.hid hza
    have Hbz := Lib.hid hzb
    clear hza hzb
    by_cases e1 : za < zb
    · have d1 : decide (za < zb) = true := by simpa using e1
      have hne : a ≠ b := fun h => hab.out (by rw [h])
      go_wp2_with fail
      go_quiet (fail)
      generalize hW6 : World.drewN w5 _ = W6
      have gn6 : Nx w5 W6 := by subst hW6; exact Nx.drewN (.refl _) _
      clear hW6
      replace X1 := X1.nx gn6
      replace X1_0 := X1.cell (j := 0) rfl
      replace X1_1 := X1.cell (j := 1) rfl
      replace X1_2 := X1.cell (j := 2) rfl
      replace X1_z := X1.lt
      replace OUT := OUT.nx gn6
      replace OUT_0 := OUT.cell (j := 0) rfl
      replace OUT_1 := OUT.cell (j := 1) rfl
      replace OUT_2 := OUT.cell (j := 2) rfl
      replace OUT_z := OUT.lt
      replace N := N.trans gn6
      replace h3 := h3.nx gn6
      have z6 := gn6.size
      clear gn6 r1 r2 hbz
      obtain ⟨gA, rfl, gA1, gA2⟩ := h3.a.at (by rw [HP.out]; omega)
      obtain ⟨gB, rfl, gB1, gB2⟩ := h3.b.at (by rw [HZ.out]; omega)
      have hcP : a < s.P.length := by rw [HP.out]; omega
      have hcZ : a < s.Z.length := by rw [HZ.out]; omega
      have hrZ : b < s.Z.length := by rw [HZ.out]; omega
      have p1 := h3.a.cell (k := a) hcP
      have p2 := h3.a.free
      generalize s.P[a] = p0 at p1
      have ngA := h3.ga gA rfl
      have ngB := h3.gb' gB rfl
      have nAB : gA ≠ gB := by have := h3.ab; unfold Apart blk at this; simpa using this
      go_upto_region 10 with (fail)
      generalize hW7 : World.setCell W6 _ _ = W7
      have h7 : SBW W7 W1.heap.size w2.heap.size ⟨s.P.set a (b : Int), s.Z, s.T⟩ (some ⟨gA, 0, none⟩) ca2 (some ⟨gB, 0, none⟩) cb2 C2 cc2 := by subst hW7; exact h3.setP a (b : Int)
      have hx7 : W6.grownBy W7 (some gA) := by subst hW7; exact grown_setCell _ _ _ _
      have z7 := hx7.size
      replace N := N.grown hx7 (fun k e => by injection e with e; omega)
      replace OUT := OUT.grown hx7 (by simp; omega)
      replace X1 := X1.grown hx7 (by simp; omega)
      clear hW7 p1 p2 h3 X1_0 X1_1 X1_2 X1_z OUT_0 OUT_1 OUT_2 OUT_z hx7
      have OUT_0 := OUT.cell (j := 0) rfl
      have OUT_1 := OUT.cell (j := 1) rfl
      have OUT_2 := OUT.cell (j := 2) rfl
      have OUT_z := OUT.lt
      have q1 := h7.b.cell (k := b) hrZ
      have q2 := h7.b.cell (k := a) hcZ
      have q3 := h7.b.free
      have lr : s.Z[b] = zb := by have := Hbz.out; simpa [lk, hrZ] using this
      have lc : s.Z[a] = za := by have := Haz.out; simpa [lk, hcZ] using this
      simp only [lr] at q1
      simp only [lc] at q2
      clear lr lc hcP hcZ hrZ
      have hsum : IntKind.i64.wrap (zb + za) = zb + za := IntWalk.i64_in _ (by omega)
      go_cut [6, 7, 8, 9] from 65 (fun s6 s7 s8 s9 wc => s6 = .pointer (some ⟨w.heap.size + 1, 0, none⟩) ∧ s7 = .pointer (some ⟨w2.heap.size, 0, none⟩) ∧ s8 = V b ∧ s9 = V a ∧ SBW wc W1.heap.size w2.heap.size ⟨s.P.set a (b : Int), s.Z.set b (zb + za), s.T⟩ (some ⟨gA, 0, none⟩) ca2 (some ⟨gB, 0, none⟩) cb2 C2 cc2 ∧ W7.grownBy wc (some gB))
      case first =>
        go_big_region
        go_wp2
        go_meet
        exact ⟨rfl, rfl, rfl, rfl, (h7.setZ b (zb + za)).nx (.drew (.refl _)), grown_trans (grown_setCell _ _ _ _) (Nx.grownR (.drew (.refl _)) _)⟩
      obtain ⟨rfl, rfl, rfl, rfl, h8, hx8⟩ := hcut
      obtain ⟨W8, hW8⟩ : ∃ v, v = wc := ⟨_, rfl⟩
      subst hW8
      have z8 := hx8.size
      replace N := N.grown hx8 (fun k e => by injection e with e; omega)
      replace OUT := OUT.grown hx8 (by simp; omega)
      replace X1 := X1.grown hx8 (by simp; omega)
      clear h7 hx8 q1 q2 q3 hsum OUT_0 OUT_1 OUT_2 OUT_z nAB ngA ngB gA1 gA2 gB1 gB2
      have OUT_0 := OUT.cell (j := 0) rfl
      have OUT_1 := OUT.cell (j := 1) rfl
      have OUT_2 := OUT.cell (j := 2) rfl
      have OUT_z := OUT.lt
      have X1_z := X1.lt
      go_wp2_with (at_builtin; go_must (refine appW (A := C2) (c := cc2) (base := W1.heap.size) (t := 98) s.T _ (a) (b) rfl rfl Try.underlying35 Ii.out Hz0.out Hz1.out Hz2.out rfl (by rw [H3.out]; go_simp) (h8.c.nx (by repeat (first | exact Nx.refl _ | assumption | apply Nx.alloc | apply Nx.drew | apply Nx.drewN | (refine Nx.setCell ?_ (by first | (simp; done) | (simp; omega) | omega) _) | refine Nx.trans ?_ (by assumption)))) rfl (cellN rfl rfl) (cellN rfl rfl) (by rw [H3.out]; omega) (by simp; omega) ?_; intro A6 c6 w6 o6 g6 b6; have hnd : Nx W8 (W8.alloc (.cells #[V a, V b] 98)) := (Nx.alloc (Nx.refl _) _); have G6 := (OUT.nx hnd).grown g6 (fun e => h8.gc _ e rfl); have F6 := (X1.nx hnd).grown g6 (fun e => by have := (h8.c.lt _ e).1; omega); have r0 := G6.cell (j := 0) rfl; have r1 := G6.cell (j := 1) rfl; have r2 := G6.cell (j := 2) rfl; have rf := G6.free; have q0 := F6.cell (j := 0) rfl; have q1 := F6.cell (j := 1) rfl; have q2 := F6.cell (j := 2) rfl; have qf := F6.free; have qz := F6.lt; have rz := G6.lt))
      refine bodyPost_ret (v := id (St (some ⟨gA, 0, none⟩) n ca2 (some ⟨gB, 0, none⟩) n cb2 A6 (s.T.length + 1) c6)) (by simp [results, Try.f72, go_sem, *]) rfl ?_
      refine ⟨a, b, Ha.out, Hb.out, by rw [HP.out]; omega, by rw [HP.out]; omega, ?_⟩
      rw [show unS s (a : Int) (b : Int) = ⟨s.P.set a (b : Int), s.Z.set b (zb + za), s.T ++ [((a : Int), (b : Int))]⟩ by unfold unS; rw [if_neg hab.out, if_pos (by rw [Haz.out, Hbz.out]; omega), Haz.out, Hbz.out]; simp [up]]
      refine RetSS.of (((((h8.nx hnd).push (by simp; omega) g6 o6 b6).far (by omega) (by omega) _).far (by omega) (by omega) _).far (by omega) (by omega) _) (by omega) ?_ (by simp [HP.out, HZ.out, id])
      exact (((N.nx' hnd).grown g6 (fun k hk => by have := (h8.c.lt k hk).1; omega)).setCell (by simp; omega) _ |>.setCell (by simp) _ |>.setCell (by simp) _ |>.setCell (by simp) _)
    · have d1 : decide (za < zb) = false := by simpa using e1
      by_cases e2 : za = zb
      · have d2 : (za == zb) = true := by simp [e2]
        have h2 : za ≤ zb ∧ zb ≤ za := by omega
        clear e2
        by_cases e3 : b < a
        · have d3 : decide ((b : Int) < (a : Int)) = true := by simp; omega
          go_wp2_with fail
          go_quiet (fail)
          generalize hW6 : World.drewN w5 _ = W6
          have gn6 : Nx w5 W6 := by subst hW6; exact Nx.drewN (.refl _) _
          clear hW6
          replace X1 := X1.nx gn6
          replace X1_0 := X1.cell (j := 0) rfl
          replace X1_1 := X1.cell (j := 1) rfl
          replace X1_2 := X1.cell (j := 2) rfl
          replace X1_z := X1.lt
          replace OUT := OUT.nx gn6
          replace OUT_0 := OUT.cell (j := 0) rfl
          replace OUT_1 := OUT.cell (j := 1) rfl
          replace OUT_2 := OUT.cell (j := 2) rfl
          replace OUT_z := OUT.lt
          replace N := N.trans gn6
          replace h3 := h3.nx gn6
          have z6 := gn6.size
          clear gn6 r1 r2 hbz
          obtain ⟨gA, rfl, gA1, gA2⟩ := h3.a.at (by rw [HP.out]; omega)
          obtain ⟨gB, rfl, gB1, gB2⟩ := h3.b.at (by rw [HZ.out]; omega)
          have hcP : a < s.P.length := by rw [HP.out]; omega
          have hcZ : a < s.Z.length := by rw [HZ.out]; omega
          have hrZ : b < s.Z.length := by rw [HZ.out]; omega
          have p1 := h3.a.cell (k := a) hcP
          have p2 := h3.a.free
          generalize s.P[a] = p0 at p1
          have ngA := h3.ga gA rfl
          have ngB := h3.gb' gB rfl
          have nAB : gA ≠ gB := by have := h3.ab; unfold Apart blk at this; simpa using this
          go_upto_region 10 with (fail)
          generalize hW7 : World.setCell W6 _ _ = W7
          have h7 : SBW W7 W1.heap.size w2.heap.size ⟨s.P.set a (b : Int), s.Z, s.T⟩ (some ⟨gA, 0, none⟩) ca2 (some ⟨gB, 0, none⟩) cb2 C2 cc2 := by subst hW7; exact h3.setP a (b : Int)
          have hx7 : W6.grownBy W7 (some gA) := by subst hW7; exact grown_setCell _ _ _ _
          have z7 := hx7.size
          replace N := N.grown hx7 (fun k e => by injection e with e; omega)
          replace OUT := OUT.grown hx7 (by simp; omega)
          replace X1 := X1.grown hx7 (by simp; omega)
          clear hW7 p1 p2 h3 X1_0 X1_1 X1_2 X1_z OUT_0 OUT_1 OUT_2 OUT_z hx7
          have OUT_0 := OUT.cell (j := 0) rfl
          have OUT_1 := OUT.cell (j := 1) rfl
          have OUT_2 := OUT.cell (j := 2) rfl
          have OUT_z := OUT.lt
          have q1 := h7.b.cell (k := b) hrZ
          have q2 := h7.b.cell (k := a) hcZ
          have q3 := h7.b.free
          have lr : s.Z[b] = zb := by have := Hbz.out; simpa [lk, hrZ] using this
          have lc : s.Z[a] = za := by have := Haz.out; simpa [lk, hcZ] using this
          simp only [lr] at q1
          simp only [lc] at q2
          clear lr lc hcP hcZ hrZ
          have hsum : IntKind.i64.wrap (zb + za) = zb + za := IntWalk.i64_in _ (by omega)
          go_cut [6, 7, 8, 9] from 65 (fun s6 s7 s8 s9 wc => s6 = .pointer (some ⟨w.heap.size + 1, 0, none⟩) ∧ s7 = .pointer (some ⟨w2.heap.size, 0, none⟩) ∧ s8 = V b ∧ s9 = V a ∧ SBW wc W1.heap.size w2.heap.size ⟨s.P.set a (b : Int), s.Z.set b (zb + za), s.T⟩ (some ⟨gA, 0, none⟩) ca2 (some ⟨gB, 0, none⟩) cb2 C2 cc2 ∧ W7.grownBy wc (some gB))
          case first =>
            go_big_region
            go_wp2
            go_meet
            exact ⟨rfl, rfl, rfl, rfl, (h7.setZ b (zb + za)).nx (.drew (.refl _)), grown_trans (grown_setCell _ _ _ _) (Nx.grownR (.drew (.refl _)) _)⟩
          obtain ⟨rfl, rfl, rfl, rfl, h8, hx8⟩ := hcut
          obtain ⟨W8, hW8⟩ : ∃ v, v = wc := ⟨_, rfl⟩
          subst hW8
          have z8 := hx8.size
          replace N := N.grown hx8 (fun k e => by injection e with e; omega)
          replace OUT := OUT.grown hx8 (by simp; omega)
          replace X1 := X1.grown hx8 (by simp; omega)
          clear h7 hx8 q1 q2 q3 hsum OUT_0 OUT_1 OUT_2 OUT_z nAB ngA ngB gA1 gA2 gB1 gB2
          have OUT_0 := OUT.cell (j := 0) rfl
          have OUT_1 := OUT.cell (j := 1) rfl
          have OUT_2 := OUT.cell (j := 2) rfl
          have OUT_z := OUT.lt
          have X1_z := X1.lt
          go_wp2_with (at_builtin; go_must (refine appW (A := C2) (c := cc2) (base := W1.heap.size) (t := 98) s.T _ (a) (b) rfl rfl Try.underlying35 Ii.out Hz0.out Hz1.out Hz2.out rfl (by rw [H3.out]; go_simp) (h8.c.nx (by repeat (first | exact Nx.refl _ | assumption | apply Nx.alloc | apply Nx.drew | apply Nx.drewN | (refine Nx.setCell ?_ (by first | (simp; done) | (simp; omega) | omega) _) | refine Nx.trans ?_ (by assumption)))) rfl (cellN rfl rfl) (cellN rfl rfl) (by rw [H3.out]; omega) (by simp; omega) ?_; intro A6 c6 w6 o6 g6 b6; have hnd : Nx W8 (W8.alloc (.cells #[V a, V b] 98)) := (Nx.alloc (Nx.refl _) _); have G6 := (OUT.nx hnd).grown g6 (fun e => h8.gc _ e rfl); have F6 := (X1.nx hnd).grown g6 (fun e => by have := (h8.c.lt _ e).1; omega); have r0 := G6.cell (j := 0) rfl; have r1 := G6.cell (j := 1) rfl; have r2 := G6.cell (j := 2) rfl; have rf := G6.free; have q0 := F6.cell (j := 0) rfl; have q1 := F6.cell (j := 1) rfl; have q2 := F6.cell (j := 2) rfl; have qf := F6.free; have qz := F6.lt; have rz := G6.lt))
          refine bodyPost_ret (v := id (St (some ⟨gA, 0, none⟩) n ca2 (some ⟨gB, 0, none⟩) n cb2 A6 (s.T.length + 1) c6)) (by simp [results, Try.f72, go_sem, *]) rfl ?_
          refine ⟨a, b, Ha.out, Hb.out, by rw [HP.out]; omega, by rw [HP.out]; omega, ?_⟩
          rw [show unS s (a : Int) (b : Int) = ⟨s.P.set a (b : Int), s.Z.set b (zb + za), s.T ++ [((a : Int), (b : Int))]⟩ by unfold unS; rw [if_neg hab.out, if_pos (by rw [Haz.out, Hbz.out]; omega), Haz.out, Hbz.out]; simp [up]]
          refine RetSS.of (((((h8.nx hnd).push (by simp; omega) g6 o6 b6).far (by omega) (by omega) _).far (by omega) (by omega) _).far (by omega) (by omega) _) (by omega) ?_ (by simp [HP.out, HZ.out, id])
          exact (((N.nx' hnd).grown g6 (fun k hk => by have := (h8.c.lt k hk).1; omega)).setCell (by simp; omega) _ |>.setCell (by simp) _ |>.setCell (by simp) _ |>.setCell (by simp) _)
        · have d3 : decide ((b : Int) < (a : Int)) = false := by simp; omega
          have hne : a ≠ b := fun h => hab.out (by rw [h])
          have e4 : a < b := by omega
          go_wp2_with fail
          go_quiet (fail)
          generalize hW6 : World.drewN w5 _ = W6
          have gn6 : Nx w5 W6 := by subst hW6; exact Nx.drewN (.refl _) _
          clear hW6
          replace X1 := X1.nx gn6
          replace X1_0 := X1.cell (j := 0) rfl
          replace X1_1 := X1.cell (j := 1) rfl
          replace X1_2 := X1.cell (j := 2) rfl
          replace X1_z := X1.lt
          replace OUT := OUT.nx gn6
          replace OUT_0 := OUT.cell (j := 0) rfl
          replace OUT_1 := OUT.cell (j := 1) rfl
          replace OUT_2 := OUT.cell (j := 2) rfl
          replace OUT_z := OUT.lt
          replace N := N.trans gn6
          replace h3 := h3.nx gn6
          have z6 := gn6.size
          clear gn6 r1 r2 hbz
          obtain ⟨gA, rfl, gA1, gA2⟩ := h3.a.at (by rw [HP.out]; omega)
          obtain ⟨gB, rfl, gB1, gB2⟩ := h3.b.at (by rw [HZ.out]; omega)
          have hcP : b < s.P.length := by rw [HP.out]; omega
          have hcZ : b < s.Z.length := by rw [HZ.out]; omega
          have hrZ : a < s.Z.length := by rw [HZ.out]; omega
          have p1 := h3.a.cell (k := b) hcP
          have p2 := h3.a.free
          generalize s.P[b] = p0 at p1
          have ngA := h3.ga gA rfl
          have ngB := h3.gb' gB rfl
          have nAB : gA ≠ gB := by have := h3.ab; unfold Apart blk at this; simpa using this
          go_upto_region 10 with (fail)
          generalize hW7 : World.setCell W6 _ _ = W7
          have h7 : SBW W7 W1.heap.size w2.heap.size ⟨s.P.set b (a : Int), s.Z, s.T⟩ (some ⟨gA, 0, none⟩) ca2 (some ⟨gB, 0, none⟩) cb2 C2 cc2 := by subst hW7; exact h3.setP b (a : Int)
          have hx7 : W6.grownBy W7 (some gA) := by subst hW7; exact grown_setCell _ _ _ _
          have z7 := hx7.size
          replace N := N.grown hx7 (fun k e => by injection e with e; omega)
          replace OUT := OUT.grown hx7 (by simp; omega)
          replace X1 := X1.grown hx7 (by simp; omega)
          clear hW7 p1 p2 h3 X1_0 X1_1 X1_2 X1_z OUT_0 OUT_1 OUT_2 OUT_z hx7
          have OUT_0 := OUT.cell (j := 0) rfl
          have OUT_1 := OUT.cell (j := 1) rfl
          have OUT_2 := OUT.cell (j := 2) rfl
          have OUT_z := OUT.lt
          have q1 := h7.b.cell (k := a) hrZ
          have q2 := h7.b.cell (k := b) hcZ
          have q3 := h7.b.free
          have lr : s.Z[a] = za := by have := Haz.out; simpa [lk, hrZ] using this
          have lc : s.Z[b] = zb := by have := Hbz.out; simpa [lk, hcZ] using this
          simp only [lr] at q1
          simp only [lc] at q2
          clear lr lc hcP hcZ hrZ
          have hsum : IntKind.i64.wrap (za + zb) = za + zb := IntWalk.i64_in _ (by omega)
          go_cut [6, 7, 8, 9] from 65 (fun s6 s7 s8 s9 wc => s6 = .pointer (some ⟨w.heap.size + 1, 0, none⟩) ∧ s7 = .pointer (some ⟨w2.heap.size, 0, none⟩) ∧ s8 = V a ∧ s9 = V b ∧ SBW wc W1.heap.size w2.heap.size ⟨s.P.set b (a : Int), s.Z.set a (za + zb), s.T⟩ (some ⟨gA, 0, none⟩) ca2 (some ⟨gB, 0, none⟩) cb2 C2 cc2 ∧ W7.grownBy wc (some gB))
          case first =>
            go_big_region
            go_wp2
            go_meet
            exact ⟨rfl, rfl, rfl, rfl, (h7.setZ a (za + zb)).nx (.drew (.refl _)), grown_trans (grown_setCell _ _ _ _) (Nx.grownR (.drew (.refl _)) _)⟩
          obtain ⟨rfl, rfl, rfl, rfl, h8, hx8⟩ := hcut
          obtain ⟨W8, hW8⟩ : ∃ v, v = wc := ⟨_, rfl⟩
          subst hW8
          have z8 := hx8.size
          replace N := N.grown hx8 (fun k e => by injection e with e; omega)
          replace OUT := OUT.grown hx8 (by simp; omega)
          replace X1 := X1.grown hx8 (by simp; omega)
          clear h7 hx8 q1 q2 q3 hsum OUT_0 OUT_1 OUT_2 OUT_z nAB ngA ngB gA1 gA2 gB1 gB2
          have OUT_0 := OUT.cell (j := 0) rfl
          have OUT_1 := OUT.cell (j := 1) rfl
          have OUT_2 := OUT.cell (j := 2) rfl
          have OUT_z := OUT.lt
          have X1_z := X1.lt
          go_wp2_with (at_builtin; go_must (refine appW (A := C2) (c := cc2) (base := W1.heap.size) (t := 98) s.T _ (b) (a) rfl rfl Try.underlying35 Ii.out Hz0.out Hz1.out Hz2.out rfl (by rw [H3.out]; go_simp) (h8.c.nx (by repeat (first | exact Nx.refl _ | assumption | apply Nx.alloc | apply Nx.drew | apply Nx.drewN | (refine Nx.setCell ?_ (by first | (simp; done) | (simp; omega) | omega) _) | refine Nx.trans ?_ (by assumption)))) rfl (cellN rfl rfl) (cellN rfl rfl) (by rw [H3.out]; omega) (by simp; omega) ?_; intro A6 c6 w6 o6 g6 b6; have hnd : Nx W8 (W8.alloc (.cells #[V b, V a] 98)) := (Nx.alloc (Nx.refl _) _); have G6 := (OUT.nx hnd).grown g6 (fun e => h8.gc _ e rfl); have F6 := (X1.nx hnd).grown g6 (fun e => by have := (h8.c.lt _ e).1; omega); have r0 := G6.cell (j := 0) rfl; have r1 := G6.cell (j := 1) rfl; have r2 := G6.cell (j := 2) rfl; have rf := G6.free; have q0 := F6.cell (j := 0) rfl; have q1 := F6.cell (j := 1) rfl; have q2 := F6.cell (j := 2) rfl; have qf := F6.free; have qz := F6.lt; have rz := G6.lt))
          refine bodyPost_ret (v := id (St (some ⟨gA, 0, none⟩) n ca2 (some ⟨gB, 0, none⟩) n cb2 A6 (s.T.length + 1) c6)) (by simp [results, Try.f72, go_sem, *]) rfl ?_
          refine ⟨a, b, Ha.out, Hb.out, by rw [HP.out]; omega, by rw [HP.out]; omega, ?_⟩
          rw [show unS s (a : Int) (b : Int) = ⟨s.P.set b (a : Int), s.Z.set a (za + zb), s.T ++ [((b : Int), (a : Int))]⟩ by unfold unS; rw [if_neg hab.out, if_neg (by rw [Haz.out, Hbz.out]; omega), Haz.out, Hbz.out]; simp [up]]
          refine RetSS.of (((((h8.nx hnd).push (by simp; omega) g6 o6 b6).far (by omega) (by omega) _).far (by omega) (by omega) _).far (by omega) (by omega) _) (by omega) ?_ (by simp [HP.out, HZ.out, id])
          exact (((N.nx' hnd).grown g6 (fun k hk => by have := (h8.c.lt k hk).1; omega)).setCell (by simp; omega) _ |>.setCell (by simp) _ |>.setCell (by simp) _ |>.setCell (by simp) _)
      · have d2 : (za == zb) = false := by simpa using e2
        have h2 : zb < za := by omega
        clear e2
        have hne : a ≠ b := fun h => hab.out (by rw [h])
        go_wp2_with fail
        go_quiet (fail)
        generalize hW6 : World.drewN w5 _ = W6
        have gn6 : Nx w5 W6 := by subst hW6; exact Nx.drewN (.refl _) _
        clear hW6
        replace X1 := X1.nx gn6
        replace X1_0 := X1.cell (j := 0) rfl
        replace X1_1 := X1.cell (j := 1) rfl
        replace X1_2 := X1.cell (j := 2) rfl
        replace X1_z := X1.lt
        replace OUT := OUT.nx gn6
        replace OUT_0 := OUT.cell (j := 0) rfl
        replace OUT_1 := OUT.cell (j := 1) rfl
        replace OUT_2 := OUT.cell (j := 2) rfl
        replace OUT_z := OUT.lt
        replace N := N.trans gn6
        replace h3 := h3.nx gn6
        have z6 := gn6.size
        clear gn6 r1 r2 hbz
        obtain ⟨gA, rfl, gA1, gA2⟩ := h3.a.at (by rw [HP.out]; omega)
        obtain ⟨gB, rfl, gB1, gB2⟩ := h3.b.at (by rw [HZ.out]; omega)
        have hcP : b < s.P.length := by rw [HP.out]; omega
        have hcZ : b < s.Z.length := by rw [HZ.out]; omega
        have hrZ : a < s.Z.length := by rw [HZ.out]; omega
        have p1 := h3.a.cell (k := b) hcP
        have p2 := h3.a.free
        generalize s.P[b] = p0 at p1
        have ngA := h3.ga gA rfl
        have ngB := h3.gb' gB rfl
        have nAB : gA ≠ gB := by have := h3.ab; unfold Apart blk at this; simpa using this
        go_upto_region 10 with (fail)
        generalize hW7 : World.setCell W6 _ _ = W7
        have h7 : SBW W7 W1.heap.size w2.heap.size ⟨s.P.set b (a : Int), s.Z, s.T⟩ (some ⟨gA, 0, none⟩) ca2 (some ⟨gB, 0, none⟩) cb2 C2 cc2 := by subst hW7; exact h3.setP b (a : Int)
        have hx7 : W6.grownBy W7 (some gA) := by subst hW7; exact grown_setCell _ _ _ _
        have z7 := hx7.size
        replace N := N.grown hx7 (fun k e => by injection e with e; omega)
        replace OUT := OUT.grown hx7 (by simp; omega)
        replace X1 := X1.grown hx7 (by simp; omega)
        clear hW7 p1 p2 h3 X1_0 X1_1 X1_2 X1_z OUT_0 OUT_1 OUT_2 OUT_z hx7
        have OUT_0 := OUT.cell (j := 0) rfl
        have OUT_1 := OUT.cell (j := 1) rfl
        have OUT_2 := OUT.cell (j := 2) rfl
        have OUT_z := OUT.lt
        have q1 := h7.b.cell (k := a) hrZ
        have q2 := h7.b.cell (k := b) hcZ
        have q3 := h7.b.free
        have lr : s.Z[a] = za := by have := Haz.out; simpa [lk, hrZ] using this
        have lc : s.Z[b] = zb := by have := Hbz.out; simpa [lk, hcZ] using this
        simp only [lr] at q1
        simp only [lc] at q2
        clear lr lc hcP hcZ hrZ
        have hsum : IntKind.i64.wrap (za + zb) = za + zb := IntWalk.i64_in _ (by omega)
        go_cut [6, 7, 8, 9] from 65 (fun s6 s7 s8 s9 wc => s6 = .pointer (some ⟨w.heap.size + 1, 0, none⟩) ∧ s7 = .pointer (some ⟨w2.heap.size, 0, none⟩) ∧ s8 = V a ∧ s9 = V b ∧ SBW wc W1.heap.size w2.heap.size ⟨s.P.set b (a : Int), s.Z.set a (za + zb), s.T⟩ (some ⟨gA, 0, none⟩) ca2 (some ⟨gB, 0, none⟩) cb2 C2 cc2 ∧ W7.grownBy wc (some gB))
        case first =>
          go_big_region
          go_wp2
          go_meet
          exact ⟨rfl, rfl, rfl, rfl, (h7.setZ a (za + zb)).nx (.drew (.refl _)), grown_trans (grown_setCell _ _ _ _) (Nx.grownR (.drew (.refl _)) _)⟩
        obtain ⟨rfl, rfl, rfl, rfl, h8, hx8⟩ := hcut
        obtain ⟨W8, hW8⟩ : ∃ v, v = wc := ⟨_, rfl⟩
        subst hW8
        have z8 := hx8.size
        replace N := N.grown hx8 (fun k e => by injection e with e; omega)
        replace OUT := OUT.grown hx8 (by simp; omega)
        replace X1 := X1.grown hx8 (by simp; omega)
        clear h7 hx8 q1 q2 q3 hsum OUT_0 OUT_1 OUT_2 OUT_z nAB ngA ngB gA1 gA2 gB1 gB2
        have OUT_0 := OUT.cell (j := 0) rfl
        have OUT_1 := OUT.cell (j := 1) rfl
        have OUT_2 := OUT.cell (j := 2) rfl
        have OUT_z := OUT.lt
        have X1_z := X1.lt
        go_wp2_with (at_builtin; go_must (refine appW (A := C2) (c := cc2) (base := W1.heap.size) (t := 98) s.T _ (b) (a) rfl rfl Try.underlying35 Ii.out Hz0.out Hz1.out Hz2.out rfl (by rw [H3.out]; go_simp) (h8.c.nx (by repeat (first | exact Nx.refl _ | assumption | apply Nx.alloc | apply Nx.drew | apply Nx.drewN | (refine Nx.setCell ?_ (by first | (simp; done) | (simp; omega) | omega) _) | refine Nx.trans ?_ (by assumption)))) rfl (cellN rfl rfl) (cellN rfl rfl) (by rw [H3.out]; omega) (by simp; omega) ?_; intro A6 c6 w6 o6 g6 b6; have hnd : Nx W8 (W8.alloc (.cells #[V b, V a] 98)) := (Nx.alloc (Nx.refl _) _); have G6 := (OUT.nx hnd).grown g6 (fun e => h8.gc _ e rfl); have F6 := (X1.nx hnd).grown g6 (fun e => by have := (h8.c.lt _ e).1; omega); have r0 := G6.cell (j := 0) rfl; have r1 := G6.cell (j := 1) rfl; have r2 := G6.cell (j := 2) rfl; have rf := G6.free; have q0 := F6.cell (j := 0) rfl; have q1 := F6.cell (j := 1) rfl; have q2 := F6.cell (j := 2) rfl; have qf := F6.free; have qz := F6.lt; have rz := G6.lt))
        refine bodyPost_ret (v := id (St (some ⟨gA, 0, none⟩) n ca2 (some ⟨gB, 0, none⟩) n cb2 A6 (s.T.length + 1) c6)) (by simp [results, Try.f72, go_sem, *]) rfl ?_
        refine ⟨a, b, Ha.out, Hb.out, by rw [HP.out]; omega, by rw [HP.out]; omega, ?_⟩
        rw [show unS s (a : Int) (b : Int) = ⟨s.P.set b (a : Int), s.Z.set a (za + zb), s.T ++ [((b : Int), (a : Int))]⟩ by unfold unS; rw [if_neg hab.out, if_neg (by rw [Haz.out, Hbz.out]; omega), Haz.out, Hbz.out]; simp [up]]
        refine RetSS.of (((((h8.nx hnd).push (by simp; omega) g6 o6 b6).far (by omega) (by omega) _).far (by omega) (by omega) _).far (by omega) (by omega) _) (by omega) ?_ (by simp [HP.out, HZ.out, id])
        exact (((N.nx' hnd).grown g6 (fun k hk => by have := (h8.c.lt k hk).1; omega)).setCell (by simp; omega) _ |>.setCell (by simp) _ |>.setCell (by simp) _ |>.setCell (by simp) _)
end Go.Proofs.Yticjoichmcegnaa
