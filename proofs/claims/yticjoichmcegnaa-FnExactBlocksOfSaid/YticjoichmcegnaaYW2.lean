/- FnExactBlocksOf: the walk. -/
import Derived.Test.YticjoichmcegnaaY12
import Derived.Test.YticjoichmcegnaaH
import Derived.Test.YticjoichmcegnaaZ
import Derived.Deep.RegionHeld3
import Derived.Deep.Cut
namespace Go.Proofs.Yticjoichmcegnaa
open Go.RowKit set_option linter.unusedVariables false set_option linter.unusedSimpArgs false

theorem OwnQ.inBase {w : World} {base : Nat} {T t : TypeId} {A : Option Addr} {c : Nat} {q : List Row} (h : OwnQ w base T t A c q) : ∀ k, InQ q k → base ≤ k ∧ k < w.heap.size := fun k ⟨r, hr, hk⟩ => (h.2.1 r hr).lt k hk
/-- a row below has turned -/
theorem OwnQ.kept_lo {w w' : World} {base : Nat} {T t : TypeId} {A : Option Addr} {c : Nat} {q : List Row} {row : Option Nat} (h : OwnQ w base T t A c q) (hg : w.grownBy w' row) (hr : ∀ k, row = some k → k < base) : OwnQ w' base T t A c q := by
  have sep : ∀ {o : Option Nat}, (∀ k, o = some k → base ≤ k) → (o = none ∨ o ≠ row) := fun {o} ho => by
    cases o with
    | none => exact .inl rfl
    | some k => exact .inr fun e => by have := ho k rfl; have := hr k e.symm; omega
  exact ⟨h.1.kept hg (sep fun k hk => (h.1.lt k hk).1), fun r hm => (h.2.1 r hm).kept hg (sep fun k hk => ((h.2.1 r hm).lt k hk).1), h.2.2⟩

set_option maxRecDepth 100000 in
set_option maxHeartbeats 8000000 in
theorem fnExactBlocksOf_walk (w : World) (n0 : Int) (_ : Fits n0) (A0 : Option Addr) (c0 : Nat) (es0 : List (Int × Int)) (_ : es0.length ≤ c0) (hm0 : Hid (es0.length ≤ 9223372036854775807)) (hx0 : EdgesAt w A0 es0) (_ : ∀ n ∈ es0, FitsE n) :
    Calls Try.prog 13 #[.agg #[V n0, .slice A0 es0.length c0]] w (RetV (.bool true) w) := by
  by_cases hs0 : szL es0.length 1048576 < 0
  · go_enter Try.func13, Try.ntmps13
    go_wp2_with fail
    generalize hW1 : World.alloc _ _ = W1
    have gW1 : Nx w W1 := by subst hW1; exact (by repeat (first | exact Nx.refl _ | assumption | apply Nx.alloc | apply Nx.drew | apply Nx.drewN | (refine Nx.setCell ?_ (by first | (simp; done) | (simp; omega) | omega) _) | refine Nx.trans ?_ (by assumption)))
    have sW1 : W1.heap.size = w.heap.size + 1 := by subst hW1; simp
    have X0 : Bx W1 (w.heap.size) 54 [V n0, .slice A0 es0.length c0] := by subst hW1; have h := Bx.alloc w 54 [V n0, .slice A0 es0.length c0]; simpa using h
    have X0_0 := X0.cell (j := 0) rfl
    have X0_1 := X0.cell (j := 1) rfl
    have X0_z := X0.lt
    have HsW1 := Lib.hid sW1
    have lW1 : w.heap.size + 1 ≤ W1.heap.size := by omega
    clear hW1 sW1
    refine (szGraph_c n0 A0 es0.length c0 (1048576) _ (by omega) (by omega) hm0.out).mono ?_
    rintro e w1 ⟨rfl, hn1⟩
    go_wp2
    go_ret
    exact RetV.bool rfl (gW1.trans hn1)
  · have hq0 := szL_ok hs0
    have hq0_0 : 0 ≤ szL es0.length (1048576) := hq0.2.1
    have hq0_2 : es0.length ≤ 1048576 := by omega
    clear hq0
    have hbl := blocksOf_len n0 es0
    have Hsb := Lib.hid (fun B d w hx => sBlocksOf_c n0 B d es0 w hx hq0_2)
    have Hib := Lib.hid (fun B d w hx hc => iBlocksOf_c n0 B d es0 w hx hq0_2 hc)
    generalize blocksOf n0 es0 = bs at *
    obtain ⟨hb40, hbi⟩ := hbl
    have Hbi := Lib.hid hbi
    clear hbi
    have hbl1 : bs.length ≤ 1048576 := by omega
    have hbl2 : bs.length ≤ 1000 := by omega
    have Hb1 := Lib.hid (fun b (hb : b ∈ bs) => Nat.le_trans (Hbi.out b hb) (by omega : 40 ≤ 1048576))
    have Hqi := Lib.hid (fun (q : List Row) (hq : rowsOf q = bs) r (hr : r ∈ q) => Nat.le_trans (Hbi.out r.2.2 (by rw [← hq]; exact List.mem_map.2 ⟨r, hr, rfl⟩)) (by omega : 40 ≤ 1000))
    go_enter Try.func13, Try.ntmps13
    go_wp2_with fail
    generalize hW1 : World.alloc _ _ = W1
    have gW1 : Nx w W1 := by subst hW1; exact (by repeat (first | exact Nx.refl _ | assumption | apply Nx.alloc | apply Nx.drew | apply Nx.drewN | (refine Nx.setCell ?_ (by first | (simp; done) | (simp; omega) | omega) _) | refine Nx.trans ?_ (by assumption)))
    have sW1 : W1.heap.size = w.heap.size + 1 := by subst hW1; simp
    have X0 : Bx W1 (w.heap.size) 54 [V n0, .slice A0 es0.length c0] := by subst hW1; have h := Bx.alloc w 54 [V n0, .slice A0 es0.length c0]; simpa using h
    have X0_0 := X0.cell (j := 0) rfl
    have X0_1 := X0.cell (j := 1) rfl
    have X0_z := X0.lt
    have HsW1 := Lib.hid sW1
    have lW1 : w.heap.size + 1 ≤ W1.heap.size := by omega
    clear hW1 sW1
    have N : Nx w w := Nx.refl w
    replace N := N.trans gW1
    refine (szGraph_c n0 A0 es0.length c0 (1048576) _ (by omega) (by omega) hm0.out).mono ?_
    rintro e w1 ⟨rfl, hn1⟩
    replace X0 := X0.nx hn1
    replace X0_0 := X0.cell (j := 0) rfl
    replace X0_1 := X0.cell (j := 1) rfl
    replace X0_z := X0.lt
    replace N := N.trans hn1
    go_wp2_with fail
    refine (toGraph_c n0 A0 c0 es0 _ (hx0.nx N) (by omega)).mono ?_
    rintro e w2 ⟨B2, d2, rfl, ho2, hn2⟩
    replace X0 := X0.nx hn2
    replace X0_0 := X0.cell (j := 0) rfl
    replace X0_1 := X0.cell (j := 1) rfl
    replace X0_z := X0.lt
    replace N := N.trans hn2
    go_wp2_with fail
    refine (Hsb.out B2 d2 _ ho2.edgesAt).mono ?_
    rintro e w3 ⟨A3, c3, q3, rfl, hq3, ho3, hn3⟩
    replace X0 := X0.nx hn3
    replace X0_0 := X0.cell (j := 0) rfl
    replace X0_1 := X0.cell (j := 1) rfl
    replace X0_z := X0.lt
    replace N := N.trans hn3
    have Hq3 := Lib.hid hq3
    have Ho3 := Lib.hid ho3
    have M := Nx.refl w3
    clear ho2 hq3 ho3
    go_wp2_with fail
    refine (toGraph_c n0 A0 c0 es0 _ (hx0.nx N) (by omega)).mono ?_
    rintro e w4 ⟨B4, d4, rfl, ho4, hn4⟩
    replace X0 := X0.nx hn4
    replace X0_0 := X0.cell (j := 0) rfl
    replace X0_1 := X0.cell (j := 1) rfl
    replace X0_z := X0.lt
    replace N := N.trans hn4
    replace M := M.trans hn4
    have hcap := ho4.cap
    have Hlt4 := Lib.hid ho4.lt
    have hs34 := hn4.size
    go_wp2_with fail
    generalize hW5 : World.alloc _ _ = W5
    have gW5 : Nx w4 W5 := by subst hW5; exact (by repeat (first | exact Nx.refl _ | assumption | apply Nx.alloc | apply Nx.drew | apply Nx.drewN | (refine Nx.setCell ?_ (by first | (simp; done) | (simp; omega) | omega) _) | refine Nx.trans ?_ (by assumption)))
    have sW5 : W5.heap.size = w4.heap.size + 1 := by subst hW5; simp
    have X1 : Bx W5 (w4.heap.size) 25 [V n0, .slice B4 es0.length d4] := by subst hW5; have h := Bx.alloc w4 25 [V n0, .slice B4 es0.length d4]; simpa using h
    have X1_0 := X1.cell (j := 0) rfl
    have X1_1 := X1.cell (j := 1) rfl
    have X1_z := X1.lt
    have HsW5 := Lib.hid sW5
    have lW5 : w4.heap.size + 1 ≤ W5.heap.size := by omega
    clear hW5 sW5
    have hs45 := gW5.size
    replace X0 := X0.nx gW5
    replace X0_0 := X0.cell (j := 0) rfl
    replace X0_1 := X0.cell (j := 1) rfl
    replace X0_z := X0.lt
    replace N := N.trans gW5
    replace M := M.trans gW5
    replace ho4 := ho4.nx gW5
    refine (Hib.out B4 d4 _ ho4.edgesAt hcap).mono ?_
    rintro e w6 ⟨A6, c6, q6, rfl, hq6, ho6, hn6⟩
    replace X0 := X0.nx hn6
    replace X0_0 := X0.cell (j := 0) rfl
    replace X0_1 := X0.cell (j := 1) rfl
    replace X0_z := X0.lt
    replace X1 := X1.nx hn6
    replace X1_0 := X1.cell (j := 0) rfl
    replace X1_1 := X1.cell (j := 1) rfl
    replace X1_z := X1.lt
    replace N := N.trans hn6
    replace M := M.trans hn6
    replace ho4 := ho4.nx hn6
    have Hq6 := Lib.hid hq6
    have Ho4 := Lib.hid ho4
    have Ho6 := Lib.hid ho6
    have hs56 := hn6.size
    clear hq6 ho4 ho6
    go_wp2_with fail
    refine (eqEdgeSS_c A6 A3 c6 c3 q6 q3 bs bs _ Hq6.out Hq3.out Ho6.out.rowsAt (Ho3.out.nx M).rowsAt hbl1 hbl1 Hb1.out Hb1.out).mono ?_
    rintro e w7 ⟨rfl, hn7⟩
    replace X0 := X0.nx hn7
    replace X0_0 := X0.cell (j := 0) rfl
    replace X0_1 := X0.cell (j := 1) rfl
    replace X0_z := X0.lt
    replace X1 := X1.nx hn7
    replace X1_0 := X1.cell (j := 0) rfl
    replace X1_1 := X1.cell (j := 1) rfl
    replace X1_z := X1.lt
    replace N := N.trans hn7
    replace M := M.trans hn7
    have Ho4 := Lib.hid (Ho4.out.nx hn7)
    have Ho6 := Lib.hid (Ho6.out.nx hn7)
    have hs67 := hn7.size
    go_wp2_with fail
    have kp : ∀ w', Nx w7 w' → (fun w_ => Nx w7 w_ ∧ w_.cell? ⟨w.heap.size, 0, none⟩ = some (V n0) ∧ w_.cell? ⟨w.heap.size, 1, none⟩ = some (.slice A0 es0.length c0) ∧ w_.cell? ⟨w4.heap.size, 0, none⟩ = some (V n0) ∧ w_.cell? ⟨w4.heap.size, 1, none⟩ = some (.slice B4 es0.length d4)) w' := fun w' h => ⟨h, h.cell X0_z X0_0, h.cell X0_z X0_1, h.cell X1_z X1_0, h.cell X1_z X1_1⟩
    have hdr : Nx w7 w7.drew := .drew (.refl _)
    have hx7 := hx0.nx N
    have hx7d := hx7.nx hdr
    have ho47 := Ho4.out.edgesAt
    go_region_held3 (fun w_ => Nx w7 w_ ∧ w_.cell? ⟨w.heap.size, 0, none⟩ = some (V n0) ∧ w_.cell? ⟨w.heap.size, 1, none⟩ = some (.slice A0 es0.length c0) ∧ w_.cell? ⟨w4.heap.size, 0, none⟩ = some (V n0) ∧ w_.cell? ⟨w4.heap.size, 1, none⟩ = some (.slice B4 es0.length d4))
      (first | exact kp _ hdr | exact kp _ hn8 | exact kp _ hn9)
      (first
        | (go_at_call 33; (with_reducible refine (toGraph_c n0 A0 c0 es0 _ hx7d (by omega)).mono ?_); rintro e w8 ⟨B8, d8, rfl, ho8, hn78⟩; have hn8 := hdr.trans hn78)
        | (go_at_call 36; (with_reducible refine (eqGraph_c n0 n0 B4 B8 d4 d8 es0 es0 _ (ho47.nx hn8) ho8.edgesAt (by omega) (by omega)).mono ?_); rintro e w9 ⟨rfl, hn89⟩; have hn9 := hn8.trans hn89))
    clear kp hdr hx7 hx7d ho47 ho8
    replace X0 := X0.nx hn9
    replace X0_0 := X0.cell (j := 0) rfl
    replace X0_1 := X0.cell (j := 1) rfl
    replace X0_z := X0.lt
    replace X1 := X1.nx hn9
    replace X1_0 := X1.cell (j := 0) rfl
    replace X1_1 := X1.cell (j := 1) rfl
    replace X1_z := X1.lt
    replace N := N.trans hn9
    replace M := M.trans hn9
    have Ho4 := Lib.hid (Ho4.out.nx hn9)
    have Ho6 := Lib.hid (Ho6.out.nx hn9)
    have hs79 := hn9.size
    go_wp2_with fail
    refine (markGraph_c _ _ n0 B4 d4 es0 1 _ Ho4.out (by omega) (by omega) (by omega)).mono ?_
    rintro e w10 ⟨rfl, ho10, hg10⟩
    have hm10 : ∀ k, blk B4 = some k → w3.heap.size ≤ k ∧ k < w4.heap.size := fun k hk => Hlt4.out k hk
    have hX0w := (show w.heap.size < w3.heap.size by have := hn3.size; have := hn2.size; have := hn1.size; omega)
    replace X0 := X0.grown hg10 (fun e => by have := hm10 _ e; omega)
    have X0_0 := X0.cell (j := 0) rfl
    have X0_1 := X0.cell (j := 1) rfl
    have X0_z := X0.lt
    replace N := N.grown hg10 (fun k hk => by have := hm10 k hk; omega)
    replace M := M.grown hg10 (fun k hk => (hm10 k hk).1)
    have Ho6 := Lib.hid (Ho6.out.kept_lo hg10 (fun k hk => by have := hm10 k hk; omega))
    have hs10 := hg10.size
    clear X1 X1_0 X1_1 X1_z hg10 ho10
    go_wp2_with fail
    refine (eqEdgeSS_c A6 A3 c6 c3 q6 q3 bs bs _ Hq6.out Hq3.out Ho6.out.rowsAt (Ho3.out.nx M).rowsAt hbl1 hbl1 Hb1.out Hb1.out).mono ?_
    rintro e w11 ⟨rfl, hn11⟩
    replace X0 := X0.nx hn11
    replace X0_0 := X0.cell (j := 0) rfl
    replace X0_1 := X0.cell (j := 1) rfl
    replace X0_z := X0.lt
    replace N := N.trans hn11
    replace M := M.trans hn11
    have Ho6 := Lib.hid (Ho6.out.nx hn11)
    have hs11 := hn11.size
    have hl6 : q6.length = bs.length := by rw [← Hq6.out, rowsOf_length]
    have Hl6 := Lib.hid hl6
    clear hl6
    go_wp2_with fail
    refine (markEdgeSS_c _ _ _ A6 c6 bs.length q6 1 _ Ho6.out Hl6.out hbl2 (Hqi.out q6 Hq6.out) (by omega) (by omega)).mono ?_
    rintro e w12 ⟨rfl, ho12, hg12⟩
    have hm12 : ∀ k, InQ q6 k → W5.heap.size ≤ k := fun k hk => (Ho6.out.inBase k hk).1
    replace X0 := hg12.bx X0 (fun h => by have := hm12 _ h; omega)
    have X0_0 := X0.cell (j := 0) rfl
    have X0_1 := X0.cell (j := 1) rfl
    have X0_z := X0.lt
    replace N := hg12.back N (fun k hk => by have := hm12 k hk; omega)
    replace M := hg12.back M (fun k hk => by have := hm12 k hk; omega)
    have Ho12 := Lib.hid ho12
    have hs12 := hg12.size
    clear hg12 ho12 Ho6
    obtain ⟨S, hS⟩ : ∃ S, sumTo (rowsOf q6) q6.length = S := ⟨_, rfl⟩
    have Hhe := Lib.hid (fun w hx => heldEdgeSS_c A6 c6 bs.length q6 1 w hx Hl6.out hbl2 (Hqi.out q6 Hq6.out) (by omega) (by omega))
    rw [hS] at Hhe ⊢
    clear hS
    go_wp2_with fail
    refine (Hhe.out _ Ho12.out.rowsAt).mono ?_
    rintro e w13 ⟨rfl, hn13⟩
    replace X0 := X0.nx hn13
    replace X0_0 := X0.cell (j := 0) rfl
    replace X0_1 := X0.cell (j := 1) rfl
    replace X0_z := X0.lt
    replace N := N.trans hn13
    replace M := M.trans hn13
    have Ho12 := Lib.hid (Ho12.out.nx hn13)
    go_wp2_with fail
    refine (toGraph_c n0 A0 c0 es0 _ (hx0.nx N) (by omega)).mono ?_
    rintro e w14 ⟨B14, d14, rfl, ho14, hn14⟩
    replace X0 := X0.nx hn14
    replace X0_0 := X0.cell (j := 0) rfl
    replace X0_1 := X0.cell (j := 1) rfl
    replace X0_z := X0.lt
    replace N := N.trans hn14
    replace M := M.trans hn14
    have Ho12 := Lib.hid (Ho12.out.nx hn14)
    go_wp2_with fail
    refine (Hib.out B14 d14 _ ho14.edgesAt ho14.cap).mono ?_
    rintro e w15 ⟨A15, c15, q15, rfl, hq15, ho15, hn15⟩
    replace X0 := X0.nx hn15
    replace X0_0 := X0.cell (j := 0) rfl
    replace X0_1 := X0.cell (j := 1) rfl
    replace X0_z := X0.lt
    replace N := N.trans hn15
    replace M := M.trans hn15
    have Ho12 := Lib.hid (Ho12.out.nx hn15)
    have Hq15 := Lib.hid hq15
    have Ho15 := Lib.hid ho15
    clear hq15 ho15 ho14
    go_wp2_with fail
    refine (eqEdgeSS_c A15 A3 c15 c3 q15 q3 bs bs _ Hq15.out Hq3.out Ho15.out.rowsAt (Ho3.out.nx M).rowsAt hbl1 hbl1 Hb1.out Hb1.out).mono ?_
    rintro e w16 ⟨rfl, hn16⟩
    replace X0 := X0.nx hn16
    replace X0_0 := X0.cell (j := 0) rfl
    replace X0_1 := X0.cell (j := 1) rfl
    replace X0_z := X0.lt
    replace N := N.trans hn16
    have Ho12 := Lib.hid (Ho12.out.nx hn16)
    go_wp2_with fail
    refine (Hhe.out _ Ho12.out.rowsAt).mono ?_
    rintro e w17 ⟨rfl, hn17⟩
    replace N := N.trans hn17
    go_wp2
    go_ret
    exact RetV.bool rfl N
end Go.Proofs.Yticjoichmcegnaa
