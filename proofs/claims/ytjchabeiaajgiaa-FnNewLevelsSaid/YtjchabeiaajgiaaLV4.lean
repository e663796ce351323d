/- Contracts: one thing put into an empty row of numbers, of Bools; clones of empty rows; LevelForest, PutLevel of at most one edge. -/
import Derived.Test.YtjchabeiaajgiaaLV3
import Derived.Test.YtjchabeiaajgiaaI4
import Derived.Test.YtjchabeiaajgiaaY2
import Derived.Deep.RegionHeld3
import Derived.Deep.Cut
import Derived.Deep.CutRange
namespace Go.Proofs.Ytjchabeiaajgiaa
open Go.RowKit set_option linter.unusedVariables false set_option linter.unusedSimpArgs false

theorem infoB : (Try.prog.info? 4).map (fun i => (i.zero, i.size, i.bytes)) = some (some (.bool false), 1, 1) := by kernel_rfl
set_option maxRecDepth 100000 in
set_option maxHeartbeats 1000000 in
theorem insI_c (g : Nat) (v : Int) (w : World) (hg : g < w.heap.size) (h0 : w.cell? ⟨g, 0, none⟩ = some (V v)) :
    Calls Try.prog 61 #[.slice none 0 0, V 0, .slice (some ⟨g, 0, none⟩) 1 1] w (RetI 3 [v] w) := by
  obtain ⟨i0, hi, hz0, hz1, hz2⟩ := info_parts infoI
  have Hi := Lib.hid hi
  have Hz0 := Lib.hid hz0
  have Hz1 := Lib.hid hz1
  have Hz2 := Lib.hid hz2
  clear hi hz0 hz1 hz2
  go_enter Try.func61, Try.ntmps61
  go_wp2_with (at_builtin; go_must (refine appI (base := w.heap.size) (t := 3) [] g v rfl rfl Try.underlying27 Hi.out Hz0.out Hz1.out Hz2.out rfl rfl (OwnI.nil w w.heap.size 3) rfl h0 (by simp) (Nat.le_refl _) ?_; intro A2 c2 w3 hown3 hnx3 hgr3 hbl3))
  go_ret
  exact ⟨A2, c2, rfl, hown3, hnx3 w (Nat.le_refl _) (.refl _)⟩
set_option maxRecDepth 100000 in
set_option maxHeartbeats 1000000 in
theorem insB_c (g : Nat) (v : Bool) (w : World) (hg : g < w.heap.size) (h0 : w.cell? ⟨g, 0, none⟩ = some (.bool v)) :
    Calls Try.prog 63 #[.slice none 0 0, V 0, .slice (some ⟨g, 0, none⟩) 1 1] w (fun e w' => ∃ A c, e = .returned (.slice A 1 c) ∧ OwnV w' w.heap.size 4 A c [.bool v] ∧ Nx w w') := by
  obtain ⟨i0, hi, hz0, hz1, hz2⟩ := info_parts infoB
  have Hi := Lib.hid hi
  have Hz0 := Lib.hid hz0
  have Hz1 := Lib.hid hz1
  have Hz2 := Lib.hid hz2
  clear hi hz0 hz1 hz2
  go_enter Try.func63, Try.ntmps63
  go_wp2_with (at_builtin; go_must (refine appV (base := w.heap.size) (t := 4) [] g (.bool v) 1 rfl rfl Try.underlying28 Hi.out Hz0.out Hz1.out Hz2.out (by omega) rfl rfl (OwnV.nil w w.heap.size 4) rfl h0 rfl (by simp) (Nat.le_refl _) ?_; intro A2 c2 w3 hown3 hnx3 hgr3 hbl3))
  go_ret
  exact ⟨A2, c2, rfl, hown3, hnx3 w (Nat.le_refl _) (.refl _)⟩
theorem cloneI_nil (w : World) : Calls Try.prog 62 #[.slice none 0 0] w (RetV (.slice none 0 0) w) := by
  have q22 : ∀ (w : World) (a : Option Addr) (n c n' c' : Nat), (binOp .eql 27 (.slice a n c) (.slice none n' c')).run Try.prog w = .ok (.bool a.isNone) w := fun w a n c n' c' => Lib.run_eql_slice_nil w _ _ a n c n' c' Try.underlying27
  go_enter Try.func62, Try.ntmps62
  go_wp2
  go_ret
  exact RetV.mk rfl (.refl _)
theorem cloneB_nil (w : World) : Calls Try.prog 64 #[.slice none 0 0] w (RetV (.slice none 0 0) w) := by
  have q22 : ∀ (w : World) (a : Option Addr) (n c n' c' : Nat), (binOp .eql 28 (.slice a n c) (.slice none n' c')).run Try.prog w = .ok (.bool a.isNone) w := fun w a n c n' c' => Lib.run_eql_slice_nil w _ _ a n c n' c' Try.underlying28
  go_enter Try.func64, Try.ntmps64
  go_wp2
  go_ret
  exact RetV.mk rfl (.refl _)

set_option maxRecDepth 100000 in
set_option maxHeartbeats 2000000 in
/-- the forest of level 0 -/
theorem levelForest_c (n : Nat) (es : Es) (hv : Valid n es) (hl : es.length ≤ 1) (G A B : Option Addr) (gc c1 c2 : Nat) (w : World) (hG : EdgesAt w G es) (hA : IntsAt w A (List.replicate es.length 0)) (hB : TrueAt w B es.length) :
    Calls Try.prog 16 #[LvV n G es.length gc A es.length c1 B es.length c2, V 0] w (fun e w' => ∃ A c, e = .returned (.tuple #[.slice A es.length c, .bool true]) ∧ OwnE w' w.heap.size 36 A c es ∧ Nx w w') := by
  have Hlv := Lib.hid (fun w' (hN : Nx w w') => levelsValid_c n es hv hl G A B gc c1 c2 w' (hG.nx hN) (hA.nx hN) (hB.nx hN))
  have Hab := Lib.hid (fun w' (hN : Nx w w') => above_c n G A B gc c1 c2 es 0 true w' (hG.nx hN) (hA.nx hN) (hB.nx hN) (by omega) (by omega))
  rw [lvE_zero] at Hab
  unfold RetG at Hab
  clear hv hG hA hB
  go_enter Try.func16, Try.ntmps16
  go_wp2_with fail
  generalize hW1 : World.alloc _ _ = W1
  have gW1 : Nx w W1 := by subst hW1; exact (by repeat (first | exact Nx.refl _ | assumption | apply Nx.alloc | apply Nx.drew | apply Nx.drewN | (refine Nx.setCell ?_ (by first | (simp; done) | (simp; omega) | omega) _) | refine Nx.trans ?_ (by assumption)))
  have sW1 : W1.heap.size = w.heap.size + 1 := by subst hW1; simp
  have L : Bx W1 (w.heap.size) 30 [V n, .slice G es.length gc, .slice A es.length c1, .slice B es.length c2] := by subst hW1; have h := Bx.alloc w 30 [V n, .slice G es.length gc, .slice A es.length c1, .slice B es.length c2]; simpa using h
  have L_0 := L.cell (j := 0) rfl
  have L_1 := L.cell (j := 1) rfl
  have L_2 := L.cell (j := 2) rfl
  have L_3 := L.cell (j := 3) rfl
  have L_z := L.lt
  have HsW1 := Lib.hid sW1
  have lW1 : w.heap.size + 1 ≤ W1.heap.size := by omega
  clear hW1 sW1
  have N := gW1
  refine (Hlv.out _ N).mono ?_
  rintro e w2 ⟨rfl, hn2⟩
  replace L := L.nx hn2
  replace L_0 := L.cell (j := 0) rfl
  replace L_1 := L.cell (j := 1) rfl
  replace L_2 := L.cell (j := 2) rfl
  replace L_3 := L.cell (j := 3) rfl
  replace L_z := L.lt
  replace N := N.trans hn2
  have z2 := N.size
  go_wp2_with fail
  refine (Hab.out _ N).mono ?_
  rintro e w3 ⟨D, d, rfl, ho, hn3⟩
  replace L := L.nx hn3
  replace L_0 := L.cell (j := 0) rfl
  replace L_1 := L.cell (j := 1) rfl
  replace L_2 := L.cell (j := 2) rfl
  replace L_3 := L.cell (j := 3) rfl
  replace L_z := L.lt
  replace N := N.trans hn3
  have hfd : ∀ (m : Nat) (w : World), (Instr.field 26 (.agg #[V n, .slice D m d]) 1).run Try.prog w = .ok (.slice D m d) w := fun _ _ => by kernel_rfl
  go_wp2
  go_ret2
  exact ⟨D, d, rfl, ho.mono (by omega), N⟩

theorem OwnV.trueAt {w : World} {base : Nat} {t : TypeId} {A : Option Addr} {c : Nat} (h : OwnV w base t A c [.bool true]) : TrueAt w A 1 := fun _ => by
  obtain ⟨g, rfl, h1, h2⟩ := h.at (by simp)
  refine ⟨g, 0, rfl, h2, fun j hj => ?_⟩
  obtain rfl : j = 0 := by omega
  exact h.cell (by rfl)
/-- a cell, whatever it holds -/
def cellOr (w : World) (b j : Nat) : Value := (w.cell? ⟨b, j, none⟩).getD undef
/-- only new blocks, and block g rewritten, of four cells -/
structure KS (g : Nat) (t : TypeId) (a w : World) : Prop where
  gx : Gx (fun k => k = g) a w
  bx : ∃ v0 v1 v2 v3, Bx w g t [v0, v1, v2, v3]
section
variable {g : Nat} {t : TypeId} {a w w' : World}
theorem KS.nx (h : KS g t a w) (hn : Nx w w') : KS g t a w' := ⟨h.gx.nx hn, by obtain ⟨v0, v1, v2, v3, hb⟩ := h.bx; exact ⟨v0, v1, v2, v3, hb.nx hn⟩⟩
theorem KS.alloc (h : KS g t a w) (o : Obj) : KS g t a (w.alloc o) := h.nx (.alloc (.refl _) _)
theorem KS.drew (h : KS g t a w) : KS g t a w.drew := h.nx (.drew (.refl _))
theorem KS.s0 (h : KS g t a w) (u : Value) : KS g t a (w.setCell ⟨g, 0, none⟩ u) := ⟨h.gx.setCell (.inl rfl) _ _, by obtain ⟨v0, v1, v2, v3, hb⟩ := h.bx; exact ⟨u, v1, v2, v3, hb.set (j := 0) u⟩⟩
theorem KS.s1 (h : KS g t a w) (u : Value) : KS g t a (w.setCell ⟨g, 1, none⟩ u) := ⟨h.gx.setCell (.inl rfl) _ _, by obtain ⟨v0, v1, v2, v3, hb⟩ := h.bx; exact ⟨v0, u, v2, v3, hb.set (j := 1) u⟩⟩
theorem KS.s2 (h : KS g t a w) (u : Value) : KS g t a (w.setCell ⟨g, 2, none⟩ u) := ⟨h.gx.setCell (.inl rfl) _ _, by obtain ⟨v0, v1, v2, v3, hb⟩ := h.bx; exact ⟨v0, v1, u, v3, hb.set (j := 2) u⟩⟩
theorem KS.s3 (h : KS g t a w) (u : Value) : KS g t a (w.setCell ⟨g, 3, none⟩ u) := ⟨h.gx.setCell (.inl rfl) _ _, by obtain ⟨v0, v1, v2, v3, hb⟩ := h.bx; exact ⟨v0, v1, v2, u, hb.set (j := 3) u⟩⟩
theorem KS.cells (h : KS g t a w) : w.cell? ⟨g, 0, none⟩ = some (cellOr w g 0) ∧ w.cell? ⟨g, 1, none⟩ = some (cellOr w g 1) ∧ w.cell? ⟨g, 2, none⟩ = some (cellOr w g 2) ∧ w.cell? ⟨g, 3, none⟩ = some (cellOr w g 3) := by
  obtain ⟨v0, v1, v2, v3, hb⟩ := h.bx
  have h0 := hb.cell (j := 0) rfl
  have h1 := hb.cell (j := 1) rfl
  have h2 := hb.cell (j := 2) rfl
  have h3 := hb.cell (j := 3) rfl
  unfold cellOr
  rw [h0, h1, h2, h3]
  exact ⟨rfl, rfl, rfl, rfl⟩
theorem KS.free (h : KS g t a w) (o : Nat) : w.frozen? ⟨g, o, none⟩ = false := by
  obtain ⟨v0, v1, v2, v3, hb⟩ := h.bx
  exact hb.free o
end
theorem putP_one {n : Nat} {a b : Nat} (h1 : a < b) (h2 : b < n) (h16 : n ≤ 16) : Valid n [((a : Int), (b : Int))] := by
  refine ⟨by omega, by omega, by simp, fun k hk => ?_⟩
  obtain rfl : k = 0 := by simp at hk; omega
  unfold okAt
  simp
  omega
theorem valid_nil {n : Nat} (h1 : 1 ≤ n) (h16 : n ≤ 16) : Valid n [] := ⟨by omega, by omega, by simp, fun k hk => by simp at hk⟩
set_option maxRecDepth 100000 in
set_option maxHeartbeats 8000000 in
/-- an edge put into levels without one -/
theorem putLevel_c (n a b : Nat) (hab : a < b) (hbn : b < n) (h16 : n ≤ 16) (w : World) :
    Calls Try.prog 15 #[LvV n none 0 0 none 0 0 none 0 0, Ed a b] w (fun e w' => ∃ G gc A c1 B c2, e = .returned (.tuple #[LvV n G 1 gc A 1 c1 B 1 c2, .bool true]) ∧ EdgesAt w' G [((a : Int), (b : Int))] ∧ IntsAt w' A [0] ∧ TrueAt w' B 1 ∧ Nx w w') := by
  have hv0 : Valid n [] := valid_nil (by omega) h16
  have hnE : ∀ q, EdgesAt q none [] := fun q h => by simp at h
  have hnI : ∀ q, IntsAt q none (List.replicate ([] : Es).length 0) := fun q h => by simp at h
  have hnB : ∀ q, TrueAt q none ([] : Es).length := fun q h => by simp at h
  have Hlv := Lib.hid (fun w' => (show Calls Try.prog 13 #[LvV n none 0 0 none 0 0 none 0 0] w' (RetV (.bool true) w') from levelsValid_c n [] hv0 (by simp) none none none 0 0 0 w' (hnE _) (hnI _) (hnB _)))
  have hput : PutP n [] ((a : Int), (b : Int)) := ⟨hv0, by simp, putP_one hab hbn h16⟩
  have Hput := Lib.hid (fun w' => (show Calls Try.prog 59 #[.agg #[V n, .slice none 0 0], Ed a b] w' (RetGB 36 n [((a : Int), (b : Int))] true w') by
    have h1 := iPutEdge_c n none 0 [] a b w' (hnE _) (by simp)
    rw [(put_yes hput).1, (put_yes hput).2.1, (put_yes hput).2.2] at h1
    exact h1))
  have Hidx := Lib.hid (fun A c w' (h : EdgesAt w' A [((a : Int), (b : Int))]) => (show Calls Try.prog 60 #[.slice A 1 c, Ed a b] w' (RetV (V 0) w') by
    have h1 := index_c A c [((a : Int), (b : Int))] a b w' h (by simp)
    have h2 : idxE [((a : Int), (b : Int))] ((a : Int), (b : Int)) = 0 := by simp [idxE]
    rwa [h2] at h1))
  have Hcon := Lib.hid (fun w' => (show Calls Try.prog 65 #[.agg #[V n, .slice none 0 0], V a, V b] w' (RetV (.bool false) w') by
    have h1 := connected_c n none 0 [] a b w' (hnE _) (by simp) h16 (InR.nil n) (by simp) ⟨by omega, by omega⟩ ⟨by omega, by omega⟩
    rwa [connB_nil ⟨by omega, by omega⟩ ⟨by omega, by omega⟩ (by omega)] at h1))
  unfold RetGB at Hput
  clear hv0 hnE hnI hnB hput
  go_enter Try.func15, Try.ntmps15
  go_wp2_with fail
  generalize hW1 : World.alloc _ _ = W1
  have gW1 : Nx w W1 := by subst hW1; exact (by repeat (first | exact Nx.refl _ | assumption | apply Nx.alloc | apply Nx.drew | apply Nx.drewN | (refine Nx.setCell ?_ (by first | (simp; done) | (simp; omega) | omega) _) | refine Nx.trans ?_ (by assumption)))
  have sW1 : W1.heap.size = w.heap.size + 3 := by subst hW1; simp
  have L : Bx W1 (w.heap.size) 30 [V n, .slice none 0 0, .slice none 0 0, .slice none 0 0] := by subst hW1; have h := Bx.alloc w 30 [V n, .slice none 0 0, .slice none 0 0, .slice none 0 0]; have h := h.nx (Nx.alloc (Nx.refl _) (.cells #[V a, V b] 36)); have h := h.nx (Nx.alloc (Nx.refl _) (.cells #[V 0, .slice none 0 0, .slice none 0 0, .slice none 0 0] 30)); simpa using h
  have E : Bx W1 (w.heap.size + 1) 36 [V a, V b] := by subst hW1; have h := Bx.alloc (w.alloc (.cells #[V n, .slice none 0 0, .slice none 0 0, .slice none 0 0] 30)) 36 [V a, V b]; have h := h.nx (Nx.alloc (Nx.refl _) (.cells #[V 0, .slice none 0 0, .slice none 0 0, .slice none 0 0] 30)); simpa using h
  have R : Bx W1 (w.heap.size + 2) 30 [V 0, .slice none 0 0, .slice none 0 0, .slice none 0 0] := by subst hW1; have h := Bx.alloc ((w.alloc (.cells #[V n, .slice none 0 0, .slice none 0 0, .slice none 0 0] 30)).alloc (.cells #[V a, V b] 36)) 30 [V 0, .slice none 0 0, .slice none 0 0, .slice none 0 0]; simpa using h
  have L_0 := L.cell (j := 0) rfl
  have L_1 := L.cell (j := 1) rfl
  have L_2 := L.cell (j := 2) rfl
  have L_3 := L.cell (j := 3) rfl
  have L_z := L.lt
  have E_0 := E.cell (j := 0) rfl
  have E_1 := E.cell (j := 1) rfl
  have E_z := E.lt
  have R_0 := R.cell (j := 0) rfl
  have R_1 := R.cell (j := 1) rfl
  have R_2 := R.cell (j := 2) rfl
  have R_3 := R.cell (j := 3) rfl
  have R_z := R.lt
  have HsW1 := Lib.hid sW1
  have lW1 : w.heap.size + 3 ≤ W1.heap.size := by omega
  clear hW1 sW1
  have N := gW1
  refine (Hlv.out _).mono ?_
  rintro e w2 ⟨rfl, hn2⟩
  replace L := L.nx hn2
  replace L_0 := L.cell (j := 0) rfl
  replace L_1 := L.cell (j := 1) rfl
  replace L_2 := L.cell (j := 2) rfl
  replace L_3 := L.cell (j := 3) rfl
  replace L_z := L.lt
  replace E := E.nx hn2
  replace E_0 := E.cell (j := 0) rfl
  replace E_1 := E.cell (j := 1) rfl
  replace E_z := E.lt
  replace R := R.nx hn2
  replace R_0 := R.cell (j := 0) rfl
  replace R_1 := R.cell (j := 1) rfl
  replace R_2 := R.cell (j := 2) rfl
  replace R_3 := R.cell (j := 3) rfl
  replace R_z := R.lt
  replace N := N.trans hn2
  go_wp2_with fail
  refine (Hput.out _).mono ?_
  rintro e w3 ⟨G, gc, rfl, hoG, hn3⟩
  replace L := L.nx hn3
  replace L_0 := L.cell (j := 0) rfl
  replace L_1 := L.cell (j := 1) rfl
  replace L_2 := L.cell (j := 2) rfl
  replace L_3 := L.cell (j := 3) rfl
  replace L_z := L.lt
  replace E := E.nx hn3
  replace E_0 := E.cell (j := 0) rfl
  replace E_1 := E.cell (j := 1) rfl
  replace E_z := E.lt
  replace R := R.nx hn3
  replace R_0 := R.cell (j := 0) rfl
  replace R_1 := R.cell (j := 1) rfl
  replace R_2 := R.cell (j := 2) rfl
  replace R_3 := R.cell (j := 3) rfl
  replace R_z := R.lt
  replace N := N.trans hn3
  have hG := hoG.edgesAt
  go_wp2_with fail
  generalize hW4 : World.alloc _ _ = W4
  have gW4 : Nx w3 W4 := by subst hW4; exact (by repeat (first | exact Nx.refl _ | assumption | apply Nx.alloc | apply Nx.drew | apply Nx.drewN | (refine Nx.setCell ?_ (by first | (simp; done) | (simp; omega) | omega) _) | refine Nx.trans ?_ (by assumption)))
  have sW4 : W4.heap.size = w3.heap.size + 1 := by subst hW4; simp
  have X : Bx W4 (w3.heap.size) 26 [V n, .slice G 1 gc] := by subst hW4; have h := Bx.alloc w3 26 [V n, .slice G 1 gc]; simpa using h
  have X_0 := X.cell (j := 0) rfl
  have X_1 := X.cell (j := 1) rfl
  have X_z := X.lt
  have HsW4 := Lib.hid sW4
  have lW4 : w3.heap.size + 1 ≤ W4.heap.size := by omega
  clear hW4 sW4
  replace L := L.nx gW4
  replace L_0 := L.cell (j := 0) rfl
  replace L_1 := L.cell (j := 1) rfl
  replace L_2 := L.cell (j := 2) rfl
  replace L_3 := L.cell (j := 3) rfl
  replace L_z := L.lt
  replace E := E.nx gW4
  replace E_0 := E.cell (j := 0) rfl
  replace E_1 := E.cell (j := 1) rfl
  replace E_z := E.lt
  replace R := R.nx gW4
  replace R_0 := R.cell (j := 0) rfl
  replace R_1 := R.cell (j := 1) rfl
  replace R_2 := R.cell (j := 2) rfl
  replace R_3 := R.cell (j := 3) rfl
  replace R_z := R.lt
  replace hG := hG.nx gW4
  replace N := N.trans gW4
  refine (Hidx.out G gc _ hG).mono ?_
  rintro e w5 ⟨rfl, hn5⟩
  replace L := L.nx hn5
  replace L_0 := L.cell (j := 0) rfl
  replace L_1 := L.cell (j := 1) rfl
  replace L_2 := L.cell (j := 2) rfl
  replace L_3 := L.cell (j := 3) rfl
  replace L_z := L.lt
  replace E := E.nx hn5
  replace E_0 := E.cell (j := 0) rfl
  replace E_1 := E.cell (j := 1) rfl
  replace E_z := E.lt
  replace R := R.nx hn5
  replace R_0 := R.cell (j := 0) rfl
  replace R_1 := R.cell (j := 1) rfl
  replace R_2 := R.cell (j := 2) rfl
  replace R_3 := R.cell (j := 3) rfl
  replace R_z := R.lt
  replace X := X.nx hn5
  replace X_0 := X.cell (j := 0) rfl
  replace X_1 := X.cell (j := 1) rfl
  replace X_z := X.lt
  replace hG := hG.nx hn5
  replace N := N.trans hn5
  obtain ⟨W8, hW8⟩ : ∃ x, x = w5 := ⟨_, rfl⟩
  subst hW8
  have R_f := R.free
  have z2 : w.heap.size + 3 ≤ w2.heap.size := by have := hn2.size; omega
  have hoG8 : OwnE W8 w2.heap.size 36 G gc [((a : Int), (b : Int))] := (hoG.nx gW4).nx hn5
  clear hoG
  have z3a : w.heap.size + 3 ≤ w3.heap.size := by have := hn3.size; omega
  have z3 : w.heap.size + 3 ≤ W8.heap.size := by have := hn2.size; have := hn3.size; have := gW4.size; have := hn5.size; omega
  go_upto_region 7 with (fail)
  go_cut [5] from 27 to 48 (fun s5 wc => ∃ A c1 B c2, s5 = .bool true ∧ Nx w wc ∧ Bx wc (w.heap.size + 1 + 1) 30 [V n, .slice G 1 gc, .slice A 1 c1, .slice B 1 c2] ∧ EdgesAt wc G [((a : Int), (b : Int))] ∧ IntsAt wc A [0] ∧ TrueAt wc B 1)
  case first =>
    have K0 : KS (w.heap.size + 1 + 1) 30 W8 W8 := ⟨Gx.refl _ _, _, _, _, _, R⟩
    have kp : ∀ w', KS (w.heap.size + 1 + 1) 30 W8 w' → (fun w_ => w_.cell? ⟨w.heap.size, 0, none⟩ = some (V n) ∧ w_.cell? ⟨w.heap.size, 1, none⟩ = some (.slice none 0 0) ∧ w_.cell? ⟨w.heap.size, 2, none⟩ = some (.slice none 0 0) ∧ w_.cell? ⟨w.heap.size, 3, none⟩ = some (.slice none 0 0) ∧ w_.cell? ⟨w.heap.size + 1, 0, none⟩ = some (V a) ∧ w_.cell? ⟨w.heap.size + 1, 1, none⟩ = some (V b) ∧ w_.cell? ⟨w3.heap.size, 0, none⟩ = some (V n) ∧ w_.cell? ⟨w3.heap.size, 1, none⟩ = some (.slice G 1 gc) ∧ w_.cell? ⟨w.heap.size + 1 + 1, 0, none⟩ = some (cellOr w_ (w.heap.size + 1 + 1) 0) ∧ w_.cell? ⟨w.heap.size + 1 + 1, 1, none⟩ = some (cellOr w_ (w.heap.size + 1 + 1) 1) ∧ w_.cell? ⟨w.heap.size + 1 + 1, 2, none⟩ = some (cellOr w_ (w.heap.size + 1 + 1) 2) ∧ w_.cell? ⟨w.heap.size + 1 + 1, 3, none⟩ = some (cellOr w_ (w.heap.size + 1 + 1) 3) ∧ (∀ o, w_.frozen? ⟨w.heap.size + 1 + 1, o, none⟩ = false)) w' := fun w' h =>
      ⟨h.gx.cell L_z (by omega) L_0, h.gx.cell L_z (by omega) L_1, h.gx.cell L_z (by omega) L_2, h.gx.cell L_z (by omega) L_3, h.gx.cell E_z (by omega) E_0, h.gx.cell E_z (by omega) E_1, h.gx.cell X_z (by omega) X_0, h.gx.cell X_z (by omega) X_1, h.cells.1, h.cells.2.1, h.cells.2.2.1, h.cells.2.2.2, h.free⟩
    go_region_held3 (fun w_ => w_.cell? ⟨w.heap.size, 0, none⟩ = some (V n) ∧ w_.cell? ⟨w.heap.size, 1, none⟩ = some (.slice none 0 0) ∧ w_.cell? ⟨w.heap.size, 2, none⟩ = some (.slice none 0 0) ∧ w_.cell? ⟨w.heap.size, 3, none⟩ = some (.slice none 0 0) ∧ w_.cell? ⟨w.heap.size + 1, 0, none⟩ = some (V a) ∧ w_.cell? ⟨w.heap.size + 1, 1, none⟩ = some (V b) ∧ w_.cell? ⟨w3.heap.size, 0, none⟩ = some (V n) ∧ w_.cell? ⟨w3.heap.size, 1, none⟩ = some (.slice G 1 gc) ∧ w_.cell? ⟨w.heap.size + 1 + 1, 0, none⟩ = some (cellOr w_ (w.heap.size + 1 + 1) 0) ∧ w_.cell? ⟨w.heap.size + 1 + 1, 1, none⟩ = some (cellOr w_ (w.heap.size + 1 + 1) 1) ∧ w_.cell? ⟨w.heap.size + 1 + 1, 2, none⟩ = some (cellOr w_ (w.heap.size + 1 + 1) 2) ∧ w_.cell? ⟨w.heap.size + 1 + 1, 3, none⟩ = some (cellOr w_ (w.heap.size + 1 + 1) 3) ∧ (∀ o, w_.frozen? ⟨w.heap.size + 1 + 1, o, none⟩ = false))
      (exact kp _ (by (repeat (first | exact K0 | apply KS.alloc | apply KS.drew | apply KS.s0 | apply KS.s1 | apply KS.s2 | apply KS.s3 | (refine KS.nx ?_ (by assumption)))); done))
      (first
        | (go_at_call 62; (with_reducible refine (cloneI_nil _).mono ?_); rintro e wA ⟨rfl, hnA⟩; have hsA : W8.heap.size ≤ wA.heap.size := Nx.size (by exact (by (repeat (first | exact Nx.refl _ | assumption | apply Nx.alloc | apply Nx.drew | apply Nx.drewN | (refine Nx.setCell ?_ (by first | (simp; done) | (simp; omega) | omega) _) | refine Nx.trans ?_ (by assumption))); done)); obtain ⟨hcA, hfA, hzA⟩ := hnA.rules; (try simp [size_drew_] at hzA))
        | (go_at_call 61; (with_reducible refine (insI_c _ 0 _ (by first | (simp; done) | omega | (simp; omega)) (by go_simp)).mono ?_); rintro e wB ⟨BI, dI, rfl, hoI, hnB⟩; have hsB : W8.heap.size ≤ wB.heap.size := Nx.size (by exact (by (repeat (first | exact Nx.refl _ | assumption | apply Nx.alloc | apply Nx.drew | apply Nx.drewN | (refine Nx.setCell ?_ (by first | (simp; done) | (simp; omega) | omega) _) | refine Nx.trans ?_ (by assumption))); done)); obtain ⟨hcB, hfB, hzB⟩ := hnB.rules; (try simp [size_drew_] at hzB))
        | (go_at_call 64; (with_reducible refine (cloneB_nil _).mono ?_); rintro e wC ⟨rfl, hnC⟩; have hsC : W8.heap.size ≤ wC.heap.size := Nx.size (by exact (by (repeat (first | exact Nx.refl _ | assumption | apply Nx.alloc | apply Nx.drew | apply Nx.drewN | (refine Nx.setCell ?_ (by first | (simp; done) | (simp; omega) | omega) _) | refine Nx.trans ?_ (by assumption))); done)); obtain ⟨hcC, hfC, hzC⟩ := hnC.rules; (try simp [size_drew_] at hzC))
        | (go_at_call 65; (with_reducible refine (Hcon.out _).mono ?_); rintro e wD ⟨rfl, hnD⟩; have hsD : W8.heap.size ≤ wD.heap.size := Nx.size (by exact (by (repeat (first | exact Nx.refl _ | assumption | apply Nx.alloc | apply Nx.drew | apply Nx.drewN | (refine Nx.setCell ?_ (by first | (simp; done) | (simp; omega) | omega) _) | refine Nx.trans ?_ (by assumption))); done)); obtain ⟨hcD, hfD, hzD⟩ := hnD.rules; (try simp [size_drew_] at hzD))
        | (go_at_call 63; (with_reducible refine (insB_c _ true _ (by first | (simp; done) | omega | (simp; omega)) (by go_simp)).mono ?_); rintro e wF ⟨BF, dF, rfl, hoF, hnF⟩; have hsF : W8.heap.size ≤ wF.heap.size := Nx.size (by exact (by (repeat (first | exact Nx.refl _ | assumption | apply Nx.alloc | apply Nx.drew | apply Nx.drewN | (refine Nx.setCell ?_ (by first | (simp; done) | (simp; omega) | omega) _) | refine Nx.trans ?_ (by assumption))); done)); obtain ⟨hcF, hfF, hzF⟩ := hnF.rules; (try simp [size_drew_] at hzF)))
    all_goals go_wp2
    all_goals go_meet
    all_goals
      have nB : Nx wB wF := (by (repeat (first | exact Nx.refl _ | assumption | apply Nx.alloc | apply Nx.drew | apply Nx.drewN | (refine Nx.setCell ?_ (by first | (simp; done) | (simp; omega) | omega) _) | refine Nx.trans ?_ (by assumption))); done)
      have nF : Nx W8 wF := (by (repeat (first | exact Nx.refl _ | assumption | apply Nx.alloc | apply Nx.drew | apply Nx.drewN | (refine Nx.setCell ?_ (by first | (simp; done) | (simp; omega) | omega) _) | refine Nx.trans ?_ (by assumption))); done)
      have RF := ((((R.nx nF).set (j := 0) (V n)).set (j := 1) (.slice G 1 gc)).set (j := 2) (.slice BI 1 dI)).set (j := 3) (.slice BF 1 dF)
      refine ⟨BI, dI, BF, dF, rfl, ?_, by simpa using RF, ?_, ?_, ?_⟩
      · exact ((((N.trans nF).setCell (by first | (simp; done) | omega | (simp; omega)) _).setCell (by first | (simp; done) | omega | (simp; omega)) _).setCell (by first | (simp; done) | omega | (simp; omega)) _).setCell (by first | (simp; done) | omega | (simp; omega)) _
      · exact (((((hoG8.nx nF).far (by first | (simp; done) | omega | (simp; omega)) _).far (by first | (simp; done) | omega | (simp; omega)) _).far (by first | (simp; done) | omega | (simp; omega)) _).far (by first | (simp; done) | omega | (simp; omega)) _).edgesAt
      · exact (((((hoI.nx nB).far (by first | (simp; done) | omega | (simp; omega)) _).far (by first | (simp; done) | omega | (simp; omega)) _).far (by first | (simp; done) | omega | (simp; omega)) _).far (by first | (simp; done) | omega | (simp; omega)) _).intsAt
      · exact ((((hoF.far (by first | (simp; done) | omega | (simp; omega)) _).far (by first | (simp; done) | omega | (simp; omega)) _).far (by first | (simp; done) | omega | (simp; omega)) _).far (by first | (simp; done) | omega | (simp; omega)) _).trueAt
  obtain ⟨A, c1, B, c2, rfl, N2, R2, hG2, hI2, hB2⟩ := hcut
  have R_0 := R2.cell (j := 0) rfl
  have R_1 := R2.cell (j := 1) rfl
  have R_2 := R2.cell (j := 2) rfl
  have R_3 := R2.cell (j := 3) rfl
  go_wp2
  refine bodyPost_ret (v := .tuple #[LvV n G 1 gc A 1 c1 B 1 c2, .bool true]) (by simp [results, Try.f15, go_sem, *]) rfl ?_
  exact ⟨G, gc, A, c1, B, c2, rfl, hG2, hI2, hB2, N2⟩
end Go.Proofs.Ytjchabeiaajgiaa
