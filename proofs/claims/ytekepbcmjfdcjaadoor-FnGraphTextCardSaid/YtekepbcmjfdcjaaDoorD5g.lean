/- Contracts: DrawGraphValid, l1Case: some graph, some graph and an edge. -/
import Derived.Test.YtekepbcmjfdcjaaDoorD4
import Derived.Test.YtekepbcmjfdcjaaDoorE0
namespace Go.Proofs.YtekepbcmjfdcjaaDoor
open Go.RowKit set_option linter.unusedVariables false set_option linter.unusedSimpArgs false
attribute [local go_sem ↓] Go.wp_at_zero Go.wp_at_succ

/-- some graph in a row of the call's own -/
def SomeG (m : Nat) (w : World) (e : Ending) (w' : World) : Prop :=
  ∃ (nn : Int) (A : Option Addr) (c : Nat) (es : Es), e = .returned (.agg #[V nn, .slice A es.length c]) ∧ 0 ≤ nn ∧ nn ≤ 17 ∧ es.length ≤ m ∧ OwnE w' w.heap.size 41 A c es ∧ Nx w w'
/-- some graph in a row of the call's own, and some edge -/
def SomeGE (m : Nat) (w : World) (e : Ending) (w' : World) : Prop :=
  ∃ (nn : Int) (A : Option Addr) (c : Nat) (es : Es) (u v : Int), e = .returned (.tuple #[.agg #[V nn, .slice A es.length c], Ed u v]) ∧ 0 ≤ nn ∧ nn ≤ 17 ∧ es.length ≤ m ∧ OwnE w' w.heap.size 41 A c es ∧ Nx w w'

set_option maxRecDepth 100000 in
set_option maxHeartbeats 4000000 in
theorem drawGraphValid_c (A : Option Addr) (n c : Nat) (w : World) (hnc : n ≤ c) (hb : BytesAt w w.heap.size A n) :
    Calls Tryd.prog 26 #[.slice A n c] w (SomeG 26 w) := by
  go_enter Tryd.func26, Tryd.ntmps26
  go_wp2_with fail
  generalize hW1 : World.alloc _ _ = W1
  have gW1 : Nx w W1 := by subst hW1; exact (by repeat (first | exact Nx.refl _ | assumption | apply Nx.alloc | apply Nx.drew | apply Nx.drewN | (refine Nx.setCell ?_ (by first | (simp; done) | (simp; omega) | omega) _) | refine Nx.trans ?_ (by assumption)))
  have sW1 : W1.heap.size = w.heap.size + 1 := by subst hW1; simp
  have X0 : Bx W1 (w.heap.size) 24 [V 0, .slice none 0 0] := by subst hW1; have h := Bx.alloc w 24 [V 0, .slice none 0 0]; simpa using h
  have X0_0 := X0.cell (j := 0) rfl
  have X0_1 := X0.cell (j := 1) rfl
  have X0_z := X0.lt
  have HsW1 := Lib.hid sW1
  have lW1 : w.heap.size + 1 ≤ W1.heap.size := by omega
  clear hW1 sW1
  refine (open_l A n c _ hnc (hb.nx gW1 (by omega))).mono ?_
  rintro e w2 ⟨rfl, r2, hn2⟩
  replace X0 := X0.nx hn2
  have hr0 := hn2.size
  clear X0_0 X0_1 X0_z hb
  go_wp2_with fail
  refine (l1Draw_c W1.heap.size 0 _ r2 (by omega) (by omega)).mono ?_
  rintro e w3 ⟨nn, B, d, es, rfl, hv, hl, ho3, r3, x3⟩
  replace X0 := X0.rx x3 (by omega)
  have hn3 : Nx W1 w3 := Rx.nx hn2 x3 (Nat.le_refl _)
  have hnn : 0 ≤ nn ∧ nn ≤ 17 := ⟨by have := hv.1; omega, by have := hv.2.1; omega⟩
  clear hv r2 x3
  go_wp2_with fail
  refine (l1Wrong_c W1.heap.size (0 + 60) nn B d es _ r3 (by omega) (by omega) ho3.edgesAt (by omega) hnn).mono ?_
  rintro e w4 ⟨nn4, B4, d4, es4, rfl, h4a, h4b, hl4, ho4, r4, x4⟩
  replace X0 := X0.rx x4 (by omega)
  have hn4 : Nx W1 w4 := Rx.nx hn3 x4 (Nat.le_refl _)
  clear r3 x4 ho3
  go_wp2_with fail
  refine (l1Wrong_c W1.heap.size (0 + 60 + 6) nn4 B4 d4 es4 _ r4 (by omega) (by omega) ho4.edgesAt (by omega) ⟨h4a, h4b⟩).mono ?_
  rintro e w5 ⟨nn5, B5, d5, es5, rfl, h5a, h5b, hl5, ho5, r5, x5⟩
  replace X0 := X0.rx x5 (by omega)
  have hn5 : Nx W1 w5 := Rx.nx hn4 x5 (Nat.le_refl _)
  clear r4 x5 ho4
  go_wp2_with fail
  refine (l1Wrong_c W1.heap.size (0 + 60 + 6 + 6) nn5 B5 d5 es5 _ r5 (by omega) (by omega) ho5.edgesAt (by omega) ⟨h5a, h5b⟩).mono ?_
  rintro e w6 ⟨nn6, B6, d6, es6, rfl, h6a, h6b, hl6, ho6, r6, x6⟩
  replace X0 := X0.rx x6 (by omega)
  have hn6 : Nx W1 w6 := Rx.nx hn5 x6 (Nat.le_refl _)
  have hsz5 := hn5.size
  have r0 := X0.cell (j := 0) rfl
  have r1 := X0.cell (j := 1) rfl
  have rf := X0.free
  clear r5 x6 ho5
  go_wp2
  refine bodyPost_ret (v := .agg #[V nn6, .slice B6 es6.length d6]) (by simp [results, Tryd.f26, go_sem, *]) rfl ?_
  refine ⟨nn6, B6, d6, es6, rfl, h6a, h6b, by omega, ?_, ?_⟩
  · exact ((ho6.far (by first | omega | (simp; omega)) _).far (by first | omega | (simp; omega)) _).mono (by omega)
  · have hn06 : Nx w w6 := gW1.trans hn6
    exact (by repeat (first | exact Nx.refl _ | assumption | apply Nx.alloc | apply Nx.drew | apply Nx.drewN | (refine Nx.setCell ?_ (by first | (simp; done) | (simp; omega) | omega) _) | refine Nx.trans ?_ (by assumption)))

end Go.Proofs.YtekepbcmjfdcjaaDoor
