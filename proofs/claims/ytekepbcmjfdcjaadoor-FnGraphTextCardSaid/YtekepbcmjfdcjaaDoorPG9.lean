/- Contracts: DrawParseGraph: some text; DrawFormatGraph: some graph. -/
import Derived.Test.YtekepbcmjfdcjaaDoorPG8
import Derived.Test.YtekepbcmjfdcjaaDoorPG5
namespace Go.Proofs.YtekepbcmjfdcjaaDoor
open Go.RowKit set_option linter.unusedVariables false set_option linter.unusedSimpArgs false

/-- some text -/
def SomeT (w : World) (e : Ending) (w' : World) : Prop := ∃ T : List UInt8, e = .returned (Str T) ∧ T.length ≤ 400 ∧ Nx w w'
theorem strs6 {w : World} {g : Nat} (h : Bx w g 9 [Str [], Str [32], Str [45], Str [48], Str [49], Str [57]]) : StrsAt w (some ⟨g, 0, none⟩) [[], [32], [45], [48], [49], [57]] := fun _ =>
  ⟨g, 0, rfl, h.lt, fun j p hj => by
    rw [Nat.zero_add]
    have hj2 := congrArg (Option.map Str) hj
    rw [← List.getElem?_map] at hj2
    exact h.cell hj2⟩

set_option maxRecDepth 100000 in
set_option maxHeartbeats 4000000 in
theorem drawParseGraph_c (A : Option Addr) (n c : Nat) (w : World) (hnc : n ≤ c) (hb : BytesAt w w.heap.size A n) :
    Calls Tryd.prog 16 #[.slice A n c] w (SomeT w) := by
  go_enter Tryd.func16, Tryd.ntmps16
  go_wp2_with fail
  refine (open_l A n c w hnc hb).mono ?_
  rintro e w2 ⟨rfl, r2, hn2⟩
  have hr0 := r2.lt
  clear hb
  go_wp2_with fail
  refine (l1Draw_c w.heap.size 0 _ r2 (by omega) (by omega)).mono ?_
  rintro e w3 ⟨nn, B, d, es, rfl, hv, hl, ho3, r3, x3⟩
  have hn3 : Nx w w3 := Rx.nx hn2 x3 (Nat.le_refl _)
  have hfl := gtxt_len hv
  have hr3 := r3.lt
  clear r2 x3 hn2 hr0
  go_wp2_with fail
  refine (sFormatGraph_c nn B d es _ ho3.edgesAt (by omega)).mono ?_
  rintro e w4 ⟨rfl, hn4⟩
  have r4 := r3.nx hn4
  have hr4 := r4.lt
  replace hn3 := hn3.trans hn4
  generalize fmtL nn es = T at *
  clear ho3 hv r3 hr3 hn4
  go_wp2_with fail
  generalize hW5 : World.alloc _ _ = W5
  have n5 : Nx w4 W5 := by subst hW5; exact (by repeat (first | exact Nx.refl _ | assumption | apply Nx.alloc | apply Nx.drew | apply Nx.drewN | (refine Nx.setCell ?_ (by first | (simp; done) | (simp; omega) | omega) _) | refine Nx.trans ?_ (by assumption)))
  have G : Bx W5 w4.heap.size 9 [Str [], Str [32], Str [45], Str [48], Str [49], Str [57]] := by subst hW5; exact Bx.alloc w4 9 [Str [], Str [32], Str [45], Str [48], Str [49], Str [57]]
  have r5 := r4.nx n5
  have hn5 := hn3.trans n5
  clear hW5 r4 hn3
  refine (l1Bend_c w.heap.size (0 + 60) T (some ⟨w4.heap.size, 0, none⟩) 6 [[], [32], [45], [48], [49], [57]] W5 r5 (by omega) (by omega) (strs6 G) (by simp) (by simp) (by simp) (by intro b off e; injection e with e; injection e; omega)).mono ?_
  rintro e w6 ⟨t, rfl, ht, r6, x6⟩
  have hn6 : Nx w w6 := Rx.nx hn5 x6 (Nat.le_refl _)
  go_wp2
  go_ret
  exact ⟨t, rfl, by omega, hn6⟩

theorem drawFormatGraph_c (A : Option Addr) (n c : Nat) (w : World) (hnc : n ≤ c) (hb : BytesAt w w.heap.size A n) :
    Calls Tryd.prog 10 #[.slice A n c] w (SomeG 26 w) := by
  go_enter Tryd.func10, Tryd.ntmps10
  go_wp2_with fail
  generalize hW1 : World.alloc _ _ = W1
  have gW1 : Nx w W1 := by subst hW1; exact (by repeat (first | exact Nx.refl _ | assumption | apply Nx.alloc | apply Nx.drew | apply Nx.drewN | (refine Nx.setCell ?_ (by first | (simp; done) | (simp; omega) | omega) _) | refine Nx.trans ?_ (by assumption)))
  have sW1 : W1.heap.size = w.heap.size + 1 := by subst hW1; simp
  have X0 : Bx W1 (w.heap.size) 24 [V 0, .slice none 0 0] := by subst hW1; have h := Bx.alloc w 24 [V 0, .slice none 0 0]; simpa using h
  have X0_0 := X0.cell (j := 0) rfl
  have X0_1 := X0.cell (j := 1) rfl
  have X0_z := X0.lt
  have HsW1 := Lib.hid sW1
  have lW1 : w.heap.size + 1 ≤ W1.heap.size := by omega
  clear hW1 sW1
  refine (drawGraphValid_c A n c _ hnc (hb.nx gW1 (by omega))).mono ?_
  rintro e w2 ⟨nn, B, d, es, rfl, h1, h2, h3, ho, hn2⟩
  replace X0 := X0.nx hn2
  replace X0_0 := X0.cell (j := 0) rfl
  replace X0_1 := X0.cell (j := 1) rfl
  replace X0_z := X0.lt
  have rf := X0.free
  have hn02 := gW1.trans hn2
  go_wp2
  refine bodyPost_ret (v := .agg #[V nn, .slice B es.length d]) (by simp [results, Tryd.f10, go_sem, *]) rfl ?_
  exact ⟨nn, B, d, es, rfl, h1, h2, h3, ((ho.far (by simp; omega) _).far (by simp; omega) _).mono (by omega), (by repeat (first | exact Nx.refl _ | assumption | apply Nx.alloc | apply Nx.drew | apply Nx.drewN | (refine Nx.setCell ?_ (by first | (simp; done) | (simp; omega) | omega) _) | refine Nx.trans ?_ (by assumption)))⟩

end Go.Proofs.YtekepbcmjfdcjaaDoor
