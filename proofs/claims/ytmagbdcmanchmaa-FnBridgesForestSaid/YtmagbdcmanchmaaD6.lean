/- Contracts: the drawn arguments. -/
import Derived.Test.YtmagbdcmanchmaaD5
namespace Go.Proofs.Ytmagbdcmanchmaa
open Go.RowKit

theorem drawBridgesOf_c (A : Option Addr) (n c : Nat) (w : World) (hnc : n ≤ c) (hb : BytesAt w w.heap.size A n) :
    Calls Try.prog 42 #[.slice A n c] w (SomeG 26 w) := by
  go_enter Try.func42, Try.ntmps42
  go_wp2_with fail
  generalize hW1 : World.alloc _ _ = W1
  have gW1 : Nx w W1 := by subst hW1; exact (by repeat (first | exact Nx.refl _ | assumption | apply Nx.alloc | apply Nx.drew | apply Nx.drewN | (refine Nx.setCell ?_ (by first | (simp; done) | (simp; omega) | omega) _) | refine Nx.trans ?_ (by assumption)))
  have sW1 : W1.heap.size = w.heap.size + 1 := by subst hW1; simp
  have X0 : Bx W1 (w.heap.size) 29 [V 0, .slice none 0 0] := by subst hW1; have h := Bx.alloc w 29 [V 0, .slice none 0 0]; simpa using h
  have X0_0 := X0.cell (j := 0) rfl
  have X0_1 := X0.cell (j := 1) rfl
  have X0_z := X0.lt
  have HsW1 := Lib.hid sW1
  have lW1 : w.heap.size + 1 ≤ W1.heap.size := by omega
  clear hW1 sW1
  refine (drawGraphValid_c A n c _ hnc (hb.nx gW1 (by omega))).mono ?_
  rintro e w2 ⟨nn, B, d, es, rfl, h1, h2, h3, ho, hn2⟩
  replace X0 := X0.nx hn2
  replace X0_0 := X0.cell (j := 0) rfl
  replace X0_1 := X0.cell (j := 1) rfl
  replace X0_z := X0.lt
  have rf := X0.free
  have hn02 := gW1.trans hn2
  go_wp2
  refine bodyPost_ret (v := .agg #[V nn, .slice B es.length d]) (by simp [results, Try.f42, go_sem, *]) rfl ?_
  exact ⟨nn, B, d, es, rfl, h1, h2, h3, ((ho.far (by simp; omega) _).far (by simp; omega) _).mono (by omega), (by repeat (first | exact Nx.refl _ | assumption | apply Nx.alloc | apply Nx.drew | apply Nx.drewN | (refine Nx.setCell ?_ (by first | (simp; done) | (simp; omega) | omega) _) | refine Nx.trans ?_ (by assumption)))⟩

theorem drawCutEdge_c (A : Option Addr) (n c : Nat) (w : World) (hnc : n ≤ c) (hb : BytesAt w w.heap.size A n) :
    Calls Try.prog 32 #[.slice A n c] w (SomeGE 24 w) := by
  go_enter Try.func32, Try.ntmps32
  go_wp2_with fail
  generalize hW1 : World.alloc _ _ = W1
  have gW1 : Nx w W1 := by subst hW1; exact (by repeat (first | exact Nx.refl _ | assumption | apply Nx.alloc | apply Nx.drew | apply Nx.drewN | (refine Nx.setCell ?_ (by first | (simp; done) | (simp; omega) | omega) _) | refine Nx.trans ?_ (by assumption)))
  have sW1 : W1.heap.size = w.heap.size + 2 := by subst hW1; simp
  have X0 : Bx W1 (w.heap.size) 29 [V 0, .slice none 0 0] := by subst hW1; have h := Bx.alloc w 29 [V 0, .slice none 0 0]; have h := h.nx (Nx.alloc (Nx.refl _) (.cells #[V 0, V 0] 40)); simpa using h
  have X1 : Bx W1 (w.heap.size + 1) 40 [V 0, V 0] := by subst hW1; have h := Bx.alloc (w.alloc (.cells #[V 0, .slice none 0 0] 29)) 40 [V 0, V 0]; simpa using h
  have X0_0 := X0.cell (j := 0) rfl
  have X0_1 := X0.cell (j := 1) rfl
  have X0_z := X0.lt
  have X1_0 := X1.cell (j := 0) rfl
  have X1_1 := X1.cell (j := 1) rfl
  have X1_z := X1.lt
  have HsW1 := Lib.hid sW1
  have lW1 : w.heap.size + 2 ≤ W1.heap.size := by omega
  clear hW1 sW1
  refine (l1Case_c A n c _ hnc (hb.nx gW1 (by omega))).mono ?_
  rintro e w2 ⟨nn, B, d, es, u, v, rfl, h1, h2, h3, ho, hn2⟩
  replace X0 := X0.nx hn2
  replace X0_0 := X0.cell (j := 0) rfl
  replace X0_1 := X0.cell (j := 1) rfl
  replace X0_z := X0.lt
  replace X1 := X1.nx hn2
  replace X1_0 := X1.cell (j := 0) rfl
  replace X1_1 := X1.cell (j := 1) rfl
  replace X1_z := X1.lt
  have rf := X0.free
  have rg := X1.free
  have hn02 := gW1.trans hn2
  go_wp2
  refine bodyPost_ret (v := .tuple #[.agg #[V nn, .slice B es.length d], Ed u v]) (by simp [results, Try.f32, go_sem, *]) rfl ?_
  exact ⟨nn, B, d, es, u, v, rfl, h1, h2, h3, ((((ho.far (by simp; omega) _).far (by simp; omega) _).far (by simp; omega) _).far (by simp; omega) _).mono (by omega), (by repeat (first | exact Nx.refl _ | assumption | apply Nx.alloc | apply Nx.drew | apply Nx.drewN | (refine Nx.setCell ?_ (by first | (simp; done) | (simp; omega) | omega) _) | refine Nx.trans ?_ (by assumption)))⟩

theorem drawPutEdge_c (A : Option Addr) (n c : Nat) (w : World) (hnc : n ≤ c) (hb : BytesAt w w.heap.size A n) :
    Calls Try.prog 46 #[.slice A n c] w (SomeGE 24 w) := by
  go_enter Try.func46, Try.ntmps46
  go_wp2_with fail
  generalize hW1 : World.alloc _ _ = W1
  have gW1 : Nx w W1 := by subst hW1; exact (by repeat (first | exact Nx.refl _ | assumption | apply Nx.alloc | apply Nx.drew | apply Nx.drewN | (refine Nx.setCell ?_ (by first | (simp; done) | (simp; omega) | omega) _) | refine Nx.trans ?_ (by assumption)))
  have sW1 : W1.heap.size = w.heap.size + 2 := by subst hW1; simp
  have X0 : Bx W1 (w.heap.size) 29 [V 0, .slice none 0 0] := by subst hW1; have h := Bx.alloc w 29 [V 0, .slice none 0 0]; have h := h.nx (Nx.alloc (Nx.refl _) (.cells #[V 0, V 0] 40)); simpa using h
  have X1 : Bx W1 (w.heap.size + 1) 40 [V 0, V 0] := by subst hW1; have h := Bx.alloc (w.alloc (.cells #[V 0, .slice none 0 0] 29)) 40 [V 0, V 0]; simpa using h
  have X0_0 := X0.cell (j := 0) rfl
  have X0_1 := X0.cell (j := 1) rfl
  have X0_z := X0.lt
  have X1_0 := X1.cell (j := 0) rfl
  have X1_1 := X1.cell (j := 1) rfl
  have X1_z := X1.lt
  have HsW1 := Lib.hid sW1
  have lW1 : w.heap.size + 2 ≤ W1.heap.size := by omega
  clear hW1 sW1
  refine (l1Case_c A n c _ hnc (hb.nx gW1 (by omega))).mono ?_
  rintro e w2 ⟨nn, B, d, es, u, v, rfl, h1, h2, h3, ho, hn2⟩
  replace X0 := X0.nx hn2
  replace X0_0 := X0.cell (j := 0) rfl
  replace X0_1 := X0.cell (j := 1) rfl
  replace X0_z := X0.lt
  replace X1 := X1.nx hn2
  replace X1_0 := X1.cell (j := 0) rfl
  replace X1_1 := X1.cell (j := 1) rfl
  replace X1_z := X1.lt
  have rf := X0.free
  have rg := X1.free
  have hn02 := gW1.trans hn2
  go_wp2
  refine bodyPost_ret (v := .tuple #[.agg #[V nn, .slice B es.length d], Ed u v]) (by simp [results, Try.f46, go_sem, *]) rfl ?_
  exact ⟨nn, B, d, es, u, v, rfl, h1, h2, h3, ((((ho.far (by simp; omega) _).far (by simp; omega) _).far (by simp; omega) _).far (by simp; omega) _).mono (by omega), (by repeat (first | exact Nx.refl _ | assumption | apply Nx.alloc | apply Nx.drew | apply Nx.drewN | (refine Nx.setCell ?_ (by first | (simp; done) | (simp; omega) | omega) _) | refine Nx.trans ?_ (by assumption)))⟩

theorem drawHasEdge_c (A : Option Addr) (n c : Nat) (w : World) (hnc : n ≤ c) (hb : BytesAt w w.heap.size A n) :
    Calls Try.prog 51 #[.slice A n c] w (SomeGE 24 w) := by
  go_enter Try.func51, Try.ntmps51
  go_wp2_with fail
  generalize hW1 : World.alloc _ _ = W1
  have gW1 : Nx w W1 := by subst hW1; exact (by repeat (first | exact Nx.refl _ | assumption | apply Nx.alloc | apply Nx.drew | apply Nx.drewN | (refine Nx.setCell ?_ (by first | (simp; done) | (simp; omega) | omega) _) | refine Nx.trans ?_ (by assumption)))
  have sW1 : W1.heap.size = w.heap.size + 2 := by subst hW1; simp
  have X0 : Bx W1 (w.heap.size) 29 [V 0, .slice none 0 0] := by subst hW1; have h := Bx.alloc w 29 [V 0, .slice none 0 0]; have h := h.nx (Nx.alloc (Nx.refl _) (.cells #[V 0, V 0] 40)); simpa using h
  have X1 : Bx W1 (w.heap.size + 1) 40 [V 0, V 0] := by subst hW1; have h := Bx.alloc (w.alloc (.cells #[V 0, .slice none 0 0] 29)) 40 [V 0, V 0]; simpa using h
  have X0_0 := X0.cell (j := 0) rfl
  have X0_1 := X0.cell (j := 1) rfl
  have X0_z := X0.lt
  have X1_0 := X1.cell (j := 0) rfl
  have X1_1 := X1.cell (j := 1) rfl
  have X1_z := X1.lt
  have HsW1 := Lib.hid sW1
  have lW1 : w.heap.size + 2 ≤ W1.heap.size := by omega
  clear hW1 sW1
  refine (l1Case_c A n c _ hnc (hb.nx gW1 (by omega))).mono ?_
  rintro e w2 ⟨nn, B, d, es, u, v, rfl, h1, h2, h3, ho, hn2⟩
  replace X0 := X0.nx hn2
  replace X0_0 := X0.cell (j := 0) rfl
  replace X0_1 := X0.cell (j := 1) rfl
  replace X0_z := X0.lt
  replace X1 := X1.nx hn2
  replace X1_0 := X1.cell (j := 0) rfl
  replace X1_1 := X1.cell (j := 1) rfl
  replace X1_z := X1.lt
  have rf := X0.free
  have rg := X1.free
  have hn02 := gW1.trans hn2
  go_wp2
  refine bodyPost_ret (v := .tuple #[.agg #[V nn, .slice B es.length d], Ed u v]) (by simp [results, Try.f51, go_sem, *]) rfl ?_
  exact ⟨nn, B, d, es, u, v, rfl, h1, h2, h3, ((((ho.far (by simp; omega) _).far (by simp; omega) _).far (by simp; omega) _).far (by simp; omega) _).mono (by omega), (by repeat (first | exact Nx.refl _ | assumption | apply Nx.alloc | apply Nx.drew | apply Nx.drewN | (refine Nx.setCell ?_ (by first | (simp; done) | (simp; omega) | omega) _) | refine Nx.trans ?_ (by assumption)))⟩
end Go.Proofs.Ytmagbdcmanchmaa
