/- Contracts for the laws on searches: the drawn arguments, dySearch, EdgeOf of what is an edge; what the laws want of a search. -/
import Derived.Test.YtjchabeiaajgiaaJ8
import Derived.Test.YtjchabeiaajgiaaJ2
import Derived.Test.YtjchabeiaajgiaaD5g
import Derived.Test.YtjchabeiaajgiaaJN
import Derived.Test.YtjchabeiaajgiaaG4
import Derived.Test.YtjchabeiaajgiaaP4
import Derived.Test.YtjchabeiaajgiaaE
namespace Go.Proofs.Ytjchabeiaajgiaa
open Go.RowKit set_option linter.unusedVariables false set_option linter.unusedSimpArgs false

theorem drawSearchOf_c (A : Option Addr) (n c : Nat) (w : World) (hnc : n ≤ c) (hb : BytesAt w w.heap.size A n) :
    Calls Try.prog 26 #[.slice A n c] w (SomeG 26 w) := by
  go_enter Try.func26, Try.ntmps26
  go_wp2_with fail
  generalize hW1 : World.alloc _ _ = W1
  have gW1 : Nx w W1 := by subst hW1; exact (by repeat (first | exact Nx.refl _ | assumption | apply Nx.alloc | apply Nx.drew | apply Nx.drewN | (refine Nx.setCell ?_ (by first | (simp; done) | (simp; omega) | omega) _) | refine Nx.trans ?_ (by assumption)))
  have sW1 : W1.heap.size = w.heap.size + 1 := by subst hW1; simp
  have X0 : Bx W1 (w.heap.size) 26 [V 0, .slice none 0 0] := by subst hW1; have h := Bx.alloc w 26 [V 0, .slice none 0 0]; simpa using h
  have X0_0 := X0.cell (j := 0) rfl
  have X0_1 := X0.cell (j := 1) rfl
  have X0_z := X0.lt
  have HsW1 := Lib.hid sW1
  have lW1 : w.heap.size + 1 ≤ W1.heap.size := by omega
  clear hW1 sW1
  refine (drawGraphValid_c A n c _ hnc (hb.nx gW1 (by omega))).mono ?_
  rintro e w2 ⟨nn, B, d, es, rfl, h1, h2, h3, ho, hn2⟩
  replace X0 := X0.nx hn2
  replace X0_0 := X0.cell (j := 0) rfl
  replace X0_1 := X0.cell (j := 1) rfl
  replace X0_z := X0.lt
  have rf := X0.free
  have hn02 := gW1.trans hn2
  go_wp2
  refine bodyPost_ret (v := .agg #[V nn, .slice B es.length d]) (by simp [results, Try.f26, go_sem, *]) rfl ?_
  exact ⟨nn, B, d, es, rfl, h1, h2, h3, ((ho.far (by simp; omega) _).far (by simp; omega) _).mono (by omega), (by repeat (first | exact Nx.refl _ | assumption | apply Nx.alloc | apply Nx.drew | apply Nx.drewN | (refine Nx.setCell ?_ (by first | (simp; done) | (simp; omega) | omega) _) | refine Nx.trans ?_ (by assumption)))⟩

theorem drawBridgesOf_c (A : Option Addr) (n c : Nat) (w : World) (hnc : n ≤ c) (hb : BytesAt w w.heap.size A n) :
    Calls Try.prog 31 #[.slice A n c] w (SomeG 26 w) := by
  go_enter Try.func31, Try.ntmps31
  go_wp2_with fail
  generalize hW1 : World.alloc _ _ = W1
  have gW1 : Nx w W1 := by subst hW1; exact (by repeat (first | exact Nx.refl _ | assumption | apply Nx.alloc | apply Nx.drew | apply Nx.drewN | (refine Nx.setCell ?_ (by first | (simp; done) | (simp; omega) | omega) _) | refine Nx.trans ?_ (by assumption)))
  have sW1 : W1.heap.size = w.heap.size + 1 := by subst hW1; simp
  have X0 : Bx W1 (w.heap.size) 26 [V 0, .slice none 0 0] := by subst hW1; have h := Bx.alloc w 26 [V 0, .slice none 0 0]; simpa using h
  have X0_0 := X0.cell (j := 0) rfl
  have X0_1 := X0.cell (j := 1) rfl
  have X0_z := X0.lt
  have HsW1 := Lib.hid sW1
  have lW1 : w.heap.size + 1 ≤ W1.heap.size := by omega
  clear hW1 sW1
  refine (drawGraphValid_c A n c _ hnc (hb.nx gW1 (by omega))).mono ?_
  rintro e w2 ⟨nn, B, d, es, rfl, h1, h2, h3, ho, hn2⟩
  replace X0 := X0.nx hn2
  replace X0_0 := X0.cell (j := 0) rfl
  replace X0_1 := X0.cell (j := 1) rfl
  replace X0_z := X0.lt
  have rf := X0.free
  have hn02 := gW1.trans hn2
  go_wp2
  refine bodyPost_ret (v := .agg #[V nn, .slice B es.length d]) (by simp [results, Try.f31, go_sem, *]) rfl ?_
  exact ⟨nn, B, d, es, rfl, h1, h2, h3, ((ho.far (by simp; omega) _).far (by simp; omega) _).mono (by omega), (by repeat (first | exact Nx.refl _ | assumption | apply Nx.alloc | apply Nx.drew | apply Nx.drewN | (refine Nx.setCell ?_ (by first | (simp; done) | (simp; omega) | omega) _) | refine Nx.trans ?_ (by assumption)))⟩

theorem IntsAt.lk {w : World} {A : Option Addr} {xs : List Int} (h : IntsAt w A xs) {k : Nat} (hk : k < xs.length) : ∃ b off, A = some ⟨b, off, none⟩ ∧ b < w.heap.size ∧ w.cell? ⟨b, off + k, none⟩ = some (V (lk xs k)) := by
  obtain ⟨b, off, e, hb, hc⟩ := h.rd (j := k) (v := Go.Proofs.Ytjchabeiaajgiaa.lk xs k) (by simp [Go.Proofs.Ytjchabeiaajgiaa.lk, hk])
  exact ⟨b, off, e, hb, hc⟩
set_option maxRecDepth 100000 in
set_option maxHeartbeats 1000000 in
theorem dySearch_r (lo hi lo' hi' : Nat) (s : DS) (A B C A' B' C' : Option Addr) (ca cb cc ca' cb' cc' : Nat) (w : World) (h : Rse w lo hi s A ca B cb C cc) (h' : Rse w lo' hi' s A' ca' B' cb' C' cc') (h1 : s.N.length ≤ 1048576) (h2 : s.P.length ≤ 1048576) (h3 : s.L.length ≤ 1048576) :
    Calls Try.prog 27 #[SeV A s.N.length ca B s.P.length cb C s.L.length cc, SeV A' s.N.length ca' B' s.P.length cb' C' s.L.length cc'] w (RetV (.bool true) w) := by
  have q1 := fun w' a b => dyInts_c A A' ca ca' s.N s.N w' a b h1 h1
  have q2 := fun w' a b => dyInts_c B B' cb cb' s.P s.P w' a b h2 h2
  have q3 := fun w' a b => dyInts_c C C' cc cc' s.L s.L w' a b h3 h3
  simp only [decide_true] at q1 q2 q3
  have Q1 := Lib.hid q1
  have Q2 := Lib.hid q2
  have Q3 := Lib.hid q3
  have hA := h.a.intsAt
  have hB := h.b.intsAt
  have hC := h.c.intsAt
  have hA' := h'.a.intsAt
  have hB' := h'.b.intsAt
  have hC' := h'.c.intsAt
  clear q1 q2 q3 h h'
  generalize s.N.length = n1 at *
  generalize s.P.length = n2 at *
  generalize s.L.length = n3 at *
  go_enter Try.func27, Try.ntmps27
  go_wp2_with fail
  generalize hW1 : World.alloc _ _ = W1
  have gW1 : Nx w W1 := by subst hW1; exact (by repeat (first | exact Nx.refl _ | assumption | apply Nx.alloc | apply Nx.drew | apply Nx.drewN | (refine Nx.setCell ?_ (by first | (simp; done) | (simp; omega) | omega) _) | refine Nx.trans ?_ (by assumption)))
  have sW1 : W1.heap.size = w.heap.size + 2 := by subst hW1; simp
  have X : Bx W1 (w.heap.size) 48 [.slice A n1 ca, .slice B n2 cb, .slice C n3 cc] := by subst hW1; have h := Bx.alloc w 48 [.slice A n1 ca, .slice B n2 cb, .slice C n3 cc]; have h := h.nx (Nx.alloc (Nx.refl _) (.cells #[.slice A' n1 ca', .slice B' n2 cb', .slice C' n3 cc'] 48)); simpa using h
  have Y : Bx W1 (w.heap.size + 1) 48 [.slice A' n1 ca', .slice B' n2 cb', .slice C' n3 cc'] := by subst hW1; have h := Bx.alloc (w.alloc (.cells #[.slice A n1 ca, .slice B n2 cb, .slice C n3 cc] 48)) 48 [.slice A' n1 ca', .slice B' n2 cb', .slice C' n3 cc']; simpa using h
  have X_0 := X.cell (j := 0) rfl
  have X_1 := X.cell (j := 1) rfl
  have X_2 := X.cell (j := 2) rfl
  have X_z := X.lt
  have Y_0 := Y.cell (j := 0) rfl
  have Y_1 := Y.cell (j := 1) rfl
  have Y_2 := Y.cell (j := 2) rfl
  have Y_z := Y.lt
  have HsW1 := Lib.hid sW1
  have lW1 : w.heap.size + 2 ≤ W1.heap.size := by omega
  clear hW1 sW1
  have N := gW1
  refine (Q1.out _ (hA.nx N) (hA'.nx N)).mono ?_
  rintro e w2 ⟨rfl, hn2⟩
  replace X := X.nx hn2
  replace X_0 := X.cell (j := 0) rfl
  replace X_1 := X.cell (j := 1) rfl
  replace X_2 := X.cell (j := 2) rfl
  replace X_z := X.lt
  replace Y := Y.nx hn2
  replace Y_0 := Y.cell (j := 0) rfl
  replace Y_1 := Y.cell (j := 1) rfl
  replace Y_2 := Y.cell (j := 2) rfl
  replace Y_z := Y.lt
  replace N := N.trans hn2
  go_wp2_with fail
  refine (Q2.out _ (hB.nx N) (hB'.nx N)).mono ?_
  rintro e w3 ⟨rfl, hn3⟩
  replace X := X.nx hn3
  replace X_0 := X.cell (j := 0) rfl
  replace X_1 := X.cell (j := 1) rfl
  replace X_2 := X.cell (j := 2) rfl
  replace X_z := X.lt
  replace Y := Y.nx hn3
  replace Y_0 := Y.cell (j := 0) rfl
  replace Y_1 := Y.cell (j := 1) rfl
  replace Y_2 := Y.cell (j := 2) rfl
  replace Y_z := Y.lt
  replace N := N.trans hn3
  go_wp2_with fail
  refine (Q3.out _ (hC.nx N) (hC'.nx N)).mono ?_
  rintro e w4 ⟨rfl, hn4⟩
  replace X := X.nx hn4
  replace X_0 := X.cell (j := 0) rfl
  replace X_1 := X.cell (j := 1) rfl
  replace X_2 := X.cell (j := 2) rfl
  replace X_z := X.lt
  replace Y := Y.nx hn4
  replace Y_0 := Y.cell (j := 0) rfl
  replace Y_1 := Y.cell (j := 1) rfl
  replace Y_2 := Y.cell (j := 2) rfl
  replace Y_z := Y.lt
  replace N := N.trans hn4
  go_wp2
  go_ret
  exact RetV.bool rfl N

theorem iEof_yes {x y : Int} (h : okE x y) (w : World) : Calls Try.prog 14 #[V x, V y] w (RetV (.tuple #[Ed (min x y) (max x y), .bool true]) w) := by
  have h1 := iEdgeOf_c x y w
  rwa [eof_yes h] at h1
theorem se_found {n : Int} {es : Es} (h : Valid n es) : Found n.toNat es (seOf n es) := by
  rw [seOf_yes h]
  exact run_found fun e he => by have := h.pair he; have := h.nat; omega
/-- what the law asks of a node -/
theorem se_node {n : Int} {es : Es} (h : Valid n es) {k : Nat} (hk : k < n.toNat) : ((k : Int) + 1) ∈ (seOf n es).N ∧ 1 ≤ lk (seOf n es).L k ∧ lk (seOf n es).L k ≤ lk (seOf n es).N k ∧
    (lk (seOf n es).P k = -1 ∨ ∃ p : Nat, lk (seOf n es).P k = (p : Int) ∧ p < n.toNat ∧ okE k p ∧ decide (HasB n es (min k p) (max k p)) = true ∧ lk (seOf n es).N p < lk (seOf n es).N k) := by
  have hf := se_found h
  have hE : ∀ e ∈ es, 0 ≤ e.1 ∧ e.1 < e.2 ∧ e.2 < (n.toNat : Int) := fun e he => by have := h.pair he; have := h.nat; omega
  have h16 := h.2.1
  refine ⟨hf.num (by omega) (by omega), ?_⟩
  rcases hf.node (i := k) (by omega) (by omega) with ⟨a, b, c⟩ | c
  · refine ⟨a, b, c.imp id fun ⟨p0, p1, p2, p3, p4⟩ => ?_⟩
    obtain ⟨p, hp⟩ := Int.eq_ofNat_of_zero_le p0
    rw [hp] at p1 p2 p3 p4
    refine ⟨p, hp, by omega, ⟨by omega, by omega, by omega, by omega, by omega⟩, ?_, p4⟩
    rw [hasB_yes h]
    simpa using p3
  · exact absurd hE c
theorem se_roots {n : Int} {es : Es} (h : Valid n es) : rootsTo (seOf n es).P n.toNat = partCnt n es := by
  have hf := se_found h
  have hr : InR n.toNat es := h.inR
  rw [hf.parts hr]
  unfold partCnt
  rw [partsOf_yes h, labels_length hr]
end Go.Proofs.Ytjchabeiaajgiaa
