/- Contracts: SearchOf of both; a search s rows. -/
import Derived.Test.YtjchabeiaajgiaaJ7
import Derived.Test.YtjchabeiaajgiaaVN
import Derived.Test.YtjchabeiaajgiaaH
/- Contracts: SearchOf of both. -/
namespace Go.Proofs.Ytjchabeiaajgiaa
open Go.RowKit set_option linter.unusedVariables false set_option linter.unusedSimpArgs false

def Apart (A B : Option Addr) : Prop := blk A = none ∨ blk A ≠ blk B
theorem Apart.symm {A B : Option Addr} (h : Apart A B) : Apart B A := by
  unfold Apart at *
  rcases h with h | h
  · rw [h]; cases blk B <;> simp
  · exact .inr (Ne.symm h)
abbrev SeV (A : Option Addr) (n ca : Nat) (B : Option Addr) (m cb : Nat) (C : Option Addr) (l cc : Nat) : Value := .agg #[.slice A n ca, .slice B m cb, .slice C l cc]
def noDS : DS := ⟨[], [], [], 0⟩
open Classical in
/-- what SearchOf finds, and whether -/
noncomputable def seOf (n : Int) (es : Es) : DS := if Valid n es then dRunK n.toNat es n.toNat else noDS
theorem seOf_yes {n : Int} {es : Es} (h : Valid n es) : seOf n es = dRunK n.toNat es n.toNat := if_pos h
theorem seOf_no {n : Int} {es : Es} (h : ¬ Valid n es) : seOf n es = noDS := if_neg h
theorem seOf_len (n : Int) (es : Es) : (seOf n es).N.length ≤ 16 ∧ (seOf n es).P.length = (seOf n es).N.length ∧ (seOf n es).L.length = (seOf n es).N.length := by
  by_cases h : Valid n es
  · rw [seOf_yes h]
    have ok := dRunK_ok n.toNat es n.toNat (Nat.le_refl _)
    have := h.2.1
    exact ⟨by rw [ok.ln]; omega, by rw [ok.lp, ok.ln], by rw [ok.ll, ok.ln]⟩
  · rw [seOf_no h]; simp [noDS]
/-- a search is returned, its rows own ones apart, and whether there is one -/
def RetSe (s : DS) (b : Bool) (w : World) (e : Ending) (w' : World) : Prop := ∃ A ca B cb C cc, e = .returned (.tuple #[SeV A s.N.length ca B s.P.length cb C s.L.length cc, .bool b]) ∧ OwnI w' w.heap.size 3 A ca s.N ∧ OwnI w' w.heap.size 3 B cb s.P ∧ OwnI w' w.heap.size 3 C cc s.L ∧ Apart A B ∧ Apart A C ∧ Apart B C ∧ Nx w w'
theorem apart_ne' {a b : Nat} (h : a ≠ b) : Apart (some ⟨a, 0, none⟩) (some ⟨b, 0, none⟩) := .inr fun e => by injection e with e; exact h e
theorem RetSe.no (w w' : World) (hn : Nx w w') : RetSe noDS false w (.returned (.tuple #[SeV none 0 0 none 0 0 none 0 0, .bool false])) w' :=
  ⟨none, 0, none, 0, none, 0, rfl, OwnI.nil _ _ _, OwnI.nil _ _ _, OwnI.nil _ _ _, .inl rfl, .inl rfl, .inl rfl, hn⟩

set_option maxRecDepth 100000 in
set_option maxHeartbeats 4000000 in
theorem iSearchOf_c (n : Int) (A : Option Addr) (c : Nat) (es : List (Int × Int)) (w : World) (hx : EdgesAt w A es) (hl : es.length ≤ 1048576) :
    Calls Try.prog 20 #[.agg #[V n, .slice A es.length c]] w (RetSe (seOf n es) (decide (Valid n es)) w) := by
  by_cases hv : Valid n es
  · have e1 : decide (Valid n es) = true := by simpa using hv
    rw [seOf_yes hv, e1]
    have hs := search_c n.toNat (by have := hv.2.1; omega) A c es hv.nodupJ hv.endsJ (by have := hv.2.2.1; omega)
    rw [hv.nat] at hs
    have ok := dRunK_ok n.toNat es n.toNat (Nat.le_refl _)
    obtain ⟨s, hse⟩ : ∃ s, dRunK n.toNat es n.toNat = s := ⟨_, rfl⟩
    rw [hse] at hs ok ⊢
    have HS := Lib.hid hs
    have hg := fun w' h => iGraphValid_c n A c es w' h (by omega)
    rw [e1] at hg
    have HG := Lib.hid hg
    have HX := Lib.hid hx
    have Hok := Lib.hid ok
    clear hs hg hx ok hse hv e1
    generalize n.toNat = k at *
    go_enter Try.func20, Try.ntmps20
    go_wp2_with fail
    generalize hW1 : World.alloc _ _ = W1
    have gW1 : Nx w W1 := by subst hW1; exact (by repeat (first | exact Nx.refl _ | assumption | apply Nx.alloc | apply Nx.drew | apply Nx.drewN | (refine Nx.setCell ?_ (by first | (simp; done) | (simp; omega) | omega) _) | refine Nx.trans ?_ (by assumption)))
    have sW1 : W1.heap.size = w.heap.size + 2 := by subst hW1; simp
    have B : Bx W1 (w.heap.size) 26 [V n, .slice A es.length c] := by subst hW1; have h := Bx.alloc w 26 [V n, .slice A es.length c]; have h := h.nx (Nx.alloc (Nx.refl _) (.cells #[.slice none 0 0, .slice none 0 0, .slice none 0 0] 48)); simpa using h
    have O : Bx W1 (w.heap.size + 1) 48 [.slice none 0 0, .slice none 0 0, .slice none 0 0] := by subst hW1; have h := Bx.alloc (w.alloc (.cells #[V n, .slice A es.length c] 26)) 48 [.slice none 0 0, .slice none 0 0, .slice none 0 0]; simpa using h
    have B_0 := B.cell (j := 0) rfl
    have B_1 := B.cell (j := 1) rfl
    have B_z := B.lt
    have O_0 := O.cell (j := 0) rfl
    have O_1 := O.cell (j := 1) rfl
    have O_2 := O.cell (j := 2) rfl
    have O_z := O.lt
    have HsW1 := Lib.hid sW1
    have lW1 : w.heap.size + 2 ≤ W1.heap.size := by omega
    clear hW1 sW1
    refine (HG.out _ (HX.out.nx gW1)).mono ?_
    rintro e w2 ⟨rfl, hn2⟩
    replace B := B.nx hn2
    replace B_0 := B.cell (j := 0) rfl
    replace B_1 := B.cell (j := 1) rfl
    replace B_z := B.lt
    replace O := O.nx hn2
    replace O_0 := O.cell (j := 0) rfl
    replace O_1 := O.cell (j := 1) rfl
    replace O_2 := O.cell (j := 2) rfl
    replace O_z := O.lt
    have O_f := O.free
    go_wp2_with fail
    have N2 := gW1.trans hn2
    refine (HS.out _ (HX.out.nx N2)).mono ?_
    rintro e w3 ⟨bN, bP, bL, rfl, R, hn3⟩
    replace B := B.nx hn3
    replace B_0 := B.cell (j := 0) rfl
    replace B_1 := B.cell (j := 1) rfl
    replace B_z := B.lt
    replace O := O.nx hn3
    replace O_0 := O.cell (j := 0) rfl
    replace O_1 := O.cell (j := 1) rfl
    replace O_2 := O.cell (j := 2) rfl
    replace O_z := O.lt
    have O_f := O.free
    have HR := Lib.hid R
    have Hn3 := Lib.hid (N2.trans hn3)
    have z2 := N2.size
    have hlo : w2.heap.size ≤ bN := (R.a.lt _ rfl).1
    have hlo2 : w2.heap.size ≤ bP := (R.b.lt _ rfl).1
    have hlo3 : w2.heap.size ≤ bL := (R.c.lt _ rfl).1
    have hso : ¬ three bN bP bL (w.heap.size + 1) := fun h => by have := HsW1.out; have := hn2.size; unfold three at h; omega
    clear R N2 hn3
    go_wp2
    refine bodyPost_ret (v := .tuple #[SeV (some ⟨bN, 0, none⟩) k k (some ⟨bP, 0, none⟩) k k (some ⟨bL, 0, none⟩) k k, .bool true]) (by simp [results, Try.f20, go_sem, *]) rfl ?_
    have R3 := ((HR.out.other hso 0 (.slice (some ⟨bN, 0, none⟩) k k)).other hso 1 (.slice (some ⟨bP, 0, none⟩) k k)).other hso 2 (.slice (some ⟨bL, 0, none⟩) k k)
    exact ⟨some ⟨bN, 0, none⟩, k, some ⟨bP, 0, none⟩, k, some ⟨bL, 0, none⟩, k, by rw [Hok.out.ln, Hok.out.lp, Hok.out.ll], R3.a.mono (by omega), R3.b.mono (by omega), R3.c.mono (by omega), apart_ne' R3.ab, apart_ne' R3.ac, apart_ne' R3.bc, Hn3.out.setCell (by first | (simp; done) | (simp; omega)) _ |>.setCell (by first | (simp; done) | (simp; omega)) _ |>.setCell (by first | (simp; done) | (simp; omega)) _⟩
  · have e1 : decide (Valid n es) = false := by simpa using hv
    rw [seOf_no hv, e1]
    have hg := fun w' h => iGraphValid_c n A c es w' h (by omega)
    rw [e1] at hg
    have HG := Lib.hid hg
    have HX := Lib.hid hx
    clear hg hx hv e1
    go_enter Try.func20, Try.ntmps20
    go_wp2_with fail
    generalize hW1 : World.alloc _ _ = W1
    have gW1 : Nx w W1 := by subst hW1; exact (by repeat (first | exact Nx.refl _ | assumption | apply Nx.alloc | apply Nx.drew | apply Nx.drewN | (refine Nx.setCell ?_ (by first | (simp; done) | (simp; omega) | omega) _) | refine Nx.trans ?_ (by assumption)))
    have sW1 : W1.heap.size = w.heap.size + 2 := by subst hW1; simp
    have B : Bx W1 (w.heap.size) 26 [V n, .slice A es.length c] := by subst hW1; have h := Bx.alloc w 26 [V n, .slice A es.length c]; have h := h.nx (Nx.alloc (Nx.refl _) (.cells #[.slice none 0 0, .slice none 0 0, .slice none 0 0] 48)); simpa using h
    have O : Bx W1 (w.heap.size + 1) 48 [.slice none 0 0, .slice none 0 0, .slice none 0 0] := by subst hW1; have h := Bx.alloc (w.alloc (.cells #[V n, .slice A es.length c] 26)) 48 [.slice none 0 0, .slice none 0 0, .slice none 0 0]; simpa using h
    have B_0 := B.cell (j := 0) rfl
    have B_1 := B.cell (j := 1) rfl
    have B_z := B.lt
    have O_0 := O.cell (j := 0) rfl
    have O_1 := O.cell (j := 1) rfl
    have O_2 := O.cell (j := 2) rfl
    have O_z := O.lt
    have HsW1 := Lib.hid sW1
    have lW1 : w.heap.size + 2 ≤ W1.heap.size := by omega
    clear hW1 sW1
    refine (HG.out _ (HX.out.nx gW1)).mono ?_
    rintro e w2 ⟨rfl, hn2⟩
    replace B := B.nx hn2
    replace B_0 := B.cell (j := 0) rfl
    replace B_1 := B.cell (j := 1) rfl
    replace B_z := B.lt
    replace O := O.nx hn2
    replace O_0 := O.cell (j := 0) rfl
    replace O_1 := O.cell (j := 1) rfl
    replace O_2 := O.cell (j := 2) rfl
    replace O_z := O.lt
    have O_f := O.free
    have Hn2 := Lib.hid (gW1.trans hn2)
    go_wp2
    refine bodyPost_ret (v := .tuple #[SeV none 0 0 none 0 0 none 0 0, .bool false]) (by simp [results, Try.f20, go_sem, *]) rfl ?_
    exact RetSe.no _ _ (Hn2.out.setCell (by first | (simp; done) | (simp; omega)) _ |>.setCell (by first | (simp; done) | (simp; omega)) _ |>.setCell (by first | (simp; done) | (simp; omega)) _)

set_option maxRecDepth 100000 in
set_option maxHeartbeats 4000000 in
theorem sSearchOf_c (n : Int) (A : Option Addr) (c : Nat) (es : List (Int × Int)) (w : World) (hx : EdgesAt w A es) (hl : es.length ≤ 1048576) :
    Calls Try.prog 18 #[.agg #[V n, .slice A es.length c]] w (RetSe (seOf n es) (decide (Valid n es)) w) := by
  by_cases hv : Valid n es
  · have e1 : decide (Valid n es) = true := by simpa using hv
    rw [seOf_yes hv, e1]
    have hs := l4Run_c n.toNat (by have := hv.2.1; omega) A c es hv.nodupJ hv.endsJ (by have := hv.2.2.1; omega)
    rw [hv.nat] at hs
    have ok := dRunK_ok n.toNat es n.toNat (Nat.le_refl _)
    obtain ⟨s, hse⟩ : ∃ s, dRunK n.toNat es n.toNat = s := ⟨_, rfl⟩
    rw [hse] at hs ok ⊢
    have HS := Lib.hid hs
    have hg := fun w' h => sGraphValid_c n A c es w' h (by omega)
    rw [e1] at hg
    have HG := Lib.hid hg
    have HX := Lib.hid hx
    have Hok := Lib.hid ok
    clear hs hg hx ok hse hv e1
    generalize n.toNat = k at *
    go_enter Try.func18, Try.ntmps18
    go_wp2_with fail
    generalize hW1 : World.alloc _ _ = W1
    have gW1 : Nx w W1 := by subst hW1; exact (by repeat (first | exact Nx.refl _ | assumption | apply Nx.alloc | apply Nx.drew | apply Nx.drewN | (refine Nx.setCell ?_ (by first | (simp; done) | (simp; omega) | omega) _) | refine Nx.trans ?_ (by assumption)))
    have sW1 : W1.heap.size = w.heap.size + 2 := by subst hW1; simp
    have B : Bx W1 (w.heap.size) 26 [V n, .slice A es.length c] := by subst hW1; have h := Bx.alloc w 26 [V n, .slice A es.length c]; have h := h.nx (Nx.alloc (Nx.refl _) (.cells #[.slice none 0 0, .slice none 0 0, .slice none 0 0] 48)); simpa using h
    have O : Bx W1 (w.heap.size + 1) 48 [.slice none 0 0, .slice none 0 0, .slice none 0 0] := by subst hW1; have h := Bx.alloc (w.alloc (.cells #[V n, .slice A es.length c] 26)) 48 [.slice none 0 0, .slice none 0 0, .slice none 0 0]; simpa using h
    have B_0 := B.cell (j := 0) rfl
    have B_1 := B.cell (j := 1) rfl
    have B_z := B.lt
    have O_0 := O.cell (j := 0) rfl
    have O_1 := O.cell (j := 1) rfl
    have O_2 := O.cell (j := 2) rfl
    have O_z := O.lt
    have HsW1 := Lib.hid sW1
    have lW1 : w.heap.size + 2 ≤ W1.heap.size := by omega
    clear hW1 sW1
    refine (HG.out _ (HX.out.nx gW1)).mono ?_
    rintro e w2 ⟨rfl, hn2⟩
    replace B := B.nx hn2
    replace B_0 := B.cell (j := 0) rfl
    replace B_1 := B.cell (j := 1) rfl
    replace B_z := B.lt
    replace O := O.nx hn2
    replace O_0 := O.cell (j := 0) rfl
    replace O_1 := O.cell (j := 1) rfl
    replace O_2 := O.cell (j := 2) rfl
    replace O_z := O.lt
    have O_f := O.free
    go_wp2_with fail
    have N2 := gW1.trans hn2
    refine (HS.out _ (HX.out.nx N2)).mono ?_
    rintro e w3 ⟨bN, bP, bL, rfl, R, hn3⟩
    replace B := B.nx hn3
    replace B_0 := B.cell (j := 0) rfl
    replace B_1 := B.cell (j := 1) rfl
    replace B_z := B.lt
    replace O := O.nx hn3
    replace O_0 := O.cell (j := 0) rfl
    replace O_1 := O.cell (j := 1) rfl
    replace O_2 := O.cell (j := 2) rfl
    replace O_z := O.lt
    have O_f := O.free
    have HR := Lib.hid R
    have Hn3 := Lib.hid (N2.trans hn3)
    have z2 := N2.size
    have hlo : w2.heap.size ≤ bN := (R.a.lt _ rfl).1
    have hlo2 : w2.heap.size ≤ bP := (R.b.lt _ rfl).1
    have hlo3 : w2.heap.size ≤ bL := (R.c.lt _ rfl).1
    have hso : ¬ three bN bP bL (w.heap.size + 1) := fun h => by have := HsW1.out; have := hn2.size; unfold three at h; omega
    clear R N2 hn3
    go_wp2
    refine bodyPost_ret (v := .tuple #[SeV (some ⟨bN, 0, none⟩) k k (some ⟨bP, 0, none⟩) k k (some ⟨bL, 0, none⟩) k k, .bool true]) (by simp [results, Try.f18, go_sem, *]) rfl ?_
    have R3 := ((HR.out.other hso 0 (.slice (some ⟨bN, 0, none⟩) k k)).other hso 1 (.slice (some ⟨bP, 0, none⟩) k k)).other hso 2 (.slice (some ⟨bL, 0, none⟩) k k)
    exact ⟨some ⟨bN, 0, none⟩, k, some ⟨bP, 0, none⟩, k, some ⟨bL, 0, none⟩, k, by rw [Hok.out.ln, Hok.out.lp, Hok.out.ll], R3.a.mono (by omega), R3.b.mono (by omega), R3.c.mono (by omega), apart_ne' R3.ab, apart_ne' R3.ac, apart_ne' R3.bc, Hn3.out.setCell (by first | (simp; done) | (simp; omega)) _ |>.setCell (by first | (simp; done) | (simp; omega)) _ |>.setCell (by first | (simp; done) | (simp; omega)) _⟩
  · have e1 : decide (Valid n es) = false := by simpa using hv
    rw [seOf_no hv, e1]
    have hg := fun w' h => sGraphValid_c n A c es w' h (by omega)
    rw [e1] at hg
    have HG := Lib.hid hg
    have HX := Lib.hid hx
    clear hg hx hv e1
    go_enter Try.func18, Try.ntmps18
    go_wp2_with fail
    generalize hW1 : World.alloc _ _ = W1
    have gW1 : Nx w W1 := by subst hW1; exact (by repeat (first | exact Nx.refl _ | assumption | apply Nx.alloc | apply Nx.drew | apply Nx.drewN | (refine Nx.setCell ?_ (by first | (simp; done) | (simp; omega) | omega) _) | refine Nx.trans ?_ (by assumption)))
    have sW1 : W1.heap.size = w.heap.size + 2 := by subst hW1; simp
    have B : Bx W1 (w.heap.size) 26 [V n, .slice A es.length c] := by subst hW1; have h := Bx.alloc w 26 [V n, .slice A es.length c]; have h := h.nx (Nx.alloc (Nx.refl _) (.cells #[.slice none 0 0, .slice none 0 0, .slice none 0 0] 48)); simpa using h
    have O : Bx W1 (w.heap.size + 1) 48 [.slice none 0 0, .slice none 0 0, .slice none 0 0] := by subst hW1; have h := Bx.alloc (w.alloc (.cells #[V n, .slice A es.length c] 26)) 48 [.slice none 0 0, .slice none 0 0, .slice none 0 0]; simpa using h
    have B_0 := B.cell (j := 0) rfl
    have B_1 := B.cell (j := 1) rfl
    have B_z := B.lt
    have O_0 := O.cell (j := 0) rfl
    have O_1 := O.cell (j := 1) rfl
    have O_2 := O.cell (j := 2) rfl
    have O_z := O.lt
    have HsW1 := Lib.hid sW1
    have lW1 : w.heap.size + 2 ≤ W1.heap.size := by omega
    clear hW1 sW1
    refine (HG.out _ (HX.out.nx gW1)).mono ?_
    rintro e w2 ⟨rfl, hn2⟩
    replace B := B.nx hn2
    replace B_0 := B.cell (j := 0) rfl
    replace B_1 := B.cell (j := 1) rfl
    replace B_z := B.lt
    replace O := O.nx hn2
    replace O_0 := O.cell (j := 0) rfl
    replace O_1 := O.cell (j := 1) rfl
    replace O_2 := O.cell (j := 2) rfl
    replace O_z := O.lt
    have O_f := O.free
    have Hn2 := Lib.hid (gW1.trans hn2)
    go_wp2
    refine bodyPost_ret (v := .tuple #[SeV none 0 0 none 0 0 none 0 0, .bool false]) (by simp [results, Try.f18, go_sem, *]) rfl ?_
    exact RetSe.no _ _ (Hn2.out.setCell (by first | (simp; done) | (simp; omega)) _ |>.setCell (by first | (simp; done) | (simp; omega)) _ |>.setCell (by first | (simp; done) | (simp; omega)) _)
end Go.Proofs.Ytjchabeiaajgiaa
/- Contracts: eqSearch, markSearch, heldSearch; a search's rows with their range of blocks. -/
namespace Go.Proofs.Ytjchabeiaajgiaa
open Go.RowKit set_option linter.unusedVariables false set_option linter.unusedSimpArgs false

set_option maxRecDepth 100000 in
set_option maxHeartbeats 1000000 in
theorem eqSearch_c (A B C A' B' C' : Option Addr) (ca cb cc ca' cb' cc' : Nat) (xs ys zs : List Int) (w : World) (hA : IntsAt w A xs) (hB : IntsAt w B ys) (hC : IntsAt w C zs) (hA' : IntsAt w A' xs) (hB' : IntsAt w B' ys) (hC' : IntsAt w C' zs)
    (h1 : xs.length ≤ 1048576) (h2 : ys.length ≤ 1048576) (h3 : zs.length ≤ 1048576) :
    Calls Try.prog 21 #[SeV A xs.length ca B ys.length cb C zs.length cc, SeV A' xs.length ca' B' ys.length cb' C' zs.length cc'] w (RetV (.bool true) w) := by
  have q1 := fun w' a b => eqIntS_c A A' ca ca' xs xs w' a b h1 h1
  have q2 := fun w' a b => eqIntS_c B B' cb cb' ys ys w' a b h2 h2
  have q3 := fun w' a b => eqIntS_c C C' cc cc' zs zs w' a b h3 h3
  simp only [decide_true] at q1 q2 q3
  have Q1 := Lib.hid q1
  have Q2 := Lib.hid q2
  have Q3 := Lib.hid q3
  clear q1 q2 q3
  generalize xs.length = n1 at *
  generalize ys.length = n2 at *
  generalize zs.length = n3 at *
  go_enter Try.func21, Try.ntmps21
  go_wp2_with fail
  generalize hW1 : World.alloc _ _ = W1
  have gW1 : Nx w W1 := by subst hW1; exact (by repeat (first | exact Nx.refl _ | assumption | apply Nx.alloc | apply Nx.drew | apply Nx.drewN | (refine Nx.setCell ?_ (by first | (simp; done) | (simp; omega) | omega) _) | refine Nx.trans ?_ (by assumption)))
  have sW1 : W1.heap.size = w.heap.size + 2 := by subst hW1; simp
  have X : Bx W1 (w.heap.size) 48 [.slice A n1 ca, .slice B n2 cb, .slice C n3 cc] := by subst hW1; have h := Bx.alloc w 48 [.slice A n1 ca, .slice B n2 cb, .slice C n3 cc]; have h := h.nx (Nx.alloc (Nx.refl _) (.cells #[.slice A' n1 ca', .slice B' n2 cb', .slice C' n3 cc'] 48)); simpa using h
  have Y : Bx W1 (w.heap.size + 1) 48 [.slice A' n1 ca', .slice B' n2 cb', .slice C' n3 cc'] := by subst hW1; have h := Bx.alloc (w.alloc (.cells #[.slice A n1 ca, .slice B n2 cb, .slice C n3 cc] 48)) 48 [.slice A' n1 ca', .slice B' n2 cb', .slice C' n3 cc']; simpa using h
  have X_0 := X.cell (j := 0) rfl
  have X_1 := X.cell (j := 1) rfl
  have X_2 := X.cell (j := 2) rfl
  have X_z := X.lt
  have Y_0 := Y.cell (j := 0) rfl
  have Y_1 := Y.cell (j := 1) rfl
  have Y_2 := Y.cell (j := 2) rfl
  have Y_z := Y.lt
  have HsW1 := Lib.hid sW1
  have lW1 : w.heap.size + 2 ≤ W1.heap.size := by omega
  clear hW1 sW1
  have N := gW1
  refine (Q1.out _ (hA.nx N) (hA'.nx N)).mono ?_
  rintro e w2 ⟨rfl, hn2⟩
  replace X := X.nx hn2
  replace X_0 := X.cell (j := 0) rfl
  replace X_1 := X.cell (j := 1) rfl
  replace X_2 := X.cell (j := 2) rfl
  replace X_z := X.lt
  replace Y := Y.nx hn2
  replace Y_0 := Y.cell (j := 0) rfl
  replace Y_1 := Y.cell (j := 1) rfl
  replace Y_2 := Y.cell (j := 2) rfl
  replace Y_z := Y.lt
  replace N := N.trans hn2
  go_wp2_with fail
  refine (Q2.out _ (hB.nx N) (hB'.nx N)).mono ?_
  rintro e w3 ⟨rfl, hn3⟩
  replace X := X.nx hn3
  replace X_0 := X.cell (j := 0) rfl
  replace X_1 := X.cell (j := 1) rfl
  replace X_2 := X.cell (j := 2) rfl
  replace X_z := X.lt
  replace Y := Y.nx hn3
  replace Y_0 := Y.cell (j := 0) rfl
  replace Y_1 := Y.cell (j := 1) rfl
  replace Y_2 := Y.cell (j := 2) rfl
  replace Y_z := Y.lt
  replace N := N.trans hn3
  go_wp2_with fail
  refine (Q3.out _ (hC.nx N) (hC'.nx N)).mono ?_
  rintro e w4 ⟨rfl, hn4⟩
  replace X := X.nx hn4
  replace X_0 := X.cell (j := 0) rfl
  replace X_1 := X.cell (j := 1) rfl
  replace X_2 := X.cell (j := 2) rfl
  replace X_z := X.lt
  replace Y := Y.nx hn4
  replace Y_0 := Y.cell (j := 0) rfl
  replace Y_1 := Y.cell (j := 1) rfl
  replace Y_2 := Y.cell (j := 2) rfl
  replace Y_z := Y.lt
  replace N := N.trans hn4
  go_wp2
  go_ret
  exact RetV.bool rfl N

/-- three rows of one's own in the blocks from lo to hi -/
structure Rse (w : World) (lo hi : Nat) (s : DS) (A : Option Addr) (ca : Nat) (B : Option Addr) (cb : Nat) (C : Option Addr) (cc : Nat) : Prop where
  a : OwnI w lo 3 A ca s.N
  b : OwnI w lo 3 B cb s.P
  c : OwnI w lo 3 C cc s.L
  ab : Apart A B
  ac : Apart A C
  bc : Apart B C
  la : ∀ k, blk A = some k → k < hi
  lb : ∀ k, blk B = some k → k < hi
  lc : ∀ k, blk C = some k → k < hi
theorem OwnI.gxJ {p : Nat → Prop} {a w : World} {base c : Nat} {t : TypeId} {A : Option Addr} {es : List Int} (h : OwnI a base t A c es) (g : Gx p a w) (hp : ∀ k, blk A = some k → ¬ p k) : OwnI w base t A c es := by
  refine ⟨h.1, ?_⟩
  rcases h.2 with h1 | ⟨b, cap, cur, h1, h2, h3, h4⟩
  · exact .inl h1
  · injection h1 with hA _ hc
    subst hA; subst hc
    exact .inr ⟨b, c, cur, rfl, h2, (g.block b (Array.getElem?_eq_some_iff.1 h3).1 (hp b rfl)).trans h3, h4⟩
section
variable {w w' : World} {lo hi lo' hi' ca cb cc : Nat} {s : DS} {A B C : Option Addr}
theorem Rse.nx (h : Rse w lo hi s A ca B cb C cc) (hn : Nx w w') : Rse w' lo hi s A ca B cb C cc := ⟨h.a.nx hn, h.b.nx hn, h.c.nx hn, h.ab, h.ac, h.bc, h.la, h.lb, h.lc⟩
theorem Rse.gx (h : Rse w lo hi s A ca B cb C cc) (g : Gx (fun k => lo' ≤ k ∧ k < hi') w w') (hd : hi ≤ lo' ∨ hi' ≤ lo) : Rse w' lo hi s A ca B cb C cc :=
  ⟨h.a.gxJ g fun k hk => by have := (h.a.lt k hk).1; have := h.la k hk; omega, h.b.gxJ g fun k hk => by have := (h.b.lt k hk).1; have := h.lb k hk; omega, h.c.gxJ g fun k hk => by have := (h.c.lt k hk).1; have := h.lc k hk; omega, h.ab, h.ac, h.bc, h.la, h.lb, h.lc⟩
end
/-- a search is returned with its range -/
def RetQe (s : DS) (b : Bool) (w : World) (e : Ending) (w' : World) : Prop :=
  ∃ A ca B cb C cc, e = .returned (.tuple #[SeV A s.N.length ca B s.P.length cb C s.L.length cc, .bool b]) ∧ Rse w' w.heap.size w'.heap.size s A ca B cb C cc ∧ Nx w w'
theorem RetSe.q {s : DS} {b : Bool} {w : World} {e : Ending} {w' : World} (h : RetSe s b w e w') : RetQe s b w e w' := by
  obtain ⟨A, ca, B, cb, C, cc, h1, h2, h3, h4, h5, h6, h7, h8⟩ := h
  exact ⟨A, ca, B, cb, C, cc, h1, ⟨h2, h3, h4, h5, h6, h7, fun k hk => (h2.lt k hk).2, fun k hk => (h3.lt k hk).2, fun k hk => (h4.lt k hk).2⟩, h8⟩
theorem eqSe_r (lo hi lo' hi' : Nat) (s : DS) (A B C A' B' C' : Option Addr) (ca cb cc ca' cb' cc' : Nat) (w : World) (h : Rse w lo hi s A ca B cb C cc) (h' : Rse w lo' hi' s A' ca' B' cb' C' cc') (h1 : s.N.length ≤ 1048576) (h2 : s.P.length ≤ 1048576) (h3 : s.L.length ≤ 1048576) :
    Calls Try.prog 21 #[SeV A s.N.length ca B s.P.length cb C s.L.length cc, SeV A' s.N.length ca' B' s.P.length cb' C' s.L.length cc'] w (RetV (.bool true) w) :=
  eqSearch_c A B C A' B' C' ca cb cc ca' cb' cc' s.N s.P s.L w h.a.intsAt h.b.intsAt h.c.intsAt h'.a.intsAt h'.b.intsAt h'.c.intsAt h1 h2 h3
/-- what the marks are -/
def mkSe (n1 n2 n3 : Nat) : DS := ⟨mkI 1 n1, mkI (1 + n1) n2, mkI (1 + n1 + n2) n3, 0⟩
def MarkSe (lo hi : Nat) (n1 n2 n3 : Nat) (A : Option Addr) (ca : Nat) (B : Option Addr) (cb : Nat) (C : Option Addr) (cc : Nat) (w : World) (e : Ending) (w' : World) : Prop :=
  e = .returned (V (1 + n1 + n2 + n3)) ∧ Rse w' lo hi (mkSe n1 n2 n3) A ca B cb C cc ∧ Gx (fun k => lo ≤ k ∧ k < hi) w w'
set_option maxRecDepth 100000 in
set_option maxHeartbeats 1000000 in
theorem markSe_r (lo hi : Nat) (s : DS) (A B C : Option Addr) (ca cb cc : Nat) (w : World) (h : Rse w lo hi s A ca B cb C cc) (hhi : hi ≤ w.heap.size) (h1 : s.N.length ≤ 1048576) (h2 : s.P.length ≤ 1048576) (h3 : s.L.length ≤ 1048576) :
    Calls Try.prog 24 #[SeV A s.N.length ca B s.P.length cb C s.L.length cc, V 1] w (MarkSe lo hi s.N.length s.P.length s.L.length A ca B cb C cc w) := by
  have M1 := Lib.hid (fun w' a => markIntS_c 3 lo A ca s.N 1 w' a h1 (by omega) (by omega))
  have M2 := Lib.hid (fun w' a => markIntS_c 3 lo B cb s.P (1 + (s.N.length : Nat)) w' a h2 (by omega) (by omega))
  have M3 := Lib.hid (fun w' a => markIntS_c 3 lo C cc s.L (1 + (s.N.length : Nat) + (s.P.length : Nat)) w' a h3 (by omega) (by omega))
  have H := Lib.hid h
  clear h
  have ra : ∀ j, blk A = some j → lo ≤ j ∧ j < hi := fun j e => ⟨(H.out.a.lt j e).1, H.out.la j e⟩
  have rb : ∀ j, blk B = some j → lo ≤ j ∧ j < hi := fun j e => ⟨(H.out.b.lt j e).1, H.out.lb j e⟩
  have rc : ∀ j, blk C = some j → lo ≤ j ∧ j < hi := fun j e => ⟨(H.out.c.lt j e).1, H.out.lc j e⟩
  generalize s.N.length = n1 at *
  generalize s.P.length = n2 at *
  generalize s.L.length = n3 at *
  go_enter Try.func24, Try.ntmps24
  go_wp2_with fail
  generalize hW1 : World.alloc _ _ = W1
  have gW1 : Nx w W1 := by subst hW1; exact (by repeat (first | exact Nx.refl _ | assumption | apply Nx.alloc | apply Nx.drew | apply Nx.drewN | (refine Nx.setCell ?_ (by first | (simp; done) | (simp; omega) | omega) _) | refine Nx.trans ?_ (by assumption)))
  have sW1 : W1.heap.size = w.heap.size + 1 := by subst hW1; simp
  have X : Bx W1 (w.heap.size) 48 [.slice A n1 ca, .slice B n2 cb, .slice C n3 cc] := by subst hW1; have h := Bx.alloc w 48 [.slice A n1 ca, .slice B n2 cb, .slice C n3 cc]; simpa using h
  have X_0 := X.cell (j := 0) rfl
  have X_1 := X.cell (j := 1) rfl
  have X_2 := X.cell (j := 2) rfl
  have X_z := X.lt
  have HsW1 := Lib.hid sW1
  have lW1 : w.heap.size + 1 ≤ W1.heap.size := by omega
  clear hW1 sW1
  have R1 := H.out.nx gW1
  have G1 : Gx (fun k => lo ≤ k ∧ k < hi) w W1 := (Gx.refl _ w).nx gW1
  refine (M1.out _ R1.a).mono ?_
  rintro e w2 ⟨rfl, m1, g2⟩
  have G2 := G1.grown g2 fun j e => .inl (ra j e)
  have b2 := R1.b.kept g2 H.out.ab.symm
  have c2 := R1.c.kept g2 H.out.ac.symm
  have X2 := ((Gx.refl (fun k => lo ≤ k ∧ k < hi) W1).grown g2 fun j e => .inl (ra j e)).bx X (by omega)
  clear X X_0 X_1 X_2 X_z R1 g2 G1
  have X_0 := X2.cell (j := 0) rfl
  have X_1 := X2.cell (j := 1) rfl
  have X_2 := X2.cell (j := 2) rfl
  go_wp2_with fail
  refine (M2.out _ b2).mono ?_
  rintro e w3 ⟨rfl, m2, g3⟩
  have G3 := G2.grown g3 fun j e => .inl (rb j e)
  have a3 := m1.kept g3 H.out.ab
  have c3 := c2.kept g3 H.out.bc.symm
  have X3 := ((Gx.refl (fun k => lo ≤ k ∧ k < hi) w2).grown g3 fun j e => .inl (rb j e)).bx X2 (by omega)
  clear X2 X_0 X_1 X_2 g3 G2 b2 c2 m1
  have X_0 := X3.cell (j := 0) rfl
  have X_1 := X3.cell (j := 1) rfl
  have X_2 := X3.cell (j := 2) rfl
  go_wp2_with fail
  refine (M3.out _ c3).mono ?_
  rintro e w4 ⟨rfl, m3, g4⟩
  have G4 := G3.grown g4 fun j e => .inl (rc j e)
  have a4 := a3.kept g4 H.out.ac
  have b4 := m2.kept g4 H.out.bc
  clear X3 X_0 X_1 X_2 g4 G3
  go_wp2
  go_ret
  exact ⟨rfl, ⟨a4, b4, m3, H.out.ab, H.out.ac, H.out.bc, H.out.la, H.out.lb, H.out.lc⟩, G4⟩
set_option maxRecDepth 100000 in
set_option maxHeartbeats 1000000 in
theorem heldSe_r (lo hi n1 n2 n3 : Nat) (A B C : Option Addr) (ca cb cc : Nat) (w : World) (h : Rse w lo hi (mkSe n1 n2 n3) A ca B cb C cc) (h1 : n1 ≤ 1048576) (h2 : n2 ≤ 1048576) (h3 : n3 ≤ 1048576) :
    Calls Try.prog 25 #[SeV A n1 ca B n2 cb C n3 cc, V 1] w (RetV (V (1 + n1 + n2 + n3)) w) := by
  have M1 := Lib.hid (fun w' a => heldIntS_c A ca n1 1 w' a h1 (by omega) (by omega))
  have M2 := Lib.hid (fun w' a => heldIntS_c B cb n2 (1 + (n1 : Nat)) w' a h2 (by omega) (by omega))
  have M3 := Lib.hid (fun w' a => heldIntS_c C cc n3 (1 + (n1 : Nat) + (n2 : Nat)) w' a h3 (by omega) (by omega))
  go_enter Try.func25, Try.ntmps25
  go_wp2_with fail
  generalize hW1 : World.alloc _ _ = W1
  have gW1 : Nx w W1 := by subst hW1; exact (by repeat (first | exact Nx.refl _ | assumption | apply Nx.alloc | apply Nx.drew | apply Nx.drewN | (refine Nx.setCell ?_ (by first | (simp; done) | (simp; omega) | omega) _) | refine Nx.trans ?_ (by assumption)))
  have sW1 : W1.heap.size = w.heap.size + 1 := by subst hW1; simp
  have X : Bx W1 (w.heap.size) 48 [.slice A n1 ca, .slice B n2 cb, .slice C n3 cc] := by subst hW1; have h := Bx.alloc w 48 [.slice A n1 ca, .slice B n2 cb, .slice C n3 cc]; simpa using h
  have X_0 := X.cell (j := 0) rfl
  have X_1 := X.cell (j := 1) rfl
  have X_2 := X.cell (j := 2) rfl
  have X_z := X.lt
  have HsW1 := Lib.hid sW1
  have lW1 : w.heap.size + 1 ≤ W1.heap.size := by omega
  clear hW1 sW1
  have N := gW1
  refine (M1.out _ (h.nx N).a.intsAt).mono ?_
  rintro e w2 ⟨rfl, hn2⟩
  replace X := X.nx hn2
  replace X_0 := X.cell (j := 0) rfl
  replace X_1 := X.cell (j := 1) rfl
  replace X_2 := X.cell (j := 2) rfl
  replace X_z := X.lt
  replace N := N.trans hn2
  go_wp2_with fail
  refine (M2.out _ (h.nx N).b.intsAt).mono ?_
  rintro e w3 ⟨rfl, hn3⟩
  replace X := X.nx hn3
  replace X_0 := X.cell (j := 0) rfl
  replace X_1 := X.cell (j := 1) rfl
  replace X_2 := X.cell (j := 2) rfl
  replace X_z := X.lt
  replace N := N.trans hn3
  go_wp2_with fail
  refine (M3.out _ (h.nx N).c.intsAt).mono ?_
  rintro e w4 ⟨rfl, hn4⟩
  replace X := X.nx hn4
  replace X_0 := X.cell (j := 0) rfl
  replace X_1 := X.cell (j := 1) rfl
  replace X_2 := X.cell (j := 2) rfl
  replace X_z := X.lt
  replace N := N.trans hn4
  go_wp2
  go_ret
  exact RetV.int rfl N
end Go.Proofs.Ytjchabeiaajgiaa
