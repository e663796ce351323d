/- Contract: find, the search in depth of the program. -/
import Derived.Test.YtjchabeiaajgiaaJ1
import Derived.Test.YtjchabeiaajgiaaNM
import Derived.Test.YtjchabeiaajgiaaM2
import Derived.BigRegion
import Derived.Deep.Cut
import Derived.Deep.CutRange
import Derived.Deep.CutBlock
namespace Go.Proofs.Ytjchabeiaajgiaa
open Go.RowKit set_option linter.unusedVariables false set_option linter.unusedSimpArgs false

/-- three rows of the search, in blocks of their own -/
structure RS (w : World) (base n bN bP bL : Nat) (N P L : List Int) : Prop where
  a : OwnI w base 3 (some ⟨bN, 0, none⟩) n N
  b : OwnI w base 3 (some ⟨bP, 0, none⟩) n P
  c : OwnI w base 3 (some ⟨bL, 0, none⟩) n L
  ab : bN ≠ bP
  ac : bN ≠ bL
  bc : bP ≠ bL
/-- the blocks of the three rows -/
def three (bN bP bL : Nat) (k : Nat) : Prop := k = bN ∨ k = bP ∨ k = bL
section
variable {w w' : World} {base n bN bP bL : Nat} {N P L : List Int}
theorem ne_blk {a b : Nat} (h : a ≠ b) : blk (some (⟨a, 0, none⟩ : Addr)) = none ∨ blk (some (⟨a, 0, none⟩ : Addr)) ≠ some b := .inr fun e => by injection e with e; exact h e
theorem RS.nx (h : RS w base n bN bP bL N P L) (hn : Nx w w') : RS w' base n bN bP bL N P L := ⟨h.a.nx hn, h.b.nx hn, h.c.nx hn, h.ab, h.ac, h.bc⟩
theorem RS.setN (h : RS w base n bN bP bL N P L) (i : Nat) (v : Int) : RS (w.setCell ⟨bN, i, none⟩ (V v)) base n bN bP bL (N.set i v) P L :=
  ⟨h.a.set i v, h.b.kept (grown_setCell _ _ _ _) (ne_blk (Ne.symm h.ab)), h.c.kept (grown_setCell _ _ _ _) (ne_blk (Ne.symm h.ac)), h.ab, h.ac, h.bc⟩
theorem RS.setP (h : RS w base n bN bP bL N P L) (i : Nat) (v : Int) : RS (w.setCell ⟨bP, i, none⟩ (V v)) base n bN bP bL N (P.set i v) L :=
  ⟨h.a.kept (grown_setCell _ _ _ _) (ne_blk h.ab), h.b.set i v, h.c.kept (grown_setCell _ _ _ _) (ne_blk (Ne.symm h.bc)), h.ab, h.ac, h.bc⟩
theorem RS.setL (h : RS w base n bN bP bL N P L) (i : Nat) (v : Int) : RS (w.setCell ⟨bL, i, none⟩ (V v)) base n bN bP bL N P (L.set i v) :=
  ⟨h.a.kept (grown_setCell _ _ _ _) (ne_blk h.ac), h.b.kept (grown_setCell _ _ _ _) (ne_blk h.bc), h.c.set i v, h.ab, h.ac, h.bc⟩
theorem RS.lt (h : RS w base n bN bP bL N P L) : bN < w.heap.size ∧ bP < w.heap.size ∧ bL < w.heap.size := ⟨(h.a.lt _ rfl).2, (h.b.lt _ rfl).2, (h.c.lt _ rfl).2⟩
theorem OwnI.lkc {A : Nat} {xs : List Int} {c : Nat} {t : TypeId} (h : OwnI w base t (some ⟨A, 0, none⟩) c xs) {k : Nat} (hk : k < xs.length) : w.cell? ⟨A, k, none⟩ = some (V (lk xs k)) := by
  have := h.cell hk
  rw [this]
  simp [lk, hk]
end
theorem Gx.trans {p : Nat → Prop} {a b c : World} (h : Gx p a b) (k : Gx p b c) : Gx p a c :=
  ⟨k.os.trans h.os, k.tape.trans h.tape, k.output.trans h.output, Nat.le_trans h.size k.size, fun i hi hp => (k.block i (Nat.lt_of_lt_of_le hi h.size) hp).trans (h.block i hi hp)⟩
theorem Gx.edgesL {p : Nat → Prop} {a w : World} (h : Gx p a w) {A : Option Addr} {es : List (Int × Int)} (he : EdgesAt a A es) (hp : 0 < es.length → ∀ k, blk A = some k → ¬ p k) : EdgesAt w A es := fun h0 => (h.edges he (hp h0)) h0
theorem EdgesAt.low {w : World} {A : Option Addr} {es : List (Int × Int)} (h : EdgesAt w A es) (h0 : 0 < es.length) : ∀ k, blk A = some k → k < w.heap.size := fun k hk => by
  obtain ⟨b, off, rfl, hb, _⟩ := h h0
  have : b = k := by simpa [blk] using hk
  omega
theorem RS.mono {w : World} {base base' n bN bP bL : Nat} {N P L : List Int} (h : RS w base n bN bP bL N P L) (hb : base' ≤ base) : RS w base' n bN bP bL N P L := ⟨h.a.mono hb, h.b.mono hb, h.c.mono hb, h.ab, h.ac, h.bc⟩
theorem RS.other {w : World} {base n bN bP bL : Nat} {N P L : List Int} (h : RS w base n bN bP bL N P L) {g : Nat} (hg : ¬ three bN bP bL g) (i : Nat) (u : Value) : RS (w.setCell ⟨g, i, none⟩ u) base n bN bP bL N P L :=
  ⟨h.a.kept (grown_setCell _ _ _ _) (ne_blk (fun e => hg (.inl e.symm))), h.b.kept (grown_setCell _ _ _ _) (ne_blk (fun e => hg (.inr (.inl e.symm)))), h.c.kept (grown_setCell _ _ _ _) (ne_blk (fun e => hg (.inr (.inr e.symm)))), h.ab, h.ac, h.bc⟩
/-- what a search leaves -/
def Searched (base n bN bP bL : Nat) (t : DS) (w : World) (e : Ending) (w' : World) : Prop :=
  e = .returned (V t.c) ∧ RS w' base n bN bP bL t.N t.P t.L ∧ Gx (three bN bP bL) w w'
theorem min_cases (a b : Int) : (if b < a then b else a) = min a b := by
  rw [Int.min_def]; split <;> split <;> omega

/-- find answers as the plain search does, with so many nodes left at most -/
def FindOk (n : Nat) (G : Option Addr) (gc : Nat) (E : Es) (base gb bN bP bL f : Nat) : Prop := ∀ (x p : Int) (s : DS) (w : World), DOk n s → 0 ≤ x → x < n → lk s.N x = 0 → zeros s.N ≤ f → (p = -1 ∨ (0 ≤ p ∧ p < n ∧ lk s.N p ≠ 0)) →
    RS w base n bN bP bL s.N s.P s.L → EdgesAt w G E → Bx w gb 48 [.slice (some ⟨bN, 0, none⟩) n n, .slice (some ⟨bP, 0, none⟩) n n, .slice (some ⟨bL, 0, none⟩) n n] →
    Calls Try.prog 111 #[.pointer (some ⟨gb, 0, none⟩), .agg #[V n, .slice G E.length gc], V x, V p, V s.c] w (Searched base n bN bP bL (dfs n E f x p s) w)

set_option maxRecDepth 100000 in
set_option maxHeartbeats 4000000 in
theorem find_step (n : Nat) (hn : n ≤ 16) (G : Option Addr) (gc : Nat) (E : Es) (hnd : E.Nodup) (hE : ∀ e ∈ E, 0 ≤ e.1 ∧ e.1 < e.2 ∧ e.2 < n) (hEl : E.length ≤ 1000) (base gb bN bP bL : Nat)
    (hgb : ¬ three bN bP bL gb) (hG : 0 < E.length → ∀ k, blk G = some k → ¬ three bN bP bL k) (f : Nat) (ih : FindOk n G gc E base gb bN bP bL f) (x p : Int) (s : DS) (w : World) (hs : DOk n s) (h0 : 0 ≤ x) (h1 : x < n) (hx : lk s.N x = 0) (hz : zeros s.N ≤ f + 1) (hp : p = -1 ∨ (0 ≤ p ∧ p < n ∧ lk s.N p ≠ 0))
    (hr : RS w base n bN bP bL s.N s.P s.L) (hg : EdgesAt w G E) (X : Bx w gb 48 [.slice (some ⟨bN, 0, none⟩) n n, .slice (some ⟨bP, 0, none⟩) n n, .slice (some ⟨bL, 0, none⟩) n n]) :
    Calls Try.prog 111 #[.pointer (some ⟨gb, 0, none⟩), .agg #[V n, .slice G E.length gc], V x, V p, V s.c] w (Searched base n bN bP bL (dfs n E (f + 1) x p s) w) := by
  have hfk := fun k => dfsK_facts (p := p) (E := E) hs h0 h1 hx hz (k := k)
  have hk0 := dfsK_zero n E f x p s
  have hkall := fun k => dfsK_all n E f x p s (k := k)
  have hksuc := fun k y => dfsK_succ (n := n) (E := E) (f := f) (x := x) (p := p) (s := s) (k := k) (y := y)
  have hnb := fun w' (h : EdgesAt w' G E) => neighbors_c n G gc E x w' h (by omega)
  rw [srt_next hnd hE x] at hnb
  have hnr := fun k y => next_range (n := n) (E := E) (x := x) (y := y) (k := k)
  have hnl : (nextL n E x).length ≤ n := by unfold nextL; exact Nat.le_trans (List.length_filter_le _ _) (by simp)
  have hc0 := hs.c0
  have hcz := hs.cz
  have hzp : 1 ≤ zeros s.N := by
    have := zeros_none (N := s.N) (x := x)
    refine Classical.byContradiction fun h => this (by omega) h0 (by rw [hs.ln]; exact h1) hx
  have hsum : IntKind.i64.wrap (s.c + 1) = s.c + 1 := IntWalk.i64_in _ (by omega)
  obtain ⟨xn, rfl⟩ := Int.eq_ofNat_of_zero_le h0
  have hxn : xn < n := by omega
  have Hih := Lib.hid ih
  have Hfk := Lib.hid hfk
  have Hk0 := Lib.hid hk0
  have Hkall := Lib.hid hkall
  have Hksuc := Lib.hid hksuc
  have Hnb := Lib.hid hnb
  have Hnr := Lib.hid hnr
  have Hg := Lib.hid hg
  have Hr := Lib.hid hr
  have Hgb := Lib.hid hgb
  have HG := Lib.hid hG
  have Hp := Lib.hid hp
  have lnN : xn < s.N.length := by rw [hs.ln]; exact hxn
  have lnP : xn < s.P.length := by rw [hs.lp]; exact hxn
  have lnL : xn < s.L.length := by rw [hs.ll]; exact hxn
  obtain ⟨z1, z2, z3⟩ := hr.lt
  have ab := hr.ab
  have ac := hr.ac
  have bc := hr.bc
  have Hd1 := Lib.hid lnN
  have Hd2 := Lib.hid lnP
  have Hd3 := Lib.hid lnL
  clear ih hfk hk0 hkall hksuc hnb hnr hg hr hgb hG hp hnd hE lnN lnP lnL hx hz hs h0 h1
  go_enter Try.func111, Try.ntmps111
  go_upto_region 2 with (fail)
  generalize hW1 : World.alloc _ _ = W1
  have gW1 : Nx w W1 := by subst hW1; exact (by repeat (first | exact Nx.refl _ | assumption | apply Nx.alloc | apply Nx.drew | apply Nx.drewN | (refine Nx.setCell ?_ (by first | (simp; done) | (simp; omega) | omega) _) | refine Nx.trans ?_ (by assumption)))
  have sW1 : W1.heap.size = w.heap.size + 1 := by subst hW1; simp
  have B : Bx W1 (w.heap.size) 26 [V n, .slice G E.length gc] := by subst hW1; have h := Bx.alloc w 26 [V n, .slice G E.length gc]; simpa using h
  have B_0 := B.cell (j := 0) rfl
  have B_1 := B.cell (j := 1) rfl
  have B_z := B.lt
  have HsW1 := Lib.hid sW1
  have lW1 : w.heap.size + 1 ≤ W1.heap.size := by omega
  clear hW1 sW1
  replace X := X.nx gW1
  replace X_0 := X.cell (j := 0) rfl
  replace X_1 := X.cell (j := 1) rfl
  replace X_2 := X.cell (j := 2) rfl
  replace X_z := X.lt
  have r1 := Hr.out.nx gW1
  have p1 := r1.a.lkc Hd1.out
  have p2 := r1.b.lkc Hd2.out
  have p3 := r1.c.lkc Hd3.out
  have f1 := r1.a.free
  have f2 := r1.b.free
  have f3 := r1.c.free
  generalize lk s.N (xn : Int) = l1 at p1
  generalize lk s.P (xn : Int) = l2 at p2
  generalize lk s.L (xn : Int) = l3 at p3
  have R1 := Lib.hid r1
  clear r1
  go_cut [4] from 15 (fun s4 wc => s4 = V (s.c + 1) ∧ RS wc base n bN bP bL (s.N.set xn (s.c + 1)) (s.P.set xn p) (s.L.set xn (s.c + 1)) ∧ Gx (three bN bP bL) W1 wc)
  case first =>
    go_big_region
    go_wp2
    go_meet
    refine ⟨rfl, (((R1.out.setN xn (s.c + 1)).setP xn p).setL xn (s.c + 1)).nx (.drew (.refl _)), ?_⟩
    exact (((((Gx.refl _ _).setCell (.inl (.inl rfl)) _ _).setCell (.inl (.inr (.inl rfl))) _ _).setCell (.inl (.inr (.inr rfl))) _ _)).nx (.drew (.refl _))
  obtain ⟨rfl, R2, g2⟩ := hcut
  obtain ⟨W2, hW2⟩ : ∃ v, v = wc := ⟨_, rfl⟩
  subst hW2
  have hB2 := g2.bx B (fun h => by unfold three at h; omega)
  have hX2 := g2.bx X Hgb.out
  have hg2 := g2.edgesL (Hg.out.nx gW1) HG.out
  have hgw2 : Gx (three bN bP bL) w W2 := ((Gx.refl _ _).nx gW1).trans g2
  have hz2 := R2.lt
  clear p1 p2 p3 f1 f2 f3 B B_0 B_1 B_z X X_0 X_1 X_2 X_z R1
  have B_0 := hB2.cell (j := 0) rfl
  have B_1 := hB2.cell (j := 1) rfl
  go_wp2_with fail
  refine (Hnb.out _ hg2).mono ?_
  rintro e w3 ⟨NA, nc, rfl, ho3, hn3⟩
  have hB3 := hB2.nx hn3
  have hX3 := hX2.nx hn3
  have hg3 := hg2.nx hn3
  have R3 := R2.nx hn3
  have hgw3 : Gx (three bN bP bL) w w3 := hgw2.nx hn3
  have hNlt := ho3.lt
  have hNA : ∀ k, blk NA = some k → ¬ three bN bP bL k := fun k hk h => by have := (hNlt k hk).1; unfold three at h; omega
  have hNi := ho3.intsAt
  generalize nextL n E (xn : Int) = ns at *
  generalize dfsK n E f (xn : Int) p s = D at *
  have R3' : RS w3 base n bN bP bL (D 0).N (D 0).P (D 0).L := by rw [Hk0.out]; exact R3
  have c3 : (D 0).c = s.c + 1 := by rw [Hk0.out]; rfl
  have HB := Lib.hid hB3
  have HX := Lib.hid hX3
  have Hge := Lib.hid hg3
  have Hgw := Lib.hid hgw3
  have HNA := Lib.hid hNA
  have HNi := Lib.hid hNi
  have HR := Lib.hid R3'
  have Hc3 := Lib.hid c3
  clear hB2 hX2 hg2 hgw2 hz2 hB3 hX3 hg3 R3 R3' c3 hgw3 hNA hNi ho3 hNlt R2 g2 B_0 B_1 hn3 gW1
  go_wp2
  go_loopg [4, 12, 40] ns.length (fun gk c4 _ i wr => ∃ (k : Nat), k + gk = ns.length ∧ i = .int .i64 k ∧ c4 = V (D k).c ∧ RS wr base n bN bP bL (D k).N (D k).P (D k).L ∧ Gx (three bN bP bL) w3 wr)
  case atStart => exact ⟨0, by omega, rfl, by rw [Hc3.out], HR.out, Gx.refl _ _⟩
  case round =>
    obtain ⟨k, hk, rfl, rfl, R, Gg⟩ := hrel
    have B := Gg.bx HB.out (fun h => by unfold three at h; omega)
    have X := Gg.bx HX.out Hgb.out
    have B_0 := B.cell (j := 0) rfl
    have B_1 := B.cell (j := 1) rfl
    have X_0 := X.cell (j := 0) rfl
    have X_1 := X.cell (j := 1) rfl
    have X_2 := X.cell (j := 2) rfl
    by_cases hlt : k < ns.length
    · obtain ⟨y, hy⟩ : ∃ y, ns[k]? = some y := ⟨_, List.getElem?_eq_getElem hlt⟩
      obtain ⟨hy0, hy1⟩ := Hnr.out k y hy
      obtain ⟨ok, hz, hNx, hPx, hold⟩ := Hfk.out k (by omega)
      have hst := Hksuc.out k y hy
      obtain ⟨bq, oq, hNe, hbq, q1⟩ := (Gg.ints HNi.out HNA.out).rd hy
      obtain ⟨yn, rfl⟩ := Int.eq_ofNat_of_zero_le hy0
      have hyn : yn < n := by omega
      obtain ⟨t, ht⟩ : ∃ t, D (k + 1) = t := ⟨_, rfl⟩
      rw [ht] at hst
      have Ht := Lib.hid ht
      clear ht
      generalize D k = sk at *
      subst hNe
      have lnN : yn < sk.N.length := by rw [ok.ln]; exact hyn
      have r1 := R.a.lkc lnN
      have HR := Lib.hid R
      have Hok := Lib.hid ok
      have HGg := Lib.hid Gg
      have HNx := Lib.hid hNx
      have HPx := Lib.hid hPx
      have Hold := Lib.hid hold
      have Hst := Lib.hid hst
      have HX := Lib.hid X
      have HB := Lib.hid B
      have Hz := Lib.hid hz
      have hskc := ok.c0
      have hskz := ok.cz
      have hpN : Hid (p = -1 ∨ lk sk.N p ≠ 0) := Lib.hid (Hp.out.imp id (fun h => hold p h.1 h.2.1 h.2.2))
      clear R ok Gg hNx hPx hold hst lnN X B hz hy hy0
      go_upto_block 1 with (fail)
      go_cut [4] from 42 to 102 (fun s4 wc => s4 = V t.c ∧ RS wc base n bN bP bL t.N t.P t.L ∧ Gx (three bN bP bL) wr wc)
      case first =>
        by_cases hN : lk sk.N (yn : Int) = 0
        · have hb : (lk sk.N (yn : Int) == 0) = true := by simpa using hN
          have hyp : (yn : Int) ≠ p := fun e => by
            rcases hpN.out with h | h
            · omega
            · exact h (e ▸ hN)
          have hstt : t = ((dfs n E f yn xn sk).low xn (lk (dfs n E f yn xn sk).L yn)) := by rw [Hst.out]; unfold dStep; rw [if_neg hyp, if_pos hN]
          have hcall := fun w' h1 h2 h3 => Hih.out (yn : Int) (xn : Int) sk w' Hok.out (by omega) (by omega) hN Hz.out (.inr ⟨by omega, by omega, by rw [HNx.out]; omega⟩) h1 h2 h3
          have hw := dfs_went n E f yn xn sk Hok.out (by omega) (by omega) hN Hz.out
          have wok := hw.1.1
          generalize dfs n E f (yn : Int) (xn : Int) sk = t2 at *
          have Hcall := Lib.hid hcall
          have Hstt := Lib.hid hstt
          have lx : xn < t2.L.length := by rw [wok.ll]; exact hxn
          have ly : yn < t2.L.length := by rw [wok.ll]; exact hyn
          have Hlx := Lib.hid lx
          have Hly := Lib.hid ly
          clear hcall hstt hw wok lx ly
          go_wp2_with fail
          refine (Hcall.out _ HR.out (HGg.out.edgesL Hge.out HG.out) HX.out).mono ?_
          rintro e w5 ⟨rfl, R5, g5⟩
          have hX5 := g5.bx HX.out Hgb.out
          have hB5 := g5.bx HB.out (fun h => by have := HGg.out.size; unfold three at h; omega)
          have X_0 := hX5.cell (j := 0) rfl
          have X_1 := hX5.cell (j := 1) rfl
          have X_2 := hX5.cell (j := 2) rfl
          have p1 := R5.c.lkc Hlx.out
          have p2 := R5.c.lkc Hly.out
          have p3 := R5.c.free
          have HR5 := Lib.hid R5
          have Hg5 := Lib.hid g5
          clear hX5 hB5 R5 g5 q1 r1 B_0 B_1
          go_upto_region 8 with (fail)
          go_big_region
          go_wp2
          go_meet
          refine ⟨by rw [Hstt.out]; rfl, ?_, ?_⟩
          · rw [Hstt.out]; exact (HR5.out.setL xn _).nx (.drew (.refl _))
          · exact Hg5.out.trans (((Gx.refl _ _).setCell (.inl (.inr (.inr rfl))) _ _).nx (.drew (.refl _)))
        · have hb : (lk sk.N (yn : Int) == 0) = false := by simpa using hN
          by_cases hyp : (yn : Int) = p
          · have hb2 : ((yn : Int) != p) = false := by simpa using hyp
            have hstt : t = sk := by rw [Hst.out]; unfold dStep; rw [if_pos hyp]
            have Hstt := Lib.hid hstt
            clear hstt hyp hN
            go_wp2
            go_meet
            exact ⟨by rw [Hstt.out], by rw [Hstt.out]; exact HR.out, Gx.refl _ _⟩
          · have hb2 : ((yn : Int) != p) = true := by simpa using hyp
            have hstt : t = sk.low xn (lk sk.N yn) := by rw [Hst.out]; unfold dStep; rw [if_neg hyp, if_neg hN]
            have Hstt := Lib.hid hstt
            have lx : xn < sk.L.length := by rw [Hok.out.ll]; exact hxn
            have p1 := HR.out.c.lkc lx
            have p3 := HR.out.c.free
            clear hstt hyp hN lx
            go_upto_region 10 with (fail)
            go_big_region
            go_wp2
            go_meet
            refine ⟨by rw [Hstt.out]; rfl, ?_, ?_⟩
            · rw [Hstt.out]; exact (HR.out.setL xn _).nx (.drew (.refl _))
            · exact ((Gx.refl _ _).setCell (.inl (.inr (.inr rfl))) _ _).nx (.drew (.refl _))
      obtain ⟨rfl, R4, g4⟩ := hcut
      clear q1 r1 B_0 B_1 X_0 X_1 X_2
      go_wp2
      go_roundg (gk - 1)
      case measure => omega
      case rel => exact ⟨k + 1, by omega, by go_num, by rw [Ht.out], by rw [Ht.out]; exact R4, HGg.out.trans g4⟩
    · have hkl : k = ns.length := by omega
      have hall := Hkall.out k (by omega)
      rw [hall] at R ⊢
      have HR := Lib.hid R
      have HGg := Lib.hid Gg
      clear R Gg
      go_wp2
      go_ret
      exact ⟨rfl, HR.out, Hgw.out.trans HGg.out⟩
theorem find_c (n : Nat) (hn : n ≤ 16) (G : Option Addr) (gc : Nat) (E : Es) (hnd : E.Nodup) (hE : ∀ e ∈ E, 0 ≤ e.1 ∧ e.1 < e.2 ∧ e.2 < n) (hEl : E.length ≤ 1000) (base gb bN bP bL : Nat)
    (hgb : ¬ three bN bP bL gb) (hG : 0 < E.length → ∀ k, blk G = some k → ¬ three bN bP bL k) : ∀ f, FindOk n G gc E base gb bN bP bL f
  | 0 => fun x p s w hs h0 h1 hx hz _ _ _ _ => absurd hx (zeros_none (by omega) h0 (by rw [hs.ln]; exact h1))
  | f + 1 => find_step n hn G gc E hnd hE hEl base gb bN bP bL hgb hG f (find_c n hn G gc E hnd hE hEl base gb bN bP bL hgb hG f)
end Go.Proofs.Ytjchabeiaajgiaa
