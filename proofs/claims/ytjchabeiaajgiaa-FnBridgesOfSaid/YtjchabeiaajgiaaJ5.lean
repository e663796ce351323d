/- Contract: l4Search, the search in depth of the reference. -/
import Derived.Test.YtjchabeiaajgiaaJ4
import Derived.BigQuiet
import Derived.Deep.RegionHeld3
namespace Go.Proofs.Ytjchabeiaajgiaa
open Go.RowKit set_option linter.unusedVariables false set_option linter.unusedSimpArgs false

theorem Gx.fresh {p q : Nat → Prop} {a b c : World} (h : Gx p a b) (k : Gx q b c) (hq : ∀ i, q i → p i ∨ a.heap.size ≤ i) : Gx p a c :=
  ⟨k.os.trans h.os, k.tape.trans h.tape, k.output.trans h.output, Nat.le_trans h.size k.size, fun i hi hp => (k.block i (Nat.lt_of_lt_of_le hi h.size) (fun e => by rcases hq i e with e | e; exact hp e; omega)).trans (h.block i hi hp)⟩
theorem low_yes {t : DS} {x : Nat} {v : Int} (h : v < lk t.L (x : Int)) : t.low x v = ⟨t.N, t.P, t.L.set x v, t.c⟩ := by
  unfold DS.low up
  rw [Int.min_eq_right (by omega)]
  rfl
theorem low_no {t : DS} {x : Nat} {v : Int} (hx : x < t.L.length) (h : ¬ v < lk t.L (x : Int)) : t.low x v = t := by
  unfold DS.low up
  rw [Int.min_eq_left (by omega)]
  have : t.L.set (x : Int).toNat (lk t.L (x : Int)) = t.L := by
    rw [show ((x : Int).toNat) = x from rfl]
    simp [lk, hx]
  rw [this]
/-- what l4Search leaves -/
def L4Went (base n bN bP bL : Nat) (t : DS) (w : World) (e : Ending) (w' : World) : Prop :=
  e = .returned (.tuple #[.agg #[.slice (some ⟨bN, 0, none⟩) n n, .slice (some ⟨bP, 0, none⟩) n n, .slice (some ⟨bL, 0, none⟩) n n], V t.c]) ∧ RS w' base n bN bP bL t.N t.P t.L ∧ Gx (three bN bP bL) w w'
def L4Ok (n : Nat) (G : Option Addr) (gc : Nat) (E : Es) (base bN bP bL f : Nat) : Prop := ∀ (x p : Int) (s : DS) (w : World), DOk n s → 0 ≤ x → x < n → lk s.N x = 0 → zeros s.N ≤ f → (p = -1 ∨ (0 ≤ p ∧ p < n ∧ lk s.N p ≠ 0)) →
    RS w base n bN bP bL s.N s.P s.L → EdgesAt w G E →
    Calls Try.prog 109 #[.agg #[V n, .slice G E.length gc], V x, V p, .agg #[.slice (some ⟨bN, 0, none⟩) n n, .slice (some ⟨bP, 0, none⟩) n n, .slice (some ⟨bL, 0, none⟩) n n], V s.c] w (L4Went base n bN bP bL (dfs n E f x p s) w)

set_option maxRecDepth 100000 in
set_option maxHeartbeats 4000000 in
theorem l4_step (n : Nat) (hn : n ≤ 16) (G : Option Addr) (gc : Nat) (E : Es) (hnd : E.Nodup) (hE : ∀ e ∈ E, 0 ≤ e.1 ∧ e.1 < e.2 ∧ e.2 < n) (hEl : E.length ≤ 1000) (base bN bP bL : Nat)
    (hG : 0 < E.length → ∀ k, blk G = some k → ¬ three bN bP bL k) (f : Nat) (ih : L4Ok n G gc E base bN bP bL f) (x p : Int) (s : DS) (w : World) (hs : DOk n s) (h0 : 0 ≤ x) (h1 : x < n) (hx : lk s.N x = 0) (hz : zeros s.N ≤ f + 1) (hp : p = -1 ∨ (0 ≤ p ∧ p < n ∧ lk s.N p ≠ 0))
    (hr : RS w base n bN bP bL s.N s.P s.L) (hg : EdgesAt w G E) :
    Calls Try.prog 109 #[.agg #[V n, .slice G E.length gc], V x, V p, .agg #[.slice (some ⟨bN, 0, none⟩) n n, .slice (some ⟨bP, 0, none⟩) n n, .slice (some ⟨bL, 0, none⟩) n n], V s.c] w (L4Went base n bN bP bL (dfs n E (f + 1) x p s) w) := by
  have hfk := fun k => dfsK_facts (p := p) (E := E) hs h0 h1 hx hz (k := k)
  have hk0 := dfsK_zero n E f x p s
  have hkall := fun k => dfsK_all n E f x p s (k := k)
  have hksuc := fun k y => dfsK_succ (n := n) (E := E) (f := f) (x := x) (p := p) (s := s) (k := k) (y := y)
  have hnb := fun w' (h : EdgesAt w' G E) => l1Next_c n G gc E x w' h (by omega) (by omega)
  have hnr := fun k y => next_range (n := n) (E := E) (x := x) (y := y) (k := k)
  have hnl : (nextL n E x).length ≤ n := by unfold nextL; exact Nat.le_trans (List.length_filter_le _ _) (by simp)
  have hc0 := hs.c0
  have hcz := hs.cz
  have hzp : 1 ≤ zeros s.N := by
    have := zeros_none (N := s.N) (x := x)
    refine Classical.byContradiction fun h => this (by omega) h0 (by rw [hs.ln]; exact h1) hx
  have hsum : IntKind.i64.wrap (s.c + 1) = s.c + 1 := IntWalk.i64_in _ (by omega)
  obtain ⟨xn, rfl⟩ := Int.eq_ofNat_of_zero_le h0
  have hxn : xn < n := by omega
  have Hih := Lib.hid ih
  have Hfk := Lib.hid hfk
  have Hk0 := Lib.hid hk0
  have Hkall := Lib.hid hkall
  have Hksuc := Lib.hid hksuc
  have Hnb := Lib.hid hnb
  have Hnr := Lib.hid hnr
  have Hg := Lib.hid hg
  have Hr := Lib.hid hr
  have HG := Lib.hid hG
  have Hp := Lib.hid hp
  have lnN : xn < s.N.length := by rw [hs.ln]; exact hxn
  have lnP : xn < s.P.length := by rw [hs.lp]; exact hxn
  have lnL : xn < s.L.length := by rw [hs.ll]; exact hxn
  obtain ⟨z1, z2, z3⟩ := hr.lt
  have ab := hr.ab
  have ac := hr.ac
  have bc := hr.bc
  have Hd1 := Lib.hid lnN
  have Hd2 := Lib.hid lnP
  have Hd3 := Lib.hid lnL
  clear ih hfk hk0 hkall hksuc hnb hnr hg hr hG hp hnd hE lnN lnP lnL hx hz hs h0 h1
  go_enter Try.func109, Try.ntmps109
  go_upto_region 2 with (fail)
  generalize hW1 : World.alloc _ _ = W1
  have gW1 : Nx w W1 := by subst hW1; exact (by repeat (first | exact Nx.refl _ | assumption | apply Nx.alloc | apply Nx.drew | apply Nx.drewN | (refine Nx.setCell ?_ (by first | (simp; done) | (simp; omega) | omega) _) | refine Nx.trans ?_ (by assumption)))
  have sW1 : W1.heap.size = w.heap.size + 3 := by subst hW1; simp
  have B : Bx W1 (w.heap.size) 26 [V n, .slice G E.length gc] := by subst hW1; have h := Bx.alloc w 26 [V n, .slice G E.length gc]; have h := h.nx (Nx.alloc (Nx.refl _) (.cells #[.slice (some ⟨bN, 0, none⟩) n n, .slice (some ⟨bP, 0, none⟩) n n, .slice (some ⟨bL, 0, none⟩) n n] 48)); have h := h.nx (Nx.alloc (Nx.refl _) (.cells #[.slice none 0 0, .slice none 0 0, .slice none 0 0] 48)); simpa using h
  have S : Bx W1 (w.heap.size + 1) 48 [.slice (some ⟨bN, 0, none⟩) n n, .slice (some ⟨bP, 0, none⟩) n n, .slice (some ⟨bL, 0, none⟩) n n] := by subst hW1; have h := Bx.alloc (w.alloc (.cells #[V n, .slice G E.length gc] 26)) 48 [.slice (some ⟨bN, 0, none⟩) n n, .slice (some ⟨bP, 0, none⟩) n n, .slice (some ⟨bL, 0, none⟩) n n]; have h := h.nx (Nx.alloc (Nx.refl _) (.cells #[.slice none 0 0, .slice none 0 0, .slice none 0 0] 48)); simpa using h
  have O : Bx W1 (w.heap.size + 2) 48 [.slice none 0 0, .slice none 0 0, .slice none 0 0] := by subst hW1; have h := Bx.alloc ((w.alloc (.cells #[V n, .slice G E.length gc] 26)).alloc (.cells #[.slice (some ⟨bN, 0, none⟩) n n, .slice (some ⟨bP, 0, none⟩) n n, .slice (some ⟨bL, 0, none⟩) n n] 48)) 48 [.slice none 0 0, .slice none 0 0, .slice none 0 0]; simpa using h
  have B_0 := B.cell (j := 0) rfl
  have B_1 := B.cell (j := 1) rfl
  have B_z := B.lt
  have S_0 := S.cell (j := 0) rfl
  have S_1 := S.cell (j := 1) rfl
  have S_2 := S.cell (j := 2) rfl
  have S_z := S.lt
  have O_0 := O.cell (j := 0) rfl
  have O_1 := O.cell (j := 1) rfl
  have O_2 := O.cell (j := 2) rfl
  have O_z := O.lt
  have HsW1 := Lib.hid sW1
  have lW1 : w.heap.size + 3 ≤ W1.heap.size := by omega
  clear hW1 sW1
  have r1 := Hr.out.nx gW1
  have p1 := r1.a.lkc Hd1.out
  have f1 := r1.a.free
  generalize lk s.N (xn : Int) = l1 at p1
  have R1 := Lib.hid r1
  clear r1
  go_upto_region 3 with (fail)
  generalize hW2 : World.setCell W1 _ _ = W2
  have r2 : RS W2 base n bN bP bL (s.N.set xn (s.c + 1)) s.P s.L := by subst hW2; exact R1.out.setN xn (s.c + 1)
  have x2 : Gx (three bN bP bL) W1 W2 := by subst hW2; exact (Gx.refl _ _).setCell (.inl (.inl rfl)) _ _
  replace B := x2.bx B (fun h => by unfold three at h; omega)
  replace S := x2.bx S (fun h => by unfold three at h; omega)
  replace O := x2.bx O (fun h => by unfold three at h; omega)
  clear hW2 p1 f1 R1 B_0 B_1 B_z S_0 S_1 S_2 S_z O_0 O_1 O_2 O_z
  have S_0 := S.cell (j := 0) rfl
  have S_1 := S.cell (j := 1) rfl
  have S_2 := S.cell (j := 2) rfl
  have p1 := r2.c.lkc Hd3.out
  have f1 := r2.c.free
  generalize lk s.L (xn : Int) = l3 at p1
  have R2 := Lib.hid r2
  clear r2
  go_upto_region 4 with (fail)
  generalize hW3 : World.setCell W2 _ _ = W3
  have r3 : RS W3 base n bN bP bL (s.N.set xn (s.c + 1)) s.P (s.L.set xn (s.c + 1)) := by subst hW3; exact R2.out.setL xn (s.c + 1)
  have x3 : Gx (three bN bP bL) W1 W3 := by subst hW3; exact x2.setCell (.inl (.inr (.inr rfl))) _ _
  have y3 : Gx (three bN bP bL) W2 W3 := by subst hW3; exact (Gx.refl _ _).setCell (.inl (.inr (.inr rfl))) _ _
  have z2 := x2.size
  replace B := y3.bx B (fun h => by unfold three at h; omega)
  replace S := y3.bx S (fun h => by unfold three at h; omega)
  replace O := y3.bx O (fun h => by unfold three at h; omega)
  clear hW3 p1 f1 R2 y3 x2 S_0 S_1 S_2
  have S_0 := S.cell (j := 0) rfl
  have S_1 := S.cell (j := 1) rfl
  have S_2 := S.cell (j := 2) rfl
  have p1 := r3.b.lkc Hd2.out
  have f1 := r3.b.free
  generalize lk s.P (xn : Int) = l2 at p1
  have R3 := Lib.hid r3
  clear r3
  go_upto_region 5 with (fail)
  generalize hW4 : World.setCell W3 _ _ = W4
  have r4 : RS W4 base n bN bP bL (s.N.set xn (s.c + 1)) (s.P.set xn p) (s.L.set xn (s.c + 1)) := by subst hW4; exact R3.out.setP xn p
  have x4 : Gx (three bN bP bL) W1 W4 := by subst hW4; exact x3.setCell (.inl (.inr (.inl rfl))) _ _
  have y4 : Gx (three bN bP bL) W3 W4 := by subst hW4; exact (Gx.refl _ _).setCell (.inl (.inr (.inl rfl))) _ _
  replace B := y4.bx B (fun h => by unfold three at h; omega)
  replace S := y4.bx S (fun h => by unfold three at h; omega)
  replace O := y4.bx O (fun h => by unfold three at h; omega)
  have hg4 := x4.edgesL (Hg.out.nx gW1) HG.out
  have hgw4 : Gx (three bN bP bL) w W4 := ((Gx.refl _ _).nx gW1).trans x4
  have z4 := x4.size
  clear hW4 p1 f1 R3 y4 x3 x4 S_0 S_1 S_2
  have B_0 := B.cell (j := 0) rfl
  have B_1 := B.cell (j := 1) rfl
  go_wp2_with fail
  refine (Hnb.out _ hg4).mono ?_
  rintro e w5 ⟨NA, nc, rfl, ho5, hn5⟩
  have hB5 := B.nx hn5
  have hS5 := S.nx hn5
  have hO5 := O.nx hn5
  have hg5 := hg4.nx hn5
  have R5 := r4.nx hn5
  have z5 := hn5.size
  have hgw5 : Gx (three bN bP bL) w w5 := hgw4.nx hn5
  have hNlt := ho5.lt
  have hNA : ∀ k, blk NA = some k → ¬ (three bN bP bL k ∨ k = w.heap.size + 1) := fun k hk h => by have := (hNlt k hk).1; unfold three at h; omega
  have hNi := ho5.intsAt
  generalize nextL n E (xn : Int) = ns at *
  generalize dfsK n E f (xn : Int) p s = D at *
  have R5' : RS w5 base n bN bP bL (D 0).N (D 0).P (D 0).L := by rw [Hk0.out]; exact R5
  have c3 : (D 0).c = s.c + 1 := by rw [Hk0.out]; rfl
  have HB := Lib.hid hB5
  have HO := Lib.hid hO5
  have HS0 := Lib.hid hS5
  have Hge := Lib.hid hg5
  have Hgw := Lib.hid hgw5
  have HNA := Lib.hid hNA
  have HNi := Lib.hid hNi
  have HR := Lib.hid R5'
  have Hc3 := Lib.hid c3
  clear B S O hg4 hgw4 hB5 hS5 hO5 hg5 R5 R5' c3 hgw5 hNA hNi ho5 hNlt r4 B_0 B_1 hn5 gW1
  go_wp2
  go_loopg [4, 13] ns.length (fun gk c4 i wr => ∃ (k : Nat), k + gk = ns.length ∧ i = .int .i64 k ∧ c4 = V (D k).c ∧ RS wr base n bN bP bL (D k).N (D k).P (D k).L ∧ Gx (fun k => three bN bP bL k ∨ k = w.heap.size + 1) w5 wr ∧ Bx wr (w.heap.size + 1) 48 [.slice (some ⟨bN, 0, none⟩) n n, .slice (some ⟨bP, 0, none⟩) n n, .slice (some ⟨bL, 0, none⟩) n n])
  case atStart => exact ⟨0, by omega, rfl, by rw [Hc3.out], HR.out, Gx.refl _ _, HS0.out⟩
  case round =>
    obtain ⟨k, hk, rfl, rfl, R, Gg, S⟩ := hrel
    have hBk := Gg.bx HB.out (fun h => by unfold three at h; omega)
    have B_0 := hBk.cell (j := 0) rfl
    have B_1 := hBk.cell (j := 1) rfl
    have S_0 := S.cell (j := 0) rfl
    have S_1 := S.cell (j := 1) rfl
    have S_2 := S.cell (j := 2) rfl
    have S_z := S.lt
    by_cases hlt : k < ns.length
    · obtain ⟨y, hy⟩ : ∃ y, ns[k]? = some y := ⟨_, List.getElem?_eq_getElem hlt⟩
      obtain ⟨hy0, hy1⟩ := Hnr.out k y hy
      obtain ⟨ok, hz, hNx, hPx, hold⟩ := Hfk.out k (by omega)
      have hst := Hksuc.out k y hy
      have HNr := Gg.ints HNi.out HNA.out
      obtain ⟨bq, oq, hNe, hbq, q1⟩ := HNr.rd hy
      obtain ⟨yn, rfl⟩ := Int.eq_ofNat_of_zero_le hy0
      have hyn : yn < n := by omega
      obtain ⟨t, ht⟩ : ∃ t, D (k + 1) = t := ⟨_, rfl⟩
      rw [ht] at hst
      have Ht := Lib.hid ht
      clear ht
      generalize D k = sk at *
      have hbq2 : ¬ three bN bP bL bq ∧ bq ≠ w.heap.size + 1 := by
        have := HNA.out bq (by rw [hNe]; rfl)
        exact ⟨fun h => this (.inl h), fun h => this (.inr h)⟩
      have Hbq := Lib.hid hbq2
      subst hNe
      have lnN : yn < sk.N.length := by rw [ok.ln]; exact hyn
      have r1 := R.a.lkc lnN
      have HR := Lib.hid R
      have Hok := Lib.hid ok
      have HGg := Lib.hid Gg
      have HNx := Lib.hid hNx
      have HPx := Lib.hid hPx
      have Hold := Lib.hid hold
      have Hst := Lib.hid hst
      have HS := Lib.hid S
      have HBk := Lib.hid hBk
      have Hz := Lib.hid hz
      have hskc := ok.c0
      have hskz := ok.cz
      have hpN : Hid (p = -1 ∨ lk sk.N p ≠ 0) := Lib.hid (Hp.out.imp id (fun h => hold p h.1 h.2.1 h.2.2))
      clear R ok Gg hNx hPx hold hst lnN S hBk hz hy hy0 HNr hbq2
      go_upto_block 1 with (fail)
      go_cut [4] from 40 to 118 (fun s4 wc => s4 = V t.c ∧ RS wc base n bN bP bL t.N t.P t.L ∧ Gx (fun k => three bN bP bL k ∨ k = w.heap.size + 1) wr wc ∧ Bx wc (w.heap.size + 1) 48 [.slice (some ⟨bN, 0, none⟩) n n, .slice (some ⟨bP, 0, none⟩) n n, .slice (some ⟨bL, 0, none⟩) n n])
      case first =>
        by_cases hyp : (yn : Int) = p
        · have hb2 : ((yn : Int) == p) = true := by simpa using hyp
          have hstt : t = sk := by rw [Hst.out]; unfold dStep; rw [if_pos hyp]
          have Hstt := Lib.hid hstt
          clear hstt hyp
          go_wp2
          go_meet
          exact ⟨by rw [Hstt.out], by rw [Hstt.out]; exact HR.out, Gx.refl _ _, HS.out⟩
        · have hb2 : ((yn : Int) == p) = false := by simpa using hyp
          by_cases hN : lk sk.N (yn : Int) = 0
          · have hb : (lk sk.N (yn : Int) == 0) = true := by simpa using hN
            have hstt : t = ((dfs n E f yn xn sk).low xn (lk (dfs n E f yn xn sk).L yn)) := by rw [Hst.out]; unfold dStep; rw [if_neg hyp, if_pos hN]
            have hcall := fun w' h1 h2 => Hih.out (yn : Int) (xn : Int) sk w' Hok.out (by omega) (by omega) hN Hz.out (.inr ⟨by omega, by omega, by rw [HNx.out]; omega⟩) h1 h2
            have hw := dfs_went n E f yn xn sk Hok.out (by omega) (by omega) hN Hz.out
            have wok := hw.1.1
            generalize dfs n E f (yn : Int) (xn : Int) sk = t2 at *
            have Hcall := Lib.hid hcall
            have Hstt := Lib.hid hstt
            have lx : xn < t2.L.length := by rw [wok.ll]; exact hxn
            have ly : yn < t2.L.length := by rw [wok.ll]; exact hyn
            have Hlx := Lib.hid lx
            have Hly := Lib.hid ly
            have Hwok := Lib.hid wok
            clear hcall hstt hw wok lx ly hyp hN
            go_wp2_with fail
            go_quiet (fail)
            generalize hW6 : World.drewN wr _ = W6
            have n6 : Nx wr W6 := by subst hW6; exact Nx.drewN (.refl _) _
            have z6 := n6.size
            have Hn6 := Lib.hid n6
            have B6 := HBk.out.nx n6
            have S6 := HS.out.nx n6
            have b0 := B6.cell (j := 0) rfl
            have b1 := B6.cell (j := 1) rfl
            have s0 := S6.cell (j := 0) rfl
            have s1 := S6.cell (j := 1) rfl
            have s2 := S6.cell (j := 2) rfl
            have s_z := S6.lt
            have sf := S6.free
            have q6 := n6.cell hbq q1
            have hw6 : Gx (three bN bP bL) w W6 := (Hgw.out.fresh HGg.out (fun i h => h.elim .inl (fun e => .inr (by omega)))).nx n6
            have he6 := hw6.edgesL Hg.out HG.out
            have hR6 := HR.out.nx n6
            have HE6 := Lib.hid he6
            have HR6 := Lib.hid hR6
            have HB6 := Lib.hid B6
            have HS6 := Lib.hid S6
            clear hW6 q1 r1 B_0 B_1 S_0 S_1 S_2 S_z hw6 he6 hR6 B6 S6
            go_wp2_with fail
            have kp : ∀ w', Gx (fun k => three bN bP bL k ∨ k = w.heap.size + 1) W6 w' → Bx w' (w.heap.size + 1) 48 [.slice (some ⟨bN, 0, none⟩) n n, .slice (some ⟨bP, 0, none⟩) n n, .slice (some ⟨bL, 0, none⟩) n n] → (fun w_ => Gx (fun k => three bN bP bL k ∨ k = w.heap.size + 1) W6 w_ ∧ w_.cell? ⟨w.heap.size, 0, none⟩ = some (V n) ∧ w_.cell? ⟨w.heap.size, 1, none⟩ = some (.slice G E.length gc) ∧ w_.cell? ⟨w.heap.size + 1, 0, none⟩ = some (.slice (some ⟨bN, 0, none⟩) n n) ∧ w_.cell? ⟨w.heap.size + 1, 1, none⟩ = some (.slice (some ⟨bP, 0, none⟩) n n) ∧ w_.cell? ⟨w.heap.size + 1, 2, none⟩ = some (.slice (some ⟨bL, 0, none⟩) n n) ∧ w_.cell? ⟨bq, oq + k, none⟩ = some (V yn) ∧ w_.frozen? ⟨w.heap.size + 1, 0, none⟩ = false ∧ w_.frozen? ⟨w.heap.size + 1, 1, none⟩ = false ∧ w_.frozen? ⟨w.heap.size + 1, 2, none⟩ = false) w' := fun w' h hS => ⟨h, h.cell (by omega) (fun h => by unfold three at h; omega) b0, h.cell (by omega) (fun h => by unfold three at h; omega) b1, hS.cell (j := 0) rfl, hS.cell (j := 1) rfl, hS.cell (j := 2) rfl, h.cell (by omega) (fun e => e.elim Hbq.out.1 Hbq.out.2) q6, hS.free 0, hS.free 1, hS.free 2⟩
            have hdr : Gx (fun k => three bN bP bL k ∨ k = w.heap.size + 1) W6 W6.drew := (Gx.refl _ _).nx (.drew (.refl _))
            have hSd := HS6.out.nx (.drew (.refl W6))
            have Kp := Lib.hid kp
            have Hdr := Lib.hid hdr
            have HSd := Lib.hid hSd
            clear kp hdr hSd
            go_region_held3 (fun w_ => Gx (fun k => three bN bP bL k ∨ k = w.heap.size + 1) W6 w_ ∧ w_.cell? ⟨w.heap.size, 0, none⟩ = some (V n) ∧ w_.cell? ⟨w.heap.size, 1, none⟩ = some (.slice G E.length gc) ∧ w_.cell? ⟨w.heap.size + 1, 0, none⟩ = some (.slice (some ⟨bN, 0, none⟩) n n) ∧ w_.cell? ⟨w.heap.size + 1, 1, none⟩ = some (.slice (some ⟨bP, 0, none⟩) n n) ∧ w_.cell? ⟨w.heap.size + 1, 2, none⟩ = some (.slice (some ⟨bL, 0, none⟩) n n) ∧ w_.cell? ⟨bq, oq + k, none⟩ = some (V yn) ∧ w_.frozen? ⟨w.heap.size + 1, 0, none⟩ = false ∧ w_.frozen? ⟨w.heap.size + 1, 1, none⟩ = false ∧ w_.frozen? ⟨w.heap.size + 1, 2, none⟩ = false)
              (first | exact K8.out | exact Kp.out _ G8.out S8.out | exact Kp.out _ Hdr.out HSd.out)
              (first | (go_at_call 109; (with_reducible refine (Hcall.out _ (HR6.out.nx (by exact (by (repeat (first | exact Nx.refl _ | assumption | apply Nx.alloc | apply Nx.drew | apply Nx.drewN | (refine Nx.setCell ?_ (by first | (simp; done) | (simp; omega) | omega) _) | refine Nx.trans ?_ (by assumption))); done))) (HE6.out.nx (by exact (by (repeat (first | exact Nx.refl _ | assumption | apply Nx.alloc | apply Nx.drew | apply Nx.drewN | (refine Nx.setCell ?_ (by first | (simp; done) | (simp; omega) | omega) _) | refine Nx.trans ?_ (by assumption))); done)))).mono ?_); rintro e w8 ⟨rfl, R8', g8'⟩; have R8 := Lib.hid R8'; have g8 : Gx (fun k => three bN bP bL k ∨ k = w.heap.size + 1) W6 w8 := ((Gx.refl _ _).nx (by exact (by (repeat (first | exact Nx.refl _ | assumption | apply Nx.alloc | apply Nx.drew | apply Nx.drewN | (refine Nx.setCell ?_ (by first | (simp; done) | (simp; omega) | omega) _) | refine Nx.trans ?_ (by assumption))); done))).fresh g8' (fun i h => .inl (.inl h)); have G8 := Lib.hid g8; have S8 : Hid (Bx w8 (w.heap.size + 1) 48 [.slice (some ⟨bN, 0, none⟩) n n, .slice (some ⟨bP, 0, none⟩) n n, .slice (some ⟨bL, 0, none⟩) n n]) := Lib.hid (g8'.bx (HS6.out.nx (by exact (by (repeat (first | exact Nx.refl _ | assumption | apply Nx.alloc | apply Nx.drew | apply Nx.drewN | (refine Nx.setCell ?_ (by first | (simp; done) | (simp; omega) | omega) _) | refine Nx.trans ?_ (by assumption))); done))) (fun h => by unfold three at h; omega)); have K8 : Hid ((fun w_ => Gx (fun k => three bN bP bL k ∨ k = w.heap.size + 1) W6 w_ ∧ w_.cell? ⟨w.heap.size, 0, none⟩ = some (V n) ∧ w_.cell? ⟨w.heap.size, 1, none⟩ = some (.slice G E.length gc) ∧ w_.cell? ⟨w.heap.size + 1, 0, none⟩ = some (.slice (some ⟨bN, 0, none⟩) n n) ∧ w_.cell? ⟨w.heap.size + 1, 1, none⟩ = some (.slice (some ⟨bP, 0, none⟩) n n) ∧ w_.cell? ⟨w.heap.size + 1, 2, none⟩ = some (.slice (some ⟨bL, 0, none⟩) n n) ∧ w_.cell? ⟨bq, oq + k, none⟩ = some (V yn) ∧ w_.frozen? ⟨w.heap.size + 1, 0, none⟩ = false ∧ w_.frozen? ⟨w.heap.size + 1, 1, none⟩ = false ∧ w_.frozen? ⟨w.heap.size + 1, 2, none⟩ = false) (((w8.setCell ⟨w.heap.size + 1, 0, none⟩ (.slice (some ⟨bN, 0, none⟩) n n)).setCell ⟨w.heap.size + 1, 1, none⟩ (.slice (some ⟨bP, 0, none⟩) n n)).setCell ⟨w.heap.size + 1, 2, none⟩ (.slice (some ⟨bL, 0, none⟩) n n))) := Lib.hid (Kp.out _ (((g8.setCell (.inl (.inr rfl)) _ _).setCell (.inl (.inr rfl)) _ _).setCell (.inl (.inr rfl)) _ _) (by have := ((S8.out.set (j := 0) (.slice (some ⟨bN, 0, none⟩) n n)).set (j := 1) (.slice (some ⟨bP, 0, none⟩) n n)).set (j := 2) (.slice (some ⟨bL, 0, none⟩) n n); simpa using this)); clear R8' g8' g8))
            obtain ⟨x9, _, _, _, _, _, q9, _, _, _⟩ := K8.out
            have hsb : ¬ three bN bP bL (w.heap.size + 1) := fun h => by unfold three at h; omega
            have R9 := ((R8.out.other hsb 0 (.slice (some ⟨bN, 0, none⟩) n n)).other hsb 1 (.slice (some ⟨bP, 0, none⟩) n n)).other hsb 2 (.slice (some ⟨bL, 0, none⟩) n n)
            have S9 := ((S8.out.set (j := 0) (.slice (some ⟨bN, 0, none⟩) n n)).set (j := 1) (.slice (some ⟨bP, 0, none⟩) n n)).set (j := 2) (.slice (some ⟨bL, 0, none⟩) n n)
            simp only [List.set_cons_zero, List.set_cons_succ] at S9
            generalize World.setCell (World.setCell (World.setCell w8 _ _) _ _) _ _ = W9 at *
            have p1 := R9.c.lkc Hlx.out
            have p2 := R9.c.lkc Hly.out
            have s2 := S9.cell (j := 2) rfl
            have f9 := R9.c.free
            have X9 : Gx (fun k => three bN bP bL k ∨ k = w.heap.size + 1) wr W9 := (Gx.nx (Gx.refl _ _) Hn6.out).trans x9
            have HX9 := Lib.hid X9
            have HR9 := Lib.hid R9
            have HS9 := Lib.hid S9
            clear K8 S8 R8 G8 x9 R9 S9 X9 b0 b1 s0 s1 q6 sf s_z Kp
            obtain ⟨v1, hv1⟩ : ∃ v, lk t2.L (xn : Int) = v := ⟨_, rfl⟩
            obtain ⟨v2, hv2⟩ : ∃ v, lk t2.L (yn : Int) = v := ⟨_, rfl⟩
            rw [hv1] at p1
            rw [hv2] at p2
            have Hv1 := Lib.hid hv1
            have Hv2 := Lib.hid hv2
            clear hv1 hv2
            go_upto_region 12 with (fail)
            have Q9 : bq < W9.heap.size := Nat.lt_of_lt_of_le hbq HX9.out.size
            have P1 := HR9.out.lt.2.2
            have P2 := HR9.out.lt.2.2
            by_cases hl : v2 < v1
            · have hbl : decide (v2 < v1) = true := by simpa using hl
              have hstt : t = ⟨t2.N, t2.P, t2.L.set xn v2, t2.c⟩ := by rw [Hstt.out, Hv2.out]; exact low_yes (by rw [Hv1.out]; exact hl)
              have Hst2 := Lib.hid hstt
              clear hstt hl
              go_quiet (fail)
              generalize hW7 : World.drewN W9 _ = W7
              have n7 : Nx W9 W7 := by subst hW7; exact Nx.drewN (.refl _) _
              have R7 := HR9.out.nx n7
              have S7 := HS9.out.nx n7
              have X7 := HX9.out.nx n7
              have s0' := S7.cell (j := 0) rfl
              have s2' := S7.cell (j := 2) rfl
              have q7 := n7.cell Q9 q9
              have p1' := n7.cell P1 p1
              have p2' := n7.cell P2 p2
              have f7 := R7.c.free
              have HR7 := Lib.hid R7
              have HS7 := Lib.hid S7
              have HX7 := Lib.hid X7
              clear hW7 n7 R7 S7 X7 p1 p2 q9
              go_upto_region 13 with (fail)
              go_big_region
              go_wp2
              go_meet
              refine ⟨by rw [Hst2.out], ?_, ?_, ?_⟩
              · rw [Hst2.out]; exact (HR7.out.setL xn v2).nx (.drew (.refl _))
              · exact (HX7.out.setCell (.inl (.inl (.inr (.inr rfl)))) _ _).nx (.drew (.refl _))
              · have hne : bL ≠ w.heap.size + 1 := by omega
                exact (HS7.out.far (p := ⟨bL, xn, none⟩) hne _).nx (.drew (.refl _))
            · have hbl : decide (v2 < v1) = false := by simpa using hl
              have hstt : t = t2 := by rw [Hstt.out, Hv2.out]; exact low_no Hlx.out (by rw [Hv1.out]; exact hl)
              have Hst2 := Lib.hid hstt
              clear hstt hl
              go_quiet (fail)
              go_wp2
              go_meet
              exact ⟨by rw [Hst2.out], by rw [Hst2.out]; exact HR9.out.nx (Nx.drewN (.refl _) _), HX9.out.nx (Nx.drewN (.refl _) _), HS9.out.nx (Nx.drewN (.refl _) _)⟩
          · skip
            have hb : (lk sk.N (yn : Int) == 0) = false := by simpa using hN
            have hstt : t = sk.low xn (lk sk.N yn) := by rw [Hst.out]; unfold dStep; rw [if_neg hyp, if_neg hN]
            have Hstt := Lib.hid hstt
            have lx : xn < sk.L.length := by rw [Hok.out.ll]; exact hxn
            have Hlx := Lib.hid lx
            clear hstt hyp hN
            go_wp2_with fail
            go_quiet (fail)
            generalize hW9 : World.drewN wr _ = W9
            have n9 : Nx wr W9 := by subst hW9; exact Nx.drewN (.refl _) _
            have HX9 : Hid (Gx (fun k => three bN bP bL k ∨ k = w.heap.size + 1) wr W9) := Lib.hid ((Gx.refl _ _).nx n9)
            have HR9 := Lib.hid (HR.out.nx n9)
            have HS9 := Lib.hid (HS.out.nx n9)
            have s0 := HS9.out.cell (j := 0) rfl
            have s2 := HS9.out.cell (j := 2) rfl
            have q9 := n9.cell hbq q1
            have p1 := HR9.out.c.lkc Hlx.out
            have p2 := n9.cell HR.out.lt.1 r1
            obtain ⟨v1, hv1⟩ : ∃ v, lk sk.L (xn : Int) = v := ⟨_, rfl⟩
            obtain ⟨v2, hv2⟩ : ∃ v, lk sk.N (yn : Int) = v := ⟨_, rfl⟩
            rw [hv1] at p1
            rw [hv2] at p2 hb
            have Hv1 := Lib.hid hv1
            have Hv2 := Lib.hid hv2
            clear hv1 hv2 hW9 n9 q1 r1 S_0 S_1 S_2 B_0 B_1
            have Q9 : bq < W9.heap.size := Nat.lt_of_lt_of_le hbq HX9.out.size
            have P1 := HR9.out.lt.2.2
            have P2 := HR9.out.lt.1
            go_upto_region 14 with (fail)
            by_cases hl : v2 < v1
            · have hbl : decide (v2 < v1) = true := by simpa using hl
              have hstt : t = ⟨sk.N, sk.P, sk.L.set xn v2, sk.c⟩ := by rw [Hstt.out, Hv2.out]; exact low_yes (by rw [Hv1.out]; exact hl)
              have Hst2 := Lib.hid hstt
              clear hstt hl
              go_quiet (fail)
              generalize hW7 : World.drewN W9 _ = W7
              have n7 : Nx W9 W7 := by subst hW7; exact Nx.drewN (.refl _) _
              have R7 := HR9.out.nx n7
              have S7 := HS9.out.nx n7
              have X7 := HX9.out.nx n7
              have s0' := S7.cell (j := 0) rfl
              have s2' := S7.cell (j := 2) rfl
              have q7 := n7.cell Q9 q9
              have p1' := n7.cell P1 p1
              have p2' := n7.cell P2 p2
              have f7 := R7.c.free
              have HR7 := Lib.hid R7
              have HS7 := Lib.hid S7
              have HX7 := Lib.hid X7
              clear hW7 n7 R7 S7 X7 p1 p2 q9
              go_upto_region 15 with (fail)
              go_big_region
              go_wp2
              go_meet
              refine ⟨by rw [Hst2.out], ?_, ?_, ?_⟩
              · rw [Hst2.out]; exact (HR7.out.setL xn v2).nx (.drew (.refl _))
              · exact (HX7.out.setCell (.inl (.inl (.inr (.inr rfl)))) _ _).nx (.drew (.refl _))
              · have hne : bL ≠ w.heap.size + 1 := by omega
                exact (HS7.out.far (p := ⟨bL, xn, none⟩) hne _).nx (.drew (.refl _))
            · have hbl : decide (v2 < v1) = false := by simpa using hl
              have hstt : t = sk := by rw [Hstt.out, Hv2.out]; exact low_no Hlx.out (by rw [Hv1.out]; exact hl)
              have Hst2 := Lib.hid hstt
              clear hstt hl
              go_quiet (fail)
              go_wp2
              go_meet
              exact ⟨by rw [Hst2.out], by rw [Hst2.out]; exact HR9.out.nx (Nx.drewN (.refl _) _), HX9.out.nx (Nx.drewN (.refl _) _), HS9.out.nx (Nx.drewN (.refl _) _)⟩
      obtain ⟨rfl, R4, g4, S4⟩ := hcut
      clear q1 r1 B_0 B_1 S_0 S_1 S_2
      go_wp2
      go_roundg (gk - 1)
      case measure => omega
      case rel => exact ⟨k + 1, by omega, by go_num, by rw [Ht.out], by rw [Ht.out]; exact R4, HGg.out.trans g4, S4⟩
    · have hkl : k = ns.length := by omega
      have hall := Hkall.out k (by omega)
      rw [hall] at R ⊢
      have hO := Gg.bx HO.out (fun h => by unfold three at h; omega)
      have O_0 := hO.cell (j := 0) rfl
      have O_1 := hO.cell (j := 1) rfl
      have O_2 := hO.cell (j := 2) rfl
      have O_f := hO.free
      have O_z := hO.lt
      have HR := Lib.hid R
      have HGg := Lib.hid Gg
      have hso : ¬ three bN bP bL (w.heap.size + 2) := fun h => by unfold three at h; omega
      clear R Gg S hBk hO
      go_wp2
      refine bodyPost_ret (v := .tuple #[.agg #[.slice (some ⟨bN, 0, none⟩) n n, .slice (some ⟨bP, 0, none⟩) n n, .slice (some ⟨bL, 0, none⟩) n n], V (dfs n E (f + 1) (xn : Int) p s).c]) (by simp [results, Try.f109, go_sem, *]) rfl ?_
      exact ⟨rfl, ((HR.out.other hso _ _).other hso _ _).other hso _ _, (((Hgw.out.fresh HGg.out (fun i h => h.elim .inl (fun e => .inr (by omega)))).setCell (.inr (by omega)) _ _).setCell (.inr (by omega)) _ _).setCell (.inr (by omega)) _ _⟩
theorem l4_c (n : Nat) (hn : n ≤ 16) (G : Option Addr) (gc : Nat) (E : Es) (hnd : E.Nodup) (hE : ∀ e ∈ E, 0 ≤ e.1 ∧ e.1 < e.2 ∧ e.2 < n) (hEl : E.length ≤ 1000) (base bN bP bL : Nat)
    (hG : 0 < E.length → ∀ k, blk G = some k → ¬ three bN bP bL k) : ∀ f, L4Ok n G gc E base bN bP bL f
  | 0 => fun x p s w hs h0 h1 hx hz _ _ _ => absurd hx (zeros_none (by omega) h0 (by rw [hs.ln]; exact h1))
  | f + 1 => l4_step n hn G gc E hnd hE hEl base bN bP bL hG f (l4_c n hn G gc E hnd hE hEl base bN bP bL hG f)
end Go.Proofs.Ytjchabeiaajgiaa
