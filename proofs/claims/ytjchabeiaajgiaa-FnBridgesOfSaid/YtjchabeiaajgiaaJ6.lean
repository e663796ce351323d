/- Contracts: search, SearchOf of the program. -/
import Derived.Test.YtjchabeiaajgiaaJ4
import Derived.Test.YtjchabeiaajgiaaP3
import Derived.Deep.RegionHeld3
namespace Go.Proofs.Ytjchabeiaajgiaa
open Go.RowKit set_option linter.unusedVariables false set_option linter.unusedSimpArgs false

/-- a search's rows, own ones from base on, in blocks apart -/
def SeOwn (w : World) (base n : Nat) (s : DS) (A B C : Option Addr) : Prop := ∃ bN bP bL, A = some ⟨bN, 0, none⟩ ∧ B = some ⟨bP, 0, none⟩ ∧ C = some ⟨bL, 0, none⟩ ∧ RS w base n bN bP bL s.N s.P s.L

theorem own_made {X : World} {g base n : Nat} {t : TypeId} (h : X.heap[g]? = some (.cells (madeCells #[V 0] n) t)) (hb : base ≤ g) (hn : n ≤ 1048576) : OwnI X base t (some ⟨g, 0, none⟩) n (List.replicate n 0) := by
  have e : (madeCells #[V 0] n).toList = (List.replicate n (0 : Int)).map V := by
    have := toList_madeCells_one (V 0) n
    simpa using this
  refine ⟨by simp, .inr ⟨g, n, _, by rw [List.length_replicate], hb, h, by simp, by simp [maxLen]; omega, by simp [size_madeCells], ?_⟩⟩
  rw [List.take_of_length_le (by simp [size_madeCells]), e]
theorem four {W X : World} {a b c d : Obj} (h : World.alloc (World.alloc (World.alloc (World.alloc W a) b) c) d = X) : X.heap[W.heap.size]? = some a ∧ X.heap[W.heap.size + 1]? = some b ∧ X.heap[W.heap.size + 1 + 1]? = some c ∧ X.heap[W.heap.size + 1 + 1 + 1]? = some d ∧ Nx W X ∧ X.heap.size = W.heap.size + 4 := by
  have sz : ∀ (w : World) (o : Obj), (w.alloc o).heap.size = w.heap.size + 1 := fun w o => by simp
  have n3 : Nx (World.alloc (World.alloc (World.alloc W a) b) c) X := by subst h; exact .alloc (.refl _) _
  have n2 : Nx (World.alloc (World.alloc W a) b) X := (Nx.alloc (.refl _) c).trans n3
  have n1 : Nx (World.alloc W a) X := (Nx.alloc (.refl _) b).trans n2
  have n0 : Nx W X := (Nx.alloc (.refl _) a).trans n1
  have k0 := heap_alloc_new W a
  have k1 := heap_alloc_new (World.alloc W a) b
  have k2 := heap_alloc_new (World.alloc (World.alloc W a) b) c
  have k3 := heap_alloc_new (World.alloc (World.alloc (World.alloc W a) b) c) d
  rw [h] at k3
  simp only [sz] at k1 k2 k3
  refine ⟨(n1.block _ (by rw [sz]; omega)).trans k0, (n2.block _ (by rw [sz, sz]; omega)).trans k1, (n3.block _ (by rw [sz, sz, sz]; omega)).trans k2, k3, n0, ?_⟩
  rw [← h, sz, sz, sz, sz]
/-- the search's struct with its three rows new -/
def NewSe (W : World) (n : Nat) (s3 s4 : Value) (X : World) : Prop := ∃ b3 bN bP bL, s3 = .pointer (some ⟨b3, 0, none⟩) ∧ s4 = V 0 ∧ RS X W.heap.size n bN bP bL (dNew n).N (dNew n).P (dNew n).L ∧ W.heap.size ≤ b3 ∧ ¬ three bN bP bL b3 ∧ Bx X b3 48 [.slice (some ⟨bN, 0, none⟩) n n, .slice (some ⟨bP, 0, none⟩) n n, .slice (some ⟨bL, 0, none⟩) n n] ∧ Nx W X
theorem mk_search {W X : World} {g x y z n : Nat} (h : X.heap[g]? = some (.cells #[.slice (some ⟨x, 0, none⟩) n n, .slice (some ⟨y, 0, none⟩) n n, .slice (some ⟨z, 0, none⟩) n n] 48)) (hn : Nx W X) (h16 : n ≤ 16)
    (hx : X.heap[x]? = some (.cells (madeCells #[V 0] n) 3)) (hy : X.heap[y]? = some (.cells (madeCells #[V 0] n) 3)) (hz : X.heap[z]? = some (.cells (madeCells #[V 0] n) 3))
    (h0 : W.heap.size ≤ x ∧ W.heap.size ≤ y ∧ W.heap.size ≤ z ∧ W.heap.size ≤ g ∧ x ≠ y ∧ x ≠ z ∧ y ≠ z ∧ g ≠ x ∧ g ≠ y ∧ g ≠ z) : NewSe W n (.pointer (some ⟨g, 0, none⟩)) (V 0) X.drew := by
  obtain ⟨a1, a2, a3, a4, a5, a6, a7, a8, a9, a10⟩ := h0
  refine ⟨g, x, y, z, rfl, rfl, RS.nx (w := X) ⟨own_made hx a1 (by omega), own_made hy a2 (by omega), own_made hz a3 (by omega), a5, a6, a7⟩ (.drew (.refl _)), a4, ?_, Bx.nx (show Bx X _ _ _ from h) (.drew (.refl _)), hn.drew⟩
  unfold three; omega
set_option maxRecDepth 100000 in
set_option maxHeartbeats 4000000 in
theorem search_c (n : Nat) (hn16 : n ≤ 16) (G : Option Addr) (gc : Nat) (E : Es) (hnd : E.Nodup) (hE : ∀ e ∈ E, 0 ≤ e.1 ∧ e.1 < e.2 ∧ e.2 < n) (hEl : E.length ≤ 1000) (w : World) (hg : EdgesAt w G E) :
    Calls Try.prog 70 #[.agg #[V n, .slice G E.length gc]] w (fun e w' => ∃ bN bP bL, e = .returned (.agg #[.slice (some ⟨bN, 0, none⟩) n n, .slice (some ⟨bP, 0, none⟩) n n, .slice (some ⟨bL, 0, none⟩) n n]) ∧ RS w' w.heap.size n bN bP bL (dRunK n E n).N (dRunK n E n).P (dRunK n E n).L ∧ Nx w w') := by
  obtain ⟨i0, hi, hz0, hz1, hz2⟩ := info_parts infoI
  have hmk := run_make_rowN (P := Try.prog) 27 3 i0 _ Try.underlying27 hi hz0 .i64 .i64 n n (Nat.le_refl _) (by rw [hz2]; omega) (by omega)
  rw [hz1] at hmk
  clear hi hz0 hz1 hz2
  go_enter Try.func70, Try.ntmps70
  go_upto_region 1 with (fail)
  generalize hW1 : World.alloc _ _ = W1
  have gW1 : Nx w W1 := by subst hW1; exact (by repeat (first | exact Nx.refl _ | assumption | apply Nx.alloc | apply Nx.drew | apply Nx.drewN | (refine Nx.setCell ?_ (by first | (simp; done) | (simp; omega) | omega) _) | refine Nx.trans ?_ (by assumption)))
  have sW1 : W1.heap.size = w.heap.size + 2 := by subst hW1; simp
  have B : Bx W1 (w.heap.size) 26 [V n, .slice G E.length gc] := by subst hW1; have h := Bx.alloc w 26 [V n, .slice G E.length gc]; have h := h.nx (Nx.alloc (Nx.refl _) (.cells #[.slice none 0 0, .slice none 0 0, .slice none 0 0] 48)); simpa using h
  have O : Bx W1 (w.heap.size + 1) 48 [.slice none 0 0, .slice none 0 0, .slice none 0 0] := by subst hW1; have h := Bx.alloc (w.alloc (.cells #[V n, .slice G E.length gc] 26)) 48 [.slice none 0 0, .slice none 0 0, .slice none 0 0]; simpa using h
  have B_0 := B.cell (j := 0) rfl
  have B_1 := B.cell (j := 1) rfl
  have B_z := B.lt
  have O_0 := O.cell (j := 0) rfl
  have O_1 := O.cell (j := 1) rfl
  have O_2 := O.cell (j := 2) rfl
  have O_z := O.lt
  have HsW1 := Lib.hid sW1
  have lW1 : w.heap.size + 2 ≤ W1.heap.size := by omega
  clear hW1 sW1
  have e1 : w.heap.size < W1.heap.size + 1 := by omega
  have e2 : w.heap.size < W1.heap.size + 1 + 1 := by omega
  have e3 : w.heap.size < W1.heap.size + 1 + 1 + 1 := by omega
  have e5 : ¬ w.heap.size = W1.heap.size := by omega
  have e6 : ¬ w.heap.size = W1.heap.size + 1 := by omega
  have e7 : ¬ w.heap.size = W1.heap.size + 1 + 1 := by omega
  have e8 : ¬ w.heap.size = W1.heap.size + 1 + 1 + 1 := by omega
  go_cut [3, 4] from 6 to 15 (fun s3 s4 wc => NewSe W1 n s3 s4 wc)
  case first =>
    go_big_region
    all_goals
      go_wp2
      generalize hX : World.alloc (World.alloc (World.alloc (World.alloc W1 _) _) _) _ = X at *
      obtain ⟨h0, h1, h2, h3, hn, hs⟩ := four hX
      go_meet
      first
        | exact mk_search h0 hn hn16 (by first | exact h1 | exact h2 | exact h3) (by first | exact h1 | exact h2 | exact h3) (by first | exact h1 | exact h2 | exact h3) (by omega)
        | exact mk_search h1 hn hn16 (by first | exact h0 | exact h2 | exact h3) (by first | exact h0 | exact h2 | exact h3) (by first | exact h0 | exact h2 | exact h3) (by omega)
        | exact mk_search h2 hn hn16 (by first | exact h1 | exact h0 | exact h3) (by first | exact h1 | exact h0 | exact h3) (by first | exact h1 | exact h0 | exact h3) (by omega)
        | exact mk_search h3 hn hn16 (by first | exact h1 | exact h2 | exact h0) (by first | exact h1 | exact h2 | exact h0) (by first | exact h1 | exact h2 | exact h0) (by omega)
  obtain ⟨b3, bN, bP, bL, rfl, rfl, R, hb3, hn3, S, hnx⟩ := hcut
  obtain ⟨W2, hW2⟩ : ∃ v, v = wc := ⟨_, rfl⟩
  subst hW2
  have B2 := B.nx hnx
  have O2 := O.nx hnx
  have g2 := (hg.nx gW1).nx hnx
  have hgw : Nx w W2 := gW1.trans hnx
  have hlo : W1.heap.size ≤ bN := (R.a.lt _ rfl).1
  have hlo2 : W1.heap.size ≤ bP := (R.b.lt _ rfl).1
  have hlo3 : W1.heap.size ≤ bL := (R.c.lt _ rfl).1
  have z2 := hnx.size
  have hfind := fun x s w' h1 h2 h3 h4 h5 h6 h7 h8 => find_c n hn16 G gc E hnd hE hEl W1.heap.size b3 bN bP bL hn3 (fun h0 k hk h => by
    have := hg.low h0 k hk
    unfold three at h; omega) n x (-1) s w' h1 h2 h3 h4 h5 (.inl rfl) h6 h7 h8
  have hok := dRunK_ok n E
  have h0 := dRunK_zero n E
  have hs := dRunK_succ n E
  have R' : RS W2 W1.heap.size n bN bP bL (dRunK n E 0).N (dRunK n E 0).P (dRunK n E 0).L := R
  have c0 : (dRunK n E 0).c = 0 := rfl
  obtain ⟨D, hD⟩ : ∃ D, dRunK n E = D := ⟨_, rfl⟩
  rw [hD] at hok h0 hs R' c0
  have HD := Lib.hid hD
  clear hD
  have HR := Lib.hid R'
  have Hc0 := Lib.hid c0
  have HB := Lib.hid B2
  have HO := Lib.hid O2
  have HS := Lib.hid S
  have Hg := Lib.hid g2
  have Hgw := Lib.hid hgw
  have Hg0 := Lib.hid hg
  have Hfind := Lib.hid hfind
  have Hok := Lib.hid hok
  have Hs := Lib.hid hs
  have B_0 := B2.cell (j := 0) rfl
  clear B O B_1 B_z O_0 O_1 O_2 O_z R R' c0 B2 O2 S g2 hgw hfind hok h0 hs hmk hnx hg gW1 e1 e2 e3 e5 e6 e7 e8
  go_wp2
  go_loopg [4, 5, 18] n (fun gk c4 _ i wr => ∃ (k : Nat), k + gk = n ∧ i = .int .i64 k ∧ c4 = V (D k).c ∧ RS wr W1.heap.size n bN bP bL (D k).N (D k).P (D k).L ∧ Gx (three bN bP bL) W2 wr)
  case atStart => exact ⟨0, by omega, rfl, by rw [Hc0.out], HR.out, Gx.refl _ _⟩
  case round =>
    clear B_0
    obtain ⟨k, hk, rfl, rfl, R, Gg⟩ := hrel
    have S := Gg.bx HS.out hn3
    have S_0 := S.cell (j := 0) rfl
    have S_1 := S.cell (j := 1) rfl
    have S_2 := S.cell (j := 2) rfl
    by_cases hlt : k < n
    · have hB := Gg.bx HB.out (fun h => by unfold three at h; omega)
      have B_0 := hB.cell (j := 0) rfl
      have B_1 := hB.cell (j := 1) rfl
      have ok := Hok.out k (by omega)
      have hst := Hs.out k
      have lnN : k < (D k).N.length := by rw [ok.ln]; exact hlt
      have r1 := R.a.lkc lnN
      obtain ⟨t, ht⟩ : ∃ t, D (k + 1) = t := ⟨_, rfl⟩
      rw [ht] at hst
      have Ht := Lib.hid ht
      clear ht lnN
      generalize D k = sk at *
      by_cases hN : lk sk.N (k : Int) = 0
      · have hb : (lk sk.N (k : Int) == 0) = true := by simpa using hN
        rw [if_pos hN] at hst
        have Hst := Lib.hid hst
        have hcall := Hfind.out (k : Int) sk wr ok (by omega) (by omega) hN ok.zle R (Gg.edgesL Hg.out (fun h0 k hk h => by have := Hg0.out.low h0 k hk; unfold three at h; omega)) S
        have Hcall := Lib.hid hcall
        have HGg := Lib.hid Gg
        clear hst hN ok R Gg S hB hcall
        go_wp2_with fail
        refine Hcall.out.mono ?_
        rintro e w5 ⟨rfl, R5, g5⟩
        have HR5 := Lib.hid R5
        have Hg5 := Lib.hid g5
        clear R5 g5 r1 B_0 B_1 S_0 S_1 S_2
        go_wp2
        go_roundg (gk - 1)
        case measure => omega
        case rel => exact ⟨k + 1, by omega, by go_num, by rw [Ht.out, Hst.out], by rw [Ht.out, Hst.out]; exact HR5.out, HGg.out.trans Hg5.out⟩
      · have hb : (lk sk.N (k : Int) == 0) = false := by simpa using hN
        rw [if_neg hN] at hst
        have Hst := Lib.hid hst
        have HR := Lib.hid R
        have HGg := Lib.hid Gg
        clear hst hN ok R Gg S hB
        go_wp2
        go_roundg (gk - 1)
        case measure => omega
        case rel => exact ⟨k + 1, by omega, by go_num, by rw [Ht.out, Hst.out], by rw [Ht.out, Hst.out]; exact HR.out, HGg.out⟩
    · obtain rfl : k = n := by omega
      have hO := Gg.bx HO.out (fun h => by unfold three at h; omega)
      have O_0 := hO.cell (j := 0) rfl
      have O_1 := hO.cell (j := 1) rfl
      have O_2 := hO.cell (j := 2) rfl
      have O_f := hO.free
      have O_z := hO.lt
      have HR := Lib.hid R
      have HGg := Lib.hid Gg
      have hso : ¬ three bN bP bL (w.heap.size + 1) := fun h => by unfold three at h; omega
      clear R Gg S hO
      go_wp2
      refine bodyPost_ret (v := .agg #[.slice (some ⟨bN, 0, none⟩) k k, .slice (some ⟨bP, 0, none⟩) k k, .slice (some ⟨bL, 0, none⟩) k k]) (by simp [results, Try.f70, go_sem, *]) rfl ?_
      refine ⟨bN, bP, bL, rfl, ?_, ?_⟩
      · rw [HD.out]; exact (((HR.out.other hso 0 _).other hso 1 _).other hso 2 _).mono (show w.heap.size ≤ W1.heap.size by omega)
      · exact (((Gx.back HGg.out Hgw.out (fun k h => by unfold three at h; omega)).setCell (by first | (simp; done) | (simp; omega)) _).setCell (by first | (simp; done) | (simp; omega)) _).setCell (by first | (simp; done) | (simp; omega)) _
end Go.Proofs.Ytjchabeiaajgiaa
