/- Contract: blocks of the program. -/
import Derived.Test.YtjchabeiaajgiaaY4
namespace Go.Proofs.Ytjchabeiaajgiaa
open Go.RowKit set_option linter.unusedVariables false set_option linter.unusedSimpArgs false

theorem oth_ge {n : Nat} {e : Int × Int} (he : 0 ≤ e.1 ∧ e.1 < e.2 ∧ e.2 < n) (v : Int) (h : v = e.1 ∨ v = e.2) : 0 ≤ oth e v ∧ oth e v < n := by
  rcases oth_cases h he.2.1 with ⟨_, a⟩ | ⟨_, a⟩ <;> rw [a] <;> omega
/-- what the nodes of two edges are -/
theorem com_rng {n : Nat} {e f : Int × Int} (hne : e ≠ f) (he : 0 ≤ e.1 ∧ e.1 < e.2 ∧ e.2 < n) (hf : 0 ≤ f.1 ∧ f.1 < f.2 ∧ f.2 < n) {v x y : Int} (h : com e f = some (v, x, y)) : (0 ≤ x ∧ x < n) ∧ (0 ≤ y ∧ y < n) := by
  obtain ⟨h1, h2, h3, h4, h5, h6⟩ := oth_of_com hne ⟨he.1, he.2.1⟩ ⟨hf.1, hf.2.1⟩ h
  obtain ⟨g1, g2, g3, _⟩ := oth_of_com (Ne.symm hne) ⟨hf.1, hf.2.1⟩ ⟨he.1, he.2.1⟩ (com_symm hne ⟨he.1, he.2.1⟩ ⟨hf.1, hf.2.1⟩ h)
  exact ⟨by rw [h2]; exact oth_ge he v h1, by rw [h3]; exact oth_ge hf v g1⟩

set_option maxRecDepth 100000 in
set_option maxHeartbeats 8000000 in
theorem blocks_c (n : Nat) (A : Option Addr) (c : Nat) (es : List (Int × Int)) (w : World) (hx : EdgesAt w A es) (hl : es.length ≤ 40) (hcap : es.length ≤ c) (hn16 : n ≤ 16) (ho : EdOk n es) (hd : es.Nodup) :
    Calls Try.prog 96 #[.agg #[V n, .slice A es.length c]] w (RetI 3 (blkL n es) w) := by
  obtain ⟨i0, hi, hz0, hz1, hz2⟩ := info_parts infoI
  have Hi := Lib.hid hi
  have Hz0 := Lib.hid hz0
  have Hz1 := Lib.hid hz1
  have Hz2 := Lib.hid hz2
  clear hi hz0 hz1 hz2
  have HO := Lib.hid ho
  have HD := Lib.hid hd
  clear ho hd
  go_enter Try.func96, Try.ntmps96
  go_wp2
  generalize hW0 : World.alloc w _ = W0
  have gn0 : Nx w W0 := by subst hW0; exact (by repeat (first | exact Nx.refl _ | assumption | apply Nx.alloc | apply Nx.drew | apply Nx.drewN | (refine Nx.setCell ?_ (by first | (simp; done) | (simp; omega) | omega) _) | refine Nx.trans ?_ (by assumption)))
  have gs0 : w.heap.size < W0.heap.size := by subst hW0; simp
  have X0 : Bx W0 w.heap.size 26 [V n, .slice A es.length c] := by subst hW0; exact Bx.alloc w 26 [V n, .slice A es.length c]
  replace hx := hx.nx gn0
  have ho0 := OwnI.empty W0 W0.heap.size 3 (Nat.le_refl _)
  rw [show w.heap.size + 1 = W0.heap.size by subst hW0; simp]
  clear hW0
  have X0_0 := X0.cell (j := 0) rfl
  have X0_1 := X0.cell (j := 1) rfl
  have X0_z := X0.lt
  have XB := X0
  have hxB := hx
  go_loopg [3, 20] es.length (fun gk out i wr => ∃ (k : Nat) (A' : Option Addr) (c' : Nat), k + gk = es.length ∧ i = .int .i64 k ∧ out = .slice A' k c' ∧ OwnI wr W0.heap.size 3 A' c' (idL k) ∧ Nx W0 wr)
  case atStart => exact ⟨0, _, 0, by omega, rfl, rfl, ho0, (by repeat (first | exact Nx.refl _ | assumption | apply Nx.alloc | apply Nx.drew | apply Nx.drewN | (refine Nx.setCell ?_ (by first | (simp; done) | (simp; omega) | omega) _) | refine Nx.trans ?_ (by assumption)))⟩
  case round =>
    obtain ⟨k, A', c', hk, rfl, rfl, hown, hn⟩ := hrel
    by_cases hlt : k < es.length
    · go_wp2_with (at_builtin; go_must (refine appI (base := W0.heap.size) (t := 3) (idL k) wr.heap.size k rfl rfl Try.underlying27 Hi.out Hz0.out Hz1.out Hz2.out rfl (by rw [idL_length]; rfl) (hown.nx (by repeat (first | exact Nx.refl _ | assumption | apply Nx.alloc | apply Nx.drew | apply Nx.drewN | (refine Nx.setCell ?_ (by first | (simp; done) | (simp; omega) | omega) _) | refine Nx.trans ?_ (by assumption)))) rfl (by go_simp) (by rw [idL_length]; omega) (by have := hn.size; simp; omega) ?_; intro A2 c2 w2 hown2 hnx2 _ _))
      go_roundg (gk - 1)
      case measure => omega
      case rel => exact ⟨k + 1, A2, c2, by omega, by go_num, by simp [idL_length], by rw [idL_succ]; exact hown2, hnx2 W0 (Nat.le_refl _) (hn.alloc _)⟩
    · obtain rfl : k = es.length := by omega
      replace X0 := X0.nx hn
      replace X0_0 := X0.cell (j := 0) rfl
      replace X0_1 := X0.cell (j := 1) rfl
      replace X0_z := X0.lt
      have hx1 := hx.nx hn
      have hsz := hn.size
      have Hlab := Lib.hid (show IsLab es.length (cycE n es 0 0) (idL es.length) by rw [cycE_zero]; exact ⟨idL_lab0 _ _, by simp⟩)
      have Hown := Lib.hid hown
      have Hcap := Lib.hid hcap
      obtain ⟨m, hm⟩ : ∃ m, m = es.length := ⟨_, rfl⟩
      have Hm := Lib.hid hm
      have hm40 : m ≤ 40 := by omega
      have hmc : m ≤ c := by omega
      rw [← hm] at hl X0 X0_1 XB ⊢
      clear hown ho0 hlt hcap hm hk hx
      obtain ⟨w1, rfl⟩ : ∃ x : World, x = wr := ⟨_, rfl⟩
      go_wp2
      go_loopg [31] m (fun gk i wr2 => ∃ (I : Nat) (L : List Int), I + gk = m ∧ i = .int .i64 I ∧ OwnI wr2 W0.heap.size 3 A' c' L ∧ L.length = m ∧ IsLab es.length (cycE n es I 0) L ∧ Nx W0 wr2)
      case atStart => exact ⟨0, _, by omega, rfl, Hown.out, by rw [idL_length]; exact Hm.out.symm, Hlab.out, hn⟩
      case round =>
        clear Hlab Hown hn hsz X0 X0_0 X0_1 X0_z hx1
        obtain ⟨I, L, hI, rfl, hown, hLl, hlab, hn2⟩ := hrel
        obtain ⟨gko, rfl⟩ : ∃ g : Nat, g = gk := ⟨_, rfl⟩
        obtain ⟨w2, rfl⟩ : ∃ x : World, x = wr := ⟨_, rfl⟩
        have Hrow := Lib.hid (fun k (hk : blk A' = some k) => (hown.lt k hk).2)
        have X0 := XB.nx hn2
        have X0_0 := X0.cell (j := 0) rfl
        have X0_1 := X0.cell (j := 1) rfl
        have X0_z := X0.lt
        have hx2 := hxB.nx hn2
        have hsz2 := hn2.size
        have Hlab := Lib.hid hlab
        have Hown := Lib.hid hown
        have HLl := Lib.hid hLl
        clear hlab hown hLl
        by_cases hlt : I < m
        · obtain ⟨e, he⟩ : ∃ e, es[I]? = some e := ⟨_, List.getElem?_eq_getElem (by rw [← Hm.out]; exact hlt)⟩
          obtain ⟨b, off, hA, hb, h1, h2⟩ := hx2.rd he
          have heo := HO.out e (List.mem_of_getElem? he)
          obtain ⟨x, y⟩ := e
          have He := Lib.hid he
          have Heo := Lib.hid heo
          subst hA
          clear he heo
          have q1 : I ≤ c := by omega
          go_wp2_with fail
          generalize hW3 : World.alloc w2 _ = W3
          have gn3 : Nx w2 W3 := by subst hW3; exact (by repeat (first | exact Nx.refl _ | assumption | apply Nx.alloc | apply Nx.drew | apply Nx.drewN | (refine Nx.setCell ?_ (by first | (simp; done) | (simp; omega) | omega) _) | refine Nx.trans ?_ (by assumption)))
          have gs3 : W3.heap.size = w2.heap.size + 1 := by subst hW3; simp
          have X1 : Bx W3 w2.heap.size 36 [V x, V y] := by subst hW3; exact Bx.alloc w2 36 [V x, V y]
          clear hW3 h1 h2
          replace X0 := X0.nx gn3
          replace X0_0 := X0.cell (j := 0) rfl
          replace X0_1 := X0.cell (j := 1) rfl
          replace X0_z := X0.lt
          have X1_0 := X1.cell (j := 0) rfl
          have X1_1 := X1.cell (j := 1) rfl
          have X1_z := X1.lt
          have hx3 := hx2.nx gn3
          go_loopg [41] I (fun gk i wr4 => ∃ (K : Nat) (L : List Int), K + gk = I ∧ i = .int .i64 K ∧ OwnI wr4 W0.heap.size 3 A' c' L ∧ L.length = m ∧ IsLab es.length (cycE n es I K) L ∧ Nx W0 wr4 ∧ Bx wr4 w2.heap.size 36 [V x, V y])
          case atStart => exact ⟨0, L, by omega, rfl, Hown.out.nx gn3, HLl.out, Hlab.out, hn2.trans gn3, X1⟩
          case round =>
            clear Hlab Hown HLl X0 X0_0 X0_1 X0_z X1 X1_0 X1_1 X1_z hx3 hx2 hn2 hsz2 gn3 gs3
            obtain ⟨K, L, hK, rfl, hown, hLl, hlab, hn4, X1⟩ := hrel
            obtain ⟨gkm, rfl⟩ : ∃ g : Nat, g = gk := ⟨_, rfl⟩
            have X0 := XB.nx hn4
            have X0_0 := X0.cell (j := 0) rfl
            have X0_1 := X0.cell (j := 1) rfl
            have X0_z := X0.lt
            have X1_0 := X1.cell (j := 0) rfl
            have X1_1 := X1.cell (j := 1) rfl
            have X1_z := X1.lt
            have hx4 := hxB.nx hn4
            have hsz4 := hn4.size
            have Hlab := Lib.hid hlab
            have Hown := Lib.hid hown
            have HLl := Lib.hid hLl
            by_cases hlk : K < I
            · obtain ⟨f, hf⟩ : ∃ f, es[K]? = some f := ⟨_, List.getElem?_eq_getElem (by rw [← Hm.out]; omega)⟩
              obtain ⟨b', off', hA', hb', f1, f2⟩ := hx4.rd hf
              injection hA' with hA'
              injection hA' with hA1 hA2
              subst hA1 hA2
              have hfo := HO.out f (List.mem_of_getElem? hf)
              obtain ⟨u, v⟩ := f
              have hef : ((x, y) : Int × Int) ≠ (u, v) := fun h => by have := nodup_idx HD.out (h ▸ He.out) hf; omega
              have hst := cycE_step (n := n) He.out hf
              have hIl : I < L.length := by omega
              have hKl : K < L.length := by omega
              have la := get_of_lk hIl
              have lb := get_of_lk hKl
              have hinR := cycE_inR (n := n) (es := es) (I := I) (K := K) (by rw [← Hm.out]; omega) (by omega) (fun h => by rw [← Hm.out] at h; omega)
              obtain ⟨g, rfl, hg1, hg2⟩ := hown.at (by omega)
              have hgw : g < w2.heap.size := Hrow.out g rfl
              have r1 := hown.cell hIl
              have r2 := hown.cell hKl
              have r3 := hown.free
              have la' : L[I] = lk L I := by have := List.getElem?_eq_getElem hIl; rw [la] at this; exact (Option.some.inj this).symm
              have lb' : L[K] = lk L K := by have := List.getElem?_eq_getElem hKl; rw [lb] at this; exact (Option.some.inj this).symm
              rw [la'] at r1
              rw [lb'] at r2
              obtain ⟨p, hp⟩ : ∃ p, lk L I = p := ⟨_, rfl⟩
              obtain ⟨q, hq⟩ : ∃ q, lk L K = q := ⟨_, rfl⟩
              rw [hp] at r1
              rw [hq] at r2
              have Hp := Lib.hid hp
              have Hq := Lib.hid hq
              have Hst := Lib.hid hst
              have HinR := Lib.hid hinR
              have Hef := Lib.hid hef
              have Hfo := Lib.hid hfo
              clear hown hLl hlab hf hfo hef hst hinR la lb la' lb' hp hq
              rcases hcom : com (x, y) (u, v) with _ | ⟨v0, s, t⟩
              · have hcc : ∀ w, Calls Try.prog 135 #[Ed x y, Ed u v] w (RetV (.tuple #[V 0, V 0, V 0, .bool false]) w) := fun w => by have := common_c x y u v w; rwa [comV_none hcom] at this
                have Hcc := Lib.hid hcc
                have hsk : cycE n es I (K + 1) = cycE n es I K := by rw [Hst.out, cyc_none hcom]; simp
                have Hsk := Lib.hid hsk
                clear hcc hcom hsk
                go_wp2_with fail
                generalize hW5 : World.alloc _ _ = W5
                have gW5 : Nx wr W5 := by subst hW5; exact (by repeat (first | exact Nx.refl _ | assumption | apply Nx.alloc | apply Nx.drew | apply Nx.drewN | (refine Nx.setCell ?_ (by first | (simp; done) | (simp; omega) | omega) _) | refine Nx.trans ?_ (by assumption)))
                have sW5 : W5.heap.size = wr.heap.size + 1 := by subst hW5; simp
                have F : Bx W5 (wr.heap.size) 36 [V u, V v] := by subst hW5; have h := Bx.alloc wr 36 [V u, V v]; simpa using h
                have F_0 := F.cell (j := 0) rfl
                have F_1 := F.cell (j := 1) rfl
                have F_z := F.lt
                have HsW5 := Lib.hid sW5
                have lW5 : wr.heap.size + 1 ≤ W5.heap.size := by omega
                clear hW5 sW5
                replace X0 := X0.nx gW5
                replace X0_0 := X0.cell (j := 0) rfl
                replace X0_1 := X0.cell (j := 1) rfl
                replace X0_z := X0.lt
                replace X1 := X1.nx gW5
                replace X1_0 := X1.cell (j := 0) rfl
                replace X1_1 := X1.cell (j := 1) rfl
                replace X1_z := X1.lt
                replace r1 := gW5.cell hg2 r1
                replace r2 := gW5.cell hg2 r2
                have hz5 := gW5.size
                refine (Hcc.out _).mono ?_
                rintro e w6 ⟨rfl, hn6⟩
                replace X0 := X0.nx hn6
                replace X0_0 := X0.cell (j := 0) rfl
                replace X0_1 := X0.cell (j := 1) rfl
                replace X0_z := X0.lt
                replace X1 := X1.nx hn6
                replace X1_0 := X1.cell (j := 0) rfl
                replace X1_1 := X1.cell (j := 1) rfl
                replace X1_z := X1.lt
                replace F := F.nx hn6
                replace F_0 := F.cell (j := 0) rfl
                replace F_1 := F.cell (j := 1) rfl
                replace F_z := F.lt
                replace r1 := hn6.cell (by simp; omega) r1
                replace r2 := hn6.cell (by simp; omega) r2
                have hn56 := gW5.trans hn6
                go_wp2_with fail
                go_quiet (fail)
                go_wp2
                go_roundg (gkm - 1)
                case measure => omega
                case rel => exact ⟨K + 1, L, by omega, by go_num, (Hown.out.nx hn56).nx (.drewN (.refl _) _), HLl.out, by rw [Hsk.out]; exact Hlab.out, (hn4.trans hn56).drewN _, X1.nx (.drewN (.refl _) _)⟩
              · have hcc : ∀ w, Calls Try.prog 135 #[Ed x y, Ed u v] w (RetV (.tuple #[V v0, V s, V t, .bool true]) w) := fun w => by have := common_c x y u v w; rwa [comV_some hcom] at this
                have Hcc := Lib.hid hcc
                have hcy := cyc_some (n := n) (es := es) hcom
                have hrg := com_rng (n := n) Hef.out Heo.out Hfo.out hcom
                have Hcy := Lib.hid hcy
                have Hrg := Lib.hid hrg
                clear hcc hcom hcy hrg
                go_wp2_with fail
                generalize hW5 : World.alloc _ _ = W5
                have gW5 : Nx wr W5 := by subst hW5; exact (by repeat (first | exact Nx.refl _ | assumption | apply Nx.alloc | apply Nx.drew | apply Nx.drewN | (refine Nx.setCell ?_ (by first | (simp; done) | (simp; omega) | omega) _) | refine Nx.trans ?_ (by assumption)))
                have sW5 : W5.heap.size = wr.heap.size + 1 := by subst hW5; simp
                have F : Bx W5 (wr.heap.size) 36 [V u, V v] := by subst hW5; have h := Bx.alloc wr 36 [V u, V v]; simpa using h
                have F_0 := F.cell (j := 0) rfl
                have F_1 := F.cell (j := 1) rfl
                have F_z := F.lt
                have HsW5 := Lib.hid sW5
                have lW5 : wr.heap.size + 1 ≤ W5.heap.size := by omega
                clear hW5 sW5
                replace X0 := X0.nx gW5
                replace X0_0 := X0.cell (j := 0) rfl
                replace X0_1 := X0.cell (j := 1) rfl
                replace X0_z := X0.lt
                replace X1 := X1.nx gW5
                replace X1_0 := X1.cell (j := 0) rfl
                replace X1_1 := X1.cell (j := 1) rfl
                replace X1_z := X1.lt
                replace r1 := gW5.cell hg2 r1
                replace r2 := gW5.cell hg2 r2
                have hz5 := gW5.size
                refine (Hcc.out _).mono ?_
                rintro e w6 ⟨rfl, hn6⟩
                replace X0 := X0.nx hn6
                replace X0_0 := X0.cell (j := 0) rfl
                replace X0_1 := X0.cell (j := 1) rfl
                replace X0_z := X0.lt
                replace X1 := X1.nx hn6
                replace X1_0 := X1.cell (j := 0) rfl
                replace X1_1 := X1.cell (j := 1) rfl
                replace X1_z := X1.lt
                replace F := F.nx hn6
                replace F_0 := F.cell (j := 0) rfl
                replace F_1 := F.cell (j := 1) rfl
                replace F_z := F.lt
                replace r1 := hn6.cell (by simp; omega) r1
                replace r2 := hn6.cell (by simp; omega) r2
                have hn56 := gW5.trans hn6
                have hx6 := hx4.nx hn56
                have hz6 := hn6.size
                have Hg2 : g < w6.heap.size := by omega
                go_wp2_with fail
                by_cases hpq : (p == q) = true
                · go_quiet (fail)
                  go_wp2
                  go_roundg (gkm - 1)
                  case measure => omega
                  case rel =>
                    refine ⟨K + 1, L, by omega, by go_num, (Hown.out.nx hn56).nx (.drewN (.refl _) _), HLl.out, ?_, (hn4.trans hn56).drewN _, X1.nx (.drewN (.refl _) _)⟩
                    have hpq : p = q := by simpa using hpq
                    rw [Hst.out]
                    split
                    · exact Hlab.out.more (by simp only; rw [Hp.out, Hq.out, hpq])
                    · rw [List.append_nil]; exact Hlab.out
                · have hpq : (p == q) = false := by simpa using hpq
                  have HOr := Lib.hid (InR.sub HO.out.inR (aloneL_sub (es := es) (v := v0)))
                  have HOd := Lib.hid (fun e (he : e ∈ aloneL es v0) => by have := HO.out e (aloneL_sub e he); show e.1 ≠ e.2; omega)
                  have hol := aloneL_len es v0
                  have hol2 : (aloneL es v0).length ≤ m := by rw [Hm.out]; exact hol
                  have HmE := Lib.hid (show es.length ≤ 1048576 by rw [← Hm.out]; omega)
                  have hCutc := fun w' (h : EdgesAt w' (some ⟨b, off, none⟩) es) => cutNode_c n (some ⟨b, off, none⟩) c es v0 w' h HmE.out
                  rw [← Hm.out] at hCutc
                  have HCut := Lib.hid hCutc
                  clear hol hCutc
                  have kp : ∀ w', Nx w6 w' → Nx w6 w' ∧ w'.cell? ⟨w.heap.size, 0, none⟩ = some (V n) ∧ w'.cell? ⟨w.heap.size, 1, none⟩ = some (.slice (some ⟨b, off, none⟩) m c) ∧ w'.cell? ⟨g, I, none⟩ = some (V p) ∧ w'.cell? ⟨g, K, none⟩ = some (V q) := fun w' h => ⟨h, h.cell X0_z X0_0, h.cell X0_z X0_1, h.cell Hg2 r1, h.cell Hg2 r2⟩
                  have hdr : Nx w6 w6.drew := .drew (.refl _)
                  have hKm : K < m := by omega
                  go_region_held3 (fun w_ => Nx w6 w_ ∧ w_.cell? ⟨w.heap.size, 0, none⟩ = some (V n) ∧ w_.cell? ⟨w.heap.size, 1, none⟩ = some (.slice (some ⟨b, off, none⟩) m c) ∧ w_.cell? ⟨g, I, none⟩ = some (V p) ∧ w_.cell? ⟨g, K, none⟩ = some (V q))
                    (first | exact kp _ hdr | exact kp _ hn7 | exact kp _ hn8)
                    (first
                      | (go_at_call 128; (with_reducible refine (HCut.out _ (hx6.nx hdr)).mono ?_); rintro e w7 ⟨B, d, rfl, ho7, hn67⟩; have hn7 : Nx w6 w7 := hdr.trans hn67; have he7 := ho7.edgesAt)
                      | (go_at_call 65; (with_reducible refine (connected_c n B d (aloneL es v0) s t _ he7 (by omega) hn16 HOr.out HOd.out Hrg.out.1 Hrg.out.2).mono ?_); rintro e w8 ⟨rfl, hn78⟩; have hn8 : Nx w6 w8 := hn7.trans hn78))
                  clear kp hdr HCut he7 ho7
                  replace X0 := X0.nx hn8
                  replace X0_0 := X0.cell (j := 0) rfl
                  replace X0_1 := X0.cell (j := 1) rfl
                  replace X0_z := X0.lt
                  replace X1 := X1.nx hn8
                  replace X1_0 := X1.cell (j := 0) rfl
                  replace X1_1 := X1.cell (j := 1) rfl
                  replace X1_z := X1.lt
                  replace F := F.nx hn8
                  replace F_0 := F.cell (j := 0) rfl
                  replace F_1 := F.cell (j := 1) rfl
                  replace F_z := F.lt
                  have hn58 := hn56.trans hn8
                  have hown8 := Hown.out.nx hn58
                  clear r1 r2 r3
                  cases hb : connB n (aloneL es v0) s t with
                  | false =>
                    have Hb := Lib.hid hb
                    clear hb hown8
                    go_wp2
                    go_roundg (gkm - 1)
                    case measure => omega
                    case rel =>
                      refine ⟨K + 1, L, by omega, by go_num, Hown.out.nx hn58, HLl.out, ?_, hn4.trans hn58, X1⟩
                      rw [Hst.out, Hcy.out, Hb.out]
                      simp
                      exact Hlab.out
                  | true =>
                    have hIl : I < L.length := by have := HLl.out; omega
                    have hKl : K < L.length := by have := HLl.out; omega
                    have r1 := hown8.cell hIl
                    have r2 := hown8.cell hKl
                    have r3 := hown8.free
                    have hmer := Hlab.out.merge HinR.out (x := (I : Int)) (y := (K : Int)) (by have := Hm.out; omega) (by have := Hm.out; omega)
                    have la := get_of_lk hIl
                    have lb := get_of_lk hKl
                    have la' : L[I] = lk L I := by have := List.getElem?_eq_getElem hIl; rw [la] at this; exact (Option.some.inj this).symm
                    have lb' : L[K] = lk L K := by have := List.getElem?_eq_getElem hKl; rw [lb] at this; exact (Option.some.inj this).symm
                    rw [la', Hp.out] at r1
                    rw [lb', Hq.out] at r2
                    rw [Hp.out, Hq.out] at hmer
                    have hst2 : cycE n es I (K + 1) = cycE n es I K ++ [((I : Int), (K : Int))] := by rw [Hst.out, Hcy.out, hb]; simp
                    rw [← hst2] at hmer
                    have Hmer := Lib.hid hmer
                    have Hown8 := Lib.hid hown8
                    have hg8 : g < w8.heap.size := by have := hn8.size; omega
                    clear hb hst2 la lb la' lb' hown8 hmer hIl hKl
                    go_wp2_with fail
                    rcases Int.lt_or_lt_of_ne (show p ≠ q by simpa using hpq) with hlo | hlo
                    · rw [Int.max_eq_right (by omega : p ≤ q), Int.min_eq_left (by omega : p ≤ q)] at Hmer
                      go_quiet (fail)
                      have hn9 := hn58.drewN nq
                      have X19 := X1.nx (.drewN (.refl _) nq)
                      have Hown9 := Lib.hid (Hown8.out.nx (.drewN (.refl _) nq))
                      have hg9 : g < (w8.drewN nq).heap.size := hg8
                      generalize w8.drewN nq = w9 at *
                      have HLl2 : L.length ≤ m := by have := HLl.out; omega
                      have HLl3 : m ≤ L.length := by have := HLl.out; omega
                      clear r1 r2 r3 Hown Hown8 hg8
                      go_wp2
                      go_loopg [96] m (fun gk i wr => ∃ J : Nat, J + gk = m ∧ i = .int .i64 J ∧ OwnI wr W0.heap.size 3 (some ⟨g, 0, none⟩) c' (mixL (low1 q p) L J) ∧ Gx (fun k => k = g) w9 wr)
                      case atStart => exact ⟨0, by omega, rfl, by rw [mixL_zero]; exact Hown9.out, Gx.refl _ _⟩
                      case round =>
                        obtain ⟨J, hJ, rfl, hownJ, hnJ⟩ := hrel
                        by_cases hltJ : J < m
                        · have hLJ : L[J]? = some L[J] := List.getElem?_eq_getElem (by omega)
                          have hmx := mixL_get (f := low1 q p) hLJ
                          have hset := mixL_set (f := low1 q p) hLJ
                          have hkeep := mixL_keep (f := low1 q p) hLJ
                          have hlJ : J < (mixL (low1 q p) L J).length := (List.getElem?_eq_some_iff.1 hmx).1
                          have s1 := hownJ.cell hlJ
                          have s3 := hownJ.free
                          have hmx2 := (List.getElem?_eq_some_iff.1 hmx).2
                          rw [hmx2] at s1
                          have hlen : (mixL (low1 q p) L J).length = m := by rw [mixL_length]; exact HLl.out
                          have hgJ : g < wr.heap.size := Nat.lt_of_lt_of_le hg9 hnJ.size
                          generalize L[J] = z at *
                          have Hset := Lib.hid hset
                          have Hkeep := Lib.hid hkeep
                          have HownJ := Lib.hid hownJ
                          clear hset hkeep hLJ hmx hmx2 hownJ hlen hlJ
                          by_cases hz : (z == q) = true
                          · go_wp2
                            go_roundg (gk - 1)
                            case measure => omega
                            case rel =>
                              refine ⟨J + 1, by omega, by go_num, ?_, hnJ.setCell (.inl rfl) _ _⟩
                              have e : low1 q p z = p := by simp at hz; simp [low1, hz]
                              rw [← Hset.out, e]
                              exact HownJ.out.set J p
                          · have hz : (z == q) = false := by simpa using hz
                            go_wp2
                            go_roundg (gk - 1)
                            case measure => omega
                            case rel =>
                              refine ⟨J + 1, by omega, by go_num, ?_, hnJ⟩
                              have e : low1 q p z = z := by simp at hz; simp [low1, hz]
                              rw [Hkeep.out e]
                              exact HownJ.out
                        · go_wp2
                          go_roundg (gkm - 1)
                          case measure => omega
                          case rel =>
                            have hJm : J = L.length := by omega
                            rw [hJm, mixL_all] at hownJ
                            exact ⟨K + 1, _, by omega, by go_num, hownJ, by rw [List.length_map]; exact HLl.out, Hmer.out, hnJ.back (hn4.trans hn9) (fun k hk => by omega), hnJ.bx X19 (by omega)⟩
                    · rw [Int.max_eq_left (by omega : q ≤ p), Int.min_eq_right (by omega : q ≤ p)] at Hmer
                      go_quiet (fail)
                      have hn9 := hn58.drewN nq
                      have X19 := X1.nx (.drewN (.refl _) nq)
                      have Hown9 := Lib.hid (Hown8.out.nx (.drewN (.refl _) nq))
                      have hg9 : g < (w8.drewN nq).heap.size := hg8
                      generalize w8.drewN nq = w9 at *
                      have HLl2 : L.length ≤ m := by have := HLl.out; omega
                      have HLl3 : m ≤ L.length := by have := HLl.out; omega
                      clear r1 r2 r3 Hown Hown8 hg8
                      go_wp2
                      go_loopg [96] m (fun gk i wr => ∃ J : Nat, J + gk = m ∧ i = .int .i64 J ∧ OwnI wr W0.heap.size 3 (some ⟨g, 0, none⟩) c' (mixL (low1 p q) L J) ∧ Gx (fun k => k = g) w9 wr)
                      case atStart => exact ⟨0, by omega, rfl, by rw [mixL_zero]; exact Hown9.out, Gx.refl _ _⟩
                      case round =>
                        obtain ⟨J, hJ, rfl, hownJ, hnJ⟩ := hrel
                        by_cases hltJ : J < m
                        · have hLJ : L[J]? = some L[J] := List.getElem?_eq_getElem (by omega)
                          have hmx := mixL_get (f := low1 p q) hLJ
                          have hset := mixL_set (f := low1 p q) hLJ
                          have hkeep := mixL_keep (f := low1 p q) hLJ
                          have hlJ : J < (mixL (low1 p q) L J).length := (List.getElem?_eq_some_iff.1 hmx).1
                          have s1 := hownJ.cell hlJ
                          have s3 := hownJ.free
                          have hmx2 := (List.getElem?_eq_some_iff.1 hmx).2
                          rw [hmx2] at s1
                          have hlen : (mixL (low1 p q) L J).length = m := by rw [mixL_length]; exact HLl.out
                          have hgJ : g < wr.heap.size := Nat.lt_of_lt_of_le hg9 hnJ.size
                          generalize L[J] = z at *
                          have Hset := Lib.hid hset
                          have Hkeep := Lib.hid hkeep
                          have HownJ := Lib.hid hownJ
                          clear hset hkeep hLJ hmx hmx2 hownJ hlen hlJ
                          by_cases hz : (z == p) = true
                          · go_wp2
                            go_roundg (gk - 1)
                            case measure => omega
                            case rel =>
                              refine ⟨J + 1, by omega, by go_num, ?_, hnJ.setCell (.inl rfl) _ _⟩
                              have e : low1 p q z = q := by simp at hz; simp [low1, hz]
                              rw [← Hset.out, e]
                              exact HownJ.out.set J q
                          · have hz : (z == p) = false := by simpa using hz
                            go_wp2
                            go_roundg (gk - 1)
                            case measure => omega
                            case rel =>
                              refine ⟨J + 1, by omega, by go_num, ?_, hnJ⟩
                              have e : low1 p q z = z := by simp at hz; simp [low1, hz]
                              rw [Hkeep.out e]
                              exact HownJ.out
                        · go_wp2
                          go_roundg (gkm - 1)
                          case measure => omega
                          case rel =>
                            have hJm : J = L.length := by omega
                            rw [hJm, mixL_all] at hownJ
                            exact ⟨K + 1, _, by omega, by go_num, hownJ, by rw [List.length_map]; exact HLl.out, Hmer.out, hnJ.back (hn4.trans hn9) (fun k hk => by omega), hnJ.bx X19 (by omega)⟩
            · go_wp2
              go_roundg (gko - 1)
              case measure => omega
              case rel =>
                have hKI : K = I := by omega
                subst hKI
                exact ⟨K + 1, L, by omega, by go_num, hown, hLl, by rw [cycE_next]; exact hlab, hn4⟩
        · go_wp2
          go_ret
          have hIm : I = m := by omega
          have hL : blkL n es = L := by
            have h := Hlab.out
            rw [hIm, Hm.out] at h
            exact labels_eq h (cycA_inR n es)
          refine ⟨A', c', ?_, ?_, gn0.trans hn2⟩
          · rw [hL, HLl.out]; rfl
          · rw [hL]; exact Hown.out.mono (by omega)
end Go.Proofs.Ytjchabeiaajgiaa
