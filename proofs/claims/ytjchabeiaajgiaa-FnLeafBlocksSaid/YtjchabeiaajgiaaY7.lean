/- Contract: l5Labels of the reference. -/
import Derived.Test.YtjchabeiaajgiaaY5
namespace Go.Proofs.Ytjchabeiaajgiaa
open Go.RowKit set_option linter.unusedVariables false set_option linter.unusedSimpArgs false

set_option maxRecDepth 100000 in
set_option maxHeartbeats 8000000 in
theorem l5Labels_c (n : Nat) (A : Option Addr) (c : Nat) (es : List (Int × Int)) (w : World) (hx : EdgesAt w A es) (hl : es.length ≤ 40) (hn16 : n ≤ 16) (ho : EdOk n es) (hd : es.Nodup) :
    Calls Try.prog 131 #[.agg #[V n, .slice A es.length c]] w (RetI 3 (blkL n es) w) := by
  obtain ⟨i0, hi, hz0, hz1, hz2⟩ := info_parts infoI
  have Hi := Lib.hid hi
  have Hz0 := Lib.hid hz0
  have Hz1 := Lib.hid hz1
  have Hz2 := Lib.hid hz2
  clear hi hz0 hz1 hz2
  have HO := Lib.hid ho
  have HD := Lib.hid hd
  clear ho hd
  go_enter Try.func131, Try.ntmps131
  go_wp2
  generalize hW0 : World.alloc w _ = W0
  have gn0 : Nx w W0 := by subst hW0; exact (by repeat (first | exact Nx.refl _ | assumption | apply Nx.alloc | apply Nx.drew | apply Nx.drewN | (refine Nx.setCell ?_ (by first | (simp; done) | (simp; omega) | omega) _) | refine Nx.trans ?_ (by assumption)))
  have gs0 : w.heap.size < W0.heap.size := by subst hW0; simp
  have X0 : Bx W0 w.heap.size 26 [V n, .slice A es.length c] := by subst hW0; exact Bx.alloc w 26 [V n, .slice A es.length c]
  replace hx := hx.nx gn0
  have ho0 := OwnI.empty W0 W0.heap.size 3 (Nat.le_refl _)
  rw [show w.heap.size + 1 = W0.heap.size by subst hW0; simp]
  clear hW0
  have XB := X0
  have hxB := hx
  go_loopg [3, 4] es.length (fun gk out i wr => ∃ (k : Nat) (A' : Option Addr) (c' : Nat), k + gk = es.length ∧ i = .int .i64 k ∧ out = .slice A' k c' ∧ OwnI wr W0.heap.size 3 A' c' (idL k) ∧ Nx W0 wr)
  case atStart => exact ⟨0, _, 0, by omega, rfl, rfl, ho0, (by repeat (first | exact Nx.refl _ | assumption | apply Nx.alloc | apply Nx.drew | apply Nx.drewN | (refine Nx.setCell ?_ (by first | (simp; done) | (simp; omega) | omega) _) | refine Nx.trans ?_ (by assumption)))⟩
  case round =>
    obtain ⟨k, A', c', hk, rfl, rfl, hown, hn⟩ := hrel
    replace X0 := X0.nx hn
    replace X0_0 := X0.cell (j := 0) rfl
    replace X0_1 := X0.cell (j := 1) rfl
    replace X0_z := X0.lt
    by_cases hlt : k < es.length
    · go_wp2_with (at_builtin; go_must (refine appI (base := W0.heap.size) (t := 3) (idL k) wr.heap.size k rfl rfl Try.underlying27 Hi.out Hz0.out Hz1.out Hz2.out rfl (by rw [idL_length]; rfl) (hown.nx (by repeat (first | exact Nx.refl _ | assumption | apply Nx.alloc | apply Nx.drew | apply Nx.drewN | (refine Nx.setCell ?_ (by first | (simp; done) | (simp; omega) | omega) _) | refine Nx.trans ?_ (by assumption)))) rfl (by go_simp) (by rw [idL_length]; omega) (by have := hn.size; simp; omega) ?_; intro A2 c2 w2 hown2 hnx2 _ _))
      go_roundg (gk - 1)
      case measure => omega
      case rel => exact ⟨k + 1, A2, c2, by omega, by go_num, by simp [idL_length], by rw [idL_succ]; exact hown2, hnx2 W0 (Nat.le_refl _) (hn.alloc _)⟩
    · obtain rfl : k = es.length := by omega
      have Hown := Lib.hid hown
      have Hlab := Lib.hid (idL_lab0 es.length (cycA n es))
      obtain ⟨m, hm⟩ : ∃ m, m = es.length := ⟨_, rfl⟩
      have Hm := Lib.hid hm
      have hm40 : m ≤ 40 := by omega
      rw [← hm] at hl X0 X0_1 XB ⊢
      clear hown ho0 hlt hm hk hx
      go_wp2
      clear X0 X0_0 X0_1 X0_z
      go_loopg [5] (2 * sumN (idL es.length) + 1) (fun gk ag wr => ∃ (L : List Int) (b : Bool), ag = .bool b ∧ Lab0 es.length (cycA n es) L ∧ OwnI wr W0.heap.size 3 A' c' L ∧ Nx W0 wr ∧ (b = false → ∀ e ∈ cycA n es, lk L e.1 = lk L e.2) ∧ 2 * sumN L + b.toNat ≤ gk)
      case atStart => exact ⟨_, true, rfl, Hlab.out, Hown.out, hn, by simp, by simp⟩
      case round =>
        clear Hlab Hown hn
        obtain ⟨L, b, rfl, hlab, hown2, hn2, hfin, hms⟩ := hrel
        obtain ⟨gko, rfl⟩ : ∃ g : Nat, g = gk := ⟨_, rfl⟩
        have X0 := XB.nx hn2
        have X0_0 := X0.cell (j := 0) rfl
        have X0_1 := X0.cell (j := 1) rfl
        have X0_z := X0.lt
        have Hown2 := Lib.hid hown2
        have Hlab := Lib.hid hlab
        have Hfin := Lib.hid hfin
        clear hown2 hlab hfin
        cases b with
        | true =>
          go_wp2
          clear X0 X0_0 X0_1 X0_z
          go_loopg [5, 6] m (fun gk ag i wr => ∃ (I : Nat) (M : List Int) (b : Bool), I + gk = m ∧ i = .int .i64 I ∧ ag = .bool b ∧ Turned es.length (cycA n es) L M (cycE n es I 0) b ∧ OwnI wr W0.heap.size 3 A' c' M ∧ Nx W0 wr)
          case atStart => exact ⟨0, L, false, by omega, rfl, rfl, by rw [cycE_zero]; exact Turned.start Hlab.out, Hown2.out, hn2⟩
          case round =>
            clear hn2 Hown2 Hlab Hfin
            obtain ⟨I, M, b, hI, rfl, rfl, hT, hown3, hn3⟩ := hrel
            obtain ⟨gkm, rfl⟩ : ∃ g : Nat, g = gk := ⟨_, rfl⟩
            have X0 := XB.nx hn3
            have X0_0 := X0.cell (j := 0) rfl
            have X0_1 := X0.cell (j := 1) rfl
            have X0_z := X0.lt
            have hx3 := hxB.nx hn3
            have HT := Lib.hid hT
            have Hown3 := Lib.hid hown3
            by_cases hlt : I < m
            · obtain ⟨e, he⟩ : ∃ e, es[I]? = some e := ⟨_, List.getElem?_eq_getElem (by rw [← Hm.out]; exact hlt)⟩
              have heo := HO.out e (List.mem_of_getElem? he)
              obtain ⟨x, y⟩ := e
              have He := Lib.hid he
              have Heo := Lib.hid heo
              clear he heo hT hown3
              go_wp2
              clear X0 X0_0 X0_1 X0_z hx3
              go_loopg [5, 7] I (fun gk ag i wr => ∃ (K : Nat) (M : List Int) (b : Bool), K + gk = I ∧ i = .int .i64 K ∧ ag = .bool b ∧ Turned es.length (cycA n es) L M (cycE n es I K) b ∧ OwnI wr W0.heap.size 3 A' c' M ∧ Nx W0 wr)
              case atStart => exact ⟨0, M, b, by omega, rfl, rfl, HT.out, Hown3.out, hn3⟩
              case round =>
                clear hn3 HT Hown3
                obtain ⟨K, M, b, hK, rfl, rfl, hT, hown3, hn3⟩ := hrel
                have X0 := XB.nx hn3
                have X0_0 := X0.cell (j := 0) rfl
                have X0_1 := X0.cell (j := 1) rfl
                have X0_z := X0.lt
                have hx3 := hxB.nx hn3
                by_cases hlk : K < I
                · obtain ⟨f, hf⟩ : ∃ f, es[K]? = some f := ⟨_, List.getElem?_eq_getElem (by rw [← Hm.out]; omega)⟩
                  obtain ⟨b1, off, hA, hb, h1, h2⟩ := hx3.rd He.out
                  obtain ⟨b', off', hA', hb', f1, f2⟩ := hx3.rd hf
                  rw [hA] at hA'
                  injection hA' with hA'
                  injection hA' with hA1 hA2
                  subst hA1 hA2 hA
                  have hfo := HO.out f (List.mem_of_getElem? hf)
                  obtain ⟨u, v⟩ := f
                  simp only at h1 h2 f1 f2
                  have hef : ((x, y) : Int × Int) ≠ (u, v) := fun h => by have := nodup_idx HD.out (h ▸ He.out) hf; omega
                  have hst := cycE_step (n := n) He.out hf
                  have hcm := cycA_of (n := n) hlk He.out hf
                  have hMl : M.length = es.length := hT.1.1
                  have hIl : I < M.length := by rw [hMl, ← Hm.out]; exact hlt
                  have hKl : K < M.length := by omega
                  have la := get_of_lk hIl
                  have lb := get_of_lk hKl
                  obtain ⟨g, rfl, hg1, hg2⟩ := hown3.at (by omega)
                  have r1 := hown3.cell hIl
                  have r2 := hown3.cell hKl
                  have r3 := hown3.free
                  have la' : M[I] = lk M I := by have := List.getElem?_eq_getElem hIl; rw [la] at this; exact (Option.some.inj this).symm
                  have lb' : M[K] = lk M K := by have := List.getElem?_eq_getElem hKl; rw [lb] at this; exact (Option.some.inj this).symm
                  have hp0 := (hT.1.2 (I : Int) (by omega) (by omega)).1
                  have hq0 := (hT.1.2 (K : Int) (by omega) (by omega)).1
                  rw [la'] at r1
                  rw [lb'] at r2
                  obtain ⟨p, hp⟩ : ∃ p, lk M I = p := ⟨_, rfl⟩
                  obtain ⟨q, hq⟩ : ∃ q, lk M K = q := ⟨_, rfl⟩
                  rw [hp] at r1 hp0
                  rw [hq] at r2 hq0
                  have Hp := Lib.hid hp
                  have Hq := Lib.hid hq
                  have Hst := Lib.hid hst
                  have Hcm := Lib.hid hcm
                  have Hef := Lib.hid hef
                  have Hfo := Lib.hid hfo
                  have HMl := Lib.hid hMl
                  have Hown3 := Lib.hid hown3
                  have HT := Lib.hid hT
                  have hMm : M.length ≤ m ∧ m ≤ M.length := by have := Hm.out; omega
                  have hIr : I < m ∧ K < m := by omega
                  clear hown3 hT hf hfo hef hst hcm la lb la' lb' hp hq hMl hMm
                  by_cases hpq : (p == q) = true
                  · go_wp2
                    go_quiet (fail)
                    go_wp2
                    go_roundg (gk - 1)
                    case measure => omega
                    case rel =>
                      refine ⟨K + 1, M, b, by omega, by go_num, rfl, ?_, Hown3.out.nx (.drewN (.refl _) _), hn3.drewN _⟩
                      rw [Hst.out]
                      have hpq : p = q := by simpa using hpq
                      split
                      · exact HT.out.same (by simp only; rw [Hp.out, Hq.out, hpq])
                      · rw [List.append_nil]; exact HT.out
                  · have hpq : (p == q) = false := by simpa using hpq
                    have HmE := Lib.hid (show es.length ≤ 1048576 by rw [← Hm.out]; omega)
                    have hCc := fun w' (h : EdgesAt w' (some ⟨b1, off, none⟩) es) => l5Cycle_c n (some ⟨b1, off, none⟩) c es x y u v w' h HmE.out hn16 HO.out.inR (fun e he => by have := HO.out e he; omega) Heo.out Hfo.out Hef.out
                    rw [← Hm.out] at hCc
                    have HCc := Lib.hid hCc
                    clear hCc
                    go_wp2
                    (refine tail_quiet 21 (by kernel_rfl) (by kernel_rfl) (fun W2 gW2 => ?_); obtain ⟨hcW2, hfW2, hzW2⟩ := gW2.rules; simp only [List.take_succ_cons, List.take_zero, List.drop_succ_cons, List.drop_zero]; (repeat go_big_quiet_step (fail)); with_reducible refine wpQuiet_nil ?_)
                    have X0' := X0.nx gW2
                    go_wp2_with fail
                    refine (HCc.out _ (hx3.nx gW2)).mono ?_
                    rintro e w3 ⟨rfl, hn4⟩
                    have hn23 := gW2.trans hn4
                    have hn34 := hn3.trans hn23
                    have r1 := hn23.cell (p := ⟨g, I, none⟩) hg2 r1
                    have r2 := hn23.cell (p := ⟨g, K, none⟩) hg2 r2
                    have Hown4 := Lib.hid (Hown3.out.nx hn23)
                    have r3 := Hown4.out.free
                    have hg3 : g < w3.heap.size := by have := hn23.size; omega
                    clear hcW2 hfW2 hzW2 hx3 X0 X0_0 X0_1 X0_z X0'
                    obtain ⟨cb, hcb⟩ : ∃ cb, cyc n es (x, y) (u, v) = cb := ⟨_, rfl⟩
                    rw [hcb]
                    have Hcb := Lib.hid hcb
                    clear hcb
                    cases cb with
                    | false =>
                      go_wp2
                      go_roundg (gk - 1)
                      case measure => omega
                      case rel =>
                        refine ⟨K + 1, M, b, by omega, by go_num, rfl, ?_, Hown4.out, hn34⟩
                        rw [Hst.out, Hcb.out]
                        simp
                        exact HT.out
                    | true =>
                      go_wp2_with fail
                      have her : 0 ≤ (I : Int) ∧ (I : Int) < es.length ∧ 0 ≤ (K : Int) ∧ (K : Int) < es.length := by have := Hm.out; omega
                      have Her := Lib.hid her
                      clear her
                      rcases Int.lt_or_lt_of_ne (show p ≠ q by simpa using hpq) with hlo | hlo
                      · go_quiet (fail)
                        have hn9 := hn34.drewN nq
                        have Hown9 := Lib.hid (Hown4.out.nx (.drewN (.refl _) nq))
                        go_wp2
                        go_roundg (gk - 1)
                        case measure => omega
                        case rel =>
                          have hre := relax_lt (L := M) (e := ((I : Int), (K : Int))) HMl.out Her.out (by simp only [Hp.out, Hq.out]; exact hlo)
                          simp only [Hp.out, Hq.out, up, Int.toNat_natCast] at hre
                          refine ⟨K + 1, M.set K p, true, by omega, by go_num, rfl, ?_, Hown9.out.set K p, hn9.setCell (by simp; omega) _⟩
                          rw [Hst.out, Hcb.out, if_pos rfl, ← hre]
                          exact HT.out.turn (HT.out.1.relax (cycA_inR n es) (Hcm.out Hcb.out)) (by rw [hre]; exact sumN_up (L := M) (x := (K : Int)) (by omega) (by omega) hp0 (by rw [Hq.out]; exact hlo))
                      · go_quiet (fail)
                        have hn9 := hn34.drewN nq
                        have Hown9 := Lib.hid (Hown4.out.nx (.drewN (.refl _) nq))
                        go_wp2
                        go_roundg (gk - 1)
                        case measure => omega
                        case rel =>
                          have hre := relax_gt (L := M) (e := ((I : Int), (K : Int))) HMl.out Her.out (by simp; omega) (by simp only [Hp.out, Hq.out]; exact hlo)
                          simp only [Hp.out, Hq.out, up, Int.toNat_natCast] at hre
                          refine ⟨K + 1, M.set I q, true, by omega, by go_num, rfl, ?_, Hown9.out.set I q, hn9.setCell (by simp; omega) _⟩
                          rw [Hst.out, Hcb.out, if_pos rfl, ← hre]
                          exact HT.out.turn (HT.out.1.relax (cycA_inR n es) (Hcm.out Hcb.out)) (by rw [hre]; exact sumN_up (L := M) (x := (I : Int)) (by omega) (by omega) hq0 (by rw [Hp.out]; exact hlo))
                · go_wp2
                  go_roundg (gkm - 1)
                  case measure => omega
                  case rel =>
                    have hKI : K = I := by omega
                    subst hKI
                    exact ⟨K + 1, M, b, by omega, by go_num, rfl, by rw [cycE_next]; exact hT, hown3, hn3⟩
            · go_wp2
              have he : cycE n es I 0 = cycA n es := by
                have : I = es.length := by have := Hm.out; omega
                rw [this]; rfl
              rw [he] at hT
              cases b with
              | true =>
                go_roundg (gko - 1)
                case measure => simp at hms; omega
                case rel => exact ⟨M, true, rfl, hT.1, hown3, hn3, by simp, by have := hT.2.2 rfl; simp at hms ⊢; omega⟩
              | false =>
                go_roundg (gko - 1)
                case measure => simp at hms; omega
                case rel =>
                  obtain ⟨rfl, h2⟩ := hT.2.1 rfl
                  exact ⟨M, false, rfl, hT.1, hown3, hn3, fun _ => h2, by simp at hms ⊢; omega⟩
        | false =>
          go_wp2
          go_ret
          have hlab : IsLab es.length (cycA n es) L := ⟨Hlab.out, by first | exact Hfin.out rfl | exact Hfin.out trivial⟩
          have hL : blkL n es = L := labels_eq hlab (cycA_inR n es)
          refine ⟨A', c', ?_, ?_, gn0.trans hn2⟩
          · rw [hL, hlab.1.1, ← Hm.out]; rfl
          · rw [hL]; exact Hown2.out.mono (by omega)
end Go.Proofs.Ytjchabeiaajgiaa
