/- Contract: l1Draw: a random valid graph. -/
import Derived.Test.YtekepbcmjfdcjaaDoorR2
import Derived.Test.YtekepbcmjfdcjaaDoorL
import Derived.Test.YtekepbcmjfdcjaaDoorD1
import Derived.Test.YtekepbcmjfdcjaaDoorDP
import Derived.Test.YtekepbcmjfdcjaaDoorZ
import Derived.Deep.RegionHeld3
import Derived.Deep.RegionLaw
import Derived.Deep.DrawnRows
namespace Go.Proofs.YtekepbcmjfdcjaaDoor
open Go.RowKit
attribute [local go_sem ↓] Go.wp_at_zero Go.wp_at_succ

/-- some valid graph in a row of the call's own; the reader is further by 60 picks at most -/
def DrawnG (br : Nat) (P : Int) (w : World) (e : Ending) (w' : World) : Prop :=
  ∃ (nn : Int) (A : Option Addr) (c : Nat) (es : Es), e = .returned (.agg #[V nn, .slice A es.length c]) ∧ Valid nn es ∧ es.length ≤ 23 ∧ OwnE w' w.heap.size 41 A c es ∧ RdL w' br (P + 60) ∧ Rx br w w'

theorem Bx.ints {w : World} {g : Nat} {t : TypeId} {xs : List Int} (h : Bx w g t (xs.map V)) : IntsAt w (some ⟨g, 0, none⟩) xs := fun _ =>
  ⟨g, 0, rfl, h.lt, fun k hk => by rw [Nat.zero_add]; exact h.cell (by simp [hk])⟩
theorem ne_br {g br : Nat} (h : g ≠ br) : ∀ b off, (some (⟨g, 0, none⟩ : Addr)) = some ⟨b, off, none⟩ → b ≠ br := fun b off e => by
  injection e with e; injection e with e; subst e; exact h
theorem OwnE.rx {w w' : World} {base br c : Nat} {t : TypeId} {A : Option Addr} {es : Es} (h : OwnE w base t A c es) (hx : Rx br w w') (hb : br < base) : OwnE w' base t A c es :=
  h.kept hx (apart_ne (fun k hk => by have := (h.lt k hk).1; omega))
theorem Bx.rx {w w' : World} {g br : Nat} {t : TypeId} {cs : List Value} (h : Bx w g t cs) (hr : Rx br w w') (hne : g ≠ br) : Bx w' g t cs := h.grown hr (by simpa using Ne.symm hne)

set_option maxRecDepth 100000 in
set_option maxHeartbeats 8000000 in
theorem l1Draw_c (br : Nat) (P : Int) (w : World) (hr : RdL w br P) (hP0 : 0 ≤ P) (hP : P < 1073741000) :
    Calls Tryd.prog 36 #[.pointer (some ⟨br, 0, none⟩)] w (DrawnG br P w) := by
  have hbr := hr.lt
  go_enter Tryd.func36, Tryd.ntmps36
  go_wp2_with fail
  generalize hW1 : World.alloc _ _ = W1
  have gW1 : Nx w W1 := by subst hW1; exact (by repeat (first | exact Nx.refl _ | assumption | apply Nx.alloc | apply Nx.drew | apply Nx.drewN | (refine Nx.setCell ?_ (by first | (simp; done) | (simp; omega) | omega) _) | refine Nx.trans ?_ (by assumption)))
  have sW1 : W1.heap.size = w.heap.size + 2 := by subst hW1; simp
  have X0 : Bx W1 (w.heap.size) 24 [V 0, .slice none 0 0] := by subst hW1; have h := Bx.alloc w 24 [V 0, .slice none 0 0]; have h := h.nx (Nx.alloc (Nx.refl _) (.cells #[V 6, V 5, V 7, V 4, V 8, V 10, V 3, V 1, V 16] 3)); simpa using h
  have X1 : Bx W1 (w.heap.size + 1) 3 [V 6, V 5, V 7, V 4, V 8, V 10, V 3, V 1, V 16] := by subst hW1; have h := Bx.alloc (w.alloc (.cells #[V 0, .slice none 0 0] 24)) 3 [V 6, V 5, V 7, V 4, V 8, V 10, V 3, V 1, V 16]; simpa using h
  have X0_0 := X0.cell (j := 0) rfl
  have X0_1 := X0.cell (j := 1) rfl
  have X0_z := X0.lt
  have X1_0 := X1.cell (j := 0) rfl
  have X1_1 := X1.cell (j := 1) rfl
  have X1_2 := X1.cell (j := 2) rfl
  have X1_3 := X1.cell (j := 3) rfl
  have X1_4 := X1.cell (j := 4) rfl
  have X1_5 := X1.cell (j := 5) rfl
  have X1_6 := X1.cell (j := 6) rfl
  have X1_7 := X1.cell (j := 7) rfl
  have X1_8 := X1.cell (j := 8) rfl
  have X1_z := X1.lt
  have HsW1 := Lib.hid sW1
  have lW1 : w.heap.size + 2 ≤ W1.heap.size := by omega
  clear hW1 sW1
  have hi1 : IntsAt W1 (some ⟨w.heap.size + 1, 0, none⟩) [6, 5, 7, 4, 8, 10, 3, 1, 16] := Bx.ints X1
  refine (num_l br P _ 9 [6, 5, 7, 4, 8, 10, 3, 1, 16] _ (hr.nx gW1) (by omega) hi1 (by simp) (by simp) (ne_br (by omega))).mono ?_
  rintro e w2 ⟨nn, rfl, hmem, hr2, hx2⟩
  have hnn : 1 ≤ nn ∧ nn ≤ 16 := by simp at hmem; omega
  have X0' := X0.rx hx2 (by omega)
  have z2 : w.heap.size + 2 ≤ w2.heap.size := by have h := hx2.size; omega
  have hx02 : Rx br w w2 := (gW1.rx br).trans hx2
  clear hx2 hmem hi1 X0 X1 X0_0 X0_1 X0_z X1_0 X1_1 X1_2 X1_3 X1_4 X1_5 X1_6 X1_7 X1_8 X1_z gW1 lW1 HsW1 hr
  go_upto_region 2 with fail
  obtain ⟨N, rfl⟩ := Int.eq_ofNat_of_zero_le (a := nn) (by omega)
  have hN1 : 1 ≤ N := by omega
  have hN2 : N ≤ 16 := by omega
  generalize hW3 : World.alloc w2 _ = W3
  have z3 : W3.heap.size = w2.heap.size + 1 := by subst hW3; simp
  have n3 : Nx w2 W3 := by subst hW3; exact (by repeat (first | exact Nx.refl _ | assumption | apply Nx.alloc | apply Nx.drew | apply Nx.drewN | (refine Nx.setCell ?_ (by first | (simp; done) | (simp; omega) | omega) _) | refine Nx.trans ?_ (by assumption)))
  have b3 : Bx W3 w2.heap.size 24 [V (N : Int), .slice none 0 0] := by subst hW3; exact Bx.alloc w2 24 [V (N : Int), .slice none 0 0]
  have X0 : Bx W3 w.heap.size 24 [V 0, .slice none 0 0] := X0'.nx n3
  have r3 := hr2.nx n3
  have x3 : Rx br w W3 := hx02.trans (n3.rx br)
  have z3' : w2.heap.size + 1 ≤ W3.heap.size := by omega
  clear hW3 z3 n3 X0' hr2 hx02 hnn
  go_wp2
  go_loopg [4] (N - 1) (fun gk iv wr => ∃ (i : Nat) (A : Option Addr) (c : Nat) (es : Es), i + gk = N ∧ 1 ≤ i ∧ iv = .int .i64 i ∧ es.length + 1 ≤ i ∧ Good i es ∧ RdL wr br (P + 2 * i) ∧ Bx wr w.heap.size 24 [V 0, .slice none 0 0] ∧ Bx wr w2.heap.size 24 [V (N : Int), .slice A es.length c] ∧ OwnE wr W3.heap.size 41 A c es ∧ Rx br w wr ∧ W3.heap.size ≤ wr.heap.size)
  case atStart => exact ⟨1, none, 0, [], by omega, by omega, rfl, by simp, Good.nil _, r3.mono (by omega), X0, b3, OwnE.nil _ _ _, x3, Nat.le_refl _⟩
  case round =>
    obtain ⟨i, A, c, es, hi, hi1, rfl, hel, hgd, hr4, hb4, hg4, ho4, hx4, hz4⟩ := hrel
    have Hgd := Lib.hid hgd
    have c0 := hg4.cell (j := 0) rfl
    have c1 := hg4.cell (j := 1) rfl
    clear hgd b3 X0 r3 x3
    by_cases hlt : i < N
    · have hlt2 : decide ((i : Int) < (N : Int)) = true := by simp; omega
      go_wp2_with fail
      refine (pick_l br (P + 2 * i) 4 _ hr4 (by omega) (by omega) (by omega)).mono ?_
      rintro e w5 ⟨x, rfl, hx0, _, hr5, hx5⟩
      have hb5 := hb4.rx hx5 (by omega)
      have hg5 := hg4.rx hx5 (by omega)
      have ho5 := ho4.rx hx5 (by omega)
      have hx05 := hx4.trans hx5
      have hz5 := Nat.le_trans hz4 hx5.size
      clear hr4 hb4 hg4 ho4 hx4 hx5 c0 c1
      have c0 := hg5.cell (j := 0) rfl
      have c1 := hg5.cell (j := 1) rfl
      have cf := hg5.free
      have cz := hg5.lt
      by_cases hxp : 0 < x
      · have hi2 : 1 ≤ (i : Int) := by omega
        have hnd : Nx w5 w5.drew := .drew (.refl _)
        have hrd := hr5.nx hnd
        have hod := ho5.nx hnd
        have hgd2 := hg5.nx hnd
        go_wp2_with fail
        go_region_with (first
            | (go_at_call 46; (with_reducible refine (pick_l br (P + 2 * i + 1) i _ hrd (by omega) (by omega) (by omega)).mono ?_); rintro e w6 ⟨y, rfl, hy0, hy1, hr6, hx6⟩; have ho6 := hod.rx hx6 (by omega); have hg6 := hgd2.rx hx6 (by omega); have q6 := hg6.cell (j := 1) rfl)
            | (go_at_call 50; (with_reducible refine (l1Edge_c y i _).mono ?_); rintro e w7 ⟨rfl, hn7⟩; have ho7 := ho6.nx hn7; have hg7 := hg6.nx hn7; have q7 := hg7.cell (j := 1) rfl)
            | (go_at_call 49; (with_reducible refine (l1Put_c A c es (min y i) (max y i) _ ho7.edgesAt (by omega)).mono ?_); rintro e w8 ⟨B, d, rfl, ho8, hn8⟩; have hg8 := hg7.nx hn8; have q8 := hg8.cell (j := 1) rfl; have qf := hg8.free))
        all_goals go_wp2
        all_goals go_roundg (gk - 1)
        all_goals first
          | omega
          | (have hy := hy1 (by omega)
             have hxa : Rx br w w8 := ((hx05.drew.trans hx6).trans (hn7.rx _)).trans (hn8.rx _)
             have hsz6 := hx6.size
             have hsz7 := hn7.size
             have hsz8 := hn8.size
             simp only [size_drew_] at hsz6
             refine ⟨i + 1, B, d, putL es (min y i, max y i), by omega, by omega, by go_num, by rw [putL_length]; omega, ?_, ?_, ?_, hg8.set (j := 1) _, ?_, ?_, ?_⟩
             · refine (Hgd.out.mono (by omega)).put (by simp; omega) (fun hm => ?_)
               have := Hgd.out.1 _ hm
               simp at this; omega
             · exact (((hr6.nx hn7).nx hn8).kept (grown_setCell _ _ _ _) (fun k e => by injection e with e; omega)).mono (by omega)
             · exact ((((hb5.nx hnd).rx hx6 (by omega)).nx hn7).nx hn8).far (by simp; omega) _
             · exact (ho8.far (by simp; omega) _).mono (by omega)
             · exact hxa.past (grown_setCell _ _ _ _) (fun j e => by injection e with e; omega)
             · rw [size_set_]; omega)
      · go_wp2
        go_roundg (gk - 1)
        case measure => omega
        case rel => exact ⟨i + 1, A, c, es, by omega, by omega, by go_num, by omega, Hgd.out.mono (by omega), hr5.mono (by omega), hb5, hg5, ho5, hx05, hz5⟩
    · have hiN : i = N := by omega
      have hgN : Good N es := hiN ▸ Hgd.out
      have HgN := Lib.hid hgN
      have cz := hg4.lt
      have hel2 : es.length ≤ 15 := by omega
      have hPN : P + 2 * (i : Int) ≤ P + 32 := by omega
      have hr4' := hr4.mono hPN
      clear hgN Hgd hr4 hPN hel
      go_wp2_with fail
      have hn6 : Nx wr (wr.alloc (.cells #[V 2, V 1, V 3, V 0, V 5, V 8] 3)) := .alloc (.refl _) _
      have hi2 : IntsAt (wr.alloc (.cells #[V 2, V 1, V 3, V 0, V 5, V 8] 3)) (some ⟨wr.heap.size, 0, none⟩) [2, 1, 3, 0, 5, 8] := Bx.ints (Bx.alloc wr 3 [V 2, V 1, V 3, V 0, V 5, V 8])
      refine (num_l br (P + 32) _ 6 [2, 1, 3, 0, 5, 8] _ (hr4'.nx hn6) (by omega) hi2 (by simp) (by simp) (ne_br (by omega))).mono ?_
      rintro e w6 ⟨m, rfl, hmem, hr6, hx6⟩
      have hm8 : 0 ≤ m ∧ m ≤ 8 := by simp at hmem; omega
      have hxw6 : Rx br wr w6 := (hn6.rx br).trans hx6
      have b6 := hb4.rx hxw6 (by omega)
      have g6 := hg4.rx hxw6 (by omega)
      have o6 := ho4.rx hxw6 (by omega)
      have x6 := hx4.trans hxw6
      have z6 := Nat.le_trans hz4 hxw6.size
      obtain ⟨m, rfl⟩ := Int.eq_ofNat_of_zero_le hm8.1
      have hm9 : m ≤ 8 := by omega
      clear hmem hm8 hi2 hn6 hx6 hxw6 hr4' hb4 hg4 ho4 hx4 hz4 c0 c1
      go_wp2
      go_loopg [5] m (fun gk iv wr => ∃ (A : Option Addr) (c : Nat) (es : Es), gk ≤ m ∧ iv = .int .i64 gk ∧ es.length + gk ≤ 15 + m ∧ Good N es ∧ RdL wr br (P + 33 + 2 * ((m : Int) - gk)) ∧ Bx wr w.heap.size 24 [V 0, .slice none 0 0] ∧ Bx wr w2.heap.size 24 [V (N : Int), .slice A es.length c] ∧ OwnE wr W3.heap.size 41 A c es ∧ Rx br w wr ∧ W3.heap.size ≤ wr.heap.size)
      case atStart => exact ⟨A, c, es, by omega, rfl, by omega, HgN.out, hr6.mono (by omega), b6, g6, o6, x6, z6⟩
      case round =>
        obtain ⟨A, c, es, hgm, rfl, hel, hgd, hr7, hb7, hg7, ho7, hx7, hz7⟩ := hrel
        have Hgd := Lib.hid hgd
        have c0 := hg7.cell (j := 0) rfl
        have c1 := hg7.cell (j := 1) rfl
        clear hgd b6 g6 o6 x6 z6 hr6 HgN
        by_cases hpos : 0 < gk
        · obtain ⟨g, rfl⟩ : ∃ g, gk = g + 1 := ⟨gk - 1, by omega⟩
          have hpos2 : (0 : Int) < ((g + 1 : Nat) : Int) := by omega
          go_wp2_with fail
          refine (pick_l br (P + 33 + 2 * ((m : Int) - ((g + 1 : Nat) : Int))) N _ hr7 (by omega) (by omega) (by omega)).mono ?_
          rintro e w8 ⟨x, rfl, hx0, hx1, hr8, hx8⟩
          replace hb7 := hb7.rx hx8 (by omega)
          replace hg7 := hg7.rx hx8 (by omega)
          replace ho7 := ho7.rx hx8 (by omega)
          replace hx7 := hx7.trans hx8
          replace hz7 := Nat.le_trans hz7 hx8.size
          replace c0 := hg7.cell (j := 0) rfl
          replace c1 := hg7.cell (j := 1) rfl
          clear hr7 hx8
          go_wp2_with fail
          refine (pick_l br (P + 33 + 2 * ((m : Int) - ((g + 1 : Nat) : Int)) + 1) N _ hr8 (by omega) (by omega) (by omega)).mono ?_
          rintro e w9 ⟨y, rfl, hy0, hy1, hr9, hx9⟩
          replace hb7 := hb7.rx hx9 (by omega)
          replace hg7 := hg7.rx hx9 (by omega)
          replace ho7 := ho7.rx hx9 (by omega)
          replace hx7 := hx7.trans hx9
          replace hz7 := Nat.le_trans hz7 hx9.size
          replace c0 := hg7.cell (j := 0) rfl
          replace c1 := hg7.cell (j := 1) rfl
          have cf := hg7.free
          have cz := hg7.lt
          have hr9' := hr9.mono (show P + 33 + 2 * ((m : Int) - ((g + 1 : Nat) : Int)) + 1 + 1 ≤ P + 33 + 2 * ((m : Int) - (g : Int)) by omega)
          have hxN := hx1 (by omega)
          have hyN := hy1 (by omega)
          clear hr8 hx9 hr9 hx1 hy1
          by_cases hxy : x = y
          · subst hxy
            go_wp2_with fail
            go_quiet (fail)
            go_wp2
            go_roundg g
            case measure => omega
            case rel => exact ⟨A, c, es, by omega, by go_num, by omega, Hgd.out, hr9'.nx (.drewN (.refl _) _), hb7.nx (.drewN (.refl _) _), hg7.nx (.drewN (.refl _) _), ho7.nx (.drewN (.refl _) _), hx7.drewN _, hz7⟩
          · have hne : (x != y) = true := by simpa using hxy
            have hmm : 0 ≤ min x y ∧ min x y < max x y ∧ max x y < (N : Int) := by omega
            clear hxy
            go_wp2_with fail
            have kp : ∀ w', Nx w9 w' → (fun w_ => Nx w9 w_ ∧ w_.cell? ⟨w2.heap.size, 1, none⟩ = some (.slice A es.length c)) w' := fun w' h => ⟨h, h.cell cz c1⟩
            have hnd : Nx w9 w9.drew := .drew (.refl _)
            go_region_held3 (fun w_ => Nx w9 w_ ∧ w_.cell? ⟨w2.heap.size, 1, none⟩ = some (.slice A es.length c))
              (first | exact kp _ hnd | exact kp _ hn10 | exact kp _ hn11)
              (first
                | (go_at_call 50; (with_reducible refine (l1Edge_c x y _).mono ?_); rintro e w10 ⟨rfl, hn10'⟩; have hn10 : Nx w9 w10 := hnd.trans hn10'; have ho10 := ho7.nx hn10)
                | (go_at_call 51; (with_reducible refine (l1Find_c A c es (min x y) (max x y) _ ho10.edgesAt (by omega)).mono ?_); rintro e w11 ⟨rfl, hn11'⟩; have hn11 : Nx w9 w11 := hn10.trans hn11'))
            replace hb7 := hb7.nx hn11
            replace hg7 := hg7.nx hn11
            replace ho7 := ho7.nx hn11
            replace hx7 := hx7.trans (hn11.rx br)
            replace hz7 := Nat.le_trans hz7 hn11.size
            replace hr9' := hr9'.nx hn11
            replace c0 := hg7.cell (j := 0) rfl
            replace c1 := hg7.cell (j := 1) rfl
            replace cf := hg7.free
            replace cz := hg7.lt
            clear ho10 hn10 hn10' hn11' hn11 kp hnd
            by_cases hin : (min x y, max x y) ∈ es
            · have hi0 : ¬ idxE es (min x y, max x y) < 0 := by have := (idxE_nonneg es (min x y, max x y)).2 hin; omega
              clear hin
              generalize idxE es (min x y, max x y) = ix at *
              go_wp2
              go_roundg g
              case measure => omega
              case rel => exact ⟨A, c, es, by omega, by go_num, by omega, Hgd.out, hr9', hb7, hg7, ho7, hx7, hz7⟩
            · have hi0 : idxE es (min x y, max x y) < 0 := by have := mt (idxE_nonneg es (min x y, max x y)).1 hin; omega
              have Hin := Lib.hid hin
              clear hin
              generalize idxE es (min x y, max x y) = ix at *
              have hnd : Nx w11 w11.drew := .drew (.refl _)
              have hod := ho7.nx hnd
              have hgd2 := hg7.nx hnd
              go_wp2_with fail
              go_region_with (first
                | (go_at_call 50; (with_reducible refine (l1Edge_c x y _).mono ?_); rintro e w12 ⟨rfl, hn12⟩; have ho12 := hod.nx hn12; have hg12 := hgd2.nx hn12; have q12 := hg12.cell (j := 1) rfl)
                | (go_at_call 49; (with_reducible refine (l1Put_c A c es (min x y) (max x y) _ ho12.edgesAt (by omega)).mono ?_); rintro e w13 ⟨B, d, rfl, ho13, hn13⟩; have hg13 := hg12.nx hn13; have q13 := hg13.cell (j := 1) rfl; have qf := hg13.free))
              all_goals go_wp2
              all_goals go_roundg g
              all_goals first
                | omega
                | (have hsz12 := hn12.size
                   have hsz13 := hn13.size
                   simp only [size_drew_] at hsz12
                   refine ⟨B, d, putL es (min x y, max x y), by omega, by go_num, by rw [putL_length]; omega, Hgd.out.put hmm Hin.out, ?_, ?_, hg13.set (j := 1) _, ?_, ?_, ?_⟩
                   · exact (((hr9'.nx hnd).nx hn12).nx hn13).kept (grown_setCell _ _ _ _) (fun k e => by injection e with e; omega)
                   · exact ((((hb7.nx hnd).nx hn12).nx hn13)).far (by simp; omega) _
                   · exact (ho13.far (by simp; omega) _).mono (by omega)
                   · exact (((hx7.trans (hnd.rx _)).trans (hn12.rx _)).trans (hn13.rx _)).past (grown_setCell _ _ _ _) (fun j e => by injection e with e; omega)
                   · rw [size_set_]; omega)
        · have r0 := hb7.cell (j := 0) rfl
          have r1 := hb7.cell (j := 1) rfl
          have rf := hb7.free
          go_wp2
          refine bodyPost_ret (v := .agg #[V N, .slice A es.length c]) (by simp [results, Tryd.f36, go_sem, *]) rfl ?_
          refine ⟨N, A, c, es, rfl, Hgd.out.valid (by omega) (by omega) (by omega), by omega, ?_, ?_, ?_⟩
          · exact ((ho7.far (by simp; omega) _).far (by simp; omega) _).mono (by omega)
          · exact ((hr7.kept (grown_setCell _ _ _ _) (fun k e => by injection e with e; omega)).kept (grown_setCell _ _ _ _) (fun k e => by injection e with e; omega)).mono (by omega)
          · exact (hx7.past (grown_setCell _ _ _ _) (fun j e => by injection e with e; omega)).past (grown_setCell _ _ _ _) (fun j e => by injection e with e; omega)
end Go.Proofs.YtekepbcmjfdcjaaDoor
