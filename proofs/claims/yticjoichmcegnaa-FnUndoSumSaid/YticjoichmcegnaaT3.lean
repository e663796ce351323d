/- Contract: a step of sets. -/
import Derived.Test.YticjoichmcegnaaT2
import Derived.Test.YticjoichmcegnaaM2
import Derived.Deep.RegionWith
import Derived.Deep.RegionLaw
import Derived.Deep.Cut
namespace Go.Proofs.Yticjoichmcegnaa
open Go.RowKit set_option linter.unusedVariables false set_option linter.unusedSimpArgs false

theorem infoSt : (Try.prog.info? 98).map (fun i => (i.zero, i.size, i.bytes)) = some (some (.agg #[.int .i64 0, .int .i64 0]), 2, 16) := by kernel_rfl
/-- sets in the box gb; their rows lie from block base on, and no two share memory -/
structure SB (w : World) (base gb : Nat) (s : SS) (A : Option Addr) (ca : Nat) (B : Option Addr) (cb : Nat) (C : Option Addr) (cc : Nat) : Prop where
  bx : Bx w gb 37 [.slice A s.P.length ca, .slice B s.Z.length cb, .slice C s.T.length cc]
  a : OwnI w base 3 A ca s.P
  b : OwnI w base 3 B cb s.Z
  c : OwnE w base 98 C cc s.T
  ab : Apart A B
  ac : Apart A C
  bc : Apart B C
  ga : ∀ k, blk A = some k → k ≠ gb
  gb' : ∀ k, blk B = some k → k ≠ gb
  gc : ∀ k, blk C = some k → k ≠ gb
def SetAt (w : World) (base gb : Nat) (s : SS) : Prop := ∃ A ca B cb C cc, SB w base gb s A ca B cb C cc
section
variable {w w' : World} {base gb ca cb cc : Nat} {s : SS} {A B C : Option Addr}
theorem SB.nx (h : SB w base gb s A ca B cb C cc) (hn : Nx w w') : SB w' base gb s A ca B cb C cc := ⟨h.bx.nx hn, h.a.nx hn, h.b.nx hn, h.c.nx hn, h.ab, h.ac, h.bc, h.ga, h.gb', h.gc⟩
theorem SetAt.nx (h : SetAt w base gb s) (hn : Nx w w') : SetAt w' base gb s := by
  obtain ⟨A, ca, B, cb, C, cc, h⟩ := h
  exact ⟨A, ca, B, cb, C, cc, h.nx hn⟩
theorem Apart.sym {A B : Option Addr} (h : Apart A B) : blk B = none ∨ blk B ≠ blk A := h.symm
/-- a cell of the parents turns -/
theorem SB.setP {g : Nat} (h : SB w base gb s (some ⟨g, 0, none⟩) ca B cb C cc) (i : Nat) (v : Int) : SB (w.setCell ⟨g, i, none⟩ (V v)) base gb ⟨s.P.set i v, s.Z, s.T⟩ (some ⟨g, 0, none⟩) ca B cb C cc := by
  have hg := grown_setCell w g i (V v)
  have hne : g ≠ gb := h.ga g rfl
  exact ⟨by have := h.bx.far (p := ⟨g, i, none⟩) hne (V v); simpa using this, h.a.set i v, h.b.kept hg h.ab.sym, h.c.kept hg h.ac.sym, h.ab, h.ac, h.bc, h.ga, h.gb', h.gc⟩
theorem SB.setZ {g : Nat} (h : SB w base gb s A ca (some ⟨g, 0, none⟩) cb C cc) (i : Nat) (v : Int) : SB (w.setCell ⟨g, i, none⟩ (V v)) base gb ⟨s.P, s.Z.set i v, s.T⟩ A ca (some ⟨g, 0, none⟩) cb C cc := by
  have hg := grown_setCell w g i (V v)
  have hne : g ≠ gb := h.gb' g rfl
  exact ⟨by have := h.bx.far (p := ⟨g, i, none⟩) hne (V v); simpa using this, h.a.kept hg h.ab, h.b.set i v, h.c.kept hg h.bc.sym, h.ab, h.ac, h.bc, h.ga, h.gb', h.gc⟩
/-- a step more: the row has grown, and the box knows it -/
theorem SB.push {C' : Option Addr} {cc' : Nat} {t : Int × Int} (h : SB w base gb s A ca B cb C cc) (hb : gb < w.heap.size) (hg : w.grownBy w' (blk C)) (ho : OwnE w' base 98 C' cc' (s.T ++ [t])) (hC : blk C' = blk C ∨ blk C' = some w.heap.size) :
    SB (w'.setCell ⟨gb, 2, none⟩ (.slice C' (s.T.length + 1) cc')) base gb ⟨s.P, s.Z, s.T ++ [t]⟩ A ca B cb C' cc' := by
  have sep : ∀ {X : Option Addr}, Apart X C → (∀ k, blk X = some k → k < w.heap.size) → Apart X C' := fun {X} h1 h2 => by
    unfold Apart at *
    rcases hC with e | e
    · rw [e]; exact h1
    · rw [e]
      cases hX : blk X with
      | none => exact .inl rfl
      | some k => exact .inr fun e2 => by injection e2 with e2; have := h2 k hX; omega
  have hgc : ∀ k, blk C' = some k → k ≠ gb := fun k hk => by
    rcases hC with e | e
    · exact h.gc k (e ▸ hk)
    · rw [e] at hk; injection hk with hk; omega
  have hg2 := grown_setCell w' gb 2 (.slice C' (s.T.length + 1) cc')
  have ne : ∀ {X : Option Addr}, (∀ k, blk X = some k → k ≠ gb) → (blk X = none ∨ blk X ≠ some gb) := fun {X} h => apart_ne h
  refine ⟨?_, (h.a.kept hg h.ac).kept hg2 (ne h.ga), (h.b.kept hg h.bc).kept hg2 (ne h.gb'), ho.kept hg2 (ne hgc), h.ab, sep h.ac (fun k hk => (h.a.lt k hk).2), sep h.bc (fun k hk => (h.b.lt k hk).2), h.ga, h.gb', hgc⟩
  have h1 := h.bx.grown hg (fun e => h.gc gb e rfl)
  have h2 := h1.set (j := 2) (.slice C' (s.T.length + 1) cc')
  simpa using h2
end
/-- what a step leaves -/
def Stepped (base gb : Nat) (s : SS) (t : Int × Int) (w : World) (e : Ending) (w' : World) : Prop :=
  e = .returned (.bool (stOk s.P s.Z s.T.length t)) ∧ SetAt w' base gb (stS s t) ∧ Gx (fun k => base ≤ k) w w'
theorem Stepped.no {base gb : Nat} {s : SS} {t : Int × Int} {w w' : World} (h : SetAt w base gb s) (hn : Nx w w') (hk : stOk s.P s.Z s.T.length t = false) : Stepped base gb s t w (.returned (.bool false)) w' :=
  ⟨by rw [hk], by unfold stS; rw [if_neg (by simp [hk])]; exact h.nx hn, (Gx.refl _ _).nx hn⟩
theorem Stepped.yes {base gb : Nat} {s : SS} {t : Int × Int} {w w' : World} (hk : stOk s.P s.Z s.T.length t = true) (h : SetAt w' base gb ⟨stP s.P t, stZ s.Z t, s.T ++ [t]⟩) (hg : Gx (fun k => base ≤ k) w w') : Stepped base gb s t w (.returned (.bool true)) w' :=
  ⟨by rw [hk], by unfold stS; rw [if_pos hk]; exact h, hg⟩
theorem edgesOneS {w : World} {b : Nat} {x y : Int} (hb : b < w.heap.size) (h0 : w.cell? ⟨b, 0, none⟩ = some (V x)) (h1 : w.cell? ⟨b, 1, none⟩ = some (V y)) : EdgesAt w (some ⟨b, 0, none⟩) [(x, y)] := fun _ =>
  ⟨b, 0, rfl, hb, fun k hk => by simp at hk; subst hk; exact ⟨h0, h1⟩⟩

set_option maxRecDepth 100000 in
set_option maxHeartbeats 8000000 in
theorem step_c (base gb N : Nat) (s : SS) (c r : Int) (w : World) (hs : SetAt w base gb s) (hbase : base ≤ gb) (hN : s.P.length = N) (hZ : s.Z.length = N) (hN1 : 1 ≤ N) (hN16 : N ≤ 16) (hT : s.T.length ≤ 100)
    (hz : ∀ x : Int, 0 ≤ x → x < N → 0 ≤ lk s.Z x ∧ lk s.Z x ≤ 16) :
    Calls Try.prog 127 #[.pointer (some ⟨gb, 0, none⟩), Ed c r] w (Stepped base gb s (c, r) w) := by
  obtain ⟨i0, hi, hz0, hz1, hz2⟩ := info_parts infoSt
  have Hi := Lib.hid hi
  have Hz0 := Lib.hid hz0
  have Hz1 := Lib.hid hz1
  have Hz2 := Lib.hid hz2
  clear hi hz0 hz1 hz2
  obtain ⟨A, ca, B, cb, C, cc, h⟩ := hs
  obtain ⟨l, hl⟩ : ∃ l, s.T.length = l := ⟨_, rfl⟩
  have X := h.bx
  rw [hN, hZ, hl] at X
  have X_z := X.lt
  have Hno := Lib.hid (fun (w' : World) (hn : Nx w w') (hk : stOk s.P s.Z s.T.length (c, r) = false) => Stepped.no ⟨A, ca, B, cb, C, cc, h⟩ hn hk)
  have HS := Lib.hid h
  have HA := Lib.hid h.a.intsAt
  have HB := Lib.hid h.b.intsAt
  have HN := Lib.hid hN
  have HZ := Lib.hid hZ
  have Hl := Lib.hid hl
  have Hz := Lib.hid hz
  rw [hl] at hT
  have Hok : Hid (stOk s.P s.Z s.T.length (c, r) = (decide (l ≠ 100) && isRt s.P r && (decide (c = -1) || (decide (c ≠ r) && isRt s.P c && isAb s.Z r c)))) := Lib.hid (by rw [hl]; rfl)
  clear h hN hZ hl hz
  by_cases e100 : ((l : Int) == 100) = true
  · go_enter Try.func127, Try.ntmps127
    go_wp2_with fail
    generalize hW1 : World.alloc _ _ = W1
    have gW1 : Nx w W1 := by subst hW1; exact (by repeat (first | exact Nx.refl _ | assumption | apply Nx.alloc | apply Nx.drew | apply Nx.drewN | (refine Nx.setCell ?_ (by first | (simp; done) | (simp; omega) | omega) _) | refine Nx.trans ?_ (by assumption)))
    have sW1 : W1.heap.size = w.heap.size + 1 := by subst hW1; simp
    have T : Bx W1 (w.heap.size) 98 [V c, V r] := by subst hW1; have h := Bx.alloc w 98 [V c, V r]; simpa using h
    have T_0 := T.cell (j := 0) rfl
    have T_1 := T.cell (j := 1) rfl
    have T_z := T.lt
    have HsW1 := Lib.hid sW1
    have lW1 : w.heap.size + 1 ≤ W1.heap.size := by omega
    clear hW1 sW1
    replace X := X.nx gW1
    replace X_0 := X.cell (j := 0) rfl
    replace X_1 := X.cell (j := 1) rfl
    replace X_2 := X.cell (j := 2) rfl
    replace X_z := X.lt
    go_quiet (fail)
    go_wp2
    go_ret
    exact Hno.out _ (gW1.drewN _) (by rw [Hok.out]; have : l = 100 := (by simp at e100; omega); simp [this])
  · have e100 : ((l : Int) == 100) = false := by simpa using e100
    have hl100 : l < 100 := by simp at e100; omega
    have hr := fun w' hx => isRoot_c A B C N ca N cb l cc s.P r w' hx HN.out (by omega)
    obtain ⟨rb, hrb⟩ : ∃ rb, isRt s.P r = rb := ⟨_, rfl⟩
    rw [hrb] at hr
    have Hr := Lib.hid hr
    have Hrb := Lib.hid hrb
    clear hr hrb
    cases rb with
    | false =>
      go_enter Try.func127, Try.ntmps127
      go_wp2_with fail
      generalize hW1 : World.alloc _ _ = W1
      have gW1 : Nx w W1 := by subst hW1; exact (by repeat (first | exact Nx.refl _ | assumption | apply Nx.alloc | apply Nx.drew | apply Nx.drewN | (refine Nx.setCell ?_ (by first | (simp; done) | (simp; omega) | omega) _) | refine Nx.trans ?_ (by assumption)))
      have sW1 : W1.heap.size = w.heap.size + 1 := by subst hW1; simp
      have T : Bx W1 (w.heap.size) 98 [V c, V r] := by subst hW1; have h := Bx.alloc w 98 [V c, V r]; simpa using h
      have T_0 := T.cell (j := 0) rfl
      have T_1 := T.cell (j := 1) rfl
      have T_z := T.lt
      have HsW1 := Lib.hid sW1
      have lW1 : w.heap.size + 1 ≤ W1.heap.size := by omega
      clear hW1 sW1
      replace X := X.nx gW1
      replace X_0 := X.cell (j := 0) rfl
      replace X_1 := X.cell (j := 1) rfl
      replace X_2 := X.cell (j := 2) rfl
      replace X_z := X.lt
      have kp : ∀ w', Nx W1 w' → (fun w_ => Nx W1 w_ ∧ w_.cell? ⟨gb, 0, none⟩ = some (.slice A N ca) ∧ w_.cell? ⟨gb, 1, none⟩ = some (.slice B N cb) ∧ w_.cell? ⟨gb, 2, none⟩ = some (.slice C l cc) ∧ w_.cell? ⟨w.heap.size, 0, none⟩ = some (V c) ∧ w_.cell? ⟨w.heap.size, 1, none⟩ = some (V r)) w' := fun w' h => ⟨h, h.cell X_z X_0, h.cell X_z X_1, h.cell X_z X_2, h.cell T_z T_0, h.cell T_z T_1⟩
      have hdr : Nx W1 W1.drew := .drew (.refl _)
      have ha := HA.out.nx ((gW1).trans hdr)
      go_region_held3 (fun w_ => Nx W1 w_ ∧ w_.cell? ⟨gb, 0, none⟩ = some (.slice A N ca) ∧ w_.cell? ⟨gb, 1, none⟩ = some (.slice B N cb) ∧ w_.cell? ⟨gb, 2, none⟩ = some (.slice C l cc) ∧ w_.cell? ⟨w.heap.size, 0, none⟩ = some (V c) ∧ w_.cell? ⟨w.heap.size, 1, none⟩ = some (V r))
        (first | exact kp _ hdr | exact kp _ hn3)
        (first | (go_at_call 147; (with_reducible refine (Hr.out _ ha).mono ?_); rintro e w3 ⟨rfl, hn13⟩; have hn3 : Nx W1 w3 := hdr.trans hn13))
      clear kp hdr ha
      replace X := X.nx hn3
      replace X_0 := X.cell (j := 0) rfl
      replace X_1 := X.cell (j := 1) rfl
      replace X_2 := X.cell (j := 2) rfl
      replace X_z := X.lt
      replace T := T.nx hn3
      replace T_0 := T.cell (j := 0) rfl
      replace T_1 := T.cell (j := 1) rfl
      replace T_z := T.lt
      have hn03 : Nx w w3 := gW1.trans hn3
      go_wp2
      go_ret
      exact Hno.out _ hn03 (by rw [Hok.out, Hrb.out]; simp)
    | true =>
      obtain ⟨r0, r1, r2⟩ := isRt_iff.1 Hrb.out
      rw [HN.out] at r1
      obtain ⟨r, rfl⟩ := Int.eq_ofNat_of_zero_le r0
      have r1 : r < N := by omega
      clear r0 r2
      by_cases ec : (c != -1) = true
      · have hc := fun w' hx => isRoot_c A B C N ca N cb l cc s.P c w' hx HN.out (by omega)
        obtain ⟨cbv, hcb⟩ : ∃ cb, isRt s.P c = cb := ⟨_, rfl⟩
        rw [hcb] at hc
        have Hc := Lib.hid hc
        have Hcb := Lib.hid hcb
        clear hc hcb
        by_cases er : (c == (r : Int)) = true
        · go_enter Try.func127, Try.ntmps127
          go_wp2_with fail
          generalize hW1 : World.alloc _ _ = W1
          have gW1 : Nx w W1 := by subst hW1; exact (by repeat (first | exact Nx.refl _ | assumption | apply Nx.alloc | apply Nx.drew | apply Nx.drewN | (refine Nx.setCell ?_ (by first | (simp; done) | (simp; omega) | omega) _) | refine Nx.trans ?_ (by assumption)))
          have sW1 : W1.heap.size = w.heap.size + 1 := by subst hW1; simp
          have T : Bx W1 (w.heap.size) 98 [V c, V r] := by subst hW1; have h := Bx.alloc w 98 [V c, V r]; simpa using h
          have T_0 := T.cell (j := 0) rfl
          have T_1 := T.cell (j := 1) rfl
          have T_z := T.lt
          have HsW1 := Lib.hid sW1
          have lW1 : w.heap.size + 1 ≤ W1.heap.size := by omega
          clear hW1 sW1
          replace X := X.nx gW1
          replace X_0 := X.cell (j := 0) rfl
          replace X_1 := X.cell (j := 1) rfl
          replace X_2 := X.cell (j := 2) rfl
          replace X_z := X.lt
          have kp : ∀ w', Nx W1 w' → (fun w_ => Nx W1 w_ ∧ w_.cell? ⟨gb, 0, none⟩ = some (.slice A N ca) ∧ w_.cell? ⟨gb, 1, none⟩ = some (.slice B N cb) ∧ w_.cell? ⟨gb, 2, none⟩ = some (.slice C l cc) ∧ w_.cell? ⟨w.heap.size, 0, none⟩ = some (V c) ∧ w_.cell? ⟨w.heap.size, 1, none⟩ = some (V r)) w' := fun w' h => ⟨h, h.cell X_z X_0, h.cell X_z X_1, h.cell X_z X_2, h.cell T_z T_0, h.cell T_z T_1⟩
          have hdr : Nx W1 W1.drew := .drew (.refl _)
          have ha := HA.out.nx ((gW1).trans hdr)
          go_region_held3 (fun w_ => Nx W1 w_ ∧ w_.cell? ⟨gb, 0, none⟩ = some (.slice A N ca) ∧ w_.cell? ⟨gb, 1, none⟩ = some (.slice B N cb) ∧ w_.cell? ⟨gb, 2, none⟩ = some (.slice C l cc) ∧ w_.cell? ⟨w.heap.size, 0, none⟩ = some (V c) ∧ w_.cell? ⟨w.heap.size, 1, none⟩ = some (V r))
            (first | exact kp _ hdr | exact kp _ hn3)
            (first | (go_at_call 147; (with_reducible refine (Hr.out _ ha).mono ?_); rintro e w3 ⟨rfl, hn13⟩; have hn3 : Nx W1 w3 := hdr.trans hn13))
          clear kp hdr ha
          replace X := X.nx hn3
          replace X_0 := X.cell (j := 0) rfl
          replace X_1 := X.cell (j := 1) rfl
          replace X_2 := X.cell (j := 2) rfl
          replace X_z := X.lt
          replace T := T.nx hn3
          replace T_0 := T.cell (j := 0) rfl
          replace T_1 := T.cell (j := 1) rfl
          replace T_z := T.lt
          have hn03 : Nx w w3 := gW1.trans hn3
          go_wp2_with fail
          go_quiet (fail)
          go_wp2
          go_ret
          exact Hno.out _ (hn03.drewN _) (by rw [Hok.out]; have : c = r := (by simpa using er); have h2 : c ≠ -1 := (by simpa using ec); simp [this])
        · have er : (c == (r : Int)) = false := by simpa using er
          cases cbv with
          | false =>
            go_enter Try.func127, Try.ntmps127
            go_wp2_with fail
            generalize hW1 : World.alloc _ _ = W1
            have gW1 : Nx w W1 := by subst hW1; exact (by repeat (first | exact Nx.refl _ | assumption | apply Nx.alloc | apply Nx.drew | apply Nx.drewN | (refine Nx.setCell ?_ (by first | (simp; done) | (simp; omega) | omega) _) | refine Nx.trans ?_ (by assumption)))
            have sW1 : W1.heap.size = w.heap.size + 1 := by subst hW1; simp
            have T : Bx W1 (w.heap.size) 98 [V c, V r] := by subst hW1; have h := Bx.alloc w 98 [V c, V r]; simpa using h
            have T_0 := T.cell (j := 0) rfl
            have T_1 := T.cell (j := 1) rfl
            have T_z := T.lt
            have HsW1 := Lib.hid sW1
            have lW1 : w.heap.size + 1 ≤ W1.heap.size := by omega
            clear hW1 sW1
            replace X := X.nx gW1
            replace X_0 := X.cell (j := 0) rfl
            replace X_1 := X.cell (j := 1) rfl
            replace X_2 := X.cell (j := 2) rfl
            replace X_z := X.lt
            have kp : ∀ w', Nx W1 w' → (fun w_ => Nx W1 w_ ∧ w_.cell? ⟨gb, 0, none⟩ = some (.slice A N ca) ∧ w_.cell? ⟨gb, 1, none⟩ = some (.slice B N cb) ∧ w_.cell? ⟨gb, 2, none⟩ = some (.slice C l cc) ∧ w_.cell? ⟨w.heap.size, 0, none⟩ = some (V c) ∧ w_.cell? ⟨w.heap.size, 1, none⟩ = some (V r)) w' := fun w' h => ⟨h, h.cell X_z X_0, h.cell X_z X_1, h.cell X_z X_2, h.cell T_z T_0, h.cell T_z T_1⟩
            have hdr : Nx W1 W1.drew := .drew (.refl _)
            have ha := HA.out.nx ((gW1).trans hdr)
            go_region_held3 (fun w_ => Nx W1 w_ ∧ w_.cell? ⟨gb, 0, none⟩ = some (.slice A N ca) ∧ w_.cell? ⟨gb, 1, none⟩ = some (.slice B N cb) ∧ w_.cell? ⟨gb, 2, none⟩ = some (.slice C l cc) ∧ w_.cell? ⟨w.heap.size, 0, none⟩ = some (V c) ∧ w_.cell? ⟨w.heap.size, 1, none⟩ = some (V r))
              (first | exact kp _ hdr | exact kp _ hn3)
              (first | (go_at_call 147; (with_reducible refine (Hr.out _ ha).mono ?_); rintro e w3 ⟨rfl, hn13⟩; have hn3 : Nx W1 w3 := hdr.trans hn13))
            clear kp hdr ha
            replace X := X.nx hn3
            replace X_0 := X.cell (j := 0) rfl
            replace X_1 := X.cell (j := 1) rfl
            replace X_2 := X.cell (j := 2) rfl
            replace X_z := X.lt
            replace T := T.nx hn3
            replace T_0 := T.cell (j := 0) rfl
            replace T_1 := T.cell (j := 1) rfl
            replace T_z := T.lt
            have hn03 : Nx w w3 := gW1.trans hn3
            go_wp2_with fail
            have kp : ∀ w', Nx w3 w' → (fun w_ => Nx w3 w_ ∧ w_.cell? ⟨gb, 0, none⟩ = some (.slice A N ca) ∧ w_.cell? ⟨gb, 1, none⟩ = some (.slice B N cb) ∧ w_.cell? ⟨gb, 2, none⟩ = some (.slice C l cc) ∧ w_.cell? ⟨w.heap.size, 0, none⟩ = some (V c) ∧ w_.cell? ⟨w.heap.size, 1, none⟩ = some (V r)) w' := fun w' h => ⟨h, h.cell X_z X_0, h.cell X_z X_1, h.cell X_z X_2, h.cell T_z T_0, h.cell T_z T_1⟩
            have hdr : Nx w3 w3.drew := .drew (.refl _)
            have hb := HB.out.nx ((hn03).trans hdr)
            have ha := HA.out.nx ((hn03).trans hdr)
            refine wp_region_held_drew (S := (fun w_ => Nx w3 w_ ∧ w_.cell? ⟨gb, 0, none⟩ = some (.slice A N ca) ∧ w_.cell? ⟨gb, 1, none⟩ = some (.slice B N cb) ∧ w_.cell? ⟨gb, 2, none⟩ = some (.slice C l cc) ∧ w_.cell? ⟨w.heap.size, 0, none⟩ = some (V c) ∧ w_.cell? ⟨w.heap.size, 1, none⟩ = some (V r))) (by kernel_rfl) (kp _ hdr) (fun hHeld => ?_)
            refine wpAnyH_take (i := 0) (oi := ?oir1_0) (v := ?vr1_0) ?hir1_0 (by kernel_rfl) (by kernel_rfl) (by kernel_rfl) ?hQr1_0 (Or.inl ⟨?hwr1_0, ?hyr1_0⟩) (by assumption) ?restr1_0
            case hir1_0 => (simp only [List.getElem?_toArray, List.getElem?_cons_succ, List.getElem?_cons_zero]; rfl)
            case hwr1_0 => rfl
            case hyr1_0 => (intro w hSw; (try dsimp only at hSw); go_simp; (try with_reducible rfl))
            case hQr1_0 => exact fun _ _ _ h => h
            (try simp only [Act.put, List.setIfInBounds_toArray, List.set_cons_zero, List.set_cons_succ])
            refine wpAnyH_take (i := 1) (oi := ?oir1_1) (v := ?vr1_1) ?hir1_1 (by kernel_rfl) (by kernel_rfl) (by kernel_rfl) ?hQr1_1 (Or.inl ⟨?hwr1_1, ?hyr1_1⟩) (by assumption) ?restr1_1
            case hir1_1 => (simp only [List.getElem?_toArray, List.getElem?_cons_succ, List.getElem?_cons_zero]; rfl)
            case hwr1_1 => rfl
            case hyr1_1 => (intro w hSw; (try dsimp only at hSw); go_simp; (try with_reducible rfl))
            case hQr1_1 => exact fun _ _ _ h => h
            (try simp only [Act.put, List.setIfInBounds_toArray, List.set_cons_zero, List.set_cons_succ])
            refine wpAnyH_take (i := 2) (oi := ?oir1_2) (v := ?vr1_2) ?hir1_2 (by kernel_rfl) (by kernel_rfl) (by kernel_rfl) ?hQr1_2 (Or.inl ⟨?hwr1_2, ?hyr1_2⟩) (by assumption) ?restr1_2
            case hir1_2 => (simp only [List.getElem?_toArray, List.getElem?_cons_succ, List.getElem?_cons_zero]; rfl)
            case hwr1_2 => rfl
            case hyr1_2 => (intro w hSw; (try dsimp only at hSw); go_simp; (try with_reducible rfl))
            case hQr1_2 => exact fun _ _ _ h => h
            (try simp only [Act.put, List.setIfInBounds_toArray, List.set_cons_zero, List.set_cons_succ])
            refine wpAnyH_take (i := 3) (oi := ?oir1_3) (v := ?vr1_3) ?hir1_3 (by kernel_rfl) (by kernel_rfl) (by kernel_rfl) ?hQr1_3 (Or.inl ⟨?hwr1_3, ?hyr1_3⟩) (by assumption) ?restr1_3
            case hir1_3 => (simp only [List.getElem?_toArray, List.getElem?_cons_succ, List.getElem?_cons_zero]; rfl)
            case hwr1_3 => rfl
            case hyr1_3 => (intro w hSw; (try dsimp only at hSw); go_simp; (try with_reducible rfl))
            case hQr1_3 => exact fun _ _ _ h => h
            (try simp only [Act.put, List.setIfInBounds_toArray, List.set_cons_zero, List.set_cons_succ])
            refine wpAnyH_take (i := 4) (oi := ?oir1_4) (v := ?vr1_4) ?hir1_4 (by kernel_rfl) (by kernel_rfl) (by kernel_rfl) ?hQr1_4 (Or.inl ⟨?hwr1_4, ?hyr1_4⟩) (by assumption) ?restr1_4
            case hir1_4 => (simp only [List.getElem?_toArray, List.getElem?_cons_succ, List.getElem?_cons_zero]; rfl)
            case hwr1_4 => rfl
            case hyr1_4 => (intro w hSw; (try dsimp only at hSw); go_simp; (try with_reducible rfl))
            case hQr1_4 => exact fun _ _ _ h => h
            (try simp only [Act.put, List.setIfInBounds_toArray, List.set_cons_zero, List.set_cons_succ])
            refine wpAnyH_take (i := 5) (oi := ?oir1_5) (v := ?vr1_5) ?hir1_5 (by kernel_rfl) (by kernel_rfl) (by kernel_rfl) ?hQr1_5 (Or.inl ⟨?hwr1_5, ?hyr1_5⟩) (by assumption) ?restr1_5
            case hir1_5 => (simp only [List.getElem?_toArray, List.getElem?_cons_succ, List.getElem?_cons_zero]; rfl)
            case hwr1_5 => rfl
            case hyr1_5 => (intro w hSw; (try dsimp only at hSw); go_simp; (try with_reducible rfl))
            case hQr1_5 => exact fun _ _ _ h => h
            (try simp only [Act.put, List.setIfInBounds_toArray, List.set_cons_zero, List.set_cons_succ])
            refine wpAnyH_take (i := 6) (oi := ?oir1_6) (v := ?vr1_6) ?hir1_6 (by kernel_rfl) (by kernel_rfl) (by kernel_rfl) ?hQr1_6 (Or.inl ⟨?hwr1_6, ?hyr1_6⟩) (by assumption) ?restr1_6
            case hir1_6 => (simp only [List.getElem?_toArray, List.getElem?_cons_succ, List.getElem?_cons_zero]; rfl)
            case hwr1_6 => rfl
            case hyr1_6 => (intro w hSw; (try dsimp only at hSw); go_simp; (try with_reducible rfl))
            case hQr1_6 => exact fun _ _ _ h => h
            (try simp only [Act.put, List.setIfInBounds_toArray, List.set_cons_zero, List.set_cons_succ])
            refine wpAnyH_take (i := 7) (oi := ?oir1_7) (v := ?vr1_7) ?hir1_7 (by kernel_rfl) (by kernel_rfl) (by kernel_rfl) ?hQr1_7 (Or.inl ⟨?hwr1_7, ?hyr1_7⟩) (by assumption) ?restr1_7
            case hir1_7 => (simp only [List.getElem?_toArray, List.getElem?_cons_succ, List.getElem?_cons_zero]; rfl)
            case hwr1_7 => rfl
            case hyr1_7 => (intro w hSw; (try dsimp only at hSw); go_simp; (try with_reducible rfl))
            case hQr1_7 => exact fun _ _ _ h => h
            (try simp only [Act.put, List.setIfInBounds_toArray, List.set_cons_zero, List.set_cons_succ])
            refine wpAnyH_take (i := 8) (oi := ?oir1_8) (v := ?vr1_8) ?hir1_8 (by kernel_rfl) (by kernel_rfl) (by kernel_rfl) ?hQr1_8 (Or.inl ⟨?hwr1_8, ?hyr1_8⟩) (by assumption) ?restr1_8
            case hir1_8 => (simp only [List.getElem?_toArray, List.getElem?_cons_succ, List.getElem?_cons_zero]; rfl)
            case hwr1_8 => rfl
            case hyr1_8 => (intro w hSw; (try dsimp only at hSw); go_simp; (try with_reducible rfl))
            case hQr1_8 => exact fun _ _ _ h => h
            (try simp only [Act.put, List.setIfInBounds_toArray, List.set_cons_zero, List.set_cons_succ])
            refine wpAnyH_take (i := 9) (oi := ?oir1_9) (v := ?vr1_9) ?hir1_9 (by kernel_rfl) (by kernel_rfl) (by kernel_rfl) ?hQr1_9 (Or.inl ⟨?hwr1_9, ?hyr1_9⟩) (by assumption) ?restr1_9
            case hir1_9 => (simp only [List.getElem?_toArray, List.getElem?_cons_succ, List.getElem?_cons_zero]; rfl)
            case hwr1_9 => rfl
            case hyr1_9 => (intro w hSw; (try dsimp only at hSw); go_simp; (try with_reducible rfl))
            case hQr1_9 => exact fun _ _ _ h => h
            (try simp only [Act.put, List.setIfInBounds_toArray, List.set_cons_zero, List.set_cons_succ])
            refine wpAnyH_take (i := 10) (oi := ?oir1_10) (v := ?vr1_10) ?hir1_10 (by kernel_rfl) (by kernel_rfl) (by kernel_rfl) ?hQr1_10 (Or.inl ⟨?hwr1_10, ?hyr1_10⟩) (by assumption) ?restr1_10
            case hir1_10 => (simp only [List.getElem?_toArray, List.getElem?_cons_succ, List.getElem?_cons_zero]; rfl)
            case hwr1_10 => rfl
            case hyr1_10 => (intro w hSw; (try dsimp only at hSw); go_simp; (try with_reducible rfl))
            case hQr1_10 => exact fun _ _ _ h => h
            (try simp only [Act.put, List.setIfInBounds_toArray, List.set_cons_zero, List.set_cons_succ])
            refine wpAnyH_ready (rs := [11]) (by kernel_rfl) (by simp) ?_
            refine AllReadyH.cons rfl (fun K hK => ?_) AllReadyH.nil
            go_simp
            refine (Hc.out _ ha).mono ?_
            rintro e w4 ⟨rfl, hn34⟩
            have hn4 : Nx w3 w4 := hdr.trans hn34
            refine hK.out _ _ (kp _ hn4) (fun hHeld => ?_)
            clear hK K
            (try simp only [Act.put, List.setIfInBounds_toArray, List.set_cons_zero, List.set_cons_succ])
            refine wpAnyH_take (i := 12) (oi := ?oir1_12) (v := ?vr1_12) ?hir1_12 (by kernel_rfl) (by kernel_rfl) (by kernel_rfl) ?hQr1_12 (Or.inl ⟨?hwr1_12, ?hyr1_12⟩) (by assumption) ?restr1_12
            case hir1_12 => (simp only [List.getElem?_toArray, List.getElem?_cons_succ, List.getElem?_cons_zero]; rfl)
            case hwr1_12 => rfl
            case hyr1_12 => (intro w hSw; (try dsimp only at hSw); go_simp; (try with_reducible rfl))
            case hQr1_12 => exact fun _ _ _ h => h
            (try simp only [Act.put, List.setIfInBounds_toArray, List.set_cons_zero, List.set_cons_succ])
            refine wpAnyH_take (i := 13) (oi := ?oir1_13) (v := ?vr1_13) ?hir1_13 (by kernel_rfl) (by kernel_rfl) (by kernel_rfl) ?hQr1_13 (Or.inl ⟨?hwr1_13, ?hyr1_13⟩) (by assumption) ?restr1_13
            case hir1_13 => (simp only [List.getElem?_toArray, List.getElem?_cons_succ, List.getElem?_cons_zero]; rfl)
            case hwr1_13 => rfl
            case hyr1_13 => (intro w hSw; (try dsimp only at hSw); go_simp; (try with_reducible rfl))
            case hQr1_13 => exact fun _ _ _ h => h
            (try simp only [Act.put, List.setIfInBounds_toArray, List.set_cons_zero, List.set_cons_succ])
            refine wpAnyH_take (i := 14) (oi := ?oir1_14) (v := ?vr1_14) ?hir1_14 (by kernel_rfl) (by kernel_rfl) (by kernel_rfl) ?hQr1_14 (Or.inl ⟨?hwr1_14, ?hyr1_14⟩) (by assumption) ?restr1_14
            case hir1_14 => (simp only [List.getElem?_toArray, List.getElem?_cons_succ, List.getElem?_cons_zero]; rfl)
            case hwr1_14 => rfl
            case hyr1_14 => (intro w hSw; (try dsimp only at hSw); go_simp; (try with_reducible rfl))
            case hQr1_14 => exact fun _ _ _ h => h
            (try simp only [Act.put, List.setIfInBounds_toArray, List.set_cons_zero, List.set_cons_succ])
            refine wpAnyH_take (i := 15) (oi := ?oir1_15) (v := undef) ?hir1_15 (by kernel_rfl) (by kernel_rfl) (by kernel_rfl) ?hQr1_15 (Or.inr ⟨?hwr1_15, rfl⟩) (by assumption) ?restr1_15
            case hir1_15 => (simp only [List.getElem?_toArray, List.getElem?_cons_succ, List.getElem?_cons_zero]; rfl)
            case hwr1_15 => rfl
            case hQr1_15 => exact fun _ _ _ h => h
            (try simp only [Act.put, List.setIfInBounds_toArray, List.set_cons_zero, List.set_cons_succ])
            refine wpAnyH_take (i := 16) (oi := ?oir1_16) (v := undef) ?hir1_16 (by kernel_rfl) (by kernel_rfl) (by kernel_rfl) ?hQr1_16 (Or.inr ⟨?hwr1_16, rfl⟩) (by assumption) ?restr1_16
            case hir1_16 => (simp only [List.getElem?_toArray, List.getElem?_cons_succ, List.getElem?_cons_zero]; rfl)
            case hwr1_16 => rfl
            case hQr1_16 => exact fun _ _ _ h => h
            (try simp only [Act.put, List.setIfInBounds_toArray, List.set_cons_zero, List.set_cons_succ])
            refine wpAnyH_take (i := 17) (oi := ?oir1_17) (v := undef) ?hir1_17 (by kernel_rfl) (by kernel_rfl) (by kernel_rfl) ?hQr1_17 (Or.inr ⟨?hwr1_17, rfl⟩) (by assumption) ?restr1_17
            case hir1_17 => (simp only [List.getElem?_toArray, List.getElem?_cons_succ, List.getElem?_cons_zero]; rfl)
            case hwr1_17 => rfl
            case hQr1_17 => exact fun _ _ _ h => h
            (try simp only [Act.put, List.setIfInBounds_toArray, List.set_cons_zero, List.set_cons_succ])
            refine wpAnyH_take (i := 18) (oi := ?oir1_18) (v := undef) ?hir1_18 (by kernel_rfl) (by kernel_rfl) (by kernel_rfl) ?hQr1_18 (Or.inr ⟨?hwr1_18, rfl⟩) (by assumption) ?restr1_18
            case hir1_18 => (simp only [List.getElem?_toArray, List.getElem?_cons_succ, List.getElem?_cons_zero]; rfl)
            case hwr1_18 => rfl
            case hQr1_18 => exact fun _ _ _ h => h
            (try simp only [Act.put, List.setIfInBounds_toArray, List.set_cons_zero, List.set_cons_succ])
            refine wpAnyH_take (i := 19) (oi := ?oir1_19) (v := undef) ?hir1_19 (by kernel_rfl) (by kernel_rfl) (by kernel_rfl) ?hQr1_19 (Or.inr ⟨?hwr1_19, rfl⟩) (by assumption) ?restr1_19
            case hir1_19 => (simp only [List.getElem?_toArray, List.getElem?_cons_succ, List.getElem?_cons_zero]; rfl)
            case hwr1_19 => rfl
            case hQr1_19 => exact fun _ _ _ h => h
            (try simp only [Act.put, List.setIfInBounds_toArray, List.set_cons_zero, List.set_cons_succ])
            refine wpAnyH_take (i := 20) (oi := ?oir1_20) (v := undef) ?hir1_20 (by kernel_rfl) (by kernel_rfl) (by kernel_rfl) ?hQr1_20 (Or.inr ⟨?hwr1_20, rfl⟩) (by assumption) ?restr1_20
            case hir1_20 => (simp only [List.getElem?_toArray, List.getElem?_cons_succ, List.getElem?_cons_zero]; rfl)
            case hwr1_20 => rfl
            case hQr1_20 => exact fun _ _ _ h => h
            (try simp only [Act.put, List.setIfInBounds_toArray, List.set_cons_zero, List.set_cons_succ])
            refine wpAnyH_take (i := 21) (oi := ?oir1_21) (v := undef) ?hir1_21 (by kernel_rfl) (by kernel_rfl) (by kernel_rfl) ?hQr1_21 (Or.inr ⟨?hwr1_21, rfl⟩) (by assumption) ?restr1_21
            case hir1_21 => (simp only [List.getElem?_toArray, List.getElem?_cons_succ, List.getElem?_cons_zero]; rfl)
            case hwr1_21 => rfl
            case hQr1_21 => exact fun _ _ _ h => h
            (try simp only [Act.put, List.setIfInBounds_toArray, List.set_cons_zero, List.set_cons_succ])
            refine wpAnyH_take (i := 22) (oi := ?oir1_22) (v := undef) ?hir1_22 (by kernel_rfl) (by kernel_rfl) (by kernel_rfl) ?hQr1_22 (Or.inr ⟨?hwr1_22, rfl⟩) (by assumption) ?restr1_22
            case hir1_22 => (simp only [List.getElem?_toArray, List.getElem?_cons_succ, List.getElem?_cons_zero]; rfl)
            case hwr1_22 => rfl
            case hQr1_22 => exact fun _ _ _ h => h
            (try simp only [Act.put, List.setIfInBounds_toArray, List.set_cons_zero, List.set_cons_succ])
            refine wpAnyH_take (i := 23) (oi := ?oir1_23) (v := undef) ?hir1_23 (by kernel_rfl) (by kernel_rfl) (by kernel_rfl) ?hQr1_23 (Or.inr ⟨?hwr1_23, rfl⟩) (by assumption) ?restr1_23
            case hir1_23 => (simp only [List.getElem?_toArray, List.getElem?_cons_succ, List.getElem?_cons_zero]; rfl)
            case hwr1_23 => rfl
            case hQr1_23 => exact fun _ _ _ h => h
            (try simp only [Act.put, List.setIfInBounds_toArray, List.set_cons_zero, List.set_cons_succ])
            refine wpAnyH_take (i := 24) (oi := ?oir1_24) (v := ?vr1_24) ?hir1_24 (by kernel_rfl) (by kernel_rfl) (by kernel_rfl) ?hQr1_24 (Or.inl ⟨?hwr1_24, ?hyr1_24⟩) (by assumption) ?restr1_24
            case hir1_24 => (simp only [List.getElem?_toArray, List.getElem?_cons_succ, List.getElem?_cons_zero]; rfl)
            case hwr1_24 => rfl
            case hyr1_24 => (intro w hSw; (try dsimp only at hSw); go_simp; (try with_reducible rfl))
            case hQr1_24 => exact fun _ _ _ h => h
            (try simp only [Act.put, List.setIfInBounds_toArray, List.set_cons_zero, List.set_cons_succ])
            refine wpAnyH_done (by kernel_rfl) ?_ _
            all_goals go_wp2
            all_goals go_ret
            all_goals exact Hno.out _ (hn03.trans hn4) (by rw [Hok.out, Hcb.out]; have h2 : c ≠ -1 := (by simpa using ec); simp [h2])
          | true =>
            obtain ⟨c0, c1, c2⟩ := isRt_iff.1 Hcb.out
            rw [HN.out] at c1
            obtain ⟨c, rfl⟩ := Int.eq_ofNat_of_zero_le c0
            have c1 : c < N := by omega
            clear c0 c2
            have hab := fun w' hx => isAbove_c A B C N ca N cb l cc s.Z r c w' hx HZ.out (by omega) (by omega) (by omega)
            obtain ⟨ab, habv⟩ : ∃ ab, isAb s.Z (r : Int) (c : Int) = ab := ⟨_, rfl⟩
            rw [habv] at hab
            have Hab := Lib.hid hab
            have Habv := Lib.hid habv
            clear hab habv
            cases ab with
            | false =>
              go_enter Try.func127, Try.ntmps127
              go_wp2_with fail
              generalize hW1 : World.alloc _ _ = W1
              have gW1 : Nx w W1 := by subst hW1; exact (by repeat (first | exact Nx.refl _ | assumption | apply Nx.alloc | apply Nx.drew | apply Nx.drewN | (refine Nx.setCell ?_ (by first | (simp; done) | (simp; omega) | omega) _) | refine Nx.trans ?_ (by assumption)))
              have sW1 : W1.heap.size = w.heap.size + 1 := by subst hW1; simp
              have T : Bx W1 (w.heap.size) 98 [V c, V r] := by subst hW1; have h := Bx.alloc w 98 [V c, V r]; simpa using h
              have T_0 := T.cell (j := 0) rfl
              have T_1 := T.cell (j := 1) rfl
              have T_z := T.lt
              have HsW1 := Lib.hid sW1
              have lW1 : w.heap.size + 1 ≤ W1.heap.size := by omega
              clear hW1 sW1
              replace X := X.nx gW1
              replace X_0 := X.cell (j := 0) rfl
              replace X_1 := X.cell (j := 1) rfl
              replace X_2 := X.cell (j := 2) rfl
              replace X_z := X.lt
              have kp : ∀ w', Nx W1 w' → (fun w_ => Nx W1 w_ ∧ w_.cell? ⟨gb, 0, none⟩ = some (.slice A N ca) ∧ w_.cell? ⟨gb, 1, none⟩ = some (.slice B N cb) ∧ w_.cell? ⟨gb, 2, none⟩ = some (.slice C l cc) ∧ w_.cell? ⟨w.heap.size, 0, none⟩ = some (V c) ∧ w_.cell? ⟨w.heap.size, 1, none⟩ = some (V r)) w' := fun w' h => ⟨h, h.cell X_z X_0, h.cell X_z X_1, h.cell X_z X_2, h.cell T_z T_0, h.cell T_z T_1⟩
              have hdr : Nx W1 W1.drew := .drew (.refl _)
              have ha := HA.out.nx ((gW1).trans hdr)
              go_region_held3 (fun w_ => Nx W1 w_ ∧ w_.cell? ⟨gb, 0, none⟩ = some (.slice A N ca) ∧ w_.cell? ⟨gb, 1, none⟩ = some (.slice B N cb) ∧ w_.cell? ⟨gb, 2, none⟩ = some (.slice C l cc) ∧ w_.cell? ⟨w.heap.size, 0, none⟩ = some (V c) ∧ w_.cell? ⟨w.heap.size, 1, none⟩ = some (V r))
                (first | exact kp _ hdr | exact kp _ hn3)
                (first | (go_at_call 147; (with_reducible refine (Hr.out _ ha).mono ?_); rintro e w3 ⟨rfl, hn13⟩; have hn3 : Nx W1 w3 := hdr.trans hn13))
              clear kp hdr ha
              replace X := X.nx hn3
              replace X_0 := X.cell (j := 0) rfl
              replace X_1 := X.cell (j := 1) rfl
              replace X_2 := X.cell (j := 2) rfl
              replace X_z := X.lt
              replace T := T.nx hn3
              replace T_0 := T.cell (j := 0) rfl
              replace T_1 := T.cell (j := 1) rfl
              replace T_z := T.lt
              have hn03 : Nx w w3 := gW1.trans hn3
              go_wp2_with fail
              have kp : ∀ w', Nx w3 w' → (fun w_ => Nx w3 w_ ∧ w_.cell? ⟨gb, 0, none⟩ = some (.slice A N ca) ∧ w_.cell? ⟨gb, 1, none⟩ = some (.slice B N cb) ∧ w_.cell? ⟨gb, 2, none⟩ = some (.slice C l cc) ∧ w_.cell? ⟨w.heap.size, 0, none⟩ = some (V c) ∧ w_.cell? ⟨w.heap.size, 1, none⟩ = some (V r)) w' := fun w' h => ⟨h, h.cell X_z X_0, h.cell X_z X_1, h.cell X_z X_2, h.cell T_z T_0, h.cell T_z T_1⟩
              have hdr : Nx w3 w3.drew := .drew (.refl _)
              have hb := HB.out.nx ((hn03).trans hdr)
              have ha := HA.out.nx ((hn03).trans hdr)
              refine wp_region_held_drew (S := (fun w_ => Nx w3 w_ ∧ w_.cell? ⟨gb, 0, none⟩ = some (.slice A N ca) ∧ w_.cell? ⟨gb, 1, none⟩ = some (.slice B N cb) ∧ w_.cell? ⟨gb, 2, none⟩ = some (.slice C l cc) ∧ w_.cell? ⟨w.heap.size, 0, none⟩ = some (V c) ∧ w_.cell? ⟨w.heap.size, 1, none⟩ = some (V r))) (by kernel_rfl) (kp _ hdr) (fun hHeld => ?_)
              refine wpAnyH_take (i := 0) (oi := ?oir2_0) (v := ?vr2_0) ?hir2_0 (by kernel_rfl) (by kernel_rfl) (by kernel_rfl) ?hQr2_0 (Or.inl ⟨?hwr2_0, ?hyr2_0⟩) (by assumption) ?restr2_0
              case hir2_0 => (simp only [List.getElem?_toArray, List.getElem?_cons_succ, List.getElem?_cons_zero]; rfl)
              case hwr2_0 => rfl
              case hyr2_0 => (intro w hSw; (try dsimp only at hSw); go_simp; (try with_reducible rfl))
              case hQr2_0 => exact fun _ _ _ h => h
              (try simp only [Act.put, List.setIfInBounds_toArray, List.set_cons_zero, List.set_cons_succ])
              refine wpAnyH_take (i := 1) (oi := ?oir2_1) (v := ?vr2_1) ?hir2_1 (by kernel_rfl) (by kernel_rfl) (by kernel_rfl) ?hQr2_1 (Or.inl ⟨?hwr2_1, ?hyr2_1⟩) (by assumption) ?restr2_1
              case hir2_1 => (simp only [List.getElem?_toArray, List.getElem?_cons_succ, List.getElem?_cons_zero]; rfl)
              case hwr2_1 => rfl
              case hyr2_1 => (intro w hSw; (try dsimp only at hSw); go_simp; (try with_reducible rfl))
              case hQr2_1 => exact fun _ _ _ h => h
              (try simp only [Act.put, List.setIfInBounds_toArray, List.set_cons_zero, List.set_cons_succ])
              refine wpAnyH_take (i := 2) (oi := ?oir2_2) (v := ?vr2_2) ?hir2_2 (by kernel_rfl) (by kernel_rfl) (by kernel_rfl) ?hQr2_2 (Or.inl ⟨?hwr2_2, ?hyr2_2⟩) (by assumption) ?restr2_2
              case hir2_2 => (simp only [List.getElem?_toArray, List.getElem?_cons_succ, List.getElem?_cons_zero]; rfl)
              case hwr2_2 => rfl
              case hyr2_2 => (intro w hSw; (try dsimp only at hSw); go_simp; (try with_reducible rfl))
              case hQr2_2 => exact fun _ _ _ h => h
              (try simp only [Act.put, List.setIfInBounds_toArray, List.set_cons_zero, List.set_cons_succ])
              refine wpAnyH_take (i := 3) (oi := ?oir2_3) (v := ?vr2_3) ?hir2_3 (by kernel_rfl) (by kernel_rfl) (by kernel_rfl) ?hQr2_3 (Or.inl ⟨?hwr2_3, ?hyr2_3⟩) (by assumption) ?restr2_3
              case hir2_3 => (simp only [List.getElem?_toArray, List.getElem?_cons_succ, List.getElem?_cons_zero]; rfl)
              case hwr2_3 => rfl
              case hyr2_3 => (intro w hSw; (try dsimp only at hSw); go_simp; (try with_reducible rfl))
              case hQr2_3 => exact fun _ _ _ h => h
              (try simp only [Act.put, List.setIfInBounds_toArray, List.set_cons_zero, List.set_cons_succ])
              refine wpAnyH_take (i := 4) (oi := ?oir2_4) (v := ?vr2_4) ?hir2_4 (by kernel_rfl) (by kernel_rfl) (by kernel_rfl) ?hQr2_4 (Or.inl ⟨?hwr2_4, ?hyr2_4⟩) (by assumption) ?restr2_4
              case hir2_4 => (simp only [List.getElem?_toArray, List.getElem?_cons_succ, List.getElem?_cons_zero]; rfl)
              case hwr2_4 => rfl
              case hyr2_4 => (intro w hSw; (try dsimp only at hSw); go_simp; (try with_reducible rfl))
              case hQr2_4 => exact fun _ _ _ h => h
              (try simp only [Act.put, List.setIfInBounds_toArray, List.set_cons_zero, List.set_cons_succ])
              refine wpAnyH_take (i := 5) (oi := ?oir2_5) (v := ?vr2_5) ?hir2_5 (by kernel_rfl) (by kernel_rfl) (by kernel_rfl) ?hQr2_5 (Or.inl ⟨?hwr2_5, ?hyr2_5⟩) (by assumption) ?restr2_5
              case hir2_5 => (simp only [List.getElem?_toArray, List.getElem?_cons_succ, List.getElem?_cons_zero]; rfl)
              case hwr2_5 => rfl
              case hyr2_5 => (intro w hSw; (try dsimp only at hSw); go_simp; (try with_reducible rfl))
              case hQr2_5 => exact fun _ _ _ h => h
              (try simp only [Act.put, List.setIfInBounds_toArray, List.set_cons_zero, List.set_cons_succ])
              refine wpAnyH_take (i := 6) (oi := ?oir2_6) (v := ?vr2_6) ?hir2_6 (by kernel_rfl) (by kernel_rfl) (by kernel_rfl) ?hQr2_6 (Or.inl ⟨?hwr2_6, ?hyr2_6⟩) (by assumption) ?restr2_6
              case hir2_6 => (simp only [List.getElem?_toArray, List.getElem?_cons_succ, List.getElem?_cons_zero]; rfl)
              case hwr2_6 => rfl
              case hyr2_6 => (intro w hSw; (try dsimp only at hSw); go_simp; (try with_reducible rfl))
              case hQr2_6 => exact fun _ _ _ h => h
              (try simp only [Act.put, List.setIfInBounds_toArray, List.set_cons_zero, List.set_cons_succ])
              refine wpAnyH_take (i := 7) (oi := ?oir2_7) (v := ?vr2_7) ?hir2_7 (by kernel_rfl) (by kernel_rfl) (by kernel_rfl) ?hQr2_7 (Or.inl ⟨?hwr2_7, ?hyr2_7⟩) (by assumption) ?restr2_7
              case hir2_7 => (simp only [List.getElem?_toArray, List.getElem?_cons_succ, List.getElem?_cons_zero]; rfl)
              case hwr2_7 => rfl
              case hyr2_7 => (intro w hSw; (try dsimp only at hSw); go_simp; (try with_reducible rfl))
              case hQr2_7 => exact fun _ _ _ h => h
              (try simp only [Act.put, List.setIfInBounds_toArray, List.set_cons_zero, List.set_cons_succ])
              refine wpAnyH_take (i := 8) (oi := ?oir2_8) (v := ?vr2_8) ?hir2_8 (by kernel_rfl) (by kernel_rfl) (by kernel_rfl) ?hQr2_8 (Or.inl ⟨?hwr2_8, ?hyr2_8⟩) (by assumption) ?restr2_8
              case hir2_8 => (simp only [List.getElem?_toArray, List.getElem?_cons_succ, List.getElem?_cons_zero]; rfl)
              case hwr2_8 => rfl
              case hyr2_8 => (intro w hSw; (try dsimp only at hSw); go_simp; (try with_reducible rfl))
              case hQr2_8 => exact fun _ _ _ h => h
              (try simp only [Act.put, List.setIfInBounds_toArray, List.set_cons_zero, List.set_cons_succ])
              refine wpAnyH_take (i := 9) (oi := ?oir2_9) (v := ?vr2_9) ?hir2_9 (by kernel_rfl) (by kernel_rfl) (by kernel_rfl) ?hQr2_9 (Or.inl ⟨?hwr2_9, ?hyr2_9⟩) (by assumption) ?restr2_9
              case hir2_9 => (simp only [List.getElem?_toArray, List.getElem?_cons_succ, List.getElem?_cons_zero]; rfl)
              case hwr2_9 => rfl
              case hyr2_9 => (intro w hSw; (try dsimp only at hSw); go_simp; (try with_reducible rfl))
              case hQr2_9 => exact fun _ _ _ h => h
              (try simp only [Act.put, List.setIfInBounds_toArray, List.set_cons_zero, List.set_cons_succ])
              refine wpAnyH_take (i := 10) (oi := ?oir2_10) (v := ?vr2_10) ?hir2_10 (by kernel_rfl) (by kernel_rfl) (by kernel_rfl) ?hQr2_10 (Or.inl ⟨?hwr2_10, ?hyr2_10⟩) (by assumption) ?restr2_10
              case hir2_10 => (simp only [List.getElem?_toArray, List.getElem?_cons_succ, List.getElem?_cons_zero]; rfl)
              case hwr2_10 => rfl
              case hyr2_10 => (intro w hSw; (try dsimp only at hSw); go_simp; (try with_reducible rfl))
              case hQr2_10 => exact fun _ _ _ h => h
              (try simp only [Act.put, List.setIfInBounds_toArray, List.set_cons_zero, List.set_cons_succ])
              refine wpAnyH_ready (rs := [11]) (by kernel_rfl) (by simp) ?_
              refine AllReadyH.cons rfl (fun K hK => ?_) AllReadyH.nil
              go_simp
              refine (Hc.out _ ha).mono ?_
              rintro e w4 ⟨rfl, hn34⟩
              have hn4 : Nx w3 w4 := hdr.trans hn34
              refine hK.out _ _ (kp _ hn4) (fun hHeld => ?_)
              clear hK K
              (try simp only [Act.put, List.setIfInBounds_toArray, List.set_cons_zero, List.set_cons_succ])
              refine wpAnyH_take (i := 12) (oi := ?oir2_12) (v := ?vr2_12) ?hir2_12 (by kernel_rfl) (by kernel_rfl) (by kernel_rfl) ?hQr2_12 (Or.inl ⟨?hwr2_12, ?hyr2_12⟩) (by assumption) ?restr2_12
              case hir2_12 => (simp only [List.getElem?_toArray, List.getElem?_cons_succ, List.getElem?_cons_zero]; rfl)
              case hwr2_12 => rfl
              case hyr2_12 => (intro w hSw; (try dsimp only at hSw); go_simp; (try with_reducible rfl))
              case hQr2_12 => exact fun _ _ _ h => h
              (try simp only [Act.put, List.setIfInBounds_toArray, List.set_cons_zero, List.set_cons_succ])
              refine wpAnyH_take (i := 13) (oi := ?oir2_13) (v := ?vr2_13) ?hir2_13 (by kernel_rfl) (by kernel_rfl) (by kernel_rfl) ?hQr2_13 (Or.inl ⟨?hwr2_13, ?hyr2_13⟩) (by assumption) ?restr2_13
              case hir2_13 => (simp only [List.getElem?_toArray, List.getElem?_cons_succ, List.getElem?_cons_zero]; rfl)
              case hwr2_13 => rfl
              case hyr2_13 => (intro w hSw; (try dsimp only at hSw); go_simp; (try with_reducible rfl))
              case hQr2_13 => exact fun _ _ _ h => h
              (try simp only [Act.put, List.setIfInBounds_toArray, List.set_cons_zero, List.set_cons_succ])
              refine wpAnyH_take (i := 14) (oi := ?oir2_14) (v := ?vr2_14) ?hir2_14 (by kernel_rfl) (by kernel_rfl) (by kernel_rfl) ?hQr2_14 (Or.inl ⟨?hwr2_14, ?hyr2_14⟩) (by assumption) ?restr2_14
              case hir2_14 => (simp only [List.getElem?_toArray, List.getElem?_cons_succ, List.getElem?_cons_zero]; rfl)
              case hwr2_14 => rfl
              case hyr2_14 => (intro w hSw; (try dsimp only at hSw); go_simp; (try with_reducible rfl))
              case hQr2_14 => exact fun _ _ _ h => h
              (try simp only [Act.put, List.setIfInBounds_toArray, List.set_cons_zero, List.set_cons_succ])
              refine wpAnyH_take (i := 15) (oi := ?oir2_15) (v := ?vr2_15) ?hir2_15 (by kernel_rfl) (by kernel_rfl) (by kernel_rfl) ?hQr2_15 (Or.inl ⟨?hwr2_15, ?hyr2_15⟩) (by assumption) ?restr2_15
              case hir2_15 => (simp only [List.getElem?_toArray, List.getElem?_cons_succ, List.getElem?_cons_zero]; rfl)
              case hwr2_15 => rfl
              case hyr2_15 => (intro w hSw; (try dsimp only at hSw); go_simp; (try with_reducible rfl))
              case hQr2_15 => exact fun _ _ _ h => h
              (try simp only [Act.put, List.setIfInBounds_toArray, List.set_cons_zero, List.set_cons_succ])
              refine wpAnyH_take (i := 16) (oi := ?oir2_16) (v := ?vr2_16) ?hir2_16 (by kernel_rfl) (by kernel_rfl) (by kernel_rfl) ?hQr2_16 (Or.inl ⟨?hwr2_16, ?hyr2_16⟩) (by assumption) ?restr2_16
              case hir2_16 => (simp only [List.getElem?_toArray, List.getElem?_cons_succ, List.getElem?_cons_zero]; rfl)
              case hwr2_16 => rfl
              case hyr2_16 => (intro w hSw; (try dsimp only at hSw); go_simp; (try with_reducible rfl))
              case hQr2_16 => exact fun _ _ _ h => h
              (try simp only [Act.put, List.setIfInBounds_toArray, List.set_cons_zero, List.set_cons_succ])
              refine wpAnyH_take (i := 17) (oi := ?oir2_17) (v := ?vr2_17) ?hir2_17 (by kernel_rfl) (by kernel_rfl) (by kernel_rfl) ?hQr2_17 (Or.inl ⟨?hwr2_17, ?hyr2_17⟩) (by assumption) ?restr2_17
              case hir2_17 => (simp only [List.getElem?_toArray, List.getElem?_cons_succ, List.getElem?_cons_zero]; rfl)
              case hwr2_17 => rfl
              case hyr2_17 => (intro w hSw; (try dsimp only at hSw); go_simp; (try with_reducible rfl))
              case hQr2_17 => exact fun _ _ _ h => h
              (try simp only [Act.put, List.setIfInBounds_toArray, List.set_cons_zero, List.set_cons_succ])
              refine wpAnyH_take (i := 18) (oi := ?oir2_18) (v := ?vr2_18) ?hir2_18 (by kernel_rfl) (by kernel_rfl) (by kernel_rfl) ?hQr2_18 (Or.inl ⟨?hwr2_18, ?hyr2_18⟩) (by assumption) ?restr2_18
              case hir2_18 => (simp only [List.getElem?_toArray, List.getElem?_cons_succ, List.getElem?_cons_zero]; rfl)
              case hwr2_18 => rfl
              case hyr2_18 => (intro w hSw; (try dsimp only at hSw); go_simp; (try with_reducible rfl))
              case hQr2_18 => exact fun _ _ _ h => h
              (try simp only [Act.put, List.setIfInBounds_toArray, List.set_cons_zero, List.set_cons_succ])
              refine wpAnyH_take (i := 19) (oi := ?oir2_19) (v := ?vr2_19) ?hir2_19 (by kernel_rfl) (by kernel_rfl) (by kernel_rfl) ?hQr2_19 (Or.inl ⟨?hwr2_19, ?hyr2_19⟩) (by assumption) ?restr2_19
              case hir2_19 => (simp only [List.getElem?_toArray, List.getElem?_cons_succ, List.getElem?_cons_zero]; rfl)
              case hwr2_19 => rfl
              case hyr2_19 => (intro w hSw; (try dsimp only at hSw); go_simp; (try with_reducible rfl))
              case hQr2_19 => exact fun _ _ _ h => h
              (try simp only [Act.put, List.setIfInBounds_toArray, List.set_cons_zero, List.set_cons_succ])
              refine wpAnyH_take (i := 20) (oi := ?oir2_20) (v := ?vr2_20) ?hir2_20 (by kernel_rfl) (by kernel_rfl) (by kernel_rfl) ?hQr2_20 (Or.inl ⟨?hwr2_20, ?hyr2_20⟩) (by assumption) ?restr2_20
              case hir2_20 => (simp only [List.getElem?_toArray, List.getElem?_cons_succ, List.getElem?_cons_zero]; rfl)
              case hwr2_20 => rfl
              case hyr2_20 => (intro w hSw; (try dsimp only at hSw); go_simp; (try with_reducible rfl))
              case hQr2_20 => exact fun _ _ _ h => h
              (try simp only [Act.put, List.setIfInBounds_toArray, List.set_cons_zero, List.set_cons_succ])
              refine wpAnyH_take (i := 21) (oi := ?oir2_21) (v := ?vr2_21) ?hir2_21 (by kernel_rfl) (by kernel_rfl) (by kernel_rfl) ?hQr2_21 (Or.inl ⟨?hwr2_21, ?hyr2_21⟩) (by assumption) ?restr2_21
              case hir2_21 => (simp only [List.getElem?_toArray, List.getElem?_cons_succ, List.getElem?_cons_zero]; rfl)
              case hwr2_21 => rfl
              case hyr2_21 => (intro w hSw; (try dsimp only at hSw); go_simp; (try with_reducible rfl))
              case hQr2_21 => exact fun _ _ _ h => h
              (try simp only [Act.put, List.setIfInBounds_toArray, List.set_cons_zero, List.set_cons_succ])
              refine wpAnyH_ready (rs := [22]) (by kernel_rfl) (by simp) ?_
              refine AllReadyH.cons rfl (fun K hK => ?_) AllReadyH.nil
              go_simp
              refine (Hab.out _ (HB.out.nx (hn03.trans hn4))).mono ?_
              rintro e w5 ⟨rfl, hn45⟩
              have hn5 : Nx w3 w5 := hn4.trans hn45
              refine hK.out _ _ (kp _ hn5) (fun hHeld => ?_)
              clear hK K
              (try simp only [Act.put, List.setIfInBounds_toArray, List.set_cons_zero, List.set_cons_succ])
              refine wpAnyH_take (i := 23) (oi := ?oir2_23) (v := ?vr2_23) ?hir2_23 (by kernel_rfl) (by kernel_rfl) (by kernel_rfl) ?hQr2_23 (Or.inl ⟨?hwr2_23, ?hyr2_23⟩) (by assumption) ?restr2_23
              case hir2_23 => (simp only [List.getElem?_toArray, List.getElem?_cons_succ, List.getElem?_cons_zero]; rfl)
              case hwr2_23 => rfl
              case hyr2_23 => (intro w hSw; (try dsimp only at hSw); go_simp; (try with_reducible rfl))
              case hQr2_23 => exact fun _ _ _ h => h
              (try simp only [Act.put, List.setIfInBounds_toArray, List.set_cons_zero, List.set_cons_succ])
              refine wpAnyH_take (i := 24) (oi := ?oir2_24) (v := ?vr2_24) ?hir2_24 (by kernel_rfl) (by kernel_rfl) (by kernel_rfl) ?hQr2_24 (Or.inl ⟨?hwr2_24, ?hyr2_24⟩) (by assumption) ?restr2_24
              case hir2_24 => (simp only [List.getElem?_toArray, List.getElem?_cons_succ, List.getElem?_cons_zero]; rfl)
              case hwr2_24 => rfl
              case hyr2_24 => (intro w hSw; (try dsimp only at hSw); go_simp; (try with_reducible rfl))
              case hQr2_24 => exact fun _ _ _ h => h
              (try simp only [Act.put, List.setIfInBounds_toArray, List.set_cons_zero, List.set_cons_succ])
              refine wpAnyH_done (by kernel_rfl) ?_ _
              all_goals go_wp2
              all_goals go_ret
              all_goals exact Hno.out _ (hn03.trans hn5) (by rw [Hok.out, Hcb.out, Habv.out]; have h2 : ((c : Nat) : Int) ≠ -1 := (by omega); simp [h2])
            | true =>
              go_enter Try.func127, Try.ntmps127
              go_wp2_with fail
              generalize hW1 : World.alloc _ _ = W1
              have gW1 : Nx w W1 := by subst hW1; exact (by repeat (first | exact Nx.refl _ | assumption | apply Nx.alloc | apply Nx.drew | apply Nx.drewN | (refine Nx.setCell ?_ (by first | (simp; done) | (simp; omega) | omega) _) | refine Nx.trans ?_ (by assumption)))
              have sW1 : W1.heap.size = w.heap.size + 1 := by subst hW1; simp
              have T : Bx W1 (w.heap.size) 98 [V c, V r] := by subst hW1; have h := Bx.alloc w 98 [V c, V r]; simpa using h
              have T_0 := T.cell (j := 0) rfl
              have T_1 := T.cell (j := 1) rfl
              have T_z := T.lt
              have HsW1 := Lib.hid sW1
              have lW1 : w.heap.size + 1 ≤ W1.heap.size := by omega
              clear hW1 sW1
              replace X := X.nx gW1
              replace X_0 := X.cell (j := 0) rfl
              replace X_1 := X.cell (j := 1) rfl
              replace X_2 := X.cell (j := 2) rfl
              replace X_z := X.lt
              have kp : ∀ w', Nx W1 w' → (fun w_ => Nx W1 w_ ∧ w_.cell? ⟨gb, 0, none⟩ = some (.slice A N ca) ∧ w_.cell? ⟨gb, 1, none⟩ = some (.slice B N cb) ∧ w_.cell? ⟨gb, 2, none⟩ = some (.slice C l cc) ∧ w_.cell? ⟨w.heap.size, 0, none⟩ = some (V c) ∧ w_.cell? ⟨w.heap.size, 1, none⟩ = some (V r)) w' := fun w' h => ⟨h, h.cell X_z X_0, h.cell X_z X_1, h.cell X_z X_2, h.cell T_z T_0, h.cell T_z T_1⟩
              have hdr : Nx W1 W1.drew := .drew (.refl _)
              have ha := HA.out.nx ((gW1).trans hdr)
              go_region_held3 (fun w_ => Nx W1 w_ ∧ w_.cell? ⟨gb, 0, none⟩ = some (.slice A N ca) ∧ w_.cell? ⟨gb, 1, none⟩ = some (.slice B N cb) ∧ w_.cell? ⟨gb, 2, none⟩ = some (.slice C l cc) ∧ w_.cell? ⟨w.heap.size, 0, none⟩ = some (V c) ∧ w_.cell? ⟨w.heap.size, 1, none⟩ = some (V r))
                (first | exact kp _ hdr | exact kp _ hn3)
                (first | (go_at_call 147; (with_reducible refine (Hr.out _ ha).mono ?_); rintro e w3 ⟨rfl, hn13⟩; have hn3 : Nx W1 w3 := hdr.trans hn13))
              clear kp hdr ha
              replace X := X.nx hn3
              replace X_0 := X.cell (j := 0) rfl
              replace X_1 := X.cell (j := 1) rfl
              replace X_2 := X.cell (j := 2) rfl
              replace X_z := X.lt
              replace T := T.nx hn3
              replace T_0 := T.cell (j := 0) rfl
              replace T_1 := T.cell (j := 1) rfl
              replace T_z := T.lt
              have hn03 : Nx w w3 := gW1.trans hn3
              go_wp2_with fail
              have kp : ∀ w', Nx w3 w' → (fun w_ => Nx w3 w_ ∧ w_.cell? ⟨gb, 0, none⟩ = some (.slice A N ca) ∧ w_.cell? ⟨gb, 1, none⟩ = some (.slice B N cb) ∧ w_.cell? ⟨gb, 2, none⟩ = some (.slice C l cc) ∧ w_.cell? ⟨w.heap.size, 0, none⟩ = some (V c) ∧ w_.cell? ⟨w.heap.size, 1, none⟩ = some (V r)) w' := fun w' h => ⟨h, h.cell X_z X_0, h.cell X_z X_1, h.cell X_z X_2, h.cell T_z T_0, h.cell T_z T_1⟩
              have hdr : Nx w3 w3.drew := .drew (.refl _)
              have hb := HB.out.nx ((hn03).trans hdr)
              have ha := HA.out.nx ((hn03).trans hdr)
              refine wp_region_held_drew (S := (fun w_ => Nx w3 w_ ∧ w_.cell? ⟨gb, 0, none⟩ = some (.slice A N ca) ∧ w_.cell? ⟨gb, 1, none⟩ = some (.slice B N cb) ∧ w_.cell? ⟨gb, 2, none⟩ = some (.slice C l cc) ∧ w_.cell? ⟨w.heap.size, 0, none⟩ = some (V c) ∧ w_.cell? ⟨w.heap.size, 1, none⟩ = some (V r))) (by kernel_rfl) (kp _ hdr) (fun hHeld => ?_)
              refine wpAnyH_take (i := 0) (oi := ?oir3_0) (v := ?vr3_0) ?hir3_0 (by kernel_rfl) (by kernel_rfl) (by kernel_rfl) ?hQr3_0 (Or.inl ⟨?hwr3_0, ?hyr3_0⟩) (by assumption) ?restr3_0
              case hir3_0 => (simp only [List.getElem?_toArray, List.getElem?_cons_succ, List.getElem?_cons_zero]; rfl)
              case hwr3_0 => rfl
              case hyr3_0 => (intro w hSw; (try dsimp only at hSw); go_simp; (try with_reducible rfl))
              case hQr3_0 => exact fun _ _ _ h => h
              (try simp only [Act.put, List.setIfInBounds_toArray, List.set_cons_zero, List.set_cons_succ])
              refine wpAnyH_take (i := 1) (oi := ?oir3_1) (v := ?vr3_1) ?hir3_1 (by kernel_rfl) (by kernel_rfl) (by kernel_rfl) ?hQr3_1 (Or.inl ⟨?hwr3_1, ?hyr3_1⟩) (by assumption) ?restr3_1
              case hir3_1 => (simp only [List.getElem?_toArray, List.getElem?_cons_succ, List.getElem?_cons_zero]; rfl)
              case hwr3_1 => rfl
              case hyr3_1 => (intro w hSw; (try dsimp only at hSw); go_simp; (try with_reducible rfl))
              case hQr3_1 => exact fun _ _ _ h => h
              (try simp only [Act.put, List.setIfInBounds_toArray, List.set_cons_zero, List.set_cons_succ])
              refine wpAnyH_take (i := 2) (oi := ?oir3_2) (v := ?vr3_2) ?hir3_2 (by kernel_rfl) (by kernel_rfl) (by kernel_rfl) ?hQr3_2 (Or.inl ⟨?hwr3_2, ?hyr3_2⟩) (by assumption) ?restr3_2
              case hir3_2 => (simp only [List.getElem?_toArray, List.getElem?_cons_succ, List.getElem?_cons_zero]; rfl)
              case hwr3_2 => rfl
              case hyr3_2 => (intro w hSw; (try dsimp only at hSw); go_simp; (try with_reducible rfl))
              case hQr3_2 => exact fun _ _ _ h => h
              (try simp only [Act.put, List.setIfInBounds_toArray, List.set_cons_zero, List.set_cons_succ])
              refine wpAnyH_take (i := 3) (oi := ?oir3_3) (v := ?vr3_3) ?hir3_3 (by kernel_rfl) (by kernel_rfl) (by kernel_rfl) ?hQr3_3 (Or.inl ⟨?hwr3_3, ?hyr3_3⟩) (by assumption) ?restr3_3
              case hir3_3 => (simp only [List.getElem?_toArray, List.getElem?_cons_succ, List.getElem?_cons_zero]; rfl)
              case hwr3_3 => rfl
              case hyr3_3 => (intro w hSw; (try dsimp only at hSw); go_simp; (try with_reducible rfl))
              case hQr3_3 => exact fun _ _ _ h => h
              (try simp only [Act.put, List.setIfInBounds_toArray, List.set_cons_zero, List.set_cons_succ])
              refine wpAnyH_take (i := 4) (oi := ?oir3_4) (v := ?vr3_4) ?hir3_4 (by kernel_rfl) (by kernel_rfl) (by kernel_rfl) ?hQr3_4 (Or.inl ⟨?hwr3_4, ?hyr3_4⟩) (by assumption) ?restr3_4
              case hir3_4 => (simp only [List.getElem?_toArray, List.getElem?_cons_succ, List.getElem?_cons_zero]; rfl)
              case hwr3_4 => rfl
              case hyr3_4 => (intro w hSw; (try dsimp only at hSw); go_simp; (try with_reducible rfl))
              case hQr3_4 => exact fun _ _ _ h => h
              (try simp only [Act.put, List.setIfInBounds_toArray, List.set_cons_zero, List.set_cons_succ])
              refine wpAnyH_take (i := 5) (oi := ?oir3_5) (v := ?vr3_5) ?hir3_5 (by kernel_rfl) (by kernel_rfl) (by kernel_rfl) ?hQr3_5 (Or.inl ⟨?hwr3_5, ?hyr3_5⟩) (by assumption) ?restr3_5
              case hir3_5 => (simp only [List.getElem?_toArray, List.getElem?_cons_succ, List.getElem?_cons_zero]; rfl)
              case hwr3_5 => rfl
              case hyr3_5 => (intro w hSw; (try dsimp only at hSw); go_simp; (try with_reducible rfl))
              case hQr3_5 => exact fun _ _ _ h => h
              (try simp only [Act.put, List.setIfInBounds_toArray, List.set_cons_zero, List.set_cons_succ])
              refine wpAnyH_take (i := 6) (oi := ?oir3_6) (v := ?vr3_6) ?hir3_6 (by kernel_rfl) (by kernel_rfl) (by kernel_rfl) ?hQr3_6 (Or.inl ⟨?hwr3_6, ?hyr3_6⟩) (by assumption) ?restr3_6
              case hir3_6 => (simp only [List.getElem?_toArray, List.getElem?_cons_succ, List.getElem?_cons_zero]; rfl)
              case hwr3_6 => rfl
              case hyr3_6 => (intro w hSw; (try dsimp only at hSw); go_simp; (try with_reducible rfl))
              case hQr3_6 => exact fun _ _ _ h => h
              (try simp only [Act.put, List.setIfInBounds_toArray, List.set_cons_zero, List.set_cons_succ])
              refine wpAnyH_take (i := 7) (oi := ?oir3_7) (v := ?vr3_7) ?hir3_7 (by kernel_rfl) (by kernel_rfl) (by kernel_rfl) ?hQr3_7 (Or.inl ⟨?hwr3_7, ?hyr3_7⟩) (by assumption) ?restr3_7
              case hir3_7 => (simp only [List.getElem?_toArray, List.getElem?_cons_succ, List.getElem?_cons_zero]; rfl)
              case hwr3_7 => rfl
              case hyr3_7 => (intro w hSw; (try dsimp only at hSw); go_simp; (try with_reducible rfl))
              case hQr3_7 => exact fun _ _ _ h => h
              (try simp only [Act.put, List.setIfInBounds_toArray, List.set_cons_zero, List.set_cons_succ])
              refine wpAnyH_take (i := 8) (oi := ?oir3_8) (v := ?vr3_8) ?hir3_8 (by kernel_rfl) (by kernel_rfl) (by kernel_rfl) ?hQr3_8 (Or.inl ⟨?hwr3_8, ?hyr3_8⟩) (by assumption) ?restr3_8
              case hir3_8 => (simp only [List.getElem?_toArray, List.getElem?_cons_succ, List.getElem?_cons_zero]; rfl)
              case hwr3_8 => rfl
              case hyr3_8 => (intro w hSw; (try dsimp only at hSw); go_simp; (try with_reducible rfl))
              case hQr3_8 => exact fun _ _ _ h => h
              (try simp only [Act.put, List.setIfInBounds_toArray, List.set_cons_zero, List.set_cons_succ])
              refine wpAnyH_take (i := 9) (oi := ?oir3_9) (v := ?vr3_9) ?hir3_9 (by kernel_rfl) (by kernel_rfl) (by kernel_rfl) ?hQr3_9 (Or.inl ⟨?hwr3_9, ?hyr3_9⟩) (by assumption) ?restr3_9
              case hir3_9 => (simp only [List.getElem?_toArray, List.getElem?_cons_succ, List.getElem?_cons_zero]; rfl)
              case hwr3_9 => rfl
              case hyr3_9 => (intro w hSw; (try dsimp only at hSw); go_simp; (try with_reducible rfl))
              case hQr3_9 => exact fun _ _ _ h => h
              (try simp only [Act.put, List.setIfInBounds_toArray, List.set_cons_zero, List.set_cons_succ])
              refine wpAnyH_take (i := 10) (oi := ?oir3_10) (v := ?vr3_10) ?hir3_10 (by kernel_rfl) (by kernel_rfl) (by kernel_rfl) ?hQr3_10 (Or.inl ⟨?hwr3_10, ?hyr3_10⟩) (by assumption) ?restr3_10
              case hir3_10 => (simp only [List.getElem?_toArray, List.getElem?_cons_succ, List.getElem?_cons_zero]; rfl)
              case hwr3_10 => rfl
              case hyr3_10 => (intro w hSw; (try dsimp only at hSw); go_simp; (try with_reducible rfl))
              case hQr3_10 => exact fun _ _ _ h => h
              (try simp only [Act.put, List.setIfInBounds_toArray, List.set_cons_zero, List.set_cons_succ])
              refine wpAnyH_ready (rs := [11]) (by kernel_rfl) (by simp) ?_
              refine AllReadyH.cons rfl (fun K hK => ?_) AllReadyH.nil
              go_simp
              refine (Hc.out _ ha).mono ?_
              rintro e w4 ⟨rfl, hn34⟩
              have hn4 : Nx w3 w4 := hdr.trans hn34
              refine hK.out _ _ (kp _ hn4) (fun hHeld => ?_)
              clear hK K
              (try simp only [Act.put, List.setIfInBounds_toArray, List.set_cons_zero, List.set_cons_succ])
              refine wpAnyH_take (i := 12) (oi := ?oir3_12) (v := ?vr3_12) ?hir3_12 (by kernel_rfl) (by kernel_rfl) (by kernel_rfl) ?hQr3_12 (Or.inl ⟨?hwr3_12, ?hyr3_12⟩) (by assumption) ?restr3_12
              case hir3_12 => (simp only [List.getElem?_toArray, List.getElem?_cons_succ, List.getElem?_cons_zero]; rfl)
              case hwr3_12 => rfl
              case hyr3_12 => (intro w hSw; (try dsimp only at hSw); go_simp; (try with_reducible rfl))
              case hQr3_12 => exact fun _ _ _ h => h
              (try simp only [Act.put, List.setIfInBounds_toArray, List.set_cons_zero, List.set_cons_succ])
              refine wpAnyH_take (i := 13) (oi := ?oir3_13) (v := ?vr3_13) ?hir3_13 (by kernel_rfl) (by kernel_rfl) (by kernel_rfl) ?hQr3_13 (Or.inl ⟨?hwr3_13, ?hyr3_13⟩) (by assumption) ?restr3_13
              case hir3_13 => (simp only [List.getElem?_toArray, List.getElem?_cons_succ, List.getElem?_cons_zero]; rfl)
              case hwr3_13 => rfl
              case hyr3_13 => (intro w hSw; (try dsimp only at hSw); go_simp; (try with_reducible rfl))
              case hQr3_13 => exact fun _ _ _ h => h
              (try simp only [Act.put, List.setIfInBounds_toArray, List.set_cons_zero, List.set_cons_succ])
              refine wpAnyH_take (i := 14) (oi := ?oir3_14) (v := ?vr3_14) ?hir3_14 (by kernel_rfl) (by kernel_rfl) (by kernel_rfl) ?hQr3_14 (Or.inl ⟨?hwr3_14, ?hyr3_14⟩) (by assumption) ?restr3_14
              case hir3_14 => (simp only [List.getElem?_toArray, List.getElem?_cons_succ, List.getElem?_cons_zero]; rfl)
              case hwr3_14 => rfl
              case hyr3_14 => (intro w hSw; (try dsimp only at hSw); go_simp; (try with_reducible rfl))
              case hQr3_14 => exact fun _ _ _ h => h
              (try simp only [Act.put, List.setIfInBounds_toArray, List.set_cons_zero, List.set_cons_succ])
              refine wpAnyH_take (i := 15) (oi := ?oir3_15) (v := ?vr3_15) ?hir3_15 (by kernel_rfl) (by kernel_rfl) (by kernel_rfl) ?hQr3_15 (Or.inl ⟨?hwr3_15, ?hyr3_15⟩) (by assumption) ?restr3_15
              case hir3_15 => (simp only [List.getElem?_toArray, List.getElem?_cons_succ, List.getElem?_cons_zero]; rfl)
              case hwr3_15 => rfl
              case hyr3_15 => (intro w hSw; (try dsimp only at hSw); go_simp; (try with_reducible rfl))
              case hQr3_15 => exact fun _ _ _ h => h
              (try simp only [Act.put, List.setIfInBounds_toArray, List.set_cons_zero, List.set_cons_succ])
              refine wpAnyH_take (i := 16) (oi := ?oir3_16) (v := ?vr3_16) ?hir3_16 (by kernel_rfl) (by kernel_rfl) (by kernel_rfl) ?hQr3_16 (Or.inl ⟨?hwr3_16, ?hyr3_16⟩) (by assumption) ?restr3_16
              case hir3_16 => (simp only [List.getElem?_toArray, List.getElem?_cons_succ, List.getElem?_cons_zero]; rfl)
              case hwr3_16 => rfl
              case hyr3_16 => (intro w hSw; (try dsimp only at hSw); go_simp; (try with_reducible rfl))
              case hQr3_16 => exact fun _ _ _ h => h
              (try simp only [Act.put, List.setIfInBounds_toArray, List.set_cons_zero, List.set_cons_succ])
              refine wpAnyH_take (i := 17) (oi := ?oir3_17) (v := ?vr3_17) ?hir3_17 (by kernel_rfl) (by kernel_rfl) (by kernel_rfl) ?hQr3_17 (Or.inl ⟨?hwr3_17, ?hyr3_17⟩) (by assumption) ?restr3_17
              case hir3_17 => (simp only [List.getElem?_toArray, List.getElem?_cons_succ, List.getElem?_cons_zero]; rfl)
              case hwr3_17 => rfl
              case hyr3_17 => (intro w hSw; (try dsimp only at hSw); go_simp; (try with_reducible rfl))
              case hQr3_17 => exact fun _ _ _ h => h
              (try simp only [Act.put, List.setIfInBounds_toArray, List.set_cons_zero, List.set_cons_succ])
              refine wpAnyH_take (i := 18) (oi := ?oir3_18) (v := ?vr3_18) ?hir3_18 (by kernel_rfl) (by kernel_rfl) (by kernel_rfl) ?hQr3_18 (Or.inl ⟨?hwr3_18, ?hyr3_18⟩) (by assumption) ?restr3_18
              case hir3_18 => (simp only [List.getElem?_toArray, List.getElem?_cons_succ, List.getElem?_cons_zero]; rfl)
              case hwr3_18 => rfl
              case hyr3_18 => (intro w hSw; (try dsimp only at hSw); go_simp; (try with_reducible rfl))
              case hQr3_18 => exact fun _ _ _ h => h
              (try simp only [Act.put, List.setIfInBounds_toArray, List.set_cons_zero, List.set_cons_succ])
              refine wpAnyH_take (i := 19) (oi := ?oir3_19) (v := ?vr3_19) ?hir3_19 (by kernel_rfl) (by kernel_rfl) (by kernel_rfl) ?hQr3_19 (Or.inl ⟨?hwr3_19, ?hyr3_19⟩) (by assumption) ?restr3_19
              case hir3_19 => (simp only [List.getElem?_toArray, List.getElem?_cons_succ, List.getElem?_cons_zero]; rfl)
              case hwr3_19 => rfl
              case hyr3_19 => (intro w hSw; (try dsimp only at hSw); go_simp; (try with_reducible rfl))
              case hQr3_19 => exact fun _ _ _ h => h
              (try simp only [Act.put, List.setIfInBounds_toArray, List.set_cons_zero, List.set_cons_succ])
              refine wpAnyH_take (i := 20) (oi := ?oir3_20) (v := ?vr3_20) ?hir3_20 (by kernel_rfl) (by kernel_rfl) (by kernel_rfl) ?hQr3_20 (Or.inl ⟨?hwr3_20, ?hyr3_20⟩) (by assumption) ?restr3_20
              case hir3_20 => (simp only [List.getElem?_toArray, List.getElem?_cons_succ, List.getElem?_cons_zero]; rfl)
              case hwr3_20 => rfl
              case hyr3_20 => (intro w hSw; (try dsimp only at hSw); go_simp; (try with_reducible rfl))
              case hQr3_20 => exact fun _ _ _ h => h
              (try simp only [Act.put, List.setIfInBounds_toArray, List.set_cons_zero, List.set_cons_succ])
              refine wpAnyH_take (i := 21) (oi := ?oir3_21) (v := ?vr3_21) ?hir3_21 (by kernel_rfl) (by kernel_rfl) (by kernel_rfl) ?hQr3_21 (Or.inl ⟨?hwr3_21, ?hyr3_21⟩) (by assumption) ?restr3_21
              case hir3_21 => (simp only [List.getElem?_toArray, List.getElem?_cons_succ, List.getElem?_cons_zero]; rfl)
              case hwr3_21 => rfl
              case hyr3_21 => (intro w hSw; (try dsimp only at hSw); go_simp; (try with_reducible rfl))
              case hQr3_21 => exact fun _ _ _ h => h
              (try simp only [Act.put, List.setIfInBounds_toArray, List.set_cons_zero, List.set_cons_succ])
              refine wpAnyH_ready (rs := [22]) (by kernel_rfl) (by simp) ?_
              refine AllReadyH.cons rfl (fun K hK => ?_) AllReadyH.nil
              go_simp
              refine (Hab.out _ (HB.out.nx (hn03.trans hn4))).mono ?_
              rintro e w5 ⟨rfl, hn45⟩
              have hn5 : Nx w3 w5 := hn4.trans hn45
              refine hK.out _ _ (kp _ hn5) (fun hHeld => ?_)
              clear hK K
              (try simp only [Act.put, List.setIfInBounds_toArray, List.set_cons_zero, List.set_cons_succ])
              refine wpAnyH_take (i := 23) (oi := ?oir3_23) (v := ?vr3_23) ?hir3_23 (by kernel_rfl) (by kernel_rfl) (by kernel_rfl) ?hQr3_23 (Or.inl ⟨?hwr3_23, ?hyr3_23⟩) (by assumption) ?restr3_23
              case hir3_23 => (simp only [List.getElem?_toArray, List.getElem?_cons_succ, List.getElem?_cons_zero]; rfl)
              case hwr3_23 => rfl
              case hyr3_23 => (intro w hSw; (try dsimp only at hSw); go_simp; (try with_reducible rfl))
              case hQr3_23 => exact fun _ _ _ h => h
              (try simp only [Act.put, List.setIfInBounds_toArray, List.set_cons_zero, List.set_cons_succ])
              refine wpAnyH_take (i := 24) (oi := ?oir3_24) (v := ?vr3_24) ?hir3_24 (by kernel_rfl) (by kernel_rfl) (by kernel_rfl) ?hQr3_24 (Or.inl ⟨?hwr3_24, ?hyr3_24⟩) (by assumption) ?restr3_24
              case hir3_24 => (simp only [List.getElem?_toArray, List.getElem?_cons_succ, List.getElem?_cons_zero]; rfl)
              case hwr3_24 => rfl
              case hyr3_24 => (intro w hSw; (try dsimp only at hSw); go_simp; (try with_reducible rfl))
              case hQr3_24 => exact fun _ _ _ h => h
              (try simp only [Act.put, List.setIfInBounds_toArray, List.set_cons_zero, List.set_cons_succ])
              refine wpAnyH_done (by kernel_rfl) ?_ _
              go_wp2_with fail
              have h5 := HS.out.nx (hn03.trans hn5)
              have gx5 : Gx (fun k => base ≤ k) w w5 := (Gx.refl _ _).nx (hn03.trans hn5)
              replace X := X.nx hn5
              replace X_0 := X.cell (j := 0) rfl
              replace X_1 := X.cell (j := 1) rfl
              replace X_2 := X.cell (j := 2) rfl
              replace X_z := X.lt
              replace T := T.nx hn5
              replace T_0 := T.cell (j := 0) rfl
              replace T_1 := T.cell (j := 1) rfl
              replace T_z := T.lt
              have X_f := X.free
              have hcP : c < s.P.length := by have := HN.out; omega
              have hrZ : r < s.Z.length := by have := HZ.out; omega
              have hcZ : c < s.Z.length := by have := HZ.out; omega
              obtain ⟨gA, rfl, gA1, gA2⟩ := h5.a.at (by omega)
              obtain ⟨gB, rfl, gB1, gB2⟩ := h5.b.at (by omega)
              have p1 := h5.a.cell hcP
              have p2 := h5.a.free
              have ngA := h5.ga gA rfl
              have ngB := h5.gb' gB rfl
              have nT : gA < w.heap.size := (HS.out.a.lt gA rfl).2
              have nT2 : gB < w.heap.size := (HS.out.b.lt gB rfl).2
              have nAB : gA ≠ gB := by have := h5.ab; unfold Apart blk at this; simpa using this
              have nT3 : w.heap.size ≠ gA := by omega
              have nT4 : w.heap.size ≠ gB := by omega
              have nT5 : w.heap.size ≠ gb := by have := HS.out.bx.lt; omega
              generalize s.P[c] = p0 at p1
              clear hn3 hn5 hn4 hn34 hn45 kp hdr ha hb
              go_region
              generalize hW6 : World.drew _ = W6
              have h6 : SB W6 base gb ⟨s.P.set c (r : Int), s.Z, s.T⟩ (some ⟨gA, 0, none⟩) ca (some ⟨gB, 0, none⟩) cb C cc := by subst hW6; exact (h5.setP c (r : Int)).nx (.drew (.refl _))
              have hx6 : w5.grownBy W6 (some gA) := by subst hW6; exact grown_trans (grown_setCell _ _ _ _) (Nx.grownR (.drew (.refl _)) _)
              have gx6 : Gx (fun k => base ≤ k) w W6 := gx5.grown hx6 (fun j e => .inl (by injection e with e; omega))
              replace X := X.grown hx6 (by simp; omega)
              replace T := T.grown hx6 (by simp; omega)
              have X_0 := X.cell (j := 0) rfl
              have X_1 := X.cell (j := 1) rfl
              have X_2 := X.cell (j := 2) rfl
              have X_z := X.lt
              have X_f := X.free
              have T_0 := T.cell (j := 0) rfl
              have T_1 := T.cell (j := 1) rfl
              have T_z := T.lt
              have q1 := h6.b.cell (k := r) hrZ
              have q2 := h6.b.cell (k := c) hcZ
              have q3 := h6.b.free
              have lr : s.Z[r] = lk s.Z (r : Int) := by simp [lk, hrZ]
              have lc : s.Z[c] = lk s.Z (c : Int) := by simp [lk, hcZ]
              simp only [lr] at q1
              simp only [lc] at q2
              have zr := Hz.out (r : Int) (by omega) (by omega)
              have zc := Hz.out (c : Int) (by omega) (by omega)
              obtain ⟨vr, hvr⟩ : ∃ v, lk s.Z (r : Int) = v := ⟨_, rfl⟩
              obtain ⟨vc, hvc⟩ : ∃ v, lk s.Z (c : Int) = v := ⟨_, rfl⟩
              rw [hvr] at q1 zr
              rw [hvc] at q2 zc
              have Hvr := Lib.hid hvr
              have Hvc := Lib.hid hvc
              have hsum : IntKind.i64.wrap (vr + vc) = vr + vc := IntWalk.i64_in _ (by omega)
              clear hW6 p1 p2 lr lc hvr hvc h5 gx5 hx6
              go_upto_region 7 with (fail)
              go_cut [3] from 5 (fun s3 wc => s3 = .pointer (some ⟨w.heap.size, 0, none⟩) ∧ SB wc base gb ⟨s.P.set c (r : Int), s.Z.set r (vr + vc), s.T⟩ (some ⟨gA, 0, none⟩) ca (some ⟨gB, 0, none⟩) cb C cc ∧ W6.grownBy wc (some gB))
              case first =>
                go_big_region
                go_wp2
                go_meet
                exact ⟨rfl, (h6.setZ r (vr + vc)).nx (.drew (.refl _)), grown_trans (grown_setCell _ _ _ _) (Nx.grownR (.drew (.refl _)) _)⟩
              obtain ⟨rfl, h7, hx7⟩ := hcut
              obtain ⟨W7, hW7⟩ : ∃ v, v = wc := ⟨_, rfl⟩
              subst hW7
              have gx7 : Gx (fun k => base ≤ k) w W7 := gx6.grown hx7 (fun j e => .inl (by injection e with e; omega))
              replace X := X.grown hx7 (by simp; omega)
              replace T := T.grown hx7 (by simp; omega)
              have hP : s.P.set c (r : Int) = stP s.P ((c : Int), (r : Int)) := by unfold stP; rw [if_neg (by simp)]; simp [up]
              have hZ2 : s.Z.set r (vr + vc) = stZ s.Z ((c : Int), (r : Int)) := by unfold stZ; rw [if_neg (by simp)]; simp [up, Hvr.out, Hvc.out]
              rw [hP, hZ2] at h7
              have hokv : stOk s.P s.Z s.T.length ((c : Int), (r : Int)) = true := by rw [Hok.out, Hcb.out, Habv.out, Hrb.out]; have h2 : ((c : Nat) : Int) ≠ -1 := (by omega); have h3 : (c : Int) ≠ (r : Int) := (by simpa using er); have h4 : l ≠ 100 := (by omega); simp [h2, h3, h4]
              clear h6 gx6 hx7 q1 q2 q3 hsum hP hZ2 hcP hrZ hcZ zr zc nAB nT nT2 nT3 nT4 ngA ngB gA1 gA2 gB1 gB2 X_f
              have X_0 := X.cell (j := 0) rfl
              have X_1 := X.cell (j := 1) rfl
              have X_2 := X.cell (j := 2) rfl
              have X_z := X.lt
              have T_0 := T.cell (j := 0) rfl
              have T_1 := T.cell (j := 1) rfl
              have T_z := T.lt
              have Hh := Lib.hid h7
              have Hgx := Lib.hid gx7
              have Hokv := Lib.hid hokv
              have hnd : Nx W7 (W7.alloc (.cells #[V c, V r] 98)).drew := .drew (.alloc (.refl _) _)
              have heo : EdgesAt (W7.alloc (.cells #[V c, V r] 98)) (some ⟨W7.heap.size, 0, none⟩) [((c : Int), (r : Int))] := edgesOneS (by simp) (cellN rfl rfl) (cellN rfl rfl)
              replace heo := heo.nx (Nx.drew (Nx.refl _))
              have h8 := h7.nx hnd
              have ho8 := h8.c
              have hgc := h7.gc
              have hbT : base ≤ W7.heap.size := by have := Hgx.out.size; omega
              clear h7 gx7 hokv
              go_wp2_with fail
              go_region_law (refine stepEs (A := C) (c := cc) (c' := 1) s.T [((c : Int), (r : Int))] rfl rfl Try.underlying35 Hi.out Hz0.out Hz1.out Hz2.out rfl (by rw [Hl.out]; go_simp) ho8 (by go_simp) heo (by rw [Hl.out]; simp; omega) (by simp; omega) ?_; intro A9 c9 w9 ho9 hgr9 hbl9; have hb9 := (X.nx hnd).grown hgr9 (fun e => hgc gb e rfl); have r0 := hb9.cell (j := 0) rfl; have r1 := hb9.cell (j := 1) rfl; have r2 := hb9.cell (j := 2) rfl; have rf := hb9.free)
              all_goals go_wp2
              all_goals go_ret
              all_goals refine Stepped.yes Hokv.out ?_ ?_
              all_goals first
                | exact ⟨_, _, _, _, _, _, h8.push (by simp [size_drew_]; omega) hgr9 ho9 hbl9⟩
                | exact ((Hgx.out.nx hnd).grown hgr9 (fun j e => .inl (by have := (ho8.lt j e).1; omega))).setCell (.inl (by omega)) _ _
      · have ec : (c != -1) = false := by simpa using ec
        go_enter Try.func127, Try.ntmps127
        go_wp2_with fail
        generalize hW1 : World.alloc _ _ = W1
        have gW1 : Nx w W1 := by subst hW1; exact (by repeat (first | exact Nx.refl _ | assumption | apply Nx.alloc | apply Nx.drew | apply Nx.drewN | (refine Nx.setCell ?_ (by first | (simp; done) | (simp; omega) | omega) _) | refine Nx.trans ?_ (by assumption)))
        have sW1 : W1.heap.size = w.heap.size + 1 := by subst hW1; simp
        have T : Bx W1 (w.heap.size) 98 [V c, V r] := by subst hW1; have h := Bx.alloc w 98 [V c, V r]; simpa using h
        have T_0 := T.cell (j := 0) rfl
        have T_1 := T.cell (j := 1) rfl
        have T_z := T.lt
        have HsW1 := Lib.hid sW1
        have lW1 : w.heap.size + 1 ≤ W1.heap.size := by omega
        clear hW1 sW1
        replace X := X.nx gW1
        replace X_0 := X.cell (j := 0) rfl
        replace X_1 := X.cell (j := 1) rfl
        replace X_2 := X.cell (j := 2) rfl
        replace X_z := X.lt
        have kp : ∀ w', Nx W1 w' → (fun w_ => Nx W1 w_ ∧ w_.cell? ⟨gb, 0, none⟩ = some (.slice A N ca) ∧ w_.cell? ⟨gb, 1, none⟩ = some (.slice B N cb) ∧ w_.cell? ⟨gb, 2, none⟩ = some (.slice C l cc) ∧ w_.cell? ⟨w.heap.size, 0, none⟩ = some (V c) ∧ w_.cell? ⟨w.heap.size, 1, none⟩ = some (V r)) w' := fun w' h => ⟨h, h.cell X_z X_0, h.cell X_z X_1, h.cell X_z X_2, h.cell T_z T_0, h.cell T_z T_1⟩
        have hdr : Nx W1 W1.drew := .drew (.refl _)
        have ha := HA.out.nx ((gW1).trans hdr)
        go_region_held3 (fun w_ => Nx W1 w_ ∧ w_.cell? ⟨gb, 0, none⟩ = some (.slice A N ca) ∧ w_.cell? ⟨gb, 1, none⟩ = some (.slice B N cb) ∧ w_.cell? ⟨gb, 2, none⟩ = some (.slice C l cc) ∧ w_.cell? ⟨w.heap.size, 0, none⟩ = some (V c) ∧ w_.cell? ⟨w.heap.size, 1, none⟩ = some (V r))
          (first | exact kp _ hdr | exact kp _ hn3)
          (first | (go_at_call 147; (with_reducible refine (Hr.out _ ha).mono ?_); rintro e w3 ⟨rfl, hn13⟩; have hn3 : Nx W1 w3 := hdr.trans hn13))
        clear kp hdr ha
        replace X := X.nx hn3
        replace X_0 := X.cell (j := 0) rfl
        replace X_1 := X.cell (j := 1) rfl
        replace X_2 := X.cell (j := 2) rfl
        replace X_z := X.lt
        replace T := T.nx hn3
        replace T_0 := T.cell (j := 0) rfl
        replace T_1 := T.cell (j := 1) rfl
        replace T_z := T.lt
        have hn03 : Nx w w3 := gW1.trans hn3
        go_wp2_with fail
        have h7 := HS.out.nx hn03
        have gx7 : Gx (fun k => base ≤ k) w w3 := (Gx.refl _ _).nx hn03
        obtain rfl : c = -1 := by simpa using ec
        have hokv : stOk s.P s.Z s.T.length (-1, (r : Int)) = true := by rw [Hok.out, Hrb.out]; have h4 : l ≠ 100 := (by omega); simp [h4]
        have e1 : s.P = stP s.P (-1, (r : Int)) := by simp [stP]
        have e2 : s.Z = stZ s.Z (-1, (r : Int)) := by simp [stZ]
        have h7 : SB w3 base gb ⟨stP s.P (-1, (r : Int)), stZ s.Z (-1, (r : Int)), s.T⟩ A ca B cb C cc := by rw [← e1, ← e2]; exact h7
        clear e1 e2 hn3
        have X_0 := X.cell (j := 0) rfl
        have X_1 := X.cell (j := 1) rfl
        have X_2 := X.cell (j := 2) rfl
        have X_z := X.lt
        have T_0 := T.cell (j := 0) rfl
        have T_1 := T.cell (j := 1) rfl
        have T_z := T.lt
        have Hh := Lib.hid h7
        have Hgx := Lib.hid gx7
        have Hokv := Lib.hid hokv
        have hnd : Nx w3 (w3.alloc (.cells #[V (-1), V r] 98)).drew := .drew (.alloc (.refl _) _)
        have heo : EdgesAt (w3.alloc (.cells #[V (-1), V r] 98)) (some ⟨w3.heap.size, 0, none⟩) [((-1 : Int), (r : Int))] := edgesOneS (by simp) (cellN rfl rfl) (cellN rfl rfl)
        replace heo := heo.nx (Nx.drew (Nx.refl _))
        have h8 := h7.nx hnd
        have ho8 := h8.c
        have hgc := h7.gc
        have hbT : base ≤ w3.heap.size := by have := Hgx.out.size; omega
        clear h7 gx7 hokv
        go_wp2_with fail
        go_region_law (refine stepEs (A := C) (c := cc) (c' := 1) s.T [((-1 : Int), (r : Int))] rfl rfl Try.underlying35 Hi.out Hz0.out Hz1.out Hz2.out rfl (by rw [Hl.out]; go_simp) ho8 (by go_simp) heo (by rw [Hl.out]; simp; omega) (by simp; omega) ?_; intro A9 c9 w9 ho9 hgr9 hbl9; have hb9 := (X.nx hnd).grown hgr9 (fun e => hgc gb e rfl); have r0 := hb9.cell (j := 0) rfl; have r1 := hb9.cell (j := 1) rfl; have r2 := hb9.cell (j := 2) rfl; have rf := hb9.free)
        all_goals go_wp2
        all_goals go_ret
        all_goals refine Stepped.yes Hokv.out ?_ ?_
        all_goals first
          | exact ⟨_, _, _, _, _, _, h8.push (by simp [size_drew_]; omega) hgr9 ho9 hbl9⟩
          | exact ((Hgx.out.nx hnd).grown hgr9 (fun j e => .inl (by have := (ho8.lt j e).1; omega))).setCell (.inl (by omega)) _ _
end Go.Proofs.Yticjoichmcegnaa
