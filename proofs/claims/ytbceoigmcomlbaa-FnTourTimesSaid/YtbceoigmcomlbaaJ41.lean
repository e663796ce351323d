import Derived.Test.YtbceoigmcomlbaaJ27
import Derived.OwnWalk
import Derived.Deep.RegionHeld3
/- Contracts: SplitTour of both. -/
namespace Go.Proofs.Ytbceoigmcomlbaa
open Go.RowKit set_option linter.unusedVariables false set_option linter.unusedSimpArgs false

theorem first_place : ∀ {S : Es} {e : Int × Int}, e ∈ S → ∃ U W, S = U ++ e :: W ∧ e ∉ U
  | [], e, h => by simp at h
  | x :: S, e, h => by
    by_cases hx : e = x
    · subst hx; exact ⟨[], S, rfl, by simp⟩
    · have hm : e ∈ S := by simp only [List.mem_cons] at h; rcases h with h | h; exact absurd h hx; exact h
      obtain ⟨U, W, h1, h2⟩ := first_place hm
      exact ⟨x :: U, W, by rw [h1]; rfl, by simp only [List.mem_cons]; rintro (h | h); exact hx h; exact h2 h⟩
theorem two_places {S : Es} {e : Int × Int} (h : S.count e = 2) : ∃ U V W, S = U ++ e :: (V ++ e :: W) ∧ e ∉ U ∧ e ∉ V ∧ e ∉ W := by
  obtain ⟨U, W1, h1, h2⟩ := first_place (S := S) (e := e) (List.count_pos_iff.1 (by omega))
  rw [h1, List.count_append, List.count_cons_self, List.count_eq_zero_of_not_mem h2] at h
  obtain ⟨V, W, h3, h4⟩ := first_place (S := W1) (e := e) (List.count_pos_iff.1 (by omega))
  rw [h3, List.count_append, List.count_cons_self, List.count_eq_zero_of_not_mem h4] at h
  exact ⟨U, V, W, by rw [h1, h3], h2, h4, fun m => by have := List.count_pos_iff.2 m; omega⟩
/-- the two places of an edge -/
structure Places (S : Es) (e : Int × Int) (i j : Nat) : Prop where
  lt : i < j
  fst : S[i]? = some e
  snd : S[j]? = some e
  only : ∀ k, S[k]? = some e → k = i ∨ k = j
theorem places_ex {S : Es} {e : Int × Int} (h : S.count e = 2) : ∃ i j, Places S e i j := by
  obtain ⟨U, V, W, h1, h2, h3, h4⟩ := two_places h
  have hU : U.length ≤ U.length := Nat.le_refl _
  refine ⟨U.length, U.length + 1 + V.length, by omega, ?_, ?_, fun k hk => ?_⟩
  · rw [h1, List.getElem?_append_right (Nat.le_refl _), Nat.sub_self]; rfl
  · rw [h1, List.getElem?_append_right (by omega), show U.length + 1 + V.length - U.length = V.length + 1 by omega, List.getElem?_cons_succ, List.getElem?_append_right (Nat.le_refl _), Nat.sub_self]; rfl
  · rw [h1] at hk
    by_cases a : k < U.length
    · rw [List.getElem?_append_left a] at hk; exact absurd (List.mem_of_getElem? hk) h2
    · rw [List.getElem?_append_right (by omega)] at hk
      by_cases b : k - U.length = 0
      · exact .inl (by omega)
      · obtain ⟨q, hq⟩ : ∃ q, k - U.length = q + 1 := ⟨k - U.length - 1, by omega⟩
        rw [hq, List.getElem?_cons_succ] at hk
        by_cases c : q < V.length
        · rw [List.getElem?_append_left c] at hk; exact absurd (List.mem_of_getElem? hk) h3
        · rw [List.getElem?_append_right (by omega)] at hk
          by_cases d : q - V.length = 0
          · exact .inr (by omega)
          · obtain ⟨r, hr⟩ : ∃ r, q - V.length = r + 1 := ⟨q - V.length - 1, by omega⟩
            rw [hr, List.getElem?_cons_succ] at hk
            exact absurd (List.mem_of_getElem? hk) h4
theorem Places.uniq {S : Es} {e : Int × Int} {i j k l : Nat} (h : Places S e i j) (g : Places S e k l) : i = k ∧ j = l := by
  have a := h.only k g.fst
  have b := h.only l g.snd
  have := h.lt
  have := g.lt
  omega
open Classical in
noncomputable def spAt (S : Es) (e : Int × Int) : Nat × Nat := if h : ∃ p : Nat × Nat, Places S e p.1 p.2 then Classical.choose h else (0, 0)
theorem spAt_eq {S : Es} {e : Int × Int} {i j : Nat} (h : Places S e i j) : spAt S e = (i, j) := by
  have hex : ∃ p : Nat × Nat, Places S e p.1 p.2 := ⟨(i, j), h⟩
  unfold spAt
  rw [dif_pos hex]
  have := (Classical.choose_spec hex).uniq h
  exact Prod.ext this.1 this.2
/-- may be cut -/
def spOk (L : List Int) (e : Int × Int) : Prop := TV L ∧ e ∈ eset (stepsL L)
noncomputable instance (L : List Int) (e : Int × Int) : Decidable (spOk L e) := Classical.propDecidable _
noncomputable def spA (L : List Int) (e : Int × Int) : List Int := L.take ((spAt (stepsL L) e).1 + 1) ++ L.drop ((spAt (stepsL L) e).2 + 2)
noncomputable def spB (L : List Int) (e : Int × Int) : List Int := (L.take ((spAt (stepsL L) e).2 + 1)).drop ((spAt (stepsL L) e).1 + 1)
noncomputable def tSplA (L : List Int) (e : Int × Int) : List Int := if spOk L e then spA L e else []
noncomputable def tSplB (L : List Int) (e : Int × Int) : List Int := if spOk L e then spB L e else []
theorem tSpl_yes {L : List Int} {e : Int × Int} (h : spOk L e) : tSplA L e = spA L e ∧ tSplB L e = spB L e := ⟨if_pos h, if_pos h⟩
theorem tSpl_no {L : List Int} {e : Int × Int} (h : ¬ spOk L e) : tSplA L e = [] ∧ tSplB L e = [] := ⟨if_neg h, if_neg h⟩
theorem spOk_places {L : List Int} {e : Int × Int} (h : spOk L e) : ∃ i j, Places (stepsL L) e i j ∧ j + 1 < L.length ∧ spA L e = L.take (i + 1) ++ L.drop (j + 2) ∧ spB L e = (L.take (j + 1)).drop (i + 1) := by
  obtain ⟨i, j, hp⟩ := places_ex (h.1.2.2.2.1 e h.2)
  have hj := (List.getElem?_eq_some_iff.1 hp.snd).1
  rw [stepsL_len] at hj
  refine ⟨i, j, hp, by omega, ?_, ?_⟩
  · unfold spA; rw [spAt_eq hp]
  · unfold spB; rw [spAt_eq hp]
theorem spA_len {L : List Int} {e : Int × Int} (h : TV L) : (spA L e).length ≤ 62 := by
  unfold spA
  rw [List.length_append, List.length_take, List.length_drop]
  have := h.1.2.1
  omega
theorem tSplA_len (L : List Int) (e : Int × Int) : (tSplA L e).length ≤ 62 := by
  by_cases h : spOk L e
  · rw [(tSpl_yes h).1]; exact spA_len h.1
  · rw [(tSpl_no h).1]; simp
theorem tSplB_len (L : List Int) (e : Int × Int) : (tSplB L e).length ≤ 31 := by
  by_cases h : spOk L e
  · rw [(tSpl_yes h).2]; unfold spB; rw [List.length_drop, List.length_take]; have := h.1.1.2.1; omega
  · rw [(tSpl_no h).2]; simp
/-- two rows of numbers that lie apart, and whether they are ones -/
def RetIIB (X Y : List Int) (b : Bool) (w : World) (e : Ending) (w' : World) : Prop :=
  ∃ A c B d, e = .returned (.tuple #[.slice A X.length c, .slice B Y.length d, .bool b]) ∧ OwnI w' w.heap.size 3 A c X ∧ OwnI w' w.heap.size 3 B d Y ∧ (blk A = none ∨ blk A ≠ blk B) ∧ (blk B = none ∨ blk B ≠ blk A) ∧ Nx w w'
theorem EdgesAt.dropK {w : World} {b off : Nat} {es : Es} (h : EdgesAt w (some ⟨b, off, none⟩) es) (k : Nat) : EdgesAt w (some ⟨b, off + k * 2, none⟩) (es.drop k) := fun h0 => by
  rw [List.length_drop] at h0
  obtain ⟨b', off', e, hb, hc⟩ := h (by omega)
  injection e with e
  injection e with e1 e2
  subst e1 e2
  refine ⟨b, off + k * 2, rfl, hb, fun j hj => ?_⟩
  rw [List.length_drop] at hj
  have := hc (k + j) (by omega)
  rw [List.getElem_drop, show off + k * 2 + j * 2 = off + (k + j) * 2 by omega]
  exact this
theorem places_idx {S : Es} {e : Int × Int} {i j : Nat} (h : Places S e i j) : idxE S e = i ∧ idxE (S.drop (i + 1)) e = ((j - (i + 1) : Nat) : Int) := by
  have hlt := h.lt
  constructor
  · exact idxE_at (fun k hk hke => by rcases h.only k hke with h | h <;> omega) h.fst
  · refine idxE_at (fun k hk hke => ?_) ?_
    · rw [List.getElem?_drop] at hke
      rcases h.only _ hke with h | h <;> omega
    · rw [List.getElem?_drop, ← h.snd]; congr 1; omega

theorem apart_lt {A B : Option Addr} {m : Nat} (h1 : ∀ k, blk A = some k → k < m) (h2 : ∀ k, blk B = some k → m ≤ k) : (blk A = none ∨ blk A ≠ blk B) ∧ (blk B = none ∨ blk B ≠ blk A) := by
  cases hA : blk A with
  | none => exact ⟨.inl rfl, by cases hB : blk B with | none => exact .inl rfl | some b => exact .inr (by simp)⟩
  | some a =>
    cases hB : blk B with
    | none => exact ⟨.inr (by simp), .inl rfl⟩
    | some b =>
      have := h1 a hA
      have := h2 b hB
      exact ⟨.inr (by simp; omega), .inr (by simp; omega)⟩

set_option maxRecDepth 100000 in
set_option maxHeartbeats 4000000 in
theorem iSplitTour_c (A : Option Addr) (c n : Nat) (xs : List Int) (u v : Int) (w : World) (hn : xs.length = n) (hc : n ≤ c) (hx : IntsAt w A xs) (hl : n ≤ 1048576) :
    Calls Try.prog 17 #[.slice A n c, Ed u v] w (RetIIB (tSplA xs (u, v)) (tSplB xs (u, v)) (decide (spOk xs (u, v))) w) := by
  have hv := fun w' h => iTourValid_c A c n xs w' hn hc h hl
  have Hx := Lib.hid hx
  by_cases ht : TV xs
  · rw [decide_eq_true ht] at hv
    have he := fun w' h => tourEdges_c A c n xs w' hn ht h
    have hlen := tv_len ht
    have hct := fun B d w' h => contains_c B d (eset (stepsL xs)) u v w' h (by omega)
    by_cases hm : (u, v) ∈ eset (stepsL xs)
    · have hok : spOk xs (u, v) := ⟨ht, hm⟩
      rw [decide_eq_true hm] at hct
      obtain ⟨i, j, hp, hjn, hA, hB⟩ := spOk_places hok
      rw [(tSpl_yes hok).1, (tSpl_yes hok).2, hA, hB, decide_eq_true hok]
      have hij := hp.lt
      rw [hn] at hjn
      have hn31 := ht.1.2.1
      rw [hn] at hn31
      obtain ⟨b, off, rfl, hb⟩ := hx.addr (by omega)
      have hlX : (xs.take (i + 1)).length = i + 1 := by simp; omega
      have hlZ : (xs.drop (j + 2)).length = n - (j + 2) := by simp; omega
      have hlY : ((xs.take (j + 1)).drop (i + 1)).length = j + 1 - (i + 1) := by simp; omega
      have hxX := fun w' (h : IntsAt w' (some ⟨b, off, none⟩) xs) => h.take (i + 1)
      have hxZ := fun w' (h : IntsAt w' (some ⟨b, off, none⟩) xs) => h.tail (j + 2)
      have hxY := fun w' (h : IntsAt w' (some ⟨b, off, none⟩) xs) => h.sub (i + 1) (j + 1)
      have hZ0 : j + 2 = n → xs.drop (j + 2) = [] := fun h => List.drop_eq_nil_of_le (by omega)
      have hpx := places_idx hp
      have hne : (stepsL xs).length = n - 1 := by rw [stepsL_len, hn]
      have hst := fun w' h => steps_c (some ⟨b, off, none⟩) c xs w' h (by omega) ht.2.1
      rw [hn] at hst
      have Hokst := Lib.hid ht.2.2.1
      have hix := fun B d w' h => index_c B d (stepsL xs) u v w' h (by omega)
      have hix2 := fun B d w' h => index_c B d ((stepsL xs).drop (i + 1)) u v w' h (by rw [List.length_drop]; omega)
      rw [hpx.1] at hix
      rw [hpx.2] at hix2
      have hle2 : ((stepsL xs).drop (i + 1)).length = n - 1 - (i + 1) := by rw [List.length_drop, hne]
      rw [hle2] at hix2
      rw [hne] at hix
      generalize xs.take (i + 1) = X at *
      generalize xs.drop (j + 2) = Z at *
      generalize (xs.take (j + 1)).drop (i + 1) = Y at *
      obtain ⟨i1, hi1⟩ : ∃ i1, i + 1 = i1 := ⟨_, rfl⟩
      obtain ⟨j1, hj1⟩ : ∃ j1, j + 1 = j1 := ⟨_, rfl⟩
      obtain ⟨j2, hj2⟩ : ∃ j2, j + 2 = j2 := ⟨_, rfl⟩
      rw [hi1] at hlX hlY hxY
      rw [hj1] at hlY
      rw [hj2] at hlZ hxZ hZ0
      have b1 : i1 ≤ c := by omega
      have b2 : j2 ≤ n := by omega
      have b3 : j1 ≤ c := by omega
      have b4 : i1 ≤ j1 := by omega
      have b5 : (i1 : Int) ≤ (c : Int) := by omega
      have b6 : (j2 : Int) ≤ (n : Int) := by omega
      have b7 : (i1 : Int) ≤ (j1 : Int) := by omega
      have b8 : (j1 : Int) ≤ (c : Int) := by omega
      have b9 : ¬ i1 = c := by omega
      have b10 : ¬ c = i1 := by omega
      have b11 : j1 ≤ 31 := by omega
      have b12 : j2 ≤ 31 := by omega
      have HLX := Lib.hid hlX
      have HLY := Lib.hid hlY
      have HLZ := Lib.hid hlZ
      have HxX := Lib.hid hxX
      have HxY := Lib.hid hxY
      have HxZ := Lib.hid hxZ
      have HZ0 := Lib.hid hZ0
      rw [hi1] at hix2
      obtain ⟨ne, hne'⟩ : ∃ ne, n - 1 = ne := ⟨_, rfl⟩
      rw [hne'] at hne hix hix2
      obtain ⟨q, hq⟩ : ∃ q, j - i1 = q := ⟨_, rfl⟩
      rw [hq] at hix2
      have d1 : i1 < ne := by omega
      have d2 : (i : Int) + 1 = (i1 : Int) := by omega
      have d3 : (i1 : Int) + (q : Int) = (j : Int) := by omega
      have d4 : (j : Int) + 1 = (j1 : Int) := by omega
      have d5 : (j : Int) + 2 = (j2 : Int) := by omega
      have d6 : (i1 : Int) ≤ (ne : Int) := by omega
      have e1 : IntKind.i64.wrap ((i : Int) + 1) = (i1 : Int) := by rw [IntKind.wrap_i64]; omega
      have e2 : IntKind.i64.wrap ((i1 : Int) + (q : Int)) = (j : Int) := by rw [IntKind.wrap_i64]; omega
      have e3 : IntKind.i64.wrap ((j : Int) + 1) = (j1 : Int) := by rw [IntKind.wrap_i64]; omega
      have e4 : IntKind.i64.wrap ((j : Int) + 2) = (j2 : Int) := by rw [IntKind.wrap_i64]; omega
      have E1 := Lib.hid e1
      have E2 := Lib.hid e2
      have E3 := Lib.hid e3
      have E4 := Lib.hid e4
      have D2 := Lib.hid d2
      have D3 := Lib.hid d3
      have D4 := Lib.hid d4
      have D5 := Lib.hid d5
      have Hv := Lib.hid hv
      have He := Lib.hid he
      have Hct := Lib.hid hct
      have Hst := Lib.hid hst
      have Hix := Lib.hid hix
      have Hix2 := Lib.hid hix2
      have Hne := Lib.hid hne
      have Hi1 := Lib.hid hi1
      have hcl := fun w' h => cloneI_c (some ⟨b, off + i1, none⟩) (c - i1) Y w' h (by omega)
      rw [hlY] at hcl
      have Hcl := Lib.hid hcl
      generalize eset (stepsL xs) = es at *
      clear hv he hct hst hix hix2 hne hi1 hj1 hj2 hne' hq hp hpx hok hm ht hn hx hA hB hlX hlY hlZ hxX hxY hxZ hZ0 e1 e2 e3 e4 d2 d3 d4 d5 hle2 hcl
      go_enter Try.func17, Try.ntmps17
      go_wp2_with fail
      generalize hW1 : World.alloc _ _ = W1
      have gW1 : Nx w W1 := by subst hW1; exact (by repeat (first | exact Nx.refl _ | assumption | apply Nx.alloc | apply Nx.drew | apply Nx.drewN | (refine Nx.setCell ?_ (by first | (simp; done) | (simp; omega) | omega) _) | refine Nx.trans ?_ (by assumption)))
      have sW1 : W1.heap.size = w.heap.size + 1 := by subst hW1; simp
      have X0 : Bx W1 (w.heap.size) 30 [V u, V v] := by subst hW1; have h := Bx.alloc w 30 [V u, V v]; simpa using h
      have X0_0 := X0.cell (j := 0) rfl
      have X0_1 := X0.cell (j := 1) rfl
      have X0_z := X0.lt
      have HsW1 := Lib.hid sW1
      have lW1 : w.heap.size + 1 ≤ W1.heap.size := by omega
      clear hW1 sW1
      have kp : ∀ w', Nx W1 w' → (fun w_ => Nx W1 w_ ∧ w_.cell? ⟨w.heap.size, 0, none⟩ = some (V u) ∧ w_.cell? ⟨w.heap.size, 1, none⟩ = some (V v)) w' := fun w' h => ⟨h, h.cell X0_z X0_0, h.cell X0_z X0_1⟩
      have hdr : Nx W1 W1.drew := .drew (.refl _)
      refine wp_region_held_drew (S := (fun w_ => Nx W1 w_ ∧ w_.cell? ⟨w.heap.size, 0, none⟩ = some (V u) ∧ w_.cell? ⟨w.heap.size, 1, none⟩ = some (V v))) (by kernel_rfl) (kp _ hdr) (fun hHeld => ?_)
      refine wpAnyH_take (i := 0) (oi := ?oir1_0) (v := ?vr1_0) ?hir1_0 (by kernel_rfl) (by kernel_rfl) (by kernel_rfl) ?hQr1_0 (Or.inl ⟨?hwr1_0, ?hyr1_0⟩) (by assumption) ?restr1_0
      case hir1_0 => (simp only [List.getElem?_toArray, List.getElem?_cons_succ, List.getElem?_cons_zero]; rfl)
      case hwr1_0 => rfl
      case hyr1_0 => (intro w hSw; (try dsimp only at hSw); go_simp; (try with_reducible rfl))
      case hQr1_0 => exact fun _ _ _ h => h
      (try simp only [Act.put, List.setIfInBounds_toArray, List.set_cons_zero, List.set_cons_succ])
      refine wpAnyH_ready (rs := [1]) (by kernel_rfl) (by simp) ?_
      refine AllReadyH.cons rfl (fun K hK => ?_) AllReadyH.nil
      go_simp
      refine (Hv.out _ (Hx.out.nx (gW1.trans hdr))).mono ?_
      rintro e w2 ⟨rfl, hx2⟩
      have hn2 : Nx W1 w2 := hdr.trans hx2
      refine hK.out _ _ (kp _ hn2) (fun hHeld => ?_)
      clear hK K
      (try simp only [Act.put, List.setIfInBounds_toArray, List.set_cons_zero, List.set_cons_succ])
      refine wpAnyH_take (i := 2) (oi := ?oir1_2) (v := ?vr1_2) ?hir1_2 (by kernel_rfl) (by kernel_rfl) (by kernel_rfl) ?hQr1_2 (Or.inl ⟨?hwr1_2, ?hyr1_2⟩) (by assumption) ?restr1_2
      case hir1_2 => (simp only [List.getElem?_toArray, List.getElem?_cons_succ, List.getElem?_cons_zero]; rfl)
      case hwr1_2 => rfl
      case hyr1_2 => (intro w hSw; (try dsimp only at hSw); go_simp; (try with_reducible rfl))
      case hQr1_2 => exact fun _ _ _ h => h
      (try simp only [Act.put, List.setIfInBounds_toArray, List.set_cons_zero, List.set_cons_succ])
      refine wpAnyH_take (i := 3) (oi := ?oir1_3) (v := ?vr1_3) ?hir1_3 (by kernel_rfl) (by kernel_rfl) (by kernel_rfl) ?hQr1_3 (Or.inl ⟨?hwr1_3, ?hyr1_3⟩) (by assumption) ?restr1_3
      case hir1_3 => (simp only [List.getElem?_toArray, List.getElem?_cons_succ, List.getElem?_cons_zero]; rfl)
      case hwr1_3 => rfl
      case hyr1_3 => (intro w hSw; (try dsimp only at hSw); go_simp; (try with_reducible rfl))
      case hQr1_3 => exact fun _ _ _ h => h
      (try simp only [Act.put, List.setIfInBounds_toArray, List.set_cons_zero, List.set_cons_succ])
      refine wpAnyH_take (i := 4) (oi := ?oir1_4) (v := ?vr1_4) ?hir1_4 (by kernel_rfl) (by kernel_rfl) (by kernel_rfl) ?hQr1_4 (Or.inl ⟨?hwr1_4, ?hyr1_4⟩) (by assumption) ?restr1_4
      case hir1_4 => (simp only [List.getElem?_toArray, List.getElem?_cons_succ, List.getElem?_cons_zero]; rfl)
      case hwr1_4 => rfl
      case hyr1_4 => (intro w hSw; (try dsimp only at hSw); go_simp; (try with_reducible rfl))
      case hQr1_4 => exact fun _ _ _ h => h
      (try simp only [Act.put, List.setIfInBounds_toArray, List.set_cons_zero, List.set_cons_succ])
      refine wpAnyH_take (i := 6) (oi := ?oir1_6) (v := ?vr1_6) ?hir1_6 (by kernel_rfl) (by kernel_rfl) (by kernel_rfl) ?hQr1_6 (Or.inl ⟨?hwr1_6, ?hyr1_6⟩) (by assumption) ?restr1_6
      case hir1_6 => (simp only [List.getElem?_toArray, List.getElem?_cons_succ, List.getElem?_cons_zero]; rfl)
      case hwr1_6 => rfl
      case hyr1_6 => (intro w hSw; (try dsimp only at hSw); go_simp; (try with_reducible rfl))
      case hQr1_6 => exact fun _ _ _ h => h
      (try simp only [Act.put, List.setIfInBounds_toArray, List.set_cons_zero, List.set_cons_succ])
      refine wpAnyH_ready (rs := [5]) (by kernel_rfl) (by simp) ?_
      refine AllReadyH.cons rfl (fun K hK => ?_) AllReadyH.nil
      go_simp
      refine (He.out _ (Hx.out.nx (gW1.trans hn2))).mono ?_
      rintro e w3 ⟨A3, c3, rfl, ho3, hx3⟩
      have hn3 : Nx W1 w3 := hn2.trans hx3
      refine hK.out _ _ (kp _ hn3) (fun hHeld => ?_)
      clear hK K
      (try simp only [Act.put, List.setIfInBounds_toArray, List.set_cons_zero, List.set_cons_succ])
      refine wpAnyH_ready (rs := [7]) (by kernel_rfl) (by simp) ?_
      refine AllReadyH.cons rfl (fun K hK => ?_) AllReadyH.nil
      go_simp
      refine (Hct.out _ _ _ ho3.edgesAt).mono ?_
      rintro e w4 ⟨rfl, hx4⟩
      have hn4 : Nx W1 w4 := hn3.trans hx4
      refine hK.out _ _ (kp _ hn4) (fun hHeld => ?_)
      clear hK K
      (try simp only [Act.put, List.setIfInBounds_toArray, List.set_cons_zero, List.set_cons_succ])
      refine wpAnyH_take (i := 8) (oi := ?oir1_8) (v := ?vr1_8) ?hir1_8 (by kernel_rfl) (by kernel_rfl) (by kernel_rfl) ?hQr1_8 (Or.inl ⟨?hwr1_8, ?hyr1_8⟩) (by assumption) ?restr1_8
      case hir1_8 => (simp only [List.getElem?_toArray, List.getElem?_cons_succ, List.getElem?_cons_zero]; rfl)
      case hwr1_8 => rfl
      case hyr1_8 => (intro w hSw; (try dsimp only at hSw); go_simp; (try with_reducible rfl))
      case hQr1_8 => exact fun _ _ _ h => h
      (try simp only [Act.put, List.setIfInBounds_toArray, List.set_cons_zero, List.set_cons_succ])
      refine wpAnyH_take (i := 9) (oi := ?oir1_9) (v := ?vr1_9) ?hir1_9 (by kernel_rfl) (by kernel_rfl) (by kernel_rfl) ?hQr1_9 (Or.inl ⟨?hwr1_9, ?hyr1_9⟩) (by assumption) ?restr1_9
      case hir1_9 => (simp only [List.getElem?_toArray, List.getElem?_cons_succ, List.getElem?_cons_zero]; rfl)
      case hwr1_9 => rfl
      case hyr1_9 => (intro w hSw; (try dsimp only at hSw); go_simp; (try with_reducible rfl))
      case hQr1_9 => exact fun _ _ _ h => h
      (try simp only [Act.put, List.setIfInBounds_toArray, List.set_cons_zero, List.set_cons_succ])
      refine wpAnyH_done (by kernel_rfl) ?_ _
      go_wp2_with fail
      refine (Hst.out _ (Hx.out.nx (gW1.trans hn4))).mono ?_
      rintro e w5 (⟨_, A5, c5, rfl, ho5, hx5⟩ | ⟨hbad, _, _⟩)
      rotate_left
      · exact absurd Hokst.out hbad
      · have hn5 := hn4.trans hx5
        have hcap5 := ho5.cap
        rw [Hne.out] at hcap5
        obtain ⟨g5, rfl, _, _⟩ := ho5.at (by rw [Hne.out]; omega)
        have ho5e := ho5.edgesAt
        have ho5f := fun w' (h : EdgesAt w' (some ⟨g5, 0, none⟩) (stepsL xs)) => h.dropK (i + 1)
        rw [Hi1.out] at ho5f
        rw [Hne.out]
        generalize stepsL xs = SS at *
        have Ho5e := Lib.hid ho5e
        have Ho5f := Lib.hid ho5f
        have f1 : ¬ i1 = c5 := by omega
        have f2 : ¬ c5 = i1 := by omega
        have f3 : (ne : Int) ≤ (c5 : Int) := by omega
        have f4 : (i1 : Int) ≤ (c5 : Int) := by omega
        clear ho5 ho5e ho5f
        replace X0 := X0.nx hn5
        replace X0_0 := X0.cell (j := 0) rfl
        replace X0_1 := X0.cell (j := 1) rfl
        replace X0_z := X0.lt
        go_wp2_with fail
        refine (Hix.out _ _ _ Ho5e.out).mono ?_
        rintro e w6 ⟨rfl, hx6⟩
        replace X0 := X0.nx hx6
        replace X0_0 := X0.cell (j := 0) rfl
        replace X0_1 := X0.cell (j := 1) rfl
        replace X0_z := X0.lt
        have N6 := gW1.trans (hn5.trans hx6)
        have E5f := Ho5f.out _ (Ho5e.out.nx hx6)
        rw [Nat.zero_add] at E5f
        go_wp2
        have e1 := E1.out
        have e2 := E2.out
        have kp6 : ∀ w', Nx w6 w' → (fun w_ => Nx w6 w_ ∧ w_.cell? ⟨w.heap.size, 0, none⟩ = some (V u) ∧ w_.cell? ⟨w.heap.size, 1, none⟩ = some (V v)) w' := fun w' h => ⟨h, h.cell X0_z X0_0, h.cell X0_z X0_1⟩
        go_region_held3 (fun w_ => Nx w6 w_ ∧ w_.cell? ⟨w.heap.size, 0, none⟩ = some (V u) ∧ w_.cell? ⟨w.heap.size, 1, none⟩ = some (V v))
          (exact kp6 _ (by (repeat (first | exact Nx.refl _ | assumption | apply Nx.alloc | apply Nx.drew | apply Nx.drewN | (refine Nx.setCell ?_ (by first | (simp; done) | (simp; omega) | omega) _) | refine Nx.trans ?_ (by assumption))); done))
          ((go_at_call 54; (with_reducible refine (Hix2.out (some ⟨g5, i1 * 2, none⟩) _ _ (E5f.nx (by (repeat (first | exact Nx.refl _ | assumption | apply Nx.alloc | apply Nx.drew | apply Nx.drewN | (refine Nx.setCell ?_ (by first | (simp; done) | (simp; omega) | omega) _) | refine Nx.trans ?_ (by assumption))); done))).mono ?_); rintro e w7 ⟨rfl, hx7⟩; have hn7 : Nx w6 w7 := Nx.trans (by (repeat (first | exact Nx.refl _ | assumption | apply Nx.alloc | apply Nx.drew | apply Nx.drewN | (refine Nx.setCell ?_ (by first | (simp; done) | (simp; omega) | omega) _) | refine Nx.trans ?_ (by assumption))); done) hx7))
        clear e1 e2 kp6
        have N7 := N6.trans hn7
        have hz7 := N7.size
        go_wp2
        have e1 := E1.out
        have e3 := E3.out
        have e4 := E4.out
        by_cases hjc : j2 = c
        · have hjn2 : j2 = n := by omega
          have hZ := HZ0.out hjn2
          subst hZ
          have hzz : n - j2 = 0 := by omega
          subst hjc
          have hcn : n = j2 := hjn2.symm
          subst hcn
          go_region_held3 (fun w_ => Nx w7 w_)
            (exact (by (repeat (first | exact Nx.refl _ | assumption | apply Nx.alloc | apply Nx.drew | apply Nx.drewN | (refine Nx.setCell ?_ (by first | (simp; done) | (simp; omega) | omega) _) | refine Nx.trans ?_ (by assumption))); done))
            (first
              | (go_at_call 55; (refine (concat2_c _ (some ⟨b, off, none⟩) (some ⟨b, off, none⟩) i1 0 n 0 X [] _ HLX.out rfl (by omega) (by first | (simp; done) | omega | (simp; omega) | (simp [size_drew_]; done) | (simp [size_drew_]; omega)) (by go_simp) (by go_simp) (HxX.out _ (Hx.out.nx (N7.trans (by (repeat (first | exact Nx.refl _ | assumption | apply Nx.alloc | apply Nx.drew | apply Nx.drewN | (refine Nx.setCell ?_ (by first | (simp; done) | (simp; omega) | omega) _) | refine Nx.trans ?_ (by assumption))); done)))) (fun h => by simp at h)).mono ?_); rintro e w8 ⟨A8, c8, rfl, ho8, hx8⟩; have hn8 : Nx w7 w8 := Nx.trans (by (repeat (first | exact Nx.refl _ | assumption | apply Nx.alloc | apply Nx.drew | apply Nx.drewN | (refine Nx.setCell ?_ (by first | (simp; done) | (simp; omega) | omega) _) | refine Nx.trans ?_ (by assumption))); done) hx8; have hs8 := hx8.size; have hl8 := ho8.lt; (try simp [size_drew_] at hs8 hl8))
              | (go_at_call 42; (with_reducible refine (Hcl.out _ (HxY.out _ (Hx.out.nx (N7.trans (by (repeat (first | exact Nx.refl _ | assumption | apply Nx.alloc | apply Nx.drew | apply Nx.drewN | (refine Nx.setCell ?_ (by first | (simp; done) | (simp; omega) | omega) _) | refine Nx.trans ?_ (by assumption))); done))))).mono ?_); rintro e w9 ⟨A9, c9, rfl, ho9, hx9⟩; have hn9 : Nx w7 w9 := Nx.trans (by (repeat (first | exact Nx.refl _ | assumption | apply Nx.alloc | apply Nx.drew | apply Nx.drewN | (refine Nx.setCell ?_ (by first | (simp; done) | (simp; omega) | omega) _) | refine Nx.trans ?_ (by assumption))); done) hx9; have hs9 := hx9.size; have hl9 := ho9.lt; (try simp [size_drew_] at hs9 hl9)))
          all_goals go_wp2
          all_goals go_ret3
          all_goals have hap : (blk A8 = none ∨ blk A8 ≠ blk A9) ∧ (blk A9 = none ∨ blk A9 ≠ blk A8) := (by first
            | exact apart_lt (m := w8.heap.size) (fun k hk => (hl8 k hk).2) (fun k hk => by have h := (hl9 k hk).1; first | omega | (simp [size_drew_] at h; omega))
            | exact (apart_lt (m := w9.heap.size) (fun k hk => (hl9 k hk).2) (fun k hk => by have h := (hl8 k hk).1; first | omega | (simp [size_drew_] at h; omega))).symm)
          all_goals exact ⟨A8, c8, A9, c9, by (first | rw [List.length_append] | skip); rfl, (ho8.mono (by first | omega | (simp [size_drew_]; omega))).nx (by (repeat (first | exact Nx.refl _ | assumption | apply Nx.alloc | apply Nx.drew | apply Nx.drewN | (refine Nx.setCell ?_ (by first | (simp; done) | (simp; omega) | omega) _) | refine Nx.trans ?_ (by assumption))); done), (ho9.mono (by first | omega | (simp [size_drew_]; omega))).nx (by (repeat (first | exact Nx.refl _ | assumption | apply Nx.alloc | apply Nx.drew | apply Nx.drewN | (refine Nx.setCell ?_ (by first | (simp; done) | (simp; omega) | omega) _) | refine Nx.trans ?_ (by assumption))); done), hap.1, hap.2, N7.trans (by (repeat (first | exact Nx.refl _ | assumption | apply Nx.alloc | apply Nx.drew | apply Nx.drewN | (refine Nx.setCell ?_ (by first | (simp; done) | (simp; omega) | omega) _) | refine Nx.trans ?_ (by assumption))); done)⟩
        · have hjc2 : ¬ c = j2 := fun h => hjc h.symm
          go_region_held3 (fun w_ => Nx w7 w_)
            (exact (by (repeat (first | exact Nx.refl _ | assumption | apply Nx.alloc | apply Nx.drew | apply Nx.drewN | (refine Nx.setCell ?_ (by first | (simp; done) | (simp; omega) | omega) _) | refine Nx.trans ?_ (by assumption))); done))
            (first
              | (go_at_call 55; (refine (concat2_c _ (some ⟨b, off, none⟩) (some ⟨b, off + j2, none⟩) i1 (n - j2) c (c - j2) X Z _ HLX.out HLZ.out (by omega) (by first | (simp; done) | omega | (simp; omega) | (simp [size_drew_]; done) | (simp [size_drew_]; omega)) (by go_simp) (by go_simp) (HxX.out _ (Hx.out.nx (N7.trans (by (repeat (first | exact Nx.refl _ | assumption | apply Nx.alloc | apply Nx.drew | apply Nx.drewN | (refine Nx.setCell ?_ (by first | (simp; done) | (simp; omega) | omega) _) | refine Nx.trans ?_ (by assumption))); done)))) (HxZ.out _ (Hx.out.nx (N7.trans (by (repeat (first | exact Nx.refl _ | assumption | apply Nx.alloc | apply Nx.drew | apply Nx.drewN | (refine Nx.setCell ?_ (by first | (simp; done) | (simp; omega) | omega) _) | refine Nx.trans ?_ (by assumption))); done))))).mono ?_); rintro e w8 ⟨A8, c8, rfl, ho8, hx8⟩; have hn8 : Nx w7 w8 := Nx.trans (by (repeat (first | exact Nx.refl _ | assumption | apply Nx.alloc | apply Nx.drew | apply Nx.drewN | (refine Nx.setCell ?_ (by first | (simp; done) | (simp; omega) | omega) _) | refine Nx.trans ?_ (by assumption))); done) hx8; have hs8 := hx8.size; have hl8 := ho8.lt; (try simp [size_drew_] at hs8 hl8))
              | (go_at_call 42; (with_reducible refine (Hcl.out _ (HxY.out _ (Hx.out.nx (N7.trans (by (repeat (first | exact Nx.refl _ | assumption | apply Nx.alloc | apply Nx.drew | apply Nx.drewN | (refine Nx.setCell ?_ (by first | (simp; done) | (simp; omega) | omega) _) | refine Nx.trans ?_ (by assumption))); done))))).mono ?_); rintro e w9 ⟨A9, c9, rfl, ho9, hx9⟩; have hn9 : Nx w7 w9 := Nx.trans (by (repeat (first | exact Nx.refl _ | assumption | apply Nx.alloc | apply Nx.drew | apply Nx.drewN | (refine Nx.setCell ?_ (by first | (simp; done) | (simp; omega) | omega) _) | refine Nx.trans ?_ (by assumption))); done) hx9; have hs9 := hx9.size; have hl9 := ho9.lt; (try simp [size_drew_] at hs9 hl9)))
          all_goals go_wp2
          all_goals go_ret3
          all_goals have hap : (blk A8 = none ∨ blk A8 ≠ blk A9) ∧ (blk A9 = none ∨ blk A9 ≠ blk A8) := (by first
            | exact apart_lt (m := w8.heap.size) (fun k hk => (hl8 k hk).2) (fun k hk => by have h := (hl9 k hk).1; first | omega | (simp [size_drew_] at h; omega))
            | exact (apart_lt (m := w9.heap.size) (fun k hk => (hl9 k hk).2) (fun k hk => by have h := (hl8 k hk).1; first | omega | (simp [size_drew_] at h; omega))).symm)
          all_goals exact ⟨A8, c8, A9, c9, by (first | rw [List.length_append] | skip); rfl, (ho8.mono (by first | omega | (simp [size_drew_]; omega))).nx (by (repeat (first | exact Nx.refl _ | assumption | apply Nx.alloc | apply Nx.drew | apply Nx.drewN | (refine Nx.setCell ?_ (by first | (simp; done) | (simp; omega) | omega) _) | refine Nx.trans ?_ (by assumption))); done), (ho9.mono (by first | omega | (simp [size_drew_]; omega))).nx (by (repeat (first | exact Nx.refl _ | assumption | apply Nx.alloc | apply Nx.drew | apply Nx.drewN | (refine Nx.setCell ?_ (by first | (simp; done) | (simp; omega) | omega) _) | refine Nx.trans ?_ (by assumption))); done), hap.1, hap.2, N7.trans (by (repeat (first | exact Nx.refl _ | assumption | apply Nx.alloc | apply Nx.drew | apply Nx.drewN | (refine Nx.setCell ?_ (by first | (simp; done) | (simp; omega) | omega) _) | refine Nx.trans ?_ (by assumption))); done)⟩
    · have hok : ¬ spOk xs (u, v) := fun h => hm h.2
      rw [(tSpl_no hok).1, (tSpl_no hok).2, decide_eq_false hok]
      rw [decide_eq_false hm] at hct
      generalize eset (stepsL xs) = es at *
      have Hv := Lib.hid hv
      have He := Lib.hid he
      have Hct := Lib.hid hct
      clear hv he hct hn hx ht hm hok
      go_enter Try.func17, Try.ntmps17
      go_wp2_with fail
      generalize hW1 : World.alloc _ _ = W1
      have gW1 : Nx w W1 := by subst hW1; exact (by repeat (first | exact Nx.refl _ | assumption | apply Nx.alloc | apply Nx.drew | apply Nx.drewN | (refine Nx.setCell ?_ (by first | (simp; done) | (simp; omega) | omega) _) | refine Nx.trans ?_ (by assumption)))
      have sW1 : W1.heap.size = w.heap.size + 1 := by subst hW1; simp
      have X0 : Bx W1 (w.heap.size) 30 [V u, V v] := by subst hW1; have h := Bx.alloc w 30 [V u, V v]; simpa using h
      have X0_0 := X0.cell (j := 0) rfl
      have X0_1 := X0.cell (j := 1) rfl
      have X0_z := X0.lt
      have HsW1 := Lib.hid sW1
      have lW1 : w.heap.size + 1 ≤ W1.heap.size := by omega
      clear hW1 sW1
      have kp : ∀ w', Nx W1 w' → (fun w_ => Nx W1 w_ ∧ w_.cell? ⟨w.heap.size, 0, none⟩ = some (V u) ∧ w_.cell? ⟨w.heap.size, 1, none⟩ = some (V v)) w' := fun w' h => ⟨h, h.cell X0_z X0_0, h.cell X0_z X0_1⟩
      have hdr : Nx W1 W1.drew := .drew (.refl _)
      refine wp_region_held_drew (S := (fun w_ => Nx W1 w_ ∧ w_.cell? ⟨w.heap.size, 0, none⟩ = some (V u) ∧ w_.cell? ⟨w.heap.size, 1, none⟩ = some (V v))) (by kernel_rfl) (kp _ hdr) (fun hHeld => ?_)
      refine wpAnyH_take (i := 0) (oi := ?oir2_0) (v := ?vr2_0) ?hir2_0 (by kernel_rfl) (by kernel_rfl) (by kernel_rfl) ?hQr2_0 (Or.inl ⟨?hwr2_0, ?hyr2_0⟩) (by assumption) ?restr2_0
      case hir2_0 => (simp only [List.getElem?_toArray, List.getElem?_cons_succ, List.getElem?_cons_zero]; rfl)
      case hwr2_0 => rfl
      case hyr2_0 => (intro w hSw; (try dsimp only at hSw); go_simp; (try with_reducible rfl))
      case hQr2_0 => exact fun _ _ _ h => h
      (try simp only [Act.put, List.setIfInBounds_toArray, List.set_cons_zero, List.set_cons_succ])
      refine wpAnyH_ready (rs := [1]) (by kernel_rfl) (by simp) ?_
      refine AllReadyH.cons rfl (fun K hK => ?_) AllReadyH.nil
      go_simp
      refine (Hv.out _ (Hx.out.nx (gW1.trans hdr))).mono ?_
      rintro e w2 ⟨rfl, hx2⟩
      have hn2 : Nx W1 w2 := hdr.trans hx2
      refine hK.out _ _ (kp _ hn2) (fun hHeld => ?_)
      clear hK K
      (try simp only [Act.put, List.setIfInBounds_toArray, List.set_cons_zero, List.set_cons_succ])
      refine wpAnyH_take (i := 2) (oi := ?oir2_2) (v := ?vr2_2) ?hir2_2 (by kernel_rfl) (by kernel_rfl) (by kernel_rfl) ?hQr2_2 (Or.inl ⟨?hwr2_2, ?hyr2_2⟩) (by assumption) ?restr2_2
      case hir2_2 => (simp only [List.getElem?_toArray, List.getElem?_cons_succ, List.getElem?_cons_zero]; rfl)
      case hwr2_2 => rfl
      case hyr2_2 => (intro w hSw; (try dsimp only at hSw); go_simp; (try with_reducible rfl))
      case hQr2_2 => exact fun _ _ _ h => h
      (try simp only [Act.put, List.setIfInBounds_toArray, List.set_cons_zero, List.set_cons_succ])
      refine wpAnyH_take (i := 3) (oi := ?oir2_3) (v := ?vr2_3) ?hir2_3 (by kernel_rfl) (by kernel_rfl) (by kernel_rfl) ?hQr2_3 (Or.inl ⟨?hwr2_3, ?hyr2_3⟩) (by assumption) ?restr2_3
      case hir2_3 => (simp only [List.getElem?_toArray, List.getElem?_cons_succ, List.getElem?_cons_zero]; rfl)
      case hwr2_3 => rfl
      case hyr2_3 => (intro w hSw; (try dsimp only at hSw); go_simp; (try with_reducible rfl))
      case hQr2_3 => exact fun _ _ _ h => h
      (try simp only [Act.put, List.setIfInBounds_toArray, List.set_cons_zero, List.set_cons_succ])
      refine wpAnyH_take (i := 4) (oi := ?oir2_4) (v := ?vr2_4) ?hir2_4 (by kernel_rfl) (by kernel_rfl) (by kernel_rfl) ?hQr2_4 (Or.inl ⟨?hwr2_4, ?hyr2_4⟩) (by assumption) ?restr2_4
      case hir2_4 => (simp only [List.getElem?_toArray, List.getElem?_cons_succ, List.getElem?_cons_zero]; rfl)
      case hwr2_4 => rfl
      case hyr2_4 => (intro w hSw; (try dsimp only at hSw); go_simp; (try with_reducible rfl))
      case hQr2_4 => exact fun _ _ _ h => h
      (try simp only [Act.put, List.setIfInBounds_toArray, List.set_cons_zero, List.set_cons_succ])
      refine wpAnyH_take (i := 6) (oi := ?oir2_6) (v := ?vr2_6) ?hir2_6 (by kernel_rfl) (by kernel_rfl) (by kernel_rfl) ?hQr2_6 (Or.inl ⟨?hwr2_6, ?hyr2_6⟩) (by assumption) ?restr2_6
      case hir2_6 => (simp only [List.getElem?_toArray, List.getElem?_cons_succ, List.getElem?_cons_zero]; rfl)
      case hwr2_6 => rfl
      case hyr2_6 => (intro w hSw; (try dsimp only at hSw); go_simp; (try with_reducible rfl))
      case hQr2_6 => exact fun _ _ _ h => h
      (try simp only [Act.put, List.setIfInBounds_toArray, List.set_cons_zero, List.set_cons_succ])
      refine wpAnyH_ready (rs := [5]) (by kernel_rfl) (by simp) ?_
      refine AllReadyH.cons rfl (fun K hK => ?_) AllReadyH.nil
      go_simp
      refine (He.out _ (Hx.out.nx (gW1.trans hn2))).mono ?_
      rintro e w3 ⟨A3, c3, rfl, ho3, hx3⟩
      have hn3 : Nx W1 w3 := hn2.trans hx3
      refine hK.out _ _ (kp _ hn3) (fun hHeld => ?_)
      clear hK K
      (try simp only [Act.put, List.setIfInBounds_toArray, List.set_cons_zero, List.set_cons_succ])
      refine wpAnyH_ready (rs := [7]) (by kernel_rfl) (by simp) ?_
      refine AllReadyH.cons rfl (fun K hK => ?_) AllReadyH.nil
      go_simp
      refine (Hct.out _ _ _ ho3.edgesAt).mono ?_
      rintro e w4 ⟨rfl, hx4⟩
      have hn4 : Nx W1 w4 := hn3.trans hx4
      refine hK.out _ _ (kp _ hn4) (fun hHeld => ?_)
      clear hK K
      (try simp only [Act.put, List.setIfInBounds_toArray, List.set_cons_zero, List.set_cons_succ])
      refine wpAnyH_take (i := 8) (oi := ?oir2_8) (v := ?vr2_8) ?hir2_8 (by kernel_rfl) (by kernel_rfl) (by kernel_rfl) ?hQr2_8 (Or.inl ⟨?hwr2_8, ?hyr2_8⟩) (by assumption) ?restr2_8
      case hir2_8 => (simp only [List.getElem?_toArray, List.getElem?_cons_succ, List.getElem?_cons_zero]; rfl)
      case hwr2_8 => rfl
      case hyr2_8 => (intro w hSw; (try dsimp only at hSw); go_simp; (try with_reducible rfl))
      case hQr2_8 => exact fun _ _ _ h => h
      (try simp only [Act.put, List.setIfInBounds_toArray, List.set_cons_zero, List.set_cons_succ])
      refine wpAnyH_take (i := 9) (oi := ?oir2_9) (v := ?vr2_9) ?hir2_9 (by kernel_rfl) (by kernel_rfl) (by kernel_rfl) ?hQr2_9 (Or.inl ⟨?hwr2_9, ?hyr2_9⟩) (by assumption) ?restr2_9
      case hir2_9 => (simp only [List.getElem?_toArray, List.getElem?_cons_succ, List.getElem?_cons_zero]; rfl)
      case hwr2_9 => rfl
      case hyr2_9 => (intro w hSw; (try dsimp only at hSw); go_simp; (try with_reducible rfl))
      case hQr2_9 => exact fun _ _ _ h => h
      (try simp only [Act.put, List.setIfInBounds_toArray, List.set_cons_zero, List.set_cons_succ])
      refine wpAnyH_done (by kernel_rfl) ?_ _
      go_wp2
      go_ret3
      exact ⟨none, 0, none, 0, rfl, OwnI.nil _ _ _, OwnI.nil _ _ _, .inl rfl, .inl rfl, gW1.trans hn4⟩
  · have hok : ¬ spOk xs (u, v) := fun h => ht h.1
    rw [(tSpl_no hok).1, (tSpl_no hok).2, decide_eq_false hok]
    rw [decide_eq_false ht] at hv
    have Hv := Lib.hid hv
    clear hv hn hx ht hok
    go_enter Try.func17, Try.ntmps17
    go_wp2_with fail
    generalize hW1 : World.alloc _ _ = W1
    have gW1 : Nx w W1 := by subst hW1; exact (by repeat (first | exact Nx.refl _ | assumption | apply Nx.alloc | apply Nx.drew | apply Nx.drewN | (refine Nx.setCell ?_ (by first | (simp; done) | (simp; omega) | omega) _) | refine Nx.trans ?_ (by assumption)))
    have sW1 : W1.heap.size = w.heap.size + 1 := by subst hW1; simp
    have X0 : Bx W1 (w.heap.size) 30 [V u, V v] := by subst hW1; have h := Bx.alloc w 30 [V u, V v]; simpa using h
    have X0_0 := X0.cell (j := 0) rfl
    have X0_1 := X0.cell (j := 1) rfl
    have X0_z := X0.lt
    have HsW1 := Lib.hid sW1
    have lW1 : w.heap.size + 1 ≤ W1.heap.size := by omega
    clear hW1 sW1
    have kp : ∀ w', Nx W1 w' → (fun w_ => Nx W1 w_ ∧ w_.cell? ⟨w.heap.size, 0, none⟩ = some (V u) ∧ w_.cell? ⟨w.heap.size, 1, none⟩ = some (V v)) w' := fun w' h => ⟨h, h.cell X0_z X0_0, h.cell X0_z X0_1⟩
    have hdr : Nx W1 W1.drew := .drew (.refl _)
    refine wp_region_held_drew (S := (fun w_ => Nx W1 w_ ∧ w_.cell? ⟨w.heap.size, 0, none⟩ = some (V u) ∧ w_.cell? ⟨w.heap.size, 1, none⟩ = some (V v))) (by kernel_rfl) (kp _ hdr) (fun hHeld => ?_)
    refine wpAnyH_take (i := 0) (oi := ?oir3_0) (v := ?vr3_0) ?hir3_0 (by kernel_rfl) (by kernel_rfl) (by kernel_rfl) ?hQr3_0 (Or.inl ⟨?hwr3_0, ?hyr3_0⟩) (by assumption) ?restr3_0
    case hir3_0 => (simp only [List.getElem?_toArray, List.getElem?_cons_succ, List.getElem?_cons_zero]; rfl)
    case hwr3_0 => rfl
    case hyr3_0 => (intro w hSw; (try dsimp only at hSw); go_simp; (try with_reducible rfl))
    case hQr3_0 => exact fun _ _ _ h => h
    (try simp only [Act.put, List.setIfInBounds_toArray, List.set_cons_zero, List.set_cons_succ])
    refine wpAnyH_ready (rs := [1]) (by kernel_rfl) (by simp) ?_
    refine AllReadyH.cons rfl (fun K hK => ?_) AllReadyH.nil
    go_simp
    refine (Hv.out _ (Hx.out.nx (gW1.trans hdr))).mono ?_
    rintro e w2 ⟨rfl, hx2⟩
    have hn2 : Nx W1 w2 := hdr.trans hx2
    refine hK.out _ _ (kp _ hn2) (fun hHeld => ?_)
    clear hK K
    (try simp only [Act.put, List.setIfInBounds_toArray, List.set_cons_zero, List.set_cons_succ])
    refine wpAnyH_take (i := 2) (oi := ?oir3_2) (v := ?vr3_2) ?hir3_2 (by kernel_rfl) (by kernel_rfl) (by kernel_rfl) ?hQr3_2 (Or.inl ⟨?hwr3_2, ?hyr3_2⟩) (by assumption) ?restr3_2
    case hir3_2 => (simp only [List.getElem?_toArray, List.getElem?_cons_succ, List.getElem?_cons_zero]; rfl)
    case hwr3_2 => rfl
    case hyr3_2 => (intro w hSw; (try dsimp only at hSw); go_simp; (try with_reducible rfl))
    case hQr3_2 => exact fun _ _ _ h => h
    (try simp only [Act.put, List.setIfInBounds_toArray, List.set_cons_zero, List.set_cons_succ])
    refine wpAnyH_take (i := 3) (oi := ?oir3_3) (v := ?vr3_3) ?hir3_3 (by kernel_rfl) (by kernel_rfl) (by kernel_rfl) ?hQr3_3 (Or.inl ⟨?hwr3_3, ?hyr3_3⟩) (by assumption) ?restr3_3
    case hir3_3 => (simp only [List.getElem?_toArray, List.getElem?_cons_succ, List.getElem?_cons_zero]; rfl)
    case hwr3_3 => rfl
    case hyr3_3 => (intro w hSw; (try dsimp only at hSw); go_simp; (try with_reducible rfl))
    case hQr3_3 => exact fun _ _ _ h => h
    (try simp only [Act.put, List.setIfInBounds_toArray, List.set_cons_zero, List.set_cons_succ])
    refine wpAnyH_take (i := 4) (oi := ?oir3_4) (v := undef) ?hir3_4 (by kernel_rfl) (by kernel_rfl) (by kernel_rfl) ?hQr3_4 (Or.inr ⟨?hwr3_4, rfl⟩) (by assumption) ?restr3_4
    case hir3_4 => (simp only [List.getElem?_toArray, List.getElem?_cons_succ, List.getElem?_cons_zero]; rfl)
    case hwr3_4 => rfl
    case hQr3_4 => exact fun _ _ _ h => h
    (try simp only [Act.put, List.setIfInBounds_toArray, List.set_cons_zero, List.set_cons_succ])
    refine wpAnyH_take (i := 5) (oi := ?oir3_5) (v := undef) ?hir3_5 (by kernel_rfl) (by kernel_rfl) (by kernel_rfl) ?hQr3_5 (Or.inr ⟨?hwr3_5, rfl⟩) (by assumption) ?restr3_5
    case hir3_5 => (simp only [List.getElem?_toArray, List.getElem?_cons_succ, List.getElem?_cons_zero]; rfl)
    case hwr3_5 => rfl
    case hQr3_5 => exact fun _ _ _ h => h
    (try simp only [Act.put, List.setIfInBounds_toArray, List.set_cons_zero, List.set_cons_succ])
    refine wpAnyH_take (i := 6) (oi := ?oir3_6) (v := undef) ?hir3_6 (by kernel_rfl) (by kernel_rfl) (by kernel_rfl) ?hQr3_6 (Or.inr ⟨?hwr3_6, rfl⟩) (by assumption) ?restr3_6
    case hir3_6 => (simp only [List.getElem?_toArray, List.getElem?_cons_succ, List.getElem?_cons_zero]; rfl)
    case hwr3_6 => rfl
    case hQr3_6 => exact fun _ _ _ h => h
    (try simp only [Act.put, List.setIfInBounds_toArray, List.set_cons_zero, List.set_cons_succ])
    refine wpAnyH_take (i := 7) (oi := ?oir3_7) (v := undef) ?hir3_7 (by kernel_rfl) (by kernel_rfl) (by kernel_rfl) ?hQr3_7 (Or.inr ⟨?hwr3_7, rfl⟩) (by assumption) ?restr3_7
    case hir3_7 => (simp only [List.getElem?_toArray, List.getElem?_cons_succ, List.getElem?_cons_zero]; rfl)
    case hwr3_7 => rfl
    case hQr3_7 => exact fun _ _ _ h => h
    (try simp only [Act.put, List.setIfInBounds_toArray, List.set_cons_zero, List.set_cons_succ])
    refine wpAnyH_take (i := 8) (oi := ?oir3_8) (v := undef) ?hir3_8 (by kernel_rfl) (by kernel_rfl) (by kernel_rfl) ?hQr3_8 (Or.inr ⟨?hwr3_8, rfl⟩) (by assumption) ?restr3_8
    case hir3_8 => (simp only [List.getElem?_toArray, List.getElem?_cons_succ, List.getElem?_cons_zero]; rfl)
    case hwr3_8 => rfl
    case hQr3_8 => exact fun _ _ _ h => h
    (try simp only [Act.put, List.setIfInBounds_toArray, List.set_cons_zero, List.set_cons_succ])
    refine wpAnyH_take (i := 9) (oi := ?oir3_9) (v := ?vr3_9) ?hir3_9 (by kernel_rfl) (by kernel_rfl) (by kernel_rfl) ?hQr3_9 (Or.inl ⟨?hwr3_9, ?hyr3_9⟩) (by assumption) ?restr3_9
    case hir3_9 => (simp only [List.getElem?_toArray, List.getElem?_cons_succ, List.getElem?_cons_zero]; rfl)
    case hwr3_9 => rfl
    case hyr3_9 => (intro w hSw; (try dsimp only at hSw); go_simp; (try with_reducible rfl))
    case hQr3_9 => exact fun _ _ _ h => h
    (try simp only [Act.put, List.setIfInBounds_toArray, List.set_cons_zero, List.set_cons_succ])
    refine wpAnyH_done (by kernel_rfl) ?_ _
    go_wp2
    go_ret3
    exact ⟨none, 0, none, 0, rfl, OwnI.nil _ _ _, OwnI.nil _ _ _, .inl rfl, .inl rfl, gW1.trans hn2⟩

/-- where a place was found among the first k -/
def frP (i k : Nat) : Int := if i < k then (i : Int) + 1 else -1
theorem frP_le {i k : Nat} (h : k ≤ i) : frP i k = -1 := if_neg (by omega)
theorem frP_lt {i k : Nat} (h : i < k) : frP i k = (i : Int) + 1 := if_pos h
theorem frP_step {i k : Nat} (h : k ≠ i) : frP i (k + 1) = frP i k := by
  unfold frP
  by_cases a : i < k
  · rw [if_pos a, if_pos (by omega)]
  · rw [if_neg a, if_neg (by omega)]
theorem frP_bd (i k : Nat) : -1 ≤ frP i k ∧ frP i k ≤ (i : Int) + 1 := by unfold frP; split <;> omega
set_option maxRecDepth 100000 in
set_option maxHeartbeats 4000000 in
theorem sSplitTour_c (A : Option Addr) (c n : Nat) (xs : List Int) (u v : Int) (w : World) (hn : xs.length = n) (hc : n ≤ c) (hx : IntsAt w A xs) (hl : n ≤ 1048576) :
    Calls Try.prog 18 #[.slice A n c, Ed u v] w (RetIIB (tSplA xs (u, v)) (tSplB xs (u, v)) (decide (spOk xs (u, v))) w) := by
  have hv := fun w' h => sTourValid_c A c n xs w' hn hc h hl
  have Hx := Lib.hid hx
  by_cases ht : TV xs
  · rw [decide_eq_true ht] at hv
    have he := fun w' h => l6Edges_c A c xs w' h (by have := ht.1.2.1; omega)
    rw [hn] at he
    have hlen := tv_len ht
    have hct := fun B d w' h => l1Find_c B d (eset (stepsL xs)) u v w' h (by omega)
    by_cases hm : (u, v) ∈ eset (stepsL xs)
    · have hok : spOk xs (u, v) := ⟨ht, hm⟩
      have hzi : ¬ idxE (eset (stepsL xs)) (u, v) < 0 := by have := (idxE_nonneg (eset (stepsL xs)) (u, v)).2 hm; omega
      obtain ⟨i, j, hp, hjn, hA, hB⟩ := spOk_places hok
      rw [(tSpl_yes hok).1, (tSpl_yes hok).2, hA, hB, decide_eq_true hok]
      have hij := hp.lt
      rw [hn] at hjn
      have hn31 := ht.1.2.1
      rw [hn] at hn31
      obtain ⟨b, off, rfl, hb⟩ := hx.addr (by omega)
      have hlX : (xs.take (i + 1)).length = i + 1 := by simp; omega
      have hlZ : (xs.drop (j + 2)).length = n - (j + 2) := by simp; omega
      have hlY : ((xs.take (j + 1)).drop (i + 1)).length = j + 1 - (i + 1) := by simp; omega
      have hxX := fun w' (h : IntsAt w' (some ⟨b, off, none⟩) xs) => h.take (i + 1)
      have hxZ := fun w' (h : IntsAt w' (some ⟨b, off, none⟩) xs) => h.tail (j + 2)
      have hxY := fun w' (h : IntsAt w' (some ⟨b, off, none⟩) xs) => h.sub (i + 1) (j + 1)
      have hZ0 : j + 2 = n → xs.drop (j + 2) = [] := fun h => List.drop_eq_nil_of_le (by omega)
      have Hp := Lib.hid hp
      have Hn := Lib.hid hn
      obtain ⟨i0, hi0, hz0, hz1, hz2⟩ := info_parts infoI
      have Hi0 := Lib.hid hi0
      have Hz0 := Lib.hid hz0
      have Hz1 := Lib.hid hz1
      have Hz2 := Lib.hid hz2
      clear hi0 hz0 hz1 hz2
      generalize xs.take (i + 1) = X at *
      generalize xs.drop (j + 2) = Z at *
      generalize (xs.take (j + 1)).drop (i + 1) = Y at *
      obtain ⟨i1, hi1⟩ : ∃ i1, i + 1 = i1 := ⟨_, rfl⟩
      obtain ⟨j1, hj1⟩ : ∃ j1, j + 1 = j1 := ⟨_, rfl⟩
      obtain ⟨j2, hj2⟩ : ∃ j2, j + 2 = j2 := ⟨_, rfl⟩
      rw [hi1] at hlX hlY hxY
      rw [hj1] at hlY
      rw [hj2] at hlZ hxZ hZ0
      have b1 : i1 ≤ c := by omega
      have b2 : j2 ≤ n := by omega
      have b3 : j1 ≤ c := by omega
      have b4 : i1 ≤ j1 := by omega
      have b5 : (i1 : Int) ≤ (c : Int) := by omega
      have b6 : (j2 : Int) ≤ (n : Int) := by omega
      have b7 : (i1 : Int) ≤ (j1 : Int) := by omega
      have b8 : (j1 : Int) ≤ (c : Int) := by omega
      have b9 : ¬ i1 = c := by omega
      have b10 : ¬ c = i1 := by omega
      have b11 : j1 ≤ 31 := by omega
      have b12 : j2 ≤ 31 := by omega
      have HLX := Lib.hid hlX
      have HLY := Lib.hid hlY
      have HLZ := Lib.hid hlZ
      have HxX := Lib.hid hxX
      have HxY := Lib.hid hxY
      have HxZ := Lib.hid hxZ
      have HZ0 := Lib.hid hZ0
      have e5 : IntKind.i64.wrap ((j1 : Int) + 1) = (j2 : Int) := by rw [IntKind.wrap_i64]; omega
      have E5 := Lib.hid e5
      have Hi1 := Lib.hid hi1
      have Hj1 := Lib.hid hj1
      generalize idxE (eset (stepsL xs)) (u, v) = zi at *
      generalize eset (stepsL xs) = es at *
      have Hv := Lib.hid hv
      have He := Lib.hid he
      have Hct := Lib.hid hct
      clear hv he hct hi1 hj1 hj2 hp hok hm ht hn hx hA hB hlX hlY hlZ hxX hxY hxZ hZ0 e5
      go_enter Try.func18, Try.ntmps18
      go_wp2_with fail
      generalize hW1 : World.alloc _ _ = W1
      have gW1 : Nx w W1 := by subst hW1; exact (by repeat (first | exact Nx.refl _ | assumption | apply Nx.alloc | apply Nx.drew | apply Nx.drewN | (refine Nx.setCell ?_ (by first | (simp; done) | (simp; omega) | omega) _) | refine Nx.trans ?_ (by assumption)))
      have sW1 : W1.heap.size = w.heap.size + 1 := by subst hW1; simp
      have X0 : Bx W1 (w.heap.size) 30 [V u, V v] := by subst hW1; have h := Bx.alloc w 30 [V u, V v]; simpa using h
      have X0_0 := X0.cell (j := 0) rfl
      have X0_1 := X0.cell (j := 1) rfl
      have X0_z := X0.lt
      have HsW1 := Lib.hid sW1
      have lW1 : w.heap.size + 1 ≤ W1.heap.size := by omega
      clear hW1 sW1
      have kp : ∀ w', Nx W1 w' → (fun w_ => Nx W1 w_ ∧ w_.cell? ⟨w.heap.size, 0, none⟩ = some (V u) ∧ w_.cell? ⟨w.heap.size, 1, none⟩ = some (V v)) w' := fun w' h => ⟨h, h.cell X0_z X0_0, h.cell X0_z X0_1⟩
      have hdr : Nx W1 W1.drew := .drew (.refl _)
      refine wp_region_held_drew (S := (fun w_ => Nx W1 w_ ∧ w_.cell? ⟨w.heap.size, 0, none⟩ = some (V u) ∧ w_.cell? ⟨w.heap.size, 1, none⟩ = some (V v))) (by kernel_rfl) (kp _ hdr) (fun hHeld => ?_)
      refine wpAnyH_take (i := 0) (oi := ?oir4_0) (v := ?vr4_0) ?hir4_0 (by kernel_rfl) (by kernel_rfl) (by kernel_rfl) ?hQr4_0 (Or.inl ⟨?hwr4_0, ?hyr4_0⟩) (by assumption) ?restr4_0
      case hir4_0 => (simp only [List.getElem?_toArray, List.getElem?_cons_succ, List.getElem?_cons_zero]; rfl)
      case hwr4_0 => rfl
      case hyr4_0 => (intro w hSw; (try dsimp only at hSw); go_simp; (try with_reducible rfl))
      case hQr4_0 => exact fun _ _ _ h => h
      (try simp only [Act.put, List.setIfInBounds_toArray, List.set_cons_zero, List.set_cons_succ])
      refine wpAnyH_ready (rs := [1]) (by kernel_rfl) (by simp) ?_
      refine AllReadyH.cons rfl (fun K hK => ?_) AllReadyH.nil
      go_simp
      refine (Hv.out _ (Hx.out.nx (gW1.trans hdr))).mono ?_
      rintro e w2 ⟨rfl, hx2⟩
      have hn2 : Nx W1 w2 := hdr.trans hx2
      refine hK.out _ _ (kp _ hn2) (fun hHeld => ?_)
      clear hK K
      (try simp only [Act.put, List.setIfInBounds_toArray, List.set_cons_zero, List.set_cons_succ])
      refine wpAnyH_take (i := 2) (oi := ?oir4_2) (v := ?vr4_2) ?hir4_2 (by kernel_rfl) (by kernel_rfl) (by kernel_rfl) ?hQr4_2 (Or.inl ⟨?hwr4_2, ?hyr4_2⟩) (by assumption) ?restr4_2
      case hir4_2 => (simp only [List.getElem?_toArray, List.getElem?_cons_succ, List.getElem?_cons_zero]; rfl)
      case hwr4_2 => rfl
      case hyr4_2 => (intro w hSw; (try dsimp only at hSw); go_simp; (try with_reducible rfl))
      case hQr4_2 => exact fun _ _ _ h => h
      (try simp only [Act.put, List.setIfInBounds_toArray, List.set_cons_zero, List.set_cons_succ])
      refine wpAnyH_take (i := 3) (oi := ?oir4_3) (v := ?vr4_3) ?hir4_3 (by kernel_rfl) (by kernel_rfl) (by kernel_rfl) ?hQr4_3 (Or.inl ⟨?hwr4_3, ?hyr4_3⟩) (by assumption) ?restr4_3
      case hir4_3 => (simp only [List.getElem?_toArray, List.getElem?_cons_succ, List.getElem?_cons_zero]; rfl)
      case hwr4_3 => rfl
      case hyr4_3 => (intro w hSw; (try dsimp only at hSw); go_simp; (try with_reducible rfl))
      case hQr4_3 => exact fun _ _ _ h => h
      (try simp only [Act.put, List.setIfInBounds_toArray, List.set_cons_zero, List.set_cons_succ])
      refine wpAnyH_take (i := 4) (oi := ?oir4_4) (v := ?vr4_4) ?hir4_4 (by kernel_rfl) (by kernel_rfl) (by kernel_rfl) ?hQr4_4 (Or.inl ⟨?hwr4_4, ?hyr4_4⟩) (by assumption) ?restr4_4
      case hir4_4 => (simp only [List.getElem?_toArray, List.getElem?_cons_succ, List.getElem?_cons_zero]; rfl)
      case hwr4_4 => rfl
      case hyr4_4 => (intro w hSw; (try dsimp only at hSw); go_simp; (try with_reducible rfl))
      case hQr4_4 => exact fun _ _ _ h => h
      (try simp only [Act.put, List.setIfInBounds_toArray, List.set_cons_zero, List.set_cons_succ])
      refine wpAnyH_take (i := 6) (oi := ?oir4_6) (v := ?vr4_6) ?hir4_6 (by kernel_rfl) (by kernel_rfl) (by kernel_rfl) ?hQr4_6 (Or.inl ⟨?hwr4_6, ?hyr4_6⟩) (by assumption) ?restr4_6
      case hir4_6 => (simp only [List.getElem?_toArray, List.getElem?_cons_succ, List.getElem?_cons_zero]; rfl)
      case hwr4_6 => rfl
      case hyr4_6 => (intro w hSw; (try dsimp only at hSw); go_simp; (try with_reducible rfl))
      case hQr4_6 => exact fun _ _ _ h => h
      (try simp only [Act.put, List.setIfInBounds_toArray, List.set_cons_zero, List.set_cons_succ])
      refine wpAnyH_ready (rs := [5]) (by kernel_rfl) (by simp) ?_
      refine AllReadyH.cons rfl (fun K hK => ?_) AllReadyH.nil
      go_simp
      refine (He.out _ (Hx.out.nx (gW1.trans hn2))).mono ?_
      rintro e w3 ⟨A3, c3, rfl, ho3, hx3⟩
      have hn3 : Nx W1 w3 := hn2.trans hx3
      refine hK.out _ _ (kp _ hn3) (fun hHeld => ?_)
      clear hK K
      (try simp only [Act.put, List.setIfInBounds_toArray, List.set_cons_zero, List.set_cons_succ])
      refine wpAnyH_ready (rs := [7]) (by kernel_rfl) (by simp) ?_
      refine AllReadyH.cons rfl (fun K hK => ?_) AllReadyH.nil
      go_simp
      refine (Hct.out _ _ _ ho3.edgesAt).mono ?_
      rintro e w4 ⟨rfl, hx4⟩
      have hn4 : Nx W1 w4 := hn3.trans hx4
      refine hK.out _ _ (kp _ hn4) (fun hHeld => ?_)
      clear hK K
      (try simp only [Act.put, List.setIfInBounds_toArray, List.set_cons_zero, List.set_cons_succ])
      refine wpAnyH_take (i := 8) (oi := ?oir4_8) (v := ?vr4_8) ?hir4_8 (by kernel_rfl) (by kernel_rfl) (by kernel_rfl) ?hQr4_8 (Or.inl ⟨?hwr4_8, ?hyr4_8⟩) (by assumption) ?restr4_8
      case hir4_8 => (simp only [List.getElem?_toArray, List.getElem?_cons_succ, List.getElem?_cons_zero]; rfl)
      case hwr4_8 => rfl
      case hyr4_8 => (intro w hSw; (try dsimp only at hSw); go_simp; (try with_reducible rfl))
      case hQr4_8 => exact fun _ _ _ h => h
      (try simp only [Act.put, List.setIfInBounds_toArray, List.set_cons_zero, List.set_cons_succ])
      refine wpAnyH_take (i := 9) (oi := ?oir4_9) (v := ?vr4_9) ?hir4_9 (by kernel_rfl) (by kernel_rfl) (by kernel_rfl) ?hQr4_9 (Or.inl ⟨?hwr4_9, ?hyr4_9⟩) (by assumption) ?restr4_9
      case hir4_9 => (simp only [List.getElem?_toArray, List.getElem?_cons_succ, List.getElem?_cons_zero]; rfl)
      case hwr4_9 => rfl
      case hyr4_9 => (intro w hSw; (try dsimp only at hSw); go_simp; (try with_reducible rfl))
      case hQr4_9 => exact fun _ _ _ h => h
      (try simp only [Act.put, List.setIfInBounds_toArray, List.set_cons_zero, List.set_cons_succ])
      refine wpAnyH_done (by kernel_rfl) ?_ _
      go_wp2
      clear ho3 kp hdr
      go_loopg [7, 8, 9] n (fun gk f t i' wr => ∃ k : Nat, k + gk = n ∧ k + 1 ≤ n ∧ i' = .int .i64 ((k + 1 : Nat) : Int) ∧ f = .int .i64 (frP i k) ∧ t = .int .i64 (frP j k) ∧ Nx W1 wr)
      case atStart => exact ⟨0, by omega, by omega, rfl, by rw [frP_le (Nat.zero_le _)], by rw [frP_le (Nat.zero_le _)], hn4⟩
      case round =>
        obtain ⟨k, hk, hk1, rfl, rfl, rfl, hnw⟩ := hrel
        have NW := gW1.trans hnw
        replace X0 := X0.nx hnw
        replace X0_0 := X0.cell (j := 0) rfl
        replace X0_1 := X0.cell (j := 1) rfl
        replace X0_z := X0.lt
        by_cases hlt : k + 1 < n
        · obtain ⟨x, hx0⟩ : ∃ x, xs[k]? = some x := ⟨_, List.getElem?_eq_getElem (by have := Hn.out; omega)⟩
          obtain ⟨y, hy0⟩ : ∃ x, xs[k + 1]? = some x := ⟨_, List.getElem?_eq_getElem (by have := Hn.out; omega)⟩
          obtain ⟨b', off', e, hbl, h1⟩ := (Hx.out.nx NW).rd hx0
          injection e with e
          injection e with e1 e2
          subst e1 e2
          obtain ⟨b', off', e, _, h2⟩ := (Hx.out.nx NW).rd hy0
          injection e with e
          injection e with e1 e2
          subst e1 e2
          have Hs := Lib.hid (stepsL_get hx0 hy0)
          have hwm : IntKind.i64.wrap (((k + 1 : Nat) : Int) - 1) = (k : Int) := by rw [IntKind.wrap_i64]; omega
          have hkl : k < n := by omega
          have fb1 := frP_bd i k
          have fb2 := frP_bd j k
          generalize hM : k + 1 = kk at *
          have HM := Lib.hid hM
          clear hM hx0 hy0
          have kp : ∀ w', Nx wr w' → (fun w_ => Nx wr w_ ∧ w_.cell? ⟨w.heap.size, 0, none⟩ = some (V u) ∧ w_.cell? ⟨w.heap.size, 1, none⟩ = some (V v) ∧ w_.cell? ⟨b, off + k, none⟩ = some (V x) ∧ w_.cell? ⟨b, off + kk, none⟩ = some (V y)) w' := fun w' h => ⟨h, h.cell X0_z X0_0, h.cell X0_z X0_1, h.cell (p := ⟨b, off + k, none⟩) hbl h1, h.cell (p := ⟨b, off + kk, none⟩) hbl h2⟩
          have hdr : Nx wr wr.drew := .drew (.refl _)
          have Hcon := Lib.hid (fun w' => l1Edge_c x y w')
          have hmm : Hid (eOf x y = (min x y, max x y)) := Lib.hid rfl
          generalize min x y = e1 at *
          generalize max x y = e2 at *
          have Hwm := Lib.hid hwm
          clear hwm h1 h2
          by_cases hq : e1 = u ∧ e2 = v
          · have hplace := Hp.out.only k (by rw [Hs.out, hmm.out, hq.1, hq.2])
            obtain ⟨rfl, rfl⟩ := hq
            rcases hplace with hki | hkj
            · have F1 := Lib.hid (frP_le (i := i) (k := k) (by omega))
              have F2 := Lib.hid (frP_le (i := j) (k := k) (by omega))
              have F3 := Lib.hid (frP_lt (i := i) (k := k + 1) (by omega))
              have F4 := Lib.hid (frP_le (i := j) (k := k + 1) (by omega))
              rw [F1.out, F2.out]
              have HKI := Lib.hid hki
              clear hki fb1 fb2
              go_wp2_with fail
              have hwm := Hwm.out
              go_region_held3 (fun w_ => Nx wr w_ ∧ w_.cell? ⟨w.heap.size, 0, none⟩ = some (V e1) ∧ w_.cell? ⟨w.heap.size, 1, none⟩ = some (V e2) ∧ w_.cell? ⟨b, off + k, none⟩ = some (V x) ∧ w_.cell? ⟨b, off + kk, none⟩ = some (V y))
                (first | with_reducible exact kp _ hdr | with_reducible exact kp _ hh3)
                ((go_at_call 52; (with_reducible refine (Hcon.out _).mono ?_); rintro e w3 ⟨rfl, hx3⟩; have hh3 : Nx wr w3 := hdr.trans hx3))
              all_goals clear hwm
              all_goals go_wp2
              all_goals go_roundg (gk - 1)
              all_goals first
                | (show _ < _; omega)
                | exact ⟨k + 1, by omega, by have := HM.out; omega, by rw [HM.out]; go_num, by rw [F3.out, ← HKI.out, ← HM.out]; go_num, by rw [F4.out], hnw.trans hh3⟩
            · have F1 := Lib.hid (frP_lt (i := i) (k := k) (by omega))
              have F2 := Lib.hid (frP_le (i := j) (k := k) (by omega))
              have F3 := Lib.hid (frP_lt (i := i) (k := k + 1) (by omega))
              have F4 := Lib.hid (frP_lt (i := j) (k := k + 1) (by omega))
              rw [F1.out, F2.out]
              have hfz : ¬ (i : Int) + 1 < 0 := by omega
              have hfz1 : decide ((i : Int) + 1 < 0) = false := decide_eq_false hfz
              have HKJ := Lib.hid hkj
              clear hkj fb1 fb2
              go_wp2_with fail
              have hwm := Hwm.out
              go_region_held3 (fun w_ => Nx wr w_ ∧ w_.cell? ⟨w.heap.size, 0, none⟩ = some (V e1) ∧ w_.cell? ⟨w.heap.size, 1, none⟩ = some (V e2) ∧ w_.cell? ⟨b, off + k, none⟩ = some (V x) ∧ w_.cell? ⟨b, off + kk, none⟩ = some (V y))
                (first | with_reducible exact kp _ hdr | with_reducible exact kp _ hh3)
                ((go_at_call 52; (with_reducible refine (Hcon.out _).mono ?_); rintro e w3 ⟨rfl, hx3⟩; have hh3 : Nx wr w3 := hdr.trans hx3))
              all_goals clear hwm
              all_goals go_wp2
              all_goals go_roundg (gk - 1)
              all_goals first
                | (show _ < _; omega)
                | exact ⟨k + 1, by omega, by have := HM.out; omega, by rw [HM.out]; go_num, by rw [F3.out], by rw [F4.out, ← HKJ.out, ← HM.out]; go_num, hnw.trans hh3⟩
          · have hne : ¬ (stepsL xs)[k]? = some (u, v) := fun h => by
              rw [Hs.out, hmm.out] at h
              injection h with h
              injection h with a b
              exact hq ⟨a, b⟩
            have F3 := Lib.hid (frP_step (i := i) (k := k) (fun h => hne (h ▸ Hp.out.fst)))
            have F4 := Lib.hid (frP_step (i := j) (k := k) (fun h => hne (h ▸ Hp.out.snd)))
            clear hne
            generalize frP i k = fi at *
            generalize frP j k = fj at *
            by_cases f1 : (e1 == u) = true
            · have f2 : (e2 == v) = false := by simp at f1; simp; exact fun h => hq ⟨f1, h⟩
              clear hq
              go_wp2_with fail
              have hwm := Hwm.out
              go_region_held3 (fun w_ => Nx wr w_ ∧ w_.cell? ⟨w.heap.size, 0, none⟩ = some (V u) ∧ w_.cell? ⟨w.heap.size, 1, none⟩ = some (V v) ∧ w_.cell? ⟨b, off + k, none⟩ = some (V x) ∧ w_.cell? ⟨b, off + kk, none⟩ = some (V y))
                (first | with_reducible exact kp _ hdr | with_reducible exact kp _ hh3)
                ((go_at_call 52; (with_reducible refine (Hcon.out _).mono ?_); rintro e w3 ⟨rfl, hx3⟩; have hh3 : Nx wr w3 := hdr.trans hx3))
              all_goals clear hwm
              all_goals go_wp2
              all_goals go_roundg (gk - 1)
              all_goals first
                | (show _ < _; omega)
                | exact ⟨k + 1, by omega, by have := HM.out; omega, by rw [HM.out]; go_num, by rw [F3.out], by rw [F4.out], hnw.trans hh3⟩
            · have f1 : (e1 == u) = false := by simpa using f1
              clear hq
              go_wp2_with fail
              have hwm := Hwm.out
              go_region_held3 (fun w_ => Nx wr w_ ∧ w_.cell? ⟨w.heap.size, 0, none⟩ = some (V u) ∧ w_.cell? ⟨w.heap.size, 1, none⟩ = some (V v) ∧ w_.cell? ⟨b, off + k, none⟩ = some (V x) ∧ w_.cell? ⟨b, off + kk, none⟩ = some (V y))
                (first | with_reducible exact kp _ hdr | with_reducible exact kp _ hh3)
                ((go_at_call 52; (with_reducible refine (Hcon.out _).mono ?_); rintro e w3 ⟨rfl, hx3⟩; have hh3 : Nx wr w3 := hdr.trans hx3))
              all_goals clear hwm
              all_goals go_wp2
              all_goals go_roundg (gk - 1)
              all_goals first
                | (show _ < _; omega)
                | exact ⟨k + 1, by omega, by have := HM.out; omega, by rw [HM.out]; go_num, by rw [F3.out], by rw [F4.out], hnw.trans hh3⟩
        · have hkn : k + 1 = n := by omega
          have g1 : frP i k = (i1 : Int) := by have := Hi1.out; rw [frP_lt (by omega)]; omega
          have g2 : frP j k = (j1 : Int) := by have := Hj1.out; rw [frP_lt (by omega)]; omega
          rw [g1, g2]
          have hz7 := NW.size
          have HL0 : Hid (([] : List Int).length = 0) := Lib.hid rfl
          have e5 := E5.out
          clear hkn g1 g2
          by_cases hjc : j2 = c
          · have hjn2 : j2 = n := by omega
            have hZ := HZ0.out hjn2
            subst hZ
            subst hjc
            have hcn : n = j2 := hjn2.symm
            subst hcn
            have HLz : Hid (([] : List Int).length = 0) := Lib.hid rfl
            go_wp2_with (first
              | (at_builtin; refine appIn (base := w.heap.size) (t := 3) (c' := n) [] X 0 i1 HL0.out HLX.out rfl rfl Try.underlying23 Hi0.out Hz0.out Hz1.out Hz2.out rfl rfl (OwnI.empty wr w.heap.size 3 hz7) rfl (HxX.out _ (Hx.out.nx (NW.trans (by (repeat (first | exact Nx.refl _ | assumption | apply Nx.alloc | apply Nx.drew | apply Nx.drewN | (refine Nx.setCell ?_ (by first | (simp; done) | (simp; omega) | omega) _) | refine Nx.trans ?_ (by assumption))); done)))) (by omega) (by simp; omega) ?_; intro A5 c5 w5 hown5 hnx5 hgr5 hbl5; have N5 := hnx5 w (Nat.le_refl _) (NW.trans (by (repeat (first | exact Nx.refl _ | assumption | apply Nx.alloc | apply Nx.drew | apply Nx.drewN | (refine Nx.setCell ?_ (by first | (simp; done) | (simp; omega) | omega) _) | refine Nx.trans ?_ (by assumption))); done)); rw [List.nil_append] at hown5; have hz5 := N5.size)
              | (at_builtin; refine appIn (base := w.heap.size) (t := 3) (c' := 0) X [] i1 0 HLX.out HLz.out rfl rfl Try.underlying23 Hi0.out Hz0.out Hz1.out Hz2.out rfl rfl hown5 rfl (fun h => by simp at h) (by omega) hz5 ?_; intro A6 c6 w6 hown6 hnx6 hgr6 hbl6; have N6 := hnx6 w (Nat.le_refl _) N5; rw [List.append_nil] at hown6; have hz6 := N6.size)
              | (at_builtin; refine appIn (base := w6.heap.size) (t := 3) (c' := n - i1) [] Y 0 (j1 - i1) HL0.out HLY.out rfl rfl Try.underlying23 Hi0.out Hz0.out Hz1.out Hz2.out rfl rfl (OwnI.empty w6 w6.heap.size 3 (Nat.le_refl _)) rfl (HxY.out _ (Hx.out.nx (N6.trans (by (repeat (first | exact Nx.refl _ | assumption | apply Nx.alloc | apply Nx.drew | apply Nx.drewN | (refine Nx.setCell ?_ (by first | (simp; done) | (simp; omega) | omega) _) | refine Nx.trans ?_ (by assumption))); done)))) (by omega) (by simp) ?_; intro A7 c7 w7 hown7 hnx7 hgr7 hbl7; have N7 := hnx7 w6 (Nat.le_refl _) (by (repeat (first | exact Nx.refl _ | assumption | apply Nx.alloc | apply Nx.drew | apply Nx.drewN | (refine Nx.setCell ?_ (by first | (simp; done) | (simp; omega) | omega) _) | refine Nx.trans ?_ (by assumption))); done); rw [List.nil_append] at hown7))
            go_ret3
            have hap := apart_lt (A := A6) (B := A7) (m := w6.heap.size) (fun q hq => (hown6.lt q hq).2) (fun q hq => (hown7.lt q hq).1)
            exact ⟨A6, c6, A7, c7, by rw [HLX.out, HLY.out]; rfl, hown6.nx N7, hown7.mono (base' := w.heap.size) N6.size, hap.1, hap.2, N6.trans N7⟩
          · have hjc2 : ¬ c = j2 := fun h => hjc h.symm
            go_wp2_with (first
              | (at_builtin; refine appIn (base := w.heap.size) (t := 3) (c' := c) [] X 0 i1 HL0.out HLX.out rfl rfl Try.underlying23 Hi0.out Hz0.out Hz1.out Hz2.out rfl rfl (OwnI.empty wr w.heap.size 3 hz7) rfl (HxX.out _ (Hx.out.nx (NW.trans (by (repeat (first | exact Nx.refl _ | assumption | apply Nx.alloc | apply Nx.drew | apply Nx.drewN | (refine Nx.setCell ?_ (by first | (simp; done) | (simp; omega) | omega) _) | refine Nx.trans ?_ (by assumption))); done)))) (by omega) (by simp; omega) ?_; intro A5 c5 w5 hown5 hnx5 hgr5 hbl5; have N5 := hnx5 w (Nat.le_refl _) (NW.trans (by (repeat (first | exact Nx.refl _ | assumption | apply Nx.alloc | apply Nx.drew | apply Nx.drewN | (refine Nx.setCell ?_ (by first | (simp; done) | (simp; omega) | omega) _) | refine Nx.trans ?_ (by assumption))); done)); rw [List.nil_append] at hown5; have hz5 := N5.size)
              | (at_builtin; refine appIn (base := w.heap.size) (t := 3) (c' := c - j2) X Z i1 (n - j2) HLX.out HLZ.out rfl rfl Try.underlying23 Hi0.out Hz0.out Hz1.out Hz2.out rfl rfl hown5 rfl (HxZ.out _ (Hx.out.nx N5)) (by omega) hz5 ?_; intro A6 c6 w6 hown6 hnx6 hgr6 hbl6; have N6 := hnx6 w (Nat.le_refl _) N5; have hz6 := N6.size)
              | (at_builtin; refine appIn (base := w6.heap.size) (t := 3) (c' := c - i1) [] Y 0 (j1 - i1) HL0.out HLY.out rfl rfl Try.underlying23 Hi0.out Hz0.out Hz1.out Hz2.out rfl rfl (OwnI.empty w6 w6.heap.size 3 (Nat.le_refl _)) rfl (HxY.out _ (Hx.out.nx (N6.trans (by (repeat (first | exact Nx.refl _ | assumption | apply Nx.alloc | apply Nx.drew | apply Nx.drewN | (refine Nx.setCell ?_ (by first | (simp; done) | (simp; omega) | omega) _) | refine Nx.trans ?_ (by assumption))); done)))) (by omega) (by simp) ?_; intro A7 c7 w7 hown7 hnx7 hgr7 hbl7; have N7 := hnx7 w6 (Nat.le_refl _) (by (repeat (first | exact Nx.refl _ | assumption | apply Nx.alloc | apply Nx.drew | apply Nx.drewN | (refine Nx.setCell ?_ (by first | (simp; done) | (simp; omega) | omega) _) | refine Nx.trans ?_ (by assumption))); done); rw [List.nil_append] at hown7))
            go_ret3
            have hap := apart_lt (A := A6) (B := A7) (m := w6.heap.size) (fun q hq => (hown6.lt q hq).2) (fun q hq => (hown7.lt q hq).1)
            exact ⟨A6, c6, A7, c7, by rw [List.length_append, HLX.out, HLZ.out, HLY.out]; first | rfl | (simp; rfl) | simp, hown6.nx N7, hown7.mono (base' := w.heap.size) N6.size, hap.1, hap.2, N6.trans N7⟩
    · have hok : ¬ spOk xs (u, v) := fun h => hm h.2
      have hzi : idxE (eset (stepsL xs)) (u, v) < 0 := by
        by_cases h : idxE (eset (stepsL xs)) (u, v) < 0
        · exact h
        · exact absurd ((idxE_nonneg (eset (stepsL xs)) (u, v)).1 (by omega)) hm
      rw [(tSpl_no hok).1, (tSpl_no hok).2, decide_eq_false hok]
      generalize idxE (eset (stepsL xs)) (u, v) = zi at *
      generalize eset (stepsL xs) = es at *
      have Hv := Lib.hid hv
      have He := Lib.hid he
      have Hct := Lib.hid hct
      clear hv he hct hn hx ht hm hok
      go_enter Try.func18, Try.ntmps18
      go_wp2_with fail
      generalize hW1 : World.alloc _ _ = W1
      have gW1 : Nx w W1 := by subst hW1; exact (by repeat (first | exact Nx.refl _ | assumption | apply Nx.alloc | apply Nx.drew | apply Nx.drewN | (refine Nx.setCell ?_ (by first | (simp; done) | (simp; omega) | omega) _) | refine Nx.trans ?_ (by assumption)))
      have sW1 : W1.heap.size = w.heap.size + 1 := by subst hW1; simp
      have X0 : Bx W1 (w.heap.size) 30 [V u, V v] := by subst hW1; have h := Bx.alloc w 30 [V u, V v]; simpa using h
      have X0_0 := X0.cell (j := 0) rfl
      have X0_1 := X0.cell (j := 1) rfl
      have X0_z := X0.lt
      have HsW1 := Lib.hid sW1
      have lW1 : w.heap.size + 1 ≤ W1.heap.size := by omega
      clear hW1 sW1
      have kp : ∀ w', Nx W1 w' → (fun w_ => Nx W1 w_ ∧ w_.cell? ⟨w.heap.size, 0, none⟩ = some (V u) ∧ w_.cell? ⟨w.heap.size, 1, none⟩ = some (V v)) w' := fun w' h => ⟨h, h.cell X0_z X0_0, h.cell X0_z X0_1⟩
      have hdr : Nx W1 W1.drew := .drew (.refl _)
      refine wp_region_held_drew (S := (fun w_ => Nx W1 w_ ∧ w_.cell? ⟨w.heap.size, 0, none⟩ = some (V u) ∧ w_.cell? ⟨w.heap.size, 1, none⟩ = some (V v))) (by kernel_rfl) (kp _ hdr) (fun hHeld => ?_)
      refine wpAnyH_take (i := 0) (oi := ?oir5_0) (v := ?vr5_0) ?hir5_0 (by kernel_rfl) (by kernel_rfl) (by kernel_rfl) ?hQr5_0 (Or.inl ⟨?hwr5_0, ?hyr5_0⟩) (by assumption) ?restr5_0
      case hir5_0 => (simp only [List.getElem?_toArray, List.getElem?_cons_succ, List.getElem?_cons_zero]; rfl)
      case hwr5_0 => rfl
      case hyr5_0 => (intro w hSw; (try dsimp only at hSw); go_simp; (try with_reducible rfl))
      case hQr5_0 => exact fun _ _ _ h => h
      (try simp only [Act.put, List.setIfInBounds_toArray, List.set_cons_zero, List.set_cons_succ])
      refine wpAnyH_ready (rs := [1]) (by kernel_rfl) (by simp) ?_
      refine AllReadyH.cons rfl (fun K hK => ?_) AllReadyH.nil
      go_simp
      refine (Hv.out _ (Hx.out.nx (gW1.trans hdr))).mono ?_
      rintro e w2 ⟨rfl, hx2⟩
      have hn2 : Nx W1 w2 := hdr.trans hx2
      refine hK.out _ _ (kp _ hn2) (fun hHeld => ?_)
      clear hK K
      (try simp only [Act.put, List.setIfInBounds_toArray, List.set_cons_zero, List.set_cons_succ])
      refine wpAnyH_take (i := 2) (oi := ?oir5_2) (v := ?vr5_2) ?hir5_2 (by kernel_rfl) (by kernel_rfl) (by kernel_rfl) ?hQr5_2 (Or.inl ⟨?hwr5_2, ?hyr5_2⟩) (by assumption) ?restr5_2
      case hir5_2 => (simp only [List.getElem?_toArray, List.getElem?_cons_succ, List.getElem?_cons_zero]; rfl)
      case hwr5_2 => rfl
      case hyr5_2 => (intro w hSw; (try dsimp only at hSw); go_simp; (try with_reducible rfl))
      case hQr5_2 => exact fun _ _ _ h => h
      (try simp only [Act.put, List.setIfInBounds_toArray, List.set_cons_zero, List.set_cons_succ])
      refine wpAnyH_take (i := 3) (oi := ?oir5_3) (v := ?vr5_3) ?hir5_3 (by kernel_rfl) (by kernel_rfl) (by kernel_rfl) ?hQr5_3 (Or.inl ⟨?hwr5_3, ?hyr5_3⟩) (by assumption) ?restr5_3
      case hir5_3 => (simp only [List.getElem?_toArray, List.getElem?_cons_succ, List.getElem?_cons_zero]; rfl)
      case hwr5_3 => rfl
      case hyr5_3 => (intro w hSw; (try dsimp only at hSw); go_simp; (try with_reducible rfl))
      case hQr5_3 => exact fun _ _ _ h => h
      (try simp only [Act.put, List.setIfInBounds_toArray, List.set_cons_zero, List.set_cons_succ])
      refine wpAnyH_take (i := 4) (oi := ?oir5_4) (v := ?vr5_4) ?hir5_4 (by kernel_rfl) (by kernel_rfl) (by kernel_rfl) ?hQr5_4 (Or.inl ⟨?hwr5_4, ?hyr5_4⟩) (by assumption) ?restr5_4
      case hir5_4 => (simp only [List.getElem?_toArray, List.getElem?_cons_succ, List.getElem?_cons_zero]; rfl)
      case hwr5_4 => rfl
      case hyr5_4 => (intro w hSw; (try dsimp only at hSw); go_simp; (try with_reducible rfl))
      case hQr5_4 => exact fun _ _ _ h => h
      (try simp only [Act.put, List.setIfInBounds_toArray, List.set_cons_zero, List.set_cons_succ])
      refine wpAnyH_take (i := 6) (oi := ?oir5_6) (v := ?vr5_6) ?hir5_6 (by kernel_rfl) (by kernel_rfl) (by kernel_rfl) ?hQr5_6 (Or.inl ⟨?hwr5_6, ?hyr5_6⟩) (by assumption) ?restr5_6
      case hir5_6 => (simp only [List.getElem?_toArray, List.getElem?_cons_succ, List.getElem?_cons_zero]; rfl)
      case hwr5_6 => rfl
      case hyr5_6 => (intro w hSw; (try dsimp only at hSw); go_simp; (try with_reducible rfl))
      case hQr5_6 => exact fun _ _ _ h => h
      (try simp only [Act.put, List.setIfInBounds_toArray, List.set_cons_zero, List.set_cons_succ])
      refine wpAnyH_ready (rs := [5]) (by kernel_rfl) (by simp) ?_
      refine AllReadyH.cons rfl (fun K hK => ?_) AllReadyH.nil
      go_simp
      refine (He.out _ (Hx.out.nx (gW1.trans hn2))).mono ?_
      rintro e w3 ⟨A3, c3, rfl, ho3, hx3⟩
      have hn3 : Nx W1 w3 := hn2.trans hx3
      refine hK.out _ _ (kp _ hn3) (fun hHeld => ?_)
      clear hK K
      (try simp only [Act.put, List.setIfInBounds_toArray, List.set_cons_zero, List.set_cons_succ])
      refine wpAnyH_ready (rs := [7]) (by kernel_rfl) (by simp) ?_
      refine AllReadyH.cons rfl (fun K hK => ?_) AllReadyH.nil
      go_simp
      refine (Hct.out _ _ _ ho3.edgesAt).mono ?_
      rintro e w4 ⟨rfl, hx4⟩
      have hn4 : Nx W1 w4 := hn3.trans hx4
      refine hK.out _ _ (kp _ hn4) (fun hHeld => ?_)
      clear hK K
      (try simp only [Act.put, List.setIfInBounds_toArray, List.set_cons_zero, List.set_cons_succ])
      refine wpAnyH_take (i := 8) (oi := ?oir5_8) (v := ?vr5_8) ?hir5_8 (by kernel_rfl) (by kernel_rfl) (by kernel_rfl) ?hQr5_8 (Or.inl ⟨?hwr5_8, ?hyr5_8⟩) (by assumption) ?restr5_8
      case hir5_8 => (simp only [List.getElem?_toArray, List.getElem?_cons_succ, List.getElem?_cons_zero]; rfl)
      case hwr5_8 => rfl
      case hyr5_8 => (intro w hSw; (try dsimp only at hSw); go_simp; (try with_reducible rfl))
      case hQr5_8 => exact fun _ _ _ h => h
      (try simp only [Act.put, List.setIfInBounds_toArray, List.set_cons_zero, List.set_cons_succ])
      refine wpAnyH_take (i := 9) (oi := ?oir5_9) (v := ?vr5_9) ?hir5_9 (by kernel_rfl) (by kernel_rfl) (by kernel_rfl) ?hQr5_9 (Or.inl ⟨?hwr5_9, ?hyr5_9⟩) (by assumption) ?restr5_9
      case hir5_9 => (simp only [List.getElem?_toArray, List.getElem?_cons_succ, List.getElem?_cons_zero]; rfl)
      case hwr5_9 => rfl
      case hyr5_9 => (intro w hSw; (try dsimp only at hSw); go_simp; (try with_reducible rfl))
      case hQr5_9 => exact fun _ _ _ h => h
      (try simp only [Act.put, List.setIfInBounds_toArray, List.set_cons_zero, List.set_cons_succ])
      refine wpAnyH_done (by kernel_rfl) ?_ _
      go_wp2
      go_ret3
      have hzN := (gW1.trans hn4).size
      exact ⟨_, 0, _, 0, rfl, (OwnI.empty _ w.heap.size 3 (by first | omega | (simp; omega))).nx (Nx.alloc (Nx.refl _) _), by have h := OwnI.empty (w4.alloc (.cells #[] 3)) w.heap.size 3 (by first | omega | (simp; omega)); rw [show (w4.alloc (.cells #[] 3)).heap.size = w4.heap.size + 1 by simp] at h; exact h, .inr (by simp [blk]), .inr (by simp [blk]), ((gW1.trans hn4).alloc _).alloc _⟩
  · have hok : ¬ spOk xs (u, v) := fun h => ht h.1
    rw [(tSpl_no hok).1, (tSpl_no hok).2, decide_eq_false hok]
    rw [decide_eq_false ht] at hv
    have Hv := Lib.hid hv
    clear hv hn hx ht hok
    go_enter Try.func18, Try.ntmps18
    go_wp2_with fail
    generalize hW1 : World.alloc _ _ = W1
    have gW1 : Nx w W1 := by subst hW1; exact (by repeat (first | exact Nx.refl _ | assumption | apply Nx.alloc | apply Nx.drew | apply Nx.drewN | (refine Nx.setCell ?_ (by first | (simp; done) | (simp; omega) | omega) _) | refine Nx.trans ?_ (by assumption)))
    have sW1 : W1.heap.size = w.heap.size + 1 := by subst hW1; simp
    have X0 : Bx W1 (w.heap.size) 30 [V u, V v] := by subst hW1; have h := Bx.alloc w 30 [V u, V v]; simpa using h
    have X0_0 := X0.cell (j := 0) rfl
    have X0_1 := X0.cell (j := 1) rfl
    have X0_z := X0.lt
    have HsW1 := Lib.hid sW1
    have lW1 : w.heap.size + 1 ≤ W1.heap.size := by omega
    clear hW1 sW1
    have kp : ∀ w', Nx W1 w' → (fun w_ => Nx W1 w_ ∧ w_.cell? ⟨w.heap.size, 0, none⟩ = some (V u) ∧ w_.cell? ⟨w.heap.size, 1, none⟩ = some (V v)) w' := fun w' h => ⟨h, h.cell X0_z X0_0, h.cell X0_z X0_1⟩
    have hdr : Nx W1 W1.drew := .drew (.refl _)
    refine wp_region_held_drew (S := (fun w_ => Nx W1 w_ ∧ w_.cell? ⟨w.heap.size, 0, none⟩ = some (V u) ∧ w_.cell? ⟨w.heap.size, 1, none⟩ = some (V v))) (by kernel_rfl) (kp _ hdr) (fun hHeld => ?_)
    refine wpAnyH_take (i := 0) (oi := ?oir6_0) (v := ?vr6_0) ?hir6_0 (by kernel_rfl) (by kernel_rfl) (by kernel_rfl) ?hQr6_0 (Or.inl ⟨?hwr6_0, ?hyr6_0⟩) (by assumption) ?restr6_0
    case hir6_0 => (simp only [List.getElem?_toArray, List.getElem?_cons_succ, List.getElem?_cons_zero]; rfl)
    case hwr6_0 => rfl
    case hyr6_0 => (intro w hSw; (try dsimp only at hSw); go_simp; (try with_reducible rfl))
    case hQr6_0 => exact fun _ _ _ h => h
    (try simp only [Act.put, List.setIfInBounds_toArray, List.set_cons_zero, List.set_cons_succ])
    refine wpAnyH_ready (rs := [1]) (by kernel_rfl) (by simp) ?_
    refine AllReadyH.cons rfl (fun K hK => ?_) AllReadyH.nil
    go_simp
    refine (Hv.out _ (Hx.out.nx (gW1.trans hdr))).mono ?_
    rintro e w2 ⟨rfl, hx2⟩
    have hn2 : Nx W1 w2 := hdr.trans hx2
    refine hK.out _ _ (kp _ hn2) (fun hHeld => ?_)
    clear hK K
    (try simp only [Act.put, List.setIfInBounds_toArray, List.set_cons_zero, List.set_cons_succ])
    refine wpAnyH_take (i := 2) (oi := ?oir6_2) (v := ?vr6_2) ?hir6_2 (by kernel_rfl) (by kernel_rfl) (by kernel_rfl) ?hQr6_2 (Or.inl ⟨?hwr6_2, ?hyr6_2⟩) (by assumption) ?restr6_2
    case hir6_2 => (simp only [List.getElem?_toArray, List.getElem?_cons_succ, List.getElem?_cons_zero]; rfl)
    case hwr6_2 => rfl
    case hyr6_2 => (intro w hSw; (try dsimp only at hSw); go_simp; (try with_reducible rfl))
    case hQr6_2 => exact fun _ _ _ h => h
    (try simp only [Act.put, List.setIfInBounds_toArray, List.set_cons_zero, List.set_cons_succ])
    refine wpAnyH_take (i := 3) (oi := ?oir6_3) (v := ?vr6_3) ?hir6_3 (by kernel_rfl) (by kernel_rfl) (by kernel_rfl) ?hQr6_3 (Or.inl ⟨?hwr6_3, ?hyr6_3⟩) (by assumption) ?restr6_3
    case hir6_3 => (simp only [List.getElem?_toArray, List.getElem?_cons_succ, List.getElem?_cons_zero]; rfl)
    case hwr6_3 => rfl
    case hyr6_3 => (intro w hSw; (try dsimp only at hSw); go_simp; (try with_reducible rfl))
    case hQr6_3 => exact fun _ _ _ h => h
    (try simp only [Act.put, List.setIfInBounds_toArray, List.set_cons_zero, List.set_cons_succ])
    refine wpAnyH_take (i := 4) (oi := ?oir6_4) (v := undef) ?hir6_4 (by kernel_rfl) (by kernel_rfl) (by kernel_rfl) ?hQr6_4 (Or.inr ⟨?hwr6_4, rfl⟩) (by assumption) ?restr6_4
    case hir6_4 => (simp only [List.getElem?_toArray, List.getElem?_cons_succ, List.getElem?_cons_zero]; rfl)
    case hwr6_4 => rfl
    case hQr6_4 => exact fun _ _ _ h => h
    (try simp only [Act.put, List.setIfInBounds_toArray, List.set_cons_zero, List.set_cons_succ])
    refine wpAnyH_take (i := 5) (oi := ?oir6_5) (v := undef) ?hir6_5 (by kernel_rfl) (by kernel_rfl) (by kernel_rfl) ?hQr6_5 (Or.inr ⟨?hwr6_5, rfl⟩) (by assumption) ?restr6_5
    case hir6_5 => (simp only [List.getElem?_toArray, List.getElem?_cons_succ, List.getElem?_cons_zero]; rfl)
    case hwr6_5 => rfl
    case hQr6_5 => exact fun _ _ _ h => h
    (try simp only [Act.put, List.setIfInBounds_toArray, List.set_cons_zero, List.set_cons_succ])
    refine wpAnyH_take (i := 6) (oi := ?oir6_6) (v := undef) ?hir6_6 (by kernel_rfl) (by kernel_rfl) (by kernel_rfl) ?hQr6_6 (Or.inr ⟨?hwr6_6, rfl⟩) (by assumption) ?restr6_6
    case hir6_6 => (simp only [List.getElem?_toArray, List.getElem?_cons_succ, List.getElem?_cons_zero]; rfl)
    case hwr6_6 => rfl
    case hQr6_6 => exact fun _ _ _ h => h
    (try simp only [Act.put, List.setIfInBounds_toArray, List.set_cons_zero, List.set_cons_succ])
    refine wpAnyH_take (i := 7) (oi := ?oir6_7) (v := undef) ?hir6_7 (by kernel_rfl) (by kernel_rfl) (by kernel_rfl) ?hQr6_7 (Or.inr ⟨?hwr6_7, rfl⟩) (by assumption) ?restr6_7
    case hir6_7 => (simp only [List.getElem?_toArray, List.getElem?_cons_succ, List.getElem?_cons_zero]; rfl)
    case hwr6_7 => rfl
    case hQr6_7 => exact fun _ _ _ h => h
    (try simp only [Act.put, List.setIfInBounds_toArray, List.set_cons_zero, List.set_cons_succ])
    refine wpAnyH_take (i := 8) (oi := ?oir6_8) (v := undef) ?hir6_8 (by kernel_rfl) (by kernel_rfl) (by kernel_rfl) ?hQr6_8 (Or.inr ⟨?hwr6_8, rfl⟩) (by assumption) ?restr6_8
    case hir6_8 => (simp only [List.getElem?_toArray, List.getElem?_cons_succ, List.getElem?_cons_zero]; rfl)
    case hwr6_8 => rfl
    case hQr6_8 => exact fun _ _ _ h => h
    (try simp only [Act.put, List.setIfInBounds_toArray, List.set_cons_zero, List.set_cons_succ])
    refine wpAnyH_take (i := 9) (oi := ?oir6_9) (v := ?vr6_9) ?hir6_9 (by kernel_rfl) (by kernel_rfl) (by kernel_rfl) ?hQr6_9 (Or.inl ⟨?hwr6_9, ?hyr6_9⟩) (by assumption) ?restr6_9
    case hir6_9 => (simp only [List.getElem?_toArray, List.getElem?_cons_succ, List.getElem?_cons_zero]; rfl)
    case hwr6_9 => rfl
    case hyr6_9 => (intro w hSw; (try dsimp only at hSw); go_simp; (try with_reducible rfl))
    case hQr6_9 => exact fun _ _ _ h => h
    (try simp only [Act.put, List.setIfInBounds_toArray, List.set_cons_zero, List.set_cons_succ])
    refine wpAnyH_done (by kernel_rfl) ?_ _
    go_wp2
    go_ret3
    have hzN := (gW1.trans hn2).size
    exact ⟨_, 0, _, 0, rfl, (OwnI.empty _ w.heap.size 3 (by first | omega | (simp; omega))).nx (Nx.alloc (Nx.refl _) _), by have h := OwnI.empty (w2.alloc (.cells #[] 3)) w.heap.size 3 (by first | omega | (simp; omega)); rw [show (w2.alloc (.cells #[] 3)).heap.size = w2.heap.size + 1 by simp] at h; exact h, .inr (by simp [blk]), .inr (by simp [blk]), ((gW1.trans hn2).alloc _).alloc _⟩
end Go.Proofs.Ytbceoigmcomlbaa
