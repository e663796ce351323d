/- FnNewLevels: the drawn argument, dyLeveled without edges, NewLevels of both. -/
import Derived.Test.YtjchabeiaajgiaaLV4
import Derived.Test.YtjchabeiaajgiaaE
import Derived.Test.YtjchabeiaajgiaaR
import Derived.Test.YtjchabeiaajgiaaN2
import Derived.Test.YtjchabeiaajgiaaG5
namespace Go.Proofs.Ytjchabeiaajgiaa
open Go.RowKit set_option linter.unusedVariables false set_option linter.unusedSimpArgs false

theorem intsAt_litL {w : World} (xs : List Int) (cs : Array Value) (h : cs = (xs.map V).toArray) : IntsAt (w.alloc (.cells cs 3)) (some ⟨w.heap.size, 0, none⟩) xs := by
  intro _
  refine ⟨_, _, rfl, by simp, fun k hk => ?_⟩
  subst h
  simp [hk]
def DrewOne (w : World) (e : Ending) (w' : World) : Prop := ∃ x : Int, e = .returned (V x) ∧ Nx w w'
set_option maxRecDepth 100000 in
set_option maxHeartbeats 1000000 in
theorem drawNewSets_c (A : Option Addr) (n c : Nat) (w : World) (hnc : n ≤ c) (hb : BytesAt w w.heap.size A n) :
    Calls Try.prog 49 #[.slice A n c] w (DrewOne w) := by
  go_enter Try.func49, Try.ntmps49
  go_wp2_with (go_at_call 89; go_must (refine (open_c A n c _ hnc hb).mono ?_; rintro e w1 ⟨m, rfl, hr1, hn1⟩))
  go_wp2_with fail
  have hl1 : w.heap.size < w1.heap.size := by obtain ⟨_, _, h, _⟩ := hr1; exact lt_of_heap h
  refine (num_c w.heap.size m 0 _ 10 [5, 3, 1, 16, 8, 0, 17, 10, 2, 7] _ (hr1.nx (.alloc (.refl _) _)) (by omega) (intsAt_litL _ _ rfl) (by simp) (by simp) (by rintro b off h; injection h with h; injection h with h; omega)).mono ?_
  rintro e w2 ⟨x, rfl, _, hr2, hx2⟩
  go_wp2
  go_ret
  exact ⟨x, rfl, hx2.nx (.alloc hn1 _) (Nat.le_refl _)⟩
theorem drawNewLevels_c (A : Option Addr) (n c : Nat) (w : World) (hnc : n ≤ c) (hb : BytesAt w w.heap.size A n) :
    Calls Try.prog 9 #[.slice A n c] w (DrewOne w) := by
  go_enter Try.func9, Try.ntmps9
  go_wp2_with fail
  refine (drawNewSets_c A n c _ hnc hb).mono ?_
  rintro e w2 ⟨x, rfl, hn⟩
  go_wp2
  go_ret
  exact ⟨x, rfl, hn⟩

/-- levels without an edge -/
abbrev Lv (n : Int) : Value := .agg #[V n, .slice none 0 0, .slice none 0 0, .slice none 0 0]
theorem nilI (w : World) : IntsAt w none [] := fun h => by simp at h
theorem nilE (w : World) : EdgesAt w none [] := fun h => by simp at h
set_option maxRecDepth 100000 in
set_option maxHeartbeats 2000000 in
theorem dyLeveled_c (n : Int) (w : World) : Calls Try.prog 12 #[Lv n, Lv n] w (RetV (.bool true) w) := by
  have H1 := Lib.hid (fun w' => (show Calls Try.prog 50 #[.agg #[V n, .slice none 0 0], .agg #[V n, .slice none 0 0]] w' (RetV (.bool true) w') by
    have := iGraphSame_c n n none none 0 0 [] [] w' (nilE _) (nilE _) (by simp) (by simp)
    simpa using this))
  have H2 := Lib.hid (fun w' => (show Calls Try.prog 45 #[.slice none 0 0, .slice none 0 0] w' (RetV (.bool true) w') by
    have := dyInts_c none none 0 0 [] [] w' (nilI _) (nilI _) (by simp) (by simp)
    simpa using this))
  go_enter Try.func12, Try.ntmps12
  go_wp2_with fail
  generalize hW1 : World.alloc _ _ = W1
  have gW1 : Nx w W1 := by subst hW1; exact (by repeat (first | exact Nx.refl _ | assumption | apply Nx.alloc | apply Nx.drew | apply Nx.drewN | (refine Nx.setCell ?_ (by first | (simp; done) | (simp; omega) | omega) _) | refine Nx.trans ?_ (by assumption)))
  have sW1 : W1.heap.size = w.heap.size + 2 := by subst hW1; simp
  have X : Bx W1 (w.heap.size) 30 [V n, .slice none 0 0, .slice none 0 0, .slice none 0 0] := by subst hW1; have h := Bx.alloc w 30 [V n, .slice none 0 0, .slice none 0 0, .slice none 0 0]; have h := h.nx (Nx.alloc (Nx.refl _) (.cells #[V n, .slice none 0 0, .slice none 0 0, .slice none 0 0] 30)); simpa using h
  have Y : Bx W1 (w.heap.size + 1) 30 [V n, .slice none 0 0, .slice none 0 0, .slice none 0 0] := by subst hW1; have h := Bx.alloc (w.alloc (.cells #[V n, .slice none 0 0, .slice none 0 0, .slice none 0 0] 30)) 30 [V n, .slice none 0 0, .slice none 0 0, .slice none 0 0]; simpa using h
  have X_0 := X.cell (j := 0) rfl
  have X_1 := X.cell (j := 1) rfl
  have X_2 := X.cell (j := 2) rfl
  have X_3 := X.cell (j := 3) rfl
  have X_z := X.lt
  have Y_0 := Y.cell (j := 0) rfl
  have Y_1 := Y.cell (j := 1) rfl
  have Y_2 := Y.cell (j := 2) rfl
  have Y_3 := Y.cell (j := 3) rfl
  have Y_z := Y.lt
  have HsW1 := Lib.hid sW1
  have lW1 : w.heap.size + 2 ≤ W1.heap.size := by omega
  clear hW1 sW1
  have N := gW1
  refine (H1.out _).mono ?_
  rintro e w2 ⟨rfl, hn2⟩
  replace X := X.nx hn2
  replace X_0 := X.cell (j := 0) rfl
  replace X_1 := X.cell (j := 1) rfl
  replace X_2 := X.cell (j := 2) rfl
  replace X_3 := X.cell (j := 3) rfl
  replace X_z := X.lt
  replace Y := Y.nx hn2
  replace Y_0 := Y.cell (j := 0) rfl
  replace Y_1 := Y.cell (j := 1) rfl
  replace Y_2 := Y.cell (j := 2) rfl
  replace Y_3 := Y.cell (j := 3) rfl
  replace Y_z := Y.lt
  replace N := N.trans hn2
  go_wp2_with fail
  refine (H2.out _).mono ?_
  rintro e w3 ⟨rfl, hn3⟩
  replace X := X.nx hn3
  replace X_0 := X.cell (j := 0) rfl
  replace X_1 := X.cell (j := 1) rfl
  replace X_2 := X.cell (j := 2) rfl
  replace X_3 := X.cell (j := 3) rfl
  replace X_z := X.lt
  replace Y := Y.nx hn3
  replace Y_0 := Y.cell (j := 0) rfl
  replace Y_1 := Y.cell (j := 1) rfl
  replace Y_2 := Y.cell (j := 2) rfl
  replace Y_3 := Y.cell (j := 3) rfl
  replace Y_z := Y.lt
  replace N := N.trans hn3
  go_wp2
  go_loopw [5] (fun i wr => i = .int .i64 0 ∧ wr = w3) (fun _ _ => 0)
  case atStart => exact ⟨rfl, rfl⟩
  case round =>
    obtain ⟨rfl, rfl⟩ := hrel
    go_wp2
    go_ret
    exact RetV.bool rfl N
def lvN (n : Int) : Int := if 1 ≤ n ∧ n ≤ 16 then n else 0
abbrev lvV (n : Int) : Value := .tuple #[Lv (lvN n), .bool (decide (1 ≤ n ∧ n ≤ 16))]
theorem lv_no {x : Int} (h : ¬ (1 ≤ x ∧ x ≤ 16)) : lvV x = .tuple #[Lv 0, .bool false] := by rw [lvV, lvN, if_neg h, decide_eq_false h]
theorem lv_yes {x : Int} (h : 1 ≤ x ∧ x ≤ 16) : lvV x = .tuple #[Lv x, .bool true] := by rw [lvV, lvN, if_pos h, decide_eq_true h]
theorem sNewLevels_c (n : Int) (w : World) : Calls Try.prog 11 #[V n] w (RetV (lvV n) w) := by
  by_cases h : 1 ≤ n ∧ n ≤ 16
  · rw [lv_yes h]
    obtain ⟨h1, h2⟩ := h
    go_enter Try.func11, Try.ntmps11
    go_wp2
    refine bodyPost_ret (v := .tuple #[Lv n, .bool true]) (by simp [results, Try.f11, go_sem, *]) rfl ?_
    exact RetV.mk rfl (by repeat (first | exact Nx.refl _ | assumption | apply Nx.alloc | apply Nx.drew | apply Nx.drewN | (refine Nx.setCell ?_ (by first | (simp; done) | (simp; omega) | omega) _) | refine Nx.trans ?_ (by assumption)))
  · rw [lv_no h]
    go_enter Try.func11, Try.ntmps11
    go_wp2
    all_goals first | (exfalso; simp_all; omega) | refine bodyPost_ret (v := .tuple #[Lv 0, .bool false]) (by simp [results, Try.f11, go_sem, *]) rfl ?_
    all_goals exact RetV.mk rfl (by repeat (first | exact Nx.refl _ | assumption | apply Nx.alloc | apply Nx.drew | apply Nx.drewN | (refine Nx.setCell ?_ (by first | (simp; done) | (simp; omega) | omega) _) | refine Nx.trans ?_ (by assumption)))
theorem iNewLevels_c (n : Int) (w : World) : Calls Try.prog 10 #[V n] w (RetV (lvV n) w) := by
  by_cases h : 1 ≤ n ∧ n ≤ 16
  · rw [lv_yes h]
    obtain ⟨h1, h2⟩ := h
    go_enter Try.func10, Try.ntmps10
    go_wp2
    refine bodyPost_ret (v := .tuple #[Lv n, .bool true]) (by simp [results, Try.f10, go_sem, *]) rfl ?_
    exact RetV.mk rfl (by repeat (first | exact Nx.refl _ | assumption | apply Nx.alloc | apply Nx.drew | apply Nx.drewN | (refine Nx.setCell ?_ (by first | (simp; done) | (simp; omega) | omega) _) | refine Nx.trans ?_ (by assumption)))
  · rw [lv_no h]
    go_enter Try.func10, Try.ntmps10
    go_wp2
    all_goals first | (exfalso; simp_all; omega) | refine bodyPost_ret (v := .tuple #[Lv 0, .bool false]) (by simp [results, Try.f10, go_sem, *]) rfl ?_
    all_goals exact RetV.mk rfl (by repeat (first | exact Nx.refl _ | assumption | apply Nx.alloc | apply Nx.drew | apply Nx.drewN | (refine Nx.setCell ?_ (by first | (simp; done) | (simp; omega) | omega) _) | refine Nx.trans ?_ (by assumption)))
theorem iEof_l {x y : Int} (h : okE x y) (w : World) : Calls Try.prog 14 #[V x, V y] w (RetV (.tuple #[Ed (min x y) (max x y), .bool true]) w) := by
  have h1 := iEdgeOf_c x y w
  rwa [eof_yes h] at h1
end Go.Proofs.Ytjchabeiaajgiaa
