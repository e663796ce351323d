import Derived.Test.YtbceoigmcomlbaaJ27
/- Contracts: LinkTours of both. -/
namespace Go.Proofs.Ytbceoigmcomlbaa
open Go.RowKit set_option linter.unusedVariables false set_option linter.unusedSimpArgs false

def linkOk (A B : List Int) (x y : Int) : Prop := TV A ∧ TV B ∧ x ∈ A ∧ y ∈ B ∧ ∀ z ∈ B, z ∉ A
noncomputable instance (A B : List Int) (x y : Int) : Decidable (linkOk A B x y) := Classical.propDecidable _
def linkL (A B : List Int) (x y : Int) : List Int := A.take ((fstV A x).toNat + 1) ++ (turnL B y ++ A.drop (fstV A x).toNat)
noncomputable def tLink (A B : List Int) (x y : Int) : List Int := if linkOk A B x y then linkL A B x y else []
theorem tLink_yes {A B : List Int} {x y : Int} (h : linkOk A B x y) : tLink A B x y = linkL A B x y := if_pos h
theorem tLink_no {A B : List Int} {x y : Int} (h : ¬ linkOk A B x y) : tLink A B x y = [] := if_neg h
theorem linkL_len {A B : List Int} {x y : Int} (h : linkOk A B x y) : (linkL A B x y).length = A.length + B.length + 1 := by
  obtain ⟨k, hk, hg, _⟩ := fstV_spec h.2.2.1
  have hl := (List.getElem?_eq_some_iff.1 hg).1
  unfold linkL
  rw [hk]
  simp [turnL_len h.2.2.2.1]
  omega
theorem tLink_len (A B : List Int) (x y : Int) : (tLink A B x y).length ≤ 63 := by
  by_cases h : linkOk A B x y
  · rw [tLink_yes h, linkL_len h]; have := h.1.1.2.1; have := h.2.1.1.2.1; omega
  · rw [tLink_no h]; simp
theorem linkClos_c (p : Nat) (A : Option Addr) (c n : Nat) (xs : List Int) (x : Int) (w : World) (hn : xs.length = n) (hp : w.cell? ⟨p, 0, none⟩ = some (.slice A n c)) (hx : IntsAt w A xs) (hl : n ≤ 1048576) :
    Calls Try.prog 58 #[V x, .pointer (some ⟨p, 0, none⟩)] w (RetS (.bool (decide (x ∈ xs))) w) := by
  have hc := containsI_c A c xs x w hx (by omega)
  rw [hn] at hc
  generalize decide (x ∈ xs) = q at *
  have Hc := Lib.hid hc
  clear hc hn hx
  go_enter Try.func58, Try.ntmps58
  go_wp2_with fail
  refine Hc.out.mono ?_
  rintro e w1 ⟨rfl, rfl⟩
  go_wp2
  go_ret
  exact RetS.bool rfl
/-- is a number of the second list in the first? -/
def meets (A B : List Int) : Bool := B.any fun z => decide (z ∈ A)
theorem meets_no {A B : List Int} : meets A B = false ↔ ∀ z ∈ B, z ∉ A := by
  unfold meets
  rw [List.any_eq_false]
  constructor
  · intro h z hz; have := h z hz; simpa using this
  · intro h z hz; have := h z hz; simpa using this
theorem meets_c (p : Nat) (A : Option Addr) (c n : Nat) (xs : List Int) (B : Option Addr) (d m : Nat) (ys : List Int) (w : World) (hn : xs.length = n) (hm : ys.length = m) (hp : w.cell? ⟨p, 0, none⟩ = some (.slice A n c)) (hx : IntsAt w A xs) (hy : IntsAt w B ys) (hl : n ≤ 1048576) (hl2 : m ≤ 1048576) :
    Calls Try.prog 36 #[.slice B m d, .func (.func 58) #[] #[.pointer (some ⟨p, 0, none⟩)]] w (RetS (.bool (meets xs ys)) w) := by
  subst hm
  exact containsFuncS_c 58 #[] #[.pointer (some ⟨p, 0, none⟩)] _ (enters_of Try.func58 (by rfl) rfl) B d ys w hy hl2 fun z _ => linkClos_c p A c n xs z w hn hp hx hl

set_option maxRecDepth 100000 in
set_option maxHeartbeats 4000000 in
theorem iLinkTours_c (A B : Option Addr) (c n d m : Nat) (xs ys : List Int) (x y : Int) (w : World) (hn : xs.length = n) (hm : ys.length = m) (hc : n ≤ c) (hd : m ≤ d) (hx : IntsAt w A xs) (hy : IntsAt w B ys) (hl : n ≤ 1048576) (hl2 : m ≤ 1048576) :
    Calls Try.prog 21 #[.slice A n c, .slice B m d, V x, V y] w (RetIB (tLink xs ys x y) (decide (linkOk xs ys x y)) w) := by
  have hv := fun w' h => iTourValid_c A c n xs w' hn hc h hl
  have hi := fun w' h => indexI_c A c xs x w' h (by omega)
  rw [hn] at hi
  have ht := fun w' h => iTurnTour_c B d m ys y w' hm hd h hl2
  have hmt := fun p w' h1 h2 h3 => meets_c p A c n xs B d m ys w' hn hm h1 h2 h3 hl hl2
  have Hx := Lib.hid hx
  have Hy := Lib.hid hy
  have key : linkOk xs ys x y ↔ TV xs ∧ ¬ fstV xs x < 0 ∧ turnB ys y = true ∧ meets xs ys = false := by
    unfold linkOk turnB
    rw [decide_eq_true_iff, meets_no]
    constructor
    · rintro ⟨h1, h2, h3, h4, h5⟩; exact ⟨h1, fun h => fstV_neg h h3, ⟨h2, h4⟩, h5⟩
    · rintro ⟨h1, h2, ⟨h3, h4⟩, h5⟩; exact ⟨h1, h3, fstV_pos h2, h4, h5⟩
  by_cases hok : linkOk xs ys x y
  · rw [tLink_yes hok, decide_eq_true hok]
    obtain ⟨h1, h2, h3, h4⟩ := key.1 hok
    rw [decide_eq_true h1] at hv
    rw [h3, tTurn_yes hok.2.1 hok.2.2.2.1] at ht
    rw [h4] at hmt
    obtain ⟨k, hk, hg, _⟩ := fstV_spec hok.2.2.1
    have hkl := (List.getElem?_eq_some_iff.1 hg).1
    rw [hn] at hkl
    have hn31 := hok.1.1.2.1
    rw [hn] at hn31
    have hm31 := hok.2.1.1.2.1
    have htl := turnL_len hok.2.2.2.1
    rw [hm] at htl hm31
    rw [hk] at hi
    obtain ⟨b, off, rfl, hb⟩ := hx.addr (by omega)
    have hll : linkL xs ys x y = xs.take (k + 1) ++ (turnL ys y ++ xs.drop k) := by unfold linkL; rw [hk]; rfl
    have hl1 : (xs.take (k + 1)).length = k + 1 := by simp; omega
    have hl3 : (xs.drop k).length = n - k := by simp; omega
    have hx1 := fun w' (h : IntsAt w' (some ⟨b, off, none⟩) xs) => h.take (k + 1)
    have hx3 := fun w' (h : IntsAt w' (some ⟨b, off, none⟩) xs) => h.tail k
    generalize xs.take (k + 1) = X at *
    generalize xs.drop k = Z at *
    generalize turnL ys y = T at *
    have hwm : IntKind.i64.wrap ((k : Int) + 1) = ((k + 1 : Nat) : Int) := by rw [IntKind.wrap_i64]; omega
    have hkz : ¬ (k : Int) < 0 := by omega
    have hkc : ¬ k = c := by omega
    have hkc2 : ¬ c = k := by omega
    have hk1c : k + 1 ≤ c := by omega
    have hkn : k ≤ n := by omega
    obtain ⟨k1, hk1⟩ : ∃ k1, k + 1 = k1 := ⟨_, rfl⟩
    rw [hk1] at hl1 hwm hk1c
    have hi1 : (k1 : Int) ≤ (c : Int) := by omega
    have hi2 : (k : Int) ≤ (n : Int) := by omega
    have hk1i : (k : Int) + 1 = (k1 : Int) := by omega
    have hk1b : k1 ≤ 31 := by omega
    have hTb : T.length ≤ 31 := by omega
    have Hw1 := Lib.hid hwm
    have HL1 := Lib.hid hl1
    have HL3 := Lib.hid hl3
    have Hx1 := Lib.hid hx1
    have Hx3 := Lib.hid hx3
    have Hll := Lib.hid hll
    have Hv := Lib.hid hv
    have Hi := Lib.hid hi
    have Ht := Lib.hid ht
    have Hmt := Lib.hid hmt
    have Hk1i := Lib.hid hk1i
    clear hwm hl1 hl3 hx1 hx3 hll hv hi ht hmt hx hy hn hm htl hk hg key hok h1 h2 h3 h4 hk1 hk1i
    go_enter Try.func21, Try.ntmps21
    go_wp2_with fail
    generalize hW1 : World.alloc _ _ = W1
    have gW1 : Nx w W1 := by subst hW1; exact (by repeat (first | exact Nx.refl _ | assumption | apply Nx.alloc | apply Nx.drew | apply Nx.drewN | (refine Nx.setCell ?_ (by first | (simp; done) | (simp; omega) | omega) _) | refine Nx.trans ?_ (by assumption)))
    have sW1 : W1.heap.size = w.heap.size + 1 := by subst hW1; simp
    have X0 : Bx W1 (w.heap.size) 23 [.slice (some ⟨b, off, none⟩) n c] := by subst hW1; have h := Bx.alloc w 23 [.slice (some ⟨b, off, none⟩) n c]; simpa using h
    have X0_0 := X0.cell (j := 0) rfl
    have X0_z := X0.lt
    have HsW1 := Lib.hid sW1
    have lW1 : w.heap.size + 1 ≤ W1.heap.size := by omega
    clear hW1 sW1
    refine (Hi.out _ (Hx.out.nx gW1)).mono ?_
    rintro e w_ ⟨rfl, rfl⟩
    go_wp2_with fail
    refine (Ht.out _ (Hy.out.nx gW1)).mono ?_
    rintro e w2 ⟨A2, c2, rfl, ho2, hn2⟩
    replace X0 := X0.nx hn2
    replace X0_0 := X0.cell (j := 0) rfl
    replace X0_z := X0.lt
    go_wp2_with fail
    refine (Hv.out _ (Hx.out.nx (gW1.trans hn2))).mono ?_
    rintro e w3 ⟨rfl, hn3⟩
    replace X0 := X0.nx hn3
    replace X0_0 := X0.cell (j := 0) rfl
    replace X0_z := X0.lt
    have N3 := (gW1.trans hn2).trans hn3
    go_wp2_with fail
    refine (Hmt.out w.heap.size w3 X0_0 (Hx.out.nx N3) (Hy.out.nx N3)).mono ?_
    rintro e w_ ⟨rfl, rfl⟩
    go_wp2
    have hw1 := Hw1.out
    have ho3 := ho2.nx hn3
    have kp : ∀ w', Nx w3 w' → (fun w_ => Nx w3 w_ ∧ w_.cell? ⟨w.heap.size, 0, none⟩ = some (.slice (some ⟨b, off, none⟩) n c)) w' := fun w' h => ⟨h, h.cell X0_z X0_0⟩
    go_region_held3 (fun w_ => Nx w3 w_ ∧ w_.cell? ⟨w.heap.size, 0, none⟩ = some (.slice (some ⟨b, off, none⟩) n c))
      (exact kp _ (by (repeat (first | exact Nx.refl _ | assumption | apply Nx.alloc | apply Nx.drew | apply Nx.drewN | (refine Nx.setCell ?_ (by first | (simp; done) | (simp; omega) | omega) _) | refine Nx.trans ?_ (by assumption))); done))
      (first | (go_at_call 55; (with_reducible refine (concat3_c _ (some ⟨b, off, none⟩) A2 (some ⟨b, off + k, none⟩) k1 T.length (n - k) c c2 (c - k) X T Z _ HL1.out rfl HL3.out (by omega) (by first | (simp; done) | omega | (simp; omega) | (simp [size_drew_]; done) | (simp [size_drew_]; omega)) (by go_simp) (by go_simp) (by go_simp) (Hx1.out _ (Hx.out.nx (N3.trans (by (repeat (first | exact Nx.refl _ | assumption | apply Nx.alloc | apply Nx.drew | apply Nx.drewN | (refine Nx.setCell ?_ (by first | (simp; done) | (simp; omega) | omega) _) | refine Nx.trans ?_ (by assumption))); done)))) ((ho3.nx (by (repeat (first | exact Nx.refl _ | assumption | apply Nx.alloc | apply Nx.drew | apply Nx.drewN | (refine Nx.setCell ?_ (by first | (simp; done) | (simp; omega) | omega) _) | refine Nx.trans ?_ (by assumption))); done)).intsAt) (Hx3.out _ (Hx.out.nx (N3.trans (by (repeat (first | exact Nx.refl _ | assumption | apply Nx.alloc | apply Nx.drew | apply Nx.drewN | (refine Nx.setCell ?_ (by first | (simp; done) | (simp; omega) | omega) _) | refine Nx.trans ?_ (by assumption))); done))))).mono ?_); rintro e w4 ⟨A4, c4, rfl, ho4, hn4⟩; have hs4 : w3.heap.size ≤ w4.heap.size := Nx.size (by exact (by (repeat (first | exact Nx.refl _ | assumption | apply Nx.alloc | apply Nx.drew | apply Nx.drewN | (refine Nx.setCell ?_ (by first | (simp; done) | (simp; omega) | omega) _) | refine Nx.trans ?_ (by assumption))); done))))
    all_goals go_wp2
    all_goals go_ret2
    all_goals exact ⟨A4, c4, by rw [Hll.out, List.length_append, List.length_append, HL1.out, HL3.out]; rfl, by rw [Hll.out]; exact ho4.mono (by have := N3.size; first | omega | (simp; omega) | (simp [size_drew_]; omega)), N3.trans (by (repeat (first | exact Nx.refl _ | assumption | apply Nx.alloc | apply Nx.drew | apply Nx.drewN | (refine Nx.setCell ?_ (by first | (simp; done) | (simp; omega) | omega) _) | refine Nx.trans ?_ (by assumption))); done)⟩
  · have Hres : Hid (tLink xs ys x y = [] ∧ decide (linkOk xs ys x y) = false) := Lib.hid ⟨tLink_no hok, decide_eq_false hok⟩
    rw [Hres.out.1, Hres.out.2]
    generalize hz : fstV xs x = z at *
    generalize hq3 : turnB ys y = q3 at *
    generalize tTurn ys y = T at *
    generalize hq4 : meets xs ys = q4 at *
    by_cases h1 : TV xs
    · rw [decide_eq_true h1] at hv
      by_cases h2 : z < 0
      · have Hv := Lib.hid hv
        have Hi := Lib.hid hi
        have Ht := Lib.hid ht
        clear hv hi ht hmt hx hy hn hm key hok h1 hz hq3 hq4 Hres
        go_enter Try.func21, Try.ntmps21
        go_wp2_with fail
        generalize hW1 : World.alloc _ _ = W1
        have gW1 : Nx w W1 := by subst hW1; exact (by repeat (first | exact Nx.refl _ | assumption | apply Nx.alloc | apply Nx.drew | apply Nx.drewN | (refine Nx.setCell ?_ (by first | (simp; done) | (simp; omega) | omega) _) | refine Nx.trans ?_ (by assumption)))
        have sW1 : W1.heap.size = w.heap.size + 1 := by subst hW1; simp
        have X0 : Bx W1 (w.heap.size) 23 [.slice A n c] := by subst hW1; have h := Bx.alloc w 23 [.slice A n c]; simpa using h
        have X0_0 := X0.cell (j := 0) rfl
        have X0_z := X0.lt
        have HsW1 := Lib.hid sW1
        have lW1 : w.heap.size + 1 ≤ W1.heap.size := by omega
        clear hW1 sW1
        refine (Hi.out _ (Hx.out.nx gW1)).mono ?_
        rintro e w_ ⟨rfl, rfl⟩
        go_wp2_with fail
        refine (Ht.out _ (Hy.out.nx gW1)).mono ?_
        rintro e w2 ⟨A2, c2, rfl, ho2, hn2⟩
        replace X0 := X0.nx hn2
        replace X0_0 := X0.cell (j := 0) rfl
        replace X0_z := X0.lt
        go_wp2_with fail
        refine (Hv.out _ (Hx.out.nx (gW1.trans hn2))).mono ?_
        rintro e w3 ⟨rfl, hn3⟩
        replace X0 := X0.nx hn3
        replace X0_0 := X0.cell (j := 0) rfl
        replace X0_z := X0.lt
        have N3 := (gW1.trans hn2).trans hn3
        go_wp2
        go_ret2
        exact ⟨none, 0, rfl, OwnI.nil _ _ _, N3⟩
      · cases q3 with
        | false =>
          have Hv := Lib.hid hv
          have Hi := Lib.hid hi
          have Ht := Lib.hid ht
          clear hv hi ht hmt hx hy hn hm key hok h1 hz hq3 hq4 Hres
          go_enter Try.func21, Try.ntmps21
          go_wp2_with fail
          generalize hW1 : World.alloc _ _ = W1
          have gW1 : Nx w W1 := by subst hW1; exact (by repeat (first | exact Nx.refl _ | assumption | apply Nx.alloc | apply Nx.drew | apply Nx.drewN | (refine Nx.setCell ?_ (by first | (simp; done) | (simp; omega) | omega) _) | refine Nx.trans ?_ (by assumption)))
          have sW1 : W1.heap.size = w.heap.size + 1 := by subst hW1; simp
          have X0 : Bx W1 (w.heap.size) 23 [.slice A n c] := by subst hW1; have h := Bx.alloc w 23 [.slice A n c]; simpa using h
          have X0_0 := X0.cell (j := 0) rfl
          have X0_z := X0.lt
          have HsW1 := Lib.hid sW1
          have lW1 : w.heap.size + 1 ≤ W1.heap.size := by omega
          clear hW1 sW1
          refine (Hi.out _ (Hx.out.nx gW1)).mono ?_
          rintro e w_ ⟨rfl, rfl⟩
          go_wp2_with fail
          refine (Ht.out _ (Hy.out.nx gW1)).mono ?_
          rintro e w2 ⟨A2, c2, rfl, ho2, hn2⟩
          replace X0 := X0.nx hn2
          replace X0_0 := X0.cell (j := 0) rfl
          replace X0_z := X0.lt
          go_wp2_with fail
          refine (Hv.out _ (Hx.out.nx (gW1.trans hn2))).mono ?_
          rintro e w3 ⟨rfl, hn3⟩
          replace X0 := X0.nx hn3
          replace X0_0 := X0.cell (j := 0) rfl
          replace X0_z := X0.lt
          have N3 := (gW1.trans hn2).trans hn3
          go_wp2
          go_ret2
          exact ⟨none, 0, rfl, OwnI.nil _ _ _, N3⟩
        | true =>
          cases q4 with
          | false => exact absurd (key.2 ⟨h1, h2, rfl, rfl⟩) hok
          | true =>
            have Hv := Lib.hid hv
            have Hi := Lib.hid hi
            have Ht := Lib.hid ht
            have Hmt := Lib.hid hmt
            clear hv hi ht hmt hx hy hn hm key hok h1 hz hq3 hq4 Hres
            go_enter Try.func21, Try.ntmps21
            go_wp2_with fail
            generalize hW1 : World.alloc _ _ = W1
            have gW1 : Nx w W1 := by subst hW1; exact (by repeat (first | exact Nx.refl _ | assumption | apply Nx.alloc | apply Nx.drew | apply Nx.drewN | (refine Nx.setCell ?_ (by first | (simp; done) | (simp; omega) | omega) _) | refine Nx.trans ?_ (by assumption)))
            have sW1 : W1.heap.size = w.heap.size + 1 := by subst hW1; simp
            have X0 : Bx W1 (w.heap.size) 23 [.slice A n c] := by subst hW1; have h := Bx.alloc w 23 [.slice A n c]; simpa using h
            have X0_0 := X0.cell (j := 0) rfl
            have X0_z := X0.lt
            have HsW1 := Lib.hid sW1
            have lW1 : w.heap.size + 1 ≤ W1.heap.size := by omega
            clear hW1 sW1
            refine (Hi.out _ (Hx.out.nx gW1)).mono ?_
            rintro e w_ ⟨rfl, rfl⟩
            go_wp2_with fail
            refine (Ht.out _ (Hy.out.nx gW1)).mono ?_
            rintro e w2 ⟨A2, c2, rfl, ho2, hn2⟩
            replace X0 := X0.nx hn2
            replace X0_0 := X0.cell (j := 0) rfl
            replace X0_z := X0.lt
            go_wp2_with fail
            refine (Hv.out _ (Hx.out.nx (gW1.trans hn2))).mono ?_
            rintro e w3 ⟨rfl, hn3⟩
            replace X0 := X0.nx hn3
            replace X0_0 := X0.cell (j := 0) rfl
            replace X0_z := X0.lt
            have N3 := (gW1.trans hn2).trans hn3
            go_wp2_with fail
            refine (Hmt.out w.heap.size w3 X0_0 (Hx.out.nx N3) (Hy.out.nx N3)).mono ?_
            rintro e w_ ⟨rfl, rfl⟩
            go_wp2
            go_ret2
            exact ⟨none, 0, rfl, OwnI.nil _ _ _, N3⟩
    · rw [decide_eq_false h1] at hv
      have Hv := Lib.hid hv
      have Hi := Lib.hid hi
      have Ht := Lib.hid ht
      clear hv hi ht hmt hx hy hn hm key hok h1 hz hq3 hq4 Hres
      go_enter Try.func21, Try.ntmps21
      go_wp2_with fail
      generalize hW1 : World.alloc _ _ = W1
      have gW1 : Nx w W1 := by subst hW1; exact (by repeat (first | exact Nx.refl _ | assumption | apply Nx.alloc | apply Nx.drew | apply Nx.drewN | (refine Nx.setCell ?_ (by first | (simp; done) | (simp; omega) | omega) _) | refine Nx.trans ?_ (by assumption)))
      have sW1 : W1.heap.size = w.heap.size + 1 := by subst hW1; simp
      have X0 : Bx W1 (w.heap.size) 23 [.slice A n c] := by subst hW1; have h := Bx.alloc w 23 [.slice A n c]; simpa using h
      have X0_0 := X0.cell (j := 0) rfl
      have X0_z := X0.lt
      have HsW1 := Lib.hid sW1
      have lW1 : w.heap.size + 1 ≤ W1.heap.size := by omega
      clear hW1 sW1
      refine (Hi.out _ (Hx.out.nx gW1)).mono ?_
      rintro e w_ ⟨rfl, rfl⟩
      go_wp2_with fail
      refine (Ht.out _ (Hy.out.nx gW1)).mono ?_
      rintro e w2 ⟨A2, c2, rfl, ho2, hn2⟩
      replace X0 := X0.nx hn2
      replace X0_0 := X0.cell (j := 0) rfl
      replace X0_z := X0.lt
      go_wp2_with fail
      refine (Hv.out _ (Hx.out.nx (gW1.trans hn2))).mono ?_
      rintro e w3 ⟨rfl, hn3⟩
      replace X0 := X0.nx hn3
      replace X0_0 := X0.cell (j := 0) rfl
      replace X0_z := X0.lt
      have N3 := (gW1.trans hn2).trans hn3
      go_wp2
      go_ret2
      exact ⟨none, 0, rfl, OwnI.nil _ _ _, N3⟩

set_option maxRecDepth 100000 in
set_option maxHeartbeats 4000000 in
theorem sLinkTours_c (A B : Option Addr) (c n d m : Nat) (xs ys : List Int) (x y : Int) (w : World) (hn : xs.length = n) (hm : ys.length = m) (hc : n ≤ c) (hd : m ≤ d) (hx : IntsAt w A xs) (hy : IntsAt w B ys) (hl : n ≤ 1048576) (hl2 : m ≤ 1048576) :
    Calls Try.prog 24 #[.slice A n c, .slice B m d, V x, V y] w (RetIB (tLink xs ys x y) (decide (linkOk xs ys x y)) w) := by
  have hv := fun w' h => sTourValid_c A c n xs w' hn hc h hl
  have hu := fun w' h => sTourValid_c B d m ys w' hm hd h hl2
  have hi := fun w' h => l6In_y A c n xs x w' hn h hl
  have hj := fun w' h => l6In_y B d m ys y w' hm h hl2
  have hin := fun z w' h => l6In_y A c n xs z w' hn h hl
  have Hx := Lib.hid hx
  have Hy := Lib.hid hy
  have Hm := Lib.hid hm
  by_cases hok : linkOk xs ys x y
  · rw [tLink_yes hok, decide_eq_true hok]
    rw [decide_eq_true hok.1] at hv
    rw [decide_eq_true hok.2.1] at hu
    rw [decide_eq_true hok.2.2.1] at hi
    rw [decide_eq_true hok.2.2.2.1] at hj
    obtain ⟨i0, hi0, hz0, hz1, hz2⟩ := info_parts infoI
    have Hi0 := Lib.hid hi0
    have Hz0 := Lib.hid hz0
    have Hz1 := Lib.hid hz1
    have Hz2 := Lib.hid hz2
    clear hi0 hz0 hz1 hz2
    have hf := fun w' h => l6First_c A c xs x w' h (by omega)
    have htn := fun w' h => l6Turn_c B d m ys y w' hm hd h hl2 hok.2.2.2.1
    obtain ⟨k, hk, hg, _⟩ := fstV_spec hok.2.2.1
    have hkl := (List.getElem?_eq_some_iff.1 hg).1
    rw [hn] at hkl
    rw [hk, hn] at hf
    have hn31 := hok.1.1.2.1
    rw [hn] at hn31
    have hm31 := hok.2.1.1.2.1
    have htl := turnL_len hok.2.2.2.1
    rw [hm] at htl hm31
    obtain ⟨b, off, rfl, hb⟩ := hx.addr (by omega)
    have hll : linkL xs ys x y = xs.take (k + 1) ++ (turnL ys y ++ xs.drop k) := by unfold linkL; rw [hk]; rfl
    have hl1 : (xs.take (k + 1)).length = k + 1 := by simp; omega
    have hl3 : (xs.drop k).length = n - k := by simp; omega
    have hx1 := fun w' (h : IntsAt w' (some ⟨b, off, none⟩) xs) => h.take (k + 1)
    have hx3 := fun w' (h : IntsAt w' (some ⟨b, off, none⟩) xs) => h.tail k
    generalize xs.take (k + 1) = X at *
    generalize xs.drop k = Z at *
    generalize turnL ys y = T at *
    have hwm : IntKind.i64.wrap ((k : Int) + 1) = ((k + 1 : Nat) : Int) := by rw [IntKind.wrap_i64]; omega
    have hkc : ¬ k = c := by omega
    have hkc2 : ¬ c = k := by omega
    have hk1c : k + 1 ≤ c := by omega
    have hkn : k ≤ n := by omega
    obtain ⟨k1, hk1⟩ : ∃ k1, k + 1 = k1 := ⟨_, rfl⟩
    rw [hk1] at hl1 hwm hk1c
    have hi1 : (k1 : Int) ≤ (c : Int) := by omega
    have hi2 : (k : Int) ≤ (n : Int) := by omega
    have hk1i : (k : Int) + 1 = (k1 : Int) := by omega
    have hk1b : k1 ≤ 31 := by omega
    have hTb : T.length ≤ 31 := by omega
    have Hw1 := Lib.hid hwm
    have HL1 := Lib.hid hl1
    have HL3 := Lib.hid hl3
    have HLs : Hid ((X ++ T).length = k1 + T.length) := Lib.hid (by rw [List.length_append, hl1])
    have Hx1 := Lib.hid hx1
    have Hx3 := Lib.hid hx3
    have Hll := Lib.hid hll
    have Hf := Lib.hid hf
    have Htn := Lib.hid htn
    have Hall := Lib.hid hok.2.2.2.2
    have Hv := Lib.hid hv
    have Hu := Lib.hid hu
    have Hi := Lib.hid hi
    have Hj := Lib.hid hj
    have Hin := Lib.hid hin
    clear hv hu hi hj hin hx hy hn hm hwm hl1 hl3 hx1 hx3 hll hf htn hok htl hg hk hk1
    go_enter Try.func24, Try.ntmps24
    go_wp2_with fail
    refine (Hv.out _ Hx.out).mono ?_
    rintro e w1 ⟨rfl, hn1⟩
    go_wp2_with fail
    refine (Hu.out _ (Hy.out.nx hn1)).mono ?_
    rintro e w2 ⟨rfl, hn2⟩
    have N2 := hn1.trans hn2
    go_wp2_with fail
    refine (Hi.out _ (Hx.out.nx N2)).mono ?_
    rintro e w_ ⟨rfl, rfl⟩
    go_wp2_with fail
    refine (Hj.out _ (Hy.out.nx N2)).mono ?_
    rintro e w_ ⟨rfl, rfl⟩
    go_wp2
    go_loopg [10] m (fun gk i wr => ∃ k : Nat, k + gk = m ∧ i = .int .i64 k ∧ w2 = wr ∧ ∀ j, j < k → ∀ z, ys[j]? = some z → z ∉ xs)
    case atStart => exact ⟨0, by omega, rfl, rfl, fun j hj => by omega⟩
    case round =>
      obtain ⟨i, hi_, rfl, rfl, hno⟩ := hrel
      have Hno := Lib.hid hno
      clear hno
      by_cases hlt : i < m
      · obtain ⟨z, hek⟩ : ∃ z, ys[i]? = some z := ⟨_, List.getElem?_eq_getElem (by have := Hm.out; omega)⟩
        obtain ⟨b2, off2, hB, hb2, r1⟩ := (Hy.out.nx N2).rd hek
        subst hB
        have Hek := Lib.hid hek
        obtain ⟨q, hq⟩ : ∃ q, decide (z ∈ xs) = q := ⟨_, rfl⟩
        have hiz := Hin.out z
        rw [hq] at hiz
        have Hiz := Lib.hid hiz
        have Hq := Lib.hid hq
        clear hek hq hiz
        go_wp2_with fail
        refine (Hiz.out _ (Hx.out.nx N2)).mono ?_
        rintro e w_ ⟨rfl, rfl⟩
        cases q with
        | true =>
          exact absurd (of_decide_eq_true Hq.out) (Hall.out z (List.mem_of_getElem? Hek.out))
        | false =>
          go_wp2
          go_roundg (gk - 1)
          case measure => omega
          case rel => exact ⟨i + 1, by omega, by go_num, rfl, fun j hj z' hz' => by
            rcases Nat.lt_succ_iff_lt_or_eq.1 hj with h | rfl
            · exact Hno.out j h z' hz'
            · rw [Hek.out] at hz'; injection hz' with hz'; subst hz'; exact of_decide_eq_false Hq.out⟩
      · have hall : ∀ z ∈ ys, z ∉ xs := fun z hz => by
          obtain ⟨j, hj, rfl⟩ := List.getElem_of_mem hz
          exact Hno.out j (by have := Hm.out; omega) _ (List.getElem?_eq_getElem hj)
        go_wp2_with fail
        refine (Hf.out _ (Hx.out.nx N2)).mono ?_
        rintro e w_ ⟨rfl, rfl⟩
        have hwm := Hw1.out
        have HL0 : Hid (([] : List Int).length = 0) := Lib.hid rfl
        have hz2 := N2.size
        clear hall
        go_wp2_with (first
          | (at_builtin; refine appIn (base := w.heap.size) (t := 3) (c' := c) [] X 0 k1 HL0.out HL1.out rfl rfl Try.underlying23 Hi0.out Hz0.out Hz1.out Hz2.out rfl rfl (OwnI.empty w2 w.heap.size 3 hz2) rfl (Hx1.out _ (Hx.out.nx (N2.trans (by (repeat (first | exact Nx.refl _ | assumption | apply Nx.alloc | apply Nx.drew | apply Nx.drewN | (refine Nx.setCell ?_ (by first | (simp; done) | (simp; omega) | omega) _) | refine Nx.trans ?_ (by assumption))); done)))) (by omega) (by simp; omega) ?_; intro A4 c4 w4 hown4 hnx4 hgr4 hbl4; have N4 := hnx4 w (Nat.le_refl _) (N2.alloc _); have N4' : Nx w2 w4 := hnx4 w2 |> (fun _ => Nx.grown (Nx.alloc (Nx.refl _) _) hgr4 (fun q hq => by simp [blk] at hq; omega)); rw [List.nil_append] at hown4)
          | (go_at_call 62; (with_reducible refine (Htn.out _ (Hy.out.nx N4)).mono ?_); rintro e w5 ⟨A5, c5, rfl, ho5, hn5⟩; have N5 := N4.trans hn5)
          | (at_builtin; refine appIn (base := w.heap.size) (t := 3) (c' := c5) X T k1 T.length HL1.out rfl rfl rfl Try.underlying23 Hi0.out Hz0.out Hz1.out Hz2.out rfl rfl (hown4.nx hn5) rfl ho5.intsAt (by omega) (Nx.size N5) ?_; intro A6 c6 w6 hown6 hnx6 hgr6 hbl6; have N6 := hnx6 w (Nat.le_refl _) N5)
          | (at_builtin; refine appIn (base := w.heap.size) (t := 3) (c' := c - k) (X ++ T) Z (k1 + T.length) (n - k) HLs.out HL3.out rfl rfl Try.underlying23 Hi0.out Hz0.out Hz1.out Hz2.out rfl rfl hown6 rfl (Hx3.out _ (Hx.out.nx N6)) (by omega) (Nx.size N6) ?_; intro A7 c7 w7 hown7 hnx7 hgr7 hbl7))
        go_ret2
        exact ⟨A7, c7, by rw [Hll.out, List.length_append, List.length_append, HL1.out, HL3.out, ← Nat.add_assoc]; rfl, by rw [Hll.out, ← List.append_assoc]; exact hown7, hnx7 w (Nat.le_refl _) N6⟩
  · have key : TV xs → TV ys → x ∈ xs → y ∈ ys → ¬ ∀ z ∈ ys, z ∉ xs := fun h1 h2 h3 h4 h5 => hok ⟨h1, h2, h3, h4, h5⟩
    have Hres : Hid (tLink xs ys x y = [] ∧ decide (linkOk xs ys x y) = false) := Lib.hid ⟨tLink_no hok, decide_eq_false hok⟩
    rw [Hres.out.1, Hres.out.2]
    by_cases h1 : TV xs
    · rw [decide_eq_true h1] at hv
      by_cases h2 : TV ys
      · rw [decide_eq_true h2] at hu
        by_cases h3 : x ∈ xs
        · rw [decide_eq_true h3] at hi
          by_cases h4 : y ∈ ys
          · rw [decide_eq_true h4] at hj
            have Hkey := Lib.hid (key h1 h2 h3 h4)
            have Hv := Lib.hid hv
            have Hu := Lib.hid hu
            have Hi := Lib.hid hi
            have Hj := Lib.hid hj
            have Hin := Lib.hid hin
            clear hv hu hi hj hin hx hy hn hm key hok h1 h2 h3 h4 Hres
            go_enter Try.func24, Try.ntmps24
            go_wp2_with fail
            refine (Hv.out _ Hx.out).mono ?_
            rintro e w1 ⟨rfl, hn1⟩
            go_wp2_with fail
            refine (Hu.out _ (Hy.out.nx hn1)).mono ?_
            rintro e w2 ⟨rfl, hn2⟩
            have N2 := hn1.trans hn2
            go_wp2_with fail
            refine (Hi.out _ (Hx.out.nx N2)).mono ?_
            rintro e w_ ⟨rfl, rfl⟩
            go_wp2_with fail
            refine (Hj.out _ (Hy.out.nx N2)).mono ?_
            rintro e w_ ⟨rfl, rfl⟩
            go_wp2
            go_loopg [10] m (fun gk i wr => ∃ k : Nat, k + gk = m ∧ i = .int .i64 k ∧ w2 = wr ∧ ∀ j, j < k → ∀ z, ys[j]? = some z → z ∉ xs)
            case atStart => exact ⟨0, by omega, rfl, rfl, fun j hj => by omega⟩
            case round =>
              obtain ⟨i, hi_, rfl, rfl, hno⟩ := hrel
              have Hno := Lib.hid hno
              clear hno
              by_cases hlt : i < m
              · obtain ⟨z, hek⟩ : ∃ z, ys[i]? = some z := ⟨_, List.getElem?_eq_getElem (by have := Hm.out; omega)⟩
                obtain ⟨b2, off2, hB, hb2, r1⟩ := (Hy.out.nx N2).rd hek
                subst hB
                have Hek := Lib.hid hek
                obtain ⟨q, hq⟩ : ∃ q, decide (z ∈ xs) = q := ⟨_, rfl⟩
                have hiz := Hin.out z
                rw [hq] at hiz
                have Hiz := Lib.hid hiz
                have Hq := Lib.hid hq
                clear hek hq hiz
                go_wp2_with fail
                refine (Hiz.out _ (Hx.out.nx N2)).mono ?_
                rintro e w_ ⟨rfl, rfl⟩
                cases q with
                | true =>
                  go_wp2
                  go_ret2
                  exact ⟨_, 0, rfl, OwnI.empty w2 w.heap.size 3 (Nx.size N2), Nx.alloc N2 _⟩
                | false =>
                  go_wp2
                  go_roundg (gk - 1)
                  case measure => omega
                  case rel => exact ⟨i + 1, by omega, by go_num, rfl, fun j hj z' hz' => by
                    rcases Nat.lt_succ_iff_lt_or_eq.1 hj with h | rfl
                    · exact Hno.out j h z' hz'
                    · rw [Hek.out] at hz'; injection hz' with hz'; subst hz'; exact of_decide_eq_false Hq.out⟩
              · have hall : ∀ z ∈ ys, z ∉ xs := fun z hz => by
                  obtain ⟨j, hj, rfl⟩ := List.getElem_of_mem hz
                  exact Hno.out j (by have := Hm.out; omega) _ (List.getElem?_eq_getElem hj)
                exact absurd hall Hkey.out
          · rw [decide_eq_false h4] at hj
            have Hv := Lib.hid hv
            have Hu := Lib.hid hu
            have Hi := Lib.hid hi
            have Hj := Lib.hid hj
            have Hin := Lib.hid hin
            clear hv hu hi hj hin hx hy hn hm key hok h1 h2 h3 h4 Hres
            go_enter Try.func24, Try.ntmps24
            go_wp2_with fail
            refine (Hv.out _ Hx.out).mono ?_
            rintro e w1 ⟨rfl, hn1⟩
            go_wp2_with fail
            refine (Hu.out _ (Hy.out.nx hn1)).mono ?_
            rintro e w2 ⟨rfl, hn2⟩
            have N2 := hn1.trans hn2
            go_wp2_with fail
            refine (Hi.out _ (Hx.out.nx N2)).mono ?_
            rintro e w_ ⟨rfl, rfl⟩
            go_wp2_with fail
            refine (Hj.out _ (Hy.out.nx N2)).mono ?_
            rintro e w_ ⟨rfl, rfl⟩
            go_wp2
            go_ret2
            exact ⟨_, 0, rfl, OwnI.empty w2 w.heap.size 3 (Nx.size N2), Nx.alloc N2 _⟩
        · rw [decide_eq_false h3] at hi
          have Hv := Lib.hid hv
          have Hu := Lib.hid hu
          have Hi := Lib.hid hi
          have Hj := Lib.hid hj
          have Hin := Lib.hid hin
          clear hv hu hi hj hin hx hy hn hm key hok h1 h2 h3 Hres
          go_enter Try.func24, Try.ntmps24
          go_wp2_with fail
          refine (Hv.out _ Hx.out).mono ?_
          rintro e w1 ⟨rfl, hn1⟩
          go_wp2_with fail
          refine (Hu.out _ (Hy.out.nx hn1)).mono ?_
          rintro e w2 ⟨rfl, hn2⟩
          have N2 := hn1.trans hn2
          go_wp2_with fail
          refine (Hi.out _ (Hx.out.nx N2)).mono ?_
          rintro e w_ ⟨rfl, rfl⟩
          go_wp2
          go_ret2
          exact ⟨_, 0, rfl, OwnI.empty w2 w.heap.size 3 (Nx.size N2), Nx.alloc N2 _⟩
      · rw [decide_eq_false h2] at hu
        have Hv := Lib.hid hv
        have Hu := Lib.hid hu
        have Hi := Lib.hid hi
        have Hj := Lib.hid hj
        have Hin := Lib.hid hin
        clear hv hu hi hj hin hx hy hn hm key hok h1 h2 Hres
        go_enter Try.func24, Try.ntmps24
        go_wp2_with fail
        refine (Hv.out _ Hx.out).mono ?_
        rintro e w1 ⟨rfl, hn1⟩
        go_wp2_with fail
        refine (Hu.out _ (Hy.out.nx hn1)).mono ?_
        rintro e w2 ⟨rfl, hn2⟩
        have N2 := hn1.trans hn2
        go_wp2
        go_ret2
        exact ⟨_, 0, rfl, OwnI.empty w2 w.heap.size 3 (Nx.size N2), Nx.alloc N2 _⟩
    · rw [decide_eq_false h1] at hv
      have Hv := Lib.hid hv
      have Hu := Lib.hid hu
      have Hi := Lib.hid hi
      have Hj := Lib.hid hj
      have Hin := Lib.hid hin
      clear hv hu hi hj hin hx hy hn hm key hok h1 Hres
      go_enter Try.func24, Try.ntmps24
      go_wp2_with fail
      refine (Hv.out _ Hx.out).mono ?_
      rintro e w1 ⟨rfl, hn1⟩
      go_wp2
      go_ret2
      exact ⟨_, 0, rfl, OwnI.empty w1 w.heap.size 3 (Nx.size hn1), Nx.alloc hn1 _⟩
end Go.Proofs.Ytbceoigmcomlbaa
