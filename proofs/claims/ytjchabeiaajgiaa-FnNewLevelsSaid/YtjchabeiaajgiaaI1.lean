/- copy over rows of edges; the contract of slices.BinarySearchFunc over edges in order. -/
import Derived.Test.YtjchabeiaajgiaaC2
import Derived.Test.YtjchabeiaajgiaaG1
import Derived.Deep.RegionHeld3
import Derived.Shelf.Abstract
namespace Go.Proofs.Ytjchabeiaajgiaa
open Go.RowKit

theorem edgesOne' {w : World} {b : Nat} {x y : Int} (hb : b < w.heap.size) (h0 : w.cell? ⟨b, 0, none⟩ = some (V x)) (h1 : w.cell? ⟨b, 1, none⟩ = some (V y)) : EdgesAt w (some ⟨b, 0, none⟩) [(x, y)] := fun _ =>
  ⟨b, 0, rfl, hb, fun k hk => by
    obtain rfl : k = 0 := by simp at hk; omega
    exact ⟨by simpa using h0, by simpa using h1⟩⟩

section
variable {P : Program} {w : World} {T t tt : TypeId} {i : TypeInfo}
theorem run_copyE (ht : P.underlying T = some (.slice t)) (hi : P.info? t = some i) (hsize : i.size = 2) {g o dLen : Nat} {CS : List Value} (hb : Bx w g tt CS) (a : Addr) (sLen : Nat) (es : List (Int × Int)) (hn : es.length = Nat.min sLen dLen)
    (hsrc : ∀ j v, (cellsE es)[j]? = some v → w.cell? (a.add j) = some v) (hfit : o + es.length * 2 ≤ CS.length) :
    ∃ w', (∀ ty dc sc, (Builtin.copy_ #[T, T] ty #[.slice (some ⟨g, o, none⟩) dLen dc, .slice (some a) sLen sc]).run P w = .ok (goInt es.length) w') ∧ Bx w' g tt (CS.take o ++ cellsE es ++ CS.drop (o + es.length * 2)) ∧ w.grownBy w' (some g) := by
  have hl := run_loadCells_list (P := P) w a (cellsE es) hsrc
  have hst := run_storeCells_at P g o tt (cellsE es) 0 CS.toArray w hb (by simpa [cellsE_length] using hfit) (cellsE_ones es)
  refine ⟨w.setRow g (CS.take o ++ cellsE es ++ CS.drop (o + es.length * 2)).toArray, fun ty dc sc => ?_, ?_, ⟨rfl, rfl, rfl, by simp, fun k _ hk => setRow_other w g k _ (fun e => hk (by rw [e]))⟩⟩
  · rw [cellsE_length] at hl
    simp only [Nat.add_zero, cellsE_length] at hst
    simp [Builtin.copy_, run_underlying ht, Builtin.lenOf, Builtin.firstCells, sizeOf, typeInfo, hi, hsize, ← hn, hl, hst]
  · unfold Bx
    rw [setRow_heap w g _ _ tt _ hb]
end

/-- where an edge belongs: behind all that are less -/
def locE (es : Es) (e : Int × Int) : Nat := es.findIdx fun x => !decide (ltE x e)
theorem locE_le (es : Es) (e : Int × Int) : locE es e ≤ es.length := List.findIdx_le_length
theorem locE_eq {es : Es} {e : Int × Int} {k : Nat} (hk : k ≤ es.length) (h1 : ∀ j d, j < k → es[j]? = some d → ltE d e) (h2 : ∀ d, es[k]? = some d → ¬ ltE d e) : locE es e = k := by
  unfold locE
  by_cases hl : k < es.length
  · refine (List.findIdx_eq hl).2 ⟨?_, fun j hj => ?_⟩
    · simpa using h2 _ (List.getElem?_eq_getElem hl)
    · simpa using h1 j _ hj (List.getElem?_eq_getElem (by omega))
  · obtain rfl : k = es.length := by omega
    refine List.findIdx_eq_length.2 fun x hx => ?_
    obtain ⟨j, hj, rfl⟩ := List.getElem_of_mem hx
    simpa using h1 j _ hj (List.getElem?_eq_getElem hj)

/-- the call returns the place and whether it is there -/
def RetLoc (n : Nat) (w : World) (e : Ending) (w' : World) : Prop := ∃ b, e = .returned (.tuple #[V n, .bool b]) ∧ Nx w w'
theorem RetLoc.mk {n m : Nat} {b : Bool} {w w' : World} (h : m = n) (hn : Nx w w') : RetLoc m w (.returned (.tuple #[V n, .bool b])) w' := ⟨b, by rw [h], hn⟩

theorem ltE_trans {a b c : Int × Int} (h : ltE a b) (k : ltE b c) : ltE a c := by unfold ltE at *; omega

set_option maxRecDepth 100000 in
set_option maxHeartbeats 4000000 in
theorem bsearchE_c (A : Option Addr) (c : Nat) (es : List (Int × Int)) (u v : Int) (w : World) (hx : EdgesAt w A es) (hl : es.length ≤ 1048576) (hs : ∀ (i j : Nat) (a b : Int × Int), i < j → es[i]? = some a → es[j]? = some b → ltE a b) :
    Calls Try.prog 101 #[.slice A es.length c, Ed u v, .func (.func 80) #[] #[]] w (RetLoc (locE es (u, v)) w) := by
  have eg := enters_of Try.func80 (by rfl) rfl
  have Hs := Lib.hid hs
  clear hs
  go_enter Try.func101, Try.ntmps101
  go_wp2
  generalize hW1 : World.alloc _ _ = W1
  have gW1 : Nx w W1 := by subst hW1; exact (by repeat (first | exact Nx.refl _ | assumption | apply Nx.alloc | apply Nx.drew | apply Nx.drewN | (refine Nx.setCell ?_ (by first | (simp; done) | (simp; omega) | omega) _) | refine Nx.trans ?_ (by assumption)))
  have sW1 : W1.heap.size = w.heap.size + 1 := by subst hW1; simp
  have X0 : Bx W1 (w.heap.size) 36 [V u, V v] := by subst hW1; have h := Bx.alloc w 36 [V u, V v]; simpa using h
  have X0_0 := X0.cell (j := 0) rfl
  have X0_1 := X0.cell (j := 1) rfl
  have X0_z := X0.lt
  have HsW1 := Lib.hid sW1
  have lW1 : w.heap.size + 1 ≤ W1.heap.size := by omega
  clear hW1 sW1
  go_loopg [9, 10] (es.length + 1) (fun gk si sj wr => ∃ (i j : Nat), si = .int .i64 i ∧ sj = .int .i64 j ∧ i ≤ j ∧ j ≤ es.length ∧ j - i < gk ∧ Nx W1 wr ∧ (∀ k d, k < i → es[k]? = some d → ltE d (u, v)) ∧ (∀ d, es[j]? = some d → ¬ ltE d (u, v)))
  case atStart => exact ⟨0, es.length, rfl, rfl, by omega, by omega, by omega, Nx.refl _, fun k d hk => by omega, fun d hd => by simp at hd⟩
  case round =>
    obtain ⟨i, j, rfl, rfl, hij, hjl, hgk, hn, h1, h2⟩ := hrel
    replace X0 := X0.nx hn
    replace X0_0 := X0.cell (j := 0) rfl
    replace X0_1 := X0.cell (j := 1) rfl
    replace X0_z := X0.lt
    have H1 := Lib.hid h1
    have H2 := Lib.hid h2
    clear h1 h2
    by_cases hlt : i < j
    · obtain ⟨m, hm0⟩ : ∃ m : Nat, m = (i + j) / 2 := ⟨_, rfl⟩
      have hmi : i ≤ m := by omega
      have hmj : m < j := by omega
      have hm : m < es.length := by omega
      have hmz : ((i : Int) + (j : Int)) / 2 = (m : Int) := by omega
      have Hmz := Lib.hid hmz
      clear hm0 hmz
      obtain ⟨b, off, rfl, hbl, hc⟩ := hx (by omega)
      have c1 := (gW1.trans hn).cell (p := ⟨b, off + m * 2, none⟩) hbl (hc _ hm).1
      have c2 := (gW1.trans hn).cell (p := ⟨b, off + m * 2 + 1, none⟩) hbl (hc _ hm).2
      have hek : es[m]? = some es[m] := List.getElem?_eq_getElem hm
      have hbz : b < wr.heap.size := by have := gW1.size; have := hn.size; omega
      clear hc hx
      generalize es[m] = e at *
      obtain ⟨x, y⟩ := e
      have Hek := Lib.hid hek
      clear hek
      go_wp2_with fail
      rw [Hmz.out]
      (refine tail_quiet 6 (by kernel_rfl) (by kernel_rfl) (fun W2 gW2 => ?_); obtain ⟨hcW2, hfW2, hzW2⟩ := gW2.rules; simp only [List.take_succ_cons, List.take_zero, List.drop_succ_cons, List.drop_zero]; (repeat go_big_quiet_step (fail)); with_reducible refine wpQuiet_nil ?_)
      go_wp2_with fail
      refine (compareEdges_c x y u v _).mono ?_
      rintro e w3 ⟨rfl, hn3⟩
      have hn13 : Nx W1 w3 := (hn.trans gW2).trans hn3
      by_cases hlt2 : ltE (x, y) (u, v)
      · have t6 : decide (cmpE (x, y) (u, v) < 0) = true := by simpa using (cmpE_lt (x, y) (u, v)).2 hlt2
        have Hlt := Lib.hid hlt2
        clear hlt2
        go_wp2
        go_roundg (gk - 1)
        case measure => omega
        case rel => exact ⟨m + 1, j, by go_num, rfl, by omega, by omega, by omega, hn13, fun k d hk hd => by rcases Nat.lt_succ_iff_lt_or_eq.1 hk with h | rfl; exact ltE_trans (Hs.out k m d (x, y) h hd Hek.out) Hlt.out; rw [Hek.out] at hd; injection hd with hd; subst hd; exact Hlt.out, H2.out⟩
      · have t6 : decide (cmpE (x, y) (u, v) < 0) = false := by have := mt (cmpE_lt (x, y) (u, v)).1 hlt2; simp; omega
        have Hlt := Lib.hid hlt2
        clear hlt2
        go_wp2
        go_roundg (gk - 1)
        case measure => omega
        case rel => exact ⟨i, m, rfl, rfl, by omega, by omega, by omega, hn13, H1.out, fun d hd => by rw [Hek.out] at hd; injection hd with hd; subst hd; exact Hlt.out⟩
    · obtain rfl : i = j := by omega
      have hloc : locE es (u, v) = i := locE_eq hjl (fun k d hk hd => H1.out k d hk hd) H2.out
      have Hloc := Lib.hid hloc
      clear hloc
      by_cases hie : i < es.length
      · obtain ⟨b, off, rfl, hbl, hc⟩ := hx (by omega)
        have c1 := (gW1.trans hn).cell (p := ⟨b, off + i * 2, none⟩) hbl (hc _ hie).1
        have c2 := (gW1.trans hn).cell (p := ⟨b, off + i * 2 + 1, none⟩) hbl (hc _ hie).2
        have hbz : b < wr.heap.size := by have := gW1.size; have := hn.size; omega
        clear hc hx
        generalize es[i] = e at *
        obtain ⟨x, y⟩ := e
        go_wp2_with fail
        have kp : ∀ w', Nx wr w' → Nx wr w' ∧ w'.cell? ⟨b, off + i * 2, none⟩ = some (V x) ∧ w'.cell? ⟨b, off + i * 2 + 1, none⟩ = some (V y) ∧ w'.cell? ⟨w.heap.size, 0, none⟩ = some (V u) ∧ w'.cell? ⟨w.heap.size, 1, none⟩ = some (V v) := fun w' h => ⟨h, h.cell hbz c1, h.cell hbz c2, h.cell X0_z X0_0, h.cell X0_z X0_1⟩
        go_region_held3 (fun w_ => Nx wr w_ ∧ w_.cell? ⟨b, off + i * 2, none⟩ = some (V x) ∧ w_.cell? ⟨b, off + i * 2 + 1, none⟩ = some (V y) ∧ w_.cell? ⟨w.heap.size, 0, none⟩ = some (V u) ∧ w_.cell? ⟨w.heap.size, 1, none⟩ = some (V v))
          (first | exact kp _ (.drew (.refl _)) | exact kp _ hn13)
          (first
            | (go_at_call 80; (with_reducible refine (compareEdges_c x y u v _).mono ?_); rintro e w3 ⟨rfl, hn3⟩; have hn13 : Nx wr w3 := (Nx.drew (Nx.refl _)).trans hn3))
        go_wp2
        go_ret2
        exact RetLoc.mk Hloc.out ((gW1.trans hn).trans hn13)
      · go_wp2_with fail
        go_quiet (fail)
        go_wp2
        go_ret2
        exact RetLoc.mk Hloc.out (by repeat (first | exact Nx.refl _ | assumption | apply Nx.alloc | apply Nx.drew | apply Nx.drewN | (refine Nx.setCell ?_ (by first | (simp; done) | (simp; omega) | omega) _) | refine Nx.trans ?_ (by assumption)))
end Go.Proofs.Ytjchabeiaajgiaa
