/- FnPutCut, FnCutPut: the plain laws and the walks. -/
import Derived.Test.YtmagbdcmanchmaaI4
import Derived.Test.YtmagbdcmanchmaaD6
import Derived.Test.YtmagbdcmanchmaaG5
namespace Go.Proofs.Ytmagbdcmanchmaa
open Go.RowKit

theorem outE_self {es : Es} {e : Int × Int} (h : e ∉ es) : outE es e = es := by
  unfold outE
  exact List.filter_eq_self.2 fun y hy => by
    have : y ≠ e := fun h2 => h (h2 ▸ hy)
    simpa using this
theorem outE_cons_ne {es : Es} {e x : Int × Int} (h : x ≠ e) : outE (x :: es) e = x :: outE es e := by
  unfold outE
  rw [List.filter_cons_of_pos (by simpa using h)]
theorem outE_cons_eq {es : Es} {e : Int × Int} : outE (e :: es) e = outE es e := by
  unfold outE
  rw [List.filter_cons_of_neg (by simp)]
theorem outE_put : ∀ (es : Es) (e : Int × Int), e ∉ es → outE (putL es e) e = es
  | [], e, _ => by simp [putL, outE]
  | x :: xs, e, h => by
    have hx : x ≠ e := fun h2 => h (by simp [h2])
    have hxs : e ∉ xs := fun h2 => h (by simp [h2])
    unfold putL
    split
    · rw [outE_cons_eq, outE_self h]
    · rw [outE_cons_ne hx, outE_put xs e hxs]
/-- a sorted row -/
def SrtE (es : Es) : Prop := ∀ (i j : Nat) (a b : Int × Int), i < j → es[i]? = some a → es[j]? = some b → ltE a b
theorem SrtE.tail {x : Int × Int} {xs : Es} (h : SrtE (x :: xs)) : SrtE xs := fun i j a b hij ha hb => h (i + 1) (j + 1) a b (by omega) (by simpa using ha) (by simpa using hb)
theorem SrtE.head {x : Int × Int} {xs : Es} (h : SrtE (x :: xs)) : ∀ y ∈ xs, ltE x y := fun y hy => by
  obtain ⟨k, hk⟩ := List.mem_iff_getElem?.1 hy
  exact h 0 (k + 1) x y (by omega) (by simp) (by simpa using hk)
theorem ltE_irrefl {a : Int × Int} : ¬ ltE a a := by unfold ltE; omega
theorem put_outE : ∀ (es : Es) (e : Int × Int), SrtE es → e ∈ es → putL (outE es e) e = es
  | [], e, _, h => by simp at h
  | x :: xs, e, hs, h => by
    by_cases hx : x = e
    · subst hx
      have hn : x ∉ xs := fun h2 => ltE_irrefl (hs.head x h2)
      rw [outE_cons_eq, outE_self hn]
      cases xs with
      | nil => simp [putL]
      | cons y ys => unfold putL; rw [if_pos (hs.head y (by simp))]
    · have hm : e ∈ xs := by rcases List.mem_cons.1 h with h2 | h2; exact absurd h2.symm hx; exact h2
      rw [outE_cons_ne hx]
      unfold putL
      rw [if_neg (ltE_asymm (hs.head e hm)), put_outE xs e hs.tail hm]
theorem outE_not_mem {es : Es} {e : Int × Int} : e ∉ outE es e := fun h => by
  have := (List.mem_filter.1 h).2
  simp at this

theorem iPut_yes (n : Int) (A : Option Addr) (c : Nat) (es : List (Int × Int)) (u v : Int) (h : PutP n es (u, v)) (w : World) (hx : EdgesAt w A es) (hl : es.length ≤ 1048576) :
    Calls Try.prog 47 #[.agg #[V n, .slice A es.length c], Ed u v] w (RetGB 40 n (putL es (u, v)) true w) := by
  have h1 := iPutEdge_c n A c es u v w hx hl
  rwa [(put_yes h).1, (put_yes h).2.1, (put_yes h).2.2] at h1
theorem iPut_no (n : Int) (A : Option Addr) (c : Nat) (es : List (Int × Int)) (u v : Int) (h : ¬ PutP n es (u, v)) (w : World) (hx : EdgesAt w A es) (hl : es.length ≤ 1048576) :
    Calls Try.prog 47 #[.agg #[V n, .slice A es.length c], Ed u v] w (RetGB 40 0 [] false w) := by
  have h1 := iPutEdge_c n A c es u v w hx hl
  rwa [(put_no h).1, (put_no h).2.1, (put_no h).2.2] at h1
theorem sPut_yes (n : Int) (A : Option Addr) (c : Nat) (es : List (Int × Int)) (u v : Int) (h : PutP n es (u, v)) (w : World) (hx : EdgesAt w A es) (hl : es.length ≤ 1048576) :
    Calls Try.prog 48 #[.agg #[V n, .slice A es.length c], Ed u v] w (RetGB 40 n (putL es (u, v)) true w) := by
  have h1 := sPutEdge_c n A c es u v w hx hl
  rwa [(put_yes h).1, (put_yes h).2.1, (put_yes h).2.2] at h1
theorem sPut_no (n : Int) (A : Option Addr) (c : Nat) (es : List (Int × Int)) (u v : Int) (h : ¬ PutP n es (u, v)) (w : World) (hx : EdgesAt w A es) (hl : es.length ≤ 1048576) :
    Calls Try.prog 48 #[.agg #[V n, .slice A es.length c], Ed u v] w (RetGB 40 0 [] false w) := by
  have h1 := sPutEdge_c n A c es u v w hx hl
  rwa [(put_no h).1, (put_no h).2.1, (put_no h).2.2] at h1
theorem iCut_yes (n : Int) (A : Option Addr) (c : Nat) (es : List (Int × Int)) (u v : Int) (h : HasB n es u v) (w : World) (hx : EdgesAt w A es) (hl : es.length ≤ 1048576) :
    Calls Try.prog 26 #[.agg #[V n, .slice A es.length c], Ed u v] w (RetGB 40 n (outE es (u, v)) true w) := by
  have h1 := iCutEdge_c n A c es u v w hx hl
  rwa [show cutN n es (u, v) = n from if_pos h, show cutL n es (u, v) = outE es (u, v) from if_pos h, show decide (HasB n es u v) = true by simpa using h] at h1
theorem iCut_no (n : Int) (A : Option Addr) (c : Nat) (es : List (Int × Int)) (u v : Int) (h : ¬ HasB n es u v) (w : World) (hx : EdgesAt w A es) (hl : es.length ≤ 1048576) :
    Calls Try.prog 26 #[.agg #[V n, .slice A es.length c], Ed u v] w (RetGB 40 0 [] false w) := by
  have h1 := iCutEdge_c n A c es u v w hx hl
  rwa [show cutN n es (u, v) = 0 from if_neg h, show cutL n es (u, v) = [] from if_neg h, show decide (HasB n es u v) = false by simpa using h] at h1
theorem sCut_yes (n : Int) (A : Option Addr) (c : Nat) (es : List (Int × Int)) (u v : Int) (h : HasB n es u v) (w : World) (hx : EdgesAt w A es) (hl : es.length ≤ 1048576) :
    Calls Try.prog 24 #[.agg #[V n, .slice A es.length c], Ed u v] w (RetGB 40 n (outE es (u, v)) true w) := by
  have h1 := sCutEdge_c n A c es u v w hx hl
  rwa [show cutN n es (u, v) = n from if_pos h, show cutL n es (u, v) = outE es (u, v) from if_pos h, show decide (HasB n es u v) = true by simpa using h] at h1
theorem sCut_no (n : Int) (A : Option Addr) (c : Nat) (es : List (Int × Int)) (u v : Int) (h : ¬ HasB n es u v) (w : World) (hx : EdgesAt w A es) (hl : es.length ≤ 1048576) :
    Calls Try.prog 24 #[.agg #[V n, .slice A es.length c], Ed u v] w (RetGB 40 0 [] false w) := by
  have h1 := sCutEdge_c n A c es u v w hx hl
  rwa [show cutN n es (u, v) = 0 from if_neg h, show cutL n es (u, v) = [] from if_neg h, show decide (HasB n es u v) = false by simpa using h] at h1
theorem iCut_to (n : Int) (A : Option Addr) (c : Nat) (es zs : List (Int × Int)) (u v : Int) (h : HasB n es u v) (h2 : outE es (u, v) = zs) (w : World) (hx : EdgesAt w A es) (hl : es.length ≤ 1048576) :
    Calls Try.prog 26 #[.agg #[V n, .slice A es.length c], Ed u v] w (RetGB 40 n zs true w) := h2 ▸ iCut_yes n A c es u v h w hx hl
theorem iPut_to (n : Int) (A : Option Addr) (c : Nat) (es zs : List (Int × Int)) (u v : Int) (h : PutP n es (u, v)) (h2 : putL es (u, v) = zs) (w : World) (hx : EdgesAt w A es) (hl : es.length ≤ 1048576) :
    Calls Try.prog 47 #[.agg #[V n, .slice A es.length c], Ed u v] w (RetGB 40 n zs true w) := h2 ▸ iPut_yes n A c es u v h w hx hl
theorem same_yes (n : Int) (A A' : Option Addr) (c c' : Nat) (xs : List (Int × Int)) (w : World) (hx : EdgesAt w A xs) (hy : EdgesAt w A' xs) (hl : xs.length ≤ 1048576) :
    Calls Try.prog 33 #[.agg #[V n, .slice A xs.length c], .agg #[V n, .slice A' xs.length c']] w (RetV (.bool true) w) := by
  have h1 := iGraphSame_c n n A A' c c' xs xs w hx hy hl hl
  rwa [show decide (n = n ∧ xs = xs) = true by simp] at h1
theorem valid_yes (n : Int) (A : Option Addr) (c : Nat) (es : List (Int × Int)) (h : Valid n es) (w : World) (hx : EdgesAt w A es) (hl : es.length ≤ 1048576) :
    Calls Try.prog 44 #[.agg #[V n, .slice A es.length c]] w (RetV (.bool true) w) := by
  have h1 := iGraphValid_c n A c es w hx (by omega)
  rwa [show decide (Valid n es) = true by simpa using h] at h1
theorem iHas_to (n : Int) (A : Option Addr) (c : Nat) (es : List (Int × Int)) (x y : Int) (b : Bool) (h : decide (HasB n es x y) = b) (w : World) (hx : EdgesAt w A es) (hl : es.length ≤ 1048576) :
    Calls Try.prog 49 #[.agg #[V n, .slice A es.length c], Ed x y] w (RetV (.bool b) w) := h ▸ iHasEdge_c n A c es x y w hx hl
theorem sHas_to (n : Int) (A : Option Addr) (c : Nat) (es : List (Int × Int)) (x y : Int) (b : Bool) (h : decide (HasB n es x y) = b) (w : World) (hx : EdgesAt w A es) (hl : es.length ≤ 1048576) :
    Calls Try.prog 50 #[.agg #[V n, .slice A es.length c], Ed x y] w (RetV (.bool b) w) := h ▸ sHasEdge_c n A c es x y w hx hl

end Go.Proofs.Ytmagbdcmanchmaa
