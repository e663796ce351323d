/- Contracts in short form (CutEdge, GraphSame, GraphValid) and the plain law on the first and the last edge. -/
import Derived.Test.YticjoichmcegnaaC4
import Derived.Test.YticjoichmcegnaaD5g
import Derived.Test.YticjoichmcegnaaG5
namespace Go.Proofs.Yticjoichmcegnaa
open Go.RowKit set_option linter.unusedVariables false set_option linter.unusedSimpArgs false

theorem iCut_to (n : Int) (A : Option Addr) (c : Nat) (es zs : List (Int × Int)) (u v : Int) (h : HasB n es u v) (h2 : outE es (u, v) = zs) (w : World) (hx : EdgesAt w A es) (hl : es.length ≤ 1048576) :
    Calls Try.prog 18 #[.agg #[V n, .slice A es.length c], Ed u v] w (RetGB 31 n zs true w) := by
  have h1 := iCutEdge_c n A c es u v w hx hl
  rwa [show cutN n es (u, v) = n from if_pos h, show cutL n es (u, v) = outE es (u, v) from if_pos h, show decide (HasB n es u v) = true by simpa using h, h2] at h1
theorem same_yes (n : Int) (A A' : Option Addr) (c c' : Nat) (xs : List (Int × Int)) (w : World) (hx : EdgesAt w A xs) (hy : EdgesAt w A' xs) (hl : xs.length ≤ 1048576) :
    Calls Try.prog 19 #[.agg #[V n, .slice A xs.length c], .agg #[V n, .slice A' xs.length c']] w (RetV (.bool true) w) := by
  have h1 := iGraphSame_c n n A A' c c' xs xs w hx hy hl hl
  rwa [show decide (n = n ∧ xs = xs) = true by simp] at h1
theorem iVal_to (n : Int) (A : Option Addr) (c : Nat) (es : List (Int × Int)) (b : Bool) (h : decide (Valid n es) = b) (w : World) (hx : EdgesAt w A es) (hl : es.length ≤ 1048576) :
    Calls Try.prog 16 #[.agg #[V n, .slice A es.length c]] w (RetV (.bool b) w) := h ▸ iGraphValid_c n A c es w hx (by omega)
theorem sVal_to (n : Int) (A : Option Addr) (c : Nat) (es : List (Int × Int)) (b : Bool) (h : decide (Valid n es) = b) (w : World) (hx : EdgesAt w A es) (hl : es.length ≤ 1048576) :
    Calls Try.prog 17 #[.agg #[V n, .slice A es.length c]] w (RetV (.bool b) w) := h ▸ sGraphValid_c n A c es w hx (by omega)

theorem Valid.srt {n : Int} {es : Es} (h : Valid n es) : ∀ (i j : Nat) (a b : Int × Int), i < j → es[i]? = some a → es[j]? = some b → ltE a b := by
  intro i j
  induction j with
  | zero => intro a b hij; omega
  | succ j ih =>
    intro a b hij ha hb
    have hj : j + 1 < es.length := (List.getElem?_eq_some_iff.1 hb).1
    have hd : es[j]? = some es[j] := List.getElem?_eq_getElem (by omega)
    have h1 := (h.2.2.2 (j + 1) hj b hb).2.2.2 es[j] (by omega) (by simp)
    rcases Nat.lt_succ_iff_lt_or_eq.1 hij with h2 | rfl
    · exact ltE_tr (ih a es[j] h2 ha hd) h1
    · rw [hd] at ha; injection ha with ha; subst ha; exact h1
theorem Valid.prw {n : Int} {es : Es} (h : Valid n es) : es.Pairwise ltE := List.pairwise_iff_getElem.2 fun i j hi hj hij => h.srt i j _ _ hij (List.getElem?_eq_getElem hi) (List.getElem?_eq_getElem hj)
theorem Valid.pr {n : Int} {es : List (Int × Int)} (h : Valid n es) {e : Int × Int} (he : e ∈ es) : 0 ≤ e.1 ∧ e.1 < e.2 ∧ e.2 < n := by
  obtain ⟨j, hj, rfl⟩ := List.getElem_of_mem he
  have := h.2.2.2 j hj es[j] (List.getElem?_eq_getElem hj)
  exact ⟨this.1, this.2.1, this.2.2.1⟩
theorem Valid.part {n : Int} {es xs : Es} (h : Valid n es) (hs : xs.Sublist es) : Valid n xs := by
  have hg : Good n xs := ⟨fun y hy => h.pr (hs.subset hy), h.prw.sublist hs⟩
  have := hs.length_le
  exact hg.valid h.1 h.2.1 (by have := h.2.2.1; omega)
theorem Valid.nodupE {n : Int} {es : Es} (h : Valid n es) : es.Nodup := h.prw.imp fun {a b} hab e => by subst e; unfold ltE at hab; omega
theorem out_first {n : Int} {e : Int × Int} {t : Es} (h : Valid n (e :: t)) : outE (e :: t) e = t := by
  have hn := (List.nodup_cons.1 h.nodupE).1
  unfold outE
  rw [List.filter_cons_of_neg (by simp)]
  exact List.filter_eq_self.2 fun y hy => by
    have : y ≠ e := fun h2 => hn (h2 ▸ hy)
    simpa using this
theorem out_last {n : Int} {e : Int × Int} {t : Es} (h : Valid n (t ++ [e])) : outE (t ++ [e]) e = t := by
  have hn : e ∉ t := fun hm => (List.nodup_append.1 h.nodupE).2.2 e hm e (by simp) rfl
  unfold outE
  rw [List.filter_append, List.filter_cons_of_neg (by simp)]
  simp only [List.filter_nil, List.append_nil]
  exact List.filter_eq_self.2 fun y hy => by
    have : y ≠ e := fun h2 => hn (h2 ▸ hy)
    simpa using this
theorem EdgesAt.tail {w : World} {b off : Nat} {e : Int × Int} {t : Es} (h : EdgesAt w (some ⟨b, off, none⟩) (e :: t)) : EdgesAt w (some ⟨b, off + 2, none⟩) t := fun h0 => by
  obtain ⟨b', off', e1, hb, hc⟩ := h (by simp)
  injection e1 with e1; injection e1 with e1 e2 e3
  subst e1 e2
  refine ⟨b, off + 2, rfl, hb, fun k hk => ?_⟩
  have := hc (k + 1) (by simp; omega)
  simp only [List.getElem_cons_succ] at this
  rw [show off + (k + 1) * 2 = off + 2 + k * 2 by omega] at this
  exact this
theorem EdgesAt.init {w : World} {A : Option Addr} {e : Int × Int} {t : Es} (h : EdgesAt w A (t ++ [e])) : EdgesAt w A t := fun h0 => by
  obtain ⟨b', off', e1, hb, hc⟩ := h (by simp)
  refine ⟨b', off', e1, hb, fun k hk => ?_⟩
  have := hc k (by simp; omega)
  rwa [List.getElem_append_left hk] at this
/-- all that FnGraphParts asks of a valid graph with edges -/
theorem parts_of {n : Int} {es : Es} (h : Valid n es) (hne : 0 < es.length) : ∃ (m : Nat) (u v x y : Int) (T I : Es), es.length = m + 1 ∧ es[0]? = some (u, v) ∧ es[m]? = some (x, y) ∧ T.length = m ∧ I.length = m ∧ Valid n T ∧ Valid n I ∧ HasB n es u v ∧ HasB n es x y ∧ outE es (u, v) = T ∧ outE es (x, y) = I ∧
    (∀ w b off, EdgesAt w (some ⟨b, off, none⟩) es → EdgesAt w (some ⟨b, off + 2, none⟩) T) ∧ (∀ w A, EdgesAt w A es → EdgesAt w A I) := by
  obtain ⟨⟨u, v⟩, t, rfl⟩ := List.exists_cons_of_length_pos hne
  have hnn : ((u, v) :: t) ≠ [] := by simp
  have he := (List.dropLast_concat_getLast hnn).symm
  generalize ((u, v) :: t).dropLast = I at he
  generalize ((u, v) :: t).getLast hnn = l at he
  obtain ⟨x, y⟩ := l
  have hlen : t.length + 1 = I.length + 1 := by have := congrArg List.length he; simpa using this
  refine ⟨t.length, u, v, x, y, t, I, by simp, by simp, ?_, rfl, by omega, h.part (List.sublist_cons_self _ _), ?_, ⟨h, by simp⟩, ⟨h, by rw [he]; simp⟩, out_first h, ?_, fun w b off hx => hx.tail, fun w A hx => ?_⟩
  · rw [he, show t.length = I.length by omega]; simp
  · rw [he] at h; exact h.part (List.sublist_append_left _ _)
  · rw [he] at h ⊢; exact out_last h
  · rw [he] at hx; exact hx.init
end Go.Proofs.Yticjoichmcegnaa
