/- Plain law: a search in depth, and what stands of it whatever the graph. No program in sight. -/
import Derived.Test.YtjchabeiaajgiaaNL
namespace Go.Proofs.Ytjchabeiaajgiaa
set_option linter.unusedVariables false set_option linter.unusedSimpArgs false

/-- numbers, parents, low points, and how many nodes are found -/
structure DS where
  N : List Int
  P : List Int
  L : List Int
  c : Int
def DS.enter (s : DS) (x p : Int) : DS := ⟨up s.N x (s.c + 1), up s.P x p, up s.L x (s.c + 1), s.c + 1⟩
def DS.low (s : DS) (x v : Int) : DS := ⟨s.N, s.P, up s.L x (min (lk s.L x) v), s.c⟩
/-- the turn of a neighbour -/
def dStep (rec : Int → Int → DS → DS) (x p : Int) (s : DS) (y : Int) : DS :=
  if y = p then s else if lk s.N y = 0 then (rec y x s).low x (lk (rec y x s).L y) else s.low x (lk s.N y)
/-- the search from x, that was found from p -/
def dfs (n : Nat) (E : Es) : Nat → Int → Int → DS → DS
  | 0, _, _, s => s
  | f + 1, x, p, s => (nextL n E x).foldl (dStep (dfs n E f) x p) (s.enter x p)
/-- behind the first k neighbours -/
def dfsK (n : Nat) (E : Es) (f : Nat) (x p : Int) (s : DS) (k : Nat) : DS := ((nextL n E x).take k).foldl (dStep (dfs n E f) x p) (s.enter x p)
theorem dfsK_zero (n : Nat) (E : Es) (f : Nat) (x p : Int) (s : DS) : dfsK n E f x p s 0 = s.enter x p := by simp [dfsK]
theorem dfsK_all (n : Nat) (E : Es) (f : Nat) (x p : Int) (s : DS) {k : Nat} (h : (nextL n E x).length ≤ k) : dfsK n E f x p s k = dfs n E (f + 1) x p s := by
  unfold dfsK
  rw [List.take_of_length_le h]
  rfl
theorem dfsK_succ {n : Nat} {E : Es} {f : Nat} {x p : Int} {s : DS} {k : Nat} {y : Int} (h : (nextL n E x)[k]? = some y) : dfsK n E f x p s (k + 1) = dStep (dfs n E f) x p (dfsK n E f x p s k) y := by
  obtain ⟨h1, h2⟩ := List.getElem?_eq_some_iff.1 h
  unfold dfsK
  rw [List.take_succ_eq_append_getElem h1, h2, List.foldl_append]
  rfl

/-- how many nodes are not found -/
def zeros (N : List Int) : Nat := N.count 0
theorem zeros_set : ∀ (N : List Int) (i : Nat) (v : Int), v ≠ 0 → N[i]? = some 0 → zeros (N.set i v) + 1 = zeros N
  | [], _, _, _, h => by simp at h
  | a :: N, 0, v, hv, h => by
    simp at h
    subst h
    simp [zeros, hv]
  | a :: N, i + 1, v, hv, h => by
    have := zeros_set N i v hv (by simpa using h)
    simp [zeros, List.count_cons] at this ⊢
    omega
theorem lk_some {N : List Int} {x : Int} (h0 : 0 ≤ x) (h1 : x < N.length) : N[x.toNat]? = some (lk N x) := by
  unfold lk
  rw [List.getElem?_eq_getElem (by omega)]; rfl
theorem zeros_up {N : List Int} {x v : Int} (hv : v ≠ 0) (h0 : 0 ≤ x) (h1 : x < N.length) (hz : lk N x = 0) : zeros (up N x v) + 1 = zeros N :=
  zeros_set N _ v hv (by rw [lk_some h0 h1, hz])
theorem zeros_none {N : List Int} (h : zeros N = 0) {x : Int} (h0 : 0 ≤ x) (h1 : x < N.length) : lk N x ≠ 0 := fun e => by
  have := lk_some h0 h1
  rw [e] at this
  have hm : (0 : Int) ∈ N := List.mem_of_getElem? this
  have := List.count_pos_iff.2 hm
  unfold zeros at h
  omega

structure DOk (n : Nat) (s : DS) : Prop where
  ln : s.N.length = n
  lp : s.P.length = n
  ll : s.L.length = n
  c0 : 0 ≤ s.c
  cz : s.c + zeros s.N = n
  pos : ∀ x : Int, 0 ≤ x → x < n → lk s.N x = 0 ∨ 1 ≤ lk s.N x
/-- what was found stays as it was, the low point of x apart -/
def Ext (n : Nat) (x : Int) (s t : DS) : Prop :=
  DOk n t ∧ s.c ≤ t.c ∧ ∀ y : Int, 0 ≤ y → y < n → lk s.N y ≠ 0 → lk t.N y = lk s.N y ∧ lk t.P y = lk s.P y ∧ (y ≠ x → lk t.L y = lk s.L y)
theorem Ext.refl {n : Nat} {x : Int} {s : DS} (h : DOk n s) : Ext n x s s := ⟨h, Int.le_refl _, fun _ _ _ _ => ⟨rfl, rfl, fun _ => rfl⟩⟩
theorem Ext.trans {n : Nat} {x : Int} {s t u : DS} (h : Ext n x s t) (k : Ext n x t u) : Ext n x s u :=
  ⟨k.1, Int.le_trans h.2.1 k.2.1, fun y h0 h1 hy => by
    obtain ⟨a, b, c⟩ := h.2.2 y h0 h1 hy
    obtain ⟨a', b', c'⟩ := k.2.2 y h0 h1 (by rw [a]; exact hy)
    exact ⟨a'.trans a, b'.trans b, fun e => (c' e).trans (c e)⟩⟩
theorem Ext.zeros {n : Nat} {x : Int} {s t : DS} (h : Ext n x s t) (hs : DOk n s) : zeros t.N ≤ zeros s.N := by
  have a := h.1.cz
  have b := hs.cz
  have c := h.2.1
  omega
theorem enter_ext {n : Nat} {x p : Int} {s : DS} (hs : DOk n s) (h0 : 0 ≤ x) (h1 : x < n) (hx : lk s.N x = 0) : Ext n x s (s.enter x p) ∧ Go.Proofs.Ytjchabeiaajgiaa.zeros (s.enter x p).N + 1 = Go.Proofs.Ytjchabeiaajgiaa.zeros s.N ∧ lk (s.enter x p).N x = s.c + 1 ∧ lk (s.enter x p).P x = p ∧ lk (s.enter x p).L x = s.c + 1 := by
  have hc := hs.c0
  have hz := zeros_up (N := s.N) (x := x) (v := s.c + 1) (by omega) h0 (by rw [hs.ln]; exact h1) hx
  have hcz := hs.cz
  refine ⟨⟨⟨by simp [DS.enter, up_length, hs.ln], by simp [DS.enter, up_length, hs.lp], by simp [DS.enter, up_length, hs.ll], by simp only [DS.enter]; omega, by simp only [DS.enter]; omega, fun y h2 h3 => ?_⟩, by simp only [DS.enter]; omega, fun y h2 h3 hy => ?_⟩, hz, ?_, ?_, ?_⟩
  · by_cases e : x = y
    · subst e
      right
      simp only [DS.enter]
      rw [lk_up_same h0 (by rw [hs.ln]; exact h1)]; omega
    · simp only [DS.enter]
      rw [lk_up_ne h0 h2 e]
      exact hs.pos y h2 h3
  · have e : x ≠ y := fun e => hy (e ▸ hx)
    simp only [DS.enter]
    rw [lk_up_ne h0 h2 e, lk_up_ne h0 h2 e, lk_up_ne h0 h2 e]
    exact ⟨rfl, rfl, fun _ => rfl⟩
  · exact lk_up_same h0 (by rw [hs.ln]; exact h1)
  · exact lk_up_same h0 (by rw [hs.lp]; exact h1)
  · exact lk_up_same h0 (by rw [hs.ll]; exact h1)
theorem low_ok {n : Nat} {x v : Int} {s : DS} (hs : DOk n s) : DOk n (s.low x v) :=
  ⟨hs.ln, hs.lp, by simp [DS.low, up_length, hs.ll], hs.c0, hs.cz, hs.pos⟩
theorem lk_low_ne {x y v : Int} {s : DS} (h0 : 0 ≤ x) (h2 : 0 ≤ y) (e : y ≠ x) : lk (s.low x v).L y = lk s.L y := lk_up_ne h0 h2 (Ne.symm e)
theorem lk_low {n : Nat} {x v : Int} {s : DS} (hs : DOk n s) (h0 : 0 ≤ x) (h1 : x < n) : lk (s.low x v).L x = min (lk s.L x) v := lk_up_same h0 (by rw [hs.ll]; exact h1)
theorem low_ext {n : Nat} {x v : Int} {s : DS} (hs : DOk n s) (h0 : 0 ≤ x) : Ext n x s (s.low x v) :=
  ⟨low_ok hs, Int.le_refl _, fun y h2 h3 hy => ⟨rfl, rfl, fun e => lk_low_ne h0 h2 e⟩⟩
/-- what a search of a node makes -/
def Went (n : Nat) (f : Nat) (rec : Int → Int → DS → DS) : Prop := ∀ (x p : Int) (s : DS), DOk n s → 0 ≤ x → x < n → lk s.N x = 0 → zeros s.N ≤ f →
  Ext n x s (rec x p s) ∧ lk (rec x p s).N x = s.c + 1 ∧ lk (rec x p s).P x = p
theorem step_ext {n f : Nat} {rec : Int → Int → DS → DS} (hr : Went n f rec) {x p y : Int} {s : DS} (hs : DOk n s) (h0 : 0 ≤ x) (h1 : x < n) (hy0 : 0 ≤ y) (hy1 : y < n) (hz : zeros s.N ≤ f) : Ext n x s (dStep rec x p s y) := by
  unfold dStep
  split
  · exact .refl hs
  · split
    · rename_i h3
      obtain ⟨a, b, c⟩ := hr y x s hs hy0 hy1 h3 hz
      refine Ext.trans (t := rec y x s) ⟨a.1, a.2.1, fun z hz0 hz1 hz => ?_⟩ (low_ext a.1 h0)
      obtain ⟨a1, a2, a3⟩ := a.2.2 z hz0 hz1 hz
      exact ⟨a1, a2, fun _ => a3 (fun e => hz (e ▸ h3))⟩
    · exact low_ext hs h0
theorem next_range {n : Nat} {E : Es} {x y : Int} {k : Nat} (h : (nextL n E x)[k]? = some y) : 0 ≤ y ∧ y < n := by
  have := mem_nextL.1 (List.mem_of_getElem? h)
  exact ⟨this.1, this.2.1⟩
theorem dfsK_ext {n f : Nat} {E : Es} (hr : Went n f (dfs n E f)) {x p : Int} {s : DS} (hs : DOk n s) (h0 : 0 ≤ x) (h1 : x < n) (hx : lk s.N x = 0) (hz : zeros s.N ≤ f + 1) : ∀ k, k ≤ (nextL n E x).length →
    Ext n x (s.enter x p) (dfsK n E f x p s k)
  | 0, _ => by rw [dfsK_zero]; exact .refl (enter_ext hs h0 h1 hx).1.1
  | k + 1, hk => by
    have ih := dfsK_ext (p := p) hr hs h0 h1 hx hz k (by omega)
    obtain ⟨y, hy⟩ : ∃ y, (nextL n E x)[k]? = some y := ⟨_, List.getElem?_eq_getElem (by omega)⟩
    have he := enter_ext (p := p) hs h0 h1 hx
    have := ih.zeros he.1.1
    rw [dfsK_succ hy]
    exact ih.trans (step_ext hr ih.1 h0 h1 (next_range hy).1 (next_range hy).2 (by omega))
theorem dfs_went (n : Nat) (E : Es) : ∀ f, Went n f (dfs n E f)
  | 0 => fun x p s hs h0 h1 hx hz => absurd hx (zeros_none (by omega) h0 (by rw [hs.ln]; exact h1))
  | f + 1 => fun x p s hs h0 h1 hx hz => by
    have h := dfsK_ext (p := p) (dfs_went n E f) hs h0 h1 hx hz _ (Nat.le_refl _)
    rw [dfsK_all _ _ _ _ _ _ (Nat.le_refl _)] at h
    obtain ⟨a, b, c, d, e⟩ := enter_ext (p := p) hs h0 h1 hx
    obtain ⟨g1, g2, g3⟩ := h.2.2 x h0 h1 (by rw [c]; have := hs.c0; omega)
    exact ⟨a.trans h, g1.trans c, g2.trans d⟩
/-- what the walk wants to know of the state behind k neighbours -/
theorem dfsK_facts {n f : Nat} {E : Es} {x p : Int} {s : DS} (hs : DOk n s) (h0 : 0 ≤ x) (h1 : x < n) (hx : lk s.N x = 0) (hz : zeros s.N ≤ f + 1) {k : Nat} (hk : k ≤ (nextL n E x).length) :
    DOk n (dfsK n E f x p s k) ∧ zeros (dfsK n E f x p s k).N ≤ f ∧ lk (dfsK n E f x p s k).N x = s.c + 1 ∧ lk (dfsK n E f x p s k).P x = p ∧ ∀ y : Int, 0 ≤ y → y < n → lk s.N y ≠ 0 → lk (dfsK n E f x p s k).N y ≠ 0 := by
  have h := dfsK_ext (p := p) (dfs_went n E f) hs h0 h1 hx hz k hk
  obtain ⟨a, b, c, d, e⟩ := enter_ext (p := p) hs h0 h1 hx
  have hzz := h.zeros a.1
  obtain ⟨g1, g2, g3⟩ := h.2.2 x h0 h1 (by rw [c]; have := hs.c0; omega)
  refine ⟨h.1, by omega, g1.trans c, g2.trans d, fun y hy0 hy1 hy => ?_⟩
  have := ((a.trans h).2.2 y hy0 hy1 hy).1
  rwa [this]

/-- nothing is found -/
def dNew (n : Nat) : DS := ⟨List.replicate n 0, List.replicate n 0, List.replicate n 0, 0⟩
def dRunK (n : Nat) (E : Es) (k : Nat) : DS := (List.range k).foldl (fun s (i : Nat) => if lk s.N i = 0 then dfs n E n i (-1) s else s) (dNew n)
theorem dRunK_zero (n : Nat) (E : Es) : dRunK n E 0 = dNew n := rfl
theorem dRunK_succ (n : Nat) (E : Es) (k : Nat) : dRunK n E (k + 1) = if lk (dRunK n E k).N k = 0 then dfs n E n k (-1) (dRunK n E k) else dRunK n E k := by
  unfold dRunK
  rw [List.range_succ, List.foldl_append]
  rfl
theorem dNew_zero (n : Nat) (x : Int) : lk (dNew n).N x = 0 := by
  unfold dNew lk
  rw [List.getElem?_replicate]
  split <;> rfl
theorem dNew_ok (n : Nat) : DOk n (dNew n) :=
  ⟨by simp [dNew], by simp [dNew], by simp [dNew], by simp [dNew], by simp [dNew, zeros], fun x h0 h1 => .inl (dNew_zero n x)⟩
theorem DOk.zle {n : Nat} {s : DS} (h : DOk n s) : zeros s.N ≤ n := by have := h.cz; have := h.c0; omega
theorem dRunK_ok (n : Nat) (E : Es) : ∀ k, k ≤ n → DOk n (dRunK n E k)
  | 0, _ => dNew_ok n
  | k + 1, hk => by
    have ih := dRunK_ok n E k (by omega)
    rw [dRunK_succ]
    split
    · rename_i h
      exact (dfs_went n E n k (-1) _ ih (by omega) (by omega) h ih.zle).1.1
    · exact ih
end Go.Proofs.Ytjchabeiaajgiaa
