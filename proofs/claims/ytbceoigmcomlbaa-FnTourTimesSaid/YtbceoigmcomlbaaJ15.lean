import Derived.Test.YtbceoigmcomlbaaJ10
import Derived.Test.YtbceoigmcomlbaaJ14
import Derived.Test.YtbceoigmcomlbaaJ2
import Derived.Test.YtbceoigmcomlbaaJ11
import Derived.Test.YtbceoigmcomlbaaJ12
/- Sizes of heaps behind draws, for the printed walks. -/
namespace Go.Proofs.Ytbceoigmcomlbaa
open Go.RowKit
theorem size_drew_ (w : World) : w.drew.heap.size = w.heap.size := rfl
theorem size_set_ (w : World) (a : Addr) (v : Value) : (w.setCell a v).heap.size = w.heap.size := by simp [World.setCell]
end Go.Proofs.Ytbceoigmcomlbaa

/- Plain: rows of edges in order, and putL. -/
namespace Go.Proofs.Ytbceoigmcomlbaa
open Go.RowKit

/-! ### plain: edges in order -/
/-- edges of n nodes, in order -/
def Good (n : Int) (es : Es) : Prop := (∀ e ∈ es, 0 ≤ e.1 ∧ e.1 < e.2 ∧ e.2 < n) ∧ es.Pairwise ltE
theorem Good.nil (n : Int) : Good n [] := ⟨by simp, .nil⟩
theorem Good.mono {n m : Int} {es : Es} (h : Good n es) (hm : n ≤ m) : Good m es := ⟨fun e he => by have := h.1 e he; omega, h.2⟩
theorem ltE_tr {a b c : Int × Int} (h : ltE a b) (k : ltE b c) : ltE a c := by unfold ltE at *; omega
theorem ltE_tot {a b : Int × Int} (h : a ≠ b) (k : ¬ ltE a b) : ltE b a := by
  obtain ⟨a1, a2⟩ := a
  obtain ⟨b1, b2⟩ := b
  simp only [ltE] at *
  have : ¬ (a1 = b1 ∧ a2 = b2) := fun e => h (by rw [e.1, e.2])
  omega
theorem putL_pair : ∀ (es : Es) (e : Int × Int), es.Pairwise ltE → e ∉ es → (putL es e).Pairwise ltE
  | [], e, _, _ => by simp [putL]
  | x :: xs, e, h, he => by
    have hx : x ≠ e := fun h2 => he (by simp [h2])
    have hxs : e ∉ xs := fun h2 => he (by simp [h2])
    obtain ⟨h1, h2⟩ := List.pairwise_cons.1 h
    unfold putL
    split
    · rename_i hl
      refine List.pairwise_cons.2 ⟨fun y hy => ?_, h⟩
      simp at hy
      rcases hy with rfl | hy
      · exact hl
      · exact ltE_tr hl (h1 y hy)
    · rename_i hl
      refine List.pairwise_cons.2 ⟨fun y hy => ?_, putL_pair xs e h2 hxs⟩
      rcases (putL_mem xs e y).1 hy with rfl | hy
      · exact ltE_tot (Ne.symm hx) hl
      · exact h1 y hy
theorem Good.put {n : Int} {es : Es} {e : Int × Int} (h : Good n es) (h1 : 0 ≤ e.1 ∧ e.1 < e.2 ∧ e.2 < n) (he : e ∉ es) : Good n (putL es e) :=
  ⟨fun y hy => by rcases (putL_mem es e y).1 hy with rfl | hy; exact h1; exact h.1 y hy, putL_pair es e h.2 he⟩
theorem Good.valid {n : Int} {es : Es} (h : Good n es) (h1 : 1 ≤ n) (h2 : n ≤ 16) (h3 : es.length ≤ 40) : Valid n es := by
  refine ⟨h1, h2, h3, fun j hj e he => ?_⟩
  have hm := h.1 e (List.mem_of_getElem? he)
  refine ⟨hm.1, hm.2.1, hm.2.2, fun d hj0 hd => ?_⟩
  have hp := List.pairwise_iff_getElem.1 h.2 (j - 1) j (by omega) hj (by omega)
  rw [List.getElem?_eq_getElem hj] at he
  rw [List.getElem?_eq_getElem (by omega)] at hd
  injection he with he
  injection hd with hd
  rw [he, hd] at hp
  exact hp

end Go.Proofs.Ytbceoigmcomlbaa

/- Plain law: what a tour is; both ways of telling one. No program in sight. -/
namespace Go.Proofs.Ytbceoigmcomlbaa
set_option linter.unusedVariables false set_option linter.unusedSimpArgs false
open Go.Lib (compact)

/-! ### steps -/
def eOf (x y : Int) : Int × Int := (min x y, max x y)
/-- the edges between numbers that follow each other -/
def stepsL : List Int → Es
  | [] => []
  | [_] => []
  | x :: y :: r => eOf x y :: stepsL (y :: r)
theorem stepsL_snoc : ∀ (L : List Int) (x y : Int), stepsL (L ++ [x] ++ [y]) = stepsL (L ++ [x]) ++ [eOf x y]
  | [], x, y => rfl
  | [a], x, y => rfl
  | a :: b :: r, x, y => by
    have := stepsL_snoc (b :: r) x y
    simp only [List.cons_append] at this ⊢
    rw [stepsL, this, stepsL]
    rfl
theorem stepsL_take {L : List Int} {i : Nat} {x y : Int} (hx : L[i]? = some x) (hy : L[i + 1]? = some y) : stepsL (L.take (i + 2)) = stepsL (L.take (i + 1)) ++ [eOf x y] := by
  have h1 : L.take (i + 1) = L.take i ++ [x] := by rw [List.take_add_one, hx]; rfl
  have h2 : L.take (i + 2) = L.take i ++ [x] ++ [y] := by rw [List.take_add_one, hy, h1]; rfl
  rw [h2, h1]
  exact stepsL_snoc _ _ _
theorem stepsL_len : ∀ (L : List Int), (stepsL L).length = L.length - 1
  | [] => rfl
  | [_] => rfl
  | x :: y :: r => by
    rw [stepsL, List.length_cons, stepsL_len (y :: r)]
    simp
theorem stepsL_one (L : List Int) : stepsL (L.take 1) = [] := by cases L <;> rfl
theorem stepsL_get {L : List Int} {i : Nat} {x y : Int} (hx : L[i]? = some x) (hy : L[i + 1]? = some y) : (stepsL L)[i]? = some (eOf x y) := by
  have h := stepsL_take hx hy
  have hl : i + 2 ≤ L.length := by have := (List.getElem?_eq_some_iff.1 hy).1; omega
  have h2 : ∀ (L : List Int) (k : Nat), stepsL (L.take (k + 1)) = (stepsL L).take k := by
    intro L
    induction L with
    | nil => intro k; simp [stepsL]
    | cons a t ih =>
      intro k
      cases t with
      | nil => simp [stepsL]
      | cons b r =>
        cases k with
        | zero => simp [stepsL]
        | succ k =>
          have := ih k
          simp only [List.take_succ_cons] at this ⊢
          rw [stepsL, stepsL, List.take_succ_cons, ← this]
  have h3 := h2 L (i + 1)
  have h4 := h2 L i
  rw [show i + 1 + 1 = i + 2 by omega, h, h4] at h3
  have hlen := stepsL_len L
  have h5 : ((stepsL L).take i ++ [eOf x y])[i]? = ((stepsL L).take (i + 1))[i]? := by rw [h3]
  rw [List.getElem?_take_of_lt (by omega), List.getElem?_append_right (by rw [List.length_take]; omega), List.length_take, Nat.min_eq_left (by omega), Nat.sub_self] at h5
  exact h5.symm
/-- numbers that follow each other are two different nodes -/
def okSteps (L : List Int) : Prop := ∀ i x y, L[i]? = some x → L[i + 1]? = some y → x ≠ y

/-! ### different numbers, in the order of their first places -/
def uniq : List Int → List Int := fun L => L.foldl (fun acc x => if x ∈ acc then acc else acc ++ [x]) []
theorem uniq_snoc (L : List Int) (x : Int) : uniq (L ++ [x]) = if x ∈ uniq L then uniq L else uniq L ++ [x] := by
  unfold uniq
  rw [List.foldl_append]
  rfl
theorem mem_uniq (L : List Int) : ∀ x, x ∈ uniq L ↔ x ∈ L := by
  suffices h : ∀ (n : Nat) (L : List Int), L.length = n → ∀ x, x ∈ uniq L ↔ x ∈ L from h _ L rfl
  intro n
  induction n with
  | zero => intro L hL x; have := List.length_eq_zero_iff.1 hL; subst this; simp [uniq]
  | succ n ih =>
    intro L hL x
    rcases List.eq_nil_or_concat L with h | ⟨M, y, h⟩
    · subst h; simp at hL
    · rw [List.concat_eq_append] at h
      subst h
      have := ih M (by simp at hL; omega)
      rw [uniq_snoc]
      split
      · rename_i hy
        rw [this]
        rw [this] at hy
        simp
        intro h; subst h; exact hy
      · simp [this]
theorem uniq_nodup (L : List Int) : (uniq L).Nodup := by
  suffices h : ∀ (n : Nat) (L : List Int), L.length = n → (uniq L).Nodup from h _ L rfl
  intro n
  induction n with
  | zero => intro L hL; have := List.length_eq_zero_iff.1 hL; subst this; simp [uniq]
  | succ n ih =>
    intro L hL
    rcases List.eq_nil_or_concat L with h | ⟨M, y, h⟩
    · subst h; simp at hL
    · rw [List.concat_eq_append] at h
      subst h
      have := ih M (by simp at hL; omega)
      rw [uniq_snoc]
      split
      · exact this
      · rename_i hy
        rw [List.nodup_append]
        refine ⟨this, by simp, fun a ha b hb => ?_⟩
        simp at hb
        subst hb
        intro h; subst h; exact hy ha
theorem uniq_take {L : List Int} {i : Nat} {x : Int} (hx : L[i]? = some x) : (uniq (L.take (i + 1))).length = (uniq (L.take i)).length + (if x ∈ L.take i then 0 else 1) := by
  have h1 : L.take (i + 1) = L.take i ++ [x] := by rw [List.take_add_one, hx]; rfl
  rw [h1, uniq_snoc]
  by_cases h : x ∈ L.take i
  · rw [if_pos ((mem_uniq _ _).2 h), if_pos h]; rfl
  · rw [if_neg (fun h2 => h ((mem_uniq _ _).1 h2)), if_neg h]; simp
theorem uniq_len_le (L : List Int) : ∀ i, (uniq (L.take i)).length ≤ i := fun i => by
  induction i with
  | zero => simp [uniq]
  | succ i ih =>
    by_cases h : i < L.length
    · rw [uniq_take (List.getElem?_eq_getElem h)]
      split <;> omega
    · rw [List.take_of_length_le (by omega), ← List.take_of_length_le (show L.length ≤ i by omega)]
      omega
/-- the program counts the same -/
theorem compact_uniq (L : List Int) : (compact (srtI L)).length = (uniq L).length := by
  have h1 := compact_srt _ (srtI_sorted L).1
  have h2 := srtI_sorted (uniq L)
  have hs : (srtI (uniq L)).Pairwise (· < ·) := by
    have hn : (srtI (uniq L)).Nodup := (List.mergeSort_perm _ _).nodup_iff.2 (uniq_nodup L)
    exact (h2.1.and hn).imp fun {a b} h => by have := h.1; have := h.2; omega
  have e : compact (srtI L) = srtI (uniq L) := sorted_ext _ _ h1.1 hs fun x => by rw [h1.2, (srtI_sorted L).2, h2.2, mem_uniq]
  rw [e, srtI_length]

/-! ### different edges, in order -/
theorem ltE_irr {x : Int × Int} : ¬ ltE x x := by unfold ltE; omega
theorem ltE_tr2 {x y z : Int × Int} (h1 : ltE x y) (h2 : ltE y z) : ltE x z := by unfold ltE at *; omega
theorem sortedE_ext : ∀ (xs ys : Es), xs.Pairwise ltE → ys.Pairwise ltE → (∀ x, x ∈ xs ↔ x ∈ ys) → xs = ys
  | [], [], _, _, _ => rfl
  | [], y :: ys, _, _, h => by have := (h y).2 (by simp); simp at this
  | x :: xs, [], _, _, h => by have := (h x).1 (by simp); simp at this
  | x :: xs, y :: ys, hx, hy, h => by
    rw [List.pairwise_cons] at hx hy
    have e : x = y := by
      rcases List.mem_cons.1 ((h x).1 (by simp)) with e | e
      · exact e
      · rcases List.mem_cons.1 ((h y).2 (by simp)) with f | f
        · exact f.symm
        · exact absurd (ltE_tr2 (hx.1 y f) (hy.1 x e)) ltE_irr
    subst e
    have : xs = ys := sortedE_ext xs ys hx.2 hy.2 fun z => by
      constructor
      · intro hz
        rcases List.mem_cons.1 ((h z).1 (by simp [hz])) with e | e
        · subst e; exact absurd (hx.1 z hz) ltE_irr
        · exact e
      · intro hz
        rcases List.mem_cons.1 ((h z).2 (by simp [hz])) with e | e
        · subst e; exact absurd (hy.1 z hz) ltE_irr
        · exact e
    rw [this]
def addE (acc : Es) (e : Int × Int) : Es := if e ∈ acc then acc else putL acc e
def eset (S : Es) : Es := S.foldl addE []
theorem eset_snoc (S : Es) (e : Int × Int) : eset (S ++ [e]) = addE (eset S) e := by unfold eset; rw [List.foldl_append]; rfl
theorem eset_spec : ∀ (n : Nat) (S : Es), S.length = n → (eset S).Pairwise ltE ∧ (∀ e, e ∈ eset S ↔ e ∈ S) ∧ (eset S).length ≤ S.length := by
  intro n
  induction n with
  | zero => intro S hS; have := List.length_eq_zero_iff.1 hS; subst this; simp [eset]
  | succ n ih =>
    intro S hS
    rcases List.eq_nil_or_concat S with h | ⟨M, y, h⟩
    · subst h; simp at hS
    · rw [List.concat_eq_append] at h
      subst h
      obtain ⟨h1, h2, h3⟩ := ih M (by simp at hS; omega)
      rw [eset_snoc]
      unfold addE
      split
      · rename_i hy
        refine ⟨h1, fun e => ?_, by simp; omega⟩
        rw [h2]
        rw [h2] at hy
        simp
        intro h; subst h; exact hy
      · rename_i hy
        refine ⟨putL_pair _ _ h1 hy, fun e => ?_, by rw [putL_length]; simp; omega⟩
        rw [putL_mem, h2]
        simp [or_comm]
theorem eset_pair (S : Es) : (eset S).Pairwise ltE := (eset_spec _ S rfl).1
theorem mem_eset {S : Es} {e : Int × Int} : e ∈ eset S ↔ e ∈ S := (eset_spec _ S rfl).2.1 e
theorem eset_len (S : Es) : (eset S).length ≤ S.length := (eset_spec _ S rfl).2.2

/-! ### sorted edges in pairs -/
def SrtW (S : Es) : Prop := S.Pairwise fun x y => ¬ ltE y x
theorem srtE_spec (S : Es) : SrtW (srtE S) ∧ (srtE S).Perm S := by
  refine ⟨?_, List.mergeSort_perm _ _⟩
  have h := List.pairwise_mergeSort (le := fun x y => !(ltOf cmpE y x)) (fun a b c h1 h2 => by
    have e : ∀ x y, (!(ltOf cmpE x y)) = true ↔ ¬ ltE x y := fun x y => by rw [← ltOf_iff]; simp
    rw [e] at h1 h2 ⊢
    unfold ltE at *
    omega) (fun a b => by
    have e : ∀ x y, (!(ltOf cmpE x y)) = true ↔ ¬ ltE x y := fun x y => by rw [← ltOf_iff]; simp
    rw [Bool.or_eq_true, e, e]
    unfold ltE
    omega) S
  refine h.imp fun {a b} h => ?_
  intro h2
  rw [(ltOf_iff b a).2 h2] at h
  simp at h
/-- two by two, and no two pairs alike -/
def pairsB : Es → Bool
  | [] => true
  | [_] => false
  | a :: b :: r => decide (a = b) && (!decide (r.head? = some b) && pairsB r)
/-- no fault at an earlier place -/
def NoV (S : Es) (k : Nat) : Prop := ∀ i x y, i + 1 < k → S[i]? = some x → S[i + 1]? = some y → ((i + 1) % 2 = 1 → x = y) ∧ ((i + 1) % 2 = 0 → x ≠ y)
theorem noV_pairs : ∀ (S : Es), pairsB S = true ↔ NoV S S.length ∧ S.length % 2 = 0
  | [] => by simp [pairsB, NoV]
  | [a] => by simp [pairsB]
  | a :: b :: r => by
    have ih := noV_pairs r
    rw [pairsB, Bool.and_eq_true, Bool.and_eq_true, ih, decide_eq_true_eq]
    constructor
    · rintro ⟨rfl, h1, h2, h3⟩
      have h1 : r.head? ≠ some a := by simpa using h1
      refine ⟨fun i x y hi hx hy => ?_, by simp; omega⟩
      match i with
      | 0 =>
        simp at hx hy
        exact ⟨fun _ => by rw [← hx, ← hy], fun h => by omega⟩
      | 1 =>
        simp at hx hy
        refine ⟨fun h => by omega, fun _ h => ?_⟩
        subst h hx
        apply h1
        rw [List.head?_eq_getElem?]
        exact hy
      | i + 2 =>
        simp only [List.getElem?_cons_succ] at hx hy
        have := h2 i x y (by simp at hi; omega) hx hy
        exact ⟨fun h => this.1 (by omega), fun h => this.2 (by omega)⟩
    · rintro ⟨h1, h2⟩
      have e1 := (h1 0 a b (by simp) rfl rfl).1 (by omega)
      refine ⟨e1, ?_, fun i x y hi hx hy => ?_, by simp at h2; omega⟩
      · simp only [Bool.not_eq_true', decide_eq_false_iff_not]
        intro h
        rw [List.head?_eq_getElem?] at h
        exact (h1 1 b b (by have := (List.getElem?_eq_some_iff.1 h).1; simp; omega) rfl (by simpa using h)).2 (by omega) rfl
      · have := h1 (i + 2) x y (by simp; omega) (by simpa using hx) (by simpa using hy)
        exact ⟨fun h => this.1 (by omega), fun h => this.2 (by omega)⟩
/-- each second one -/
def halve : Es → Es
  | [] => []
  | [a] => [a]
  | a :: _ :: r => a :: halve r
theorem pairs_halve : ∀ (S : Es), SrtW S → pairsB S = true → (halve S).Pairwise ltE ∧ (∀ e, e ∈ halve S ↔ e ∈ S) ∧ (halve S).length * 2 = S.length ∧ ∀ e ∈ S, S.count e = 2
  | [], _, _ => by simp [halve]
  | [a], _, h => by simp [pairsB] at h
  | a :: b :: r, hs, h => by
    rw [pairsB, Bool.and_eq_true, Bool.and_eq_true, decide_eq_true_eq] at h
    obtain ⟨rfl, h1, h2⟩ := h
    have h1 : r.head? ≠ some a := by simpa using h1
    unfold SrtW at hs
    rw [List.pairwise_cons, List.pairwise_cons] at hs
    obtain ⟨ha, hb, hr⟩ := hs
    obtain ⟨i1, i2, i3, i4⟩ := pairs_halve r hr h2
    have hlt : ∀ x ∈ r, ltE a x := by
      cases r with
      | nil => simp
      | cons c t =>
        have hc : a ≠ c := fun e => h1 (by rw [e]; rfl)
        have hac : ltE a c := by
          have := hb c (by simp)
          have : ¬ (a = c) := hc
          by_cases h3 : ltE a c
          · exact h3
          · exact absurd (totE a c (by rw [Bool.eq_false_iff]; exact fun h => h3 ((ltOf_iff _ _).1 h)) (by rw [Bool.eq_false_iff]; exact fun h => (hb c (by simp)) ((ltOf_iff _ _).1 h))) hc
        intro x hx
        rcases List.mem_cons.1 hx with rfl | hx
        · exact hac
        · have := (List.pairwise_cons.1 hr).1 x hx
          unfold ltE at *
          omega
    have hna : a ∉ r := fun h => ltE_irr (hlt a h)
    refine ⟨?_, fun e => ?_, ?_, fun e he => ?_⟩
    · rw [halve, List.pairwise_cons]
      exact ⟨fun x hx => hlt x ((i2 x).1 hx), i1⟩
    · rw [halve]
      simp only [List.mem_cons, i2]
      constructor
      · rintro (h | h)
        · exact .inl h
        · exact .inr (.inr h)
      · rintro (h | h | h)
        · exact .inl h
        · exact .inl h
        · exact .inr h
    · rw [halve, List.length_cons, List.length_cons, List.length_cons]; omega
    · by_cases h3 : e = a
      · subst h3
        simp [List.count_eq_zero_of_not_mem hna]
      · have he : e ∈ r := by simp only [List.mem_cons] at he; rcases he with h | h | h; exact absurd h h3; exact absurd h h3; exact h
        rw [List.count_cons_of_ne (fun h => h3 h.symm), List.count_cons_of_ne (fun h => h3 h.symm)]
        exact i4 e he
theorem count_pairs : ∀ (S : Es), SrtW S → (∀ e ∈ S, S.count e = 2) → pairsB S = true
  | [], _, _ => rfl
  | [a], _, h => by have := h a (by simp); simp at this
  | a :: b :: r, hs, h => by
    unfold SrtW at hs
    rw [List.pairwise_cons, List.pairwise_cons] at hs
    obtain ⟨ha, hb, hr⟩ := hs
    have h1 := h a (by simp)
    rw [List.count_cons_self] at h1
    have hm : a ∈ b :: r := List.count_pos_iff.1 (by omega)
    have hab : a = b := by
      rcases List.mem_cons.1 hm with e | e
      · exact e
      · have g1 := ha b (by simp)
        have g2 := hb a e
        exact totE a b (by rw [Bool.eq_false_iff]; exact fun h => g2 ((ltOf_iff _ _).1 h)) (by rw [Bool.eq_false_iff]; exact fun h => g1 ((ltOf_iff _ _).1 h))
    subst hab
    rw [List.count_cons_self] at h1
    have hna : a ∉ r := fun h => by have := List.count_pos_iff.2 h; omega
    have ih := count_pairs r hr fun e he => by
      have hne : e ≠ a := fun h => hna (h ▸ he)
      have := h e (by simp [he])
      rwa [List.count_cons_of_ne (fun h => hne h.symm), List.count_cons_of_ne (fun h => hne h.symm)] at this
    rw [pairsB, ih]
    simp
    intro h
    cases r with
    | nil => simp at h
    | cons c t => simp at h; subst h; exact hna (by simp)

/-! ### tours -/
/-- what both test -/
def TV (L : List Int) : Prop :=
  (1 ≤ L.length ∧ L.length ≤ 31 ∧ L[0]? = L[L.length - 1]?) ∧ (∀ x ∈ L, 0 ≤ x ∧ x < 16) ∧ okSteps L ∧ (∀ e ∈ eset (stepsL L), (stepsL L).count e = 2) ∧ (eset (stepsL L)).length + 1 = (uniq L).length
noncomputable instance (L : List Int) : Decidable (TV L) := Classical.propDecidable _
/-- as the program tests it -/
theorem tv_impl {L : List Int} (h1 : 1 ≤ L.length ∧ L.length ≤ 31 ∧ L[0]? = L[L.length - 1]?) (h2 : ∀ x ∈ L, 0 ≤ x ∧ x < 16) (h3 : okSteps L) :
    TV L ↔ NoV (srtE (stepsL L)) (stepsL L).length ∧ (stepsL L).length % 2 = 0 ∧ (stepsL L).length / 2 + 1 = (compact (srtI L)).length := by
  obtain ⟨s1, s2⟩ := srtE_spec (stepsL L)
  have hp := noV_pairs (srtE (stepsL L))
  rw [srtE_length] at hp
  rw [compact_uniq]
  have key : pairsB (srtE (stepsL L)) = true → eset (stepsL L) = halve (srtE (stepsL L)) := fun h => by
    obtain ⟨i1, i2, i3, i4⟩ := pairs_halve _ s1 h
    exact sortedE_ext _ _ (eset_pair _) i1 fun e => by rw [mem_eset, i2, s2.mem_iff]
  constructor
  · rintro ⟨_, _, _, h4, h5⟩
    have hb : pairsB (srtE (stepsL L)) = true := count_pairs _ s1 fun e he => by
      rw [s2.count_eq]
      exact h4 e (mem_eset.2 (s2.mem_iff.1 he))
    obtain ⟨g1, g2⟩ := hp.1 hb
    refine ⟨g1, g2, ?_⟩
    have g3 := (pairs_halve _ s1 hb).2.2.1
    rw [← key hb, srtE_length] at g3
    omega
  · rintro ⟨g1, g2, g3⟩
    have hb := hp.2 ⟨g1, g2⟩
    obtain ⟨i1, i2, i3, i4⟩ := pairs_halve _ s1 hb
    rw [← key hb, srtE_length] at i3
    refine ⟨h1, h2, h3, fun e he => ?_, by omega⟩
    rw [← s2.count_eq]
    exact i4 e (s2.mem_iff.2 (mem_eset.1 he))
end Go.Proofs.Ytbceoigmcomlbaa
