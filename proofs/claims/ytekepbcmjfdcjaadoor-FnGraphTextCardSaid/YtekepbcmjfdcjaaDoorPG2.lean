/- Plain law: the text of a graph comes apart into what it was made of. No program in sight. -/
import Derived.Test.YtekepbcmjfdcjaaDoorFW
import Derived.Test.YtekepbcmjfdcjaaDoorPG1
namespace Go.Proofs.YtekepbcmjfdcjaaDoor
set_option linter.unusedVariables false set_option linter.unusedSimpArgs false
open Go.Lib (decDigits)

/-- a text cut at each c -/
def cutL (c : UInt8) : List UInt8 → List (List UInt8)
  | [] => [[]]
  | x :: xs => if x = c then [] :: cutL c xs else match cutL c xs with
    | [] => [[x]]
    | p :: ps => (x :: p) :: ps
theorem cutL_ne (c : UInt8) (l : List UInt8) : cutL c l ≠ [] := by
  cases l with
  | nil => simp [cutL]
  | cons x xs =>
    unfold cutL
    split
    · simp
    · split <;> simp
theorem cutL_none (c : UInt8) : ∀ (w : List UInt8), c ∉ w → cutL c w = [w]
  | [], _ => rfl
  | x :: w, h => by
    have hx : x ≠ c := fun e => h (by simp [e])
    rw [cutL, if_neg hx, cutL_none c w (fun e => h (by simp [e]))]
theorem cutL_at (c : UInt8) : ∀ (w r : List UInt8), c ∉ w → cutL c (w ++ c :: r) = w :: cutL c r
  | [], r, _ => by rw [List.nil_append, cutL, if_pos rfl]
  | x :: w, r, h => by
    have hx : x ≠ c := fun e => h (by simp [e])
    rw [List.cons_append, cutL, if_neg hx, cutL_at c w r (fun e => h (by simp [e]))]
/-- an edge's text -/
def dashT (e : Int × Int) : List UInt8 := decDigits e.1.toNat ++ 45 :: decDigits e.2.toNat
theorem eTxt_dash (e : Int × Int) : eTxt e = 32 :: dashT e := rfl
theorem no_sep {u : Nat} (h : u < 100) {c : UInt8} (hc : ¬ isD c) : c ∉ decDigits u := fun hm => hc (dec_isD h c hm)
theorem not32 : ¬ isD 32 := by unfold isD; decide
theorem not45 : ¬ isD 45 := by unfold isD; decide
theorem dash_no32 {e : Int × Int} (h : 0 ≤ e.1 ∧ e.1 < 100 ∧ 0 ≤ e.2 ∧ e.2 < 100) : (32 : UInt8) ∉ dashT e := fun hm => by
  unfold dashT at hm
  rcases List.mem_append.1 hm with hm | hm
  · exact no_sep (by omega) not32 hm
  · rcases List.mem_cons.1 hm with hm | hm
    · revert hm; decide
    · exact no_sep (by omega) not32 hm
/-- words, and one blank ahead of each but the first -/
def joinT (w : List UInt8) : List (List UInt8) → List UInt8
  | [] => w
  | p :: ps => w ++ 32 :: joinT p ps
theorem gTxt_join : ∀ (es : Es) (w : List UInt8), w ++ esTxt es = joinT w (es.map dashT)
  | [], w => by simp [esTxt, joinT]
  | e :: es, w => by
    rw [esTxt_cons, eTxt_dash, List.map_cons, joinT, ← gTxt_join es (dashT e)]
    simp
theorem cutL_join : ∀ (ps : List (List UInt8)) (w : List UInt8), (32 : UInt8) ∉ w → (∀ p ∈ ps, (32 : UInt8) ∉ p) → cutL 32 (joinT w ps) = w :: ps
  | [], w, h, _ => by rw [joinT, cutL_none _ _ h]
  | p :: ps, w, h, hp => by rw [joinT, cutL_at _ _ _ h, cutL_join ps p (hp p (by simp)) (fun q hq => hp q (by simp [hq]))]
theorem index_none (c : UInt8) : ∀ (w : List UInt8), c ∉ w → Lib.index w [c] = -1
  | [], _ => rfl
  | x :: w, h => by
    have hx : (c == x) = false := by simp; exact fun e => h (by simp [e])
    rw [Lib.index]
    simp only [List.isPrefixOf, hx, Bool.false_and, Bool.false_eq_true, if_false]
    rw [index_none c w (fun e => h (by simp [e]))]
    rfl
theorem index_at (c : UInt8) : ∀ (w r : List UInt8), c ∉ w → Lib.index (w ++ c :: r) [c] = w.length
  | [], r, _ => by simp [Lib.index, List.isPrefixOf]
  | x :: w, r, h => by
    have hx : (c == x) = false := by simp; exact fun e => h (by simp [e])
    rw [List.cons_append, Lib.index]
    simp only [List.isPrefixOf, hx, Bool.false_and, Bool.false_eq_true, if_false]
    rw [index_at c w r (fun e => h (by simp [e]))]
    rw [if_neg (by simp)]
    simp
theorem splitK_join : ∀ (ps : List (List UInt8)) (w : List UInt8) (k : Nat), ps.length ≤ k → (32 : UInt8) ∉ w → (∀ p ∈ ps, (32 : UInt8) ∉ p) → Lib.splitK [32] 0 k (joinT w ps) = w :: ps
  | [], w, k, _, h, _ => by
    rw [joinT]
    cases k with
    | zero => rfl
    | succ k => rw [Lib.splitK, index_none _ _ h]; rfl
  | p :: ps, w, k, hk, h, hp => by
    obtain ⟨k, rfl⟩ : ∃ j, k = j + 1 := ⟨k - 1, by simp at hk; omega⟩
    rw [joinT, Lib.splitK, index_at _ _ _ h]
    rw [if_neg (by simp)]
    have ih := splitK_join ps p k (by simp at hk; omega) (hp p (by simp)) (fun q hq => hp q (by simp [hq]))
    simp
    exact ih
theorem join_len : ∀ (ps : List (List UInt8)) (w : List UInt8), ps.length ≤ (joinT w ps).length
  | [], w => by simp
  | p :: ps, w => by
    have := join_len ps p
    rw [joinT]
    simp
    omega
theorem piecesL_g {n : Nat} {es : Es} (hn : n < 100) (hs : Sm es) (hl : es.length ≤ 40) : piecesL (gTxt n es) = decDigits n :: es.map dashT ∧ cutL 32 (gTxt n es) = decDigits n :: es.map dashT := by
  have hw : (32 : UInt8) ∉ decDigits n := no_sep hn not32
  have hp : ∀ p ∈ es.map dashT, (32 : UInt8) ∉ p := fun p hp => by
    obtain ⟨e, he, rfl⟩ := List.mem_map.1 hp
    exact dash_no32 (hs e he)
  unfold gTxt
  rw [gTxt_join]
  refine ⟨?_, cutL_join _ _ hw hp⟩
  unfold piecesL
  have := join_len (es.map dashT) (decDigits n)
  rw [List.length_map] at this
  exact splitK_join _ _ _ (by rw [List.length_map]; omega) hw hp
theorem cut_dash {e : Int × Int} (h : 0 ≤ e.1 ∧ e.1 < 100 ∧ 0 ≤ e.2 ∧ e.2 < 100) : (Lib.cut (dashT e) [45]).1 = decDigits e.1.toNat ∧ (Lib.cut (dashT e) [45]).2.1 = decDigits e.2.toNat ∧ cutL 45 (dashT e) = [decDigits e.1.toNat, decDigits e.2.toNat] := by
  have h1 : (45 : UInt8) ∉ decDigits e.1.toNat := no_sep (by omega) not45
  have h2 : (45 : UInt8) ∉ decDigits e.2.toNat := no_sep (by omega) not45
  have hi := index_at 45 _ (decDigits e.2.toNat) h1
  refine ⟨?_, ?_, by unfold dashT; rw [cutL_at _ _ _ h1, cutL_none _ _ h2]⟩
  · unfold Lib.cut dashT
    rw [hi]
    simp
  · unfold Lib.cut dashT
    rw [hi]
    simp
theorem dec_small {n : Nat} (h : n < 17) : (∃ u : Fin 10, n = u.val ∧ decDigits n = [dg u.val]) ∨ (∃ u : Fin 7, n = 10 + u.val ∧ decDigits n = [dg 1, dg u.val]) := by
  by_cases h1 : n < 10
  · exact .inl ⟨⟨n, h1⟩, rfl, dec_one h1⟩
  · refine .inr ⟨⟨n - 10, by omega⟩, by show n = 10 + (n - 10); omega, ?_⟩
    rw [dec_two h1 (by omega)]
    rw [show n / 10 = 1 by omega, show n % 10 = n - 10 by omega]
theorem atoi_one : ∀ u : Fin 10, Lib.atoiAll [dg u.val] = .ok (u.val : Int) := by decide +kernel
theorem atoi_two : ∀ u : Fin 7, Lib.atoiAll [dg 1, dg u.val] = .ok ((10 + u.val : Nat) : Int) := by decide +kernel
theorem atoi_small {n : Nat} (h : n < 17) : Lib.atoiAll (decDigits n) = .ok (n : Int) := by
  rcases dec_small h with ⟨u, h1, h2⟩ | ⟨u, h1, h2⟩
  · rw [h2, h1]; exact atoi_one u
  · rw [h2, h1]; exact atoi_two u
end Go.Proofs.YtekepbcmjfdcjaaDoor
