/- Plain law: the text of a graph, and that it tells the graph. No program in sight. -/
import Derived.Test.YtekepbcmjfdcjaaDoorG2
import Derived.Test.YtekepbcmjfdcjaaDoorL
import Derived.Lib.ItoaNum
namespace Go.Proofs.YtekepbcmjfdcjaaDoor
set_option linter.unusedVariables false set_option linter.unusedSimpArgs false
open Go.Lib (decDigits)

/-- the digit of u -/
def dg (u : Nat) : UInt8 := UInt8.ofNat (48 + u)
theorem dg_nat {u : Nat} (h : u < 10) : (dg u).toNat = 48 + u := by unfold dg; simp; omega
theorem dg_inj {u v : Nat} (hu : u < 10) (hv : v < 10) (h : dg u = dg v) : u = v := by
  have := congrArg UInt8.toNat h
  rw [dg_nat hu, dg_nat hv] at this
  omega
theorem dec_one {u : Nat} (h : u < 10) : decDigits u = [dg u] := by unfold decDigits; rw [dif_pos h]; rfl
theorem dec_two {u : Nat} (h : ¬ u < 10) (h2 : u < 100) : decDigits u = [dg (u / 10), dg (u % 10)] := by
  unfold decDigits
  rw [dif_neg h, dec_one (show u / 10 < 10 by omega)]
  rfl
def isD (c : UInt8) : Prop := 48 ≤ c.toNat ∧ c.toNat ≤ 57
theorem dec_isD {u : Nat} (h : u < 100) : ∀ c ∈ decDigits u, isD c := fun c hc => by
  by_cases h1 : u < 10
  · rw [dec_one h1] at hc
    simp at hc
    subst hc
    unfold isD
    rw [dg_nat h1]
    omega
  · rw [dec_two h1 h] at hc
    simp at hc
    unfold isD
    rcases hc with rfl | rfl
    · rw [dg_nat (by omega)]; omega
    · rw [dg_nat (by omega)]; omega
theorem dec_inj {u v : Nat} (hu : u < 100) (hv : v < 100) (h : decDigits u = decDigits v) : u = v := by
  by_cases h1 : u < 10
  · by_cases h2 : v < 10
    · rw [dec_one h1, dec_one h2] at h
      injection h with h
      exact dg_inj h1 h2 h
    · rw [dec_one h1, dec_two h2 hv] at h; simp at h
  · by_cases h2 : v < 10
    · rw [dec_one h2, dec_two h1 hu] at h; simp at h
    · rw [dec_two h1 hu, dec_two h2 hv] at h
      injection h with h3 h
      injection h with h4 _
      have := dg_inj (by omega) (by omega) h3
      have := dg_inj (by omega) (by omega) h4
      omega
theorem dec_len {u : Nat} (h : u < 100) : 1 ≤ (decDigits u).length ∧ (decDigits u).length ≤ 2 := by
  by_cases h1 : u < 10
  · rw [dec_one h1]; simp
  · rw [dec_two h1 h]; simp
/-- what follows a run of digits begins with none -/
def NoD (r : List UInt8) : Prop := ∀ c ∈ r.head?, ¬ isD c
theorem cut_eq : ∀ {d e r s : List UInt8}, (∀ c ∈ d, isD c) → (∀ c ∈ e, isD c) → NoD r → NoD s → d ++ r = e ++ s → d = e ∧ r = s
  | [], [], _, _, _, _, _, _, h => ⟨rfl, by simpa using h⟩
  | [], c :: e, r, s, _, he, hr, _, h => by
    simp at h
    subst h
    exact absurd (he c (by simp)) (hr c (by simp))
  | c :: d, [], r, s, hd, _, _, hs, h => by
    simp at h
    subst h
    exact absurd (hd c (by simp)) (hs c (by simp))
  | a :: d, b :: e, r, s, hd, he, hr, hs, h => by
    simp at h
    obtain ⟨rfl, h⟩ := h
    obtain ⟨h1, h2⟩ := cut_eq (fun c hc => hd c (by simp [hc])) (fun c hc => he c (by simp [hc])) hr hs h
    exact ⟨by rw [h1], h2⟩
/-- an edge behind a blank -/
def eTxt (e : Int × Int) : List UInt8 := 32 :: (decDigits e.1.toNat ++ 45 :: decDigits e.2.toNat)
def esTxt (es : Es) : List UInt8 := es.flatMap eTxt
def gTxt (n : Nat) (es : Es) : List UInt8 := decDigits n ++ esTxt es
def Sm (es : Es) : Prop := ∀ e ∈ es, 0 ≤ e.1 ∧ e.1 < 100 ∧ 0 ≤ e.2 ∧ e.2 < 100
theorem esTxt_cons (e : Int × Int) (es : Es) : esTxt (e :: es) = eTxt e ++ esTxt es := rfl
theorem esTxt_noD (es : Es) : NoD (esTxt es) := by
  cases es with
  | nil => intro c hc; simp [esTxt] at hc
  | cons e es =>
    intro c hc
    rw [esTxt_cons] at hc
    simp [eTxt] at hc
    subst hc
    unfold isD
    decide
theorem noD_45 (r : List UInt8) : NoD (45 :: r) := fun c hc => by
  simp at hc
  subst hc
  unfold isD
  decide
theorem esTxt_inj : ∀ (es fs : Es), Sm es → Sm fs → esTxt es = esTxt fs → es = fs
  | [], [], _, _, _ => rfl
  | [], f :: fs, _, _, h => by rw [esTxt_cons] at h; simp [eTxt, esTxt] at h
  | e :: es, [], _, _, h => by rw [esTxt_cons] at h; simp [eTxt, esTxt] at h
  | (a, b) :: es, (c, d) :: fs, he, hf, h => by
    rw [esTxt_cons, esTxt_cons] at h
    have h1 := he (a, b) (by simp)
    have h2 := hf (c, d) (by simp)
    simp only at h1 h2
    simp only [eTxt, List.cons_append, List.cons.injEq, true_and, List.append_assoc] at h
    obtain ⟨h3, h4⟩ := cut_eq (dec_isD (by omega)) (dec_isD (by omega)) (noD_45 _) (noD_45 _) h
    simp only [List.cons.injEq, true_and] at h4
    obtain ⟨h5, h6⟩ := cut_eq (dec_isD (by omega)) (dec_isD (by omega)) (esTxt_noD es) (esTxt_noD fs) h4
    have e1 := dec_inj (by omega) (by omega) h3
    have e2 := dec_inj (by omega) (by omega) h5
    have := esTxt_inj es fs (fun e h => he e (by simp [h])) (fun e h => hf e (by simp [h])) h6
    rw [this]
    have : a = c := by omega
    have : b = d := by omega
    subst a b
    rfl
theorem gTxt_inj {n m : Nat} {es fs : Es} (hn : n < 100) (hm : m < 100) (he : Sm es) (hf : Sm fs) (h : gTxt n es = gTxt m fs) : n = m ∧ es = fs := by
  obtain ⟨h1, h2⟩ := cut_eq (dec_isD hn) (dec_isD hm) (esTxt_noD es) (esTxt_noD fs) h
  exact ⟨dec_inj hn hm h1, esTxt_inj es fs he hf h2⟩
theorem eTxt_len {e : Int × Int} (h : 0 ≤ e.1 ∧ e.1 < 100 ∧ 0 ≤ e.2 ∧ e.2 < 100) : (eTxt e).length ≤ 6 := by
  have h1 := dec_len (show e.1.toNat < 100 by omega)
  have h2 := dec_len (show e.2.toNat < 100 by omega)
  unfold eTxt
  simp
  omega
theorem esTxt_len : ∀ (es : Es), Sm es → (esTxt es).length ≤ 6 * es.length
  | [], _ => by simp [esTxt]
  | e :: es, h => by
    have h1 := eTxt_len (h e (by simp))
    have h2 := esTxt_len es (fun e he => h e (by simp [he]))
    rw [esTxt_cons]
    simp
    omega
theorem Sm.of {n : Int} {es : Es} (h : Valid n es) : Sm es := fun e he => by
  obtain ⟨j, hj⟩ := List.mem_iff_getElem?.1 he
  have := h.2.2.2 j (List.getElem?_eq_some_iff.1 hj).1 e hj
  have := h.2.1
  omega
end Go.Proofs.YtekepbcmjfdcjaaDoor
