/- Plain: rows of edges in order, and putL. -/
import Derived.Test.YtekepbcmjfdcjaaDoorD1
import Derived.Test.YtekepbcmjfdcjaaDoorZ
import Derived.Test.YtekepbcmjfdcjaaDoorL
namespace Go.Proofs.YtekepbcmjfdcjaaDoor
open Go.RowKit

/-! ### plain: edges in order -/
/-- edges of n nodes, in order -/
def Good (n : Int) (es : Es) : Prop := (∀ e ∈ es, 0 ≤ e.1 ∧ e.1 < e.2 ∧ e.2 < n) ∧ es.Pairwise ltE
theorem Good.nil (n : Int) : Good n [] := ⟨by simp, .nil⟩
theorem Good.mono {n m : Int} {es : Es} (h : Good n es) (hm : n ≤ m) : Good m es := ⟨fun e he => by have := h.1 e he; omega, h.2⟩
theorem ltE_tr {a b c : Int × Int} (h : ltE a b) (k : ltE b c) : ltE a c := by unfold ltE at *; omega
theorem ltE_tot {a b : Int × Int} (h : a ≠ b) (k : ¬ ltE a b) : ltE b a := by
  obtain ⟨a1, a2⟩ := a
  obtain ⟨b1, b2⟩ := b
  simp only [ltE] at *
  have : ¬ (a1 = b1 ∧ a2 = b2) := fun e => h (by rw [e.1, e.2])
  omega
theorem putL_pair : ∀ (es : Es) (e : Int × Int), es.Pairwise ltE → e ∉ es → (putL es e).Pairwise ltE
  | [], e, _, _ => by simp [putL]
  | x :: xs, e, h, he => by
    have hx : x ≠ e := fun h2 => he (by simp [h2])
    have hxs : e ∉ xs := fun h2 => he (by simp [h2])
    obtain ⟨h1, h2⟩ := List.pairwise_cons.1 h
    unfold putL
    split
    · rename_i hl
      refine List.pairwise_cons.2 ⟨fun y hy => ?_, h⟩
      simp at hy
      rcases hy with rfl | hy
      · exact hl
      · exact ltE_tr hl (h1 y hy)
    · rename_i hl
      refine List.pairwise_cons.2 ⟨fun y hy => ?_, putL_pair xs e h2 hxs⟩
      rcases (putL_mem xs e y).1 hy with rfl | hy
      · exact ltE_tot (Ne.symm hx) hl
      · exact h1 y hy
theorem Good.put {n : Int} {es : Es} {e : Int × Int} (h : Good n es) (h1 : 0 ≤ e.1 ∧ e.1 < e.2 ∧ e.2 < n) (he : e ∉ es) : Good n (putL es e) :=
  ⟨fun y hy => by rcases (putL_mem es e y).1 hy with rfl | hy; exact h1; exact h.1 y hy, putL_pair es e h.2 he⟩
theorem Good.valid {n : Int} {es : Es} (h : Good n es) (h1 : 1 ≤ n) (h2 : n ≤ 16) (h3 : es.length ≤ 40) : Valid n es := by
  refine ⟨h1, h2, h3, fun j hj e he => ?_⟩
  have hm := h.1 e (List.mem_of_getElem? he)
  refine ⟨hm.1, hm.2.1, hm.2.2, fun d hj0 hd => ?_⟩
  have hp := List.pairwise_iff_getElem.1 h.2 (j - 1) j (by omega) hj (by omega)
  rw [List.getElem?_eq_getElem hj] at he
  rw [List.getElem?_eq_getElem (by omega)] at hd
  injection he with he
  injection hd with hd
  rw [he, hd] at hp
  exact hp

end Go.Proofs.YtekepbcmjfdcjaaDoor
