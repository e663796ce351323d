/- Contract: l14Cut of the reference. -/
import Derived.Test.YtekepbcmjfdcjaaDoorPG2
import Derived.Test.YtekepbcmjfdcjaaDoorY2
import Derived.Deep.LoopGhost
namespace Go.Proofs.YtekepbcmjfdcjaaDoor
open Go.RowKit set_option linter.unusedVariables false set_option linter.unusedSimpArgs false

/-- cut so far: the pieces ps, the next one begins at f, and the first k bytes are looked at -/
def CutQ (c : UInt8) (l : List UInt8) (ps : List (List UInt8)) (f k : Nat) : Prop :=
  (f ≤ k ∧ k ≤ l.length ∧ cutL c l = ps ++ cutL c (l.drop f) ∧ c ∉ (l.drop f).take (k - f)) ∨ (k = l.length + 1 ∧ cutL c l = ps)
theorem drop_parts {l : List UInt8} {f k : Nat} (h : f ≤ k) : l.drop f = (l.drop f).take (k - f) ++ l.drop k := by
  have := List.take_append_drop (k - f) (l.drop f)
  rw [List.drop_drop, show f + (k - f) = k by omega] at this
  exact this.symm
theorem CutQ.zero (c : UInt8) (l : List UInt8) : CutQ c l [] 0 0 := .inl ⟨Nat.le_refl _, Nat.zero_le _, by simp, by simp⟩
theorem CutQ.next {c : UInt8} {l : List UInt8} {ps : List (List UInt8)} {f k : Nat} {x : UInt8} (h : CutQ c l ps f k) (hk : l[k]? = some x) (hx : x ≠ c) : CutQ c l ps f (k + 1) := by
  have hl : k < l.length := (List.getElem?_eq_some_iff.1 hk).1
  rcases h with ⟨h1, h2, h3, h4⟩ | ⟨h1, _⟩
  · refine .inl ⟨by omega, by omega, h3, fun hm => ?_⟩
    rw [show k + 1 - f = (k - f) + 1 by omega, List.take_add_one, List.getElem?_drop, show f + (k - f) = k by omega, hk] at hm
    rcases List.mem_append.1 hm with hm | hm
    · exact h4 hm
    · simp at hm; exact hx hm.symm
  · omega
theorem CutQ.hit {c : UInt8} {l : List UInt8} {ps : List (List UInt8)} {f k : Nat} (h : CutQ c l ps f k) (hk : l[k]? = some c) : CutQ c l (ps ++ [(l.drop f).take (k - f)]) (k + 1) (k + 1) := by
  obtain ⟨hl, he⟩ := List.getElem?_eq_some_iff.1 hk
  rcases h with ⟨h1, h2, h3, h4⟩ | ⟨h1, _⟩
  · refine .inl ⟨Nat.le_refl _, by omega, ?_, by simp⟩
    have hd : l.drop f = (l.drop f).take (k - f) ++ c :: l.drop (k + 1) := by
      have := drop_parts (l := l) h1
      rw [List.drop_eq_getElem_cons hl, he] at this
      exact this
    have hc := cutL_at c _ (l.drop (k + 1)) h4
    rw [← hd] at hc
    rw [h3, hc]
    simp
  · omega
theorem CutQ.last {c : UInt8} {l : List UInt8} {ps : List (List UInt8)} {f : Nat} {g : Nat} (h : CutQ c l ps f l.length) : CutQ c l (ps ++ [(l.drop f).take (l.length - f)]) g (l.length + 1) := by
  rcases h with ⟨h1, h2, h3, h4⟩ | ⟨h1, _⟩
  · refine .inr ⟨rfl, ?_⟩
    have ht : (l.drop f).take (l.length - f) = l.drop f := List.take_of_length_le (by simp)
    rw [ht] at h4 ⊢
    rw [h3, cutL_none c _ h4]
  · omega
theorem CutQ.le {c : UInt8} {l : List UInt8} {ps : List (List UInt8)} {f k : Nat} (h : CutQ c l ps f k) (hk : k ≤ l.length) : f ≤ k := by
  rcases h with ⟨h1, _⟩ | ⟨h1, _⟩ <;> omega
theorem extr (l : List UInt8) (f k : Nat) : (⟨l.toArray⟩ : ByteArray).extract f k = ⟨((l.drop f).take (k - f)).toArray⟩ := by
  apply ByteArray.ext
  have := Lib.extract_data (⟨l.toArray⟩ : ByteArray) f k
  apply Array.toList_inj.1
  rw [this]
theorem cutL_len (c : UInt8) : ∀ l : List UInt8, (cutL c l).length ≤ l.length + 1
  | [] => by simp [cutL]
  | x :: xs => by
    have := cutL_len c xs
    rw [cutL]
    split
    · simp; omega
    · split <;> simp_all <;> omega

set_option maxRecDepth 100000 in
set_option maxHeartbeats 4000000 in
theorem l14Cut_c (l : List UInt8) (c : UInt8) (w : World) (hl : l.length ≤ 1048576) :
    Calls Tryd.prog 17 #[Str l, .int .u8 c.toNat] w (RetSt (cutL c l) w) := by
  obtain ⟨i0, hi, hz0, hz1, hz2⟩ := info_parts infoS
  have Hi := Lib.hid hi
  have Hz0 := Lib.hid hz0
  have Hz1 := Lib.hid hz1
  have Hz2 := Lib.hid hz2
  clear hi hz0 hz1 hz2
  go_enter Tryd.func17, Tryd.ntmps17
  go_wp2
  generalize hX : World.alloc _ _ = X
  have nX : Nx w X := by subst hX; exact .alloc (.refl _) _
  have oX : OwnV X w.heap.size 9 (some ⟨w.heap.size, 0, none⟩) 0 [] := by subst hX; exact OwnV.empty w w.heap.size 9 (Nat.le_refl _)
  clear hX
  go_loopg [5, 6, 7] (l.length + 1) (fun gk out fr i wr => ∃ (k f : Nat) (A' : Option Addr) (c' : Nat) (ps : List (List UInt8)) (vs : List Value), k + gk = l.length + 1 ∧ i = .int .i64 k ∧ fr = .int .i64 f ∧ out = .slice A' vs.length c' ∧ OwnV wr w.heap.size 9 A' c' vs ∧ ps.map Str = vs ∧ CutQ c l ps f k ∧ ps.length ≤ k ∧ Nx w wr)
  case atStart => exact ⟨0, 0, _, 0, [], [], by omega, rfl, rfl, rfl, oX, rfl, CutQ.zero c l, by simp, nX⟩
  case round =>
    obtain ⟨k, f, A', c', ps, vs, hk, rfl, rfl, rfl, hown, hvs, hq, hps, hn⟩ := hrel
    have hvl : vs.length ≤ k := by rw [← hvs, List.length_map]; exact hps
    have Hq := Lib.hid hq
    have Hvs := Lib.hid hvs
    have Hown := Lib.hid hown
    have hsz := hn.size
    clear hvs hown oX nX
    by_cases h1 : k < l.length
    · obtain ⟨x, hx⟩ : ∃ x, l[k]? = some x := ⟨_, List.getElem?_eq_getElem h1⟩
      have hfk := hq.le (by omega)
      have hxe : (⟨l.toArray⟩ : ByteArray)[k]'(by simp [ByteArray.size]; exact h1) = x := by
        have := (List.getElem?_eq_some_iff.1 hx).2
        rw [← this]; rfl
      have hkl : ((k : Int) == (l.length : Int)) = false := by simp; omega
      have hex := extr l f k
      have Hx := Lib.hid hx
      clear hq hx
      by_cases hc : x = c
      · have hb : ((x.toNat : Int) == (c.toNat : Int)) = true := by rw [hc]; simp
        subst hc
        have Hc2 := Lib.hid (Hq.out.hit Hx.out)
        go_wp2_with (at_builtin; go_must (refine appV (base := w.heap.size) (t := 9) vs _ (Str ((l.drop f).take (k - f))) 16 rfl rfl Tryd.underlying36 Hi.out Hz0.out Hz1.out Hz2.out (by omega) rfl rfl (Hown.out.nx (by repeat (first | exact Nx.refl _ | assumption | apply Nx.alloc | apply Nx.drew | apply Nx.drewN | (refine Nx.setCell ?_ (by first | (simp; done) | (simp; omega) | omega) _) | refine Nx.trans ?_ (by assumption)))) rfl (cellN rfl rfl) rfl (by omega) (by simp; omega) ?_; intro A2 c2 w9 hown9 hnx9 hgr9 hbl9))
        go_roundg (gk - 1)
        case measure => omega
        case rel => exact ⟨k + 1, k + 1, A2, c2, _, _, by omega, by go_num, by go_num, by simp, hown9, by rw [List.map_append, Hvs.out]; rfl, Hc2.out, by simp; omega, hnx9 w (Nat.le_refl _) (hn.alloc _)⟩
      · have hb : ((x.toNat : Int) == (c.toNat : Int)) = false := by
          rw [Bool.eq_false_iff]
          intro h
          simp at h
          exact hc (UInt8.toNat_inj.1 (by omega))
        have Hc2 := Lib.hid (Hq.out.next Hx.out hc)
        clear hc
        go_wp2
        go_roundg (gk - 1)
        case measure => omega
        case rel => exact ⟨k + 1, f, A', c', ps, vs, by omega, by go_num, rfl, rfl, Hown.out, Hvs.out, Hc2.out, by omega, hn⟩
    · by_cases h2 : k = l.length
      · subst h2
        have hfk := hq.le (by omega)
        have hex := extr l f l.length
        have Hc2 := Lib.hid (Hq.out.last (g := l.length + 1))
        clear hq
        go_wp2_with (at_builtin; go_must (refine appV (base := w.heap.size) (t := 9) vs _ (Str ((l.drop f).take (l.length - f))) 16 rfl rfl Tryd.underlying36 Hi.out Hz0.out Hz1.out Hz2.out (by omega) rfl rfl (Hown.out.nx (by repeat (first | exact Nx.refl _ | assumption | apply Nx.alloc | apply Nx.drew | apply Nx.drewN | (refine Nx.setCell ?_ (by first | (simp; done) | (simp; omega) | omega) _) | refine Nx.trans ?_ (by assumption)))) rfl (cellN rfl rfl) rfl (by omega) (by simp; omega) ?_; intro A2 c2 w9 hown9 hnx9 hgr9 hbl9))
        go_roundg (gk - 1)
        case measure => omega
        case rel => exact ⟨l.length + 1, l.length + 1, A2, c2, _, _, by omega, by go_num, by go_num, by simp, hown9, by rw [List.map_append, Hvs.out]; rfl, Hc2.out, by simp; omega, hnx9 w (Nat.le_refl _) (hn.alloc _)⟩
      · have hkl : k = l.length + 1 := by omega
        have hres : cutL c l = ps := by
          rcases hq with ⟨_, h, _⟩ | ⟨_, h⟩
          · omega
          · exact h
        have Hres := Lib.hid hres
        clear hq hres
        go_wp2
        go_ret
        have hvl2 : vs.length = (cutL c l).length := by rw [Hres.out, ← Hvs.out, List.length_map]
        refine ⟨A', c', by rw [hvl2]; rfl, fun h0 => ?_, hn⟩
        · obtain ⟨g, rfl, hg1, hg2⟩ := Hown.out.at (by rw [hvl2]; exact h0)
          refine ⟨g, 0, rfl, hg2, fun j p hj => ?_⟩
          have := Hown.out.cell (k := j) (v := Str p) (by rw [← Hvs.out, ← Hres.out, List.getElem?_map, hj]; rfl)
          simpa using this
end Go.Proofs.YtekepbcmjfdcjaaDoor
