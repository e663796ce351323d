/- Rows of sets, where they lie; short contracts of the exact laws on sets. -/
import Derived.Test.YticjoichmcegnaaTF
import Derived.Test.YticjoichmcegnaaTD
namespace Go.Proofs.Yticjoichmcegnaa
open Go.RowKit set_option linter.unusedVariables false set_option linter.unusedSimpArgs false

/-- three rows of one's own in the blocks from lo to hi -/
structure Rws (w : World) (lo hi : Nat) (s : SS) (A : Option Addr) (ca : Nat) (B : Option Addr) (cb : Nat) (C : Option Addr) (cc : Nat) : Prop where
  a : OwnI w lo 3 A ca s.P
  b : OwnI w lo 3 B cb s.Z
  c : OwnE w lo 98 C cc s.T
  ab : Apart A B
  ac : Apart A C
  bc : Apart B C
  la : ∀ k, blk A = some k → k < hi
  lb : ∀ k, blk B = some k → k < hi
  lc : ∀ k, blk C = some k → k < hi
/-- three rows to be read in the blocks from lo to hi -/
structure Rds (w : World) (lo hi : Nat) (s : SS) (A B C : Option Addr) : Prop where
  a : IntsAt w A s.P
  b : IntsAt w B s.Z
  c : EdgesAt w C s.T
  la : ∀ k, blk A = some k → lo ≤ k ∧ k < hi
  lb : ∀ k, blk B = some k → lo ≤ k ∧ k < hi
  lc : ∀ k, blk C = some k → lo ≤ k ∧ k < hi
section
variable {w w' : World} {lo hi lo' hi' ca cb cc : Nat} {s : SS} {A B C : Option Addr}
theorem OwnI.gx {p : Nat → Prop} {a w : World} {base c : Nat} {t : TypeId} {A : Option Addr} {es : List Int} (h : OwnI a base t A c es) (g : Gx p a w) (hp : ∀ k, blk A = some k → ¬ p k) : OwnI w base t A c es := by
  refine ⟨h.1, ?_⟩
  rcases h.2 with h1 | ⟨b, cap, cur, h1, h2, h3, h4⟩
  · exact .inl h1
  · injection h1 with hA _ hc
    subst hA; subst hc
    exact .inr ⟨b, c, cur, rfl, h2, (g.block b (Array.getElem?_eq_some_iff.1 h3).1 (hp b rfl)).trans h3, h4⟩
theorem Rws.nx (h : Rws w lo hi s A ca B cb C cc) (hn : Nx w w') : Rws w' lo hi s A ca B cb C cc := ⟨h.a.nx hn, h.b.nx hn, h.c.nx hn, h.ab, h.ac, h.bc, h.la, h.lb, h.lc⟩
theorem Rds.nx (h : Rds w lo hi s A B C) (hn : Nx w w') : Rds w' lo hi s A B C := ⟨h.a.nx hn, h.b.nx hn, h.c.nx hn, h.la, h.lb, h.lc⟩
theorem Rws.rd (h : Rws w lo hi s A ca B cb C cc) : Rds w lo hi s A B C := ⟨h.a.intsAt, h.b.intsAt, h.c.edgesAt, fun k hk => ⟨(h.a.lt k hk).1, h.la k hk⟩, fun k hk => ⟨(h.b.lt k hk).1, h.lb k hk⟩, fun k hk => ⟨(h.c.lt k hk).1, h.lc k hk⟩⟩
theorem Rws.gx (h : Rws w lo hi s A ca B cb C cc) (g : Gx (fun k => lo' ≤ k ∧ k < hi') w w') (hd : hi ≤ lo' ∨ hi' ≤ lo) : Rws w' lo hi s A ca B cb C cc :=
  ⟨h.a.gx g fun k hk => by have := (h.a.lt k hk).1; have := h.la k hk; omega, h.b.gx g fun k hk => by have := (h.b.lt k hk).1; have := h.lb k hk; omega, h.c.gx g fun k hk => by have := (h.c.lt k hk).1; have := h.lc k hk; omega, h.ab, h.ac, h.bc, h.la, h.lb, h.lc⟩
theorem Rds.gx (h : Rds w lo hi s A B C) (g : Gx (fun k => lo' ≤ k ∧ k < hi') w w') (hd : hi ≤ lo' ∨ hi' ≤ lo) : Rds w' lo hi s A B C :=
  ⟨g.ints h.a fun k hk => by have := h.la k hk; omega, g.ints h.b fun k hk => by have := h.lb k hk; omega, g.edges h.c fun k hk => by have := h.lc k hk; omega, h.la, h.lb, h.lc⟩
end
def RetR (s : SS) (f : Value → Value) (w : World) (e : Ending) (w' : World) : Prop :=
  ∃ A ca B cb C cc, e = .returned (f (St A s.P.length ca B s.Z.length cb C s.T.length cc)) ∧ Rws w' w.heap.size w'.heap.size s A ca B cb C cc ∧ Nx w w'
def RetD (s : SS) (f : Value → Value) (w : World) (e : Ending) (w' : World) : Prop :=
  ∃ A ca B cb C cc, e = .returned (f (St A s.P.length ca B s.Z.length cb C s.T.length cc)) ∧ Rds w' w.heap.size w'.heap.size s A B C ∧ Nx w w'
theorem RetSS.r {s : SS} {f : Value → Value} {w : World} {e : Ending} {w' : World} (h : RetSS s f w e w') : RetR s f w e w' := by
  obtain ⟨A, ca, B, cb, C, cc, h1, h2, h3, h4, h5, h6, h7, h8⟩ := h
  exact ⟨A, ca, B, cb, C, cc, h1, ⟨h2, h3, h4, h5, h6, h7, fun k hk => (h2.lt k hk).2, fun k hk => (h3.lt k hk).2, fun k hk => (h4.lt k hk).2⟩, h8⟩
theorem RetSW.d {s : SS} {f : Value → Value} {w : World} {e : Ending} {w' : World} (h : RetSW s f w e w') : RetD s f w e w' := by
  obtain ⟨A, ca, B, cb, C, cc, h1, h2, h3, h4, h5, h6, h7, h8⟩ := h
  exact ⟨A, ca, B, cb, C, cc, h1, ⟨h2.intsAt, h3.intsAt, h4.edgesAt, h2.lt, h3.lt, h4.lt⟩, h8⟩
/-- no sets at all -/
def nilS : SS := ⟨[], [], []⟩
theorem RetV.r {b : Bool} {w : World} {e : Ending} {w' : World} (h : RetV (tupT b (St none 0 0 none 0 0 none 0 0)) w e w') : RetR nilS (tupT b) w e w' :=
  ⟨none, 0, none, 0, none, 0, h.1, ⟨OwnI.nil _ _ _, OwnI.nil _ _ _, OwnE.nil _ _ _, .inl rfl, .inl rfl, .inl rfl, fun k hk => (by cases hk), fun k hk => (by cases hk), fun k hk => (by cases hk)⟩, h.2⟩
theorem RetV.d {b : Bool} {w : World} {e : Ending} {w' : World} (h : RetV (tupT b (St none 0 0 none 0 0 none 0 0)) w e w') : RetD nilS (tupT b) w e w' :=
  ⟨none, 0, none, 0, none, 0, h.1, ⟨fun h => (by simp [nilS] at h), fun h => (by simp [nilS] at h), fun h => (by simp [nilS] at h), fun k hk => (by cases hk), fun k hk => (by cases hk), fun k hk => (by cases hk)⟩, h.2⟩

/-- what the marks are -/
def mkS (n1 n2 n3 : Nat) : SS := ⟨mkI 1 n1, mkI (1 + n1) n2, mkE (1 + n1 + n2) n3⟩
def MarkR (lo hi : Nat) (n1 n2 n3 : Nat) (A : Option Addr) (ca : Nat) (B : Option Addr) (cb : Nat) (C : Option Addr) (cc : Nat) (w : World) (e : Ending) (w' : World) : Prop :=
  e = .returned (V (1 + n1 + n2 + 2 * n3)) ∧ Rws w' lo hi (mkS n1 n2 n3) A ca B cb C cc ∧ Gx (fun k => lo ≤ k ∧ k < hi) w w'
theorem markSets_r (lo hi : Nat) (s : SS) (A B C : Option Addr) (ca cb cc : Nat) (w : World) (h : Rws w lo hi s A ca B cb C cc) (h1 : s.P.length ≤ 1048576) (h2 : s.Z.length ≤ 1048576) (h3 : s.T.length ≤ 1048576) :
    Calls Try.prog 37 #[St A s.P.length ca B s.Z.length cb C s.T.length cc, V 1] w (MarkR lo hi s.P.length s.Z.length s.T.length A ca B cb C cc w) := by
  refine (markSets_c 3 3 98 lo lo lo A B C s.P.length s.Z.length s.T.length ca cb cc s.P s.Z s.T 1 w rfl rfl rfl h.a h.b h.c h.ab h.ac h.bc h1 h2 h3 (by omega) (by omega)).mono ?_
  rintro e w' ⟨rfl, hA, hB, hC, hg⟩
  refine ⟨rfl, ⟨hA, hB, hC, h.ab, h.ac, h.bc, h.la, h.lb, h.lc⟩, ?_⟩
  obtain ⟨w1, g1, w2, g2, w3, g3, g4⟩ := hg
  exact ((((Gx.refl _ w).grown g1 fun j e => .inl ⟨(h.a.lt j e).1, h.la j e⟩).grown g2 fun j e => .inl ⟨(h.b.lt j e).1, h.lb j e⟩).grown g3 fun j e => .inl ⟨(h.c.lt j e).1, h.lc j e⟩).nx g4
theorem heldSets_r (lo hi n1 n2 n3 : Nat) (A B C : Option Addr) (ca cb cc : Nat) (w : World) (h : Rds w lo hi (mkS n1 n2 n3) A B C) (h1 : n1 ≤ 1048576) (h2 : n2 ≤ 1048576) (h3 : n3 ≤ 1048576) :
    Calls Try.prog 38 #[St A n1 ca B n2 cb C n3 cc, V 1] w (RetV (V (1 + n1 + n2 + 2 * n3)) w) :=
  heldSets_c A B C n1 n2 n3 ca cb cc 1 w h.a h.b h.c h1 h2 h3 (by omega) (by omega)
theorem eqSets_r (lo hi lo' hi' : Nat) (s : SS) (A B C A' B' C' : Option Addr) (ca cb cc ca' cb' cc' : Nat) (w : World) (h : Rds w lo hi s A B C) (h' : Rds w lo' hi' s A' B' C') (h1 : s.P.length ≤ 1048576) (h2 : s.Z.length ≤ 1048576) (h3 : s.T.length ≤ 1048576) :
    Calls Try.prog 25 #[St A s.P.length ca B s.Z.length cb C s.T.length cc, St A' s.P.length ca' B' s.Z.length cb' C' s.T.length cc'] w (RetV (.bool true) w) :=
  eqSets_yes A B C A' B' C' ca cb cc ca' cb' cc' s.P s.Z s.T w h.a h.b h.c h'.a h'.b h'.c h1 h2 h3
end Go.Proofs.Yticjoichmcegnaa
