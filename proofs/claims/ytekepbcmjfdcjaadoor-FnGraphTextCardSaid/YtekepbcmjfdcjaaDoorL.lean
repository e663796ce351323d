/- Plain law: connected nodes, labels of connected parts; the rounds of the program and of the reference lead to the same labels. No program in sight. -/
namespace Go.Proofs.YtekepbcmjfdcjaaDoor

abbrev Es := List (Int × Int)

/-- two nodes are joined by an edge -/
def Adj (es : Es) (x y : Int) : Prop := (x, y) ∈ es ∨ (y, x) ∈ es
theorem Adj.symm {es : Es} {x y : Int} (h : Adj es x y) : Adj es y x := Or.symm h

inductive Conn (es : Es) (x : Int) : Int → Prop
  | refl : Conn es x x
  | step {y z : Int} : Conn es x y → Adj es y z → Conn es x z

theorem Conn.trans {es : Es} {x y z : Int} (h : Conn es x y) (k : Conn es y z) : Conn es x z := by
  induction k with
  | refl => exact h
  | step _ a ih => exact .step ih a
theorem Conn.one {es : Es} {x y : Int} (h : Adj es x y) : Conn es x y := .step .refl h
theorem Conn.symm {es : Es} {x y : Int} (h : Conn es x y) : Conn es y x := by
  induction h with
  | refl => exact .refl
  | step _ a ih => exact (Conn.one a.symm).trans ih
theorem Conn.mono {es es' : Es} (hs : ∀ e ∈ es, e ∈ es') {x y : Int} (h : Conn es x y) : Conn es' x y := by
  induction h with
  | refl => exact .refl
  | step _ a ih => exact .step ih (a.imp (hs _) (hs _))

/-- the entry of a list at a node -/
def lk (L : List Int) (x : Int) : Int := L[x.toNat]?.getD 0
def up (L : List Int) (x v : Int) : List Int := L.set x.toNat v
theorem up_length (L : List Int) (x v : Int) : (up L x v).length = L.length := by simp [up]
theorem lk_up_same {L : List Int} {x v : Int} (h0 : 0 ≤ x) (h : x < L.length) : lk (up L x v) x = v := by
  unfold lk up
  rw [List.getElem?_set_self (by omega)]; rfl
theorem lk_up_ne {L : List Int} {x y v : Int} (h0 : 0 ≤ x) (h1 : 0 ≤ y) (h : x ≠ y) : lk (up L x v) y = lk L y := by
  unfold lk up
  rw [List.getElem?_set_ne (by omega)]
theorem lk_ext {L M : List Int} (hl : L.length = M.length) (h : ∀ x : Int, 0 ≤ x → x < L.length → lk L x = lk M x) : L = M := by
  apply List.ext_getElem hl
  intro i h1 h2
  have := h i (by omega) (by omega)
  simpa [lk, h1, h2] using this

/-- all ends of edges are nodes -/
def InR (n : Nat) (es : Es) : Prop := ∀ e ∈ es, 0 ≤ e.1 ∧ e.1 < n ∧ 0 ≤ e.2 ∧ e.2 < n
theorem InR.adj {n : Nat} {es : Es} (h : InR n es) {x y : Int} (a : Adj es x y) : 0 ≤ x ∧ x < n ∧ 0 ≤ y ∧ y < n := by
  rcases a with a | a
  · exact h _ a
  · have := h _ a; exact ⟨this.2.2.1, this.2.2.2, this.1, this.2.1⟩
theorem InR.conn {n : Nat} {es : Es} (h : InR n es) {x y : Int} (c : Conn es x y) (h0 : 0 ≤ x) (h1 : x < n) : 0 ≤ y ∧ y < n := by
  induction c with
  | refl => exact ⟨h0, h1⟩
  | step _ a _ => have := h.adj a; exact ⟨this.2.2.1, this.2.2.2⟩

/-- labels on the way: each one is a connected node, and not greater -/
def Lab0 (n : Nat) (es : Es) (L : List Int) : Prop := L.length = n ∧ ∀ x : Int, 0 ≤ x → x < n → 0 ≤ lk L x ∧ lk L x ≤ x ∧ Conn es x (lk L x)
/-- labels in the end: equal at both ends of each edge -/
def IsLab (n : Nat) (es : Es) (L : List Int) : Prop := Lab0 n es L ∧ ∀ e ∈ es, lk L e.1 = lk L e.2

theorem IsLab.const {n : Nat} {es : Es} {L : List Int} (h : IsLab n es L) {x y : Int} (c : Conn es x y) : lk L x = lk L y := by
  induction c with
  | refl => rfl
  | step _ a ih =>
    rw [ih]
    rcases a with a | a
    · exact h.2 _ a
    · exact (h.2 _ a).symm
theorem IsLab.unique {n : Nat} {es : Es} {L M : List Int} (hL : IsLab n es L) (hM : IsLab n es M) (hr : InR n es) : L = M := by
  refine lk_ext (hL.1.1.trans hM.1.1.symm) fun x h0 h1 => ?_
  rw [hL.1.1] at h1
  have a := hL.1.2 x h0 h1
  have b := hM.1.2 x h0 h1
  have c1 : lk L x ≤ lk M x := by
    have hb := hr.conn b.2.2 h0 h1
    rw [hL.const b.2.2]; exact (hL.1.2 _ hb.1 hb.2).2.1
  have c2 : lk M x ≤ lk L x := by
    have hb := hr.conn a.2.2 h0 h1
    rw [hM.const a.2.2]; exact (hM.1.2 _ hb.1 hb.2).2.1
  omega
theorem IsLab.iff {n : Nat} {es : Es} {L : List Int} (h : IsLab n es L) {x y : Int} (hx : 0 ≤ x ∧ x < n) (hy : 0 ≤ y ∧ y < n) : lk L x = lk L y ↔ Conn es x y :=
  ⟨fun e => (h.1.2 x hx.1 hx.2).2.2.trans (e ▸ (h.1.2 y hy.1 hy.2).2.2.symm), h.const⟩

open Classical in
/-- the labels of the connected parts -/
noncomputable def labels (n : Nat) (es : Es) : List Int := if h : ∃ L, IsLab n es L then Classical.choose h else []
theorem labels_eq {n : Nat} {es : Es} {L : List Int} (h : IsLab n es L) (hr : InR n es) : labels n es = L := by
  have hex : ∃ L, IsLab n es L := ⟨L, h⟩
  unfold labels
  rw [dif_pos hex]
  exact (Classical.choose_spec hex).unique h hr

/-- one edge's turn -/
def relax1 (L : List Int) (e : Int × Int) : List Int := up (up L e.1 (min (lk L e.1) (lk L e.2))) e.2 (min (lk L e.1) (lk L e.2))
def pass (es : Es) (L : List Int) : List Int := es.foldl relax1 L
theorem relax1_length (L : List Int) (e : Int × Int) : (relax1 L e).length = L.length := by simp [relax1, up_length]

theorem lk_relax1 {n : Nat} {L : List Int} {e : Int × Int} (hl : L.length = n) (he : 0 ≤ e.1 ∧ e.1 < n ∧ 0 ≤ e.2 ∧ e.2 < n) {x : Int} (hx : 0 ≤ x) :
    lk (relax1 L e) x = if x = e.1 ∨ x = e.2 then min (lk L e.1) (lk L e.2) else lk L x := by
  obtain ⟨h1, h2, h3, h4⟩ := he
  unfold relax1
  by_cases a : x = e.2
  · subst a
    rw [if_pos (Or.inr rfl), lk_up_same h3 (by rw [up_length, hl]; exact h4)]
  · rw [lk_up_ne h3 hx (Ne.symm a)]
    by_cases b : x = e.1
    · subst b
      rw [if_pos (Or.inl rfl), lk_up_same h1 (by omega)]
    · rw [if_neg (by simp [a, b]), lk_up_ne h1 hx (Ne.symm b)]

theorem Lab0.relax {n : Nat} {es : Es} {L : List Int} (h : Lab0 n es L) (hr : InR n es) {e : Int × Int} (he : e ∈ es) : Lab0 n es (relax1 L e) := by
  have her := hr e he
  refine ⟨(relax1_length L e).trans h.1, fun x h0 h1 => ?_⟩
  rw [lk_relax1 h.1 her h0]
  have a := h.2 e.1 her.1 her.2.1
  have b := h.2 e.2 her.2.2.1 her.2.2.2
  have cab : Conn es e.1 e.2 := .one (Or.inl he)
  split
  · rename_i hx
    have key : Conn es e.1 (min (lk L e.1) (lk L e.2)) := by
      rcases Int.le_total (lk L e.1) (lk L e.2) with hm | hm
      · rw [Int.min_eq_left hm]; exact a.2.2
      · rw [Int.min_eq_right hm]; exact cab.trans b.2.2
    rcases hx with rfl | rfl
    · exact ⟨by omega, by omega, key⟩
    · exact ⟨by omega, by omega, cab.symm.trans key⟩
  · exact h.2 x h0 h1
theorem Lab0.foldl {n : Nat} {es : Es} (hr : InR n es) : ∀ (l : Es), (∀ e ∈ l, e ∈ es) → ∀ {L : List Int}, Lab0 n es L → Lab0 n es (l.foldl relax1 L)
  | [], _, _, h => h
  | e :: l, hs, _, h => Lab0.foldl hr l (fun x hx => hs x (List.mem_cons_of_mem _ hx)) (h.relax hr (hs e (List.mem_cons_self)))

/-- m is the least node of its part -/
def Least (es : Es) (m : Int) : Prop := ∀ z, Conn es m z → 0 ≤ z → m ≤ z

theorem keep_m {n : Nat} {es : Es} (hr : InR n es) {m : Int} (hm : Least es m) : ∀ (l : Es), (∀ e ∈ l, e ∈ es) → ∀ {L : List Int}, Lab0 n es L → ∀ {y : Int}, 0 ≤ y → y < n → Conn es m y → lk L y = m → lk (l.foldl relax1 L) y = m
  | [], _, _, _, _, _, _, _, h => h
  | e :: l, hs, L, hL, y, h0, h1, c, h => by
    have he := hs e (List.mem_cons_self)
    have her := hr e he
    refine keep_m hr hm l (fun x hx => hs x (List.mem_cons_of_mem _ hx)) (hL.relax hr he) h0 h1 c ?_
    rw [lk_relax1 hL.1 her h0]
    split
    · rename_i hx
      have a := hL.2 e.1 her.1 her.2.1
      have b := hL.2 e.2 her.2.2.1 her.2.2.2
      have cab : Conn es e.1 e.2 := .one (Or.inl he)
      rcases hx with rfl | rfl
      · have := hm _ (c.trans (cab.trans b.2.2)) b.1; omega
      · have := hm _ (c.trans (cab.symm.trans a.2.2)) a.1; omega
    · exact h
theorem spread_m {n : Nat} {es : Es} (hr : InR n es) {m : Int} (hm : Least es m) : ∀ (l : Es), (∀ e ∈ l, e ∈ es) → ∀ {L : List Int}, Lab0 n es L → ∀ {y z : Int}, Conn es m y → lk L y = m → Adj l y z → lk (l.foldl relax1 L) z = m
  | [], _, _, _, _, _, _, _, h => by rcases h with h | h <;> simp at h
  | e :: l, hs, L, hL, y, z, c, h, a => by
    have he := hs e (List.mem_cons_self)
    have her := hr e he
    have hs' : ∀ x ∈ l, x ∈ es := fun x hx => hs x (List.mem_cons_of_mem _ hx)
    have aes : Adj es y z := a.imp (hs _) (hs _)
    have hyz := hr.adj aes
    have b1 := hL.2 e.1 her.1 her.2.1
    have b2 := hL.2 e.2 her.2.2.1 her.2.2.2
    have bz := hL.2 z hyz.2.2.1 hyz.2.2.2
    have cz : Conn es m z := .step c aes
    have hz := hm _ (cz.trans bz.2.2) bz.1
    by_cases hh : e = (y, z) ∨ e = (z, y)
    · refine keep_m hr hm l hs' (hL.relax hr he) hyz.2.2.1 hyz.2.2.2 cz ?_
      rw [lk_relax1 hL.1 her hyz.2.2.1]
      rcases hh with rfl | rfl
      · rw [if_pos (Or.inr rfl)]; simp only; omega
      · rw [if_pos (Or.inl rfl)]; simp only; omega
    · have a' : Adj l y z := by
        rcases a with a | a
        · rcases List.mem_cons.1 a with a | a
          · exact absurd (Or.inl a.symm) hh
          · exact Or.inl a
        · rcases List.mem_cons.1 a with a | a
          · exact absurd (Or.inr a.symm) hh
          · exact Or.inr a
      refine spread_m hr hm l hs' (hL.relax hr he) c ?_ a'
      exact keep_m hr hm [e] (fun x hx => by simp at hx; exact hx ▸ he) hL hyz.1 hyz.2.1 c h

/-- within so many edges of m -/
def Within (es : Es) (m : Int) : Nat → Int → Prop
  | 0, y => y = m
  | r + 1, y => Within es m r y ∨ ∃ z, Within es m r z ∧ Adj es z y
theorem Within.conn {es : Es} {m : Int} : ∀ (r : Nat) (y : Int), Within es m r y → Conn es m y
  | 0, _, h => h ▸ .refl
  | r + 1, y, h => by
    rcases h with h | ⟨z, h, a⟩
    · exact Within.conn r y h
    · exact .step (Within.conn r z h) a

theorem countP_lt {l : List Nat} {p q : Nat → Bool} (hpq : ∀ x ∈ l, p x = true → q x = true) {y : Nat} (hy : y ∈ l) (hq : q y = true) (hp : p y = false) : l.countP p < l.countP q := by
  induction l with
  | nil => simp at hy
  | cons a l ih =>
    rw [List.countP_cons, List.countP_cons]
    have hle : l.countP p ≤ l.countP q := List.countP_mono_left (fun x hx => hpq x (List.mem_cons_of_mem _ hx))
    rcases List.mem_cons.1 hy with rfl | hy
    · rw [hq, hp]; simp; omega
    · have := ih (fun x hx => hpq x (List.mem_cons_of_mem _ hx)) hy
      have : p a = true → q a = true := hpq a (List.mem_cons_self)
      cases hpa : p a <;> cases hqa : q a <;> simp_all <;> omega

open Classical in
theorem within_closed {n : Nat} {es : Es} (hr : InR n es) {m : Int} (h0 : 0 ≤ m) (h1 : m < n) : ∀ y, Within es m (n + 1) y → Within es m n y := by
  have hrange : ∀ r y, Within es m r y → 0 ≤ y ∧ y < n := fun r y h => hr.conn (h.conn) h0 h1
  have key : ∀ r, (∀ y, Within es m (r + 1) y → Within es m r y) ∨ r + 1 ≤ (List.range n).countP fun (y : Nat) => decide (Within es m r (y : Int)) := by
    intro r
    induction r with
    | zero =>
      right
      have : 0 < (List.range n).countP fun (y : Nat) => decide (Within es m 0 (y : Int)) := List.countP_pos_iff.2 ⟨m.toNat, List.mem_range.2 (by omega), by simp [Within]; omega⟩
      omega
    | succ r ih =>
      rcases ih with ih | ih
      · left
        intro y h
        rcases h with h | ⟨z, h, a⟩
        · exact h
        · exact Or.inr ⟨z, ih z h, a⟩
      · by_cases hc : ∀ y, Within es m (r + 1) y → Within es m r y
        · left
          intro y h
          rcases h with h | ⟨z, h, a⟩
          · exact h
          · exact Or.inr ⟨z, hc z h, a⟩
        · right
          obtain ⟨y, hy⟩ := Classical.not_forall.1 hc
          obtain ⟨hy1, hy2⟩ := Classical.not_imp.1 hy
          have hb := hrange _ _ hy1
          have hyc : ((y.toNat : Nat) : Int) = y := by omega
          have := countP_lt (l := List.range n) (p := fun (y : Nat) => decide (Within es m r (y : Int))) (q := fun (y : Nat) => decide (Within es m (r + 1) (y : Int)))
            (fun x _ hx => by simp at hx ⊢; exact Or.inl hx) (y := y.toNat) (List.mem_range.2 (by omega)) (by rw [hyc]; simpa using hy1) (by rw [hyc]; simpa using hy2)
          omega
  rcases key n with h | h
  · exact h
  · have := List.countP_le_length (p := fun y : Nat => decide (Within es m n (y : Int))) (l := List.range n)
    rw [List.length_range] at this
    omega

theorem conn_within {n : Nat} {es : Es} (hr : InR n es) {m y : Int} (h0 : 0 ≤ m) (h1 : m < n) (c : Conn es m y) : Within es m n y := by
  have hc := within_closed hr h0 h1
  induction c with
  | refl =>
    have : ∀ r, Within es m r m := fun r => by
      induction r with
      | zero => rfl
      | succ r ih => exact Or.inl ih
    exact this n
  | step _ a ih => exact hc _ (Or.inr ⟨_, ih, a⟩)

def idL (n : Nat) : List Int := (List.range n).map fun (i : Nat) => (i : Int)
theorem idL_lk {n : Nat} {x : Int} (h0 : 0 ≤ x) (h1 : x < n) : lk (idL n) x = x := by
  unfold lk idL
  rw [List.getElem?_map, List.getElem?_range (by omega)]
  simp; omega
theorem idL_lab0 (n : Nat) (es : Es) : Lab0 n es (idL n) := ⟨by simp [idL], fun x h0 h1 => by rw [idL_lk h0 h1]; exact ⟨h0, Int.le_refl _, .refl⟩⟩

/-- so many rounds -/
def passes (es : Es) : Nat → List Int → List Int
  | 0, L => L
  | r + 1, L => pass es (passes es r L)
theorem passes_lab0 {n : Nat} {es : Es} (hr : InR n es) : ∀ r, Lab0 n es (passes es r (idL n))
  | 0 => idL_lab0 n es
  | r + 1 => Lab0.foldl hr es (fun _ h => h) (passes_lab0 hr r)
theorem passes_within {n : Nat} {es : Es} (hr : InR n es) {m : Int} (hm : Least es m) (h0 : 0 ≤ m) (h1 : m < n) : ∀ r y, Within es m r y → lk (passes es r (idL n)) y = m
  | 0, y, h => by
    have h : y = m := h
    subst h; exact idL_lk h0 h1
  | r + 1, y, h => by
    rcases h with h | ⟨z, h, a⟩
    · have hc := h.conn
      have hb := hr.conn hc h0 h1
      exact keep_m hr hm es (fun _ h => h) (passes_lab0 hr r) hb.1 hb.2 hc (passes_within hr hm h0 h1 r y h)
    · exact spread_m hr hm es (fun _ h => h) (passes_lab0 hr r) h.conn (passes_within hr hm h0 h1 r z h) a

theorem least_exists {n : Nat} {es : Es} (hr : InR n es) {x : Int} (h0 : 0 ≤ x) (h1 : x < n) : ∃ m, Conn es x m ∧ 0 ≤ m ∧ m < n ∧ Least es m := by
  have key : ∀ (k : Nat) (x : Int), 0 ≤ x → x < n → x.toNat ≤ k → ∃ m, Conn es x m ∧ 0 ≤ m ∧ m < n ∧ Least es m := by
    intro k
    induction k with
    | zero =>
      intro x h0 h1 hk
      exact ⟨x, .refl, h0, h1, fun z _ hz => by omega⟩
    | succ k ih =>
      intro x h0 h1 hk
      by_cases h : ∀ z, Conn es x z → 0 ≤ z → x ≤ z
      · exact ⟨x, .refl, h0, h1, h⟩
      · obtain ⟨z, hz⟩ := Classical.not_forall.1 h
        obtain ⟨hz1, hz⟩ := Classical.not_imp.1 hz
        obtain ⟨hz2, hz3⟩ := Classical.not_imp.1 hz
        obtain ⟨m, c, r⟩ := ih z hz2 (hr.conn hz1 h0 h1).2 (by omega)
        exact ⟨m, hz1.trans c, r⟩
  exact key x.toNat x h0 h1 (Nat.le_refl _)

/-- as many rounds as there are nodes lead to the labels -/
theorem passes_isLab {n : Nat} {es : Es} (hr : InR n es) : IsLab n es (passes es n (idL n)) := by
  refine ⟨passes_lab0 hr n, fun e he => ?_⟩
  have her := hr e he
  obtain ⟨m, c, h0, h1, hm⟩ := least_exists hr her.1 her.2.1
  have c2 : Conn es m e.2 := .step c.symm (Or.inl he)
  rw [passes_within hr hm h0 h1 n e.1 (conn_within hr h0 h1 c.symm), passes_within hr hm h0 h1 n e.2 (conn_within hr h0 h1 c2)]
theorem labels_isLab {n : Nat} {es : Es} (hr : InR n es) : IsLab n es (labels n es) := by
  rw [labels_eq (passes_isLab hr) hr]; exact passes_isLab hr
theorem labels_length {n : Nat} {es : Es} (hr : InR n es) : (labels n es).length = n := (labels_isLab hr).1.1
theorem labels_iff {n : Nat} {es : Es} (hr : InR n es) {x y : Int} (hx : 0 ≤ x ∧ x < n) (hy : 0 ≤ y ∧ y < n) : lk (labels n es) x = lk (labels n es) y ↔ Conn es x y := (labels_isLab hr).iff hx hy
theorem labels_bd {n : Nat} {es : Es} (hr : InR n es) {x : Int} (h0 : 0 ≤ x) (h1 : x < n) : 0 ≤ lk (labels n es) x ∧ lk (labels n es) x ≤ x := ⟨((labels_isLab hr).1.2 x h0 h1).1, ((labels_isLab hr).1.2 x h0 h1).2.1⟩
end Go.Proofs.YtekepbcmjfdcjaaDoor
