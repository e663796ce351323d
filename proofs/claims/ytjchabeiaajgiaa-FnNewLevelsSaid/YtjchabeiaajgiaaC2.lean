/- Contracts: slices.IndexFunc and slices.DeleteFunc over edges, whatever the function value. -/
import Derived.Test.YtjchabeiaajgiaaC1
import Derived.Test.YtjchabeiaajgiaaH
namespace Go.Proofs.Ytjchabeiaajgiaa
open Go.RowKit

/-- a function value that says of an edge whether p holds, in each world that has come of w with nothing turned but one row -/
def TellsE (g : Nat) (bd lb : Array Value) (p : Int × Int → Bool) (es : Es) (row : Option Nat) (w : World) : Prop :=
  ∀ (W : World) (x y : Int), (x, y) ∈ es → w.grownBy W row → Calls Try.prog g (bd.push (Ed x y) ++ lb) W (RetV (.bool (p (x, y))) W)
theorem TellsE.row {g : Nat} {bd lb : Array Value} {p : Int × Int → Bool} {es : Es} {row : Option Nat} {w w' : World} (h : TellsE g bd lb p es none w) (hn : Nx w w') (hr : ∀ k, row = some k → w.heap.size ≤ k) : TellsE g bd lb p es row w' :=
  fun W x y hm hW => h W x y hm (Nx.grown hn hW hr).grownNone

/-- the first place where p holds, or -1 -/
def fstI (p : Int × Int → Bool) (es : Es) : Int := if es.any p then (es.findIdx p : Int) else -1
theorem fstI_hit {p : Int × Int → Bool} {es : Es} {k : Nat} {e : Int × Int} (hno : ∀ j, j < k → ∀ d, es[j]? = some d → p d = false) (he : es[k]? = some e) (hp : p e = true) : fstI p es = k := by
  have hm : es.any p = true := List.any_eq_true.2 ⟨e, List.mem_of_getElem? he, hp⟩
  have hk : k < es.length := (List.getElem?_eq_some_iff.1 he).1
  have hek : es[k] = e := by rw [List.getElem?_eq_getElem hk] at he; injection he
  unfold fstI
  rw [if_pos hm]
  congr 1
  refine (List.findIdx_eq hk).2 ⟨by rw [hek]; exact hp, fun j hj => ?_⟩
  exact hno j hj _ (List.getElem?_eq_getElem (by omega))
theorem fstI_no {p : Int × Int → Bool} {es : Es} (hno : ∀ j, j < es.length → ∀ d, es[j]? = some d → p d = false) : fstI p es = -1 := by
  have hm : es.any p = false := List.any_eq_false.2 fun e he => by
    obtain ⟨j, hj, rfl⟩ := List.getElem_of_mem he
    simp [hno j hj _ (List.getElem?_eq_getElem hj)]
  simp [fstI, hm]
theorem no_step {p : Int × Int → Bool} {es : Es} {k : Nat} {e : Int × Int} (hno : ∀ j, j < k → ∀ d, es[j]? = some d → p d = false) (he : es[k]? = some e) (hp : p e = false) : ∀ j, j < k + 1 → ∀ d, es[j]? = some d → p d = false := fun j hj d hd => by
  rcases Nat.lt_succ_iff_lt_or_eq.1 hj with h | rfl
  · exact hno j h d hd
  · rw [he] at hd; injection hd with hd; subst hd; exact hp

set_option maxRecDepth 100000 in
set_option maxHeartbeats 2000000 in
theorem indexFuncE_c (g : Nat) (bd lb : Array Value) (p : Int × Int → Bool) (row : Option Nat) (eg : ∀ args w, (callFunc g args).run Try.prog w = .ok (.enter g args) w) (A : Option Addr) (c : Nat) (es : List (Int × Int)) (w : World)
    (hx : EdgesAt w A es) (hl : es.length ≤ 1048576) (hp : TellsE g bd lb p es row w) :
    Calls Try.prog 161 #[.slice A es.length c, .func (.func g) bd lb] w (RetV (V (fstI p es)) w) := by
  have Hp := Lib.hid hp
  clear hp
  go_enter Try.func161, Try.ntmps161
  go_wp2
  go_loopg [5, 8] es.length (fun gk _ i wr => ∃ k : Nat, k + gk = es.length ∧ i = .int .i64 k ∧ Nx w wr ∧ ∀ j, j < k → ∀ d, es[j]? = some d → p d = false)
  case atStart => exact ⟨0, by omega, rfl, Nx.refl _, fun j hj => by omega⟩
  case round =>
    obtain ⟨k, hk, rfl, hn, hno⟩ := hrel
    have Hno := Lib.hid hno
    clear hno
    by_cases hlt : k < es.length
    · have hek : es[k]? = some es[k] := List.getElem?_eq_getElem hlt
      obtain ⟨b, off, rfl, hbl, hc⟩ := hx (by omega)
      have h1 := hn.cell (p := ⟨b, off + k * 2, none⟩) hbl (hc k hlt).1
      have h2 := hn.cell (p := ⟨b, off + k * 2 + 1, none⟩) hbl (hc k hlt).2
      clear hc hx
      generalize es[k] = e at *
      obtain ⟨x, y⟩ := e
      have Hek := Lib.hid hek
      clear hek
      go_wp2_with fail
      refine (Hp.out wr x y (List.mem_of_getElem? Hek.out) (hn.grownR row)).mono ?_
      rintro e w' ⟨rfl, hn'⟩
      cases hq : p (x, y) with
      | true =>
        have Hq := Lib.hid hq
        clear hq
        go_wp2
        go_ret
        exact RetV.int (fstI_hit Hno.out Hek.out Hq.out).symm (by repeat (first | exact Nx.refl _ | assumption | apply Nx.alloc | apply Nx.drew | apply Nx.drewN | (refine Nx.setCell ?_ (by first | (simp; done) | (simp; omega) | omega) _) | refine Nx.trans ?_ (by assumption)))
      | false =>
        have Hq := Lib.hid hq
        clear hq
        go_wp2
        go_roundg (gk - 1)
        case measure => omega
        case rel => exact ⟨k + 1, by omega, by go_num, (by repeat (first | exact Nx.refl _ | assumption | apply Nx.alloc | apply Nx.drew | apply Nx.drewN | (refine Nx.setCell ?_ (by first | (simp; done) | (simp; omega) | omega) _) | refine Nx.trans ?_ (by assumption))), no_step Hno.out Hek.out Hq.out⟩
    · go_wp2
      go_ret
      exact RetV.int (fstI_no (fun j hj => Hno.out j (by omega))).symm (by repeat (first | exact Nx.refl _ | assumption | apply Nx.alloc | apply Nx.drew | apply Nx.drewN | (refine Nx.setCell ?_ (by first | (simp; done) | (simp; omega) | omega) _) | refine Nx.trans ?_ (by assumption)))

/-- where DeleteFunc's loop stands: the front holds what is kept of the first k, what lies from place k on is as it was -/
def DelSt (p : Int × Int → Bool) (es : Es) (k m : Nat) (R : Es) : Prop :=
  m = ((es.take k).filter fun e => !p e).length ∧ m < k ∧ R.length = es.length ∧ R.take m = (es.take k).filter (fun e => !p e) ∧ ∀ j, k ≤ j → R[j]? = es[j]?
theorem DelSt.start {p : Int × Int → Bool} {es : Es} {k : Nat} {e : Int × Int} (hno : ∀ j, j < k → ∀ d, es[j]? = some d → p d = false) (he : es[k]? = some e) (hp : p e = true) : DelSt p es (k + 1) k es := by
  have hk : k < es.length := (List.getElem?_eq_some_iff.1 he).1
  have hf : (es.take k).filter (fun e => !p e) = es.take k := List.filter_eq_self.2 fun d hd => by
    obtain ⟨j, hj, rfl⟩ := List.getElem_of_mem hd
    have hj' : j < k := by simp at hj; omega
    rw [List.getElem_take]
    simp [hno j hj' _ (List.getElem?_eq_getElem (by omega))]
  have hf2 : (es.take (k + 1)).filter (fun e => !p e) = es.take k := by rw [filter_take_succ _ he, hf]; simp [hp]
  refine ⟨by rw [hf2]; simp; omega, by omega, rfl, by rw [hf2], fun _ _ => rfl⟩
theorem DelSt.skip {p : Int × Int → Bool} {es R : Es} {k m : Nat} {e : Int × Int} (h : DelSt p es k m R) (he : es[k]? = some e) (hp : p e = true) : DelSt p es (k + 1) m R := by
  obtain ⟨h1, h2, h3, h4, h5⟩ := h
  have hf2 : (es.take (k + 1)).filter (fun e => !p e) = (es.take k).filter (fun e => !p e) := by rw [filter_take_succ _ he]; simp [hp]
  exact ⟨by rw [hf2]; exact h1, by omega, h3, by rw [hf2]; exact h4, fun j hj => h5 j (by omega)⟩
theorem DelSt.keep {p : Int × Int → Bool} {es R : Es} {k m : Nat} {e : Int × Int} (h : DelSt p es k m R) (he : es[k]? = some e) (hp : p e = false) : DelSt p es (k + 1) (m + 1) (R.set m e) := by
  obtain ⟨h1, h2, h3, h4, h5⟩ := h
  have hk : k < es.length := (List.getElem?_eq_some_iff.1 he).1
  have hf2 : (es.take (k + 1)).filter (fun e => !p e) = (es.take k).filter (fun e => !p e) ++ [e] := by rw [filter_take_succ _ he]; simp [hp]
  refine ⟨by rw [hf2, List.length_append, ← h1]; rfl, by omega, by simpa using h3, ?_, fun j hj => ?_⟩
  · rw [hf2, ← h4, List.take_add_one, List.getElem?_set_self (by omega), List.take_set_of_le (by omega)]
    rfl
  · rw [List.getElem?_set_ne (by omega)]; exact h5 j (by omega)


set_option maxRecDepth 100000 in
set_option maxHeartbeats 4000000 in
theorem deleteFuncE_c (g : Nat) (bd lb : Array Value) (p : Int × Int → Bool) (eg : ∀ args w, (callFunc g args).run Try.prog w = .ok (.enter g args) w) (base : Nat) (A : Option Addr) (c : Nat) (es : List (Int × Int)) (w : World)
    (hown : OwnE w base 36 A c es) (hl : es.length ≤ 1048576) (hp : TellsE g bd lb p es (blk A) w) :
    Calls Try.prog 141 #[.slice A es.length c, .func (.func g) bd lb] w (Kept 36 base A c (es.filter fun e => !p e) w) := by
  have hIF := indexFuncE_c g bd lb p (blk A) eg A c es w hown.edgesAt hl hp
  have Hp := Lib.hid hp
  clear hp
  by_cases hany : ∃ (k : Nat) (e : Int × Int), es[k]? = some e ∧ p e = true ∧ ∀ j, j < k → ∀ d, es[j]? = some d → p d = false
  · obtain ⟨k0, e0, he0, hp0, hno⟩ := hany
    rw [fstI_hit hno he0 hp0] at hIF
    have hk0 : k0 < es.length := (List.getElem?_eq_some_iff.1 he0).1
    have Hst := Lib.hid (DelSt.start hno he0 hp0)
    have HIF := Lib.hid hIF
    obtain ⟨g0, rfl, hg1, hg2⟩ := hown.at (by omega)
    obtain ⟨hbg, tail, hfull⟩ := hown.full
    have hne1 : ((k0 : Int) == -1) = false := beq_eq_false_iff_ne.2 (by omega)
    clear hno he0 hp0 hIF hown hg1
    go_enter Try.func141, Try.ntmps141
    go_wp2_with fail
    refine HIF.out.mono ?_
    rintro e w1 ⟨rfl, hn1⟩
    have hg01 : w.grownBy w1 (some g0) := hn1.grownR _
    have hf1 : FullE w1 g0 36 c es tail := ⟨hfull.1.nx hn1, hfull.2⟩
    have Hc := Lib.hid hfull.2
    clear hfull hn1 HIF
    go_wp2
    go_loopg [5, 6, 7] (es.length - (k0 + 1)) (fun gk i j _ wr => ∃ (k m : Nat) (R : Es), k + gk = es.length ∧ j = .int .i64 k ∧ i = .int .i64 m ∧ DelSt p es k m R ∧ FullE wr g0 36 c R tail ∧ w.grownBy wr (some g0))
    case atStart => exact ⟨k0 + 1, k0, es, by omega, by go_num, rfl, Hst.out, hf1, hg01⟩
    case round =>
      obtain ⟨k, m, R, hk, rfl, rfl, hst, hfull, hgr⟩ := hrel
      have hmk := hst.2.1
      have hRl := hst.2.2.1
      have hown := hfull.own hbg
      by_cases hlt : k < es.length
      · have hek : es[k]? = some es[k] := List.getElem?_eq_getElem hlt
        have hRk : R[k]? = some es[k] := (hst.2.2.2.2 k (Nat.le_refl _)).trans hek
        have hkR : k < R.length := by omega
        have hRk' : R[k] = es[k] := by rw [List.getElem?_eq_getElem hkR] at hRk; injection hRk
        have h12 := hown.cell hkR
        rw [hRk'] at h12
        obtain ⟨h1, h2⟩ := h12
        have hmR : m < R.length := by omega
        obtain ⟨m1, m2⟩ := hown.cell hmR
        have hfr := hown.free
        generalize es[k] = e at *
        obtain ⟨x, y⟩ := e
        have Hek := Lib.hid hek
        have Hst2 := Lib.hid hst
        have Hfull := Lib.hid hfull
        have gl : g0 < wr.heap.size := hfull.1.lt
        clear hek hRk hRk' hst hfull hown hRl hf1 hg01
        go_wp2_with fail
        refine (Hp.out (wr.alloc (.cells #[V x, V y] 36)) x y (List.mem_of_getElem? Hek.out) (World.grownBy.trans hgr (World.grownBy_alloc _ _ _))).mono ?_
        rintro e w2 ⟨rfl, hn2⟩
        have hn2' : Nx wr w2 := (by repeat (first | exact Nx.refl _ | assumption | apply Nx.alloc | apply Nx.drew | apply Nx.drewN | (refine Nx.setCell ?_ (by first | (simp; done) | (simp; omega) | omega) _) | refine Nx.trans ?_ (by assumption)))
        have e0 : w2.cell? ⟨wr.heap.size, 0, none⟩ = some (V x) := hn2.cell (by simp) (by go_simp)
        have e1 : w2.cell? ⟨wr.heap.size, 1, none⟩ = some (V y) := hn2.cell (by simp) (by go_simp)
        have m1 := hn2'.cell (p := ⟨g0, m * 2, none⟩) gl m1
        have m2 := hn2'.cell (p := ⟨g0, m * 2 + 1, none⟩) gl m2
        have hfr := fun j => hn2'.frozen (p := ⟨g0, j, none⟩) gl (hfr j)
        have hmi : (m : Int) < (es.length : Int) := by omega
        have hge : g0 ≠ wr.heap.size := by omega
        clear h1 h2
        cases hq : p (x, y) with
        | true =>
          have Hq := Lib.hid hq
          clear hq
          go_wp2
          go_roundg (gk - 1)
          case measure => omega
          case rel => exact ⟨k + 1, m, R, by omega, by go_num, rfl, Hst2.out.skip Hek.out Hq.out, ⟨Hfull.out.1.nx hn2', Hfull.out.2⟩, World.grownBy.trans hgr (hn2'.grownR _)⟩
        | false =>
          have Hq := Lib.hid hq
          clear hq
          go_wp2
          go_roundg (gk - 1)
          case measure => omega
          case rel =>
            have hF2 : FullE w2 g0 36 c R tail := ⟨Hfull.out.1.nx hn2', Hfull.out.2⟩
            refine ⟨k + 1, m + 1, R.set m (x, y), by omega, by go_num, by go_num, Hst2.out.keep Hek.out Hq.out, hF2.set m (by have := Hst2.out.2.2.1; omega) x y, ?_⟩
            exact World.grownBy.trans hgr (World.grownBy.trans (hn2'.grownR _) (grown_set (grown_set (World.grownBy.refl _ _) _ _) _ _))
      · obtain rfl : k = es.length := by omega
        obtain ⟨h1, h2, h3, h4, h5⟩ := hst
        rw [List.take_length] at h1 h4
        have hmR : m < R.length := by omega
        obtain ⟨w2, hrun, hgr2, hfull2⟩ := run_clearE (P := Try.prog) (T := 24) (cc := c - m) Try.underlying24 zeroE hfull hmR
        rw [h3] at hrun
        have hcm : m < c := by have := hfull.2.1; omega
        have hcl : es.length ≤ c := by have := hfull.2.1; omega
        have H1 := Lib.hid h1
        have H3 := Lib.hid h3
        have H4 := Lib.hid h4
        clear h1 h3 h4 h5
        go_wp2
        go_ret
        have h1 := H1.out
        refine ⟨by rw [← h1]; rfl, ?_, World.grownBy.trans hgr hgr2⟩
        have hf3 := (hfull2.cut (m := m) (by have := H3.out; simp; omega)).own hbg
        rw [List.take_append_of_le_length (by simp; omega), List.take_take, Nat.min_self, H4.out] at hf3
        exact hf3
  · have hno : ∀ j, j < es.length → ∀ d, es[j]? = some d → p d = false := by
      intro j
      induction j using Nat.strongRecOn with
      | ind j ih =>
        intro hj d hd
        cases hp : p d with
        | false => rfl
        | true => exact absurd ⟨j, d, hd, hp, fun i hi d' hd' => ih i hi (by omega) d' hd'⟩ hany
    rw [fstI_no hno] at hIF
    have HIF := Lib.hid hIF
    have hf : es.filter (fun e => !p e) = es := List.filter_eq_self.2 fun d hd => by
      obtain ⟨j, hj, rfl⟩ := List.getElem_of_mem hd
      simp [hno j hj _ (List.getElem?_eq_getElem hj)]
    rw [hf]
    have Hown := Lib.hid hown
    clear hany hno hf hIF hown
    go_enter Try.func141, Try.ntmps141
    go_wp2_with fail
    refine HIF.out.mono ?_
    rintro e w1 ⟨rfl, hn1⟩
    go_wp2
    go_ret
    exact ⟨rfl, Hown.out.nx hn1, hn1.grownR _⟩
end Go.Proofs.Ytjchabeiaajgiaa
