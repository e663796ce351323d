/- Contracts: l14Num, l1Parse of the reference. -/
import Derived.Test.YtekepbcmjfdcjaaDoorPG3
namespace Go.Proofs.YtekepbcmjfdcjaaDoor
open Go.RowKit set_option linter.unusedVariables false set_option linter.unusedSimpArgs false
open Go.Lib (decDigits)

/-- what l14Num says of a small number's digits -/
def NumR (l : List UInt8) (v : Int) (b : Bool) : Prop := ∀ n : Nat, n < 17 → l = decDigits n → v = n ∧ b = true
/-- some number and whether it is one; the world is as it was -/
def RetNum (l : List UInt8) (w : World) (e : Ending) (w' : World) : Prop := ∃ v b, e = .returned (.tuple #[V v, .bool b]) ∧ NumR l v b ∧ w' = w
def numStep (v : Int) (d : UInt8) : Int := wrap64 (wrap64 (v * 10) + ((d.toNat : Int) - 48))
def numK (s : List UInt8) (k : Nat) : Int := (s.take k).foldl numStep 0
theorem numK_succ {s : List UInt8} {k : Nat} {d : UInt8} (h : s[k]? = some d) : numK s (k + 1) = numStep (numK s k) d := by
  obtain ⟨h1, h2⟩ := List.getElem?_eq_some_iff.1 h
  unfold numK
  rw [List.take_succ_eq_append_getElem h1, h2, List.foldl_append]
  rfl
theorem num_one : ∀ u : Fin 10, [dg u.val].foldl numStep 0 = (u.val : Int) := by decide +kernel
theorem num_two : ∀ u : Fin 7, [dg 1, dg u.val].foldl numStep 0 = ((10 + u.val : Nat) : Int) := by decide +kernel
theorem numK_dec {n : Nat} (h : n < 17) : numK (decDigits n) (decDigits n).length = n := by
  unfold numK
  rw [List.take_length]
  rcases dec_small h with ⟨u, h1, h2⟩ | ⟨u, h1, h2⟩
  · rw [h2, h1]; exact num_one u
  · rw [h2, h1]; exact num_two u
theorem NumR.bad {l : List UInt8} {v : Int} (h : ∀ n : Nat, n < 17 → l ≠ decDigits n) : NumR l v false := fun n hn e => absurd e (h n hn)
theorem NumR.minus {xs : List UInt8} {v : Int} {b : Bool} : NumR (45 :: xs) v b := fun n hn e => by
  exfalso
  have := dec_isD (u := n) (by omega) 45 (by rw [← e]; simp)
  exact not45 this
theorem dec_pos {n : Nat} (hn : n < 17) : decDigits n ≠ [] := fun e => by
  have := (dec_len (u := n) (by omega)).1
  rw [e] at this
  simp at this
theorem dec_zero {n : Nat} (hn : n < 17) {y : UInt8} {r : List UInt8} (h : decDigits n = y :: r) (hy : y = 48) : r = [] := by
  rcases dec_small hn with ⟨u, h1, h2⟩ | ⟨u, h1, h2⟩
  · rw [h2] at h; injection h with _ h; exact h.symm
  · rw [h2] at h
    injection h with h _
    rw [hy] at h
    exact absurd h (by decide)

set_option maxRecDepth 100000 in
set_option maxHeartbeats 8000000 in
theorem l14Num_c (l : List UInt8) (w : World) (hl : l.length ≤ 1048576) :
    Calls Tryd.prog 18 #[Str l] w (RetNum l w) := by
  cases l with
  | nil =>
    go_enter Tryd.func18, Tryd.ntmps18
    go_wp2
    go_ret2
    exact ⟨_, _, rfl, NumR.bad (fun n hn e => dec_pos hn e.symm), rfl⟩
  | cons x xs =>
    by_cases hx : x = 45
    · subst hx
      cases xs with
      | nil =>
        go_enter Tryd.func18, Tryd.ntmps18
        go_wp2
        go_ret2
        exact ⟨_, _, rfl, NumR.minus, rfl⟩
      | cons y ys =>
        obtain ⟨s, hs⟩ : ∃ s, y :: ys = s := ⟨_, rfl⟩
        obtain ⟨l, hl2⟩ : ∃ l, (45 : UInt8) :: s = l := ⟨_, rfl⟩
        rw [hs, hl2]
        rw [hs, hl2] at hl
        have hp3 : 1 ≤ l.length := by rw [← hl2]; simp
        have hl17 : s.length ≤ 1048576 := by rw [← hl2] at hl; simp at hl; omega
        have h0 : (⟨l.toArray⟩ : ByteArray)[0]'(show 0 < Array.size (List.toArray l) by rw [List.size_toArray]; omega) = 45 := by subst hl2; rfl
        have hex : (⟨l.toArray⟩ : ByteArray).extract 1 l.length = ⟨s.toArray⟩ := by
          rw [extr, ← hl2]; simp
        have hsl : 1 ≤ s.length := by rw [← hs]; simp
        have hs0 : (⟨s.toArray⟩ : ByteArray)[0]'(show 0 < Array.size (List.toArray s) by rw [List.size_toArray]; omega) = y := by subst hs; rfl
        have hmin : ∀ v b, NumR l v b := fun v b => by rw [← hl2]; exact NumR.minus
        have Hmin := Lib.hid hmin
        have hp1 : decide ((0 : Int) < (l.length : Int)) = true := decide_eq_true (by omega)
        have hp2 : 0 < l.length := by omega
        have hz : ((s.length : Int) == 0) = false := beq_eq_false_iff_ne.2 (by omega)
        have hz2 : 0 < s.length := by omega
        have hlx : True := trivial
        clear hl2 hs
        by_cases h17 : 17 < s.length
        · have hd17 : decide ((17 : Int) < (s.length : Int)) = true := by simp; omega
          clear hmin hlx
          go_enter Tryd.func18, Tryd.ntmps18
          go_wp2
          all_goals go_ret2
          all_goals exact ⟨_, _, rfl, Hmin.out _ _, rfl⟩
        · have hd17 : decide ((17 : Int) < (s.length : Int)) = false := by simp; omega
          by_cases hy : y = 48
          · have hyb : ((y.toNat : Int) == 48) = true := by rw [hy]; rfl
            clear hmin hlx
            go_enter Tryd.func18, Tryd.ntmps18
            go_wp2
            all_goals go_ret2
            all_goals exact ⟨_, _, rfl, Hmin.out _ _, rfl⟩
          · have hyb : ((y.toNat : Int) == 48) = false := by
              rw [Bool.eq_false_iff]
              intro h
              simp at h
              exact hy (UInt8.toNat_inj.1 (by show y.toNat = 48; omega))
            clear hmin hlx
            go_enter Tryd.func18, Tryd.ntmps18
            go_wp2
            go_loopg [5, 6] s.length (fun gk nv i wr => ∃ (k : Nat) (v : Int), k + gk = s.length ∧ i = .int .i64 k ∧ nv = V v ∧ v = numK s k ∧ wr = w)
            case atStart => exact ⟨0, 0, by omega, rfl, rfl, rfl, rfl⟩
            case round =>
              obtain ⟨k, v, hk, rfl, rfl, hv, rfl⟩ := hrel
              have Hv := Lib.hid hv
              clear hv
              by_cases hlt : k < s.length
              · obtain ⟨d, hd⟩ : ∃ d, s[k]? = some d := ⟨_, List.getElem?_eq_getElem hlt⟩
                have hde : (⟨s.toArray⟩ : ByteArray)[k]'(by simp only [ByteArray.size, List.size_toArray]; exact hlt) = d := by have := (List.getElem?_eq_some_iff.1 hd).2; rw [← this]; rfl
                have Hx := Lib.hid hd
                have Hst := Lib.hid (numK_succ hd)
                have hdb : d.toNat < 256 := d.toNat_lt
                clear hd
                by_cases hD : isD d
                · obtain ⟨hd1, hd2⟩ := hD
                  have h1 : decide ((d.toNat : Int) < 48) = false := by simp; omega
                  have h2 : decide ((57 : Int) < (d.toNat : Int)) = false := by simp; omega
                  have h3 : IntKind.u8.wrap ((d.toNat : Int) - 48) = (d.toNat : Int) - 48 := by
                    exact IntWalk.u8_in _ (by omega)
                  go_wp2
                  go_roundg (gk - 1)
                  case measure => omega
                  case rel => exact ⟨k + 1, _, by omega, by go_num, rfl, by rw [Hst.out, ← Hv.out]; rfl, rfl⟩
                · have Hd := Lib.hid hD
                  by_cases h1 : d.toNat < 48
                  · have h1 : decide ((d.toNat : Int) < 48) = true := by simp; omega
                    clear hD
                    go_wp2
                    go_ret2
                    exact ⟨_, _, rfl, Hmin.out _ _, rfl⟩
                  · have h2 : decide ((57 : Int) < (d.toNat : Int)) = true := by
                      simp
                      have : ¬ (48 ≤ d.toNat ∧ d.toNat ≤ 57) := hD
                      omega
                    have h1 : decide ((d.toNat : Int) < 48) = false := by simp; omega
                    clear hD
                    go_wp2
                    go_ret2
                    exact ⟨_, _, rfl, Hmin.out _ _, rfl⟩
              · have hkl : k = s.length := by omega
                go_wp2
                go_ret2
                exact ⟨_, _, rfl, Hmin.out _ _, rfl⟩
    · obtain ⟨l, hcons⟩ : ∃ l, x :: xs = l := ⟨_, rfl⟩
      rw [hcons]
      rw [hcons] at hl
      obtain ⟨y, hxy⟩ : ∃ y, x = y := ⟨_, rfl⟩
      obtain ⟨ys, hys⟩ : ∃ ys, xs = ys := ⟨_, rfl⟩
      subst hxy hys
      have hlp : 1 ≤ l.length := by rw [← hcons]; simp
      have h0 : (⟨l.toArray⟩ : ByteArray)[0]'(show 0 < Array.size (List.toArray l) by rw [List.size_toArray]; omega) = x := by subst hcons; rfl
      have h45 : ((x.toNat : Int) == 45) = false := by
        rw [Bool.eq_false_iff]
        intro h
        simp at h
        exact hx (UInt8.toNat_inj.1 (by show x.toNat = 45; omega))
      have hp1 : decide ((0 : Int) < (l.length : Int)) = true := decide_eq_true (by omega)
      have hp2 : 0 < l.length := by omega
      have hz : ((l.length : Int) == 0) = false := beq_eq_false_iff_ne.2 (by omega)
      have hlx : True := trivial
      have hmin : True := trivial
      clear hx
      by_cases h17 : 17 < l.length
      · have hd17 : decide ((17 : Int) < (l.length : Int)) = true := by simp; omega
        clear hmin hlx
        go_enter Tryd.func18, Tryd.ntmps18
        go_wp2
        all_goals go_ret2
        all_goals exact ⟨_, _, rfl, NumR.bad (fun n hn e => by have := (dec_len (u := n) (by omega)).2; rw [← e] at this; omega), rfl⟩
      · have hd17 : decide ((17 : Int) < (l.length : Int)) = false := by simp; omega
        by_cases hy : x = 48
        · have hyb : ((x.toNat : Int) == 48) = true := by rw [hy]; rfl
          by_cases h1 : 1 < l.length
          · have Hz := Lib.hid (show ∀ n : Nat, n < 17 → l ≠ decDigits n from fun n hn e => by
              have := dec_zero hn (y := x) (r := xs) (by rw [← e]; exact hcons.symm) hy
              rw [← hcons, this] at h1; simp at h1)
            have hd1 : decide ((1 : Int) < (l.length : Int)) = true := by simp; omega
            clear hmin hlx
            go_enter Tryd.func18, Tryd.ntmps18
            go_wp2
            all_goals go_ret2
            all_goals exact ⟨_, _, rfl, NumR.bad Hz.out, rfl⟩
          · have hd1 : decide ((1 : Int) < (l.length : Int)) = false := by simp; omega
            clear hmin hlx
            go_enter Tryd.func18, Tryd.ntmps18
            go_wp2
            go_loopg [5, 6] l.length (fun gk nv i wr => ∃ (k : Nat) (v : Int), k + gk = l.length ∧ i = .int .i64 k ∧ nv = V v ∧ v = numK l k ∧ wr = w)
            case atStart => exact ⟨0, 0, by omega, rfl, rfl, rfl, rfl⟩
            case round =>
              obtain ⟨k, v, hk, rfl, rfl, hv, rfl⟩ := hrel
              have Hv := Lib.hid hv
              clear hv
              by_cases hlt : k < l.length
              · obtain ⟨d, hd⟩ : ∃ d, l[k]? = some d := ⟨_, List.getElem?_eq_getElem hlt⟩
                have hde : (⟨l.toArray⟩ : ByteArray)[k]'(by simp only [ByteArray.size, List.size_toArray]; exact hlt) = d := by have := (List.getElem?_eq_some_iff.1 hd).2; rw [← this]; rfl
                have Hx := Lib.hid hd
                have Hst := Lib.hid (numK_succ hd)
                have hdb : d.toNat < 256 := d.toNat_lt
                clear hd
                by_cases hD : isD d
                · obtain ⟨hd1, hd2⟩ := hD
                  have h1 : decide ((d.toNat : Int) < 48) = false := by simp; omega
                  have h2 : decide ((57 : Int) < (d.toNat : Int)) = false := by simp; omega
                  have h3 : IntKind.u8.wrap ((d.toNat : Int) - 48) = (d.toNat : Int) - 48 := by
                    exact IntWalk.u8_in _ (by omega)
                  go_wp2
                  go_roundg (gk - 1)
                  case measure => omega
                  case rel => exact ⟨k + 1, _, by omega, by go_num, rfl, by rw [Hst.out, ← Hv.out]; rfl, rfl⟩
                · have Hd := Lib.hid hD
                  by_cases h1 : d.toNat < 48
                  · have h1 : decide ((d.toNat : Int) < 48) = true := by simp; omega
                    clear hD
                    go_wp2
                    go_ret2
                    exact ⟨_, _, rfl, NumR.bad (fun n hn e => Hd.out (dec_isD (u := n) (by omega) _ (by rw [← e]; exact List.mem_of_getElem? Hx.out))), rfl⟩
                  · have h2 : decide ((57 : Int) < (d.toNat : Int)) = true := by
                      simp
                      have : ¬ (48 ≤ d.toNat ∧ d.toNat ≤ 57) := hD
                      omega
                    have h1 : decide ((d.toNat : Int) < 48) = false := by simp; omega
                    clear hD
                    go_wp2
                    go_ret2
                    exact ⟨_, _, rfl, NumR.bad (fun n hn e => Hd.out (dec_isD (u := n) (by omega) _ (by rw [← e]; exact List.mem_of_getElem? Hx.out))), rfl⟩
              · have hkl : k = l.length := by omega
                go_wp2
                go_ret2
                exact ⟨_, _, rfl, fun n hn e => ⟨by rw [Hv.out, hkl, e]; exact numK_dec hn, rfl⟩, rfl⟩
        · have hyb : ((x.toNat : Int) == 48) = false := by
            rw [Bool.eq_false_iff]
            intro h
            simp at h
            exact hy (UInt8.toNat_inj.1 (by show x.toNat = 48; omega))
          clear hmin hlx
          go_enter Tryd.func18, Tryd.ntmps18
          go_wp2
          go_loopg [5, 6] l.length (fun gk nv i wr => ∃ (k : Nat) (v : Int), k + gk = l.length ∧ i = .int .i64 k ∧ nv = V v ∧ v = numK l k ∧ wr = w)
          case atStart => exact ⟨0, 0, by omega, rfl, rfl, rfl, rfl⟩
          case round =>
            obtain ⟨k, v, hk, rfl, rfl, hv, rfl⟩ := hrel
            have Hv := Lib.hid hv
            clear hv
            by_cases hlt : k < l.length
            · obtain ⟨d, hd⟩ : ∃ d, l[k]? = some d := ⟨_, List.getElem?_eq_getElem hlt⟩
              have hde : (⟨l.toArray⟩ : ByteArray)[k]'(by simp only [ByteArray.size, List.size_toArray]; exact hlt) = d := by have := (List.getElem?_eq_some_iff.1 hd).2; rw [← this]; rfl
              have Hx := Lib.hid hd
              have Hst := Lib.hid (numK_succ hd)
              have hdb : d.toNat < 256 := d.toNat_lt
              clear hd
              by_cases hD : isD d
              · obtain ⟨hd1, hd2⟩ := hD
                have h1 : decide ((d.toNat : Int) < 48) = false := by simp; omega
                have h2 : decide ((57 : Int) < (d.toNat : Int)) = false := by simp; omega
                have h3 : IntKind.u8.wrap ((d.toNat : Int) - 48) = (d.toNat : Int) - 48 := by
                  exact IntWalk.u8_in _ (by omega)
                go_wp2
                go_roundg (gk - 1)
                case measure => omega
                case rel => exact ⟨k + 1, _, by omega, by go_num, rfl, by rw [Hst.out, ← Hv.out]; rfl, rfl⟩
              · have Hd := Lib.hid hD
                by_cases h1 : d.toNat < 48
                · have h1 : decide ((d.toNat : Int) < 48) = true := by simp; omega
                  clear hD
                  go_wp2
                  go_ret2
                  exact ⟨_, _, rfl, NumR.bad (fun n hn e => Hd.out (dec_isD (u := n) (by omega) _ (by rw [← e]; exact List.mem_of_getElem? Hx.out))), rfl⟩
                · have h2 : decide ((57 : Int) < (d.toNat : Int)) = true := by
                    simp
                    have : ¬ (48 ≤ d.toNat ∧ d.toNat ≤ 57) := hD
                    omega
                  have h1 : decide ((d.toNat : Int) < 48) = false := by simp; omega
                  clear hD
                  go_wp2
                  go_ret2
                  exact ⟨_, _, rfl, NumR.bad (fun n hn e => Hd.out (dec_isD (u := n) (by omega) _ (by rw [← e]; exact List.mem_of_getElem? Hx.out))), rfl⟩
            · have hkl : k = l.length := by omega
              go_wp2
              go_ret2
              exact ⟨_, _, rfl, fun n hn e => ⟨by rw [Hv.out, hkl, e]; exact numK_dec hn, rfl⟩, rfl⟩

/-- what l1Parse says of an edge's text -/
def EdR (l : List UInt8) (a b : Int) (f : Bool) : Prop := ∀ u v : Nat, u < 17 → v < 17 → l = dashT (u, v) → a = u ∧ b = v ∧ f = true
def RetEd (l : List UInt8) (w : World) (e : Ending) (w' : World) : Prop := ∃ a b f, e = .returned (.tuple #[Ed a b, .bool f]) ∧ EdR l a b f ∧ Nx w w'
theorem cutL_dash {u v : Nat} (hu : u < 17) (hv : v < 17) : cutL 45 (dashT (u, v)) = [decDigits u, decDigits v] := by
  have := (cut_dash (e := ((u : Int), (v : Int))) ⟨by simp, by simp; omega, by simp, by simp; omega⟩).2.2
  simpa using this
theorem mem_cut_len (c : UInt8) : ∀ (l p : List UInt8), p ∈ cutL c l → p.length ≤ l.length
  | [], p, h => by simp [cutL] at h; subst h; simp
  | x :: xs, p, h => by
    rw [cutL] at h
    split at h
    · rcases List.mem_cons.1 h with rfl | h
      · simp
      · have := mem_cut_len c xs p h; simp; omega
    · cases hc : cutL c xs with
      | nil => exact absurd hc (cutL_ne c xs)
      | cons q qs =>
        rw [hc] at h
        rcases List.mem_cons.1 h with rfl | h
        · have := mem_cut_len c xs q (by rw [hc]; simp); simp; omega
        · have := mem_cut_len c xs p (by rw [hc]; simp [h]); simp; omega
set_option maxRecDepth 100000 in
set_option maxHeartbeats 8000000 in
theorem l1Parse_c (l : List UInt8) (w : World) (hl : l.length ≤ 1048576) :
    Calls Tryd.prog 19 #[Str l] w (RetEd l w) := by
  have Hcut := Lib.hid (fun w => (show Calls Tryd.prog 17 #[Str l, .int .u8 45] w (RetSt (cutL 45 l) w) from l14Cut_c l 45 w hl))
  have hml := fun p h => mem_cut_len 45 l p h
  have hE : ∀ a b f, cutL 45 l ≠ [] → (∀ u v : Nat, u < 17 → v < 17 → cutL 45 l = [decDigits u, decDigits v] → a = (u : Int) ∧ b = (v : Int) ∧ f = true) → EdR l a b f := fun a b f _ h u v hu hv e => h u v hu hv (by rw [e]; exact cutL_dash hu hv)
  have hE := fun a b f => hE a b f (cutL_ne 45 l)
  generalize cutL 45 l = ps at *
  have HE := Lib.hid hE
  unfold RetSt at Hcut
  by_cases h2 : ps.length = 2
  · obtain ⟨p, q, rfl⟩ : ∃ p q, ps = [p, q] := by
      match ps, h2 with
      | [p, q], _ => exact ⟨p, q, rfl⟩
    have Hp := Lib.hid (fun w => l14Num_c p w (Nat.le_trans (hml p (by simp)) hl))
    have Hq := Lib.hid (fun w => l14Num_c q w (Nat.le_trans (hml q (by simp)) hl))
    clear hE hml h2
    simp only [List.length_cons, List.length_nil, Nat.zero_add, Nat.reduceAdd] at Hcut
    go_enter Tryd.func19, Tryd.ntmps19
    go_wp2_with fail
    generalize hW1 : World.alloc _ _ = W1
    have gW1 : Nx w W1 := by subst hW1; exact (by repeat (first | exact Nx.refl _ | assumption | apply Nx.alloc | apply Nx.drew | apply Nx.drewN | (refine Nx.setCell ?_ (by first | (simp; done) | (simp; omega) | omega) _) | refine Nx.trans ?_ (by assumption)))
    have sW1 : W1.heap.size = w.heap.size + 1 := by subst hW1; simp
    have R : Bx W1 (w.heap.size) 41 [V 0, V 0] := by subst hW1; have h := Bx.alloc w 41 [V 0, V 0]; simpa using h
    have R_0 := R.cell (j := 0) rfl
    have R_1 := R.cell (j := 1) rfl
    have R_z := R.lt
    have HsW1 := Lib.hid sW1
    have lW1 : w.heap.size + 1 ≤ W1.heap.size := by omega
    clear hW1 sW1
    have N := gW1
    refine (Hcut.out _).mono ?_
    rintro e w2 ⟨A, c, rfl, hs, hn2⟩
    replace R := R.nx hn2
    replace R_0 := R.cell (j := 0) rfl
    replace R_1 := R.cell (j := 1) rfl
    replace R_z := R.lt
    replace N := N.trans hn2
    obtain ⟨b, off, rfl, zb, rd⟩ := hs (by simp)
    have r0 := rd 0 p rfl
    have r1 := rd 1 q rfl
    rw [Nat.add_zero] at r0
    clear hs rd
    go_wp2_with fail
    refine (Hp.out _).mono ?_
    rintro e w3 ⟨v1, b1, rfl, hr1, rfl⟩
    go_wp2_with fail
    refine (Hq.out _).mono ?_
    rintro e w4 ⟨v2, b2, rfl, hr2, rfl⟩
    have R_f := R.free
    have Hr1 := Lib.hid hr1
    have Hr2 := Lib.hid hr2
    clear hr1 hr2
    cases b1 with
    | true =>
      go_wp2
      refine bodyPost_ret (v := .tuple #[Ed v1 v2, .bool b2]) (by simp [results, Tryd.f19, go_sem, *]) rfl ?_
      refine ⟨v1, v2, b2, rfl, HE.out _ _ _ (fun u v hu hv e => ?_), (N.setCell (by first | (simp; done) | (simp; omega)) _).setCell (by first | (simp; done) | (simp; omega)) _⟩
      simp at e
      have a1 := Hr1.out u hu e.1
      have a2 := Hr2.out v hv e.2
      exact ⟨a1.1, a2.1, a2.2⟩
    | false =>
      go_wp2
      refine bodyPost_ret (v := .tuple #[Ed v1 v2, .bool false]) (by simp [results, Tryd.f19, go_sem, *]) rfl ?_
      refine ⟨v1, v2, false, rfl, HE.out _ _ _ (fun u v hu hv e => ?_), (N.setCell (by first | (simp; done) | (simp; omega)) _).setCell (by first | (simp; done) | (simp; omega)) _⟩
      simp at e
      have a1 := Hr1.out u hu e.1
      exact absurd a1.2 (by simp)
  · have hne : ((ps.length : Int) != 2) = true := by simp; omega
    have HX := Lib.hid (show ∀ u v : Nat, u < 17 → v < 17 → ps ≠ [decDigits u, decDigits v] from fun u v _ _ e => h2 (by rw [e]; rfl))
    clear hE hml h2
    go_enter Tryd.func19, Tryd.ntmps19
    go_wp2_with fail
    generalize hW1 : World.alloc _ _ = W1
    have gW1 : Nx w W1 := by subst hW1; exact (by repeat (first | exact Nx.refl _ | assumption | apply Nx.alloc | apply Nx.drew | apply Nx.drewN | (refine Nx.setCell ?_ (by first | (simp; done) | (simp; omega) | omega) _) | refine Nx.trans ?_ (by assumption)))
    have sW1 : W1.heap.size = w.heap.size + 1 := by subst hW1; simp
    have R : Bx W1 (w.heap.size) 41 [V 0, V 0] := by subst hW1; have h := Bx.alloc w 41 [V 0, V 0]; simpa using h
    have R_0 := R.cell (j := 0) rfl
    have R_1 := R.cell (j := 1) rfl
    have R_z := R.lt
    have HsW1 := Lib.hid sW1
    have lW1 : w.heap.size + 1 ≤ W1.heap.size := by omega
    clear hW1 sW1
    have N := gW1
    refine (Hcut.out _).mono ?_
    rintro e w2 ⟨A, c, rfl, hs, hn2⟩
    replace R := R.nx hn2
    replace R_0 := R.cell (j := 0) rfl
    replace R_1 := R.cell (j := 1) rfl
    replace R_z := R.lt
    replace N := N.trans hn2
    have R_f := R.free
    go_wp2
    refine bodyPost_ret (v := .tuple #[Ed 0 0, .bool false]) (by simp [results, Tryd.f19, go_sem, *]) rfl ?_
    exact ⟨0, 0, false, rfl, HE.out _ _ _ (fun u v hu hv e => absurd e (HX.out u v hu hv)), (N.setCell (by first | (simp; done) | (simp; omega)) _).setCell (by first | (simp; done) | (simp; omega)) _⟩
end Go.Proofs.YtekepbcmjfdcjaaDoor
