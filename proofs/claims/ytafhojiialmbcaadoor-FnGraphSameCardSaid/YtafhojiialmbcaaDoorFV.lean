/- Contracts: the texts of numbers, edges and graphs. -/
import Derived.Shelf.Strconv.Itoa3
import Derived.Laws.BytesArg
import Derived.Laws.Concat
import Derived.Test.YtafhojiialmbcaaDoorFT
import Derived.Test.YtafhojiialmbcaaDoorG4
import Derived.Test.YtafhojiialmbcaaDoorH
import Derived.Test.YtafhojiialmbcaaDoorB
import Derived.Deep.RegionHeld3
namespace Go.Proofs.YtafhojiialmbcaaDoor
open Go.Shelf
def Tryd.lays171_ren : Go.Shelf.Ren := ⟨fun | 171 => 28 | 243 => 48 | 246 => 62 | 283 => 73 | 284 => 74 | 285 => 75 | 286 => 76 | 129 => 88 | 317 => 87 | 318 => 89 | 319 => 90 | 320 => 91 | 337 => 97 | 338 => 98 | n => n, fun | 3 => 3 | 9 => 9 | 2 => 2 | 4 => 4 | 171 => 100 | 0 => 0 | 53 => 101 | 37 => 33 | 5 => 5 | 173 => 104 | 212 => 118 | 51 => 119 | 20 => 20 | 213 => 120 | 46 => 112 | 232 => 134 | 233 => 135 | n => n, fun | 17 => 3 | 18 => 6 | 19 => 7 | n => n⟩
theorem Tryd.lays171 : Go.Proofs.Lays.n171 Tryd.prog Tryd.lays171_ren := {
  mixed := by kernel_rfl
  f129 := Tryd.func88.trans (congrArg some (by kernel_rfl))
  f171 := Tryd.func28.trans (congrArg some (by kernel_rfl))
  f243 := Tryd.func48.trans (congrArg some (by kernel_rfl))
  f246 := Tryd.func62.trans (congrArg some (by kernel_rfl))
  f283 := Tryd.func73.trans (congrArg some (by kernel_rfl))
  f284 := Tryd.func74.trans (congrArg some (by kernel_rfl))
  f285 := Tryd.func75.trans (congrArg some (by kernel_rfl))
  f286 := Tryd.func76.trans (congrArg some (by kernel_rfl))
  f317 := Tryd.func87.trans (congrArg some (by kernel_rfl))
  f318 := Tryd.func89.trans (congrArg some (by kernel_rfl))
  f319 := Tryd.func90.trans (congrArg some (by kernel_rfl))
  f320 := Tryd.func91.trans (congrArg some (by kernel_rfl))
  f337 := Tryd.func97.trans (congrArg some (by kernel_rfl))
  f338 := Tryd.func98.trans (congrArg some (by kernel_rfl))
  t0 := Tryd.underlying0
  a0 := Tryd.isAgg0
  z0 := Tryd.sizeOf0
  v0 := Tryd.zeroValue0
  t2 := Tryd.underlying2
  a2 := Tryd.isAgg2
  z2 := Tryd.sizeOf2
  v2 := Tryd.zeroValue2
  t3 := Tryd.underlying3
  a3 := Tryd.isAgg3
  z3 := Tryd.sizeOf3
  v3 := Tryd.zeroValue3
  t4 := Tryd.underlying4
  a4 := Tryd.isAgg4
  z4 := Tryd.sizeOf4
  v4 := Tryd.zeroValue4
  t5 := Tryd.underlying5
  a5 := Tryd.isAgg5
  z5 := Tryd.sizeOf5
  v5 := Tryd.zeroValue5
  t9 := Tryd.underlying9
  a9 := Tryd.isAgg9
  z9 := Tryd.sizeOf9
  v9 := Tryd.zeroValue9
  t20 := Tryd.underlying20
  a20 := Tryd.isAgg20
  z20 := Tryd.sizeOf20
  v20 := Tryd.zeroValue20
  t37 := Tryd.underlying33
  a37 := Tryd.isAgg33
  z37 := Tryd.sizeOf33
  v37 := Tryd.zeroValue33
  t46 := Tryd.underlying112
  a46 := Tryd.isAgg112
  z46 := Tryd.sizeOf112
  v46 := Tryd.zeroValue112
  t51 := Tryd.underlying119
  a51 := Tryd.isAgg119
  z51 := Tryd.sizeOf119
  v51 := Tryd.zeroValue119
  t53 := Tryd.underlying101
  a53 := Tryd.isAgg101
  z53 := Tryd.sizeOf101
  v53 := Tryd.zeroValue101
  t171 := Tryd.underlying100
  a171 := Tryd.isAgg100
  z171 := Tryd.sizeOf100
  v171 := Tryd.zeroValue100
  t173 := Tryd.underlying104
  a173 := Tryd.isAgg104
  z173 := Tryd.sizeOf104
  v173 := Tryd.zeroValue104
  t212 := Tryd.underlying118
  a212 := Tryd.isAgg118
  z212 := Tryd.sizeOf118
  v212 := Tryd.zeroValue118
  t213 := Tryd.underlying120
  a213 := Tryd.isAgg120
  z213 := Tryd.sizeOf120
  t232 := Tryd.underlying134
  a232 := Tryd.isAgg134
  z232 := Tryd.sizeOf134
  v232 := Tryd.zeroValue134
  t233 := Tryd.underlying135
  a233 := Tryd.isAgg135
  z233 := Tryd.sizeOf135
  v233 := Tryd.zeroValue135
  g17 := by kernel_rfl
  g18 := by kernel_rfl
  g19 := by kernel_rfl }
end Go.Proofs.YtafhojiialmbcaaDoor
namespace Go.Proofs.YtafhojiialmbcaaDoor
open Go.RowKit set_option linter.unusedVariables false set_option linter.unusedSimpArgs false
open Go.Lib (decDigits)

/-- a text -/
abbrev Str (l : List UInt8) : Value := .string ⟨l.toArray⟩
theorem itoa_c (u : Nat) (h : u < 100) (w : World) : Calls Tryd.prog 28 #[V u] w (RetS (Str (decDigits u)) w) := by
  refine (Any.strconv_Itoa_small Tryd.lays171 u h w).mono ?_
  rintro e w' ⟨rfl, rfl⟩
  exact ⟨rfl, rfl⟩
theorem itoa_q (u : Nat) (h : u < 100) (w : World) : Calls Tryd.prog 28 #[V u] w (fun e w' => e = .returned (Str (decDigits u)) ∧ w' = w) := by
  refine (itoa_c u h w).mono ?_
  rintro e w' ⟨rfl, rfl⟩
  exact ⟨rfl, rfl⟩
theorem str_add (x y : List UInt8) (w : World) (h : x.length + y.length ≤ 1048576) : (Op.stringOp .add ⟨x.toArray⟩ ⟨y.toArray⟩).run Tryd.prog w = .ok (Str (x ++ y)) w := by
  rw [run_string_add_sum w _ _ (by simp [ByteArray.size]; omega), ByteArray.mk_append_mk]

theorem dec_step {m : Nat} (h : ¬ m < 10) : decDigits m = decDigits (m / 10) ++ [dg (m % 10)] := by
  conv => lhs; unfold decDigits
  rw [dif_neg h]
  rfl
/-- a digit as a text -/
theorem conv_c (n : Int) (d : Nat) (h : n = 48 + d) (w : World) : (convert 33 9 (.slice (some ⟨w.heap.size, 0, none⟩) 1 1)).run Tryd.prog (w.alloc (.cells #[.int .u8 n] 5)) = .ok (Str [dg d]) (w.alloc (.cells #[.int .u8 n] 5)) := by
  have h1 := run_convert_bytes_arg (P := Tryd.prog) (w.alloc (.cells #[.int .u8 n] 5)) 33 5 Tryd.underlying33 Tryd.underlying5 w.heap.size 0 1 1 [n] rfl (fun i hi => by
    obtain rfl : i = 0 := by omega
    simp) 9 Tryd.underlying9
  rw [h1]
  subst h
  rfl

set_option maxRecDepth 100000 in
set_option maxHeartbeats 2000000 in
theorem l14Dec_c (u : Nat) (h : u < 100) (w : World) : Calls Tryd.prog 24 #[V u] w (RetV (Str (decDigits u)) w) := by
  go_enter Tryd.func24, Tryd.ntmps24
  go_wp2_with fail
  go_loopg [0, 3] u (fun gk n out wr => ∃ (m : Nat) (l : List UInt8), n = V m ∧ out = Str l ∧ Nx w wr ∧ m ≤ gk ∧ m < 100 ∧ l.length + 2 * m ≤ 200 ∧ Hid (decDigits m ++ l = decDigits u))
  case atStart => exact ⟨u, [], rfl, rfl, Nx.refl _, Nat.le_refl _, h, by simp; omega, Lib.hid (by simp)⟩
  case round =>
    obtain ⟨m, l, rfl, rfl, hn, hm, hm2, hl, hd⟩ := hrel
    by_cases h9 : 9 < m
    · have hs := dec_step (show ¬ m < 10 by omega)
      have Hs := Lib.hid hs
      have hcv := conv_c (48 + (m : Int) % 10) (m % 10) (by omega) wr
      have hadd := str_add [dg (m % 10)] l (wr.alloc (.cells #[.int .u8 (48 + (m : Int) % 10)] 5)) (by simp; omega)
      clear hs
      go_wp2_with fail
      go_roundg (gk - 1)
      case measure => omega
      case rel => exact ⟨m / 10, [dg (m % 10)] ++ l, by go_num, rfl, (by repeat (first | exact Nx.refl _ | assumption | apply Nx.alloc | apply Nx.drew | apply Nx.drewN | (refine Nx.setCell ?_ (by first | (simp; done) | (simp; omega) | omega) _) | refine Nx.trans ?_ (by assumption))), by omega, by omega, by simp; omega, Lib.hid (by rw [← hd.out, Hs.out]; simp)⟩
    · have hcv := conv_c (48 + (m : Int)) m rfl wr
      have hadd := str_add [dg m] l (wr.alloc (.cells #[.int .u8 (48 + (m : Int))] 5)) (by simp; omega)
      have Hs := Lib.hid (dec_one (show m < 10 by omega))
      go_wp2_with fail
      go_ret
      refine RetV.mk ?_ (by repeat (first | exact Nx.refl _ | assumption | apply Nx.alloc | apply Nx.drew | apply Nx.drewN | (refine Nx.setCell ?_ (by first | (simp; done) | (simp; omega) | omega) _) | refine Nx.trans ?_ (by assumption)))
      rw [← hd.out, Hs.out]
      rfl

theorem adds {x y : List UInt8} (h : x.length + y.length ≤ 1048576) : ∀ w, (Op.stringOp .add ⟨x.toArray⟩ ⟨y.toArray⟩).run Tryd.prog w = .ok (Str (x ++ y)) w := fun w => str_add x y w h

set_option maxRecDepth 100000 in
set_option maxHeartbeats 2000000 in
theorem l1Text_c (x y : Nat) (hx : x < 100) (hy : y < 100) (w : World) : Calls Tryd.prog 25 #[Ed x y] w (RetV (Str (decDigits x ++ 45 :: decDigits y)) w) := by
  have hdx := fun w' => l14Dec_c x hx w'
  have hdy := fun w' => l14Dec_c y hy w'
  have lx := (dec_len hx).2
  have ly := (dec_len hy).2
  generalize decDigits x = dx at *
  generalize decDigits y = dy at *
  have Hdx := Lib.hid hdx
  have Hdy := Lib.hid hdy
  have a1 := adds (x := dx) (y := [45]) (by simp; omega)
  have a2 := adds (x := dx ++ [45]) (y := dy) (by simp; omega)
  clear hdx hdy
  go_enter Tryd.func25, Tryd.ntmps25
  go_wp2_with fail
  generalize hW1 : World.alloc _ _ = W1
  have gW1 : Nx w W1 := by subst hW1; exact (by repeat (first | exact Nx.refl _ | assumption | apply Nx.alloc | apply Nx.drew | apply Nx.drewN | (refine Nx.setCell ?_ (by first | (simp; done) | (simp; omega) | omega) _) | refine Nx.trans ?_ (by assumption)))
  have sW1 : W1.heap.size = w.heap.size + 1 := by subst hW1; simp
  have X0 : Bx W1 (w.heap.size) 49 [V x, V y] := by subst hW1; have h := Bx.alloc w 49 [V x, V y]; simpa using h
  have X0_0 := X0.cell (j := 0) rfl
  have X0_1 := X0.cell (j := 1) rfl
  have X0_z := X0.lt
  have HsW1 := Lib.hid sW1
  have lW1 : w.heap.size + 1 ≤ W1.heap.size := by omega
  clear hW1 sW1
  have kp : ∀ w', Nx W1 w' → (fun w_ => Nx W1 w_ ∧ w_.cell? ⟨w.heap.size, 0, none⟩ = some (V x) ∧ w_.cell? ⟨w.heap.size, 1, none⟩ = some (V y)) w' := fun w' h => ⟨h, h.cell X0_z X0_0, h.cell X0_z X0_1⟩
  have hdr : Nx W1 W1.drew := .drew (.refl _)
  go_region_held3 (fun w_ => Nx W1 w_ ∧ w_.cell? ⟨w.heap.size, 0, none⟩ = some (V x) ∧ w_.cell? ⟨w.heap.size, 1, none⟩ = some (V y))
    (first | exact kp _ hdr | exact kp _ hn2 | exact kp _ hn3)
    (first
      | (go_at_call 24; (with_reducible refine (Hdy.out w2).mono ?_); rintro e w3 ⟨rfl, hn3'⟩; have hn3 : Nx W1 w3 := hn2.trans hn3')
      | (go_at_call 24; (with_reducible refine (Hdx.out _).mono ?_); rintro e w2 ⟨rfl, hn2'⟩; have hn2 : Nx W1 w2 := hdr.trans hn2'))
  all_goals go_wp2
  all_goals go_ret
  all_goals exact RetV.mk (by simp) (gW1.trans hn3)

theorem esTxt_take {es : Es} {k : Nat} {e : Int × Int} (h : es[k]? = some e) : esTxt (es.take (k + 1)) = esTxt (es.take k) ++ eTxt e := by
  rw [List.take_add_one, h]
  simp [esTxt]
theorem esTxt_take_len {es : Es} (k : Nat) (h : Sm es) (hl : es.length ≤ 48) : (esTxt (es.take k)).length ≤ 288 := by
  have h1 := esTxt_len (es.take k) (fun e he => h e (List.mem_of_mem_take he))
  have h2 : (es.take k).length ≤ 48 := by rw [List.length_take]; omega
  omega

set_option maxRecDepth 100000 in
set_option maxHeartbeats 2000000 in
theorem edgesText_c (T : List UInt8) (hT : T.length ≤ 100) (A : Option Addr) (c : Nat) (es : Es) (w : World) (hx : EdgesAt w A es) (hs : Sm es) (hl : es.length ≤ 48) :
    Calls Tryd.prog 27 #[Str T, .slice A es.length c] w (RetV (Str (T ++ esTxt es)) w) := by
  go_enter Tryd.func27, Tryd.ntmps27
  go_wp2_with fail
  go_loopg [0, 9] es.length (fun gk o i wr => ∃ (k : Nat), k + gk = es.length ∧ o = Str (T ++ esTxt (es.take k)) ∧ i = .int .i64 k ∧ Nx w wr)
  case atStart => exact ⟨0, by omega, by simp [esTxt], rfl, Nx.refl _⟩
  case round =>
    obtain ⟨k, hk, rfl, rfl, hn⟩ := hrel
    have hl1 := esTxt_take_len k hs hl
    by_cases hlt : k < es.length
    · obtain ⟨e, he⟩ : ∃ t, es[k]? = some t := ⟨_, List.getElem?_eq_getElem hlt⟩
      obtain ⟨b1, off, rfl, hb1, h1, h2⟩ := (hx.nx hn).rd he
      have hse := hs e (List.mem_of_getElem? he)
      have Hst := Lib.hid (esTxt_take he)
      obtain ⟨x, y⟩ := e
      simp only at h1 h2 hse
      obtain ⟨x, rfl⟩ := Int.eq_ofNat_of_zero_le hse.1
      obtain ⟨y, rfl⟩ := Int.eq_ofNat_of_zero_le hse.2.2.1
      have hxs : x < 100 := by omega
      have hys : y < 100 := by omega
      have hdx := fun w' => itoa_q x hxs w'
      have hdy := fun w' => itoa_q y hys w'
      have lx := (dec_len hxs).2
      have ly := (dec_len hys).2
      have Htx : Hid (eTxt ((x : Int), (y : Int)) = 32 :: (decDigits x ++ 45 :: decDigits y)) := Lib.hid (by simp [eTxt])
      generalize decDigits x = dx at *
      generalize decDigits y = dy at *
      have Hdx := Lib.hid hdx
      have Hdy := Lib.hid hdy
      have a1 := adds (x := [32]) (y := dx) (by simp; omega)
      have a2 := adds (x := [32] ++ dx) (y := [45]) (by simp; omega)
      have a3 := adds (x := [32] ++ dx ++ [45]) (y := dy) (by simp; omega)
      generalize esTxt (es.take k) = l at *
      have a4 := adds (x := T ++ l) (y := [32] ++ dx ++ [45] ++ dy) (by simp; omega)
      clear hdx hdy hse he
      go_wp2
      go_quiet (first
        | (go_at_call 28; refine Calls.quiet_of_same (Hdx.out _))
        | (go_at_call 28; refine Calls.quiet_of_same (Hdy.out _)))
      go_wp2
      go_roundg (gk - 1)
      case measure => omega
      case rel => exact ⟨k + 1, by omega, by rw [Hst.out, Htx.out]; simp [ByteArray.mk_append_mk], by go_num, (by repeat (first | exact Nx.refl _ | assumption | apply Nx.alloc | apply Nx.drew | apply Nx.drewN | (refine Nx.setCell ?_ (by first | (simp; done) | (simp; omega) | omega) _) | refine Nx.trans ?_ (by assumption)))⟩
    · have hex : es.take k = es := List.take_of_length_le (by omega)
      have Hex := Lib.hid hex
      clear hex
      go_wp2
      go_ret
      refine RetV.mk ?_ (by repeat (first | exact Nx.refl _ | assumption | apply Nx.alloc | apply Nx.drew | apply Nx.drewN | (refine Nx.setCell ?_ (by first | (simp; done) | (simp; omega) | omega) _) | refine Nx.trans ?_ (by assumption)))
      rw [Hex.out]
      rfl
end Go.Proofs.YtafhojiialmbcaaDoor
