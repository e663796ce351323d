/- Contracts: BridgeTree of both. -/
import Derived.Test.YtjchabeiaajgiaaBT
import Derived.Test.YtjchabeiaajgiaaZ
import Derived.Deep.RegionHeld3
import Derived.Deep.Cut
import Derived.Deep.CutRange
namespace Go.Proofs.Ytjchabeiaajgiaa
open Go.RowKit set_option linter.unusedVariables false set_option linter.unusedSimpArgs false

/-- a row of edges of the call's own, and whether it is one -/
def RetTB (es : Es) (b : Bool) (w : World) (e : Ending) (w' : World) : Prop := ∃ A c, e = .returned (.tuple #[.slice A es.length c, .bool b]) ∧ OwnE w' w.heap.size 36 A c es ∧ Nx w w'
theorem iEof_b {x y : Int} (h : okE x y) (w : World) : Calls Try.prog 14 #[V x, V y] w (RetV (.tuple #[Ed (min x y) (max x y), .bool true]) w) := by
  have h1 := iEdgeOf_c x y w
  rwa [eof_yes h] at h1
theorem IntsAt.lk {w : World} {A : Option Addr} {xs : List Int} (h : IntsAt w A xs) {k : Nat} (hk : k < xs.length) : ∃ b off, A = some ⟨b, off, none⟩ ∧ b < w.heap.size ∧ w.cell? ⟨b, off + k, none⟩ = some (V (lk xs k)) := by
  obtain ⟨b, off, e, hb, hc⟩ := h.rd (j := k) (v := Go.Proofs.Ytjchabeiaajgiaa.lk xs k) (by simp [Go.Proofs.Ytjchabeiaajgiaa.lk, hk])
  exact ⟨b, off, e, hb, hc⟩

set_option maxRecDepth 100000 in
set_option maxHeartbeats 8000000 in
theorem iBridgeTree_c (n : Int) (A : Option Addr) (c : Nat) (es : List (Int × Int)) (w : World) (hx : EdgesAt w A es) (hl : es.length ≤ 1048576) :
    Calls Try.prog 39 #[.agg #[V n, .slice A es.length c]] w (RetTB (treeOf n es) (decide (Valid n es)) w) := by
  obtain ⟨i0, hi, hz0, hz1, hz2⟩ := info_parts infoE
  have Hi := Lib.hid hi
  have Hz0 := Lib.hid hz0
  have Hz1 := Lib.hid hz1
  have Hz2 := Lib.hid hz2
  clear hi hz0 hz1 hz2
  have hgv := fun w h => iGraphValid_c n A c es w h (by omega)
  by_cases hv : Valid n es
  · have e1 : decide (Valid n es) = true := by simpa using hv
    rw [treeOf_yes hv, e1]
    rw [e1] at hgv
    have Hgv := Lib.hid hgv
    have h16 := hv.2.1
    have h01 := hv.1
    have hE : ∀ e ∈ es, 0 ≤ e.1 ∧ e.1 < e.2 ∧ e.2 < (n.toNat : Int) := fun e he => by have := hv.pair he; have := hv.nat; omega
    have ht := fun w h => safeParts_c n.toNat A c es w h hl (by omega) hv.inR hv.apart
    have hte := fun w h => isBridge_tells n.toNat A c es w h hl (by omega) hv.inR hv.apart
    rw [hv.nat] at ht hte
    have Ht := Lib.hid ht
    have hed : ∀ w, EdgesAt w A es → Calls Try.prog 77 #[.agg #[V n, .slice A es.length c], .func (.func 78) #[.agg #[V n, .slice A es.length c]] #[]] w (RetE 36 (bridgesL n.toNat es) w) := fun w h =>
      edgesBy_c 78 #[.agg #[V n, .slice A es.length c]] #[] (bridgeB n.toNat es) (enters_of Try.func78 (by rfl) rfl) n A c es w h hl (hte w h)
    have Hed := Lib.hid hed
    have hend := fun e he => bridge_ends (n := n.toNat) (by omega) hE hv.inR (e := e) he
    have hmem := fun e (he : e ∈ bridgesL n.toNat es) => hE e (List.mem_filter.1 he).1
    have hsh : shrL n.toNat es = (bridgesL n.toNat es).map (shr (labels n.toNat (bareL n.toNat es))) := rfl
    have hlab : (labels n.toNat (bareL n.toNat es)).length = n.toNat := labels_length (hv.inR.sub bareL_sub)
    have hbl := bridgesL_len n.toNat es
    have h40 := hv.2.2.1
    rw [hsh, ← srt_put]
    generalize labels n.toNat (bareL n.toNat es) = ls at *
    generalize bridgesL n.toNat es = bs at *
    have Hend := Lib.hid hend
    have Hmem := Lib.hid hmem
    have Hlab := Lib.hid hlab
    have hbs : bs.length ≤ 40 := by omega
    clear hgv hte ht hed hend hmem hsh hlab hE hv e1 hbl
    go_enter Try.func39, Try.ntmps39
    go_wp2_with fail
    generalize hW1 : World.alloc _ _ = W1
    have gW1 : Nx w W1 := by subst hW1; exact (by repeat (first | exact Nx.refl _ | assumption | apply Nx.alloc | apply Nx.drew | apply Nx.drewN | (refine Nx.setCell ?_ (by first | (simp; done) | (simp; omega) | omega) _) | refine Nx.trans ?_ (by assumption)))
    have sW1 : W1.heap.size = w.heap.size + 1 := by subst hW1; simp
    have G : Bx W1 (w.heap.size) 26 [V n, .slice A es.length c] := by subst hW1; have h := Bx.alloc w 26 [V n, .slice A es.length c]; simpa using h
    have G_0 := G.cell (j := 0) rfl
    have G_1 := G.cell (j := 1) rfl
    have G_z := G.lt
    have HsW1 := Lib.hid sW1
    have lW1 : w.heap.size + 1 ≤ W1.heap.size := by omega
    clear hW1 sW1
    have N := gW1
    have hg := hx.nx gW1
    refine (Hgv.out _ hg).mono ?_
    rintro e w2 ⟨rfl, hn2⟩
    replace G := G.nx hn2
    replace G_0 := G.cell (j := 0) rfl
    replace G_1 := G.cell (j := 1) rfl
    replace G_z := G.lt
    replace hg := hg.nx hn2
    replace N := N.trans hn2
    have z2 := hn2.size
    go_wp2_with fail
    generalize hW3 : World.alloc _ _ = W3
    have gW3 : Nx w2 W3 := by subst hW3; exact (by repeat (first | exact Nx.refl _ | assumption | apply Nx.alloc | apply Nx.drew | apply Nx.drewN | (refine Nx.setCell ?_ (by first | (simp; done) | (simp; omega) | omega) _) | refine Nx.trans ?_ (by assumption)))
    have sW3 : W3.heap.size = w2.heap.size + 1 := by subst hW3; simp
    have O : Bx W3 (w2.heap.size) 36 [] := by subst hW3; have h := Bx.alloc w2 36 []; simpa using h
    have O_z := O.lt
    have HsW3 := Lib.hid sW3
    have lW3 : w2.heap.size + 1 ≤ W3.heap.size := by omega
    clear hW3 sW3
    replace G := G.nx gW3
    replace G_0 := G.cell (j := 0) rfl
    replace G_1 := G.cell (j := 1) rfl
    replace G_z := G.lt
    replace hg := hg.nx gW3
    replace N := N.trans gW3
    have ho : OwnE W3 w2.heap.size 36 (some ⟨w2.heap.size, 0, none⟩) 0 [] := O.emptyE (Nat.le_refl _)
    clear O O_z
    refine (Ht.out _ hg).mono ?_
    rintro e w4 ⟨C, k, rfl, hoL, hn4⟩
    replace G := G.nx hn4
    replace G_0 := G.cell (j := 0) rfl
    replace G_1 := G.cell (j := 1) rfl
    replace G_z := G.lt
    replace hg := hg.nx hn4
    replace N := N.trans hn4
    have hL := hoL.intsAt
    have hLlt := Lib.hid hoL.lt
    replace ho := ho.nx hn4
    clear hoL
    have z4 := hn4.size
    go_wp2_with fail
    refine (Hed.out _ hg).mono ?_
    rintro e w5 ⟨Q, q, rfl, hoB, hn5⟩
    replace G := G.nx hn5
    replace G_0 := G.cell (j := 0) rfl
    replace G_1 := G.cell (j := 1) rfl
    replace G_z := G.lt
    replace hg := hg.nx hn5
    replace N := N.trans hn5
    have hB := hoB.edgesAt
    have hBlt := Lib.hid hoB.lt
    replace hL := hL.nx hn5
    replace ho := ho.nx hn5
    have z5 := hn5.size
    clear hoB G G_0 G_1 G_z hg
    have ho' := ho.mono (base' := w.heap.size + 1) (by omega)
    clear ho
    go_wp2
    go_loopg [4, 21] bs.length (fun gk out i wr => ∃ (j : Nat) (A' : Option Addr) (c' : Nat), j + gk = bs.length ∧ i = .int .i64 j ∧ out = .slice A' ((bs.take j).map (shr ls)).length c' ∧ OwnE wr (w.heap.size + 1) 36 A' c' ((bs.take j).map (shr ls)) ∧ (∀ t, blk A' = some t → t = w2.heap.size ∨ w5.heap.size ≤ t) ∧ Nx w wr ∧ Gx (fun t => t = w2.heap.size) w5 wr)
    case atStart => exact ⟨0, _, 0, by omega, rfl, rfl, by simpa using ho', fun t ht => by (injection ht with ht; left; exact ht.symm), N, Gx.refl _ _⟩
    case round =>
      obtain ⟨j, A', c', hj, rfl, rfl, hown, hAj, N, Gg⟩ := hrel
      have hB2 := Gg.edges hB (fun t ht => by have := hBlt.out t ht; omega)
      have hL2 := Gg.ints hL (fun t ht => by have := hLlt.out t ht; omega)
      have HAj := Lib.hid hAj
      clear hAj
      by_cases hlt : j < bs.length
      · obtain ⟨⟨a, b⟩, hje⟩ : ∃ x, bs[j]? = some x := ⟨_, List.getElem?_eq_getElem hlt⟩
        have hm := List.mem_of_getElem? hje
        have hen := Hmem.out _ hm
        have hok := Hend.out _ hm
        have hst := take_shr (ls := ls) hje
        have hlen : ((bs.take j).map (shr ls)).length ≤ 40 := by simp; omega
        simp only at hen hok
        obtain ⟨a, rfl⟩ := Int.eq_ofNat_of_zero_le (show 0 ≤ a by omega)
        obtain ⟨b, rfl⟩ := Int.eq_ofNat_of_zero_le (show 0 ≤ b by omega)
        obtain ⟨bb, ob, rfl, zb, r1, r2⟩ := hB2.rd hje
        simp only at r1 r2
        have la : a < ls.length := by rw [Hlab.out]; omega
        have lb : b < ls.length := by rw [Hlab.out]; omega
        have ia : a < n.toNat := by omega
        have ib : b < n.toNat := by omega
        obtain ⟨bC, oC, rfl, zC, rA⟩ := hL2.lk la
        obtain ⟨_, _, hq1, _, rB⟩ := hL2.lk lb
        injection hq1 with hq1; injection hq1 with hq11 hq12; subst hq11 hq12
        have hsv : shr ls ((a : Int), (b : Int)) = (min (lk ls a) (lk ls b), max (lk ls a) (lk ls b)) := rfl
        rw [hsv] at hst
        generalize lk ls (a : Int) = va at *
        generalize lk ls (b : Int) = vb at *
        generalize (bs.take j).map (shr ls) = L at *
        have Hst := Lib.hid hst
        have Hok := Lib.hid hok
        have Hown := Lib.hid hown
        have HGg := Lib.hid Gg
        clear hst hok hown Gg hm hje hen hsv hB2 hL2 hB hL ho'
        go_upto_region 7 with (fail)
        generalize hW6 : World.alloc _ _ = W6
        have gW6 : Nx wr W6 := by subst hW6; exact (by repeat (first | exact Nx.refl _ | assumption | apply Nx.alloc | apply Nx.drew | apply Nx.drewN | (refine Nx.setCell ?_ (by first | (simp; done) | (simp; omega) | omega) _) | refine Nx.trans ?_ (by assumption)))
        have sW6 : W6.heap.size = wr.heap.size + 1 := by subst hW6; simp
        have E : Bx W6 (wr.heap.size) 36 [V (a : Nat), V (b : Nat)] := by subst hW6; have h := Bx.alloc wr 36 [V (a : Nat), V (b : Nat)]; simpa using h
        have E_0 := E.cell (j := 0) rfl
        have E_1 := E.cell (j := 1) rfl
        have E_z := E.lt
        have HsW6 := Lib.hid sW6
        have lW6 : wr.heap.size + 1 ≤ W6.heap.size := by omega
        clear hW6 sW6
        replace N := N.trans gW6
        replace rA := gW6.cell zC rA
        replace rB := gW6.cell zC rB
        replace zC := Nat.lt_of_lt_of_le zC gW6.size
        clear r1 r2 zb
        go_cut [8, 9] from 25 to 38 (fun s8 s9 wc => ∃ b8, s8 = .pointer (some ⟨b8, 0, none⟩) ∧ s9 = .bool true ∧ Nx W6 wc ∧ b8 < wc.heap.size ∧ wc.cell? ⟨b8, 0, none⟩ = some (V (min va vb)) ∧ wc.cell? ⟨b8, 1, none⟩ = some (V (max va vb)))
        case first =>
          have kp : ∀ w', Nx W6 w' → (fun w_ => Nx W6 w_ ∧ w_.cell? ⟨wr.heap.size, 0, none⟩ = some (V (a : Nat)) ∧ w_.cell? ⟨wr.heap.size, 1, none⟩ = some (V (b : Nat)) ∧ w_.cell? ⟨bC, oC + a, none⟩ = some (V va) ∧ w_.cell? ⟨bC, oC + b, none⟩ = some (V vb)) w' := fun w' h => ⟨h, h.cell E_z E_0, h.cell E_z E_1, h.cell zC rA, h.cell zC rB⟩
          go_region_held3 (fun w_ => Nx W6 w_ ∧ w_.cell? ⟨wr.heap.size, 0, none⟩ = some (V (a : Nat)) ∧ w_.cell? ⟨wr.heap.size, 1, none⟩ = some (V (b : Nat)) ∧ w_.cell? ⟨bC, oC + a, none⟩ = some (V va) ∧ w_.cell? ⟨bC, oC + b, none⟩ = some (V vb))
            (exact kp _ (by (repeat (first | exact Nx.refl _ | assumption | apply Nx.alloc | apply Nx.drew | apply Nx.drewN | (refine Nx.setCell ?_ (by first | (simp; done) | (simp; omega) | omega) _) | refine Nx.trans ?_ (by assumption))); done))
            (first | (go_at_call 14; (with_reducible refine (iEof_b Hok.out _).mono ?_); rintro e w8 ⟨rfl, hn8⟩; have hs8 : W6.heap.size ≤ w8.heap.size := Nx.size (by exact (by (repeat (first | exact Nx.refl _ | assumption | apply Nx.alloc | apply Nx.drew | apply Nx.drewN | (refine Nx.setCell ?_ (by first | (simp; done) | (simp; omega) | omega) _) | refine Nx.trans ?_ (by assumption))); done)); obtain ⟨hc8, hf8, hz8⟩ := hn8.rules; (try simp [size_drew_] at hz8); (try (have hq8 : W6.heap.size < w8.heap.size := (by have h := hn8.size; first | omega | (simp [size_drew_] at h; omega))))))
          all_goals go_wp2
          all_goals go_meet
          all_goals exact ⟨_, rfl, rfl, (by (repeat (first | exact Nx.refl _ | assumption | apply Nx.alloc | apply Nx.drew | apply Nx.drewN | (refine Nx.setCell ?_ (by first | (simp; done) | (simp; omega) | omega) _) | refine Nx.trans ?_ (by assumption))); done), (by first | (simp; done) | omega | (simp; omega) | (simp [size_drew_, size_set_]; omega)), (by go_simp), (by go_simp)⟩
        obtain ⟨b8, rfl, rfl, nc, z8, f0, f1⟩ := hcut
        obtain ⟨W8, hW8⟩ : ∃ v, v = wc := ⟨_, rfl⟩
        subst hW8
        have Ho8 := Lib.hid (Hown.out.nx (gW6.trans nc))
        have HG8 := Lib.hid (HGg.out.nx (gW6.trans nc))
        replace N := N.trans nc
        have z68 := nc.size
        have z6 := gW6.size
        have zr := HGg.out.size
        have zw := N.size
        clear E E_0 E_1 E_z rA rB zC Hown
        go_wp2_with (at_builtin; go_must (refine appE (base := w.heap.size + 1) (t := 36) L _ (min va vb) (max va vb) rfl rfl Try.underlying24 Hi.out Hz0.out Hz1.out Hz2.out rfl rfl (Ho8.out.nx (by repeat (first | exact Nx.refl _ | assumption | apply Nx.alloc | apply Nx.drew | apply Nx.drewN | (refine Nx.setCell ?_ (by first | (simp; done) | (simp; omega) | omega) _) | refine Nx.trans ?_ (by assumption)))) rfl (cellN rfl rfl) (cellN rfl rfl) (by omega) (by simp; omega) ?_; intro A2 c2 w9 hown9 hnx9 hgr9 hbl9))
        go_roundg (gk - 1)
        case measure => omega
        case rel =>
          refine ⟨j + 1, A2, c2, by omega, by go_num, by rw [Hst.out]; simp, by rw [Hst.out]; exact hown9, fun t ht => ?_, hnx9 w (by omega) (N.alloc _), (HG8.out.nx (Nx.alloc (.refl _) _)).grown hgr9 (fun t e => by rcases HAj.out t e with h | h; exact .inl h; exact .inr h)⟩
          rcases hbl9 with h | h
          · exact HAj.out t (h ▸ ht)
          · rw [h] at ht; injection ht with ht; simp at ht; right; omega
      · have hjb : bs.take j = bs := List.take_of_length_le (by omega)
        rw [hjb] at hown ⊢
        have hlen : (bs.map (shr ls)).length ≤ 40 := by simp; omega
        generalize bs.map (shr ls) = L at *
        have Hlen := Lib.hid (srtE_length L)
        clear hjb hB2 hL2 hB hL ho' Gg
        go_wp2_with fail
        refine (sortE_c _ A' c' L _ hown (by omega)).mono ?_
        rintro e w7 ⟨rfl, hs, hgr⟩
        have hn7 : Nx w w7 := N.grown hgr (fun t ht => by have := (hown.lt t ht).1; omega)
        go_wp2
        go_ret2
        exact ⟨A', c', by rw [Hlen.out]; rfl, hs.mono (by omega), hn7⟩
  · have e1 : decide (Valid n es) = false := by simpa using hv
    rw [treeOf_no hv, e1]
    rw [e1] at hgv
    have Hgv := Lib.hid hgv
    clear hgv hv e1
    go_enter Try.func39, Try.ntmps39
    go_wp2_with fail
    generalize hW1 : World.alloc _ _ = W1
    have gW1 : Nx w W1 := by subst hW1; exact (by repeat (first | exact Nx.refl _ | assumption | apply Nx.alloc | apply Nx.drew | apply Nx.drewN | (refine Nx.setCell ?_ (by first | (simp; done) | (simp; omega) | omega) _) | refine Nx.trans ?_ (by assumption)))
    have sW1 : W1.heap.size = w.heap.size + 1 := by subst hW1; simp
    have G : Bx W1 (w.heap.size) 26 [V n, .slice A es.length c] := by subst hW1; have h := Bx.alloc w 26 [V n, .slice A es.length c]; simpa using h
    have G_0 := G.cell (j := 0) rfl
    have G_1 := G.cell (j := 1) rfl
    have G_z := G.lt
    have HsW1 := Lib.hid sW1
    have lW1 : w.heap.size + 1 ≤ W1.heap.size := by omega
    clear hW1 sW1
    refine (Hgv.out _ (hx.nx gW1)).mono ?_
    rintro e w2 ⟨rfl, hn2⟩
    go_wp2
    go_ret2
    exact ⟨none, 0, rfl, OwnE.nil _ _ _, gW1.trans hn2⟩

set_option maxRecDepth 100000 in
set_option maxHeartbeats 8000000 in
theorem sBridgeTree_c (n : Int) (A : Option Addr) (c : Nat) (es : List (Int × Int)) (w : World) (hx : EdgesAt w A es) (hl : es.length ≤ 1048576) :
    Calls Try.prog 38 #[.agg #[V n, .slice A es.length c]] w (RetTB (treeOf n es) (decide (Valid n es)) w) := by
  have hgv := fun w h => sGraphValid_c n A c es w h (by omega)
  by_cases hv : Valid n es
  · have e1 : decide (Valid n es) = true := by simpa using hv
    rw [treeOf_yes hv, e1]
    rw [e1] at hgv
    have Hgv := Lib.hid hgv
    have h16 := hv.2.1
    have h01 := hv.1
    have hE : ∀ e ∈ es, 0 ≤ e.1 ∧ e.1 < e.2 ∧ e.2 < (n.toNat : Int) := fun e he => by have := hv.pair he; have := hv.nat; omega
    have ht := fun w h => l5Bare_c n.toNat A c es w h hl (by omega) hv.inR hv.apart
    have hbl2 := bareL_len n.toNat es
    have ht2 := fun B d w h => l2Labels_c n.toNat B d (bareL n.toNat es) w h (by omega) (by omega) (hv.inR.sub (bareL_sub (n := n.toNat) (es := es))) (fun e he => hv.apart e (bareL_sub e he))
    have htb := fun w h => l4Bridges_c n.toNat A c es w h hl (by omega) hv.inR hv.apart
    rw [hv.nat] at ht ht2 htb
    have Ht := Lib.hid ht
    have Ht2 := Lib.hid ht2
    have Htb := Lib.hid htb
    have hmem := fun e (he : e ∈ bridgesL n.toNat es) => hE e (List.mem_filter.1 he).1
    have hsh : shrL n.toNat es = (bridgesL n.toNat es).map (shr (labels n.toNat (bareL n.toNat es))) := rfl
    have hlab : (labels n.toNat (bareL n.toNat es)).length = n.toNat := labels_length (hv.inR.sub bareL_sub)
    have hbl := bridgesL_len n.toNat es
    have h40 := hv.2.2.1
    rw [hsh]
    generalize labels n.toNat (bareL n.toNat es) = ls at *
    generalize bridgesL n.toNat es = bs at *
    have Hmem := Lib.hid hmem
    have Hlab := Lib.hid hlab
    have hbs : bs.length ≤ 40 := by omega
    unfold RetG at Ht
    obtain ⟨mb, hmb⟩ : ∃ x, (bareL n.toNat es).length = x := ⟨_, rfl⟩
    simp only [hmb] at Ht Ht2 hbl2
    clear hgv ht ht2 htb hmem hsh hlab hE hv e1 hbl hmb
    go_enter Try.func38, Try.ntmps38
    go_wp2_with fail
    generalize hW1 : World.alloc _ _ = W1
    have gW1 : Nx w W1 := by subst hW1; exact (by repeat (first | exact Nx.refl _ | assumption | apply Nx.alloc | apply Nx.drew | apply Nx.drewN | (refine Nx.setCell ?_ (by first | (simp; done) | (simp; omega) | omega) _) | refine Nx.trans ?_ (by assumption)))
    have sW1 : W1.heap.size = w.heap.size + 2 := by subst hW1; simp
    have G : Bx W1 (w.heap.size) 26 [V n, .slice A es.length c] := by subst hW1; have h := Bx.alloc w 26 [V n, .slice A es.length c]; have h := h.nx (Nx.alloc (Nx.refl _) (.cells #[] 36)); simpa using h
    have O : Bx W1 (w.heap.size + 1) 36 [] := by subst hW1; have h := Bx.alloc (w.alloc (.cells #[V n, .slice A es.length c] 26)) 36 []; simpa using h
    have G_0 := G.cell (j := 0) rfl
    have G_1 := G.cell (j := 1) rfl
    have G_z := G.lt
    have O_z := O.lt
    have HsW1 := Lib.hid sW1
    have lW1 : w.heap.size + 2 ≤ W1.heap.size := by omega
    clear hW1 sW1
    have ho : OwnE W1 (w.heap.size + 1) 36 (some ⟨w.heap.size + 1, 0, none⟩) 0 [] := O.emptyE (Nat.le_refl _)
    have N := gW1
    have hg := hx.nx gW1
    clear O O_z
    refine (Hgv.out _ hg).mono ?_
    rintro e w2 ⟨rfl, hn2⟩
    replace G := G.nx hn2
    replace G_0 := G.cell (j := 0) rfl
    replace G_1 := G.cell (j := 1) rfl
    replace G_z := G.lt
    replace hg := hg.nx hn2
    replace N := N.trans hn2
    replace ho := ho.nx hn2
    go_wp2_with fail
    refine (Ht.out _ hg).mono ?_
    rintro e w3 ⟨R, r, rfl, hoR, hn3⟩
    replace G := G.nx hn3
    replace G_0 := G.cell (j := 0) rfl
    replace G_1 := G.cell (j := 1) rfl
    replace G_z := G.lt
    replace hg := hg.nx hn3
    replace N := N.trans hn3
    replace ho := ho.nx hn3
    have hR := hoR.edgesAt
    clear hoR
    go_wp2_with fail
    refine (Ht2.out R r _ hR).mono ?_
    rintro e w4 ⟨C, k, rfl, hoL, hn4⟩
    replace G := G.nx hn4
    replace G_0 := G.cell (j := 0) rfl
    replace G_1 := G.cell (j := 1) rfl
    replace G_z := G.lt
    replace hg := hg.nx hn4
    replace N := N.trans hn4
    replace ho := ho.nx hn4
    have hL := hoL.intsAt
    clear hoL hR
    go_wp2_with fail
    refine (Htb.out _ hg).mono ?_
    rintro e w5 ⟨Q, q, rfl, hoB, hn5⟩
    replace G := G.nx hn5
    replace G_0 := G.cell (j := 0) rfl
    replace G_1 := G.cell (j := 1) rfl
    replace G_z := G.lt
    replace hg := hg.nx hn5
    replace N := N.trans hn5
    replace ho := ho.nx hn5
    have hB := hoB.edgesAt
    replace hL := hL.nx hn5
    have zw5 : w.heap.size + 2 ≤ w5.heap.size := by have := hn2.size; have := hn3.size; have := hn4.size; have := hn5.size; omega
    clear hoB G G_0 G_1 G_z hg
    go_wp2
    go_loopg [4, 7] bs.length (fun gk out i wr => ∃ (j : Nat) (A' : Option Addr) (c' : Nat), j + gk = bs.length ∧ i = .int .i64 j ∧ out = .slice A' (putAll ((bs.take j).map (shr ls))).length c' ∧ OwnE wr (w.heap.size + 1) 36 A' c' (putAll ((bs.take j).map (shr ls))) ∧ Nx w5 wr)
    case atStart => exact ⟨0, _, 0, by omega, rfl, rfl, by simpa [putAll] using ho, Nx.refl _⟩
    case round =>
      obtain ⟨j, A', c', hj, rfl, rfl, hown, hn⟩ := hrel
      by_cases hlt : j < bs.length
      · obtain ⟨⟨a, b⟩, hje⟩ : ∃ x, bs[j]? = some x := ⟨_, List.getElem?_eq_getElem hlt⟩
        have hm := List.mem_of_getElem? hje
        have hen := Hmem.out _ hm
        have hst := take_put (ls := ls) hje
        have hlen : (putAll ((bs.take j).map (shr ls))).length ≤ 40 := by rw [putAll_len]; simp; omega
        simp only at hen
        obtain ⟨a, rfl⟩ := Int.eq_ofNat_of_zero_le (show 0 ≤ a by omega)
        obtain ⟨b, rfl⟩ := Int.eq_ofNat_of_zero_le (show 0 ≤ b by omega)
        obtain ⟨bb, ob, rfl, zb, r1, r2⟩ := (hB.nx hn).rd hje
        simp only at r1 r2
        have la : a < ls.length := by rw [Hlab.out]; omega
        have lb : b < ls.length := by rw [Hlab.out]; omega
        have ia : a < n.toNat := by omega
        have ib : b < n.toNat := by omega
        obtain ⟨bC, oC, rfl, zC, rA⟩ := (hL.nx hn).lk la
        obtain ⟨_, _, hq1, _, rB⟩ := (hL.nx hn).lk lb
        injection hq1 with hq1; injection hq1 with hq11 hq12; subst hq11 hq12
        have hsv : shr ls ((a : Int), (b : Int)) = (min (lk ls a) (lk ls b), max (lk ls a) (lk ls b)) := rfl
        rw [hsv] at hst
        generalize lk ls (a : Int) = va at *
        generalize lk ls (b : Int) = vb at *
        generalize putAll ((bs.take j).map (shr ls)) = L at *
        have Hst := Lib.hid hst
        have hx0 := hown.edgesAt
        have hzw : w.heap.size + 1 ≤ wr.heap.size := by have := hn.size; omega
        clear hst hown hm hje hen hsv hB hL ho
        have kp : ∀ w', Nx wr w' → (fun w_ => Nx wr w_ ∧ w_.cell? ⟨bb, ob + j * 2, none⟩ = some (V (a : Nat)) ∧ w_.cell? ⟨bb, ob + j * 2 + 1, none⟩ = some (V (b : Nat)) ∧ w_.cell? ⟨bC, oC + a, none⟩ = some (V va) ∧ w_.cell? ⟨bC, oC + b, none⟩ = some (V vb)) w' := fun w' h => ⟨h, h.cell zb r1, h.cell zb r2, h.cell zC rA, h.cell zC rB⟩
        have hdr : Nx wr wr.drew := .drew (.refl _)
        go_wp2_with fail
        go_region_held3 (fun w_ => Nx wr w_ ∧ w_.cell? ⟨bb, ob + j * 2, none⟩ = some (V (a : Nat)) ∧ w_.cell? ⟨bb, ob + j * 2 + 1, none⟩ = some (V (b : Nat)) ∧ w_.cell? ⟨bC, oC + a, none⟩ = some (V va) ∧ w_.cell? ⟨bC, oC + b, none⟩ = some (V vb))
          (first | exact kp _ hdr | exact kp _ hn8 | exact kp _ hn9)
          (first
            | (go_at_call 84; (with_reducible refine (l1Edge_c va vb _).mono ?_); rintro e w8 ⟨rfl, hn8d⟩; have hn8 : Nx wr w8 := hdr.trans hn8d)
            | (go_at_call 83; (with_reducible refine (l1Put_c A' c' L (min va vb) (max va vb) _ (hx0.nx hn8) (by omega)).mono ?_); rintro e w9 ⟨A9, c9, rfl, ho9, hn9d⟩; have hn9 : Nx wr w9 := hn8.trans hn9d))
        have z8 := hn8.size
        go_wp2
        go_roundg (gk - 1)
        case measure => omega
        case rel => exact ⟨j + 1, A9, c9, by omega, by go_num, by rw [Hst.out], by rw [Hst.out]; exact ho9.mono (by omega), hn.trans hn9⟩
      · have hjb : bs.take j = bs := List.take_of_length_le (by omega)
        rw [hjb] at hown ⊢
        generalize putAll (bs.map (shr ls)) = L at *
        go_wp2
        go_ret2
        exact ⟨A', c', rfl, hown.mono (by omega), N.trans hn⟩
  · have e1 : decide (Valid n es) = false := by simpa using hv
    rw [treeOf_no hv, e1]
    rw [e1] at hgv
    have Hgv := Lib.hid hgv
    clear hgv hv e1
    go_enter Try.func38, Try.ntmps38
    go_wp2_with fail
    generalize hW1 : World.alloc _ _ = W1
    have gW1 : Nx w W1 := by subst hW1; exact (by repeat (first | exact Nx.refl _ | assumption | apply Nx.alloc | apply Nx.drew | apply Nx.drewN | (refine Nx.setCell ?_ (by first | (simp; done) | (simp; omega) | omega) _) | refine Nx.trans ?_ (by assumption)))
    have sW1 : W1.heap.size = w.heap.size + 2 := by subst hW1; simp
    have G : Bx W1 (w.heap.size) 26 [V n, .slice A es.length c] := by subst hW1; have h := Bx.alloc w 26 [V n, .slice A es.length c]; have h := h.nx (Nx.alloc (Nx.refl _) (.cells #[] 36)); simpa using h
    have O : Bx W1 (w.heap.size + 1) 36 [] := by subst hW1; have h := Bx.alloc (w.alloc (.cells #[V n, .slice A es.length c] 26)) 36 []; simpa using h
    have G_0 := G.cell (j := 0) rfl
    have G_1 := G.cell (j := 1) rfl
    have G_z := G.lt
    have O_z := O.lt
    have HsW1 := Lib.hid sW1
    have lW1 : w.heap.size + 2 ≤ W1.heap.size := by omega
    clear hW1 sW1
    have ho : OwnE W1 (w.heap.size + 1) 36 (some ⟨w.heap.size + 1, 0, none⟩) 0 [] := O.emptyE (Nat.le_refl _)
    refine (Hgv.out _ (hx.nx gW1)).mono ?_
    rintro e w2 ⟨rfl, hn2⟩
    go_wp2
    go_ret2
    exact ⟨_, 0, rfl, (ho.nx hn2).mono (by omega), gW1.trans hn2⟩
end Go.Proofs.Ytjchabeiaajgiaa
