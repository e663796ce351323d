/- FnExactParseGraph: the walk. -/
import Derived.Test.YtekepbcmjfdcjaaDoorPG6
namespace Go.Proofs.YtekepbcmjfdcjaaDoor
open Go.RowKit set_option linter.unusedVariables false set_option linter.unusedSimpArgs false

theorem sParse_c {l : List UInt8} {n : Int} {es : Es} {b : Bool} (h : PgIs l n es b) (hl : l.length ≤ 1048576) (w : World) : Calls Tryd.prog 5 #[Str l] w (RetPg n es b w) := by
  rcases h with ⟨rfl, hv, rfl⟩ | ⟨rfl, rfl, rfl, hno⟩
  · have h1 := hv.1
    obtain ⟨m, rfl⟩ := Int.eq_ofNat_of_zero_le (show 0 ≤ n by omega)
    exact sParse_yes m es hv w
  · exact sParse_no l hl hno w
theorem iParse_c {l : List UInt8} {n : Int} {es : Es} {b : Bool} (h : PgIs l n es b) (hl : l.length ≤ 1048576) (w : World) (hV : Vars w) : Calls Tryd.prog 6 #[Str l] w (RetPg n es b w) := by
  rcases h with ⟨rfl, hv, rfl⟩ | ⟨rfl, rfl, rfl, hno⟩
  · have h1 := hv.1
    obtain ⟨m, rfl⟩ := Int.eq_ofNat_of_zero_le (show 0 ≤ n by omega)
    exact iParse_yes m es hv w hV
  · exact iParse_no l hl hno w hV

set_option maxRecDepth 100000 in
set_option maxHeartbeats 8000000 in
theorem fnExactParseGraph_walk (w : World) (l : List UInt8) (hV : Vars w) : Calls Tryd.prog 3 #[Str l] w (RetV (.bool true) w) := by
  by_cases hbig : 1048576 < l.length
  · have hd : decide ((1048576 : Int) < (l.length : Int)) = true := by simp; omega
    go_enter Tryd.func3, Tryd.ntmps3
    go_wp2
    go_ret
    exact RetV.bool rfl (.refl _)
  · have hd : decide ((1048576 : Int) < (l.length : Int)) = false := by simp; omega
    obtain ⟨n, es, b, hp⟩ := pg_ex l
    have h40 := hp.len
    have hbb : (b != b) = false := by cases b <;> rfl
    have Hs := Lib.hid (fun w => sParse_c hp (by omega) w)
    have Hm := Lib.hid (fun w h => iParse_c hp (by omega) w h)
    have Heq := Lib.hid (fun A A' c c' w h h' => (show Calls Tryd.prog 7 #[.agg #[V n, .slice A es.length c], .agg #[V n, .slice A' es.length c']] w (RetV (.bool true) w) by
      have := eqGraph_c n n A A' c c' es es w h h' (by omega) (by omega)
      simpa using this))
    have Hmk := Lib.hid (fun base A c w h => markGraph_c 41 base n A c es 1 w h (by omega) (by omega) (by omega))
    have Hhe := Lib.hid (fun A c w h => heldGraph_c n A c es.length 1 w h (by omega) (by omega) (by omega))
    have HV := Lib.hid hV
    unfold RetPg at Hs Hm
    unfold MarkedE at Hmk
    clear hp hV
    obtain ⟨m, hm⟩ : ∃ x, es.length = x := ⟨_, rfl⟩
    simp only [hm] at Hs Hm Heq Hmk Hhe h40
    clear hm
    go_enter Tryd.func3, Tryd.ntmps3
    go_wp2_with fail
    refine (Hs.out _).mono ?_
    rintro e w1 ⟨F, f, rfl, oF, N⟩
    have hF := oF.edgesAt
    have oFl := Lib.hid oF.lt
    have z1 := N.size
    go_wp2_with fail
    generalize hW2 : World.alloc _ _ = W2
    have gW2 : Nx w1 W2 := by subst hW2; exact (by repeat (first | exact Nx.refl _ | assumption | apply Nx.alloc | apply Nx.drew | apply Nx.drewN | (refine Nx.setCell ?_ (by first | (simp; done) | (simp; omega) | omega) _) | refine Nx.trans ?_ (by assumption)))
    have sW2 : W2.heap.size = w1.heap.size + 1 := by subst hW2; simp
    have X : Bx W2 (w1.heap.size) 24 [V n, .slice F m f] := by subst hW2; have h := Bx.alloc w1 24 [V n, .slice F m f]; simpa using h
    have X_0 := X.cell (j := 0) rfl
    have X_1 := X.cell (j := 1) rfl
    have X_z := X.lt
    have HsW2 := Lib.hid sW2
    have lW2 : w1.heap.size + 1 ≤ W2.heap.size := by omega
    clear hW2 sW2
    replace hF := hF.nx gW2
    replace N := N.trans gW2
    refine (Hm.out _ (HV.out.nx N)).mono ?_
    rintro e w3 ⟨G, g, rfl, oG, hn3⟩
    replace X := X.nx hn3
    replace X_0 := X.cell (j := 0) rfl
    replace X_1 := X.cell (j := 1) rfl
    replace X_z := X.lt
    replace hF := hF.nx hn3
    replace N := N.trans hn3
    have z3 := hn3.size
    have oGl := Lib.hid oG.lt
    go_wp2_with fail
    generalize hW4 : World.alloc _ _ = W4
    have gW4 : Nx w3 W4 := by subst hW4; exact (by repeat (first | exact Nx.refl _ | assumption | apply Nx.alloc | apply Nx.drew | apply Nx.drewN | (refine Nx.setCell ?_ (by first | (simp; done) | (simp; omega) | omega) _) | refine Nx.trans ?_ (by assumption)))
    have sW4 : W4.heap.size = w3.heap.size + 1 := by subst hW4; simp
    have Y : Bx W4 (w3.heap.size) 24 [V n, .slice G m g] := by subst hW4; have h := Bx.alloc w3 24 [V n, .slice G m g]; simpa using h
    have Y_0 := Y.cell (j := 0) rfl
    have Y_1 := Y.cell (j := 1) rfl
    have Y_z := Y.lt
    have HsW4 := Lib.hid sW4
    have lW4 : w3.heap.size + 1 ≤ W4.heap.size := by omega
    clear hW4 sW4
    replace X := X.nx gW4
    replace X_0 := X.cell (j := 0) rfl
    replace X_1 := X.cell (j := 1) rfl
    replace X_z := X.lt
    replace hF := hF.nx gW4
    replace N := N.trans gW4
    replace oG := oG.nx gW4
    refine (Heq.out G F g f _ oG.edgesAt hF).mono ?_
    rintro e w5 ⟨rfl, hn5⟩
    replace X := X.nx hn5
    replace X_0 := X.cell (j := 0) rfl
    replace X_1 := X.cell (j := 1) rfl
    replace X_z := X.lt
    replace Y := Y.nx hn5
    replace Y_0 := Y.cell (j := 0) rfl
    replace Y_1 := Y.cell (j := 1) rfl
    replace Y_z := Y.lt
    replace hF := hF.nx hn5
    replace N := N.trans hn5
    replace oG := oG.nx hn5
    go_wp2_with fail
    refine (Hmk.out _ G g _ oG).mono ?_
    rintro e w6 ⟨rfl, om, gx0⟩
    have gx : Gx (fun k => W2.heap.size ≤ k ∧ k < w3.heap.size) w5 w6 := (Gx.refl _ w5).grown gx0 fun j e => .inl (oGl.out j e)
    have z5 := hn5.size
    have z4 := gW4.size
    have z2 := gW2.size
    clear gx0 oG X_0 X_1 X_z Y_0 Y_1 Y_z
    replace X := gx.bx X (by omega)
    replace Y := gx.bx Y (by omega)
    replace hF := gx.edges hF (fun k hk => by have := oFl.out k hk; omega)
    replace N := gx.back N (fun k hk => by omega)
    have z6 := gx.size
    clear gx
    have X_0 := X.cell (j := 0) rfl
    have X_1 := X.cell (j := 1) rfl
    have X_z := X.lt
    have Y_0 := Y.cell (j := 0) rfl
    have Y_1 := Y.cell (j := 1) rfl
    have Y_z := Y.lt
    go_wp2_with fail
    refine (Hhe.out G g _ om.edgesAt).mono ?_
    rintro e w7 ⟨rfl, hn7⟩
    replace X := X.nx hn7
    replace X_0 := X.cell (j := 0) rfl
    replace X_1 := X.cell (j := 1) rfl
    replace X_z := X.lt
    replace Y := Y.nx hn7
    replace Y_0 := Y.cell (j := 0) rfl
    replace Y_1 := Y.cell (j := 1) rfl
    replace Y_z := Y.lt
    replace hF := hF.nx hn7
    replace N := N.trans hn7
    replace om := om.nx hn7
    go_wp2_with fail
    refine (Hm.out _ (HV.out.nx N)).mono ?_
    rintro e w8 ⟨K, q, rfl, oK, hn8⟩
    replace X := X.nx hn8
    replace X_0 := X.cell (j := 0) rfl
    replace X_1 := X.cell (j := 1) rfl
    replace X_z := X.lt
    replace Y := Y.nx hn8
    replace Y_0 := Y.cell (j := 0) rfl
    replace Y_1 := Y.cell (j := 1) rfl
    replace Y_z := Y.lt
    replace hF := hF.nx hn8
    replace N := N.trans hn8
    replace om := om.nx hn8
    go_wp2_with fail
    generalize hW9 : World.alloc _ _ = W9
    have gW9 : Nx w8 W9 := by subst hW9; exact (by repeat (first | exact Nx.refl _ | assumption | apply Nx.alloc | apply Nx.drew | apply Nx.drewN | (refine Nx.setCell ?_ (by first | (simp; done) | (simp; omega) | omega) _) | refine Nx.trans ?_ (by assumption)))
    have sW9 : W9.heap.size = w8.heap.size + 1 := by subst hW9; simp
    have Z : Bx W9 (w8.heap.size) 24 [V n, .slice K m q] := by subst hW9; have h := Bx.alloc w8 24 [V n, .slice K m q]; simpa using h
    have Z_0 := Z.cell (j := 0) rfl
    have Z_1 := Z.cell (j := 1) rfl
    have Z_z := Z.lt
    have HsW9 := Lib.hid sW9
    have lW9 : w8.heap.size + 1 ≤ W9.heap.size := by omega
    clear hW9 sW9
    replace X := X.nx gW9
    replace X_0 := X.cell (j := 0) rfl
    replace X_1 := X.cell (j := 1) rfl
    replace X_z := X.lt
    replace Y := Y.nx gW9
    replace Y_0 := Y.cell (j := 0) rfl
    replace Y_1 := Y.cell (j := 1) rfl
    replace Y_z := Y.lt
    replace hF := hF.nx gW9
    replace N := N.trans gW9
    replace om := om.nx gW9
    replace oK := oK.nx gW9
    refine (Heq.out K F q f _ oK.edgesAt hF).mono ?_
    rintro e w10 ⟨rfl, hn10⟩
    replace X := X.nx hn10
    replace X_0 := X.cell (j := 0) rfl
    replace X_1 := X.cell (j := 1) rfl
    replace X_z := X.lt
    replace Y := Y.nx hn10
    replace Y_0 := Y.cell (j := 0) rfl
    replace Y_1 := Y.cell (j := 1) rfl
    replace Y_z := Y.lt
    replace N := N.trans hn10
    replace om := om.nx hn10
    go_wp2_with fail
    refine (Hhe.out G g _ om.edgesAt).mono ?_
    rintro e w11 ⟨rfl, hn11⟩
    replace X := X.nx hn11
    replace X_0 := X.cell (j := 0) rfl
    replace X_1 := X.cell (j := 1) rfl
    replace X_z := X.lt
    replace N := N.trans hn11
    go_wp2
    go_ret
    exact RetV.bool rfl N
end Go.Proofs.YtekepbcmjfdcjaaDoor
