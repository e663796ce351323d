/- FnHasEdge: the walk. -/
import Derived.Test.YtmagbdcmanchmaaQ0
namespace Go.Proofs.Ytmagbdcmanchmaa
open Go.RowKit

/-- how often the edge was seen among the first k -/
def Seen (es : Es) (e : Int × Int) (k c : Nat) : Prop := (c = 1 ∧ ∃ j, j < k ∧ es[j]? = some e) ∨ (c = 0 ∧ ∀ j, j < k → es[j]? ≠ some e)
theorem Seen.le {es : Es} {e : Int × Int} {k c : Nat} (h : Seen es e k c) : c ≤ 1 := by rcases h with ⟨h, _⟩ | ⟨h, _⟩ <;> omega
theorem Seen.zero (es : Es) (e : Int × Int) : Seen es e 0 0 := Or.inr ⟨rfl, fun j hj => by omega⟩
theorem Seen.hit {n : Int} {es : Es} {e : Int × Int} {k c : Nat} (hv : Valid n es) (h : Seen es e k c) (hk : es[k]? = some e) : Seen es e (k + 1) (c + 1) ∧ c = 0 := by
  rcases h with ⟨_, j, hj, he⟩ | ⟨h, h2⟩
  · exact absurd (hv.sorted j k e e hj he hk) ltE_irrefl
  · exact ⟨Or.inl ⟨by omega, k, by omega, hk⟩, h⟩
theorem Seen.miss {es : Es} {e x : Int × Int} {k c : Nat} (h : Seen es e k c) (hk : es[k]? = some x) (hx : x ≠ e) : Seen es e (k + 1) c := by
  rcases h with ⟨h, j, hj, he⟩ | ⟨h, h2⟩
  · exact Or.inl ⟨h, j, by omega, he⟩
  · refine Or.inr ⟨h, fun j hj => ?_⟩
    by_cases hjk : j = k
    · subst hjk; rw [hk]; intro h3; injection h3 with h3; exact hx h3
    · exact h2 j (by omega)
theorem Seen.all {n : Int} {es : Es} {u v : Int} {c : Nat} (hv : Valid n es) (h : Seen es (u, v) es.length c) : decide (HasB n es u v) = decide (c = 1) := by
  rcases h with ⟨h, j, hj, he⟩ | ⟨h, h2⟩
  · have : (u, v) ∈ es := List.mem_of_getElem? he
    simp [HasB, hv, this, h]
  · have : (u, v) ∉ es := fun hm => by
      obtain ⟨j, hj⟩ := List.mem_iff_getElem?.1 hm
      exact h2 j (List.getElem?_eq_some_iff.1 hj).1 hj
    simp [HasB, this, h]

set_option maxRecDepth 100000 in
set_option maxHeartbeats 8000000 in
theorem fnHasEdge_walk (w : World) (A : Option Addr) (n c : Nat) (hnc : n ≤ c) (hb : BytesAt w w.heap.size A n) :
    Calls Try.prog 14 #[.slice A n c] w (RetV (.bool true) w) := by
  by_cases hbig : (n : Int) > 1048576
  · go_enter Try.func14, Try.ntmps14
    go_wp2
    go_ret
    exact RetV.bool rfl (by repeat (first | exact Nx.refl _ | assumption | apply Nx.alloc | apply Nx.drew | apply Nx.drewN | (refine Nx.setCell ?_ (by first | (simp; done) | (simp; omega) | omega) _) | refine Nx.trans ?_ (by assumption)))
  · go_enter Try.func14, Try.ntmps14
    go_wp2_with fail
    refine (drawHasEdge_c A n c _ hnc hb).mono ?_
    rintro e w1 ⟨nn, B, d, es, u, v, rfl, h1, h2, h3, ho, N⟩
    have hg := ho.edgesAt
    clear ho hb
    generalize hq : decide (HasB nn es u v) = hasq
    have H1 := Lib.hid hq
    by_cases hp : Valid nn es
    · have Hv := Lib.hid hp
      clear hp hq
      go_wp2_with fail
      generalize hW2 : World.alloc _ _ = W2
      have gW2 : Nx w1 W2 := by subst hW2; exact (by repeat (first | exact Nx.refl _ | assumption | apply Nx.alloc | apply Nx.drew | apply Nx.drewN | (refine Nx.setCell ?_ (by first | (simp; done) | (simp; omega) | omega) _) | refine Nx.trans ?_ (by assumption)))
      have sW2 : W2.heap.size = w1.heap.size + 2 := by subst hW2; simp
      have G : Bx W2 (w1.heap.size) 29 [V nn, .slice B es.length d] := by subst hW2; have h := Bx.alloc w1 29 [V nn, .slice B es.length d]; have h := h.nx (Nx.alloc (Nx.refl _) (.cells #[V u, V v] 40)); simpa using h
      have E : Bx W2 (w1.heap.size + 1) 40 [V u, V v] := by subst hW2; have h := Bx.alloc (w1.alloc (.cells #[V nn, .slice B es.length d] 29)) 40 [V u, V v]; simpa using h
      have G_0 := G.cell (j := 0) rfl
      have G_1 := G.cell (j := 1) rfl
      have G_z := G.lt
      have E_0 := E.cell (j := 0) rfl
      have E_1 := E.cell (j := 1) rfl
      have E_z := E.lt
      have HsW2 := Lib.hid sW2
      have lW2 : w1.heap.size + 2 ≤ W2.heap.size := by omega
      clear hW2 sW2
      replace hg := hg.nx gW2
      replace N := N.trans gW2
      refine (iHas_to nn B d es u v hasq H1.out _ hg (by omega)).mono ?_
      rintro e w3 ⟨rfl, hn3⟩
      replace G := G.nx hn3
      replace G_0 := G.cell (j := 0) rfl
      replace G_1 := G.cell (j := 1) rfl
      replace G_z := G.lt
      replace E := E.nx hn3
      replace E_0 := E.cell (j := 0) rfl
      replace E_1 := E.cell (j := 1) rfl
      replace E_z := E.lt
      replace hg := hg.nx hn3
      replace N := N.trans hn3
      go_wp2_with fail
      refine (sHas_to nn B d es u v hasq H1.out _ hg (by omega)).mono ?_
      rintro e w4 ⟨rfl, hn4⟩
      replace G := G.nx hn4
      replace G_0 := G.cell (j := 0) rfl
      replace G_1 := G.cell (j := 1) rfl
      replace G_z := G.lt
      replace E := E.nx hn4
      replace E_0 := E.cell (j := 0) rfl
      replace E_1 := E.cell (j := 1) rfl
      replace E_z := E.lt
      replace hg := hg.nx hn4
      replace N := N.trans hn4
      go_wp2_with fail
      refine (valid_yes nn B d es Hv.out _ hg (by omega)).mono ?_
      rintro e w5 ⟨rfl, hn5⟩
      replace G := G.nx hn5
      replace G_0 := G.cell (j := 0) rfl
      replace G_1 := G.cell (j := 1) rfl
      replace G_z := G.lt
      replace E := E.nx hn5
      replace E_0 := E.cell (j := 0) rfl
      replace E_1 := E.cell (j := 1) rfl
      replace E_z := E.lt
      replace hg := hg.nx hn5
      replace N := N.trans hn5
      go_wp2
      go_loopw [6, 7] (fun a i wr => ∃ m k : Nat, k ≤ es.length ∧ a = .int .i64 m ∧ i = .int .i64 k ∧ Seen es (u, v) k m ∧ Nx w5 wr) (fun _ i _ => es.length - (intOf i).toNat)
      case atStart => exact ⟨0, 0, by omega, rfl, rfl, Seen.zero _ _, Nx.refl _⟩
      case round =>
        obtain ⟨m, k, hk, rfl, rfl, hs, hn⟩ := hrel
        have hm1 := hs.le
        have Hs := Lib.hid hs
        clear hs
        replace G := G.nx hn
        replace G_0 := G.cell (j := 0) rfl
        replace G_1 := G.cell (j := 1) rfl
        replace G_z := G.lt
        replace E := E.nx hn
        replace E_0 := E.cell (j := 0) rfl
        replace E_1 := E.cell (j := 1) rfl
        replace E_z := E.lt
        replace hg := hg.nx hn
        replace N := N.trans hn

        by_cases hlt : k < es.length
        · have hek : es[k]? = some es[k] := List.getElem?_eq_getElem hlt
          have hmem : es[k] ∈ es := List.getElem_mem hlt
          have hg2 := hg
          obtain ⟨b, off, rfl, hbl, hc⟩ := hg2 (by omega)
          have h1 := (hc k hlt).1
          have h2 := (hc k hlt).2
          clear hc
          generalize es[k] = e at *
          obtain ⟨p, q⟩ := e
          have Hek := Lib.hid hek
          have Hm := Lib.hid (show decide (HasB nn es p q) = true by simp [HasB, Hv.out, hmem])
          clear hek hmem
          by_cases hpq : p = u ∧ q = v
          · obtain ⟨rfl, rfl⟩ := hpq
            obtain ⟨Hit, rfl⟩ := Hs.out.hit Hv.out Hek.out
            have Hit := Lib.hid Hit
            go_wp2
            go_quiet (fail)
            generalize hwq : World.drewN wr _ = wq
            have hnq : Nx wr wq := by subst hwq; exact (by repeat (first | exact Nx.refl _ | assumption | apply Nx.alloc | apply Nx.drew | apply Nx.drewN | (refine Nx.setCell ?_ (by first | (simp; done) | (simp; omega) | omega) _) | refine Nx.trans ?_ (by assumption)))
            clear hwq
            replace G := G.nx hnq
            replace G_0 := G.cell (j := 0) rfl
            replace G_1 := G.cell (j := 1) rfl
            replace G_z := G.lt
            replace E := E.nx hnq
            replace E_0 := E.cell (j := 0) rfl
            replace E_1 := E.cell (j := 1) rfl
            replace E_z := E.lt
            replace hg := hg.nx hnq
            replace h1 := hnq.cell (p := ⟨b, off + k * 2, none⟩) hbl h1
            replace h2 := hnq.cell (p := ⟨b, off + k * 2 + 1, none⟩) hbl h2
            replace hbl : b < wq.heap.size := Nat.lt_of_lt_of_le hbl hnq.size
            replace N := N.trans hnq
            go_wp2_with fail
            (refine tail_quiet 6 (by kernel_rfl) (by kernel_rfl) (fun W6 gW6 => ?_); obtain ⟨hcW6, hfW6, hzW6⟩ := gW6.rules; simp only [List.take_succ_cons, List.take_zero, List.drop_succ_cons, List.drop_zero]; (repeat go_big_quiet_step (fail)); with_reducible refine wpQuiet_nil ?_)
            go_wp2_with fail
            replace N := N.trans gW6
            replace G := G.nx gW6
            replace G_0 := G.cell (j := 0) rfl
            replace G_1 := G.cell (j := 1) rfl
            replace G_z := G.lt
            replace E := E.nx gW6
            replace E_0 := E.cell (j := 0) rfl
            replace E_1 := E.cell (j := 1) rfl
            replace E_z := E.lt
            replace hg := hg.nx gW6
            refine (iHas_to nn (some ⟨b, off, none⟩) d es p q true Hm.out _ hg (by omega)).mono ?_
            rintro e w7 ⟨rfl, hn7⟩
            replace G := G.nx hn7
            replace G_0 := G.cell (j := 0) rfl
            replace G_1 := G.cell (j := 1) rfl
            replace G_z := G.lt
            replace E := E.nx hn7
            replace E_0 := E.cell (j := 0) rfl
            replace E_1 := E.cell (j := 1) rfl
            replace E_z := E.lt
            replace hg := hg.nx hn7
            replace N := N.trans hn7
            go_wp2
            go_roundw
            case rel => exact ⟨1, k + 1, by omega, by go_num, by go_num, Hit.out, ((hn.trans hnq).trans gW6).trans hn7⟩
            case measure => simp [intOf]; omega
          · have Hmiss := Lib.hid (Hs.out.miss Hek.out (by simpa using hpq))
            by_cases e1 : (p == u) = true
            · have e2 : (q == v) = false := by simp at e1; simp; exact fun h => hpq ⟨e1, h⟩
              clear hpq
              go_wp2
              go_quiet (fail)
              generalize hwq : World.drewN wr _ = wq
              have hnq : Nx wr wq := by subst hwq; exact (by repeat (first | exact Nx.refl _ | assumption | apply Nx.alloc | apply Nx.drew | apply Nx.drewN | (refine Nx.setCell ?_ (by first | (simp; done) | (simp; omega) | omega) _) | refine Nx.trans ?_ (by assumption)))
              clear hwq
              replace G := G.nx hnq
              replace G_0 := G.cell (j := 0) rfl
              replace G_1 := G.cell (j := 1) rfl
              replace G_z := G.lt
              replace E := E.nx hnq
              replace E_0 := E.cell (j := 0) rfl
              replace E_1 := E.cell (j := 1) rfl
              replace E_z := E.lt
              replace hg := hg.nx hnq
              replace h1 := hnq.cell (p := ⟨b, off + k * 2, none⟩) hbl h1
              replace h2 := hnq.cell (p := ⟨b, off + k * 2 + 1, none⟩) hbl h2
              replace hbl : b < wq.heap.size := Nat.lt_of_lt_of_le hbl hnq.size
              replace N := N.trans hnq
              go_wp2_with fail
              (refine tail_quiet 6 (by kernel_rfl) (by kernel_rfl) (fun W6 gW6 => ?_); obtain ⟨hcW6, hfW6, hzW6⟩ := gW6.rules; simp only [List.take_succ_cons, List.take_zero, List.drop_succ_cons, List.drop_zero]; (repeat go_big_quiet_step (fail)); with_reducible refine wpQuiet_nil ?_)
              go_wp2_with fail
              replace N := N.trans gW6
              replace G := G.nx gW6
              replace G_0 := G.cell (j := 0) rfl
              replace G_1 := G.cell (j := 1) rfl
              replace G_z := G.lt
              replace E := E.nx gW6
              replace E_0 := E.cell (j := 0) rfl
              replace E_1 := E.cell (j := 1) rfl
              replace E_z := E.lt
              replace hg := hg.nx gW6
              refine (iHas_to nn (some ⟨b, off, none⟩) d es p q true Hm.out _ hg (by omega)).mono ?_
              rintro e w7 ⟨rfl, hn7⟩
              replace G := G.nx hn7
              replace G_0 := G.cell (j := 0) rfl
              replace G_1 := G.cell (j := 1) rfl
              replace G_z := G.lt
              replace E := E.nx hn7
              replace E_0 := E.cell (j := 0) rfl
              replace E_1 := E.cell (j := 1) rfl
              replace E_z := E.lt
              replace hg := hg.nx hn7
              replace N := N.trans hn7
              go_wp2
              go_roundw
              case rel => exact ⟨m, k + 1, by omega, rfl, by go_num, Hmiss.out, ((hn.trans hnq).trans gW6).trans hn7⟩
              case measure => simp [intOf]; omega
            · have e1 : (p == u) = false := by simpa using e1
              clear hpq
              go_wp2
              go_quiet (fail)
              generalize hwq : World.drewN wr _ = wq
              have hnq : Nx wr wq := by subst hwq; exact (by repeat (first | exact Nx.refl _ | assumption | apply Nx.alloc | apply Nx.drew | apply Nx.drewN | (refine Nx.setCell ?_ (by first | (simp; done) | (simp; omega) | omega) _) | refine Nx.trans ?_ (by assumption)))
              clear hwq
              replace G := G.nx hnq
              replace G_0 := G.cell (j := 0) rfl
              replace G_1 := G.cell (j := 1) rfl
              replace G_z := G.lt
              replace E := E.nx hnq
              replace E_0 := E.cell (j := 0) rfl
              replace E_1 := E.cell (j := 1) rfl
              replace E_z := E.lt
              replace hg := hg.nx hnq
              replace h1 := hnq.cell (p := ⟨b, off + k * 2, none⟩) hbl h1
              replace h2 := hnq.cell (p := ⟨b, off + k * 2 + 1, none⟩) hbl h2
              replace hbl : b < wq.heap.size := Nat.lt_of_lt_of_le hbl hnq.size
              replace N := N.trans hnq
              go_wp2_with fail
              (refine tail_quiet 6 (by kernel_rfl) (by kernel_rfl) (fun W6 gW6 => ?_); obtain ⟨hcW6, hfW6, hzW6⟩ := gW6.rules; simp only [List.take_succ_cons, List.take_zero, List.drop_succ_cons, List.drop_zero]; (repeat go_big_quiet_step (fail)); with_reducible refine wpQuiet_nil ?_)
              go_wp2_with fail
              replace N := N.trans gW6
              replace G := G.nx gW6
              replace G_0 := G.cell (j := 0) rfl
              replace G_1 := G.cell (j := 1) rfl
              replace G_z := G.lt
              replace E := E.nx gW6
              replace E_0 := E.cell (j := 0) rfl
              replace E_1 := E.cell (j := 1) rfl
              replace E_z := E.lt
              replace hg := hg.nx gW6
              refine (iHas_to nn (some ⟨b, off, none⟩) d es p q true Hm.out _ hg (by omega)).mono ?_
              rintro e w7 ⟨rfl, hn7⟩
              replace G := G.nx hn7
              replace G_0 := G.cell (j := 0) rfl
              replace G_1 := G.cell (j := 1) rfl
              replace G_z := G.lt
              replace E := E.nx hn7
              replace E_0 := E.cell (j := 0) rfl
              replace E_1 := E.cell (j := 1) rfl
              replace E_z := E.lt
              replace hg := hg.nx hn7
              replace N := N.trans hn7
              go_wp2
              go_roundw
              case rel => exact ⟨m, k + 1, by omega, rfl, by go_num, Hmiss.out, ((hn.trans hnq).trans gW6).trans hn7⟩
              case measure => simp [intOf]; omega
        · have hke : k = es.length := by omega
          subst hke
          have hfin := Hs.out.all Hv.out
          rw [H1.out] at hfin
          have Hfin := Lib.hid hfin
          clear hfin
          have hmc : m = 0 ∨ m = 1 := by omega
          rcases hmc with rfl | rfl
          · have hqq : hasq = false := by rw [Hfin.out]; simp
            subst hqq
            go_wp2
            go_ret
            exact RetV.bool rfl (by repeat (first | exact Nx.refl _ | assumption | apply Nx.alloc | apply Nx.drew | apply Nx.drewN | (refine Nx.setCell ?_ (by first | (simp; done) | (simp; omega) | omega) _) | refine Nx.trans ?_ (by assumption)))
          · have hqq : hasq = true := by rw [Hfin.out]; simp
            subst hqq
            go_wp2
            go_ret
            exact RetV.bool rfl (by repeat (first | exact Nx.refl _ | assumption | apply Nx.alloc | apply Nx.drew | apply Nx.drewN | (refine Nx.setCell ?_ (by first | (simp; done) | (simp; omega) | omega) _) | refine Nx.trans ?_ (by assumption)))
    · have Hv := Lib.hid (show decide (Valid nn es) = false by simpa using hp)
      have hf : hasq = false := by rw [← hq]; simp [HasB, hp]
      subst hf
      clear hp hq
      have hvv := iGraphValid_c nn B d es
      rw [Hv.out] at hvv
      go_wp2_with fail
      generalize hW2 : World.alloc _ _ = W2
      have gW2 : Nx w1 W2 := by subst hW2; exact (by repeat (first | exact Nx.refl _ | assumption | apply Nx.alloc | apply Nx.drew | apply Nx.drewN | (refine Nx.setCell ?_ (by first | (simp; done) | (simp; omega) | omega) _) | refine Nx.trans ?_ (by assumption)))
      have sW2 : W2.heap.size = w1.heap.size + 2 := by subst hW2; simp
      have G : Bx W2 (w1.heap.size) 29 [V nn, .slice B es.length d] := by subst hW2; have h := Bx.alloc w1 29 [V nn, .slice B es.length d]; have h := h.nx (Nx.alloc (Nx.refl _) (.cells #[V u, V v] 40)); simpa using h
      have E : Bx W2 (w1.heap.size + 1) 40 [V u, V v] := by subst hW2; have h := Bx.alloc (w1.alloc (.cells #[V nn, .slice B es.length d] 29)) 40 [V u, V v]; simpa using h
      have G_0 := G.cell (j := 0) rfl
      have G_1 := G.cell (j := 1) rfl
      have G_z := G.lt
      have E_0 := E.cell (j := 0) rfl
      have E_1 := E.cell (j := 1) rfl
      have E_z := E.lt
      have HsW2 := Lib.hid sW2
      have lW2 : w1.heap.size + 2 ≤ W2.heap.size := by omega
      clear hW2 sW2
      replace hg := hg.nx gW2
      replace N := N.trans gW2
      refine (iHas_to nn B d es u v false H1.out _ hg (by omega)).mono ?_
      rintro e w3 ⟨rfl, hn3⟩
      replace G := G.nx hn3
      replace G_0 := G.cell (j := 0) rfl
      replace G_1 := G.cell (j := 1) rfl
      replace G_z := G.lt
      replace E := E.nx hn3
      replace E_0 := E.cell (j := 0) rfl
      replace E_1 := E.cell (j := 1) rfl
      replace E_z := E.lt
      replace hg := hg.nx hn3
      replace N := N.trans hn3
      go_wp2_with fail
      refine (sHas_to nn B d es u v false H1.out _ hg (by omega)).mono ?_
      rintro e w4 ⟨rfl, hn4⟩
      replace G := G.nx hn4
      replace G_0 := G.cell (j := 0) rfl
      replace G_1 := G.cell (j := 1) rfl
      replace G_z := G.lt
      replace E := E.nx hn4
      replace E_0 := E.cell (j := 0) rfl
      replace E_1 := E.cell (j := 1) rfl
      replace E_z := E.lt
      replace hg := hg.nx hn4
      replace N := N.trans hn4
      go_wp2_with fail
      refine (hvv _ hg (by omega)).mono ?_
      rintro e w5 ⟨rfl, hn5⟩
      replace G := G.nx hn5
      replace G_0 := G.cell (j := 0) rfl
      replace G_1 := G.cell (j := 1) rfl
      replace G_z := G.lt
      replace E := E.nx hn5
      replace E_0 := E.cell (j := 0) rfl
      replace E_1 := E.cell (j := 1) rfl
      replace E_z := E.lt
      replace hg := hg.nx hn5
      replace N := N.trans hn5
      go_wp2_with fail
      refine (sHas_to nn B d es u v false H1.out _ hg (by omega)).mono ?_
      rintro e w6 ⟨rfl, hn6⟩
      replace G := G.nx hn6
      replace G_0 := G.cell (j := 0) rfl
      replace G_1 := G.cell (j := 1) rfl
      replace G_z := G.lt
      replace E := E.nx hn6
      replace E_0 := E.cell (j := 0) rfl
      replace E_1 := E.cell (j := 1) rfl
      replace E_z := E.lt
      replace hg := hg.nx hn6
      replace N := N.trans hn6
      go_wp2
      go_ret
      exact RetV.bool rfl (by repeat (first | exact Nx.refl _ | assumption | apply Nx.alloc | apply Nx.drew | apply Nx.drewN | (refine Nx.setCell ?_ (by first | (simp; done) | (simp; omega) | omega) _) | refine Nx.trans ?_ (by assumption)))
end Go.Proofs.Ytmagbdcmanchmaa
