import Derived.Test.YtbceoigmcomlbaaJ27
import Derived.Test.YtbceoigmcomlbaaJ28
import Derived.Test.YtbceoigmcomlbaaJ33
/- Contract: l6Walk, the walk down a forest: it ends, and its row is short. -/
namespace Go.Proofs.Ytbceoigmcomlbaa
open Go.RowKit set_option linter.unusedVariables false set_option linter.unusedSimpArgs false

theorem IntsAt.gr {w w' : World} {r : Option Nat} {A : Option Addr} {xs : List Int} (h : IntsAt w A xs) (g : w.grownBy w' r) (hne : ∀ q, blk A = some q → r ≠ some q) : IntsAt w' A xs := fun h0 => by
  obtain ⟨b, off, rfl, hb, hc⟩ := h h0
  exact ⟨b, off, rfl, Nat.lt_of_lt_of_le hb g.size, fun k hk => World.grownBy.cell g (hc k hk) (fun e => hne b rfl e.symm)⟩
theorem EdgesAt.gr {w w' : World} {r : Option Nat} {A : Option Addr} {xs : Es} (h : EdgesAt w A xs) (g : w.grownBy w' r) (hne : ∀ q, blk A = some q → r ≠ some q) : EdgesAt w' A xs := fun h0 => by
  obtain ⟨b, off, rfl, hb, hc⟩ := h h0
  exact ⟨b, off, rfl, Nat.lt_of_lt_of_le hb g.size, fun k hk => ⟨World.grownBy.cell g (hc k hk).1 (fun e => hne b rfl e.symm), World.grownBy.cell g (hc k hk).2 (fun e => hne b rfl e.symm)⟩⟩
/-- one row turns, then the row that it has become -/
theorem grown_next {a b c : World} {r s : Option Nat} (h : a.grownBy b r) (k : b.grownBy c s) (hs : s = r ∨ ∀ q, s = some q → a.heap.size ≤ q) : a.grownBy c r :=
  ⟨k.os.trans h.os, k.tape.trans h.tape, k.output.trans h.output, Nat.le_trans h.size k.size, fun i hi hne => by
    refine (k.block i (Nat.lt_of_lt_of_le hi h.size) fun e => ?_).trans (h.block i hi hne)
    rcases hs with hs | hs
    · exact hne (e.trans hs)
    · have := hs i e.symm; omega⟩
/-- the row has grown by what the walk adds -/
def Walked (base : Nat) (A : Option Addr) (m : Nat) (out : List Int) (sz : Nat) (w : World) (e : Ending) (w' : World) : Prop :=
  ∃ A' c' zs, e = .returned (.slice A' (m + zs.length) c') ∧ OwnI w' base 3 A' c' (out ++ zs) ∧ 1 ≤ zs.length ∧ zs.length + 1 ≤ 2 * sz ∧ w.grownBy w' (blk A) ∧ (blk A' = blk A ∨ ∀ q, blk A' = some q → w.heap.size ≤ q)

set_option maxRecDepth 100000 in
set_option maxHeartbeats 4000000 in
theorem l6Walk_c (n : Nat) (G : Option Addr) (gc : Nat) (E : Es) (hf : FreeT E) (hn : n ≤ 16) (hE : E.length ≤ 1000) : ∀ (f : Nat) (x p : Int) (A : Option Addr) (c m : Nat) (out : List Int) (base : Nat) (w : World),
    (below E x p).length ≤ f → 0 ≤ x → x < n → EdgesAt w G E → OwnI w base 3 A c out → out.length = m → m + 2 * (below E x p).length ≤ 100000 → base ≤ w.heap.size → (∀ q, blk G = some q → blk A ≠ some q) →
    Calls Try.prog 65 #[.agg #[V n, .slice G E.length gc], V x, V p, .slice A m c] w (Walked base A m out (below E x p).length w)
  | 0, x, p, A, c, m, out, base, w, hb, h0, h1, _, _, _, _, _, _ => by have := below_pos (E := E) (p := p) (x := x) ⟨h0, by omega⟩; omega
  | f + 1, x, p, A, c, m, out, base, w, hb, h0, h1, hx, hown, hm, hmb, hbase, hap => by
    obtain ⟨i0, hi0, hz0, hz1, hz2⟩ := info_parts infoI
    have Hi0 := Lib.hid hi0
    have Hz0 := Lib.hid hz0
    have Hz1 := Lib.hid hz1
    have Hz2 := Lib.hid hz2
    have ih := l6Walk_c n G gc E hf hn hE f
    have hx16 : 0 ≤ x ∧ x < 16 := ⟨h0, by omega⟩
    have hwm0 := wmax_zero n E x p
    have hwle := fun k => wmax_le (n := n) (p := p) hf hx16 k
    have hnx := fun w' h => l1Next_c n G gc E x w' h (by omega) (by omega)
    have hsz := below_le E x p
    have hnl : (nextL n E x).length ≤ n := by unfold nextL; exact Nat.le_trans (List.length_filter_le _ _) (by simp)
    have hchild : ∀ k cc, (nextL n E x)[k]? = some cc → cc ≠ p → (0 ≤ cc ∧ cc < n) ∧ (below E cc x).length ≤ f ∧ wmax n E x p (k + 1) = wmax n E x p k + 2 * (below E cc x).length ∧ 0 < E.length := fun k cc hk hc => by
      have h := next_edge (List.mem_of_getElem? hk)
      have h2 := child_lt (n := n) hf hx16 hk hc
      exact ⟨h.2.2, by omega, wmax_step hk hc, List.length_pos_of_mem h.1⟩
    have hskip : ∀ k, (nextL n E x)[k]? = some p → wmax n E x p (k + 1) = wmax n E x p k := fun k hk => wmax_skip hk
    generalize hS : (below E x p).length = sz at *
    generalize nextL n E x = ns at *
    have HS := Lib.hid hS
    have Hih := Lib.hid ih
    have Hwm0 := Lib.hid hwm0
    have Hwle := Lib.hid hwle
    have Hnx := Lib.hid hnx
    have Hchild := Lib.hid hchild
    have Hskip := Lib.hid hskip
    have Hx := Lib.hid hx
    have Hown := Lib.hid hown
    have Hm := Lib.hid hm
    have Hap := Lib.hid hap
    have hlt0 := hown.lt
    have Hlt0 := Lib.hid hlt0
    have HL1 : Hid ([x].length = 1) := Lib.hid rfl
    clear hi0 hz0 hz1 hz2 ih hwm0 hwle hnx hchild hskip hx hown hm hap hS hlt0 hx16
    have hneb : blk A ≠ some w.heap.size := fun e => by have := (Hlt0.out _ e).2; omega
    go_enter Try.func65, Try.ntmps65
    go_wp2_with (at_builtin; refine appIn (base := base) (t := 3) (c' := 1) out [x] m 1 Hm.out rfl rfl rfl Try.underlying23 Hi0.out Hz0.out Hz1.out Hz2.out rfl rfl (Hown.out.nx (by (repeat (first | exact Nx.refl _ | assumption | apply Nx.alloc | apply Nx.drew | apply Nx.drewN | (refine Nx.setCell ?_ (by first | (simp; done) | (simp; omega) | omega) _) | refine Nx.trans ?_ (by assumption))); done)) rfl (intsOne (by first | (simp; done) | (simp; omega) | omega) (by go_simp)) (by omega) (by simp; omega) ?_; intro A2 c2 w2 hown2 hnx2 hgr2 hbl2; have hgw2 : w.grownBy w2 (blk A) := World.grownBy.trans (Nx.grownR (((Nx.refl w).alloc _).alloc _) _) hgr2; have b0 : w2.cell? ⟨w.heap.size, 0, none⟩ = some (V n) := World.grownBy.cell hgr2 (by go_simp) (fun e => hneb e.symm); have b1 : w2.cell? ⟨w.heap.size, 1, none⟩ = some (.slice G E.length gc) := World.grownBy.cell hgr2 (by go_simp) (fun e => hneb e.symm); have hz2' : w.heap.size + 2 ≤ w2.heap.size := (by have := hgr2.size; simpa using this); have HA2 : Hid (blk A2 = blk A ∨ ∀ q, blk A2 = some q → w.heap.size + 1 ≤ q) := Lib.hid (hbl2.imp id (fun e q hq => by rw [e] at hq; injection hq with hq; simp at hq; omega)); have Hx2 := Lib.hid (Hx.out.gr hgw2 Hap.out); have Hown2 := Lib.hid hown2; have Hgw2 := Lib.hid hgw2; clear hgr2 hbl2 hnx2 hown2 hgw2)
    refine (Hnx.out _ Hx2.out).mono ?_
    rintro e w3 ⟨N, nc, rfl, ho3, hn3⟩
    have hz3 := hn3.size
    have b0 := hn3.cell (p := ⟨w.heap.size, 0, none⟩) (by simp; omega) b0
    have b1 := hn3.cell (p := ⟨w.heap.size, 1, none⟩) (by simp; omega) b1
    have hNlt := ho3.lt
    have HNlt := Lib.hid hNlt
    have Ho3 := Lib.hid ho3
    have hA2lt := Hown2.out.lt
    have HA2lt := Lib.hid hA2lt
    clear hNlt ho3 hA2lt
    go_wp2
    go_loopg [3, 10] ns.length (fun gk o i wr => ∃ (k : Nat) (A' : Option Addr) (c' : Nat) (zs : List Int) (m' : Nat), k + gk = ns.length ∧ i = .int .i64 k ∧ o = .slice A' m' c' ∧ m + zs.length = m' ∧ OwnI wr base 3 A' c' (out ++ zs) ∧ 1 ≤ zs.length ∧ zs.length ≤ wmax n E x p k ∧ w.grownBy wr (blk A) ∧ (blk A' = blk A ∨ ∀ q, blk A' = some q → w.heap.size + 1 ≤ q) ∧ (∀ q, blk N = some q → blk A' ≠ some q) ∧ w3.heap.size ≤ wr.heap.size ∧ wr.cell? ⟨w.heap.size, 0, none⟩ = some (V n) ∧ wr.cell? ⟨w.heap.size, 1, none⟩ = some (.slice G E.length gc) ∧ IntsAt wr N ns)
    case atStart =>
      refine ⟨0, A2, c2, [x], m + 1, by omega, rfl, rfl, rfl, Hown2.out.nx hn3, Nat.le_refl _, by rw [Hwm0.out]; exact Nat.le_refl _, World.grownBy.trans Hgw2.out (hn3.grownR _), HA2.out, fun q hq e => ?_, Nat.le_refl _, b0, b1, Ho3.out.intsAt⟩
      have h1 := (HNlt.out q hq).1
      have h2 := (HA2lt.out q e).2
      omega
    case round =>
      clear b0 b1
      obtain ⟨k, A', c', zs, m', hk, rfl, rfl, hm', hown, hz1', hzw, hgr, hA', hNA, hsz3, b0, b1, hN⟩ := hrel
      have hwk := Hwle.out k
      have Hm' := Lib.hid hm'
      have Hown3 := Lib.hid hown
      have Hgr := Lib.hid hgr
      have HA' := Lib.hid hA'
      have HNA := Lib.hid hNA
      have HN := Lib.hid hN
      have hlt3 := hown.lt
      have Hlt3 := Lib.hid hlt3
      have hszw := hgr.size
      clear hown hgr hA' hNA hN hlt3
      by_cases hlt : k < ns.length
      · obtain ⟨cc, hek⟩ : ∃ z, ns[k]? = some z := ⟨_, List.getElem?_eq_getElem hlt⟩
        obtain ⟨bN, oN, hNe, hbN, r1⟩ := HN.out.rd hek
        subst hNe
        by_cases hcp : cc = p
        · subst hcp
          have hsk := Hskip.out k hek
          have Hsk := Lib.hid hsk
          clear hsk hek hm'
          go_wp2
          go_roundg (gk - 1)
          case measure => omega
          case rel => exact ⟨k + 1, A', c', zs, m', by omega, by go_num, rfl, Hm'.out, Hown3.out, hz1', by rw [Hsk.out]; exact hzw, Hgr.out, HA'.out, HNA.out, hsz3, b0, b1, HN.out⟩
        · obtain ⟨hc01, hcf, hcw, hE0⟩ := Hchild.out k cc hek hcp
          have hcn : (cc != p) = true := by simpa using hcp
          have hcn2 : (cc == p) = false := by simpa using hcp
          have hwk1 := Hwle.out (k + 1)
          rw [hcw] at hwk1
          have Hcw := Lib.hid hcw
          have hneb' : blk A' ≠ some w.heap.size := fun e => by
            rcases HA'.out with h | h
            · exact hneb (h ▸ e)
            · have := h _ e; omega
          have hbN' : blk A' ≠ some bN := HNA.out bN rfl
          have hGA : ∀ q, blk G = some q → blk A' ≠ some q := fun q hq e => by
            rcases HA'.out with h | h
            · exact Hap.out q hq (h ▸ e)
            · have h1 := h _ e
              obtain ⟨bg, og, hG, hbg, _⟩ := Hx.out hE0
              rw [hG] at hq
              injection hq with hq
              have : bg = q := hq
              omega
          have hcall := fun w' h1 h2 h3 => Hih.out cc x A' c' m' (out ++ zs) base w' hcf hc01.1 hc01.2 h1 h2 (by rw [List.length_append, Hm.out]; exact Hm'.out) (by omega) h3 hGA
          have hscb := below_le E cc x
          have hm'b : m' ≤ 100000 := by omega
          generalize (below E cc x).length = sc at *
          have Hcall := Lib.hid hcall
          have HGA := Lib.hid hGA
          have hsi := Hi0.out
          have hs0 := Hz0.out
          have hs1 := Hz1.out
          have hs2 := Hz2.out
          clear hcw hek hm' hcall hGA
          go_wp2_with fail
          have kp : ∀ w', wr.grownBy w' (blk A') → (fun w_ => wr.grownBy w_ (blk A') ∧ w_.cell? ⟨w.heap.size, 0, none⟩ = some (V n) ∧ w_.cell? ⟨w.heap.size, 1, none⟩ = some (.slice G E.length gc) ∧ w_.cell? ⟨bN, oN + k, none⟩ = some (V cc)) w' := fun w' h => ⟨h, World.grownBy.cell h b0 (fun e => hneb' e.symm), World.grownBy.cell h b1 (fun e => hneb' e.symm), World.grownBy.cell h r1 (fun e => hbN' e.symm)⟩
          first | (go_region_held3 (fun w_ => wr.grownBy w_ (blk A') ∧ w_.cell? ⟨w.heap.size, 0, none⟩ = some (V n) ∧ w_.cell? ⟨w.heap.size, 1, none⟩ = some (.slice G E.length gc) ∧ w_.cell? ⟨bN, oN + k, none⟩ = some (V cc))
            (first | exact kp _ hgf | exact kp _ hgc | exact kp _ (World.grownBy.trans hgc (Nx.grownR (by exact (by (repeat (first | exact Nx.refl _ | assumption | apply Nx.alloc | apply Nx.drew | apply Nx.drewN | (refine Nx.setCell ?_ (by first | (simp; done) | (simp; omega) | omega) _) | refine Nx.trans ?_ (by assumption))); done)) _)) | exact kp _ (Nx.grownR (by exact (by (repeat (first | exact Nx.refl _ | assumption | apply Nx.alloc | apply Nx.drew | apply Nx.drewN | (refine Nx.setCell ?_ (by first | (simp; done) | (simp; omega) | omega) _) | refine Nx.trans ?_ (by assumption))); done)) _))
            (first
              | (go_at_call 65; (with_reducible refine (Hcall.out _ (Hx.out.gr (World.grownBy.trans Hgr.out (Nx.grownR (by exact (by (repeat (first | exact Nx.refl _ | assumption | apply Nx.alloc | apply Nx.drew | apply Nx.drewN | (refine Nx.setCell ?_ (by first | (simp; done) | (simp; omega) | omega) _) | refine Nx.trans ?_ (by assumption))); done)) _)) Hap.out) (Hown3.out.nx (by exact (by (repeat (first | exact Nx.refl _ | assumption | apply Nx.alloc | apply Nx.drew | apply Nx.drewN | (refine Nx.setCell ?_ (by first | (simp; done) | (simp; omega) | omega) _) | refine Nx.trans ?_ (by assumption))); done))) (Nat.le_trans (Nat.le_trans hbase hszw) (Nx.size (by exact (by (repeat (first | exact Nx.refl _ | assumption | apply Nx.alloc | apply Nx.drew | apply Nx.drewN | (refine Nx.setCell ?_ (by first | (simp; done) | (simp; omega) | omega) _) | refine Nx.trans ?_ (by assumption))); done))))).mono ?_); rintro e w5 ⟨A5, c5, ys, rfl, ho5, hy1, hy2, hg5, hb5⟩; have hgc : wr.grownBy w5 (blk A') := World.grownBy.trans (Nx.grownR (by exact (by (repeat (first | exact Nx.refl _ | assumption | apply Nx.alloc | apply Nx.drew | apply Nx.drewN | (refine Nx.setCell ?_ (by first | (simp; done) | (simp; omega) | omega) _) | refine Nx.trans ?_ (by assumption))); done)) _) hg5; have hb5' : Hid (blk A5 = blk A' ∨ ∀ q, blk A5 = some q → wr.heap.size ≤ q) := Lib.hid (hb5.imp id (fun h q hq => Nat.le_trans (Nx.size (by exact (by (repeat (first | exact Nx.refl _ | assumption | apply Nx.alloc | apply Nx.drew | apply Nx.drewN | (refine Nx.setCell ?_ (by first | (simp; done) | (simp; omega) | omega) _) | refine Nx.trans ?_ (by assumption))); done))) (h q hq))); have Hlen : Hid ((out ++ zs ++ ys).length = m' + ys.length) := Lib.hid (by rw [List.length_append, List.length_append, Hm.out, Hm'.out]); have hz5 := hg5.size; have hl5 := ho5.lt; have Hl5 := Lib.hid hl5; clear hl5 hb5; (try simp [size_drew_] at hz5); (try (have hxn : w5.cell? ⟨wr.heap.size, 0, none⟩ = some (V x) := World.grownBy.cell hg5 (by first | (go_simp; done) | fail) (fun e => absurd (Hlt3.out _ e.symm).2 (Nat.lt_irrefl _)))))
              | (refine stepIsN (base := base) (c' := 1) (out ++ zs ++ ys) [x] (m' + ys.length) 1 Hlen.out rfl rfl rfl Try.underlying23 hsi hs0 hs1 hs2 rfl rfl (ho5.nx (by (repeat (first | exact Nx.refl _ | assumption | apply Nx.alloc | apply Nx.drew | apply Nx.drewN | (refine Nx.setCell ?_ (by first | (simp; done) | (simp; omega) | omega) _) | refine Nx.trans ?_ (by assumption))); done)) rfl (intsOne (by first | (simp; done) | omega | (simp; omega) | (simp [size_drew_]; done) | (simp [size_drew_]; omega)) (by go_simp)) (by omega) (Nat.le_trans (Nat.le_trans hbase hszw) (Nat.le_trans hgc.size (Nx.size (by exact (by (repeat (first | exact Nx.refl _ | assumption | apply Nx.alloc | apply Nx.drew | apply Nx.drewN | (refine Nx.setCell ?_ (by first | (simp; done) | (simp; omega) | omega) _) | refine Nx.trans ?_ (by assumption))); done))))) ?_; intro A6 c6 w6 o6 g6 b6; have hgf : wr.grownBy w6 (blk A') := grown_next (World.grownBy.trans hgc (Nx.grownR (by exact (by (repeat (first | exact Nx.refl _ | assumption | apply Nx.alloc | apply Nx.drew | apply Nx.drewN | (refine Nx.setCell ?_ (by first | (simp; done) | (simp; omega) | omega) _) | refine Nx.trans ?_ (by assumption))); done)) _)) g6 hb5'.out; have hA6 : Hid (blk A6 = blk A' ∨ ∀ q, blk A6 = some q → wr.heap.size ≤ q) := Lib.hid (b6.elim (fun e => by rw [e]; exact hb5'.out) (fun e => .inr (fun q hq => by rw [e] at hq; injection hq with hq; rw [← hq]; exact Nat.le_trans hgc.size (Nx.size (by exact (by (repeat (first | exact Nx.refl _ | assumption | apply Nx.alloc | apply Nx.drew | apply Nx.drewN | (refine Nx.setCell ?_ (by first | (simp; done) | (simp; omega) | omega) _) | refine Nx.trans ?_ (by assumption))); done))))))))) | fail
          all_goals go_wp2
          all_goals go_roundg (gk - 1)
          all_goals first
            | (show _ < _; omega)
            | (refine ⟨k + 1, A6, c6, zs ++ ys ++ [x], m' + ys.length + 1, by omega, by go_num, rfl, by rw [List.length_append, List.length_append, ← Hm'.out]; simp; omega, by rw [← List.append_assoc, ← List.append_assoc]; exact o6, by simp; omega, by rw [Hcw.out, List.length_append, List.length_append]; simp; omega, grown_next Hgr.out hgf (HA'.out.imp id (fun h q hq => by have := h q hq; omega)), ?_, ?_, by have := hgf.size; omega, World.grownBy.cell hgf b0 (fun e => hneb' e.symm), World.grownBy.cell hgf b1 (fun e => hneb' e.symm), HN.out.gr hgf (fun q hq e => HNA.out q hq e)⟩
               · rcases hA6.out with h | h
                 · rw [h]; exact HA'.out
                 · exact .inr fun q hq => by have := h q hq; omega
               · intro q hq e
                 rcases hA6.out with h | h
                 · exact HNA.out q hq (h ▸ e)
                 · have h1 := h _ e
                   injection hq with hq
                   have : bN = q := hq
                   omega)
      · have hkn : k = ns.length := by omega
        clear hm'
        go_wp2
        go_ret
        have hw := Hwle.out k
        refine ⟨A', c', zs, ?_, Hown3.out, hz1', by omega, Hgr.out, HA'.out.imp id (fun h q hq => by have := h q hq; omega)⟩
        rw [Hm'.out]; rfl
end Go.Proofs.Ytbceoigmcomlbaa
