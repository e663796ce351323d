/- The statement on laws.FnPutOrder: the Go function returns true for every input, and its arguments read as before: the row round the walk. -/
import Derived.Test.YtmagbdcmanchmaaRows
import Derived.Test.YtmagbdcmanchmaaO
import Derived.Test.YtmagbdcmanchmaaQ3
namespace Go.Proofs.Ytmagbdcmanchmaa.fnPutOrder
open Go.ChangeShapes Go.WideShapes Go.ChangeAt Go.RowKit Go.Joins
open Go.ChangeMaps (open_string shut_string)
set_option linter.unusedVariables false

theorem own : ownKnob Try.prog.godebug = none := by kernel_rfl
theorem laidOut : laidOutB Try.prog = true := by kernel_rfl
set_option maxRecDepth 100000 in
set_option maxHeartbeats 1000000 in
theorem lifted (os : Os) (started : os.Started) (H : Type) (enc : TypeId × Value → H) :
    ReturnsInHanded {} Try.checked os 10 .any (Rows.fnPutOrderSpec.pre6 enc Try.prog Try.f10 Rows.fnPutOrderRow.domain false) (Rows.fnPutOrderSpec.post enc Try.prog Try.f10 false true false false) := by
  refine returnsInHanded_of_change (C := Try.checked) own started (by kernel_rfl) Try.func10
    (ChangeSpec.witness6 (enc := enc) (C := Try.checked) false ⟨#[], #[.slice none 0 0, .slice none 0 0], []⟩ 8 (by kernel_rfl) (by kernel_rfl) (by kernel_rfl) (by kernel_rfl)) ?_
  intro W base args ds gs before hval0 hW hcnd _
  have hval : ∀ (j : Nat) t v, Try.f10.params[j]? = some t → args[j]? = some v → Value.okWide Try.prog W .any base t v := hval0
  have hW' := hW
  obtain ⟨p, q, hA0, hV, rfl, hfz, hnd⟩ := hW
  have hA : DataW.TrodAll enc Try.prog W 0 (fun _ => true) true Try.f10.params.toList args.toList ds p := hA0
  rw [Try.params10] at hA hval
  obtain ⟨v0, vs0, d0, ds0, p0, q0, hargs, rfl, rfl, h0, r0⟩ := trodAll_cons hA
  obtain ⟨v1, vs1, d1, ds1, p1, q1, rfl, rfl, rfl, h1, r1⟩ := trodAll_cons r0
  obtain ⟨rfl, rfl, rfl⟩ := trodAll_nil r1
  obtain rfl : args = #[v0, v1] := by cases args; simp_all
  obtain ⟨rfl, rfl⟩ := trodVars_none hV
  have k0 := h0
  have lt0 : ∀ x ∈ p0, x.block < W.heap.size := by obtain ⟨m, hm⟩ := k0; exact DataW.trod_lt m _ _ _ hm
  obtain ⟨A0, n0, c0, rfl⟩ := okWide_slice Try.underlying44 (hval 0 44 v0 rfl rfl)
  obtain ⟨fuel0, hf0⟩ := h0
  simp only [Value.cells] at hf0
  obtain ⟨A0, c0, xs0, e0, hc0, hm0, hx0, hw0⟩ := rd_ints Try.underlying44 Try.underlying5 (by kernel_rfl) hf0
  injection e0 with eA eN eC; subst eA eN eC
  have hb0 : BytesAt W W.heap.size A0 xs0.length := fun h0 => by
    obtain ⟨b, off, e, hb, hcell⟩ := hx0 h0
    refine ⟨b, off, e, by omega, hb, fun j hj => ⟨_, ?_, ?_, hcell j hj⟩⟩
    all_goals (have hwf := hw0 _ (List.getElem_mem hj); simp [Lit.wf, IntKind.min, IntKind.max, IntKind.bits, IntKind.signed] at hwf; omega)
  have k1 := h1
  have lt1 : ∀ x ∈ p1, x.block < W.heap.size := by obtain ⟨m, hm⟩ := k1; exact DataW.trod_lt m _ _ _ hm
  obtain ⟨A1, n1, c1, rfl⟩ := okWide_slice Try.underlying44 (hval 1 44 v1 rfl rfl)
  obtain ⟨fuel1, hf1⟩ := h1
  simp only [Value.cells] at hf1
  obtain ⟨A1, c1, xs1, e1, hc1, hm1, hx1, hw1⟩ := rd_ints Try.underlying44 Try.underlying5 (by kernel_rfl) hf1
  injection e1 with eA eN eC; subst eA eN eC
  have hb1 : BytesAt W W.heap.size A1 xs1.length := fun h0 => by
    obtain ⟨b, off, e, hb, hcell⟩ := hx1 h0
    refine ⟨b, off, e, by omega, hb, fun j hj => ⟨_, ?_, ?_, hcell j hj⟩⟩
    all_goals (have hwf := hw1 _ (List.getElem_mem hj); simp [Lit.wf, IntKind.min, IntKind.max, IntKind.bits, IntKind.signed] at hwf; omega)
  clear hA0 hval0
  refine (fnPutOrder_walk (w := W) A0 xs0.length c0 hc0 hb0 A1 xs1.length c1 hc1 hb1).mono fun e W' ⟨he, bel⟩ => ?_
  subst he
  exact ⟨_, rfl, _, _, _, [], _, [], hW', trodAll_mk1 (shut_bool Try.underlying4 _), (trodAll_cons_mk (Below.trod laidOut (by kernel_rfl) (of_decide_eq_true (by kernel_rfl)) k0 bel lt0) (trodAll_cons_mk (Below.trod laidOut (by kernel_rfl) (of_decide_eq_true (by kernel_rfl)) k1 bel lt1) trodAll_mk0)), rfl, bel.frame _, fun h => by cases h⟩

theorem over : Rows.fnPutOrderRow.holds Try.pinned (OpenSpec.ofChange Rows.fnPutOrderSpec) :=
  OpenClaim.holds_of_wide 10 Try.f10 rfl rfl rfl rfl rfl rfl rfl ⟨rfl, rfl, rfl, rfl, rfl⟩ rfl rfl rfl rfl rfl (by kernel_rfl) Try.func10 (by kernel_rfl)
    (of_decide_eq_true (by kernel_rfl)) (by unfold Func.isWrapper; first | (rw [if_pos (by decide +kernel)]; kernel_rfl) | (rw [if_neg (by decide +kernel)]; exact ⟨rfl, rfl⟩))
    (fun os started H enc _ => lifted os started H enc)

theorem proved : Rows.FnPutOrderSaid := over
end Go.Proofs.Ytmagbdcmanchmaa.fnPutOrder
