/- The statement on laws.FnExactBridgeTree: the Go function returns true for every input, and its arguments read as before: the row round the walk. -/
import Derived.Test.YtjchabeiaajgiaaRows
import Derived.Test.YtjchabeiaajgiaaO
import Derived.Test.YtjchabeiaajgiaaBV
namespace Go.Proofs.Ytjchabeiaajgiaa.fnExactBridgeTree
open Go.ChangeShapes Go.WideShapes Go.ChangeAt Go.RowKit Go.Joins
open Go.ChangeMaps (open_string shut_string)
set_option linter.unusedVariables false

theorem own : ownKnob Try.prog.godebug = none := by kernel_rfl
theorem laidOut : laidOutB Try.prog = true := by kernel_rfl
set_option maxRecDepth 100000 in
set_option maxHeartbeats 1000000 in
theorem lifted (os : Os) (started : os.Started) (H : Type) (enc : TypeId × Value → H) :
    ReturnsInHanded {} Try.checked os 7 .any (Rows.fnExactBridgeTreeSpec.pre6 enc Try.prog Try.f7 Rows.fnExactBridgeTreeRow.domain false) (Rows.fnExactBridgeTreeSpec.post enc Try.prog Try.f7 false true false false) := by
  refine returnsInHanded_of_change (C := Try.checked) own started (by kernel_rfl) Try.func7
    (ChangeSpec.witness6 (enc := enc) (C := Try.checked) false ⟨#[], #[.agg #[.int .i64 0, .slice none 0 0]], []⟩ 8 (by kernel_rfl) (by kernel_rfl) (by kernel_rfl) (by kernel_rfl)) ?_
  intro W base args ds gs before hval0 hW hcnd _
  have hval : ∀ (j : Nat) t v, Try.f7.params[j]? = some t → args[j]? = some v → Value.okWide Try.prog W .any base t v := hval0
  have hW' := hW
  obtain ⟨p, q, hA0, hV, rfl, hfz, hnd⟩ := hW
  have hA : DataW.TrodAll enc Try.prog W 0 (fun _ => true) true Try.f7.params.toList args.toList ds p := hA0
  rw [Try.params7] at hA hval
  obtain ⟨v0, vs0, d0, ds0, p0, q0, hargs, rfl, rfl, h0, r0⟩ := trodAll_cons hA
  obtain ⟨rfl, rfl, rfl⟩ := trodAll_nil r0
  obtain rfl : args = #[v0] := by cases args; simp_all
  obtain ⟨rfl, rfl⟩ := trodVars_none hV
  have k0 := h0
  have lt0 : ∀ x ∈ p0, x.block < W.heap.size := by obtain ⟨m, hm⟩ := k0; exact DataW.trod_lt m _ _ _ hm
  obtain ⟨u0_0, u0_1, y0_0, y0_1, m0, rfl, _, _, g0_0, g0_1⟩ := open_agg2 Try.underlying45 (by kernel_rfl) (by kernel_rfl) (hval 0 45 v0 rfl rfl) h0
  obtain ⟨a0, e0_0, _, w0_0⟩ := DataW.trod_int Try.underlying3 g0_0
  simp at e0_0; subst e0_0
  obtain ⟨A0_1, c0_1, xs0_1, e0_1, hc0_1, hm0_1, hx0_1, hw0_1⟩ := rd_pairs Try.underlying43 Try.underlying117 (by kernel_rfl) ⟨rfl, rfl, Try.underlying3, by kernel_rfl⟩ ⟨rfl, rfl, Try.underlying3, by kernel_rfl⟩ g0_1
  subst e0_1
  clear hA0 hval0
  refine (fnExactBridgeTree_walk (w := W) a0 (fits_of_wf w0_0) A0_1 c0_1 xs0_1 hc0_1 (hid_len hc0_1 hm0_1) hx0_1 (fun n hn => ⟨fits_of_wf (hw0_1 n hn).1, fits_of_wf (hw0_1 n hn).2⟩)).mono fun e W' ⟨he, bel⟩ => ?_
  subst he
  exact ⟨_, rfl, _, _, _, [], _, [], hW', trodAll_mk1 (shut_bool Try.underlying4 _), (trodAll_cons_mk (Below.trod laidOut (by kernel_rfl) (of_decide_eq_true (by kernel_rfl)) k0 bel lt0) trodAll_mk0), rfl, bel.frame _, fun h => by cases h⟩

theorem over : Rows.fnExactBridgeTreeRow.holds Try.pinned (OpenSpec.ofChange Rows.fnExactBridgeTreeSpec) :=
  OpenClaim.holds_of_wide 7 Try.f7 rfl rfl rfl rfl rfl rfl rfl ⟨rfl, rfl, rfl, rfl, rfl⟩ rfl rfl rfl rfl rfl (by kernel_rfl) Try.func7 (by kernel_rfl)
    (of_decide_eq_true (by kernel_rfl)) (by unfold Func.isWrapper; first | (rw [if_pos (by decide +kernel)]; kernel_rfl) | (rw [if_neg (by decide +kernel)]; exact ⟨rfl, rfl⟩))
    (fun os started H enc _ => lifted os started H enc)

theorem proved : Rows.FnExactBridgeTreeSaid := over
end Go.Proofs.Ytjchabeiaajgiaa.fnExactBridgeTree
