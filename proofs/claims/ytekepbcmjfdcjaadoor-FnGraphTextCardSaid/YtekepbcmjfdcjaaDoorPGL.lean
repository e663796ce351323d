/- What a row with laid variables gives the walk: the library's own variables; the wrap that hands on both the laid variables and the world's shape. -/
import Derived.Stop.LaidErr
import Derived.Shelf.Vars
import Derived.Handed
import Derived.LaidMore
import Derived.LaidSub
import Derived.Test.YtekepbcmjfdcjaaDoorRows
import Derived.Test.YtekepbcmjfdcjaaDoorPG1
namespace Go.Proofs.YtekepbcmjfdcjaaDoor
open Go.Shelf Go.RowKit
set_option linter.unusedVariables false

theorem returnsIn_laidShaped {H : Type} {enc : TypeId × Value → H} {a : Assume} {C : Checked} {os : Os} {f : FuncId} {fn : Func} {s : ChangeSpec} {conds : List PathCond} {apart fresh handsOn again : Bool} {X : World → Array Value → Prop}
    (hX : ∀ (w w' : World) (args : Array Value), w.heap = w'.heap → X w args → X w' args)
    (own : ownKnob C.prog.godebug = none) (started : os.Started) (noInit : C.prog.inits.idxOf? f = none) (hfn : C.prog.funcs[f]? = some fn)
    (witness : ∃ (w : World) (tape : Tape) (i : Input), w.os = os ∧ (w.forCall tape i).Shaped C.prog ∧ i.vars = [] ∧ Input.okWide C.prog (w.forCall tape i) .any w.heap.size f i ∧
      ((s.pre enc C.prog fn conds apart (w.forCall tape i).memory i.args ∧ X (w.forCall tape i).memory i.args) ∧ sizedMet enc C.prog fn (OpenSpec.ofChange s) apart (w.forCall tape i).memory i.args) ∧ a.holds C.prog (lone (Frame.enter C.prog f i.args .normal) [] (w.forCall tape i)))
    (contract : ∀ (W : World) (base : Nat) (args : Array Value) (ds gs : List (DataW H)) (before : List MemPlace),
      (∀ (j : Nat) t v, fn.params[j]? = some t → args[j]? = some v → Value.okWide C.prog W .any base t v) →
      DataW.Whole enc C.prog fn.params.toList s.vars apart W args.toList ds gs before →
      X W args → W.ShapedOpen C.prog →
      Calls C.prog f args W fun e W' => ∃ v, e = .returned v ∧ s.post enc C.prog fn apart fresh handsOn again W args v W') :
    ReturnsInHanded a C os f .any (fun w args => (s.pre enc C.prog fn conds apart w args ∧ X w args) ∧ sizedMet enc C.prog fn (OpenSpec.ofChange s) apart w args) (s.post enc C.prog fn apart fresh handsOn again) := by
  refine returnsInHanded_of_calls own started noInit witness ?_
  intro w tape i _ hsh _ hok hpre _
  obtain ⟨_, _, _, fn', hfn', _, _, _, _, hval⟩ := hok
  have e : fn' = fn := Option.some.inj (hfn'.symm.trans hfn)
  subst e
  obtain ⟨⟨⟨ds, gs, before, hw, _⟩, hx⟩, _⟩ := hpre
  have hw' := DataW.Whole.of_heap (w' := w.forCall tape i) (by rfl) hw
  refine (contract (w.forCall tape i) w.heap.size i.args ds gs before hval hw' (hX _ _ _ (by rfl) hx) hsh).mono fun e W' ⟨v, he, hp⟩ => ?_
  subst he
  exact ChangeSpec.post_blind hp

def laidL : List (String × DataW Unit) := ([("math/bits.deBruijn32tab", Rows.laid_math_bits_deBruijn32tab), ("math/bits.deBruijn64tab", Rows.laid_math_bits_deBruijn64tab), ("internal/strconv.uint64pow10", Rows.laid_internal_strconv_uint64pow10), ("unicode/utf8.acceptRanges", Rows.laid_unicode_utf8_acceptRanges), ("strconv.ErrRange", Rows.laid_strconv_ErrRange), ("strconv.ErrSyntax", Rows.laid_strconv_ErrSyntax), ("unicode/utf8.first", Rows.laid_unicode_utf8_first)] : List (String × DataW Unit))

theorem gES : Tryd.prog.globalNamed "strconv.ErrSyntax" = some 0 := by kernel_rfl
theorem gESType : (Tryd.prog.globals[0]?).map (·.type) = some 46 := by kernel_rfl
theorem gER : Tryd.prog.globalNamed "strconv.ErrRange" = some 1 := by kernel_rfl
theorem gERType : (Tryd.prog.globals[1]?).map (·.type) = some 46 := by kernel_rfl
theorem cellsES : Tryd.prog.cellsOf 108 = 1 := by kernel_rfl
theorem cellsStr : Tryd.prog.cellsOf 9 = 1 := by kernel_rfl
theorem underES : ∃ f : Field, Tryd.prog.underlying 108 = some (.struct #[f]) ∧ f.type = 9 ∧ f.offset = 0 := ⟨_, Tryd.underlying108, rfl, rfl⟩
theorem starES : "*" ++ "errors.errorString" = "*errors.errorString" := by decide
theorem rowES (u : TypeId) (h : Tryd.prog.typeName? 3 u = some "*errors.errorString") : u = 106 :=
  typeName_ptr_named (nm := "errors.errorString") (by rw [starES]; kernel_rfl) (by kernel_rfl) (by decide) u (by rw [starES]; exact h)
theorem underErr : ∃ ms, Tryd.prog.underlying 46 = some (.interface ms) := ⟨_, Tryd.underlying46⟩
theorem underPES : Tryd.prog.underlying 106 = some (.pointer 108) := by kernel_rfl
theorem underStr : Tryd.prog.underlying 9 = some .string := by kernel_rfl
theorem underInt : Tryd.prog.underlying 3 = some (.int .i64) := by kernel_rfl

theorem laid_at {n : String} {text : List UInt8} {r : List (String × DataW Unit)} {W : World} {g : Nat} (hg : Tryd.prog.globalNamed n = some g) (ht : (Tryd.prog.globals[g]?).map (·.type) = some 46)
    (h : laidMet Tryd.prog ((n, .iface "*errors.errorString" (.ptr (.agg [.lit (.string text)]))) :: r) W) : ∃ v, W.cell? ⟨g, 0, none⟩ = some v ∧ ErrV v := by
  obtain ⟨ms, hi⟩ := underErr
  obtain ⟨f, he, hft, hfo⟩ := underES
  obtain ⟨a1, s1, hv1, -, -, -⟩ := laid_sentinel h hg ht hi rowES underPES he hft hfo underStr cellsES cellsStr
  exact ⟨_, by have h0 := World.var?_cell hg hv1 0; simpa using h0, .inr ⟨_, _, rfl⟩⟩

theorem vars_of_laid {W : World} (hL : laidMetH Tryd.prog laidL W) (hsh : W.ShapedOpen Tryd.prog) : Vars W := by
  have h0 : laidMet Tryd.prog laidL W := by
    have h := (laidMetH_iff.1 hL).1
    have e : (laidL.filter fun x => x.2.handleName?.isNone) = laidL := by kernel_rfl
    rwa [e] at h
  refine ⟨?_, laid_at gES gESType h0.tail.tail.tail.tail.tail, laid_at gER gERType h0.tail.tail.tail.tail⟩
  exact cell_of_shapedOpen_int (P := Tryd.prog) (g := 2) (t := 3) (zero := #[.int .i64 0]) hsh (of_decide_eq_true (by kernel_rfl)) (by kernel_rfl) rfl (by kernel_rfl) (by kernel_rfl) underInt
end Go.Proofs.YtekepbcmjfdcjaaDoor
