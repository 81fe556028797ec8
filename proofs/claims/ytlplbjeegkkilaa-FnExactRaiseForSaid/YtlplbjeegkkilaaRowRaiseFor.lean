/-
  For every input laws.FnExactRaiseFor returns true, and each argument reads afterwards as it read before. Conditions: none beyond those of the given row.
-/
import Derived.Test.YtlplbjeegkkilaaRows
import Derived.Test.YtlplbjeegkkilaaGr
import Derived.Test.YtlplbjeegkkilaaCo4
import Derived.Test.YtlplbjeegkkilaaPc
import Derived.WalkKit
import Derived.ProofKit
import Derived.OpenShut
import Derived.ShutString
import Derived.ChangeOld
import Derived.Below
set_option maxRecDepth 100000
namespace Go.Proofs.Ytlplbjeegkkilaa
open Go Go.Gv Go.ChangeShapes Go.WideShapes Go.ChangeAt Go.RowKit
open Go.ChangeMaps (open_string shut_string)

theorem own : ownKnob Try.prog.godebug = none := by kernel_rfl
theorem laidOut : laidOutB Try.prog = true := by kernel_rfl
theorem wf_i64ok {n : Int} (h : (Lit.int .i64 n).wf = true) : i64ok n := by
  simpa [Lit.wf, IntKind.has, i64ok, IntKind.min, IntKind.max, IntKind.signed, IntKind.bits] using h

theorem liftedFnExactRaiseFor (os : Os) (started : os.Started) (H : Type) (enc : TypeId × Value → H) :
    ReturnsInHanded {} Try.checked os 5 .any (Rows.fnExactRaiseForSpec.pre6 enc Try.prog Try.f5 Rows.fnExactRaiseForRow.domain false) (Rows.fnExactRaiseForSpec.post enc Try.prog Try.f5 false true false false) := by
  refine returnsInHanded_of_change (C := Try.checked) own started (by kernel_rfl) Try.func5
    (ChangeSpec.witness6 (enc := enc) (C := Try.checked) false ⟨#[], #[.int .i64 0, .int .i64 0, .int .i64 0, .int .i64 0], []⟩ 8 (by kernel_rfl) (by kernel_rfl) (by kernel_rfl) (by kernel_rfl)) ?_
  intro W base args ds gs before hval0 hW hcnd _
  have hval : ∀ (j : Nat) t v, Try.f5.params[j]? = some t → args[j]? = some v → Value.okWide Try.prog W .any base t v := hval0
  have hW' := hW
  obtain ⟨p, q, hA0, hV, rfl, hfz, hnd⟩ := hW
  have hA : DataW.TrodAll enc Try.prog W 0 (fun _ => true) true Try.f5.params.toList args.toList ds p := hA0
  rw [Try.params5] at hA hval
  obtain ⟨v0, vs0, d0, ds0, p0, q0, hargs, rfl, rfl, h0, r0⟩ := trodAll_cons hA
  obtain ⟨v1, vs1, d1, ds1, p1, q1, rfl, rfl, rfl, h1, r1⟩ := trodAll_cons r0
  obtain ⟨v2, vs2, d2, ds2, p2, q2, rfl, rfl, rfl, h2, r2⟩ := trodAll_cons r1
  obtain ⟨v3, vs3, d3, ds3, p3, q3, rfl, rfl, rfl, h3, r3⟩ := trodAll_cons r2
  obtain ⟨rfl, rfl, rfl⟩ := trodAll_nil r3
  obtain rfl : args = #[v0, v1, v2, v3] := by cases args; simp_all
  obtain ⟨rfl, rfl⟩ := trodVars_none hV
  obtain ⟨x0, rfl, rfl, rfl, wx0⟩ := open_int Try.underlying2 (hval 0 2 v0 rfl rfl) h0
  have hok0 : i64ok x0 := wf_i64ok wx0
  obtain ⟨x1, rfl, rfl, rfl, wx1⟩ := open_int Try.underlying2 (hval 1 2 v1 rfl rfl) h1
  have hok1 : i64ok x1 := wf_i64ok wx1
  obtain ⟨x2, rfl, rfl, rfl, wx2⟩ := open_int Try.underlying2 (hval 2 2 v2 rfl rfl) h2
  have hok2 : i64ok x2 := wf_i64ok wx2
  obtain ⟨x3, rfl, rfl, rfl, wx3⟩ := open_int Try.underlying2 (hval 3 2 v3 rfl rfl) h3
  have hok3 : i64ok x3 := wf_i64ok wx3
  clear hA0 hval0
  have hc := c_5 2000000 x0 x1 x2 x3 W (r := true) (law_RaiseFor x0 x1 x2 x3 hok0 hok1 hok2 hok3) 
  refine Calls.mono hc fun e W' ⟨v, he, hv, bel⟩ => ?_
  subst he; subst hv
  exact ⟨_, rfl, _, _, _, [], _, [], hW', trodAll_mk1 (shut_bool Try.underlying4 _), (trodAll_cons_mk (shut_int Try.underlying2 wx0) (trodAll_cons_mk (shut_int Try.underlying2 wx1) (trodAll_cons_mk (shut_int Try.underlying2 wx2) (trodAll_cons_mk (shut_int Try.underlying2 wx3) trodAll_mk0)))), rfl, bel.frame _, fun h => by cases h⟩

/-- The statement, as it was given. -/
theorem fnExactRaiseFor_holds : Rows.FnExactRaiseForSaid :=
  OpenClaim.holds_of_wide 5 Try.f5 rfl rfl rfl rfl rfl rfl rfl ⟨rfl, rfl, rfl, rfl, rfl⟩ rfl rfl rfl rfl rfl (by kernel_rfl) Try.func5 (by kernel_rfl)
    (of_decide_eq_true (by kernel_rfl)) (by unfold Func.isWrapper; rw [if_neg (of_decide_eq_false (by kernel_rfl))]; exact ⟨rfl, rfl⟩)
    (fun os started H enc _ => liftedFnExactRaiseFor os started H enc)

end Go.Proofs.Ytlplbjeegkkilaa
