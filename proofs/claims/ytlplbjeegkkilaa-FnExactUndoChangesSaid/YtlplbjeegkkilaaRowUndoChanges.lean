/-
  For every input laws.FnExactUndoChanges returns true, and each argument reads afterwards as it read before. Conditions: none beyond those of the given row.
-/
import Derived.Test.YtlplbjeegkkilaaRows
import Derived.Test.YtlplbjeegkkilaaGr
import Derived.Test.YtlplbjeegkkilaaKUndoChanges1
import Derived.Test.YtlplbjeegkkilaaPcC
import Derived.WalkKit
import Derived.ProofKit
import Derived.OpenShut
import Derived.ShutString
import Derived.ChangeOld
import Derived.Below
set_option maxRecDepth 100000
namespace Go.Proofs.Ytlplbjeegkkilaa
open Go Go.Gv Go.ChangeShapes Go.WideShapes Go.ChangeAt Go.RowKit
open Go.ChangeMaps (open_string shut_string)

theorem own : ownKnob Try.prog.godebug = none := by kernel_rfl
theorem laidOut : laidOutB Try.prog = true := by kernel_rfl
theorem wf_i64ok {n : Int} (h : (Lit.int .i64 n).wf = true) : i64ok n := by
  simpa [Lit.wf, IntKind.has, i64ok, IntKind.min, IntKind.max, IntKind.signed, IntKind.bits] using h

theorem opens_40 : Opens Try.prog fChange.ty okChange 40 := fun h => by
  obtain ⟨xs, m, _, _, hl, hxl, hf⟩ := DataW.trod_struct Try.underlying40 h
  have l0 := hl.trans (show Try.prog.cellsOf 40 = 2 by kernel_rfl)
  obtain ⟨c0, r0, rfl, l1⟩ := split1 l0
  obtain ⟨c1, r1, rfl, l2⟩ := split1 l1
  obtain rfl := List.eq_nil_of_length_eq_zero l2
  have h0 := hf 0 _ rfl
  obtain ⟨p0, hp0⟩ : ∃ p, xs[0]? = some p := ⟨_, List.getElem?_eq_getElem (by rw [hxl]; decide)⟩
  rw [hp0, show Try.prog.cellsOf _ = 1 by kernel_rfl] at h0
  obtain ⟨y0, e0, k0⟩ := opens_i64 Try.underlying2 h0
  have h1 := hf 1 _ rfl
  obtain ⟨p1, hp1⟩ : ∃ p, xs[1]? = some p := ⟨_, List.getElem?_eq_getElem (by rw [hxl]; decide)⟩
  rw [hp1, show Try.prog.cellsOf _ = 1 by kernel_rfl] at h1
  obtain ⟨y1, e1, k1⟩ := opens_i64 Try.underlying2 h1
  refine ⟨⟨y0, y1⟩, ?_, ⟨k0, k1⟩⟩
  have e0 : [c0] = fInt.leaf y0 := e0
  have e1 : [c1] = fInt.leaf y1 := e1
  show [c0, c1] = fInt.leaf y0 ++ fInt.leaf y1
  rw [← e0, ← e1]; rfl

theorem liftedFnExactUndoChanges (os : Os) (started : os.Started) (H : Type) (enc : TypeId × Value → H) :
    ReturnsInHanded {} Try.checked os 10 .any (Rows.fnExactUndoChangesSpec.pre6 enc Try.prog Try.f10 Rows.fnExactUndoChangesRow.domain false) (Rows.fnExactUndoChangesSpec.post enc Try.prog Try.f10 false true false false) := by
  refine returnsInHanded_of_change (C := Try.checked) own started (by kernel_rfl) Try.func10
    (ChangeSpec.witness6 (enc := enc) (C := Try.checked) false ⟨#[], #[.slice none 0 0], []⟩ 8 (by kernel_rfl) (by kernel_rfl) (by kernel_rfl) (by kernel_rfl)) ?_
  intro W base args ds gs before hval0 hW hcnd _
  have hval : ∀ (j : Nat) t v, Try.f10.params[j]? = some t → args[j]? = some v → Value.okWide Try.prog W .any base t v := hval0
  have hW' := hW
  obtain ⟨p, q, hA0, hV, rfl, hfz, hnd⟩ := hW
  have hA : DataW.TrodAll enc Try.prog W 0 (fun _ => true) true Try.f10.params.toList args.toList ds p := hA0
  rw [Try.params10] at hA hval
  obtain ⟨v0, vs0, d0, ds0, p0, q0, hargs, rfl, rfl, h0, r0⟩ := trodAll_cons hA
  obtain ⟨rfl, rfl, rfl⟩ := trodAll_nil r0
  obtain rfl : args = #[v0] := by cases args; simp_all
  obtain ⟨rfl, rfl⟩ := trodVars_none hV
  have k0 := h0
  have lt0 : ∀ x ∈ p0, x.block < W.heap.size := by obtain ⟨m, hm⟩ := k0; exact DataW.trod_lt m _ _ _ hm
  obtain ⟨a0, len0, cap0, rfl⟩ := okWide_slice Try.underlying25 (hval 0 25 v0 rfl rfl)
  obtain ⟨x0, rfl, hR0, hle0, hmx0, hok0⟩ := Go.Gv.open_row (opens_40) Try.underlying25 (by kernel_rfl) h0
  clear hA0 hval0
  have hc := c_10 2000000 x0 a0 cap0 W (r := true) (law_UndoChanges x0 hmx0 hok0) hR0 hle0
  refine Calls.mono hc fun e W' ⟨v, he, hv, bel⟩ => ?_
  subst he; subst hv
  exact ⟨_, rfl, _, _, _, [], _, [], hW', trodAll_mk1 (shut_bool Try.underlying4 _), (trodAll_cons_mk (Below.trod laidOut (by kernel_rfl) (of_decide_eq_true (by kernel_rfl)) k0 bel lt0) trodAll_mk0), rfl, bel.frame _, fun h => by cases h⟩

/-- The statement, as it was given. -/
theorem fnExactUndoChanges_holds : Rows.FnExactUndoChangesSaid :=
  OpenClaim.holds_of_wide 10 Try.f10 rfl rfl rfl rfl rfl rfl rfl ⟨rfl, rfl, rfl, rfl, rfl⟩ rfl rfl rfl rfl rfl (by kernel_rfl) Try.func10 (by kernel_rfl)
    (of_decide_eq_true (by kernel_rfl)) (by unfold Func.isWrapper; rw [if_neg (of_decide_eq_false (by kernel_rfl))]; exact ⟨rfl, rfl⟩)
    (fun os started H enc _ => liftedFnExactUndoChanges os started H enc)

end Go.Proofs.Ytlplbjeegkkilaa
