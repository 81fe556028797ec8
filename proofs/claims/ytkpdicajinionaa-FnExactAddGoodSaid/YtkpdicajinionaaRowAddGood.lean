/-
  For every input laws.FnExactAddGood returns true, and each argument reads afterwards as it read before. Conditions: none beyond those of the given row.
-/
import Derived.Test.YtkpdicajinionaaRows
import Derived.Test.YtkpdicajinionaaGr
import Derived.Test.YtkpdicajinionaaKAddGood2
import Derived.Test.YtkpdicajinionaaPgK
import Derived.WalkKit
import Derived.ProofKit
import Derived.OpenShut
import Derived.ShutString
import Derived.ChangeOld
import Derived.Below
set_option maxRecDepth 100000
namespace Go.Proofs.Ytkpdicajinionaa
open Go Go.Gv Go.ChangeShapes Go.WideShapes Go.ChangeAt Go.RowKit
open Go.ChangeMaps (open_string shut_string)

theorem own : ownKnob Try.prog.godebug = none := by kernel_rfl
theorem laidOut : laidOutB Try.prog = true := by kernel_rfl
theorem wf_i64ok {n : Int} (h : (Lit.int .i64 n).wf = true) : i64ok n := by
  simpa [Lit.wf, IntKind.has, i64ok, IntKind.min, IntKind.max, IntKind.signed, IntKind.bits] using h

theorem opens_53 : Opens Try.prog fGood.ty okGood 53 := fun h => by
  obtain ⟨xs, m, _, _, hl, hxl, hf⟩ := DataW.trod_struct Try.underlying53 h
  have l0 := hl.trans (show Try.prog.cellsOf 53 = 4 by kernel_rfl)
  obtain ⟨c0, r0, rfl, l1⟩ := split1 l0
  obtain ⟨c1, r1, rfl, l2⟩ := split1 l1
  obtain ⟨c2, r2, rfl, l3⟩ := split1 l2
  obtain ⟨c3, r3, rfl, l4⟩ := split1 l3
  obtain rfl := List.eq_nil_of_length_eq_zero l4
  have h0 := hf 0 _ rfl
  obtain ⟨p0, hp0⟩ : ∃ p, xs[0]? = some p := ⟨_, List.getElem?_eq_getElem (by rw [hxl]; decide)⟩
  rw [hp0, show Try.prog.cellsOf _ = 1 by kernel_rfl] at h0
  obtain ⟨y0, e0, k0⟩ := opens_str Try.underlying9 h0
  have h1 := hf 1 _ rfl
  obtain ⟨p1, hp1⟩ : ∃ p, xs[1]? = some p := ⟨_, List.getElem?_eq_getElem (by rw [hxl]; decide)⟩
  rw [hp1, show Try.prog.cellsOf _ = 1 by kernel_rfl] at h1
  obtain ⟨y1, e1, k1⟩ := opens_i64 Try.underlying2 h1
  have h2 := hf 2 _ rfl
  obtain ⟨p2, hp2⟩ : ∃ p, xs[2]? = some p := ⟨_, List.getElem?_eq_getElem (by rw [hxl]; decide)⟩
  rw [hp2, show Try.prog.cellsOf _ = 1 by kernel_rfl] at h2
  obtain ⟨y2, e2, k2⟩ := opens_i64 Try.underlying2 h2
  have h3 := hf 3 _ rfl
  obtain ⟨p3, hp3⟩ : ∃ p, xs[3]? = some p := ⟨_, List.getElem?_eq_getElem (by rw [hxl]; decide)⟩
  rw [hp3, show Try.prog.cellsOf _ = 1 by kernel_rfl] at h3
  obtain ⟨y3, e3, k3⟩ := opens_i64 Try.underlying2 h3
  refine ⟨⟨y0, y1, y2, y3⟩, ?_, ⟨k0, k1, k2, k3⟩⟩
  have e0 : [c0] = fStr.leaf y0 := e0
  have e1 : [c1] = fInt.leaf y1 := e1
  have e2 : [c2] = fInt.leaf y2 := e2
  have e3 : [c3] = fInt.leaf y3 := e3
  show [c0, c1, c2, c3] = fStr.leaf y0 ++ fInt.leaf y1 ++ fInt.leaf y2 ++ fInt.leaf y3
  rw [← e0, ← e1, ← e2, ← e3]; rfl

theorem liftedFnExactAddGood (os : Os) (started : os.Started) (H : Type) (enc : TypeId × Value → H) :
    ReturnsInHanded {} Try.checked os 10 .any (Rows.fnExactAddGoodSpec.pre6 enc Try.prog Try.f10 Rows.fnExactAddGoodRow.domain false) (Rows.fnExactAddGoodSpec.post enc Try.prog Try.f10 false true false false) := by
  refine returnsInHanded_of_change (C := Try.checked) own started (by kernel_rfl) Try.func10
    (ChangeSpec.witness6 (enc := enc) (C := Try.checked) false ⟨#[], #[.slice none 0 0, .agg #[.string (bs []), .int .i64 0, .int .i64 0, .int .i64 0]], []⟩ 8 (by kernel_rfl) (by kernel_rfl) (by kernel_rfl) (by kernel_rfl)) ?_
  intro W base args ds gs before hval0 hW hcnd _
  have hval : ∀ (j : Nat) t v, Try.f10.params[j]? = some t → args[j]? = some v → Value.okWide Try.prog W .any base t v := hval0
  have hW' := hW
  obtain ⟨p, q, hA0, hV, rfl, hfz, hnd⟩ := hW
  have hA : DataW.TrodAll enc Try.prog W 0 (fun _ => true) true Try.f10.params.toList args.toList ds p := hA0
  rw [Try.params10] at hA hval
  obtain ⟨v0, vs0, d0, ds0, p0, q0, hargs, rfl, rfl, h0, r0⟩ := trodAll_cons hA
  obtain ⟨v1, vs1, d1, ds1, p1, q1, rfl, rfl, rfl, h1, r1⟩ := trodAll_cons r0
  obtain ⟨rfl, rfl, rfl⟩ := trodAll_nil r1
  obtain rfl : args = #[v0, v1] := by cases args; simp_all
  obtain ⟨rfl, rfl⟩ := trodVars_none hV
  have k0 := h0
  have lt0 : ∀ x ∈ p0, x.block < W.heap.size := by obtain ⟨m, hm⟩ := k0; exact DataW.trod_lt m _ _ _ hm
  obtain ⟨a0, len0, cap0, rfl⟩ := okWide_slice Try.underlying22 (hval 0 22 v0 rfl rfl)
  obtain ⟨x0, rfl, hR0, hle0, hmx0, hok0⟩ := Go.Gv.open_row (opens_53) Try.underlying22 (by kernel_rfl) h0
  have k1 := h1
  have lt1 : ∀ x ∈ p1, x.block < W.heap.size := by obtain ⟨m, hm⟩ := k1; exact DataW.trod_lt m _ _ _ hm
  obtain ⟨x1, rfl, hok1⟩ := open_agg (opens_53) Try.underlying53 (hval 1 53 v1 rfl rfl) h1
  clear hA0 hval0
  have hc := c_10 2000000 x0 a0 cap0 x1 W (r := true) (law_AddGood x0 x1 hmx0 hok0 hok1) hR0 hle0
  refine Calls.mono hc fun e W' ⟨v, he, hv, bel⟩ => ?_
  subst he; subst hv
  exact ⟨_, rfl, _, _, _, [], _, [], hW', trodAll_mk1 (shut_bool Try.underlying4 _), (trodAll_cons_mk (Below.trod laidOut (by kernel_rfl) (of_decide_eq_true (by kernel_rfl)) k0 bel lt0) (trodAll_cons_mk (Below.trod laidOut (by kernel_rfl) (of_decide_eq_true (by kernel_rfl)) k1 bel lt1) trodAll_mk0)), rfl, bel.frame _, fun h => by cases h⟩

/-- The statement, as it was given. -/
theorem fnExactAddGood_holds : Rows.FnExactAddGoodSaid :=
  OpenClaim.holds_of_wide 10 Try.f10 rfl rfl rfl rfl rfl rfl rfl ⟨rfl, rfl, rfl, rfl, rfl⟩ rfl rfl rfl rfl rfl (by kernel_rfl) Try.func10 (by kernel_rfl)
    (of_decide_eq_true (by kernel_rfl)) (by unfold Func.isWrapper; rw [if_neg (of_decide_eq_false (by kernel_rfl))]; exact ⟨rfl, rfl⟩)
    (fun os started H enc _ => liftedFnExactAddGood os started H enc)

end Go.Proofs.Ytkpdicajinionaa
