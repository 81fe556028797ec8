/-
  For every input laws.FnExactNeedlessRepairs returns true, and each argument reads afterwards as it read before. Conditions: none beyond those of the given row.
-/
import Derived.Test.YtkglfbcelaphhaaGy
import Derived.Test.YtkglfbcelaphhaaRows
import Derived.Test.YtkglfbcelaphhaaGr
import Derived.Test.YtkglfbcelaphhaaKNeedlessRepairs2
import Derived.Test.YtkglfbcelaphhaaPvG
import Derived.WalkKit
import Derived.ProofKit
import Derived.OpenShut
import Derived.ShutString
import Derived.ChangeOld
import Derived.Below
set_option maxRecDepth 100000
namespace Go.Proofs.Ytkglfbcelaphhaa
open Go Go.Gv Go.ChangeShapes Go.WideShapes Go.ChangeAt Go.RowKit
open Go.ChangeMaps (open_string shut_string)

theorem own : ownKnob Try.prog.godebug = none := by kernel_rfl
theorem laidOut : laidOutB Try.prog = true := by kernel_rfl
theorem wf_i64ok {n : Int} (h : (Lit.int .i64 n).wf = true) : i64ok n := by
  simpa [Lit.wf, IntKind.has, i64ok, IntKind.min, IntKind.max, IntKind.signed, IntKind.bits] using h

theorem opens_72 : Opens Try.prog fRepair.ty okRepair 72 := fun h => by
  obtain ⟨xs, m, _, _, hl, hxl, hf⟩ := DataW.trod_struct Try.underlying72 h
  have l0 := hl.trans (show Try.prog.cellsOf 72 = 5 by kernel_rfl)
  obtain ⟨c0, r0, rfl, l1⟩ := split1 l0
  obtain ⟨c1, r1, rfl, l2⟩ := split1 l1
  obtain ⟨c2, r2, rfl, l3⟩ := split1 l2
  obtain ⟨c3, r3, rfl, l4⟩ := split1 l3
  obtain ⟨c4, r4, rfl, l5⟩ := split1 l4
  obtain rfl := List.eq_nil_of_length_eq_zero l5
  have h0 := hf 0 _ rfl
  obtain ⟨p0, hp0⟩ : ∃ p, xs[0]? = some p := ⟨_, List.getElem?_eq_getElem (by rw [hxl]; decide)⟩
  rw [hp0, show Try.prog.cellsOf _ = 1 by kernel_rfl] at h0
  obtain ⟨y0, e0, k0⟩ := opens_str Try.underlying9 h0
  have h1 := hf 1 _ rfl
  obtain ⟨p1, hp1⟩ : ∃ p, xs[1]? = some p := ⟨_, List.getElem?_eq_getElem (by rw [hxl]; decide)⟩
  rw [hp1, show Try.prog.cellsOf _ = 1 by kernel_rfl] at h1
  obtain ⟨a1, b1, y1, e1, g1, j1, k1⟩ := opens_ints Try.underlying25 Try.underlying2 (by kernel_rfl) h1
  have h2 := hf 2 _ rfl
  obtain ⟨p2, hp2⟩ : ∃ p, xs[2]? = some p := ⟨_, List.getElem?_eq_getElem (by rw [hxl]; decide)⟩
  rw [hp2, show Try.prog.cellsOf _ = 1 by kernel_rfl] at h2
  obtain ⟨a2, b2, y2, e2, g2, j2, k2⟩ := opens_ints Try.underlying25 Try.underlying2 (by kernel_rfl) h2
  have h3 := hf 3 _ rfl
  obtain ⟨p3, hp3⟩ : ∃ p, xs[3]? = some p := ⟨_, List.getElem?_eq_getElem (by rw [hxl]; decide)⟩
  rw [hp3, show Try.prog.cellsOf _ = 1 by kernel_rfl] at h3
  obtain ⟨y3, e3, k3⟩ := opens_i64 Try.underlying2 h3
  have h4 := hf 4 _ rfl
  obtain ⟨p4, hp4⟩ : ∃ p, xs[4]? = some p := ⟨_, List.getElem?_eq_getElem (by rw [hxl]; decide)⟩
  rw [hp4, show Try.prog.cellsOf _ = 1 by kernel_rfl] at h4
  obtain ⟨y4, e4, k4⟩ := opens_i64 Try.underlying2 h4
  refine ⟨⟨y0, y1, y2, y3, y4⟩, ?_, ⟨k0, k1, k2, k3, k4⟩⟩
  have e0' : [c0] = fStr.leaf y0 := e0
  obtain rfl : c1 = .slice a1 y1.length b1 := by have e : [c1] = _ := e1; exact (List.cons.inj e).1
  obtain rfl : c2 = .slice a2 y2.length b2 := by have e : [c2] = _ := e2; exact (List.cons.inj e).1
  have e3' : [c3] = fInt.leaf y3 := e3
  have e4' : [c4] = fInt.leaf y4 := e4
  exact ⟨_, _, rfl, (List.cons.inj e0').1, ⟨_, _, rfl, ⟨a1, b1, rfl, g1, j1⟩, ⟨_, _, rfl, ⟨a2, b2, rfl, g2, j2⟩, ⟨_, _, rfl, (List.cons.inj e3').1, ⟨_, _, rfl, (List.cons.inj e4').1, rfl⟩⟩⟩⟩⟩

theorem liftedFnExactNeedlessRepairs (os : Os) (started : os.Started) (H : Type) (enc : TypeId × Value → H) :
    ReturnsInHanded {} Try.checked os 12 .any (Rows.fnExactNeedlessRepairsSpec.pre6 enc Try.prog Try.f12 Rows.fnExactNeedlessRepairsRow.domain false) (Rows.fnExactNeedlessRepairsSpec.post enc Try.prog Try.f12 false true false false) := by
  refine returnsInHanded_of_change (C := Try.checked) own started (by kernel_rfl) Try.func12
    (ChangeSpec.witness6 (enc := enc) (C := Try.checked) false ⟨#[], #[.slice none 0 0, .slice none 0 0, .slice none 0 0], []⟩ 8 (by kernel_rfl) (by kernel_rfl) (by kernel_rfl) (by kernel_rfl)) ?_
  intro W base args ds gs before hval0 hW hcnd _
  have hval : ∀ (j : Nat) t v, Try.f12.params[j]? = some t → args[j]? = some v → Value.okWide Try.prog W .any base t v := hval0
  have hW' := hW
  obtain ⟨p, q, hA0, hV, rfl, hfz, hnd⟩ := hW
  have hA : DataW.TrodAll enc Try.prog W 0 (fun _ => true) true Try.f12.params.toList args.toList ds p := hA0
  rw [Try.params12] at hA hval
  obtain ⟨v0, vs0, d0, ds0, p0, q0, hargs, rfl, rfl, h0, r0⟩ := trodAll_cons hA
  obtain ⟨v1, vs1, d1, ds1, p1, q1, rfl, rfl, rfl, h1, r1⟩ := trodAll_cons r0
  obtain ⟨v2, vs2, d2, ds2, p2, q2, rfl, rfl, rfl, h2, r2⟩ := trodAll_cons r1
  obtain ⟨rfl, rfl, rfl⟩ := trodAll_nil r2
  obtain rfl : args = #[v0, v1, v2] := by cases args; simp_all
  obtain ⟨rfl, rfl⟩ := trodVars_none hV
  have k0 := h0
  have lt0 : ∀ x ∈ p0, x.block < W.heap.size := by obtain ⟨m, hm⟩ := k0; exact DataW.trod_lt m _ _ _ hm
  obtain ⟨a0, len0, cap0, rfl⟩ := okWide_slice Try.underlying39 (hval 0 39 v0 rfl rfl)
  obtain ⟨x0, rfl, hR0, hle0, hmx0, hok0⟩ := open_row (opens_72) Try.underlying39 (by kernel_rfl) h0
  have k1 := h1
  have lt1 : ∀ x ∈ p1, x.block < W.heap.size := by obtain ⟨m, hm⟩ := k1; exact DataW.trod_lt m _ _ _ hm
  obtain ⟨a1, len1, cap1, rfl⟩ := okWide_slice Try.underlying25 (hval 1 25 v1 rfl rfl)
  obtain ⟨x1, rfl, hR1, hle1, hmx1, hok1⟩ := open_row (opens_i64 Try.underlying2) Try.underlying25 (by kernel_rfl) h1
  have k2 := h2
  have lt2 : ∀ x ∈ p2, x.block < W.heap.size := by obtain ⟨m, hm⟩ := k2; exact DataW.trod_lt m _ _ _ hm
  obtain ⟨a2, len2, cap2, rfl⟩ := okWide_slice Try.underlying25 (hval 2 25 v2 rfl rfl)
  obtain ⟨x2, rfl, hR2, hle2, hmx2, hok2⟩ := open_row (opens_i64 Try.underlying2) Try.underlying25 (by kernel_rfl) h2
  clear hA0 hval0
  have hc := c_12 2000000 x0 a0 cap0 x1 a1 cap1 x2 a2 cap2 W (r := true) (law_NeedlessRepairs x0 x1 x2 hmx0 hok0 hmx1 hok1 hmx2 hok2) hR0 hle0 hR1 hle1 hR2 hle2
  refine Calls.mono hc fun e W' ⟨v, he, hv, bel⟩ => ?_
  subst he; subst hv
  exact ⟨_, rfl, _, _, _, [], _, [], hW', trodAll_mk1 (shut_bool Try.underlying4 _), (trodAll_cons_mk (Below.trod laidOut (by kernel_rfl) (of_decide_eq_true (by kernel_rfl)) k0 bel lt0) (trodAll_cons_mk (Below.trod laidOut (by kernel_rfl) (of_decide_eq_true (by kernel_rfl)) k1 bel lt1) (trodAll_cons_mk (Below.trod laidOut (by kernel_rfl) (of_decide_eq_true (by kernel_rfl)) k2 bel lt2) trodAll_mk0))), rfl, bel.frame _, fun h => by cases h⟩

/-- The statement, as it was given. -/
theorem fnExactNeedlessRepairs_holds : Rows.FnExactNeedlessRepairsSaid :=
  OpenClaim.holds_of_wide 12 Try.f12 rfl rfl rfl rfl rfl rfl rfl ⟨rfl, rfl, rfl, rfl, rfl⟩ rfl rfl rfl rfl rfl (by kernel_rfl) Try.func12 (by kernel_rfl)
    (of_decide_eq_true (by kernel_rfl)) (by unfold Func.isWrapper; rw [if_neg (of_decide_eq_false (by kernel_rfl))]; exact ⟨rfl, rfl⟩)
    (fun os started H enc _ => liftedFnExactNeedlessRepairs os started H enc)

end Go.Proofs.Ytkglfbcelaphhaa
