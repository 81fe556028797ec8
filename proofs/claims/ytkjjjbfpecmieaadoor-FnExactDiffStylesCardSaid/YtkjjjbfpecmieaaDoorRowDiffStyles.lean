/-
  For every input laws.FnExactDiffStyles returns true, and each argument reads afterwards as it read before. Conditions: none beyond those of the given row.
-/
import Derived.Test.YtkjjjbfpecmieaaDoorCards
import Derived.Test.YtkjjjbfpecmieaaDoorTie
import Derived.Test.YtkjjjbfpecmieaaDoorGk
import Derived.SevenTiedAt
import Derived.Lay
import Derived.LaidMore
import Derived.Stop.Joined
import Derived.Stop.LaidErr
import Derived.Shelf.Vars
import Derived.Test.YtkjjjbfpecmieaaDoorRows
import Derived.Test.YtkjjjbfpecmieaaDoorGr
import Derived.Test.YtkjjjbfpecmieaaDoorKDiffStyles2
import Derived.Test.YtkjjjbfpecmieaaDoorPsH
import Derived.WalkKit
import Derived.ProofKit
import Derived.OpenShut
import Derived.ShutString
import Derived.ChangeOld
import Derived.Below
set_option maxRecDepth 100000
namespace Go.Proofs.YtkjjjbfpecmieaaDoor
open Go Go.Gv Go.ChangeShapes Go.WideShapes Go.ChangeAt Go.RowKit
open Go.ChangeMaps (open_string shut_string)

theorem own : ownKnob Tryd.prog.godebug = none := by kernel_rfl
theorem laidOut : laidOutB Tryd.prog = true := by kernel_rfl
theorem wf_i64ok {n : Int} (h : (Lit.int .i64 n).wf = true) : i64ok n := by
  simpa [Lit.wf, IntKind.has, i64ok, IntKind.min, IntKind.max, IntKind.signed, IntKind.bits] using h

theorem opens_29 : Opens Tryd.prog fStyle.ty okStyle 29 := fun h => by
  obtain ⟨xs, m, _, _, hl, hxl, hf⟩ := DataW.trod_struct Tryd.underlying29 h
  have l0 := hl.trans (show Tryd.prog.cellsOf 29 = 9 by kernel_rfl)
  obtain ⟨c0, r0, rfl, l1⟩ := split1 l0
  obtain ⟨c1, r1, rfl, l2⟩ := split1 l1
  obtain ⟨c2, r2, rfl, l3⟩ := split1 l2
  obtain ⟨c3, r3, rfl, l4⟩ := split1 l3
  obtain ⟨c4, r4, rfl, l5⟩ := split1 l4
  obtain ⟨c5, r5, rfl, l6⟩ := split1 l5
  obtain ⟨c6, r6, rfl, l7⟩ := split1 l6
  obtain ⟨c7, r7, rfl, l8⟩ := split1 l7
  obtain ⟨c8, r8, rfl, l9⟩ := split1 l8
  obtain rfl := List.eq_nil_of_length_eq_zero l9
  have h0 := hf 0 _ rfl
  obtain ⟨p0, hp0⟩ : ∃ p, xs[0]? = some p := ⟨_, List.getElem?_eq_getElem (by rw [hxl]; decide)⟩
  rw [hp0, show Tryd.prog.cellsOf _ = 1 by kernel_rfl] at h0
  obtain ⟨y0, e0, k0⟩ := opens_str Tryd.underlying9 h0
  have h1 := hf 1 _ rfl
  obtain ⟨p1, hp1⟩ : ∃ p, xs[1]? = some p := ⟨_, List.getElem?_eq_getElem (by rw [hxl]; decide)⟩
  rw [hp1, show Tryd.prog.cellsOf _ = 1 by kernel_rfl] at h1
  obtain ⟨y1, e1, k1⟩ := opens_str Tryd.underlying9 h1
  have h2 := hf 2 _ rfl
  obtain ⟨p2, hp2⟩ : ∃ p, xs[2]? = some p := ⟨_, List.getElem?_eq_getElem (by rw [hxl]; decide)⟩
  rw [hp2, show Tryd.prog.cellsOf _ = 1 by kernel_rfl] at h2
  obtain ⟨y2, e2, k2⟩ := opens_str Tryd.underlying9 h2
  have h3 := hf 3 _ rfl
  obtain ⟨p3, hp3⟩ : ∃ p, xs[3]? = some p := ⟨_, List.getElem?_eq_getElem (by rw [hxl]; decide)⟩
  rw [hp3, show Tryd.prog.cellsOf _ = 1 by kernel_rfl] at h3
  obtain ⟨y3, e3, k3⟩ := opens_str Tryd.underlying9 h3
  have h4 := hf 4 _ rfl
  obtain ⟨p4, hp4⟩ : ∃ p, xs[4]? = some p := ⟨_, List.getElem?_eq_getElem (by rw [hxl]; decide)⟩
  rw [hp4, show Tryd.prog.cellsOf _ = 1 by kernel_rfl] at h4
  obtain ⟨y4, e4, k4⟩ := opens_i64 Tryd.underlying2 h4
  have h5 := hf 5 _ rfl
  obtain ⟨p5, hp5⟩ : ∃ p, xs[5]? = some p := ⟨_, List.getElem?_eq_getElem (by rw [hxl]; decide)⟩
  rw [hp5, show Tryd.prog.cellsOf _ = 1 by kernel_rfl] at h5
  obtain ⟨y5, e5, k5⟩ := opens_i64 Tryd.underlying2 h5
  have h6 := hf 6 _ rfl
  obtain ⟨p6, hp6⟩ : ∃ p, xs[6]? = some p := ⟨_, List.getElem?_eq_getElem (by rw [hxl]; decide)⟩
  rw [hp6, show Tryd.prog.cellsOf _ = 1 by kernel_rfl] at h6
  obtain ⟨y6, e6, k6⟩ := opens_i64 Tryd.underlying2 h6
  have h7 := hf 7 _ rfl
  obtain ⟨p7, hp7⟩ : ∃ p, xs[7]? = some p := ⟨_, List.getElem?_eq_getElem (by rw [hxl]; decide)⟩
  rw [hp7, show Tryd.prog.cellsOf _ = 1 by kernel_rfl] at h7
  obtain ⟨y7, e7, k7⟩ := opens_i64 Tryd.underlying2 h7
  have h8 := hf 8 _ rfl
  obtain ⟨p8, hp8⟩ : ∃ p, xs[8]? = some p := ⟨_, List.getElem?_eq_getElem (by rw [hxl]; decide)⟩
  rw [hp8, show Tryd.prog.cellsOf _ = 1 by kernel_rfl] at h8
  obtain ⟨y8, e8, k8⟩ := opens_bool Tryd.underlying4 h8
  refine ⟨⟨y0, y1, y2, y3, y4, y5, y6, y7, y8⟩, ?_, ⟨k0, k1, k2, k3, k4, k5, k6, k7, k8⟩⟩
  have e0 : [c0] = fStr.leaf y0 := e0
  have e1 : [c1] = fStr.leaf y1 := e1
  have e2 : [c2] = fStr.leaf y2 := e2
  have e3 : [c3] = fStr.leaf y3 := e3
  have e4 : [c4] = fInt.leaf y4 := e4
  have e5 : [c5] = fInt.leaf y5 := e5
  have e6 : [c6] = fInt.leaf y6 := e6
  have e7 : [c7] = fInt.leaf y7 := e7
  have e8 : [c8] = fBool.leaf y8 := e8
  show [c0, c1, c2, c3, c4, c5, c6, c7, c8] = fStr.leaf y0 ++ fStr.leaf y1 ++ fStr.leaf y2 ++ fStr.leaf y3 ++ fInt.leaf y4 ++ fInt.leaf y5 ++ fInt.leaf y6 ++ fInt.leaf y7 ++ fBool.leaf y8
  rw [← e0, ← e1, ← e2, ← e3, ← e4, ← e5, ← e6, ← e7, ← e8]; rfl

theorem liftedFnExactDiffStyles (os : Os) (started : os.Started) (H : Type) (enc : TypeId × Value → H) :
    ReturnsInHanded {} Tryd.checked os 4 .any (fun w args => (Rows.fnExactDiffStylesSpec.pre enc Tryd.prog Tryd.f4 Rows.fnExactDiffStylesRow.domain false w args ∧ laidMetH Tryd.prog Rows.fnExactDiffStylesRow.laid w) ∧ sizedMet enc Tryd.prog Tryd.f4 (OpenSpec.ofChange Rows.fnExactDiffStylesSpec) false w args) (Rows.fnExactDiffStylesSpec.post enc Tryd.prog Tryd.f4 false true false false) := by
  refine returnsInHanded_laid (C := Tryd.checked) (X := fun w _ => laidMetH Tryd.prog Rows.fnExactDiffStylesRow.laid w) (fun _ _ _ hh h => h.of_heap hh) own started (by kernel_rfl) Tryd.func4
    (ChangeSpec.witness_shaped (enc := enc) (C := Tryd.checked) (os := os) (X := fun w _ => laidMetH Tryd.prog Rows.fnExactDiffStylesRow.laid w) false (World.laidAll Tryd.prog os Rows.fnExactDiffStylesRow.laid) #[.agg #[.string (bs []), .string (bs []), .string (bs []), .string (bs []), .int .i64 0, .int .i64 0, .int .i64 0, .int .i64 0, .bool false], .agg #[.string (bs []), .string (bs []), .string (bs []), .string (bs []), .int .i64 0, .int .i64 0, .int .i64 0, .int .i64 0, .bool false]] 8 (World.laidAll_os _ _ _)
      (World.shaped_of_ZipB (by kernel_rfl) (by kernel_rfl)) (by kernel_rfl) (by kernel_rfl) (by kernel_rfl)
      (by rw [MakeChecks.laidMetH_plain _ _ _ (by kernel_rfl)]; exact laidMet_laidAll _ (by kernel_rfl) (by kernel_rfl))) ?_
  intro W base args ds gs before hval0 hW hL hSh
  have hval : ∀ (j : Nat) t v, Tryd.f4.params[j]? = some t → args[j]? = some v → Value.okWide Tryd.prog W .any base t v := hval0
  have hW' := hW
  obtain ⟨p, q, hA0, hV, rfl, hfz, hnd⟩ := hW
  have hA : DataW.TrodAll enc Tryd.prog W 0 (fun _ => true) true Tryd.f4.params.toList args.toList ds p := hA0
  rw [Tryd.params4] at hA hval
  obtain ⟨v0, vs0, d0, ds0, p0, q0, hargs, rfl, rfl, h0, r0⟩ := trodAll_cons hA
  obtain ⟨v1, vs1, d1, ds1, p1, q1, rfl, rfl, rfl, h1, r1⟩ := trodAll_cons r0
  obtain ⟨rfl, rfl, rfl⟩ := trodAll_nil r1
  obtain rfl : args = #[v0, v1] := by cases args; simp_all
  obtain ⟨rfl, rfl⟩ := trodVars_none hV
  have k0 := h0
  have lt0 : ∀ x ∈ p0, x.block < W.heap.size := by obtain ⟨m, hm⟩ := k0; exact DataW.trod_lt m _ _ _ hm
  obtain ⟨x0, rfl, hok0⟩ := open_agg (opens_29) Tryd.underlying29 (hval 0 29 v0 rfl rfl) h0
  have k1 := h1
  have lt1 : ∀ x ∈ p1, x.block < W.heap.size := by obtain ⟨m, hm⟩ := k1; exact DataW.trod_lt m _ _ _ hm
  obtain ⟨x1, rfl, hok1⟩ := open_agg (opens_29) Tryd.underlying29 (hval 1 29 v1 rfl rfl) h1
  clear hA0 hval0
  have hL0 : laidMet Tryd.prog Rows.fnExactDiffStylesRow.laid W := by rw [← MakeChecks.laidMetH_plain _ _ _ (by kernel_rfl)]; exact hL
  have hM : ∃ m, W.cell? ⟨0, 0, none⟩ = some (.int .i64 m) := Go.Proofs.cell_of_shapedOpen_int (zero := #[.int .i64 0]) (t := 3) hSh (of_decide_eq_true (by kernel_rfl)) (by kernel_rfl) rfl (by kernel_rfl) (by kernel_rfl) Tryd.underlying3
  have hP : Lib.TabIs Tryd.prog W "internal/strconv.uint64pow10" .u64 Lib.pow10Tab := Lib.tabIs_of_head (g := 1) (by kernel_rfl) (by kernel_rfl) Tryd.underlying124 Tryd.underlying109 (by kernel_rfl) (by kernel_rfl) hL0.tail.tail
  have hG : GL 2 W := ⟨fun _ => hM, fun _ => hP, fun q => by omega, fun q => by omega⟩
  have hc := c_4 2000000 x0 x1 W (r := true) (law_DiffStyles x0 x1 hok0 hok1) hG
  refine Calls.mono hc fun e W' ⟨v, he, hv, bel⟩ => ?_
  subst he; subst hv
  exact ⟨_, rfl, _, _, _, [], _, [], hW', trodAll_mk1 (shut_bool Tryd.underlying4 _), (trodAll_cons_mk (Below.trod laidOut (by kernel_rfl) (of_decide_eq_true (by kernel_rfl)) k0 bel lt0) (trodAll_cons_mk (Below.trod laidOut (by kernel_rfl) (of_decide_eq_true (by kernel_rfl)) k1 bel lt1) trodAll_mk0)), rfl, bel.frame _, fun h => by cases h⟩

theorem fnExactDiffStyles_holds : Rows.FnExactDiffStylesSaid :=
  OpenClaim.holds_of_wide 4 Tryd.f4 rfl rfl rfl rfl rfl rfl rfl ⟨rfl, rfl, rfl, rfl, rfl⟩ rfl rfl rfl rfl rfl (by kernel_rfl) Tryd.func4 (by kernel_rfl)
    (of_decide_eq_true (by kernel_rfl)) (by unfold Func.isWrapper; rw [if_neg (of_decide_eq_false (by kernel_rfl))]; exact ⟨rfl, rfl⟩)
    (fun os started H enc _ => liftedFnExactDiffStyles os started H enc)

/-- The card, as it was given. -/
theorem fnExactDiffStylesCard_holds : Rows.FnExactDiffStylesCardSaid :=
  Claim7.holds_tied_plain_at .later [] [.data, .data, .data] true (true, "21a82ab5af9187f0ae5c926a918356c01a2ae930fd8bc9d87c39c5ff30fa42de") true
    fnExactDiffStyles_holds (fun _ h => by cases h) (by kernel_rfl) (fun _ h => by cases h) fnExactDiffStyles_row_tie rfl ⟨rfl, rfl⟩ (by kernel_rfl) rfl
    (fun f fn hf hfn => by
      obtain rfl : f = 4 := Option.some.inj ((show Tryd.prog.funcNamed "loop.example/g01043/laws.FnExactDiffStyles" = some 4 by kernel_rfl).symm.trans hf) |>.symm
      obtain rfl : fn = Tryd.f4 := (Option.some.inj (Tryd.func4.symm.trans hfn)).symm
      exact ⟨by kernel_rfl, fun j t ht => by
        rw [Tryd.params4] at ht
        have hm : t ∈ [29, 29] := by simpa using Array.mem_of_getElem? ht
        have hall : ([29, 29].all fun u => !Tryd.prog.wantsStandIn u) = true := by kernel_rfl
        exact (show Tryd.prog.wantsStandIn t = false by simpa using List.all_eq_true.1 hall t hm)⟩)
    (by kernel_rfl)

end Go.Proofs.YtkjjjbfpecmieaaDoor
