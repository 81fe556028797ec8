/-
  For every input laws.FnExactRepairText returns true, and each argument reads afterwards as it read before. Conditions: none beyond those of the given row.
-/
import Derived.Test.YtkglfbcelaphhaaDoorGy
import Derived.Test.YtkglfbcelaphhaaDoorCards
import Derived.Test.YtkglfbcelaphhaaDoorTie
import Derived.Test.YtkglfbcelaphhaaDoorGk
import Derived.SevenTiedAt
import Derived.Lay
import Derived.LaidMore
import Derived.Stop.Joined
import Derived.Stop.LaidErr
import Derived.Shelf.Vars
import Derived.Test.YtkglfbcelaphhaaDoorRows
import Derived.Test.YtkglfbcelaphhaaDoorGr
import Derived.Test.YtkglfbcelaphhaaDoorKRepairText1
import Derived.Test.YtkglfbcelaphhaaDoorPvR
import Derived.WalkKit
import Derived.ProofKit
import Derived.OpenShut
import Derived.ShutString
import Derived.ChangeOld
import Derived.Below
set_option maxRecDepth 100000
namespace Go.Proofs.YtkglfbcelaphhaaDoor
open Go Go.Gv Go.ChangeShapes Go.WideShapes Go.ChangeAt Go.RowKit
open Go.ChangeMaps (open_string shut_string)

theorem own : ownKnob Tryd.prog.godebug = none := by kernel_rfl
theorem laidOut : laidOutB Tryd.prog = true := by kernel_rfl
theorem wf_i64ok {n : Int} (h : (Lit.int .i64 n).wf = true) : i64ok n := by
  simpa [Lit.wf, IntKind.has, i64ok, IntKind.min, IntKind.max, IntKind.signed, IntKind.bits] using h

theorem opens_32 : Opens Tryd.prog fRepair.ty okRepair 32 := fun h => by
  obtain ⟨xs, m, _, _, hl, hxl, hf⟩ := DataW.trod_struct Tryd.underlying32 h
  have l0 := hl.trans (show Tryd.prog.cellsOf 32 = 5 by kernel_rfl)
  obtain ⟨c0, r0, rfl, l1⟩ := split1 l0
  obtain ⟨c1, r1, rfl, l2⟩ := split1 l1
  obtain ⟨c2, r2, rfl, l3⟩ := split1 l2
  obtain ⟨c3, r3, rfl, l4⟩ := split1 l3
  obtain ⟨c4, r4, rfl, l5⟩ := split1 l4
  obtain rfl := List.eq_nil_of_length_eq_zero l5
  have h0 := hf 0 _ rfl
  obtain ⟨p0, hp0⟩ : ∃ p, xs[0]? = some p := ⟨_, List.getElem?_eq_getElem (by rw [hxl]; decide)⟩
  rw [hp0, show Tryd.prog.cellsOf _ = 1 by kernel_rfl] at h0
  obtain ⟨y0, e0, k0⟩ := opens_str Tryd.underlying9 h0
  have h1 := hf 1 _ rfl
  obtain ⟨p1, hp1⟩ : ∃ p, xs[1]? = some p := ⟨_, List.getElem?_eq_getElem (by rw [hxl]; decide)⟩
  rw [hp1, show Tryd.prog.cellsOf _ = 1 by kernel_rfl] at h1
  obtain ⟨a1, b1, y1, e1, g1, j1, k1⟩ := opens_ints Tryd.underlying30 Tryd.underlying2 (by kernel_rfl) h1
  have h2 := hf 2 _ rfl
  obtain ⟨p2, hp2⟩ : ∃ p, xs[2]? = some p := ⟨_, List.getElem?_eq_getElem (by rw [hxl]; decide)⟩
  rw [hp2, show Tryd.prog.cellsOf _ = 1 by kernel_rfl] at h2
  obtain ⟨a2, b2, y2, e2, g2, j2, k2⟩ := opens_ints Tryd.underlying30 Tryd.underlying2 (by kernel_rfl) h2
  have h3 := hf 3 _ rfl
  obtain ⟨p3, hp3⟩ : ∃ p, xs[3]? = some p := ⟨_, List.getElem?_eq_getElem (by rw [hxl]; decide)⟩
  rw [hp3, show Tryd.prog.cellsOf _ = 1 by kernel_rfl] at h3
  obtain ⟨y3, e3, k3⟩ := opens_i64 Tryd.underlying2 h3
  have h4 := hf 4 _ rfl
  obtain ⟨p4, hp4⟩ : ∃ p, xs[4]? = some p := ⟨_, List.getElem?_eq_getElem (by rw [hxl]; decide)⟩
  rw [hp4, show Tryd.prog.cellsOf _ = 1 by kernel_rfl] at h4
  obtain ⟨y4, e4, k4⟩ := opens_i64 Tryd.underlying2 h4
  refine ⟨⟨y0, y1, y2, y3, y4⟩, ?_, ⟨k0, k1, k2, k3, k4⟩⟩
  have e0' : [c0] = fStr.leaf y0 := e0
  obtain rfl : c1 = .slice a1 y1.length b1 := by have e : [c1] = _ := e1; exact (List.cons.inj e).1
  obtain rfl : c2 = .slice a2 y2.length b2 := by have e : [c2] = _ := e2; exact (List.cons.inj e).1
  have e3' : [c3] = fInt.leaf y3 := e3
  have e4' : [c4] = fInt.leaf y4 := e4
  exact ⟨_, _, rfl, (List.cons.inj e0').1, ⟨_, _, rfl, ⟨a1, b1, rfl, g1, j1⟩, ⟨_, _, rfl, ⟨a2, b2, rfl, g2, j2⟩, ⟨_, _, rfl, (List.cons.inj e3').1, ⟨_, _, rfl, (List.cons.inj e4').1, rfl⟩⟩⟩⟩⟩

theorem liftedFnExactRepairText (os : Os) (started : os.Started) (H : Type) (enc : TypeId × Value → H) :
    ReturnsInHanded {} Tryd.checked os 3 .any (fun w args => (Rows.fnExactRepairTextSpec.pre enc Tryd.prog Tryd.f3 Rows.fnExactRepairTextRow.domain false w args ∧ laidMetH Tryd.prog Rows.fnExactRepairTextRow.laid w) ∧ sizedMet enc Tryd.prog Tryd.f3 (OpenSpec.ofChange Rows.fnExactRepairTextSpec) false w args) (Rows.fnExactRepairTextSpec.post enc Tryd.prog Tryd.f3 false true false false) := by
  refine returnsInHanded_laid (C := Tryd.checked) (X := fun w _ => laidMetH Tryd.prog Rows.fnExactRepairTextRow.laid w) (fun _ _ _ hh h => h.of_heap hh) own started (by kernel_rfl) Tryd.func3
    (ChangeSpec.witness_shaped (enc := enc) (C := Tryd.checked) (os := os) (X := fun w _ => laidMetH Tryd.prog Rows.fnExactRepairTextRow.laid w) false (World.laidAll Tryd.prog os Rows.fnExactRepairTextRow.laid) #[.slice none 0 0, .int .i64 0] 8 (World.laidAll_os _ _ _)
      (World.shaped_of_ZipB (by kernel_rfl) (by kernel_rfl)) (by kernel_rfl) (by kernel_rfl) (by kernel_rfl)
      (by rw [MakeChecks.laidMetH_plain _ _ _ (by kernel_rfl)]; exact laidMet_laidAll _ (by kernel_rfl) (by kernel_rfl))) ?_
  intro W base args ds gs before hval0 hW hL hSh
  have hval : ∀ (j : Nat) t v, Tryd.f3.params[j]? = some t → args[j]? = some v → Value.okWide Tryd.prog W .any base t v := hval0
  have hW' := hW
  obtain ⟨p, q, hA0, hV, rfl, hfz, hnd⟩ := hW
  have hA : DataW.TrodAll enc Tryd.prog W 0 (fun _ => true) true Tryd.f3.params.toList args.toList ds p := hA0
  rw [Tryd.params3] at hA hval
  obtain ⟨v0, vs0, d0, ds0, p0, q0, hargs, rfl, rfl, h0, r0⟩ := trodAll_cons hA
  obtain ⟨v1, vs1, d1, ds1, p1, q1, rfl, rfl, rfl, h1, r1⟩ := trodAll_cons r0
  obtain ⟨rfl, rfl, rfl⟩ := trodAll_nil r1
  obtain rfl : args = #[v0, v1] := by cases args; simp_all
  obtain ⟨rfl, rfl⟩ := trodVars_none hV
  have k0 := h0
  have lt0 : ∀ x ∈ p0, x.block < W.heap.size := by obtain ⟨m, hm⟩ := k0; exact DataW.trod_lt m _ _ _ hm
  obtain ⟨a0, len0, cap0, rfl⟩ := okWide_slice Tryd.underlying22 (hval 0 22 v0 rfl rfl)
  obtain ⟨x0, rfl, hR0, hle0, hmx0, hok0⟩ := Go.Gv.open_row (opens_32) Tryd.underlying22 (by kernel_rfl) h0
  obtain ⟨x1, rfl, rfl, rfl, wx1⟩ := open_int Tryd.underlying2 (hval 1 2 v1 rfl rfl) h1
  have hok1 : i64ok x1 := wf_i64ok wx1
  clear hA0 hval0
  have hL0 : laidMet Tryd.prog Rows.fnExactRepairTextRow.laid W := by rw [← MakeChecks.laidMetH_plain _ _ _ (by kernel_rfl)]; exact hL
  have hM : ∃ m, W.cell? ⟨1, 0, none⟩ = some (.int .i64 m) := Go.Proofs.cell_of_shapedOpen_int (zero := #[.int .i64 0]) (t := 3) hSh (of_decide_eq_true (by kernel_rfl)) (by kernel_rfl) rfl (by kernel_rfl) (by kernel_rfl) Tryd.underlying3
  have hP : Lib.TabIs Tryd.prog W "internal/strconv.uint64pow10" .u64 Lib.pow10Tab := Lib.tabIs_of_head (g := 0) (by kernel_rfl) (by kernel_rfl) Tryd.underlying76 Tryd.underlying66 (by kernel_rfl) (by kernel_rfl) hL0.tail.tail
  have hG : GL 2 W := ⟨fun _ => hM, fun _ => hP⟩
  have hc := c_3 2000000 x0 a0 cap0 x1 W (r := true) (law_RepairText x0 x1 hmx0 hok0 hok1) hG hR0 hle0
  refine Calls.mono hc fun e W' ⟨v, he, hv, bel⟩ => ?_
  subst he; subst hv
  exact ⟨_, rfl, _, _, _, [], _, [], hW', trodAll_mk1 (shut_bool Tryd.underlying4 _), (trodAll_cons_mk (Below.trod laidOut (by kernel_rfl) (of_decide_eq_true (by kernel_rfl)) k0 bel lt0) (trodAll_cons_mk (shut_int Tryd.underlying2 wx1) trodAll_mk0)), rfl, bel.frame _, fun h => by cases h⟩

theorem fnExactRepairText_holds : Rows.FnExactRepairTextSaid :=
  OpenClaim.holds_of_wide 3 Tryd.f3 rfl rfl rfl rfl rfl rfl rfl ⟨rfl, rfl, rfl, rfl, rfl⟩ rfl rfl rfl rfl rfl (by kernel_rfl) Tryd.func3 (by kernel_rfl)
    (of_decide_eq_true (by kernel_rfl)) (by unfold Func.isWrapper; rw [if_neg (of_decide_eq_false (by kernel_rfl))]; exact ⟨rfl, rfl⟩)
    (fun os started H enc _ => liftedFnExactRepairText os started H enc)

/-- The card, as it was given. -/
theorem fnExactRepairTextCard_holds : Rows.FnExactRepairTextCardSaid :=
  Claim7.holds_tied_plain_at .later [] [.data, .data, .data] true (true, "d67bb7d709e4c0ec3393932008a74a65f494127886df9712a7b9c02adb78a490") false
    fnExactRepairText_holds (fun _ h => by cases h) (by kernel_rfl) (fun _ h => by cases h) fnExactRepairText_row_tie rfl ⟨rfl, rfl⟩ (by kernel_rfl) rfl
    (fun f fn hf hfn => by
      obtain rfl : f = 3 := Option.some.inj ((show Tryd.prog.funcNamed "loop.example/g01043/laws.FnExactRepairText" = some 3 by kernel_rfl).symm.trans hf) |>.symm
      obtain rfl : fn = Tryd.f3 := (Option.some.inj (Tryd.func3.symm.trans hfn)).symm
      exact ⟨by kernel_rfl, fun j t ht => by
        rw [Tryd.params3] at ht
        have hm : t ∈ [22, 2] := by simpa using Array.mem_of_getElem? ht
        have hall : ([22, 2].all fun u => !Tryd.prog.wantsStandIn u) = true := by kernel_rfl
        exact (show Tryd.prog.wantsStandIn t = false by simpa using List.all_eq_true.1 hall t hm)⟩)
    (by kernel_rfl)

end Go.Proofs.YtkglfbcelaphhaaDoor
