/-
  For every input laws.FnExactChangeText returns true, and each argument reads afterwards as it read before. Conditions: none beyond those of the given row.
-/
import Derived.Test.YtlplbjeegkkilaaDoorGt
import Derived.ChangeVars
import Derived.Carry
import Derived.Test.YtlplbjeegkkilaaDoorCards
import Derived.Test.YtlplbjeegkkilaaDoorTie
import Derived.Test.YtlplbjeegkkilaaDoorGk
import Derived.SevenTiedAt
import Derived.Lay
import Derived.LaidMore
import Derived.Stop.Joined
import Derived.Stop.LaidErr
import Derived.Shelf.Vars
import Derived.Test.YtlplbjeegkkilaaDoorRows
import Derived.Test.YtlplbjeegkkilaaDoorGr
import Derived.Test.YtlplbjeegkkilaaDoorKChangeText1
import Derived.Test.YtlplbjeegkkilaaDoorPcT
import Derived.WalkKit
import Derived.ProofKit
import Derived.OpenShut
import Derived.ShutString
import Derived.ChangeOld
import Derived.Below
set_option maxRecDepth 100000
namespace Go.Proofs.YtlplbjeegkkilaaDoor
open Go Go.Gv Go.ChangeShapes Go.WideShapes Go.ChangeAt Go.RowKit
open Go.ChangeMaps (open_string shut_string)

theorem own : ownKnob Tryd.prog.godebug = none := by kernel_rfl
theorem laidOut : laidOutB Tryd.prog = true := by kernel_rfl
theorem wf_i64ok {n : Int} (h : (Lit.int .i64 n).wf = true) : i64ok n := by
  simpa [Lit.wf, IntKind.has, i64ok, IntKind.min, IntKind.max, IntKind.signed, IntKind.bits] using h

theorem opens_23 : Opens Tryd.prog fChange.ty okChange 23 := fun h => by
  obtain ⟨xs, m, _, _, hl, hxl, hf⟩ := DataW.trod_struct Tryd.underlying23 h
  have l0 := hl.trans (show Tryd.prog.cellsOf 23 = 2 by kernel_rfl)
  obtain ⟨c0, r0, rfl, l1⟩ := split1 l0
  obtain ⟨c1, r1, rfl, l2⟩ := split1 l1
  obtain rfl := List.eq_nil_of_length_eq_zero l2
  have h0 := hf 0 _ rfl
  obtain ⟨p0, hp0⟩ : ∃ p, xs[0]? = some p := ⟨_, List.getElem?_eq_getElem (by rw [hxl]; decide)⟩
  rw [hp0, show Tryd.prog.cellsOf _ = 1 by kernel_rfl] at h0
  obtain ⟨y0, e0, k0⟩ := opens_i64 Tryd.underlying2 h0
  have h1 := hf 1 _ rfl
  obtain ⟨p1, hp1⟩ : ∃ p, xs[1]? = some p := ⟨_, List.getElem?_eq_getElem (by rw [hxl]; decide)⟩
  rw [hp1, show Tryd.prog.cellsOf _ = 1 by kernel_rfl] at h1
  obtain ⟨y1, e1, k1⟩ := opens_i64 Tryd.underlying2 h1
  refine ⟨⟨y0, y1⟩, ?_, ⟨k0, k1⟩⟩
  have e0 : [c0] = fInt.leaf y0 := e0
  have e1 : [c1] = fInt.leaf y1 := e1
  show [c0, c1] = fInt.leaf y0 ++ fInt.leaf y1
  rw [← e0, ← e1]; rfl

theorem liftedFnExactChangeText (os : Os) (started : os.Started) (H : Type) (enc : TypeId × Value → H) :
    ReturnsInHanded {} Tryd.checked os 3 .any (fun w args => (Rows.fnExactChangeTextSpec.pre enc Tryd.prog Tryd.f3 Rows.fnExactChangeTextRow.domain false w args ∧ laidMetH Tryd.prog Rows.fnExactChangeTextRow.laid w) ∧ sizedMet enc Tryd.prog Tryd.f3 (OpenSpec.ofChange Rows.fnExactChangeTextSpec) false w args) (Rows.fnExactChangeTextSpec.post enc Tryd.prog Tryd.f3 false true false false) := by
  refine returnsInHanded_laid (C := Tryd.checked) (X := fun w _ => laidMetH Tryd.prog Rows.fnExactChangeTextRow.laid w) (fun _ _ _ hh h => h.of_heap hh) own started (by kernel_rfl) Tryd.func3
    (ChangeSpec.witness_shaped (enc := enc) (C := Tryd.checked) (os := os) (X := fun w _ => laidMetH Tryd.prog Rows.fnExactChangeTextRow.laid w) false (World.laidAll Tryd.prog os Rows.fnExactChangeTextRow.laid) #[.agg #[.int .i64 0, .int .i64 0]] 8 (World.laidAll_os _ _ _)
      (World.shaped_of_ZipB (by kernel_rfl) (by kernel_rfl)) (by kernel_rfl) (by kernel_rfl) (by kernel_rfl)
      (by rw [MakeChecks.laidMetH_plain _ _ _ (by kernel_rfl)]; exact laidMet_laidAll _ (by kernel_rfl) (by kernel_rfl))) ?_
  intro W base args ds gs before hval0 hW hL hSh
  have hval : ∀ (j : Nat) t v, Tryd.f3.params[j]? = some t → args[j]? = some v → Value.okWide Tryd.prog W .any base t v := hval0
  have hW' := hW
  obtain ⟨p, q, hA0, hV, rfl, hfz, hnd⟩ := hW
  have hA : DataW.TrodAll enc Tryd.prog W 0 (fun _ => true) true Tryd.f3.params.toList args.toList ds p := hA0
  rw [Tryd.params3] at hA hval
  obtain ⟨v0, vs0, d0, ds0, p0, q0, hargs, rfl, rfl, h0, r0⟩ := trodAll_cons hA
  obtain ⟨rfl, rfl, rfl⟩ := trodAll_nil r0
  obtain rfl : args = #[v0] := by cases args; simp_all
  obtain ⟨gv, tv, csv, fuv, dv, pvv, rfl, hgv, htv, hvar, hdv, rfl⟩ := trodVars_one hV
  obtain rfl : gv = 0 := Option.some.inj (hgv.symm.trans (by kernel_rfl))
  obtain rfl : tv = 46 := Option.some.inj (htv.symm.trans (by kernel_rfl))
  have ltv : ∀ x ∈ pvv, x.block < W.heap.size := DataW.trod_lt fuv _ _ _ hdv
  have k0 := h0
  have lt0 : ∀ x ∈ p0, x.block < W.heap.size := by obtain ⟨m, hm⟩ := k0; exact DataW.trod_lt m _ _ _ hm
  obtain ⟨x0, rfl, hok0⟩ := open_agg (opens_23) Tryd.underlying23 (hval 0 23 v0 rfl rfl) h0
  clear hA0 hval0
  have hL0 : laidMet Tryd.prog Rows.fnExactChangeTextRow.laid W := by rw [← MakeChecks.laidMetH_plain _ _ _ (by kernel_rfl)]; exact hL
  have hM : ∃ m, W.cell? ⟨1, 0, none⟩ = some (.int .i64 m) := Go.Proofs.cell_of_shapedOpen_int (zero := #[.int .i64 0]) (t := 3) hSh (of_decide_eq_true (by kernel_rfl)) (by kernel_rfl) rfl (by kernel_rfl) (by kernel_rfl) Tryd.underlying3
  have hP : Lib.TabIs Tryd.prog W "internal/strconv.uint64pow10" .u64 Lib.pow10Tab := Lib.tabIs_of_head (g := 2) (by kernel_rfl) (by kernel_rfl) Tryd.underlying114 Tryd.underlying81 (by kernel_rfl) (by kernel_rfl) hL0.tail.tail
  have hN0_0 : W.var? Tryd.prog "loop.example/g01043/impl.changeNames" = some (v_changeNames.map fun s => Value.string (bs s)).toArray := strs_of_head (g := 0) (by kernel_rfl) (by kernel_rfl) Tryd.underlying46 Tryd.underlying9 (by kernel_rfl) (by kernel_rfl) rfl (hL0.tail.tail.tail)
  have hN_0 := rd_of_var (g := 0) (by kernel_rfl) hN0_0
  have hG : GL 3 W := ⟨fun _ => hM, fun _ => hP, fun _ => hN_0, fun q => by omega, fun q => by omega⟩
  have hc := c_3 2000000 x0 W (r := true) (law_ChangeText x0 hok0) hG
  refine Calls.mono hc fun e W' ⟨v, he, hv, bel⟩ => ?_
  subst he; subst hv
  obtain ⟨fuv2, hdv2⟩ := Below.trod (v := .agg csv) laidOut (by kernel_rfl : Tryd.prog.readableRec 46 = true) (of_decide_eq_true (by kernel_rfl)) ⟨fuv, hdv⟩ bel ltv
  exact ⟨_, rfl, _, _, _, [], _, _, hW', trodAll_mk1 (shut_bool Tryd.underlying4 _), (trodAll_cons_mk (Below.trod laidOut (by kernel_rfl) (of_decide_eq_true (by kernel_rfl)) k0 bel lt0) trodAll_mk0), trodVars_mk1 hgv htv (var_ext hgv hvar bel) hdv2, bel.frame _, fun h => by cases h⟩

theorem fnExactChangeText_holds : Rows.FnExactChangeTextSaid :=
  OpenClaim.holds_of_wide 3 Tryd.f3 rfl rfl rfl rfl rfl rfl rfl ⟨rfl, rfl, rfl, rfl, rfl⟩ rfl rfl rfl rfl rfl (by kernel_rfl) Tryd.func3 (by kernel_rfl)
    (of_decide_eq_true (by kernel_rfl)) (by unfold Func.isWrapper; rw [if_neg (of_decide_eq_false (by kernel_rfl))]; exact ⟨rfl, rfl⟩)
    (fun os started H enc _ => liftedFnExactChangeText os started H enc)

/-- The card, as it was given. -/
theorem fnExactChangeTextCard_holds : Rows.FnExactChangeTextCardSaid :=
  Claim7.holds_tied_plain_at .later [] [.data, .data, .data, .widerDeep] true (true, "2b78fa2a62f1c1eb5828838037fa6ea035327ec3e7aea279af6a9a2595c43ce4") true
    fnExactChangeText_holds (fun _ h => by cases h) (by kernel_rfl) (fun _ h => by cases h) fnExactChangeText_row_tie rfl ⟨rfl, rfl⟩ (by kernel_rfl) rfl
    (fun f fn hf hfn => by
      obtain rfl : f = 3 := Option.some.inj ((show Tryd.prog.funcNamed "loop.example/g01043/laws.FnExactChangeText" = some 3 by kernel_rfl).symm.trans hf) |>.symm
      obtain rfl : fn = Tryd.f3 := (Option.some.inj (Tryd.func3.symm.trans hfn)).symm
      exact ⟨by kernel_rfl, fun j t ht => by
        rw [Tryd.params3] at ht
        have hm : t ∈ [23] := by simpa using Array.mem_of_getElem? ht
        have hall : ([23].all fun u => !Tryd.prog.wantsStandIn u) = true := by kernel_rfl
        exact (show Tryd.prog.wantsStandIn t = false by simpa using List.all_eq_true.1 hall t hm)⟩)
    (by kernel_rfl)

end Go.Proofs.YtlplbjeegkkilaaDoor
