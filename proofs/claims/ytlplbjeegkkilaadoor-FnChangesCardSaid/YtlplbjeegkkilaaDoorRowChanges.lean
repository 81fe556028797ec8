/-
  For every input laws.FnChanges returns true, and each argument reads afterwards as it read before. Conditions: none beyond those of the given row.
-/
import Derived.Test.YtlplbjeegkkilaaDoorGt
import Derived.ChangeVars
import Derived.Carry
import Derived.Test.YtlplbjeegkkilaaDoorCards
import Derived.Test.YtlplbjeegkkilaaDoorTie
import Derived.Test.YtlplbjeegkkilaaDoorGk
import Derived.SevenTiedAt
import Derived.Lay
import Derived.LaidMore
import Derived.Stop.Joined
import Derived.Stop.LaidErr
import Derived.Shelf.Vars
import Derived.Test.YtlplbjeegkkilaaDoorRows
import Derived.Test.YtlplbjeegkkilaaDoorGr
import Derived.Test.YtlplbjeegkkilaaDoorKChanges2
import Derived.Test.YtlplbjeegkkilaaDoorPcV
import Derived.WalkKit
import Derived.ProofKit
import Derived.OpenShut
import Derived.ShutString
import Derived.ChangeOld
import Derived.Below
set_option maxRecDepth 100000
namespace Go.Proofs.YtlplbjeegkkilaaDoor
open Go Go.Gv Go.ChangeShapes Go.WideShapes Go.ChangeAt Go.RowKit
open Go.ChangeMaps (open_string shut_string)

theorem own : ownKnob Tryd.prog.godebug = none := by kernel_rfl
theorem laidOut : laidOutB Tryd.prog = true := by kernel_rfl
theorem wf_i64ok {n : Int} (h : (Lit.int .i64 n).wf = true) : i64ok n := by
  simpa [Lit.wf, IntKind.has, i64ok, IntKind.min, IntKind.max, IntKind.signed, IntKind.bits] using h

theorem star : "*" ++ "errors.errorString" = "*errors.errorString" := by decide
theorem rowErr (u : TypeId) (h : Tryd.prog.typeName? 3 u = some "*errors.errorString") : u = 129 :=
  typeName_ptr_named (nm := "errors.errorString") (by rw [star]; kernel_rfl) (by kernel_rfl) (by decide) u (by rw [star]; exact h)

theorem liftedFnChanges (os : Os) (started : os.Started) (H : Type) (enc : TypeId × Value → H) :
    ReturnsInHanded {} Tryd.checked os 5 .any (fun w args => (Rows.fnChangesSpec.pre enc Tryd.prog Tryd.f5 Rows.fnChangesRow.domain false w args ∧ laidMetH Tryd.prog Rows.fnChangesRow.laid w) ∧ sizedMet enc Tryd.prog Tryd.f5 (OpenSpec.ofChange Rows.fnChangesSpec) false w args) (Rows.fnChangesSpec.post enc Tryd.prog Tryd.f5 false true false false) := by
  refine returnsInHanded_laid (C := Tryd.checked) (X := fun w _ => laidMetH Tryd.prog Rows.fnChangesRow.laid w) (fun _ _ _ hh h => h.of_heap hh) own started (by kernel_rfl) Tryd.func5
    (ChangeSpec.witness_shaped (enc := enc) (C := Tryd.checked) (os := os) (X := fun w _ => laidMetH Tryd.prog Rows.fnChangesRow.laid w) false (World.laidAll Tryd.prog os Rows.fnChangesRow.laid) #[.slice none 0 0, .slice none 0 0] 8 (World.laidAll_os _ _ _)
      (World.shaped_of_ZipB (by kernel_rfl) (by kernel_rfl)) (by kernel_rfl) (by kernel_rfl) (by kernel_rfl)
      (by rw [MakeChecks.laidMetH_plain _ _ _ (by kernel_rfl)]; exact laidMet_laidAll _ (by kernel_rfl) (by kernel_rfl))) ?_
  intro W base args ds gs before hval0 hW hL hSh
  have hval : ∀ (j : Nat) t v, Tryd.f5.params[j]? = some t → args[j]? = some v → Value.okWide Tryd.prog W .any base t v := hval0
  have hW' := hW
  obtain ⟨p, q, hA0, hV, rfl, hfz, hnd⟩ := hW
  have hA : DataW.TrodAll enc Tryd.prog W 0 (fun _ => true) true Tryd.f5.params.toList args.toList ds p := hA0
  rw [Tryd.params5] at hA hval
  obtain ⟨v0, vs0, d0, ds0, p0, q0, hargs, rfl, rfl, h0, r0⟩ := trodAll_cons hA
  obtain ⟨v1, vs1, d1, ds1, p1, q1, rfl, rfl, rfl, h1, r1⟩ := trodAll_cons r0
  obtain ⟨rfl, rfl, rfl⟩ := trodAll_nil r1
  obtain rfl : args = #[v0, v1] := by cases args; simp_all
  obtain ⟨gv, tv, csv, fuv, dv, pvv, rfl, hgv, htv, hvar, hdv, rfl⟩ := trodVars_one hV
  obtain rfl : gv = 0 := Option.some.inj (hgv.symm.trans (by kernel_rfl))
  obtain rfl : tv = 46 := Option.some.inj (htv.symm.trans (by kernel_rfl))
  have ltv : ∀ x ∈ pvv, x.block < W.heap.size := DataW.trod_lt fuv _ _ _ hdv
  have k0 := h0
  have lt0 : ∀ x ∈ p0, x.block < W.heap.size := by obtain ⟨m, hm⟩ := k0; exact DataW.trod_lt m _ _ _ hm
  obtain ⟨a0, len0, cap0, rfl⟩ := okWide_slice Tryd.underlying32 (hval 0 32 v0 rfl rfl)
  obtain ⟨x0, rfl, hR0, hle0, hmx0, hok0⟩ := Go.Gv.open_row (opens_u8 Tryd.underlying5) Tryd.underlying32 (by kernel_rfl) h0
  have k1 := h1
  have lt1 : ∀ x ∈ p1, x.block < W.heap.size := by obtain ⟨m, hm⟩ := k1; exact DataW.trod_lt m _ _ _ hm
  obtain ⟨a1, len1, cap1, rfl⟩ := okWide_slice Tryd.underlying32 (hval 1 32 v1 rfl rfl)
  obtain ⟨x1, rfl, hR1, hle1, hmx1, hok1⟩ := Go.Gv.open_row (opens_u8 Tryd.underlying5) Tryd.underlying32 (by kernel_rfl) h1
  clear hA0 hval0
  have hL0 : laidMet Tryd.prog Rows.fnChangesRow.laid W := by rw [← MakeChecks.laidMetH_plain _ _ _ (by kernel_rfl)]; exact hL
  have hM : ∃ m, W.cell? ⟨1, 0, none⟩ = some (.int .i64 m) := Go.Proofs.cell_of_shapedOpen_int (zero := #[.int .i64 0]) (t := 3) hSh (of_decide_eq_true (by kernel_rfl)) (by kernel_rfl) rfl (by kernel_rfl) (by kernel_rfl) Tryd.underlying3
  have hP : Lib.TabIs Tryd.prog W "internal/strconv.uint64pow10" .u64 Lib.pow10Tab := Lib.tabIs_of_head (g := 2) (by kernel_rfl) (by kernel_rfl) Tryd.underlying114 Tryd.underlying81 (by kernel_rfl) (by kernel_rfl) hL0.tail.tail
  have hN0_0 : W.var? Tryd.prog "loop.example/g01043/impl.changeNames" = some (v_changeNames.map fun s => Value.string (bs s)).toArray := strs_of_head (g := 0) (by kernel_rfl) (by kernel_rfl) Tryd.underlying46 Tryd.underlying9 (by kernel_rfl) (by kernel_rfl) rfl (hL0.tail.tail.tail.tail.tail)
  have hN_0 := rd_of_var (g := 0) (by kernel_rfl) hN0_0
  obtain ⟨hE1a, _, hE1v, _⟩ := laid_sentinel (g := 3) (hL0.tail.tail.tail.tail) (by kernel_rfl) (by kernel_rfl) Tryd.underlying78 rowErr Tryd.underlying129 Tryd.underlying131 rfl rfl Tryd.underlying9 (by kernel_rfl) (by kernel_rfl)
  have hE1 : W.cell? ⟨3, 0, none⟩ = some (.iface 129 (.pointer (some hE1a))) := by
    have := World.var?_cell (g := 3) (by kernel_rfl) hE1v 0
    simpa using this
  obtain ⟨hE2a, _, hE2v, _⟩ := laid_sentinel (g := 4) (hL0.tail.tail.tail) (by kernel_rfl) (by kernel_rfl) Tryd.underlying78 rowErr Tryd.underlying129 Tryd.underlying131 rfl rfl Tryd.underlying9 (by kernel_rfl) (by kernel_rfl)
  have hE2 : W.cell? ⟨4, 0, none⟩ = some (.iface 129 (.pointer (some hE2a))) := by
    have := World.var?_cell (g := 4) (by kernel_rfl) hE2v 0
    simpa using this
  have hG : GL 4 W := ⟨fun _ => hM, fun _ => hP, fun _ => hN_0, fun _ => ⟨_, _, hE1⟩, fun _ => ⟨_, _, hE2⟩⟩
  have hc := c_5 2000000 x0 a0 cap0 x1 a1 cap1 W (r := true) (law_Changes x0 x1 hmx0 hok0 hmx1 hok1) hG hR0 hle0 hR1 hle1
  refine Calls.mono hc fun e W' ⟨v, he, hv, bel⟩ => ?_
  subst he; subst hv
  obtain ⟨fuv2, hdv2⟩ := Below.trod (v := .agg csv) laidOut (by kernel_rfl : Tryd.prog.readableRec 46 = true) (of_decide_eq_true (by kernel_rfl)) ⟨fuv, hdv⟩ bel ltv
  exact ⟨_, rfl, _, _, _, [], _, _, hW', trodAll_mk1 (shut_bool Tryd.underlying4 _), (trodAll_cons_mk (Below.trod laidOut (by kernel_rfl) (of_decide_eq_true (by kernel_rfl)) k0 bel lt0) (trodAll_cons_mk (Below.trod laidOut (by kernel_rfl) (of_decide_eq_true (by kernel_rfl)) k1 bel lt1) trodAll_mk0)), trodVars_mk1 hgv htv (var_ext hgv hvar bel) hdv2, bel.frame _, fun h => by cases h⟩

theorem fnChanges_holds : Rows.FnChangesSaid :=
  OpenClaim.holds_of_wide 5 Tryd.f5 rfl rfl rfl rfl rfl rfl rfl ⟨rfl, rfl, rfl, rfl, rfl⟩ rfl rfl rfl rfl rfl (by kernel_rfl) Tryd.func5 (by kernel_rfl)
    (of_decide_eq_true (by kernel_rfl)) (by unfold Func.isWrapper; rw [if_neg (of_decide_eq_false (by kernel_rfl))]; exact ⟨rfl, rfl⟩)
    (fun os started H enc _ => liftedFnChanges os started H enc)

/-- The card, as it was given. -/
theorem fnChangesCard_holds : Rows.FnChangesCardSaid :=
  Claim7.holds_tied_plain_at .later [] [.data, .data, .data, .sentinel, .sentinel, .widerDeep] true (true, "2b78fa2a62f1c1eb5828838037fa6ea035327ec3e7aea279af6a9a2595c43ce4") true
    fnChanges_holds (fun _ h => by cases h) (by kernel_rfl) (fun _ h => by cases h) fnChanges_row_tie rfl ⟨rfl, rfl⟩ (by kernel_rfl) rfl
    (fun f fn hf hfn => by
      obtain rfl : f = 5 := Option.some.inj ((show Tryd.prog.funcNamed "loop.example/g01043/laws.FnChanges" = some 5 by kernel_rfl).symm.trans hf) |>.symm
      obtain rfl : fn = Tryd.f5 := (Option.some.inj (Tryd.func5.symm.trans hfn)).symm
      exact ⟨by kernel_rfl, fun j t ht => by
        rw [Tryd.params5] at ht
        have hm : t ∈ [32, 32] := by simpa using Array.mem_of_getElem? ht
        have hall : ([32, 32].all fun u => !Tryd.prog.wantsStandIn u) = true := by kernel_rfl
        exact (show Tryd.prog.wantsStandIn t = false by simpa using List.all_eq_true.1 hall t hm)⟩)
    (by kernel_rfl)

end Go.Proofs.YtlplbjeegkkilaaDoor
