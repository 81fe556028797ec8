/- Each call does what its Lean function says. -/
import Derived.Test.YtlplbjeegkkilaaKFittings1
set_option maxRecDepth 20000
set_option maxHeartbeats 40000000
namespace Go.Proofs.Ytlplbjeegkkilaa
open Go Go.Gv Go.RowKit

theorem c_9 (n : Nat) (code_0 : List Int) (a0' : Option Addr) (c0' : Nat) (more_1 : List Int) (a1' : Option Addr) (c1' : Nat) (w : World) {r : Bool} (hm : m_laws_FnFittings n code_0 more_1 = some r) (h0 : Rd fU8.ty w a0' code_0) (hle0 : code_0.length ≤ c0') (h1 : Rd fU8.ty w a1' more_1) (hle1 : more_1.length ≤ c1') :
    CallV Try.prog 9 #[.slice a0' code_0.length c0', .slice a1' more_1.length c1'] w (fun v w' => v = .bool r ∧ Ext w w') := by
  unfold m_laws_FnFittings at hm
  refine CallV.enter Try.func9 rfl (by kernel_rfl) Try.ntmps9 (env := [(0, .slice a0' code_0.length c0'), (1, .slice a1' more_1.length c1')]) ⟨rfl, rfl, trivial⟩ ?_
  refine WP.seq (fun K1 hK1 => ?_)
  refine WP.region ?_
  refine WL.runk 1 [0, 1] [(0, .slice a0' code_0.length c0'), (1, .slice a1' more_1.length c1')] (by kernel_rfl) ?_
  refine WL.nil ?_
  refine WQ.then_normal (hK1 _ _ _ ?_)
  refine WP.seq (fun K2 hK2 => ?_)
  refine WP.seq (fun K3 hK3 => ?_)
  refine WP.region ?_
  refine WL.runk 2 [0, 1, 25, 26] [(0, .slice a0' code_0.length c0'), (1, .slice a1' more_1.length c1'), (25, .slice a0' code_0.length c0'), (26, .slice a1' more_1.length c1')] (by kernel_rfl) ?_
  obtain ⟨x4, hx5, hm⟩ := bindE hm
  refine WL.call 33 #[.slice a0' code_0.length c0', .slice a1' more_1.length c1'] rfl rfl (by kernel_rfl) (c_33 n code_0 a0' c0' more_1 a1' c1' w hx5 (Rd.below h0 (Ext.refl w)) hle0 (Rd.below h1 (Ext.refl w)) hle1) ?_
  rintro _ w6 ⟨rfl, hE7⟩
  refine ⟨_, rfl, ?_⟩
  have hb9 : Ext w w6 := Ext.trans (Ext.refl w) hE7
  have hL10 : w.heap.size ≤ w6.heap.size := Nat.le_trans (Nat.le_refl _) hE7.size
  have hS11 : SH w6 w.heap.size [] := SH.ext (SH.nil _ _) hE7
  refine WL.sub [(0, .slice a0' code_0.length c0'), (1, .slice a1' more_1.length c1'), (27, .bool x4)] ⟨rfl, rfl, rfl, trivial⟩ ?_
  refine WL.nil ?_
  refine WQ.then_normal (hK3 _ _ _ ?_)
  refine WP.cond x4 rfl rfl (fun hc12 => ?_) (fun hc12 => ?_)
  · have hm := iteT hm hc12
    refine WP.seq (fun K13 hK13 => ?_)
    refine WP.region ?_
    refine WL.runk 1 [4] [(4, .bool true)] (by kernel_rfl) ?_
    refine WL.nil ?_
    refine WQ.then_normal (hK13 _ _ _ ?_)
    refine WP.ret ?_
    refine WQ.then_ret ?_
    obtain rfl := Option.some.inj hm
    exact WQ.ret1 _ rfl rfl ⟨rfl, hb9⟩
  have hm := iteF hm hc12
  refine WP.skip ?_
  refine WQ.then_normal (hK2 _ _ _ ?_)
  refine WP.seq (fun K14 hK14 => ?_)
  refine WP.region ?_
  refine WL.runk 1 [1, 28] [(1, .slice a1' more_1.length c1'), (28, .slice a0' code_0.length c0')] (by kernel_rfl) ?_
  obtain ⟨x15, hx16, hm⟩ := bindE hm
  refine WL.call 34 #[.slice a0' code_0.length c0'] rfl rfl (by kernel_rfl) (c_34 n code_0 a0' c0' w6 hx16 (Rd.below h0 hb9) hle0) ?_
  rintro _ w17 ⟨rfl, hE18⟩
  refine ⟨_, rfl, ?_⟩
  have hb20 : Ext w w17 := Ext.trans hb9 hE18
  have hL21 : w.heap.size ≤ w17.heap.size := Nat.le_trans hL10 hE18.size
  have hS22 : SH w17 w.heap.size [] := SH.ext hS11 hE18
  refine WL.box 42 [.int .i64 0, .int .i64 0] 5 (by kernel_rfl) rfl rfl rfl rfl ?_
  intro b23 w24 hE25 hR26
  have hb28 : Ext w w24 := Ext.trans hb20 hE25
  have hL29 : w.heap.size ≤ w24.heap.size := Nat.le_trans hL21 hE25.size
  have hS30 : SH w24 w.heap.size [aBox 42 b23 [.int .i64 0, .int .i64 0]] := SH.add hS22 hE25 hL21 hR26
  refine WL.boxStore 0 [.int .i64 x15.Kind, .int .i64 x15.Amount] [.int .i64 x15.Kind, .int .i64 x15.Amount] (SH.front 0 hS30) hL29 rfl rfl rfl rfl rfl rfl rfl (info42).1 (info42).2.1 rfl rfl rfl ?_
  intro w31 hB32 hS33
  have hb34 : Ext w w31 := Below.trans hb28 hB32
  have hL35 : w.heap.size ≤ w31.heap.size := Nat.le_trans hL29 hB32.size
  refine WL.sub [(1, .slice a1' more_1.length c1'), (5, .pointer (some ⟨b23, 0, none⟩))] ⟨rfl, rfl, trivial⟩ ?_
  refine WL.nil ?_
  refine WQ.then_normal (hK14 _ _ _ ?_)
  refine WP.seq (fun K36 hK36 => ?_)
  refine WP.region ?_
  refine WL.runk 1 [1, 5, 30] [(1, .slice a1' more_1.length c1'), (5, .pointer (some ⟨b23, 0, none⟩)), (30, .slice a1' more_1.length c1')] (by kernel_rfl) ?_
  obtain ⟨x37, hx38, hm⟩ := bindE hm
  refine WL.call 35 #[.slice a1' more_1.length c1', .int .i64 0, .int .i64 30] rfl rfl (by kernel_rfl) (c_35 n more_1 a1' c1' 0 30 w31 hx38 (Rd.below h1 hb34) hle1) ?_
  rintro _ w39 ⟨rfl, hE40⟩
  refine ⟨_, rfl, ?_⟩
  have hb42 : Ext w w39 := Ext.trans hb34 hE40
  have hL43 : w.heap.size ≤ w39.heap.size := Nat.le_trans hL35 hE40.size
  have hS44 : SH w39 w.heap.size [aBox 42 b23 [.int .i64 x15.Kind, .int .i64 x15.Amount]] := SH.ext hS33 hE40
  refine WL.runk 2 [1, 5, 6] [(1, .slice a1' more_1.length c1'), (5, .pointer (some ⟨b23, 0, none⟩)), (6, .int .i64 (wI64 (1 + x37)))] (by kernel_rfl) ?_
  refine WL.nil ?_
  refine WQ.then_normal (hK36 _ _ _ ?_)
  refine WP.seq (fun K45 hK45 => ?_)
  refine WP.region ?_
  refine WL.st (.agg #[.int .i64 x15.Kind, .int .i64 x15.Amount]) (ST.loadAgg (vs := [.int .i64 x15.Kind, .int .i64 x15.Amount]) (fun j v hv => SH.boxPart (us := [.int .i64 x15.Kind, .int .i64 x15.Amount]) (SH.front 0 hS44) 0 rfl j v hv) rfl rfl rfl Try.underlying42 rfl (info42).1 (info42).2.1) rfl rfl rfl ?_
  refine WL.runk 1 [1, 5, 6, 34, 35] [(1, .slice a1' more_1.length c1'), (5, .pointer (some ⟨b23, 0, none⟩)), (6, .int .i64 (wI64 (1 + x37))), (34, .agg #[.int .i64 x15.Kind, .int .i64 x15.Amount]), (35, .int .i64 (wI64 (1 + x37)))] (by kernel_rfl) ?_
  obtain ⟨x46, hx47, hm⟩ := bindE hm
  refine WL.call 30 #[.agg #[.int .i64 x15.Kind, .int .i64 x15.Amount], .int .i64 (wI64 (1 + x37))] rfl rfl (by kernel_rfl) (c_30 n x15 (wI64 (1 + x37)) w39 hx47 ) ?_
  rintro _ w51 ⟨a48, c49, rfl, hE52, hR53⟩
  refine ⟨_, rfl, ?_⟩
  have hb54 : Ext w w51 := Ext.trans hb42 hE52
  have hL55 : w.heap.size ≤ w51.heap.size := Nat.le_trans hL43 hE52.size
  have hS56 : SH w51 w.heap.size [aOwn fInt 2 a48 c49 x46.1, aBox 42 b23 [.int .i64 x15.Kind, .int .i64 x15.Amount]] := SH.add hS44 hE52 hL43 hR53
  refine WL.runk 5 [1, 5, 6, 7, 8] [(1, .slice a1' more_1.length c1'), (5, .pointer (some ⟨b23, 0, none⟩)), (6, .int .i64 (wI64 (1 + x37))), (7, .slice a48 x46.1.length c49), (8, .int .i64 x46.2)] (by kernel_rfl) ?_
  refine WL.nil ?_
  refine WQ.then_normal (hK45 _ _ _ ?_)
  refine WP.seq (fun K57 hK57 => ?_)
  refine WP.region ?_
  refine WL.runk 3 [1, 5, 6, 7, 8, 9] [(1, .slice a1' more_1.length c1'), (5, .pointer (some ⟨b23, 0, none⟩)), (6, .int .i64 (wI64 (1 + x37))), (7, .slice a48 x46.1.length c49), (8, .int .i64 x46.2), (9, .int .i64 (x46.1.length : Int))] (by kernel_rfl) ?_
  refine WL.nil ?_
  refine WQ.then_normal (hK57 _ _ _ ?_)
  refine WP.seq (fun K58 hK58 => ?_)
  refine WP.seq (fun K59 hK59 => ?_)
  obtain ⟨x91, hx92, hm⟩ := bindE hm
  refine WP.cut (fun env' w' => env' = [(1, .slice a1' more_1.length c1'), (6, .int .i64 (wI64 (1 + x37))), (7, .slice a48 x46.1.length c49), (63, .bool x91)] ∧ Ext w w' ∧ w.heap.size ≤ w'.heap.size ∧ SH w' w.heap.size [aOwn fInt 2 a48 c49 x46.1, aBox 42 b23 [.int .i64 x15.Kind, .int .i64 x15.Amount]]) ?_ ?_
  · have hm := hx92; clear hx92
    refine WP.quiet (by kernel_rfl) (by kernel_rfl) ?_
    refine QL.step1v 41 (.int .i64 x46.2) rfl (fun _ => by kernel_rfl) ?_
    refine QL.step1v 42 (.bool (x46.2 != 0)) rfl (fun _ => by kernel_rfl) ?_
    refine QL.step1v 43 (.bool (x46.2 != 0)) rfl (fun _ => by kernel_rfl) ?_
    refine QL.subk [1, 5, 6, 7, 9, 43] [(1, .slice a1' more_1.length c1'), (5, .pointer (some ⟨b23, 0, none⟩)), (6, .int .i64 (wI64 (1 + x37))), (7, .slice a48 x46.1.length c49), (9, .int .i64 (x46.1.length : Int)), (43, .bool (x46.2 != 0))] (by kernel_rfl) ?_
    refine QL.case (x46.2 != 0) [43] ⟨rfl, trivial⟩ (fun hc93 => ?_) (fun hc93 => ?_)
    · have hm := iteT hm hc93
      refine QL.step1v 44 undef rfl (fun _ => by kernel_rfl) ?_
      refine QL.step1v 45 undef rfl (fun _ => by kernel_rfl) ?_
      refine QL.step1v 46 undef rfl (fun _ => by kernel_rfl) ?_
      refine QL.step1v 47 undef rfl (fun _ => by kernel_rfl) ?_
      refine QL.step1v 48 undef rfl (fun _ => by kernel_rfl) ?_
      refine QL.step1v 49 (.bool true) rfl (fun _ => by kernel_rfl) ?_
      refine QL.step1v 50 (.bool true) rfl (fun _ => by kernel_rfl) ?_
      refine QL.step1v 51 undef rfl (fun _ => by kernel_rfl) ?_
      refine QL.step1v 52 undef rfl (fun _ => by kernel_rfl) ?_
      refine QL.step1v 53 (.bool true) rfl (fun _ => by kernel_rfl) ?_
      refine QL.step1v 54 (.bool true) rfl (fun _ => by kernel_rfl) ?_
      refine QL.step1v 55 undef rfl (fun _ => by kernel_rfl) ?_
      refine QL.step1v 56 undef rfl (fun _ => by kernel_rfl) ?_
      refine QL.step1v 57 undef rfl (fun _ => by kernel_rfl) ?_
      refine QL.step1v 58 undef rfl (fun _ => by kernel_rfl) ?_
      refine QL.step1v 59 undef rfl (fun _ => by kernel_rfl) ?_
      refine QL.step1v 60 undef rfl (fun _ => by kernel_rfl) ?_
      refine QL.step1v 61 undef rfl (fun _ => by kernel_rfl) ?_
      refine QL.step1v 62 undef rfl (fun _ => by kernel_rfl) ?_
      refine QL.step1v 63 (.bool true) rfl (fun _ => by kernel_rfl) ?_
      refine QL.subk [1, 6, 7, 63] [(1, .slice a1' more_1.length c1'), (6, .int .i64 (wI64 (1 + x37))), (7, .slice a48 x46.1.length c49), (63, .bool true)] (by kernel_rfl) ?_
      refine QL.nil ?_
      intro w94 hE95
      have hb96 : Ext w w94 := Ext.trans hb54 hE95
      have hL97 : w.heap.size ≤ w94.heap.size := Nat.le_trans hL55 hE95.size
      have hS98 : SH w94 w.heap.size [aOwn fInt 2 a48 c49 x46.1, aBox 42 b23 [.int .i64 x15.Kind, .int .i64 x15.Amount]] := SH.ext hS56 hE95
      obtain rfl := Option.some.inj hm
      exact WQ.post' ⟨rfl, hb96, hL97, hS98⟩ ⟨rfl, rfl, rfl, rfl, trivial⟩
    have hm := iteF hm hc93
    refine QL.step1v 44 (.slice a48 x46.1.length c49) rfl (fun _ => by kernel_rfl) ?_
    refine QL.subk [1, 5, 6, 7, 9, 43, 44] [(1, .slice a1' more_1.length c1'), (5, .pointer (some ⟨b23, 0, none⟩)), (6, .int .i64 (wI64 (1 + x37))), (7, .slice a48 x46.1.length c49), (9, .int .i64 (x46.1.length : Int)), (43, .bool false), (44, .slice a48 x46.1.length c49)] (by kernel_rfl) ?_
    obtain ⟨x99, hx100, hm⟩ := bindE hm
    refine QL.call 36 #[.slice a48 x46.1.length c49] (.int .i64 x99) (fun _ => by kernel_rfl) (fun w101 hE102 => c_36 n x46.1 a48 c49 w101 hx100 (Rd.below (SH.rd (SH.front 0 hS56)) hE102) (SH.le (SH.front 0 hS56)).1) rfl rfl rfl ?_
    refine QL.step1v 46 (.pointer (some ⟨b23, 1, none⟩)) rfl (fun _ => by kernel_rfl) ?_
    refine QL.subk [1, 5, 6, 7, 9, 43, 45, 46] [(1, .slice a1' more_1.length c1'), (5, .pointer (some ⟨b23, 0, none⟩)), (6, .int .i64 (wI64 (1 + x37))), (7, .slice a48 x46.1.length c49), (9, .int .i64 (x46.1.length : Int)), (43, .bool false), (45, .int .i64 x99), (46, .pointer (some ⟨b23, 1, none⟩))] (by kernel_rfl) ?_
    refine QL.st (.int .i64 x15.Amount) (ST.load (cell_ext (SH.boxAt (SH.front 1 hS56) 1 _ rfl)) rfl rfl Try.underlying2 rfl) rfl rfl rfl ?_
    refine QL.step1v 48 (.bool (x99 != x15.Amount)) rfl (fun _ => by kernel_rfl) ?_
    refine QL.step1v 49 (.bool (x99 != x15.Amount)) rfl (fun _ => by kernel_rfl) ?_
    refine QL.step1v 50 (.bool (x99 != x15.Amount)) rfl (fun _ => by kernel_rfl) ?_
    refine QL.subk [1, 5, 6, 7, 9, 50] [(1, .slice a1' more_1.length c1'), (5, .pointer (some ⟨b23, 0, none⟩)), (6, .int .i64 (wI64 (1 + x37))), (7, .slice a48 x46.1.length c49), (9, .int .i64 (x46.1.length : Int)), (50, .bool (x99 != x15.Amount))] (by kernel_rfl) ?_
    refine QL.case (x99 != x15.Amount) [50] ⟨rfl, trivial⟩ (fun hc103 => ?_) (fun hc103 => ?_)
    · have hm := iteT hm hc103
      refine QL.step1v 51 undef rfl (fun _ => by kernel_rfl) ?_
      refine QL.step1v 52 undef rfl (fun _ => by kernel_rfl) ?_
      refine QL.step1v 53 (.bool true) rfl (fun _ => by kernel_rfl) ?_
      refine QL.step1v 54 (.bool true) rfl (fun _ => by kernel_rfl) ?_
      refine QL.step1v 55 undef rfl (fun _ => by kernel_rfl) ?_
      refine QL.step1v 56 undef rfl (fun _ => by kernel_rfl) ?_
      refine QL.step1v 57 undef rfl (fun _ => by kernel_rfl) ?_
      refine QL.step1v 58 undef rfl (fun _ => by kernel_rfl) ?_
      refine QL.step1v 59 undef rfl (fun _ => by kernel_rfl) ?_
      refine QL.step1v 60 undef rfl (fun _ => by kernel_rfl) ?_
      refine QL.step1v 61 undef rfl (fun _ => by kernel_rfl) ?_
      refine QL.step1v 62 undef rfl (fun _ => by kernel_rfl) ?_
      refine QL.step1v 63 (.bool true) rfl (fun _ => by kernel_rfl) ?_
      refine QL.subk [1, 6, 7, 63] [(1, .slice a1' more_1.length c1'), (6, .int .i64 (wI64 (1 + x37))), (7, .slice a48 x46.1.length c49), (63, .bool true)] (by kernel_rfl) ?_
      refine QL.nil ?_
      intro w104 hE105
      have hb106 : Ext w w104 := Ext.trans hb54 hE105
      have hL107 : w.heap.size ≤ w104.heap.size := Nat.le_trans hL55 hE105.size
      have hS108 : SH w104 w.heap.size [aOwn fInt 2 a48 c49 x46.1, aBox 42 b23 [.int .i64 x15.Kind, .int .i64 x15.Amount]] := SH.ext hS56 hE105
      obtain rfl := Option.some.inj hm
      exact WQ.post' ⟨rfl, hb106, hL107, hS108⟩ ⟨rfl, rfl, rfl, rfl, trivial⟩
    have hm := iteF hm hc103
    refine QL.step1v 51 (.int .i64 (x46.1.length : Int)) rfl (fun _ => by kernel_rfl) ?_
    refine QL.step1v 52 (.bool (decide ((x46.1.length : Int) < 1))) rfl (fun _ => by kernel_rfl) ?_
    refine QL.step1v 53 (.bool (decide ((x46.1.length : Int) < 1))) rfl (fun _ => by kernel_rfl) ?_
    refine QL.step1v 54 (.bool (decide ((x46.1.length : Int) < 1))) rfl (fun _ => by kernel_rfl) ?_
    refine QL.subk [1, 5, 6, 7, 9, 54] [(1, .slice a1' more_1.length c1'), (5, .pointer (some ⟨b23, 0, none⟩)), (6, .int .i64 (wI64 (1 + x37))), (7, .slice a48 x46.1.length c49), (9, .int .i64 (x46.1.length : Int)), (54, .bool (decide ((x46.1.length : Int) < 1)))] (by kernel_rfl) ?_
    refine QL.case (decide ((x46.1.length : Int) < 1)) [54] ⟨rfl, trivial⟩ (fun hc109 => ?_) (fun hc109 => ?_)
    · have hm := iteT hm hc109
      refine QL.step1v 55 undef rfl (fun _ => by kernel_rfl) ?_
      refine QL.step1v 56 undef rfl (fun _ => by kernel_rfl) ?_
      refine QL.step1v 57 undef rfl (fun _ => by kernel_rfl) ?_
      refine QL.step1v 58 undef rfl (fun _ => by kernel_rfl) ?_
      refine QL.step1v 59 undef rfl (fun _ => by kernel_rfl) ?_
      refine QL.step1v 60 undef rfl (fun _ => by kernel_rfl) ?_
      refine QL.step1v 61 undef rfl (fun _ => by kernel_rfl) ?_
      refine QL.step1v 62 undef rfl (fun _ => by kernel_rfl) ?_
      refine QL.step1v 63 (.bool true) rfl (fun _ => by kernel_rfl) ?_
      refine QL.subk [1, 6, 7, 63] [(1, .slice a1' more_1.length c1'), (6, .int .i64 (wI64 (1 + x37))), (7, .slice a48 x46.1.length c49), (63, .bool true)] (by kernel_rfl) ?_
      refine QL.nil ?_
      intro w110 hE111
      have hb112 : Ext w w110 := Ext.trans hb54 hE111
      have hL113 : w.heap.size ≤ w110.heap.size := Nat.le_trans hL55 hE111.size
      have hS114 : SH w110 w.heap.size [aOwn fInt 2 a48 c49 x46.1, aBox 42 b23 [.int .i64 x15.Kind, .int .i64 x15.Amount]] := SH.ext hS56 hE111
      obtain rfl := Option.some.inj hm
      exact WQ.post' ⟨rfl, hb112, hL113, hS114⟩ ⟨rfl, rfl, rfl, rfl, trivial⟩
    have hm := iteF hm hc109
    refine QL.step1v 55 (.int .i64 (x46.1.length : Int)) rfl (fun _ => by kernel_rfl) ?_
    refine QL.step1v 56 (.int .i64 (wI64 ((x46.1.length : Int) - 1))) rfl (fun _ => by kernel_rfl) ?_
    refine QL.step1v 57 (.int .i64 (wI64 (1 + x37))) rfl (fun _ => by kernel_rfl) ?_
    refine QL.step1v 58 (.int .i64 (wI64 ((wI64 ((x46.1.length : Int) - 1)) * (wI64 (1 + x37))))) rfl (fun _ => by kernel_rfl) ?_
    refine QL.step1v 59 (.pointer (some ⟨b23, 1, none⟩)) rfl (fun _ => by kernel_rfl) ?_
    refine QL.subk [1, 6, 7, 54, 58, 59] [(1, .slice a1' more_1.length c1'), (6, .int .i64 (wI64 (1 + x37))), (7, .slice a48 x46.1.length c49), (54, .bool false), (58, .int .i64 (wI64 ((wI64 ((x46.1.length : Int) - 1)) * (wI64 (1 + x37))))), (59, .pointer (some ⟨b23, 1, none⟩))] (by kernel_rfl) ?_
    refine QL.st (.int .i64 x15.Amount) (ST.load (cell_ext (SH.boxAt (SH.front 1 hS56) 1 _ rfl)) rfl rfl Try.underlying2 rfl) rfl rfl rfl ?_
    obtain ⟨x115, hx116, hm⟩ := bindE hm
    refine QL.call 37 #[.int .i64 x15.Amount] (.int .i64 x115) (fun _ => by kernel_rfl) (fun w117 hE118 => c_37 n x15.Amount w117 hx116 ) rfl rfl rfl ?_
    refine QL.step1v 62 (.bool (decide ((wI64 ((wI64 ((x46.1.length : Int) - 1)) * (wI64 (1 + x37)))) ≥ x115))) rfl (fun _ => by kernel_rfl) ?_
    refine QL.step1v 63 (.bool (decide ((wI64 ((wI64 ((x46.1.length : Int) - 1)) * (wI64 (1 + x37)))) ≥ x115))) rfl (fun _ => by kernel_rfl) ?_
    refine QL.subk [1, 6, 7, 63] [(1, .slice a1' more_1.length c1'), (6, .int .i64 (wI64 (1 + x37))), (7, .slice a48 x46.1.length c49), (63, .bool (decide ((wI64 ((wI64 ((x46.1.length : Int) - 1)) * (wI64 (1 + x37)))) ≥ x115)))] (by kernel_rfl) ?_
    refine QL.nil ?_
    intro w119 hE120
    have hb121 : Ext w w119 := Ext.trans hb54 hE120
    have hL122 : w.heap.size ≤ w119.heap.size := Nat.le_trans hL55 hE120.size
    have hS123 : SH w119 w.heap.size [aOwn fInt 2 a48 c49 x46.1, aBox 42 b23 [.int .i64 x15.Kind, .int .i64 x15.Amount]] := SH.ext hS56 hE120
    obtain rfl := Option.some.inj hm
    exact WQ.post' ⟨rfl, hb121, hL122, hS123⟩ ⟨rfl, rfl, rfl, rfl, trivial⟩
  clear hx92
  rintro _ w124 ⟨rfl, hb125, hL126, hS127⟩
  refine WQ.then_normal (hK59 _ _ _ ?_)
  refine WP.cond x91 rfl rfl (fun hc128 => ?_) (fun hc128 => ?_)
  · have hm := iteT hm hc128
    refine WP.seq (fun K129 hK129 => ?_)
    refine WP.region ?_
    refine WL.runk 1 [4] [(4, .bool false)] (by kernel_rfl) ?_
    refine WL.nil ?_
    refine WQ.then_normal (hK129 _ _ _ ?_)
    refine WP.ret ?_
    refine WQ.then_ret ?_
    obtain rfl := Option.some.inj hm
    exact WQ.ret1 _ rfl rfl ⟨rfl, hb125⟩
  have hm := iteF hm hc128
  refine WP.skip ?_
  refine WQ.then_normal (hK58 _ _ _ ?_)
  refine WP.seq (fun K130 hK130 => ?_)
  refine WP.seq (fun K131 hK131 => ?_)
  refine WP.region ?_
  refine WL.runk 1 [1, 6, 7, 10] [(1, .slice a1' more_1.length c1'), (6, .int .i64 (wI64 (1 + x37))), (7, .slice a48 x46.1.length c49), (10, .int .i64 0)] (by kernel_rfl) ?_
  refine WL.nil ?_
  refine WQ.then_normal (hK131 _ _ _ ?_)
  refine WP.block ?_
  obtain ⟨t143, ht144, hm⟩ := bindE hm
  have hmo138 := hm; clear hm
  refine WP.sub [(1, .slice a1' more_1.length c1'), (6, .int .i64 (wI64 (1 + x37))), (7, .slice a48 x46.1.length c49), (10, .int .i64 0)] ⟨rfl, rfl, rfl, rfl, trivial⟩ ?_
  refine WP.loop (fun n' env' w' => ∃ (st132 : Int) , env' = [(1, .slice a1' more_1.length c1'), (6, .int .i64 (wI64 (1 + x37))), (7, .slice a48 x46.1.length c49), (10, .int .i64 st132)] ∧ Ext w w' ∧ w.heap.size ≤ w'.heap.size ∧ SH w' w.heap.size [aOwn fInt 2 a48 c49 x46.1, aBox 42 b23 [.int .i64 x15.Kind, .int .i64 x15.Amount]] ∧ loopN (m_laws_FnFittings_l1 n x37 x46) n' st132 = some t143) n ⟨0, rfl, hb125, hL126, hS127, ht144⟩ ?_
  rintro n140 _ w133 ⟨st132, rfl, hb134, hL135, hS136, hl137⟩ K139 hK139
  obtain ⟨n141, s142, rfl, hm, hl137⟩ := loopN_some hl137
  unfold m_laws_FnFittings_l1 at hm
  refine WP.seq (fun K145 hK145 => ?_)
  refine WP.seq (fun K146 hK146 => ?_)
  refine WP.region ?_
  refine WL.runk 4 [1, 6, 7, 10, 67] [(1, .slice a1' more_1.length c1'), (6, .int .i64 (wI64 (1 + x37))), (7, .slice a48 x46.1.length c49), (10, .int .i64 st132), (67, .bool (decide (st132 < (x46.1.length : Int))))] (by kernel_rfl) ?_
  refine WL.nil ?_
  refine WQ.then_normal (hK146 _ _ _ ?_)
  refine WP.cond (decide (st132 < (x46.1.length : Int))) rfl rfl (fun hc147 => ?_) (fun hc147 => ?_)
  · have hm := iteT hm hc147
    refine WP.skip ?_
    refine WQ.then_normal (hK145 _ _ _ ?_)
    refine WP.seq (fun K148 hK148 => ?_)
    refine WP.block ?_
    refine WP.seq (fun K149 hK149 => ?_)
    obtain ⟨x205, hx206, hm⟩ := bindE hm
    refine WP.cut (fun env' w' => env' = [(1, .slice a1' more_1.length c1'), (6, .int .i64 (wI64 (1 + x37))), (7, .slice a48 x46.1.length c49), (10, .int .i64 st132), (108, .bool x205)] ∧ Ext w w' ∧ w.heap.size ≤ w'.heap.size ∧ SH w' w.heap.size [aOwn fInt 2 a48 c49 x46.1, aBox 42 b23 [.int .i64 x15.Kind, .int .i64 x15.Amount]]) ?_ ?_
    rotate_left
    · clear hx206
      rintro _ w262 ⟨rfl, hb263, hL264, hS265⟩
      refine WQ.then_normal (hK149 _ _ _ ?_)
      refine WP.cond x205 rfl rfl (fun hc266 => ?_) (fun hc266 => ?_)
      rotate_left
      · have hm := iteF hm hc266
        refine WP.skip ?_
        refine WQ.block_normal ?_
        refine WQ.then_normal (hK148 _ _ _ ?_)
        refine WP.region ?_
        refine WL.runk 3 [1, 6, 7, 10] [(1, .slice a1' more_1.length c1'), (6, .int .i64 (wI64 (1 + x37))), (7, .slice a48 x46.1.length c49), (10, .int .i64 (wI64 (st132 + 1)))] (by kernel_rfl) ?_
        refine WL.nil ?_
        obtain rfl := Option.some.inj hm
        exact WQ.round hK139 ⟨(wI64 (st132 + 1)), rfl, hb263, hL264, hS265, hl137⟩ (Nat.lt_succ_self _) ⟨rfl, rfl, rfl, rfl, trivial⟩
      have hm := iteT hm hc266
      refine WP.seq (fun K267 hK267 => ?_)
      refine WP.region ?_
      refine WL.runk 1 [4] [(4, .bool false)] (by kernel_rfl) ?_
      refine WL.nil ?_
      refine WQ.then_normal (hK267 _ _ _ ?_)
      refine WP.ret ?_
      refine WQ.block_ret ?_
      refine WQ.then_ret ?_
      refine WQ.then_ret ?_
      refine WQ.block_ret ?_
      refine WQ.then_ret ?_
      obtain rfl := Option.some.inj hm
      obtain rfl := afterN_done hl137
      have hm := hmo138
      obtain rfl := Option.some.inj hm
      exact WQ.ret1 _ rfl rfl ⟨rfl, hb263⟩
    have hm := hx206; clear hx206
    refine WP.quiet (by kernel_rfl) (by kernel_rfl) ?_
    refine QL.step1v 70 (.slice a48 x46.1.length c49) rfl (fun _ => by kernel_rfl) ?_
    refine QL.step1v 71 (.int .i64 st132) rfl (fun _ => by kernel_rfl) ?_
    refine QL.subk [1, 6, 7, 10, 70, 71] [(1, .slice a1' more_1.length c1'), (6, .int .i64 (wI64 (1 + x37))), (7, .slice a48 x46.1.length c49), (10, .int .i64 st132), (70, .slice a48 x46.1.length c49), (71, .int .i64 st132)] (by kernel_rfl) ?_
    obtain ⟨x207, hx208, hm⟩ := bindE hm
    refine QL.st (.pointer (some (at_ a48 (Int.toNat st132 * 1)))) (ST.index (T := fInt.ty) (xs := x46.1) (SH.rd (SH.front 0 hS136)) hx208 rfl rfl rfl Try.underlying31 (info2).1 (info2).2.1) rfl rfl rfl ?_
    refine QL.st (.int .i64 x207) (ST.load (cell_ext (Rd.flat (F := fInt) (SH.rd (SH.front 0 hS136)) hx208 0 rfl)) rfl rfl Try.underlying2 rfl) rfl rfl rfl ?_
    obtain ⟨x209, hx210, hm⟩ := bindE hm
    refine QL.call 37 #[.int .i64 x207] (.int .i64 x209) (fun _ => by kernel_rfl) (fun w211 hE212 => c_37 n x207 w211 hx210 ) rfl rfl rfl ?_
    refine QL.step1v 75 (.int .i64 (wI64 (1 + x37))) rfl (fun _ => by kernel_rfl) ?_
    refine QL.step1v 76 (.bool (decide (x209 > (wI64 (1 + x37))))) rfl (fun _ => by kernel_rfl) ?_
    refine QL.step1v 77 (.bool (decide (x209 > (wI64 (1 + x37))))) rfl (fun _ => by kernel_rfl) ?_
    refine QL.subk [1, 6, 7, 10, 77] [(1, .slice a1' more_1.length c1'), (6, .int .i64 (wI64 (1 + x37))), (7, .slice a48 x46.1.length c49), (10, .int .i64 st132), (77, .bool (decide (x209 > (wI64 (1 + x37)))))] (by kernel_rfl) ?_
    refine QL.case (decide (x209 > (wI64 (1 + x37)))) [77] ⟨rfl, trivial⟩ (fun hc213 => ?_) (fun hc213 => ?_)
    · have hm := iteT hm hc213
      refine QL.step1v 78 undef rfl (fun _ => by kernel_rfl) ?_
      refine QL.step1v 79 undef rfl (fun _ => by kernel_rfl) ?_
      refine QL.step1v 80 undef rfl (fun _ => by kernel_rfl) ?_
      refine QL.step1v 81 undef rfl (fun _ => by kernel_rfl) ?_
      refine QL.step1v 82 undef rfl (fun _ => by kernel_rfl) ?_
      refine QL.step1v 83 (.bool true) rfl (fun _ => by kernel_rfl) ?_
      refine QL.step1v 84 (.bool true) rfl (fun _ => by kernel_rfl) ?_
      refine QL.step1v 85 undef rfl (fun _ => by kernel_rfl) ?_
      refine QL.step1v 86 undef rfl (fun _ => by kernel_rfl) ?_
      refine QL.step1v 87 undef rfl (fun _ => by kernel_rfl) ?_
      refine QL.step1v 88 undef rfl (fun _ => by kernel_rfl) ?_
      refine QL.step1v 89 undef rfl (fun _ => by kernel_rfl) ?_
      refine QL.step1v 90 undef rfl (fun _ => by kernel_rfl) ?_
      refine QL.step1v 91 undef rfl (fun _ => by kernel_rfl) ?_
      refine QL.step1v 92 undef rfl (fun _ => by kernel_rfl) ?_
      refine QL.step1v 93 undef rfl (fun _ => by kernel_rfl) ?_
      refine QL.step1v 94 undef rfl (fun _ => by kernel_rfl) ?_
      refine QL.step1v 95 undef rfl (fun _ => by kernel_rfl) ?_
      refine QL.step1v 96 (.bool true) rfl (fun _ => by kernel_rfl) ?_
      refine QL.step1v 97 (.bool true) rfl (fun _ => by kernel_rfl) ?_
      refine QL.step1v 98 undef rfl (fun _ => by kernel_rfl) ?_
      refine QL.step1v 99 undef rfl (fun _ => by kernel_rfl) ?_
      refine QL.step1v 100 undef rfl (fun _ => by kernel_rfl) ?_
      refine QL.step1v 101 undef rfl (fun _ => by kernel_rfl) ?_
      refine QL.step1v 102 undef rfl (fun _ => by kernel_rfl) ?_
      refine QL.step1v 103 undef rfl (fun _ => by kernel_rfl) ?_
      refine QL.step1v 104 undef rfl (fun _ => by kernel_rfl) ?_
      refine QL.step1v 105 undef rfl (fun _ => by kernel_rfl) ?_
      refine QL.step1v 106 undef rfl (fun _ => by kernel_rfl) ?_
      refine QL.step1v 107 undef rfl (fun _ => by kernel_rfl) ?_
      refine QL.step1v 108 (.bool true) rfl (fun _ => by kernel_rfl) ?_
      refine QL.subk [1, 6, 7, 10, 108] [(1, .slice a1' more_1.length c1'), (6, .int .i64 (wI64 (1 + x37))), (7, .slice a48 x46.1.length c49), (10, .int .i64 st132), (108, .bool true)] (by kernel_rfl) ?_
      refine QL.nil ?_
      intro w214 hE215
      have hb216 : Ext w w214 := Ext.trans hb134 hE215
      have hL217 : w.heap.size ≤ w214.heap.size := Nat.le_trans hL135 hE215.size
      have hS218 : SH w214 w.heap.size [aOwn fInt 2 a48 c49 x46.1, aBox 42 b23 [.int .i64 x15.Kind, .int .i64 x15.Amount]] := SH.ext hS136 hE215
      obtain rfl := Option.some.inj hm
      exact WQ.post' ⟨rfl, hb216, hL217, hS218⟩ ⟨rfl, rfl, rfl, rfl, rfl, trivial⟩
    have hm := iteF hm hc213
    refine QL.step1v 78 (.slice a48 x46.1.length c49) rfl (fun _ => by kernel_rfl) ?_
    refine QL.step1v 79 (.int .i64 st132) rfl (fun _ => by kernel_rfl) ?_
    refine QL.subk [1, 6, 7, 10, 77, 78, 79] [(1, .slice a1' more_1.length c1'), (6, .int .i64 (wI64 (1 + x37))), (7, .slice a48 x46.1.length c49), (10, .int .i64 st132), (77, .bool false), (78, .slice a48 x46.1.length c49), (79, .int .i64 st132)] (by kernel_rfl) ?_
    obtain ⟨x219, hx220, hm⟩ := bindE hm
    refine QL.st (.pointer (some (at_ a48 (Int.toNat st132 * 1)))) (ST.index (T := fInt.ty) (xs := x46.1) (SH.rd (SH.front 0 hS136)) hx220 rfl rfl rfl Try.underlying31 (info2).1 (info2).2.1) rfl rfl rfl ?_
    refine QL.st (.int .i64 x219) (ST.load (cell_ext (Rd.flat (F := fInt) (SH.rd (SH.front 0 hS136)) hx220 0 rfl)) rfl rfl Try.underlying2 rfl) rfl rfl rfl ?_
    refine QL.step1v 82 (.bool (x219 == 0)) rfl (fun _ => by kernel_rfl) ?_
    refine QL.step1v 83 (.bool (x219 == 0)) rfl (fun _ => by kernel_rfl) ?_
    refine QL.step1v 84 (.bool (x219 == 0)) rfl (fun _ => by kernel_rfl) ?_
    refine QL.subk [1, 6, 7, 10, 84] [(1, .slice a1' more_1.length c1'), (6, .int .i64 (wI64 (1 + x37))), (7, .slice a48 x46.1.length c49), (10, .int .i64 st132), (84, .bool (x219 == 0))] (by kernel_rfl) ?_
    refine QL.case (x219 == 0) [84] ⟨rfl, trivial⟩ (fun hc221 => ?_) (fun hc221 => ?_)
    · have hm := iteT hm hc221
      refine QL.step1v 85 undef rfl (fun _ => by kernel_rfl) ?_
      refine QL.step1v 86 undef rfl (fun _ => by kernel_rfl) ?_
      refine QL.step1v 87 undef rfl (fun _ => by kernel_rfl) ?_
      refine QL.step1v 88 undef rfl (fun _ => by kernel_rfl) ?_
      refine QL.step1v 89 undef rfl (fun _ => by kernel_rfl) ?_
      refine QL.step1v 90 undef rfl (fun _ => by kernel_rfl) ?_
      refine QL.step1v 91 undef rfl (fun _ => by kernel_rfl) ?_
      refine QL.step1v 92 undef rfl (fun _ => by kernel_rfl) ?_
      refine QL.step1v 93 undef rfl (fun _ => by kernel_rfl) ?_
      refine QL.step1v 94 undef rfl (fun _ => by kernel_rfl) ?_
      refine QL.step1v 95 undef rfl (fun _ => by kernel_rfl) ?_
      refine QL.step1v 96 (.bool true) rfl (fun _ => by kernel_rfl) ?_
      refine QL.step1v 97 (.bool true) rfl (fun _ => by kernel_rfl) ?_
      refine QL.step1v 98 undef rfl (fun _ => by kernel_rfl) ?_
      refine QL.step1v 99 undef rfl (fun _ => by kernel_rfl) ?_
      refine QL.step1v 100 undef rfl (fun _ => by kernel_rfl) ?_
      refine QL.step1v 101 undef rfl (fun _ => by kernel_rfl) ?_
      refine QL.step1v 102 undef rfl (fun _ => by kernel_rfl) ?_
      refine QL.step1v 103 undef rfl (fun _ => by kernel_rfl) ?_
      refine QL.step1v 104 undef rfl (fun _ => by kernel_rfl) ?_
      refine QL.step1v 105 undef rfl (fun _ => by kernel_rfl) ?_
      refine QL.step1v 106 undef rfl (fun _ => by kernel_rfl) ?_
      refine QL.step1v 107 undef rfl (fun _ => by kernel_rfl) ?_
      refine QL.step1v 108 (.bool true) rfl (fun _ => by kernel_rfl) ?_
      refine QL.subk [1, 6, 7, 10, 108] [(1, .slice a1' more_1.length c1'), (6, .int .i64 (wI64 (1 + x37))), (7, .slice a48 x46.1.length c49), (10, .int .i64 st132), (108, .bool true)] (by kernel_rfl) ?_
      refine QL.nil ?_
      intro w222 hE223
      have hb224 : Ext w w222 := Ext.trans hb134 hE223
      have hL225 : w.heap.size ≤ w222.heap.size := Nat.le_trans hL135 hE223.size
      have hS226 : SH w222 w.heap.size [aOwn fInt 2 a48 c49 x46.1, aBox 42 b23 [.int .i64 x15.Kind, .int .i64 x15.Amount]] := SH.ext hS136 hE223
      obtain rfl := Option.some.inj hm
      exact WQ.post' ⟨rfl, hb224, hL225, hS226⟩ ⟨rfl, rfl, rfl, rfl, rfl, trivial⟩
    have hm := iteF hm hc221
    refine QL.step1v 85 (.slice a48 x46.1.length c49) rfl (fun _ => by kernel_rfl) ?_
    refine QL.subk [1, 6, 7, 10, 84, 85] [(1, .slice a1' more_1.length c1'), (6, .int .i64 (wI64 (1 + x37))), (7, .slice a48 x46.1.length c49), (10, .int .i64 st132), (84, .bool false), (85, .slice a48 x46.1.length c49)] (by kernel_rfl) ?_
    obtain ⟨x227, hx228, hm⟩ := bindE hm
    refine QL.st (.pointer (some (at_ a48 (Int.toNat 0 * 1)))) (ST.index (T := fInt.ty) (xs := x46.1) (SH.rd (SH.front 0 hS136)) hx228 rfl rfl rfl Try.underlying31 (info2).1 (info2).2.1) rfl rfl rfl ?_
    refine QL.st (.int .i64 x227) (ST.load (cell_ext (Rd.flat (F := fInt) (SH.rd (SH.front 0 hS136)) hx228 0 rfl)) rfl rfl Try.underlying2 rfl) rfl rfl rfl ?_
    obtain ⟨x229, hx230, hm⟩ := bindE hm
    refine QL.call 37 #[.int .i64 x227] (.int .i64 x229) (fun _ => by kernel_rfl) (fun w231 hE232 => c_37 n x227 w231 hx230 ) rfl rfl rfl ?_
    refine QL.step1v 89 (.slice a48 x46.1.length c49) rfl (fun _ => by kernel_rfl) ?_
    refine QL.step1v 90 (.int .i64 st132) rfl (fun _ => by kernel_rfl) ?_
    refine QL.subk [1, 6, 7, 10, 84, 88, 89, 90] [(1, .slice a1' more_1.length c1'), (6, .int .i64 (wI64 (1 + x37))), (7, .slice a48 x46.1.length c49), (10, .int .i64 st132), (84, .bool false), (88, .int .i64 x229), (89, .slice a48 x46.1.length c49), (90, .int .i64 st132)] (by kernel_rfl) ?_
    obtain ⟨x233, hx234, hm⟩ := bindE hm
    refine QL.st (.pointer (some (at_ a48 (Int.toNat st132 * 1)))) (ST.index (T := fInt.ty) (xs := x46.1) (SH.rd (SH.front 0 hS136)) hx234 rfl rfl rfl Try.underlying31 (info2).1 (info2).2.1) rfl rfl rfl ?_
    refine QL.st (.int .i64 x233) (ST.load (cell_ext (Rd.flat (F := fInt) (SH.rd (SH.front 0 hS136)) hx234 0 rfl)) rfl rfl Try.underlying2 rfl) rfl rfl rfl ?_
    obtain ⟨x235, hx236, hm⟩ := bindE hm
    refine QL.call 37 #[.int .i64 x233] (.int .i64 x235) (fun _ => by kernel_rfl) (fun w237 hE238 => c_37 n x233 w237 hx236 ) rfl rfl rfl ?_
    refine QL.step1v 94 (.int .i64 (wI64 (x229 - x235))) rfl (fun _ => by kernel_rfl) ?_
    refine QL.step1v 95 (.bool (decide ((wI64 (x229 - x235)) > 1))) rfl (fun _ => by kernel_rfl) ?_
    refine QL.step1v 96 (.bool (decide ((wI64 (x229 - x235)) > 1))) rfl (fun _ => by kernel_rfl) ?_
    refine QL.step1v 97 (.bool (decide ((wI64 (x229 - x235)) > 1))) rfl (fun _ => by kernel_rfl) ?_
    refine QL.subk [1, 6, 7, 10, 97] [(1, .slice a1' more_1.length c1'), (6, .int .i64 (wI64 (1 + x37))), (7, .slice a48 x46.1.length c49), (10, .int .i64 st132), (97, .bool (decide ((wI64 (x229 - x235)) > 1)))] (by kernel_rfl) ?_
    refine QL.case (decide ((wI64 (x229 - x235)) > 1)) [97] ⟨rfl, trivial⟩ (fun hc239 => ?_) (fun hc239 => ?_)
    · have hm := iteT hm hc239
      refine QL.step1v 98 undef rfl (fun _ => by kernel_rfl) ?_
      refine QL.step1v 99 undef rfl (fun _ => by kernel_rfl) ?_
      refine QL.step1v 100 undef rfl (fun _ => by kernel_rfl) ?_
      refine QL.step1v 101 undef rfl (fun _ => by kernel_rfl) ?_
      refine QL.step1v 102 undef rfl (fun _ => by kernel_rfl) ?_
      refine QL.step1v 103 undef rfl (fun _ => by kernel_rfl) ?_
      refine QL.step1v 104 undef rfl (fun _ => by kernel_rfl) ?_
      refine QL.step1v 105 undef rfl (fun _ => by kernel_rfl) ?_
      refine QL.step1v 106 undef rfl (fun _ => by kernel_rfl) ?_
      refine QL.step1v 107 undef rfl (fun _ => by kernel_rfl) ?_
      refine QL.step1v 108 (.bool true) rfl (fun _ => by kernel_rfl) ?_
      refine QL.subk [1, 6, 7, 10, 108] [(1, .slice a1' more_1.length c1'), (6, .int .i64 (wI64 (1 + x37))), (7, .slice a48 x46.1.length c49), (10, .int .i64 st132), (108, .bool true)] (by kernel_rfl) ?_
      refine QL.nil ?_
      intro w240 hE241
      have hb242 : Ext w w240 := Ext.trans hb134 hE241
      have hL243 : w.heap.size ≤ w240.heap.size := Nat.le_trans hL135 hE241.size
      have hS244 : SH w240 w.heap.size [aOwn fInt 2 a48 c49 x46.1, aBox 42 b23 [.int .i64 x15.Kind, .int .i64 x15.Amount]] := SH.ext hS136 hE241
      obtain rfl := Option.some.inj hm
      exact WQ.post' ⟨rfl, hb242, hL243, hS244⟩ ⟨rfl, rfl, rfl, rfl, rfl, trivial⟩
    have hm := iteF hm hc239
    refine QL.step1v 98 (.slice a48 x46.1.length c49) rfl (fun _ => by kernel_rfl) ?_
    refine QL.subk [1, 6, 7, 10, 97, 98] [(1, .slice a1' more_1.length c1'), (6, .int .i64 (wI64 (1 + x37))), (7, .slice a48 x46.1.length c49), (10, .int .i64 st132), (97, .bool false), (98, .slice a48 x46.1.length c49)] (by kernel_rfl) ?_
    obtain ⟨x245, hx246, hm⟩ := bindE hm
    refine QL.st (.pointer (some (at_ a48 (Int.toNat 0 * 1)))) (ST.index (T := fInt.ty) (xs := x46.1) (SH.rd (SH.front 0 hS136)) hx246 rfl rfl rfl Try.underlying31 (info2).1 (info2).2.1) rfl rfl rfl ?_
    refine QL.st (.int .i64 x245) (ST.load (cell_ext (Rd.flat (F := fInt) (SH.rd (SH.front 0 hS136)) hx246 0 rfl)) rfl rfl Try.underlying2 rfl) rfl rfl rfl ?_
    obtain ⟨x247, hx248, hm⟩ := bindE hm
    refine QL.call 37 #[.int .i64 x245] (.int .i64 x247) (fun _ => by kernel_rfl) (fun w249 hE250 => c_37 n x245 w249 hx248 ) rfl rfl rfl ?_
    refine QL.step1v 102 (.slice a48 x46.1.length c49) rfl (fun _ => by kernel_rfl) ?_
    refine QL.step1v 103 (.int .i64 st132) rfl (fun _ => by kernel_rfl) ?_
    refine QL.subk [1, 6, 7, 10, 97, 101, 102, 103] [(1, .slice a1' more_1.length c1'), (6, .int .i64 (wI64 (1 + x37))), (7, .slice a48 x46.1.length c49), (10, .int .i64 st132), (97, .bool false), (101, .int .i64 x247), (102, .slice a48 x46.1.length c49), (103, .int .i64 st132)] (by kernel_rfl) ?_
    obtain ⟨x251, hx252, hm⟩ := bindE hm
    refine QL.st (.pointer (some (at_ a48 (Int.toNat st132 * 1)))) (ST.index (T := fInt.ty) (xs := x46.1) (SH.rd (SH.front 0 hS136)) hx252 rfl rfl rfl Try.underlying31 (info2).1 (info2).2.1) rfl rfl rfl ?_
    refine QL.st (.int .i64 x251) (ST.load (cell_ext (Rd.flat (F := fInt) (SH.rd (SH.front 0 hS136)) hx252 0 rfl)) rfl rfl Try.underlying2 rfl) rfl rfl rfl ?_
    obtain ⟨x253, hx254, hm⟩ := bindE hm
    refine QL.call 37 #[.int .i64 x251] (.int .i64 x253) (fun _ => by kernel_rfl) (fun w255 hE256 => c_37 n x251 w255 hx254 ) rfl rfl rfl ?_
    refine QL.step1v 107 (.bool (decide (x247 < x253))) rfl (fun _ => by kernel_rfl) ?_
    refine QL.step1v 108 (.bool (decide (x247 < x253))) rfl (fun _ => by kernel_rfl) ?_
    refine QL.subk [1, 6, 7, 10, 108] [(1, .slice a1' more_1.length c1'), (6, .int .i64 (wI64 (1 + x37))), (7, .slice a48 x46.1.length c49), (10, .int .i64 st132), (108, .bool (decide (x247 < x253)))] (by kernel_rfl) ?_
    refine QL.nil ?_
    intro w257 hE258
    have hb259 : Ext w w257 := Ext.trans hb134 hE258
    have hL260 : w.heap.size ≤ w257.heap.size := Nat.le_trans hL135 hE258.size
    have hS261 : SH w257 w.heap.size [aOwn fInt 2 a48 c49 x46.1, aBox 42 b23 [.int .i64 x15.Kind, .int .i64 x15.Amount]] := SH.ext hS136 hE258
    obtain rfl := Option.some.inj hm
    exact WQ.post' ⟨rfl, hb259, hL260, hS261⟩ ⟨rfl, rfl, rfl, rfl, rfl, trivial⟩
  have hm := iteF hm hc147
  refine WP.exit ?_
  refine WQ.then_exit ?_
  refine WQ.then_exit ?_
  refine WQ.block_here ?_
  obtain rfl := Option.some.inj hm
  obtain rfl := afterN_done hl137
  have hm := hmo138
  refine WQ.then_normal (hK130 _ _ _ ?_)
  refine WP.seq (fun K268 hK268 => ?_)
  refine WP.region ?_
  refine WL.runk 1 [1, 109] [(1, .slice a1' more_1.length c1'), (109, .slice a1' more_1.length c1')] (by kernel_rfl) ?_
  obtain ⟨x269, hx270, hm⟩ := bindE hm
  refine WL.call 38 #[.slice a1' more_1.length c1'] rfl rfl (by kernel_rfl) (c_38 n more_1 a1' c1' w133 hx270 (Rd.below h1 hb134) hle1) ?_
  rintro _ w274 ⟨a271, c272, rfl, hE275, hR276⟩
  refine ⟨_, rfl, ?_⟩
  have hb277 : Ext w w274 := Ext.trans hb134 hE275
  have hL278 : w.heap.size ≤ w274.heap.size := Nat.le_trans hL135 hE275.size
  have hS279 : SH w274 w.heap.size [aOwn fChange 42 a271 c272 x269, aOwn fInt 2 a48 c49 x46.1, aBox 42 b23 [.int .i64 x15.Kind, .int .i64 x15.Amount]] := SH.add hS136 hE275 hL135 hR276
  refine WL.runk 1 [1, 11] [(1, .slice a1' more_1.length c1'), (11, .slice a271 x269.length c272)] (by kernel_rfl) ?_
  refine WL.nil ?_
  refine WQ.then_normal (hK268 _ _ _ ?_)
  refine WP.seq (fun K280 hK280 => ?_)
  refine WP.region ?_
  refine WL.runk 1 [1, 11, 112] [(1, .slice a1' more_1.length c1'), (11, .slice a271 x269.length c272), (112, .slice a271 x269.length c272)] (by kernel_rfl) ?_
  obtain ⟨x281, hx282, hm⟩ := bindE hm
  refine WL.call 32 #[.slice a271 x269.length c272] rfl rfl (by kernel_rfl) (c_32 n x269 a271 c272 w274 hx282 (SH.rd (SH.front 0 hS279)) (SH.le (SH.front 0 hS279)).1) ?_
  rintro _ w283 ⟨rfl, hE284⟩
  refine ⟨_, rfl, ?_⟩
  have hb286 : Ext w w283 := Ext.trans hb277 hE284
  have hL287 : w.heap.size ≤ w283.heap.size := Nat.le_trans hL278 hE284.size
  have hS288 : SH w283 w.heap.size [aOwn fChange 42 a271 c272 x269, aOwn fInt 2 a48 c49 x46.1, aBox 42 b23 [.int .i64 x15.Kind, .int .i64 x15.Amount]] := SH.ext hS279 hE284
  refine WL.runk 7 [1, 11, 12, 13, 14] [(1, .slice a1' more_1.length c1'), (11, .slice a271 x269.length c272), (12, .int .i64 x281.1), (13, .int .i64 x281.2.1), (14, .int .i64 x281.2.2)] (by kernel_rfl) ?_
  refine WL.nil ?_
  refine WQ.then_normal (hK280 _ _ _ ?_)
  refine WP.seq (fun K289 hK289 => ?_)
  refine WP.region ?_
  refine WL.runk 1 [1, 11, 12, 13, 14, 15] [(1, .slice a1' more_1.length c1'), (11, .slice a271 x269.length c272), (12, .int .i64 x281.1), (13, .int .i64 x281.2.1), (14, .int .i64 x281.2.2), (15, .int .i64 (-1))] (by kernel_rfl) ?_
  refine WL.nil ?_
  refine WQ.then_normal (hK289 _ _ _ ?_)
  refine WP.seq (fun K290 hK290 => ?_)
  refine WP.region ?_
  refine WL.runk 1 [1, 11, 12, 13, 14, 15, 16] [(1, .slice a1' more_1.length c1'), (11, .slice a271 x269.length c272), (12, .int .i64 x281.1), (13, .int .i64 x281.2.1), (14, .int .i64 x281.2.2), (15, .int .i64 (-1)), (16, .int .i64 (-1))] (by kernel_rfl) ?_
  refine WL.nil ?_
  refine WQ.then_normal (hK290 _ _ _ ?_)
  refine WP.seq (fun K291 hK291 => ?_)
  refine WP.seq (fun K292 hK292 => ?_)
  refine WP.region ?_
  refine WL.runk 1 [1, 11, 12, 13, 14, 15, 16, 17] [(1, .slice a1' more_1.length c1'), (11, .slice a271 x269.length c272), (12, .int .i64 x281.1), (13, .int .i64 x281.2.1), (14, .int .i64 x281.2.2), (15, .int .i64 (-1)), (16, .int .i64 (-1)), (17, .int .i64 0)] (by kernel_rfl) ?_
  refine WL.nil ?_
  refine WQ.then_normal (hK292 _ _ _ ?_)
  refine WP.block ?_
  obtain ⟨t304, ht305, hm⟩ := bindE hm
  have hmo299 := hm; clear hm
  refine WP.sub [(1, .slice a1' more_1.length c1'), (11, .slice a271 x269.length c272), (12, .int .i64 x281.1), (13, .int .i64 x281.2.1), (14, .int .i64 x281.2.2), (15, .int .i64 (-1)), (16, .int .i64 (-1)), (17, .int .i64 0)] ⟨rfl, rfl, rfl, rfl, rfl, rfl, rfl, rfl, trivial⟩ ?_
  refine WP.loop (fun n' env' w' => ∃ (st293 : Int × Int × Int) , env' = [(1, .slice a1' more_1.length c1'), (11, .slice a271 x269.length c272), (12, .int .i64 x281.1), (13, .int .i64 x281.2.1), (14, .int .i64 x281.2.2), (15, .int .i64 st293.1), (16, .int .i64 st293.2.1), (17, .int .i64 st293.2.2)] ∧ Ext w w' ∧ w.heap.size ≤ w'.heap.size ∧ SH w' w.heap.size [aOwn fChange 42 a271 c272 x269, aOwn fInt 2 a48 c49 x46.1, aBox 42 b23 [.int .i64 x15.Kind, .int .i64 x15.Amount]] ∧ loopN (m_laws_FnFittings_l2 n x269) n' st293 = some t304) n ⟨((-1), (-1), 0), rfl, hb286, hL287, hS288, ht305⟩ ?_
  rintro n301 _ w294 ⟨st293, rfl, hb295, hL296, hS297, hl298⟩ K300 hK300
  obtain ⟨n302, s303, rfl, hm, hl298⟩ := loopN_some hl298
  unfold m_laws_FnFittings_l2 at hm
  refine WP.seq (fun K306 hK306 => ?_)
  refine WP.seq (fun K307 hK307 => ?_)
  obtain ⟨x309, hx310, hm⟩ := bindE hm
  refine WP.cut (fun env' w' => env' = [(1, .slice a1' more_1.length c1'), (11, .slice a271 x269.length c272), (12, .int .i64 x281.1), (13, .int .i64 x281.2.1), (14, .int .i64 x281.2.2), (15, .int .i64 st293.1), (16, .int .i64 st293.2.1), (17, .int .i64 st293.2.2), (124, .bool x309)] ∧ Ext w w' ∧ w.heap.size ≤ w'.heap.size ∧ SH w' w.heap.size [aOwn fChange 42 a271 c272 x269, aOwn fInt 2 a48 c49 x46.1, aBox 42 b23 [.int .i64 x15.Kind, .int .i64 x15.Amount]]) ?_ ?_
  · have hm := hx310; clear hx310
    refine WP.region ?_
    refine WL.runk 5 [1, 11, 12, 13, 14, 15, 16, 17, 121] [(1, .slice a1' more_1.length c1'), (11, .slice a271 x269.length c272), (12, .int .i64 x281.1), (13, .int .i64 x281.2.1), (14, .int .i64 x281.2.2), (15, .int .i64 st293.1), (16, .int .i64 st293.2.1), (17, .int .i64 st293.2.2), (121, .bool (decide (st293.2.2 < (x269.length : Int))))] (by kernel_rfl) ?_
    refine WL.case (decide (st293.2.2 < (x269.length : Int))) [121] ⟨rfl, trivial⟩ (fun hc311 => ?_) (fun hc311 => ?_)
    · have hm := iteT hm hc311
      refine WL.runk 3 [1, 11, 12, 13, 14, 15, 16, 17, 124] [(1, .slice a1' more_1.length c1'), (11, .slice a271 x269.length c272), (12, .int .i64 x281.1), (13, .int .i64 x281.2.1), (14, .int .i64 x281.2.2), (15, .int .i64 st293.1), (16, .int .i64 st293.2.1), (17, .int .i64 st293.2.2), (124, .bool (decide (st293.1 < 0)))] (by kernel_rfl) ?_
      refine WL.nil ?_
      obtain rfl := Option.some.inj hm
      exact WQ.post' ⟨rfl, hb295, hL296, hS297⟩ ⟨rfl, rfl, rfl, rfl, rfl, rfl, rfl, rfl, rfl, trivial⟩
    have hm := iteF hm hc311
    refine WL.runk 3 [1, 11, 12, 13, 14, 15, 16, 17, 124] [(1, .slice a1' more_1.length c1'), (11, .slice a271 x269.length c272), (12, .int .i64 x281.1), (13, .int .i64 x281.2.1), (14, .int .i64 x281.2.2), (15, .int .i64 st293.1), (16, .int .i64 st293.2.1), (17, .int .i64 st293.2.2), (124, .bool false)] (by kernel_rfl) ?_
    refine WL.nil ?_
    obtain rfl := Option.some.inj hm
    exact WQ.post' ⟨rfl, hb295, hL296, hS297⟩ ⟨rfl, rfl, rfl, rfl, rfl, rfl, rfl, rfl, rfl, trivial⟩
  clear hx310
  rintro _ w312 ⟨rfl, hb313, hL314, hS315⟩
  refine WQ.then_normal (hK307 _ _ _ ?_)
  refine WP.cond x309 rfl rfl (fun hc316 => ?_) (fun hc316 => ?_)
  · have hm := iteT hm hc316
    refine WP.skip ?_
    refine WQ.then_normal (hK306 _ _ _ ?_)
    refine WP.seq (fun K317 hK317 => ?_)
    refine WP.block ?_
    refine WP.seq (fun K318 hK318 => ?_)
    refine WP.region ?_
    refine WL.runk 1 [1, 11, 12, 13, 14, 15, 16, 17, 18] [(1, .slice a1' more_1.length c1'), (11, .slice a271 x269.length c272), (12, .int .i64 x281.1), (13, .int .i64 x281.2.1), (14, .int .i64 x281.2.2), (15, .int .i64 st293.1), (16, .int .i64 st293.2.1), (17, .int .i64 st293.2.2), (18, .int .i64 0)] (by kernel_rfl) ?_
    refine WL.nil ?_
    refine WQ.then_normal (hK318 _ _ _ ?_)
    refine WP.block ?_
    obtain ⟨t330, ht331, hm⟩ := bindE hm
    have hmo325 := hm; clear hm
    refine WP.sub [(1, .slice a1' more_1.length c1'), (11, .slice a271 x269.length c272), (12, .int .i64 x281.1), (13, .int .i64 x281.2.1), (14, .int .i64 x281.2.2), (15, .int .i64 st293.1), (16, .int .i64 st293.2.1), (17, .int .i64 st293.2.2), (18, .int .i64 0)] ⟨rfl, rfl, rfl, rfl, rfl, rfl, rfl, rfl, rfl, trivial⟩ ?_
    refine WP.loop (fun n' env' w' => ∃ (st319 : Int × Int × Int) , env' = [(1, .slice a1' more_1.length c1'), (11, .slice a271 x269.length c272), (12, .int .i64 x281.1), (13, .int .i64 x281.2.1), (14, .int .i64 x281.2.2), (15, .int .i64 st319.1), (16, .int .i64 st319.2.1), (17, .int .i64 st293.2.2), (18, .int .i64 st319.2.2)] ∧ Ext w w' ∧ w.heap.size ≤ w'.heap.size ∧ SH w' w.heap.size [aOwn fChange 42 a271 c272 x269, aOwn fInt 2 a48 c49 x46.1, aBox 42 b23 [.int .i64 x15.Kind, .int .i64 x15.Amount]] ∧ loopN (m_laws_FnFittings_l3 n x269 st293) n' st319 = some t330) n ⟨(st293.1, st293.2.1, 0), rfl, hb313, hL314, hS315, ht331⟩ ?_
    rintro n327 _ w320 ⟨st319, rfl, hb321, hL322, hS323, hl324⟩ K326 hK326
    obtain ⟨n328, s329, rfl, hm, hl324⟩ := loopN_some hl324
    unfold m_laws_FnFittings_l3 at hm
    refine WP.seq (fun K332 hK332 => ?_)
    refine WP.seq (fun K333 hK333 => ?_)
    obtain ⟨x335, hx336, hm⟩ := bindE hm
    refine WP.cut (fun env' w' => env' = [(1, .slice a1' more_1.length c1'), (11, .slice a271 x269.length c272), (12, .int .i64 x281.1), (13, .int .i64 x281.2.1), (14, .int .i64 x281.2.2), (15, .int .i64 st319.1), (16, .int .i64 st319.2.1), (17, .int .i64 st293.2.2), (18, .int .i64 st319.2.2), (133, .bool x335)] ∧ Ext w w' ∧ w.heap.size ≤ w'.heap.size ∧ SH w' w.heap.size [aOwn fChange 42 a271 c272 x269, aOwn fInt 2 a48 c49 x46.1, aBox 42 b23 [.int .i64 x15.Kind, .int .i64 x15.Amount]]) ?_ ?_
    · have hm := hx336; clear hx336
      refine WP.region ?_
      refine WL.runk 4 [1, 11, 12, 13, 14, 15, 16, 17, 18, 130] [(1, .slice a1' more_1.length c1'), (11, .slice a271 x269.length c272), (12, .int .i64 x281.1), (13, .int .i64 x281.2.1), (14, .int .i64 x281.2.2), (15, .int .i64 st319.1), (16, .int .i64 st319.2.1), (17, .int .i64 st293.2.2), (18, .int .i64 st319.2.2), (130, .bool (decide (st319.2.2 < st293.2.2)))] (by kernel_rfl) ?_
      refine WL.case (decide (st319.2.2 < st293.2.2)) [130] ⟨rfl, trivial⟩ (fun hc337 => ?_) (fun hc337 => ?_)
      · have hm := iteT hm hc337
        refine WL.runk 3 [1, 11, 12, 13, 14, 15, 16, 17, 18, 133] [(1, .slice a1' more_1.length c1'), (11, .slice a271 x269.length c272), (12, .int .i64 x281.1), (13, .int .i64 x281.2.1), (14, .int .i64 x281.2.2), (15, .int .i64 st319.1), (16, .int .i64 st319.2.1), (17, .int .i64 st293.2.2), (18, .int .i64 st319.2.2), (133, .bool (decide (st319.1 < 0)))] (by kernel_rfl) ?_
        refine WL.nil ?_
        obtain rfl := Option.some.inj hm
        exact WQ.post' ⟨rfl, hb321, hL322, hS323⟩ ⟨rfl, rfl, rfl, rfl, rfl, rfl, rfl, rfl, rfl, rfl, trivial⟩
      have hm := iteF hm hc337
      refine WL.runk 3 [1, 11, 12, 13, 14, 15, 16, 17, 18, 133] [(1, .slice a1' more_1.length c1'), (11, .slice a271 x269.length c272), (12, .int .i64 x281.1), (13, .int .i64 x281.2.1), (14, .int .i64 x281.2.2), (15, .int .i64 st319.1), (16, .int .i64 st319.2.1), (17, .int .i64 st293.2.2), (18, .int .i64 st319.2.2), (133, .bool false)] (by kernel_rfl) ?_
      refine WL.nil ?_
      obtain rfl := Option.some.inj hm
      exact WQ.post' ⟨rfl, hb321, hL322, hS323⟩ ⟨rfl, rfl, rfl, rfl, rfl, rfl, rfl, rfl, rfl, rfl, trivial⟩
    clear hx336
    rintro _ w338 ⟨rfl, hb339, hL340, hS341⟩
    refine WQ.then_normal (hK333 _ _ _ ?_)
    refine WP.cond x335 rfl rfl (fun hc342 => ?_) (fun hc342 => ?_)
    rotate_left
    · have hm := iteF hm hc342
      refine WP.exit ?_
      refine WQ.then_exit ?_
      refine WQ.then_exit ?_
      refine WQ.block_here ?_
      obtain rfl := Option.some.inj hm
      obtain rfl := afterN_done hl324
      have hm := hmo325
      refine WQ.block_normal ?_
      refine WQ.then_normal (hK317 _ _ _ ?_)
      refine WP.region ?_
      refine WL.runk 3 [1, 11, 12, 13, 14, 15, 16, 17] [(1, .slice a1' more_1.length c1'), (11, .slice a271 x269.length c272), (12, .int .i64 x281.1), (13, .int .i64 x281.2.1), (14, .int .i64 x281.2.2), (15, .int .i64 st319.1), (16, .int .i64 st319.2.1), (17, .int .i64 (wI64 (st293.2.2 + 1)))] (by kernel_rfl) ?_
      refine WL.nil ?_
      obtain rfl := Option.some.inj hm
      exact WQ.round hK300 ⟨(st319.1, st319.2.1, (wI64 (st293.2.2 + 1))), rfl, hb339, hL340, hS341, hl298⟩ (Nat.lt_succ_self _) ⟨rfl, rfl, rfl, rfl, rfl, rfl, rfl, rfl, trivial⟩
    have hm := iteT hm hc342
    refine WP.skip ?_
    refine WQ.then_normal (hK332 _ _ _ ?_)
    refine WP.seq (fun K343 hK343 => ?_)
    refine WP.block ?_
    refine WP.seq (fun K344 hK344 => ?_)
    obtain ⟨x364, hx365, hm⟩ := bindE hm
    refine WP.cut (fun env' w' => env' = [(1, .slice a1' more_1.length c1'), (11, .slice a271 x269.length c272), (12, .int .i64 x281.1), (13, .int .i64 x281.2.1), (14, .int .i64 x281.2.2), (15, .int .i64 st319.1), (16, .int .i64 st319.2.1), (17, .int .i64 st293.2.2), (18, .int .i64 st319.2.2), (161, .bool x364)] ∧ Ext w w' ∧ w.heap.size ≤ w'.heap.size ∧ SH w' w.heap.size [aOwn fChange 42 a271 c272 x269, aOwn fInt 2 a48 c49 x46.1, aBox 42 b23 [.int .i64 x15.Kind, .int .i64 x15.Amount]]) ?_ ?_
    rotate_left
    · clear hx365
      rintro _ w385 ⟨rfl, hb386, hL387, hS388⟩
      refine WQ.then_normal (hK344 _ _ _ ?_)
      obtain ⟨x391, hx392, hm⟩ := bindE hm
      refine WP.cut (fun env' w' => env' = [(1, .slice a1' more_1.length c1'), (11, .slice a271 x269.length c272), (12, .int .i64 x281.1), (13, .int .i64 x281.2.1), (14, .int .i64 x281.2.2), (15, .int .i64 x391.1), (16, .int .i64 x391.2), (17, .int .i64 st293.2.2), (18, .int .i64 st319.2.2)] ∧ Ext w w' ∧ w.heap.size ≤ w'.heap.size ∧ SH w' w.heap.size [aOwn fChange 42 a271 c272 x269, aOwn fInt 2 a48 c49 x46.1, aBox 42 b23 [.int .i64 x15.Kind, .int .i64 x15.Amount]]) ?_ ?_
      rotate_left
      · clear hx392
        rintro _ w394 ⟨rfl, hb395, hL396, hS397⟩
        refine WQ.block_normal ?_
        refine WQ.then_normal (hK343 _ _ _ ?_)
        refine WP.region ?_
        refine WL.runk 3 [1, 11, 12, 13, 14, 15, 16, 17, 18] [(1, .slice a1' more_1.length c1'), (11, .slice a271 x269.length c272), (12, .int .i64 x281.1), (13, .int .i64 x281.2.1), (14, .int .i64 x281.2.2), (15, .int .i64 x391.1), (16, .int .i64 x391.2), (17, .int .i64 st293.2.2), (18, .int .i64 (wI64 (st319.2.2 + 1)))] (by kernel_rfl) ?_
        refine WL.nil ?_
        obtain rfl := Option.some.inj hm
        exact WQ.round hK326 ⟨(x391.1, x391.2, (wI64 (st319.2.2 + 1))), rfl, hb395, hL396, hS397, hl324⟩ (Nat.lt_succ_self _) ⟨rfl, rfl, rfl, rfl, rfl, rfl, rfl, rfl, rfl, trivial⟩
      have hm := hx392; clear hx392
      refine WP.cond x364 rfl rfl (fun hc389 => ?_) (fun hc389 => ?_)
      rotate_left
      · have hm := iteF hm hc389
        refine WP.skip ?_
        obtain rfl := Option.some.inj hm
        exact WQ.post' ⟨rfl, hb386, hL387, hS388⟩ ⟨rfl, rfl, rfl, rfl, rfl, rfl, rfl, rfl, rfl, trivial⟩
      have hm := iteT hm hc389
      refine WP.seq (fun K393 hK393 => ?_)
      refine WP.region ?_
      refine WL.runk 2 [1, 11, 12, 13, 14, 15, 17, 18] [(1, .slice a1' more_1.length c1'), (11, .slice a271 x269.length c272), (12, .int .i64 x281.1), (13, .int .i64 x281.2.1), (14, .int .i64 x281.2.2), (15, .int .i64 st293.2.2), (17, .int .i64 st293.2.2), (18, .int .i64 st319.2.2)] (by kernel_rfl) ?_
      refine WL.nil ?_
      refine WQ.then_normal (hK393 _ _ _ ?_)
      refine WP.region ?_
      refine WL.runk 2 [1, 11, 12, 13, 14, 15, 16, 17, 18] [(1, .slice a1' more_1.length c1'), (11, .slice a271 x269.length c272), (12, .int .i64 x281.1), (13, .int .i64 x281.2.1), (14, .int .i64 x281.2.2), (15, .int .i64 st293.2.2), (17, .int .i64 st293.2.2), (18, .int .i64 st319.2.2), (16, .int .i64 st319.2.2)] (by kernel_rfl) ?_
      refine WL.nil ?_
      obtain rfl := Option.some.inj hm
      exact WQ.post' ⟨rfl, hb386, hL387, hS388⟩ ⟨rfl, rfl, rfl, rfl, rfl, rfl, rfl, rfl, rfl, trivial⟩
    have hm := hx365; clear hx365
    refine WP.quiet (by kernel_rfl) (by kernel_rfl) ?_
    refine QL.step1v 136 (.slice a271 x269.length c272) rfl (fun _ => by kernel_rfl) ?_
    refine QL.step1v 137 (.int .i64 st293.2.2) rfl (fun _ => by kernel_rfl) ?_
    refine QL.subk [1, 11, 12, 13, 14, 15, 16, 17, 18, 136, 137] [(1, .slice a1' more_1.length c1'), (11, .slice a271 x269.length c272), (12, .int .i64 x281.1), (13, .int .i64 x281.2.1), (14, .int .i64 x281.2.2), (15, .int .i64 st319.1), (16, .int .i64 st319.2.1), (17, .int .i64 st293.2.2), (18, .int .i64 st319.2.2), (136, .slice a271 x269.length c272), (137, .int .i64 st293.2.2)] (by kernel_rfl) ?_
    obtain ⟨x366, hx367, hm⟩ := bindE hm
    refine QL.st (.pointer (some (at_ a271 (Int.toNat st293.2.2 * 2)))) (ST.index (T := fChange.ty) (xs := x269) (SH.rd (SH.front 0 hS341)) hx367 rfl rfl rfl Try.underlying28 (info42).1 (info42).2.1) rfl rfl rfl ?_
    refine QL.step1v 139 (.pointer (some (at_ a271 (Int.toNat st293.2.2 * 2)))) rfl (fun _ => by kernel_rfl) ?_
    refine QL.subk [1, 11, 12, 13, 14, 15, 16, 17, 18, 139] [(1, .slice a1' more_1.length c1'), (11, .slice a271 x269.length c272), (12, .int .i64 x281.1), (13, .int .i64 x281.2.1), (14, .int .i64 x281.2.2), (15, .int .i64 st319.1), (16, .int .i64 st319.2.1), (17, .int .i64 st293.2.2), (18, .int .i64 st319.2.2), (139, .pointer (some (at_ a271 (Int.toNat st293.2.2 * 2))))] (by kernel_rfl) ?_
    refine QL.st (.int .i64 x366.Kind) (ST.load (cell_ext (Rd.flat (F := fChange) (SH.rd (SH.front 0 hS341)) hx367 0 rfl)) rfl rfl Try.underlying2 rfl) rfl rfl rfl ?_
    refine QL.step1v 141 (.slice a271 x269.length c272) rfl (fun _ => by kernel_rfl) ?_
    refine QL.step1v 142 (.int .i64 st319.2.2) rfl (fun _ => by kernel_rfl) ?_
    refine QL.subk [1, 11, 12, 13, 14, 15, 16, 17, 18, 140, 141, 142] [(1, .slice a1' more_1.length c1'), (11, .slice a271 x269.length c272), (12, .int .i64 x281.1), (13, .int .i64 x281.2.1), (14, .int .i64 x281.2.2), (15, .int .i64 st319.1), (16, .int .i64 st319.2.1), (17, .int .i64 st293.2.2), (18, .int .i64 st319.2.2), (140, .int .i64 x366.Kind), (141, .slice a271 x269.length c272), (142, .int .i64 st319.2.2)] (by kernel_rfl) ?_
    obtain ⟨x368, hx369, hm⟩ := bindE hm
    refine QL.st (.pointer (some (at_ a271 (Int.toNat st319.2.2 * 2)))) (ST.index (T := fChange.ty) (xs := x269) (SH.rd (SH.front 0 hS341)) hx369 rfl rfl rfl Try.underlying28 (info42).1 (info42).2.1) rfl rfl rfl ?_
    refine QL.step1v 144 (.pointer (some (at_ a271 (Int.toNat st319.2.2 * 2)))) rfl (fun _ => by kernel_rfl) ?_
    refine QL.subk [1, 11, 12, 13, 14, 15, 16, 17, 18, 140, 144] [(1, .slice a1' more_1.length c1'), (11, .slice a271 x269.length c272), (12, .int .i64 x281.1), (13, .int .i64 x281.2.1), (14, .int .i64 x281.2.2), (15, .int .i64 st319.1), (16, .int .i64 st319.2.1), (17, .int .i64 st293.2.2), (18, .int .i64 st319.2.2), (140, .int .i64 x366.Kind), (144, .pointer (some (at_ a271 (Int.toNat st319.2.2 * 2))))] (by kernel_rfl) ?_
    refine QL.st (.int .i64 x368.Kind) (ST.load (cell_ext (Rd.flat (F := fChange) (SH.rd (SH.front 0 hS341)) hx369 0 rfl)) rfl rfl Try.underlying2 rfl) rfl rfl rfl ?_
    refine QL.step1v 146 (.bool (x366.Kind == x368.Kind)) rfl (fun _ => by kernel_rfl) ?_
    refine QL.step1v 147 (.bool (x366.Kind == x368.Kind)) rfl (fun _ => by kernel_rfl) ?_
    refine QL.subk [1, 11, 12, 13, 14, 15, 16, 17, 18, 147] [(1, .slice a1' more_1.length c1'), (11, .slice a271 x269.length c272), (12, .int .i64 x281.1), (13, .int .i64 x281.2.1), (14, .int .i64 x281.2.2), (15, .int .i64 st319.1), (16, .int .i64 st319.2.1), (17, .int .i64 st293.2.2), (18, .int .i64 st319.2.2), (147, .bool (x366.Kind == x368.Kind))] (by kernel_rfl) ?_
    refine QL.case (x366.Kind == x368.Kind) [147] ⟨rfl, trivial⟩ (fun hc370 => ?_) (fun hc370 => ?_)
    rotate_left
    · have hm := iteF hm hc370
      refine QL.step1v 148 undef rfl (fun _ => by kernel_rfl) ?_
      refine QL.step1v 149 undef rfl (fun _ => by kernel_rfl) ?_
      refine QL.step1v 150 undef rfl (fun _ => by kernel_rfl) ?_
      refine QL.step1v 151 undef rfl (fun _ => by kernel_rfl) ?_
      refine QL.step1v 152 undef rfl (fun _ => by kernel_rfl) ?_
      refine QL.step1v 153 undef rfl (fun _ => by kernel_rfl) ?_
      refine QL.step1v 154 undef rfl (fun _ => by kernel_rfl) ?_
      refine QL.step1v 155 undef rfl (fun _ => by kernel_rfl) ?_
      refine QL.step1v 156 undef rfl (fun _ => by kernel_rfl) ?_
      refine QL.step1v 157 undef rfl (fun _ => by kernel_rfl) ?_
      refine QL.step1v 158 undef rfl (fun _ => by kernel_rfl) ?_
      refine QL.step1v 159 undef rfl (fun _ => by kernel_rfl) ?_
      refine QL.step1v 160 undef rfl (fun _ => by kernel_rfl) ?_
      refine QL.step1v 161 (.bool false) rfl (fun _ => by kernel_rfl) ?_
      refine QL.subk [1, 11, 12, 13, 14, 15, 16, 17, 18, 161] [(1, .slice a1' more_1.length c1'), (11, .slice a271 x269.length c272), (12, .int .i64 x281.1), (13, .int .i64 x281.2.1), (14, .int .i64 x281.2.2), (15, .int .i64 st319.1), (16, .int .i64 st319.2.1), (17, .int .i64 st293.2.2), (18, .int .i64 st319.2.2), (161, .bool false)] (by kernel_rfl) ?_
      refine QL.nil ?_
      intro w380 hE381
      have hb382 : Ext w w380 := Ext.trans hb339 hE381
      have hL383 : w.heap.size ≤ w380.heap.size := Nat.le_trans hL340 hE381.size
      have hS384 : SH w380 w.heap.size [aOwn fChange 42 a271 c272 x269, aOwn fInt 2 a48 c49 x46.1, aBox 42 b23 [.int .i64 x15.Kind, .int .i64 x15.Amount]] := SH.ext hS341 hE381
      obtain rfl := Option.some.inj hm
      exact WQ.post' ⟨rfl, hb382, hL383, hS384⟩ ⟨rfl, rfl, rfl, rfl, rfl, rfl, rfl, rfl, rfl, rfl, trivial⟩
    have hm := iteT hm hc370
    refine QL.step1v 148 (.slice a271 x269.length c272) rfl (fun _ => by kernel_rfl) ?_
    refine QL.step1v 149 (.int .i64 st293.2.2) rfl (fun _ => by kernel_rfl) ?_
    refine QL.subk [1, 11, 12, 13, 14, 15, 16, 17, 18, 147, 148, 149] [(1, .slice a1' more_1.length c1'), (11, .slice a271 x269.length c272), (12, .int .i64 x281.1), (13, .int .i64 x281.2.1), (14, .int .i64 x281.2.2), (15, .int .i64 st319.1), (16, .int .i64 st319.2.1), (17, .int .i64 st293.2.2), (18, .int .i64 st319.2.2), (147, .bool true), (148, .slice a271 x269.length c272), (149, .int .i64 st293.2.2)] (by kernel_rfl) ?_
    obtain ⟨x371, hx372, hm⟩ := bindE hm
    refine QL.st (.pointer (some (at_ a271 (Int.toNat st293.2.2 * 2)))) (ST.index (T := fChange.ty) (xs := x269) (SH.rd (SH.front 0 hS341)) hx372 rfl rfl rfl Try.underlying28 (info42).1 (info42).2.1) rfl rfl rfl ?_
    refine QL.step1v 151 (.pointer (some (at_ a271 (Int.toNat st293.2.2 * 2 + 1)))) rfl (fun _ => by kernel_rfl) ?_
    refine QL.subk [1, 11, 12, 13, 14, 15, 16, 17, 18, 147, 151] [(1, .slice a1' more_1.length c1'), (11, .slice a271 x269.length c272), (12, .int .i64 x281.1), (13, .int .i64 x281.2.1), (14, .int .i64 x281.2.2), (15, .int .i64 st319.1), (16, .int .i64 st319.2.1), (17, .int .i64 st293.2.2), (18, .int .i64 st319.2.2), (147, .bool true), (151, .pointer (some (at_ a271 (Int.toNat st293.2.2 * 2 + 1))))] (by kernel_rfl) ?_
    refine QL.st (.int .i64 x371.Amount) (ST.load (cell_ext (Rd.flat (F := fChange) (SH.rd (SH.front 0 hS341)) hx372 1 rfl)) rfl rfl Try.underlying2 rfl) rfl rfl rfl ?_
    refine QL.step1v 153 (.bool (decide (x371.Amount < 0))) rfl (fun _ => by kernel_rfl) ?_
    refine QL.step1v 154 (.slice a271 x269.length c272) rfl (fun _ => by kernel_rfl) ?_
    refine QL.step1v 155 (.int .i64 st319.2.2) rfl (fun _ => by kernel_rfl) ?_
    refine QL.subk [1, 11, 12, 13, 14, 15, 16, 17, 18, 147, 153, 154, 155] [(1, .slice a1' more_1.length c1'), (11, .slice a271 x269.length c272), (12, .int .i64 x281.1), (13, .int .i64 x281.2.1), (14, .int .i64 x281.2.2), (15, .int .i64 st319.1), (16, .int .i64 st319.2.1), (17, .int .i64 st293.2.2), (18, .int .i64 st319.2.2), (147, .bool true), (153, .bool (decide (x371.Amount < 0))), (154, .slice a271 x269.length c272), (155, .int .i64 st319.2.2)] (by kernel_rfl) ?_
    obtain ⟨x373, hx374, hm⟩ := bindE hm
    refine QL.st (.pointer (some (at_ a271 (Int.toNat st319.2.2 * 2)))) (ST.index (T := fChange.ty) (xs := x269) (SH.rd (SH.front 0 hS341)) hx374 rfl rfl rfl Try.underlying28 (info42).1 (info42).2.1) rfl rfl rfl ?_
    refine QL.step1v 157 (.pointer (some (at_ a271 (Int.toNat st319.2.2 * 2 + 1)))) rfl (fun _ => by kernel_rfl) ?_
    refine QL.subk [1, 11, 12, 13, 14, 15, 16, 17, 18, 147, 153, 157] [(1, .slice a1' more_1.length c1'), (11, .slice a271 x269.length c272), (12, .int .i64 x281.1), (13, .int .i64 x281.2.1), (14, .int .i64 x281.2.2), (15, .int .i64 st319.1), (16, .int .i64 st319.2.1), (17, .int .i64 st293.2.2), (18, .int .i64 st319.2.2), (147, .bool true), (153, .bool (decide (x371.Amount < 0))), (157, .pointer (some (at_ a271 (Int.toNat st319.2.2 * 2 + 1))))] (by kernel_rfl) ?_
    refine QL.st (.int .i64 x373.Amount) (ST.load (cell_ext (Rd.flat (F := fChange) (SH.rd (SH.front 0 hS341)) hx374 1 rfl)) rfl rfl Try.underlying2 rfl) rfl rfl rfl ?_
    refine QL.step1v 159 (.bool (decide (x373.Amount < 0))) rfl (fun _ => by kernel_rfl) ?_
    refine QL.step1v 160 (.bool (!((decide (x371.Amount < 0)) == (decide (x373.Amount < 0))))) rfl (fun _ => by kernel_rfl) ?_
    refine QL.step1v 161 (.bool (!((decide (x371.Amount < 0)) == (decide (x373.Amount < 0))))) rfl (fun _ => by kernel_rfl) ?_
    refine QL.subk [1, 11, 12, 13, 14, 15, 16, 17, 18, 161] [(1, .slice a1' more_1.length c1'), (11, .slice a271 x269.length c272), (12, .int .i64 x281.1), (13, .int .i64 x281.2.1), (14, .int .i64 x281.2.2), (15, .int .i64 st319.1), (16, .int .i64 st319.2.1), (17, .int .i64 st293.2.2), (18, .int .i64 st319.2.2), (161, .bool (!((decide (x371.Amount < 0)) == (decide (x373.Amount < 0)))))] (by kernel_rfl) ?_
    refine QL.nil ?_
    intro w375 hE376
    have hb377 : Ext w w375 := Ext.trans hb339 hE376
    have hL378 : w.heap.size ≤ w375.heap.size := Nat.le_trans hL340 hE376.size
    have hS379 : SH w375 w.heap.size [aOwn fChange 42 a271 c272 x269, aOwn fInt 2 a48 c49 x46.1, aBox 42 b23 [.int .i64 x15.Kind, .int .i64 x15.Amount]] := SH.ext hS341 hE376
    obtain rfl := Option.some.inj hm
    exact WQ.post' ⟨rfl, hb377, hL378, hS379⟩ ⟨rfl, rfl, rfl, rfl, rfl, rfl, rfl, rfl, rfl, rfl, trivial⟩
  have hm := iteF hm hc316
  refine WP.exit ?_
  refine WQ.then_exit ?_
  refine WQ.then_exit ?_
  refine WQ.block_here ?_
  obtain rfl := Option.some.inj hm
  obtain rfl := afterN_done hl298
  have hm := hmo299
  refine WQ.then_normal (hK291 _ _ _ ?_)
  refine WP.seq (fun K399 hK399 => ?_)
  refine WP.seq (fun K400 hK400 => ?_)
  obtain ⟨x409, hx410, hm⟩ := bindE hm
  refine WP.cut (fun env' w' => env' = [(1, .slice a1' more_1.length c1'), (187, .bool x409)] ∧ Ext w w' ∧ w.heap.size ≤ w'.heap.size ∧ SH w' w.heap.size [aOwn fChange 42 a271 c272 x269, aOwn fInt 2 a48 c49 x46.1, aBox 42 b23 [.int .i64 x15.Kind, .int .i64 x15.Amount]]) ?_ ?_
  · have hm := hx410; clear hx410
    refine WP.region ?_
    refine WL.runk 3 [1, 12, 13, 14, 15, 16, 166] [(1, .slice a1' more_1.length c1'), (12, .int .i64 x281.1), (13, .int .i64 x281.2.1), (14, .int .i64 x281.2.2), (15, .int .i64 st293.1), (16, .int .i64 st293.2.1), (166, .bool (decide (st293.1 < 0)))] (by kernel_rfl) ?_
    refine WL.case (decide (st293.1 < 0)) [166] ⟨rfl, trivial⟩ (fun hc411 => ?_) (fun hc411 => ?_)
    rotate_left
    · have hm := iteF hm hc411
      refine WL.runk 7 [1, 12, 13, 14, 15, 16, 170, 173] [(1, .slice a1' more_1.length c1'), (12, .int .i64 x281.1), (13, .int .i64 x281.2.1), (14, .int .i64 x281.2.2), (15, .int .i64 st293.1), (16, .int .i64 st293.2.1), (170, .bool false), (173, .bool (decide (st293.1 ≥ 0)))] (by kernel_rfl) ?_
      refine WL.case (decide (st293.1 ≥ 0)) [173] ⟨rfl, trivial⟩ (fun hc416 => ?_) (fun hc416 => ?_)
      rotate_left
      · have hm := iteF hm hc416
        refine WL.runk 14 [1, 187] [(1, .slice a1' more_1.length c1'), (187, .bool false)] (by kernel_rfl) ?_
        refine WL.nil ?_
        obtain rfl := Option.some.inj hm
        exact WQ.post' ⟨rfl, hb313, hL314, hS315⟩ ⟨rfl, rfl, trivial⟩
      have hm := iteT hm hc416
      refine WL.runk 3 [1, 12, 13, 15, 16, 170, 173, 176] [(1, .slice a1' more_1.length c1'), (12, .int .i64 x281.1), (13, .int .i64 x281.2.1), (15, .int .i64 st293.1), (16, .int .i64 st293.2.1), (170, .bool false), (173, .bool true), (176, .bool (x281.2.2 != 0))] (by kernel_rfl) ?_
      refine WL.case (x281.2.2 != 0) [176] ⟨rfl, trivial⟩ (fun hc417 => ?_) (fun hc417 => ?_)
      · have hm := iteT hm hc417
        refine WL.runk 11 [1, 187] [(1, .slice a1' more_1.length c1'), (187, .bool true)] (by kernel_rfl) ?_
        refine WL.nil ?_
        obtain rfl := Option.some.inj hm
        exact WQ.post' ⟨rfl, hb313, hL314, hS315⟩ ⟨rfl, rfl, trivial⟩
      have hm := iteF hm hc417
      refine WL.runk 5 [1, 13, 16, 170, 173, 181] [(1, .slice a1' more_1.length c1'), (13, .int .i64 x281.2.1), (16, .int .i64 st293.2.1), (170, .bool false), (173, .bool true), (181, .bool (x281.1 != st293.1))] (by kernel_rfl) ?_
      refine WL.case (x281.1 != st293.1) [181] ⟨rfl, trivial⟩ (fun hc418 => ?_) (fun hc418 => ?_)
      · have hm := iteT hm hc418
        refine WL.runk 6 [1, 187] [(1, .slice a1' more_1.length c1'), (187, .bool true)] (by kernel_rfl) ?_
        refine WL.nil ?_
        obtain rfl := Option.some.inj hm
        exact WQ.post' ⟨rfl, hb313, hL314, hS315⟩ ⟨rfl, rfl, trivial⟩
      have hm := iteF hm hc418
      refine WL.runk 6 [1, 187] [(1, .slice a1' more_1.length c1'), (187, .bool (x281.2.1 != st293.2.1))] (by kernel_rfl) ?_
      refine WL.nil ?_
      obtain rfl := Option.some.inj hm
      exact WQ.post' ⟨rfl, hb313, hL314, hS315⟩ ⟨rfl, rfl, trivial⟩
    have hm := iteT hm hc411
    refine WL.runk 4 [1, 12, 13, 14, 15, 16, 170] [(1, .slice a1' more_1.length c1'), (12, .int .i64 x281.1), (13, .int .i64 x281.2.1), (14, .int .i64 x281.2.2), (15, .int .i64 st293.1), (16, .int .i64 st293.2.1), (170, .bool (x281.2.2 != 3))] (by kernel_rfl) ?_
    refine WL.case (x281.2.2 != 3) [170] ⟨rfl, trivial⟩ (fun hc412 => ?_) (fun hc412 => ?_)
    · have hm := iteT hm hc412
      refine WL.runk 17 [1, 187] [(1, .slice a1' more_1.length c1'), (187, .bool true)] (by kernel_rfl) ?_
      refine WL.nil ?_
      obtain rfl := Option.some.inj hm
      exact WQ.post' ⟨rfl, hb313, hL314, hS315⟩ ⟨rfl, rfl, trivial⟩
    have hm := iteF hm hc412
    refine WL.runk 3 [1, 12, 13, 14, 15, 16, 170, 173] [(1, .slice a1' more_1.length c1'), (12, .int .i64 x281.1), (13, .int .i64 x281.2.1), (14, .int .i64 x281.2.2), (15, .int .i64 st293.1), (16, .int .i64 st293.2.1), (170, .bool false), (173, .bool (decide (st293.1 ≥ 0)))] (by kernel_rfl) ?_
    refine WL.case (decide (st293.1 ≥ 0)) [173] ⟨rfl, trivial⟩ (fun hc413 => ?_) (fun hc413 => ?_)
    rotate_left
    · have hm := iteF hm hc413
      refine WL.runk 14 [1, 187] [(1, .slice a1' more_1.length c1'), (187, .bool false)] (by kernel_rfl) ?_
      refine WL.nil ?_
      obtain rfl := Option.some.inj hm
      exact WQ.post' ⟨rfl, hb313, hL314, hS315⟩ ⟨rfl, rfl, trivial⟩
    have hm := iteT hm hc413
    refine WL.runk 3 [1, 12, 13, 15, 16, 170, 173, 176] [(1, .slice a1' more_1.length c1'), (12, .int .i64 x281.1), (13, .int .i64 x281.2.1), (15, .int .i64 st293.1), (16, .int .i64 st293.2.1), (170, .bool false), (173, .bool true), (176, .bool (x281.2.2 != 0))] (by kernel_rfl) ?_
    refine WL.case (x281.2.2 != 0) [176] ⟨rfl, trivial⟩ (fun hc414 => ?_) (fun hc414 => ?_)
    · have hm := iteT hm hc414
      refine WL.runk 11 [1, 187] [(1, .slice a1' more_1.length c1'), (187, .bool true)] (by kernel_rfl) ?_
      refine WL.nil ?_
      obtain rfl := Option.some.inj hm
      exact WQ.post' ⟨rfl, hb313, hL314, hS315⟩ ⟨rfl, rfl, trivial⟩
    have hm := iteF hm hc414
    refine WL.runk 5 [1, 13, 16, 170, 173, 181] [(1, .slice a1' more_1.length c1'), (13, .int .i64 x281.2.1), (16, .int .i64 st293.2.1), (170, .bool false), (173, .bool true), (181, .bool (x281.1 != st293.1))] (by kernel_rfl) ?_
    refine WL.case (x281.1 != st293.1) [181] ⟨rfl, trivial⟩ (fun hc415 => ?_) (fun hc415 => ?_)
    · have hm := iteT hm hc415
      refine WL.runk 6 [1, 187] [(1, .slice a1' more_1.length c1'), (187, .bool true)] (by kernel_rfl) ?_
      refine WL.nil ?_
      obtain rfl := Option.some.inj hm
      exact WQ.post' ⟨rfl, hb313, hL314, hS315⟩ ⟨rfl, rfl, trivial⟩
    have hm := iteF hm hc415
    refine WL.runk 6 [1, 187] [(1, .slice a1' more_1.length c1'), (187, .bool (x281.2.1 != st293.2.1))] (by kernel_rfl) ?_
    refine WL.nil ?_
    obtain rfl := Option.some.inj hm
    exact WQ.post' ⟨rfl, hb313, hL314, hS315⟩ ⟨rfl, rfl, trivial⟩
  clear hx410
  rintro _ w419 ⟨rfl, hb420, hL421, hS422⟩
  refine WQ.then_normal (hK400 _ _ _ ?_)
  refine WP.cond x409 rfl rfl (fun hc423 => ?_) (fun hc423 => ?_)
  · have hm := iteT hm hc423
    refine WP.seq (fun K424 hK424 => ?_)
    refine WP.region ?_
    refine WL.runk 1 [4] [(4, .bool false)] (by kernel_rfl) ?_
    refine WL.nil ?_
    refine WQ.then_normal (hK424 _ _ _ ?_)
    refine WP.ret ?_
    refine WQ.then_ret ?_
    obtain rfl := Option.some.inj hm
    exact WQ.ret1 _ rfl rfl ⟨rfl, hb420⟩
  have hm := iteF hm hc423
  refine WP.skip ?_
  refine WQ.then_normal (hK399 _ _ _ ?_)
  refine WP.seq (fun K425 hK425 => ?_)
  refine WP.region ?_
  refine WL.runk 1 [1, 188] [(1, .slice a1' more_1.length c1'), (188, .slice a1' more_1.length c1')] (by kernel_rfl) ?_
  obtain ⟨x426, hx427, hm⟩ := bindE hm
  refine WL.call 35 #[.slice a1' more_1.length c1', .int .i64 1, .int .i64 200] rfl rfl (by kernel_rfl) (c_35 n more_1 a1' c1' 1 200 w419 hx427 (Rd.below h1 hb420) hle1) ?_
  rintro _ w428 ⟨rfl, hE429⟩
  refine ⟨_, rfl, ?_⟩
  have hb431 : Ext w w428 := Ext.trans hb420 hE429
  have hL432 : w.heap.size ≤ w428.heap.size := Nat.le_trans hL421 hE429.size
  have hS433 : SH w428 w.heap.size [aOwn fChange 42 a271 c272 x269, aOwn fInt 2 a48 c49 x46.1, aBox 42 b23 [.int .i64 x15.Kind, .int .i64 x15.Amount]] := SH.ext hS422 hE429
  refine WL.runk 1 [1, 19] [(1, .slice a1' more_1.length c1'), (19, .int .i64 x426)] (by kernel_rfl) ?_
  refine WL.nil ?_
  refine WQ.then_normal (hK425 _ _ _ ?_)
  refine WP.seq (fun K434 hK434 => ?_)
  refine WP.region ?_
  refine WL.runk 1 [1, 19, 190] [(1, .slice a1' more_1.length c1'), (19, .int .i64 x426), (190, .slice a1' more_1.length c1')] (by kernel_rfl) ?_
  obtain ⟨x435, hx436, hm⟩ := bindE hm
  refine WL.call 35 #[.slice a1' more_1.length c1', .int .i64 2, .int .i64 90] rfl rfl (by kernel_rfl) (c_35 n more_1 a1' c1' 2 90 w428 hx436 (Rd.below h1 hb431) hle1) ?_
  rintro _ w437 ⟨rfl, hE438⟩
  refine ⟨_, rfl, ?_⟩
  have hb440 : Ext w w437 := Ext.trans hb431 hE438
  have hL441 : w.heap.size ≤ w437.heap.size := Nat.le_trans hL432 hE438.size
  have hS442 : SH w437 w.heap.size [aOwn fChange 42 a271 c272 x269, aOwn fInt 2 a48 c49 x46.1, aBox 42 b23 [.int .i64 x15.Kind, .int .i64 x15.Amount]] := SH.ext hS433 hE438
  refine WL.runk 1 [1, 19, 20] [(1, .slice a1' more_1.length c1'), (19, .int .i64 x426), (20, .int .i64 x435)] (by kernel_rfl) ?_
  refine WL.nil ?_
  refine WQ.then_normal (hK434 _ _ _ ?_)
  refine WP.seq (fun K443 hK443 => ?_)
  refine WP.region ?_
  refine WL.runk 1 [1, 19, 20, 192] [(1, .slice a1' more_1.length c1'), (19, .int .i64 x426), (20, .int .i64 x435), (192, .slice a1' more_1.length c1')] (by kernel_rfl) ?_
  obtain ⟨x444, hx445, hm⟩ := bindE hm
  refine WL.call 35 #[.slice a1' more_1.length c1', .int .i64 3, .int .i64 90] rfl rfl (by kernel_rfl) (c_35 n more_1 a1' c1' 3 90 w437 hx445 (Rd.below h1 hb440) hle1) ?_
  rintro _ w446 ⟨rfl, hE447⟩
  refine ⟨_, rfl, ?_⟩
  have hb449 : Ext w w446 := Ext.trans hb440 hE447
  have hL450 : w.heap.size ≤ w446.heap.size := Nat.le_trans hL441 hE447.size
  have hS451 : SH w446 w.heap.size [aOwn fChange 42 a271 c272 x269, aOwn fInt 2 a48 c49 x46.1, aBox 42 b23 [.int .i64 x15.Kind, .int .i64 x15.Amount]] := SH.ext hS442 hE447
  refine WL.runk 1 [1, 19, 20, 21] [(1, .slice a1' more_1.length c1'), (19, .int .i64 x426), (20, .int .i64 x435), (21, .int .i64 x444)] (by kernel_rfl) ?_
  refine WL.nil ?_
  refine WQ.then_normal (hK443 _ _ _ ?_)
  refine WP.seq (fun K452 hK452 => ?_)
  refine WP.region ?_
  refine WL.runk 1 [19, 20, 21, 194] [(19, .int .i64 x426), (20, .int .i64 x435), (21, .int .i64 x444), (194, .slice a1' more_1.length c1')] (by kernel_rfl) ?_
  obtain ⟨x453, hx454, hm⟩ := bindE hm
  refine WL.call 35 #[.slice a1' more_1.length c1', .int .i64 4, .int .i64 90] rfl rfl (by kernel_rfl) (c_35 n more_1 a1' c1' 4 90 w446 hx454 (Rd.below h1 hb449) hle1) ?_
  rintro _ w455 ⟨rfl, hE456⟩
  refine ⟨_, rfl, ?_⟩
  have hb458 : Ext w w455 := Ext.trans hb449 hE456
  have hL459 : w.heap.size ≤ w455.heap.size := Nat.le_trans hL450 hE456.size
  have hS460 : SH w455 w.heap.size [aOwn fChange 42 a271 c272 x269, aOwn fInt 2 a48 c49 x46.1, aBox 42 b23 [.int .i64 x15.Kind, .int .i64 x15.Amount]] := SH.ext hS451 hE456
  refine WL.runk 1 [19, 20, 21, 22] [(19, .int .i64 x426), (20, .int .i64 x435), (21, .int .i64 x444), (22, .int .i64 x453)] (by kernel_rfl) ?_
  refine WL.nil ?_
  refine WQ.then_normal (hK452 _ _ _ ?_)
  refine WP.seq (fun K461 hK461 => ?_)
  refine WP.region ?_
  refine WL.runk 4 [19, 20, 21, 22, 197, 198, 199, 200] [(19, .int .i64 x426), (20, .int .i64 x435), (21, .int .i64 x444), (22, .int .i64 x453), (197, .int .i64 x426), (198, .int .i64 x435), (199, .int .i64 x444), (200, .int .i64 x453)] (by kernel_rfl) ?_
  obtain ⟨x462, hx463, hm⟩ := bindE hm
  refine WL.call 22 #[.int .i64 x426, .int .i64 x435, .int .i64 x444, .int .i64 x453] rfl rfl (by kernel_rfl) (c_22 n x426 x435 x444 x453 w455 hx463 ) ?_
  rintro _ w467 ⟨a464, c465, rfl, hE468, hR469⟩
  refine ⟨_, rfl, ?_⟩
  have hb470 : Ext w w467 := Ext.trans hb458 hE468
  have hL471 : w.heap.size ≤ w467.heap.size := Nat.le_trans hL459 hE468.size
  have hS472 : SH w467 w.heap.size [aOwn fInt 2 a464 c465 x462.1, aOwn fChange 42 a271 c272 x269, aOwn fInt 2 a48 c49 x46.1, aBox 42 b23 [.int .i64 x15.Kind, .int .i64 x15.Amount]] := SH.add hS460 hE468 hL459 hR469
  refine WL.runk 5 [19, 20, 21, 22, 23, 24] [(19, .int .i64 x426), (20, .int .i64 x435), (21, .int .i64 x444), (22, .int .i64 x453), (23, .slice a464 x462.1.length c465), (24, .int .i64 x462.2)] (by kernel_rfl) ?_
  refine WL.nil ?_
  refine WQ.then_normal (hK461 _ _ _ ?_)
  refine WP.seq (fun K473 hK473 => ?_)
  refine WP.seq (fun K474 hK474 => ?_)
  refine WP.region ?_
  refine WL.runk 2 [19, 20, 21, 22, 23, 24, 205] [(19, .int .i64 x426), (20, .int .i64 x435), (21, .int .i64 x444), (22, .int .i64 x453), (23, .slice a464 x462.1.length c465), (24, .int .i64 x462.2), (205, .bool (x462.2 != 0))] (by kernel_rfl) ?_
  refine WL.nil ?_
  refine WQ.then_normal (hK474 _ _ _ ?_)
  refine WP.cond (x462.2 != 0) rfl rfl (fun hc475 => ?_) (fun hc475 => ?_)
  · have hm := iteT hm hc475
    refine WP.seq (fun K476 hK476 => ?_)
    obtain ⟨x478, hx479, hm⟩ := bindE hm
    refine WP.cut (fun env' w' => env' = [(4, .bool x478)] ∧ Ext w w' ∧ w.heap.size ≤ w'.heap.size ∧ SH w' w.heap.size [aOwn fInt 2 a464 c465 x462.1, aOwn fChange 42 a271 c272 x269, aOwn fInt 2 a48 c49 x46.1, aBox 42 b23 [.int .i64 x15.Kind, .int .i64 x15.Amount]]) ?_ ?_
    rotate_left
    · clear hx479
      rintro _ w481 ⟨rfl, hb482, hL483, hS484⟩
      refine WQ.then_normal (hK476 _ _ _ ?_)
      refine WP.ret ?_
      refine WQ.then_ret ?_
      obtain rfl := Option.some.inj hm
      exact WQ.ret1 _ rfl rfl ⟨rfl, hb482⟩
    have hm := hx479; clear hx479
    refine WP.region ?_
    refine WL.runk 3 [19, 20, 21, 22, 208] [(19, .int .i64 x426), (20, .int .i64 x435), (21, .int .i64 x444), (22, .int .i64 x453), (208, .bool (x462.2 == 10))] (by kernel_rfl) ?_
    refine WL.case (x462.2 == 10) [208] ⟨rfl, trivial⟩ (fun hc480 => ?_) (fun hc480 => ?_)
    · have hm := iteT hm hc480
      refine WL.runk 9 [4] [(4, .bool (decide ((wI64 ((wI64 (x435 + x444)) + x453)) < x426)))] (by kernel_rfl) ?_
      refine WL.nil ?_
      obtain rfl := Option.some.inj hm
      exact WQ.post' ⟨rfl, hb470, hL471, hS472⟩ ⟨rfl, trivial⟩
    have hm := iteF hm hc480
    refine WL.runk 9 [4] [(4, .bool false)] (by kernel_rfl) ?_
    refine WL.nil ?_
    obtain rfl := Option.some.inj hm
    exact WQ.post' ⟨rfl, hb470, hL471, hS472⟩ ⟨rfl, trivial⟩
  have hm := iteF hm hc475
  refine WP.skip ?_
  refine WQ.then_normal (hK473 _ _ _ ?_)
  refine WP.seq (fun K485 hK485 => ?_)
  obtain ⟨x579, hx580, hm⟩ := bindE hm
  refine WP.cut (fun env' w' => env' = [(4, .bool x579)] ∧ Ext w w' ∧ w.heap.size ≤ w'.heap.size ∧ SH w' w.heap.size [aOwn fInt 2 a464 c465 x462.1, aOwn fChange 42 a271 c272 x269, aOwn fInt 2 a48 c49 x46.1, aBox 42 b23 [.int .i64 x15.Kind, .int .i64 x15.Amount]]) ?_ ?_
  rotate_left
  · clear hx580
    rintro _ w674 ⟨rfl, hb675, hL676, hS677⟩
    refine WQ.then_normal (hK485 _ _ _ ?_)
    refine WP.ret ?_
    obtain rfl := Option.some.inj hm
    exact WQ.ret1 _ rfl rfl ⟨rfl, hb675⟩
  have hm := hx580; clear hx580
  refine WP.quiet (by kernel_rfl) (by kernel_rfl) ?_
  refine QL.step1v 217 (.slice a464 x462.1.length c465) rfl (fun _ => by kernel_rfl) ?_
  refine QL.step1v 218 (.int .i64 (x462.1.length : Int)) rfl (fun _ => by kernel_rfl) ?_
  refine QL.step1v 219 (.bool ((x462.1.length : Int) == 3)) rfl (fun _ => by kernel_rfl) ?_
  refine QL.step1v 220 (.bool ((x462.1.length : Int) == 3)) rfl (fun _ => by kernel_rfl) ?_
  refine QL.subk [19, 20, 21, 22, 23, 220] [(19, .int .i64 x426), (20, .int .i64 x435), (21, .int .i64 x444), (22, .int .i64 x453), (23, .slice a464 x462.1.length c465), (220, .bool ((x462.1.length : Int) == 3))] (by kernel_rfl) ?_
  refine QL.case ((x462.1.length : Int) == 3) [220] ⟨rfl, trivial⟩ (fun hc581 => ?_) (fun hc581 => ?_)
  rotate_left
  · have hm := iteF hm hc581
    refine QL.step1v 221 undef rfl (fun _ => by kernel_rfl) ?_
    refine QL.step1v 222 undef rfl (fun _ => by kernel_rfl) ?_
    refine QL.step1v 223 undef rfl (fun _ => by kernel_rfl) ?_
    refine QL.step1v 224 undef rfl (fun _ => by kernel_rfl) ?_
    refine QL.step1v 225 (.bool false) rfl (fun _ => by kernel_rfl) ?_
    refine QL.step1v 226 (.bool false) rfl (fun _ => by kernel_rfl) ?_
    refine QL.step1v 227 undef rfl (fun _ => by kernel_rfl) ?_
    refine QL.step1v 228 undef rfl (fun _ => by kernel_rfl) ?_
    refine QL.step1v 229 undef rfl (fun _ => by kernel_rfl) ?_
    refine QL.step1v 230 undef rfl (fun _ => by kernel_rfl) ?_
    refine QL.step1v 231 undef rfl (fun _ => by kernel_rfl) ?_
    refine QL.step1v 232 (.bool false) rfl (fun _ => by kernel_rfl) ?_
    refine QL.step1v 233 (.bool false) rfl (fun _ => by kernel_rfl) ?_
    refine QL.step1v 234 undef rfl (fun _ => by kernel_rfl) ?_
    refine QL.step1v 235 undef rfl (fun _ => by kernel_rfl) ?_
    refine QL.step1v 236 undef rfl (fun _ => by kernel_rfl) ?_
    refine QL.step1v 237 undef rfl (fun _ => by kernel_rfl) ?_
    refine QL.step1v 238 (.bool false) rfl (fun _ => by kernel_rfl) ?_
    refine QL.step1v 239 (.bool false) rfl (fun _ => by kernel_rfl) ?_
    refine QL.step1v 240 undef rfl (fun _ => by kernel_rfl) ?_
    refine QL.step1v 241 undef rfl (fun _ => by kernel_rfl) ?_
    refine QL.step1v 242 undef rfl (fun _ => by kernel_rfl) ?_
    refine QL.step1v 243 undef rfl (fun _ => by kernel_rfl) ?_
    refine QL.step1v 244 undef rfl (fun _ => by kernel_rfl) ?_
    refine QL.step1v 245 (.bool false) rfl (fun _ => by kernel_rfl) ?_
    refine QL.step1v 246 (.bool false) rfl (fun _ => by kernel_rfl) ?_
    refine QL.step1v 247 undef rfl (fun _ => by kernel_rfl) ?_
    refine QL.step1v 248 undef rfl (fun _ => by kernel_rfl) ?_
    refine QL.step1v 249 undef rfl (fun _ => by kernel_rfl) ?_
    refine QL.step1v 250 undef rfl (fun _ => by kernel_rfl) ?_
    refine QL.step1v 251 undef rfl (fun _ => by kernel_rfl) ?_
    refine QL.step1v 252 undef rfl (fun _ => by kernel_rfl) ?_
    refine QL.step1v 253 undef rfl (fun _ => by kernel_rfl) ?_
    refine QL.step1v 254 (.bool false) rfl (fun _ => by kernel_rfl) ?_
    refine QL.step1v 255 (.bool false) rfl (fun _ => by kernel_rfl) ?_
    refine QL.step1v 256 undef rfl (fun _ => by kernel_rfl) ?_
    refine QL.step1v 257 undef rfl (fun _ => by kernel_rfl) ?_
    refine QL.step1v 258 undef rfl (fun _ => by kernel_rfl) ?_
    refine QL.step1v 259 undef rfl (fun _ => by kernel_rfl) ?_
    refine QL.step1v 260 undef rfl (fun _ => by kernel_rfl) ?_
    refine QL.step1v 261 undef rfl (fun _ => by kernel_rfl) ?_
    refine QL.step1v 262 undef rfl (fun _ => by kernel_rfl) ?_
    refine QL.step1v 263 undef rfl (fun _ => by kernel_rfl) ?_
    refine QL.step1v 264 undef rfl (fun _ => by kernel_rfl) ?_
    refine QL.step1v 265 (.bool false) rfl (fun _ => by kernel_rfl) ?_
    refine QL.step1v 266 (.bool false) rfl (fun _ => by kernel_rfl) ?_
    refine QL.step1v 267 undef rfl (fun _ => by kernel_rfl) ?_
    refine QL.step1v 268 undef rfl (fun _ => by kernel_rfl) ?_
    refine QL.step1v 269 undef rfl (fun _ => by kernel_rfl) ?_
    refine QL.step1v 270 undef rfl (fun _ => by kernel_rfl) ?_
    refine QL.step1v 271 undef rfl (fun _ => by kernel_rfl) ?_
    refine QL.step1v 272 undef rfl (fun _ => by kernel_rfl) ?_
    refine QL.step1v 273 undef rfl (fun _ => by kernel_rfl) ?_
    refine QL.step1v 274 undef rfl (fun _ => by kernel_rfl) ?_
    refine QL.step1v 275 undef rfl (fun _ => by kernel_rfl) ?_
    refine QL.step1v 276 (.bool false) rfl (fun _ => by kernel_rfl) ?_
    refine QL.step1v 277 (.bool false) rfl (fun _ => by kernel_rfl) ?_
    refine QL.step1v 278 undef rfl (fun _ => by kernel_rfl) ?_
    refine QL.step1v 279 undef rfl (fun _ => by kernel_rfl) ?_
    refine QL.step1v 280 undef rfl (fun _ => by kernel_rfl) ?_
    refine QL.step1v 281 undef rfl (fun _ => by kernel_rfl) ?_
    refine QL.step1v 282 undef rfl (fun _ => by kernel_rfl) ?_
    refine QL.step1v 283 undef rfl (fun _ => by kernel_rfl) ?_
    refine QL.step1v 284 undef rfl (fun _ => by kernel_rfl) ?_
    refine QL.step1v 285 undef rfl (fun _ => by kernel_rfl) ?_
    refine QL.step1v 286 undef rfl (fun _ => by kernel_rfl) ?_
    refine QL.step1v 287 undef rfl (fun _ => by kernel_rfl) ?_
    refine QL.step1v 288 undef rfl (fun _ => by kernel_rfl) ?_
    refine QL.step1v 289 undef rfl (fun _ => by kernel_rfl) ?_
    refine QL.step1v 290 undef rfl (fun _ => by kernel_rfl) ?_
    refine QL.step1v 291 undef rfl (fun _ => by kernel_rfl) ?_
    refine QL.step1v 292 undef rfl (fun _ => by kernel_rfl) ?_
    refine QL.step1v 293 undef rfl (fun _ => by kernel_rfl) ?_
    refine QL.step1v 294 undef rfl (fun _ => by kernel_rfl) ?_
    refine QL.step1v 295 undef rfl (fun _ => by kernel_rfl) ?_
    refine QL.step1v 296 undef rfl (fun _ => by kernel_rfl) ?_
    refine QL.step1v 297 undef rfl (fun _ => by kernel_rfl) ?_
    refine QL.step1v 298 undef rfl (fun _ => by kernel_rfl) ?_
    refine QL.step1v 299 undef rfl (fun _ => by kernel_rfl) ?_
    refine QL.step1v 300 (.bool false) rfl (fun _ => by kernel_rfl) ?_
    refine QL.step1v 4 (.bool false) rfl (fun _ => by kernel_rfl) ?_
    refine QL.subk [4] [(4, .bool false)] (by kernel_rfl) ?_
    refine QL.nil ?_
    intro w669 hE670
    have hb671 : Ext w w669 := Ext.trans hb470 hE670
    have hL672 : w.heap.size ≤ w669.heap.size := Nat.le_trans hL471 hE670.size
    have hS673 : SH w669 w.heap.size [aOwn fInt 2 a464 c465 x462.1, aOwn fChange 42 a271 c272 x269, aOwn fInt 2 a48 c49 x46.1, aBox 42 b23 [.int .i64 x15.Kind, .int .i64 x15.Amount]] := SH.ext hS472 hE670
    obtain rfl := Option.some.inj hm
    exact WQ.post' ⟨rfl, hb671, hL672, hS673⟩ ⟨rfl, trivial⟩
  have hm := iteT hm hc581
  refine QL.step1v 221 (.slice a464 x462.1.length c465) rfl (fun _ => by kernel_rfl) ?_
  refine QL.subk [19, 20, 21, 22, 23, 220, 221] [(19, .int .i64 x426), (20, .int .i64 x435), (21, .int .i64 x444), (22, .int .i64 x453), (23, .slice a464 x462.1.length c465), (220, .bool true), (221, .slice a464 x462.1.length c465)] (by kernel_rfl) ?_
  obtain ⟨x582, hx583, hm⟩ := bindE hm
  refine QL.st (.pointer (some (at_ a464 (Int.toNat 0 * 1)))) (ST.index (T := fInt.ty) (xs := x462.1) (SH.rd (SH.front 0 hS472)) hx583 rfl rfl rfl Try.underlying31 (info2).1 (info2).2.1) rfl rfl rfl ?_
  refine QL.st (.int .i64 x582) (ST.load (cell_ext (Rd.flat (F := fInt) (SH.rd (SH.front 0 hS472)) hx583 0 rfl)) rfl rfl Try.underlying2 rfl) rfl rfl rfl ?_
  refine QL.step1v 224 (.bool (decide (x582 ≥ 0))) rfl (fun _ => by kernel_rfl) ?_
  refine QL.step1v 225 (.bool (decide (x582 ≥ 0))) rfl (fun _ => by kernel_rfl) ?_
  refine QL.step1v 226 (.bool (decide (x582 ≥ 0))) rfl (fun _ => by kernel_rfl) ?_
  refine QL.subk [19, 20, 21, 22, 23, 226] [(19, .int .i64 x426), (20, .int .i64 x435), (21, .int .i64 x444), (22, .int .i64 x453), (23, .slice a464 x462.1.length c465), (226, .bool (decide (x582 ≥ 0)))] (by kernel_rfl) ?_
  refine QL.case (decide (x582 ≥ 0)) [226] ⟨rfl, trivial⟩ (fun hc584 => ?_) (fun hc584 => ?_)
  rotate_left
  · have hm := iteF hm hc584
    refine QL.step1v 227 undef rfl (fun _ => by kernel_rfl) ?_
    refine QL.step1v 228 undef rfl (fun _ => by kernel_rfl) ?_
    refine QL.step1v 229 undef rfl (fun _ => by kernel_rfl) ?_
    refine QL.step1v 230 undef rfl (fun _ => by kernel_rfl) ?_
    refine QL.step1v 231 undef rfl (fun _ => by kernel_rfl) ?_
    refine QL.step1v 232 (.bool false) rfl (fun _ => by kernel_rfl) ?_
    refine QL.step1v 233 (.bool false) rfl (fun _ => by kernel_rfl) ?_
    refine QL.step1v 234 undef rfl (fun _ => by kernel_rfl) ?_
    refine QL.step1v 235 undef rfl (fun _ => by kernel_rfl) ?_
    refine QL.step1v 236 undef rfl (fun _ => by kernel_rfl) ?_
    refine QL.step1v 237 undef rfl (fun _ => by kernel_rfl) ?_
    refine QL.step1v 238 (.bool false) rfl (fun _ => by kernel_rfl) ?_
    refine QL.step1v 239 (.bool false) rfl (fun _ => by kernel_rfl) ?_
    refine QL.step1v 240 undef rfl (fun _ => by kernel_rfl) ?_
    refine QL.step1v 241 undef rfl (fun _ => by kernel_rfl) ?_
    refine QL.step1v 242 undef rfl (fun _ => by kernel_rfl) ?_
    refine QL.step1v 243 undef rfl (fun _ => by kernel_rfl) ?_
    refine QL.step1v 244 undef rfl (fun _ => by kernel_rfl) ?_
    refine QL.step1v 245 (.bool false) rfl (fun _ => by kernel_rfl) ?_
    refine QL.step1v 246 (.bool false) rfl (fun _ => by kernel_rfl) ?_
    refine QL.step1v 247 undef rfl (fun _ => by kernel_rfl) ?_
    refine QL.step1v 248 undef rfl (fun _ => by kernel_rfl) ?_
    refine QL.step1v 249 undef rfl (fun _ => by kernel_rfl) ?_
    refine QL.step1v 250 undef rfl (fun _ => by kernel_rfl) ?_
    refine QL.step1v 251 undef rfl (fun _ => by kernel_rfl) ?_
    refine QL.step1v 252 undef rfl (fun _ => by kernel_rfl) ?_
    refine QL.step1v 253 undef rfl (fun _ => by kernel_rfl) ?_
    refine QL.step1v 254 (.bool false) rfl (fun _ => by kernel_rfl) ?_
    refine QL.step1v 255 (.bool false) rfl (fun _ => by kernel_rfl) ?_
    refine QL.step1v 256 undef rfl (fun _ => by kernel_rfl) ?_
    refine QL.step1v 257 undef rfl (fun _ => by kernel_rfl) ?_
    refine QL.step1v 258 undef rfl (fun _ => by kernel_rfl) ?_
    refine QL.step1v 259 undef rfl (fun _ => by kernel_rfl) ?_
    refine QL.step1v 260 undef rfl (fun _ => by kernel_rfl) ?_
    refine QL.step1v 261 undef rfl (fun _ => by kernel_rfl) ?_
    refine QL.step1v 262 undef rfl (fun _ => by kernel_rfl) ?_
    refine QL.step1v 263 undef rfl (fun _ => by kernel_rfl) ?_
    refine QL.step1v 264 undef rfl (fun _ => by kernel_rfl) ?_
    refine QL.step1v 265 (.bool false) rfl (fun _ => by kernel_rfl) ?_
    refine QL.step1v 266 (.bool false) rfl (fun _ => by kernel_rfl) ?_
    refine QL.step1v 267 undef rfl (fun _ => by kernel_rfl) ?_
    refine QL.step1v 268 undef rfl (fun _ => by kernel_rfl) ?_
    refine QL.step1v 269 undef rfl (fun _ => by kernel_rfl) ?_
    refine QL.step1v 270 undef rfl (fun _ => by kernel_rfl) ?_
    refine QL.step1v 271 undef rfl (fun _ => by kernel_rfl) ?_
    refine QL.step1v 272 undef rfl (fun _ => by kernel_rfl) ?_
    refine QL.step1v 273 undef rfl (fun _ => by kernel_rfl) ?_
    refine QL.step1v 274 undef rfl (fun _ => by kernel_rfl) ?_
    refine QL.step1v 275 undef rfl (fun _ => by kernel_rfl) ?_
    refine QL.step1v 276 (.bool false) rfl (fun _ => by kernel_rfl) ?_
    refine QL.step1v 277 (.bool false) rfl (fun _ => by kernel_rfl) ?_
    refine QL.step1v 278 undef rfl (fun _ => by kernel_rfl) ?_
    refine QL.step1v 279 undef rfl (fun _ => by kernel_rfl) ?_
    refine QL.step1v 280 undef rfl (fun _ => by kernel_rfl) ?_
    refine QL.step1v 281 undef rfl (fun _ => by kernel_rfl) ?_
    refine QL.step1v 282 undef rfl (fun _ => by kernel_rfl) ?_
    refine QL.step1v 283 undef rfl (fun _ => by kernel_rfl) ?_
    refine QL.step1v 284 undef rfl (fun _ => by kernel_rfl) ?_
    refine QL.step1v 285 undef rfl (fun _ => by kernel_rfl) ?_
    refine QL.step1v 286 undef rfl (fun _ => by kernel_rfl) ?_
    refine QL.step1v 287 undef rfl (fun _ => by kernel_rfl) ?_
    refine QL.step1v 288 undef rfl (fun _ => by kernel_rfl) ?_
    refine QL.step1v 289 undef rfl (fun _ => by kernel_rfl) ?_
    refine QL.step1v 290 undef rfl (fun _ => by kernel_rfl) ?_
    refine QL.step1v 291 undef rfl (fun _ => by kernel_rfl) ?_
    refine QL.step1v 292 undef rfl (fun _ => by kernel_rfl) ?_
    refine QL.step1v 293 undef rfl (fun _ => by kernel_rfl) ?_
    refine QL.step1v 294 undef rfl (fun _ => by kernel_rfl) ?_
    refine QL.step1v 295 undef rfl (fun _ => by kernel_rfl) ?_
    refine QL.step1v 296 undef rfl (fun _ => by kernel_rfl) ?_
    refine QL.step1v 297 undef rfl (fun _ => by kernel_rfl) ?_
    refine QL.step1v 298 undef rfl (fun _ => by kernel_rfl) ?_
    refine QL.step1v 299 undef rfl (fun _ => by kernel_rfl) ?_
    refine QL.step1v 300 (.bool false) rfl (fun _ => by kernel_rfl) ?_
    refine QL.step1v 4 (.bool false) rfl (fun _ => by kernel_rfl) ?_
    refine QL.subk [4] [(4, .bool false)] (by kernel_rfl) ?_
    refine QL.nil ?_
    intro w664 hE665
    have hb666 : Ext w w664 := Ext.trans hb470 hE665
    have hL667 : w.heap.size ≤ w664.heap.size := Nat.le_trans hL471 hE665.size
    have hS668 : SH w664 w.heap.size [aOwn fInt 2 a464 c465 x462.1, aOwn fChange 42 a271 c272 x269, aOwn fInt 2 a48 c49 x46.1, aBox 42 b23 [.int .i64 x15.Kind, .int .i64 x15.Amount]] := SH.ext hS472 hE665
    obtain rfl := Option.some.inj hm
    exact WQ.post' ⟨rfl, hb666, hL667, hS668⟩ ⟨rfl, trivial⟩
  have hm := iteT hm hc584
  refine QL.step1v 227 (.slice a464 x462.1.length c465) rfl (fun _ => by kernel_rfl) ?_
  refine QL.subk [19, 20, 21, 22, 23, 226, 227] [(19, .int .i64 x426), (20, .int .i64 x435), (21, .int .i64 x444), (22, .int .i64 x453), (23, .slice a464 x462.1.length c465), (226, .bool true), (227, .slice a464 x462.1.length c465)] (by kernel_rfl) ?_
  obtain ⟨x585, hx586, hm⟩ := bindE hm
  refine QL.st (.pointer (some (at_ a464 (Int.toNat 0 * 1)))) (ST.index (T := fInt.ty) (xs := x462.1) (SH.rd (SH.front 0 hS472)) hx586 rfl rfl rfl Try.underlying31 (info2).1 (info2).2.1) rfl rfl rfl ?_
  refine QL.st (.int .i64 x585) (ST.load (cell_ext (Rd.flat (F := fInt) (SH.rd (SH.front 0 hS472)) hx586 0 rfl)) rfl rfl Try.underlying2 rfl) rfl rfl rfl ?_
  refine QL.step1v 230 (.int .i64 x435) rfl (fun _ => by kernel_rfl) ?_
  refine QL.step1v 231 (.bool (decide (x585 ≤ x435))) rfl (fun _ => by kernel_rfl) ?_
  refine QL.step1v 232 (.bool (decide (x585 ≤ x435))) rfl (fun _ => by kernel_rfl) ?_
  refine QL.step1v 233 (.bool (decide (x585 ≤ x435))) rfl (fun _ => by kernel_rfl) ?_
  refine QL.subk [19, 20, 21, 22, 23, 233] [(19, .int .i64 x426), (20, .int .i64 x435), (21, .int .i64 x444), (22, .int .i64 x453), (23, .slice a464 x462.1.length c465), (233, .bool (decide (x585 ≤ x435)))] (by kernel_rfl) ?_
  refine QL.case (decide (x585 ≤ x435)) [233] ⟨rfl, trivial⟩ (fun hc587 => ?_) (fun hc587 => ?_)
  rotate_left
  · have hm := iteF hm hc587
    refine QL.step1v 234 undef rfl (fun _ => by kernel_rfl) ?_
    refine QL.step1v 235 undef rfl (fun _ => by kernel_rfl) ?_
    refine QL.step1v 236 undef rfl (fun _ => by kernel_rfl) ?_
    refine QL.step1v 237 undef rfl (fun _ => by kernel_rfl) ?_
    refine QL.step1v 238 (.bool false) rfl (fun _ => by kernel_rfl) ?_
    refine QL.step1v 239 (.bool false) rfl (fun _ => by kernel_rfl) ?_
    refine QL.step1v 240 undef rfl (fun _ => by kernel_rfl) ?_
    refine QL.step1v 241 undef rfl (fun _ => by kernel_rfl) ?_
    refine QL.step1v 242 undef rfl (fun _ => by kernel_rfl) ?_
    refine QL.step1v 243 undef rfl (fun _ => by kernel_rfl) ?_
    refine QL.step1v 244 undef rfl (fun _ => by kernel_rfl) ?_
    refine QL.step1v 245 (.bool false) rfl (fun _ => by kernel_rfl) ?_
    refine QL.step1v 246 (.bool false) rfl (fun _ => by kernel_rfl) ?_
    refine QL.step1v 247 undef rfl (fun _ => by kernel_rfl) ?_
    refine QL.step1v 248 undef rfl (fun _ => by kernel_rfl) ?_
    refine QL.step1v 249 undef rfl (fun _ => by kernel_rfl) ?_
    refine QL.step1v 250 undef rfl (fun _ => by kernel_rfl) ?_
    refine QL.step1v 251 undef rfl (fun _ => by kernel_rfl) ?_
    refine QL.step1v 252 undef rfl (fun _ => by kernel_rfl) ?_
    refine QL.step1v 253 undef rfl (fun _ => by kernel_rfl) ?_
    refine QL.step1v 254 (.bool false) rfl (fun _ => by kernel_rfl) ?_
    refine QL.step1v 255 (.bool false) rfl (fun _ => by kernel_rfl) ?_
    refine QL.step1v 256 undef rfl (fun _ => by kernel_rfl) ?_
    refine QL.step1v 257 undef rfl (fun _ => by kernel_rfl) ?_
    refine QL.step1v 258 undef rfl (fun _ => by kernel_rfl) ?_
    refine QL.step1v 259 undef rfl (fun _ => by kernel_rfl) ?_
    refine QL.step1v 260 undef rfl (fun _ => by kernel_rfl) ?_
    refine QL.step1v 261 undef rfl (fun _ => by kernel_rfl) ?_
    refine QL.step1v 262 undef rfl (fun _ => by kernel_rfl) ?_
    refine QL.step1v 263 undef rfl (fun _ => by kernel_rfl) ?_
    refine QL.step1v 264 undef rfl (fun _ => by kernel_rfl) ?_
    refine QL.step1v 265 (.bool false) rfl (fun _ => by kernel_rfl) ?_
    refine QL.step1v 266 (.bool false) rfl (fun _ => by kernel_rfl) ?_
    refine QL.step1v 267 undef rfl (fun _ => by kernel_rfl) ?_
    refine QL.step1v 268 undef rfl (fun _ => by kernel_rfl) ?_
    refine QL.step1v 269 undef rfl (fun _ => by kernel_rfl) ?_
    refine QL.step1v 270 undef rfl (fun _ => by kernel_rfl) ?_
    refine QL.step1v 271 undef rfl (fun _ => by kernel_rfl) ?_
    refine QL.step1v 272 undef rfl (fun _ => by kernel_rfl) ?_
    refine QL.step1v 273 undef rfl (fun _ => by kernel_rfl) ?_
    refine QL.step1v 274 undef rfl (fun _ => by kernel_rfl) ?_
    refine QL.step1v 275 undef rfl (fun _ => by kernel_rfl) ?_
    refine QL.step1v 276 (.bool false) rfl (fun _ => by kernel_rfl) ?_
    refine QL.step1v 277 (.bool false) rfl (fun _ => by kernel_rfl) ?_
    refine QL.step1v 278 undef rfl (fun _ => by kernel_rfl) ?_
    refine QL.step1v 279 undef rfl (fun _ => by kernel_rfl) ?_
    refine QL.step1v 280 undef rfl (fun _ => by kernel_rfl) ?_
    refine QL.step1v 281 undef rfl (fun _ => by kernel_rfl) ?_
    refine QL.step1v 282 undef rfl (fun _ => by kernel_rfl) ?_
    refine QL.step1v 283 undef rfl (fun _ => by kernel_rfl) ?_
    refine QL.step1v 284 undef rfl (fun _ => by kernel_rfl) ?_
    refine QL.step1v 285 undef rfl (fun _ => by kernel_rfl) ?_
    refine QL.step1v 286 undef rfl (fun _ => by kernel_rfl) ?_
    refine QL.step1v 287 undef rfl (fun _ => by kernel_rfl) ?_
    refine QL.step1v 288 undef rfl (fun _ => by kernel_rfl) ?_
    refine QL.step1v 289 undef rfl (fun _ => by kernel_rfl) ?_
    refine QL.step1v 290 undef rfl (fun _ => by kernel_rfl) ?_
    refine QL.step1v 291 undef rfl (fun _ => by kernel_rfl) ?_
    refine QL.step1v 292 undef rfl (fun _ => by kernel_rfl) ?_
    refine QL.step1v 293 undef rfl (fun _ => by kernel_rfl) ?_
    refine QL.step1v 294 undef rfl (fun _ => by kernel_rfl) ?_
    refine QL.step1v 295 undef rfl (fun _ => by kernel_rfl) ?_
    refine QL.step1v 296 undef rfl (fun _ => by kernel_rfl) ?_
    refine QL.step1v 297 undef rfl (fun _ => by kernel_rfl) ?_
    refine QL.step1v 298 undef rfl (fun _ => by kernel_rfl) ?_
    refine QL.step1v 299 undef rfl (fun _ => by kernel_rfl) ?_
    refine QL.step1v 300 (.bool false) rfl (fun _ => by kernel_rfl) ?_
    refine QL.step1v 4 (.bool false) rfl (fun _ => by kernel_rfl) ?_
    refine QL.subk [4] [(4, .bool false)] (by kernel_rfl) ?_
    refine QL.nil ?_
    intro w659 hE660
    have hb661 : Ext w w659 := Ext.trans hb470 hE660
    have hL662 : w.heap.size ≤ w659.heap.size := Nat.le_trans hL471 hE660.size
    have hS663 : SH w659 w.heap.size [aOwn fInt 2 a464 c465 x462.1, aOwn fChange 42 a271 c272 x269, aOwn fInt 2 a48 c49 x46.1, aBox 42 b23 [.int .i64 x15.Kind, .int .i64 x15.Amount]] := SH.ext hS472 hE660
    obtain rfl := Option.some.inj hm
    exact WQ.post' ⟨rfl, hb661, hL662, hS663⟩ ⟨rfl, trivial⟩
  have hm := iteT hm hc587
  refine QL.step1v 234 (.slice a464 x462.1.length c465) rfl (fun _ => by kernel_rfl) ?_
  refine QL.subk [19, 20, 21, 22, 23, 233, 234] [(19, .int .i64 x426), (20, .int .i64 x435), (21, .int .i64 x444), (22, .int .i64 x453), (23, .slice a464 x462.1.length c465), (233, .bool true), (234, .slice a464 x462.1.length c465)] (by kernel_rfl) ?_
  obtain ⟨x588, hx589, hm⟩ := bindE hm
  refine QL.st (.pointer (some (at_ a464 (Int.toNat 2 * 1)))) (ST.index (T := fInt.ty) (xs := x462.1) (SH.rd (SH.front 0 hS472)) hx589 rfl rfl rfl Try.underlying31 (info2).1 (info2).2.1) rfl rfl rfl ?_
  refine QL.st (.int .i64 x588) (ST.load (cell_ext (Rd.flat (F := fInt) (SH.rd (SH.front 0 hS472)) hx589 0 rfl)) rfl rfl Try.underlying2 rfl) rfl rfl rfl ?_
  refine QL.step1v 237 (.bool (decide (x588 ≥ 0))) rfl (fun _ => by kernel_rfl) ?_
  refine QL.step1v 238 (.bool (decide (x588 ≥ 0))) rfl (fun _ => by kernel_rfl) ?_
  refine QL.step1v 239 (.bool (decide (x588 ≥ 0))) rfl (fun _ => by kernel_rfl) ?_
  refine QL.subk [19, 20, 21, 22, 23, 239] [(19, .int .i64 x426), (20, .int .i64 x435), (21, .int .i64 x444), (22, .int .i64 x453), (23, .slice a464 x462.1.length c465), (239, .bool (decide (x588 ≥ 0)))] (by kernel_rfl) ?_
  refine QL.case (decide (x588 ≥ 0)) [239] ⟨rfl, trivial⟩ (fun hc590 => ?_) (fun hc590 => ?_)
  rotate_left
  · have hm := iteF hm hc590
    refine QL.step1v 240 undef rfl (fun _ => by kernel_rfl) ?_
    refine QL.step1v 241 undef rfl (fun _ => by kernel_rfl) ?_
    refine QL.step1v 242 undef rfl (fun _ => by kernel_rfl) ?_
    refine QL.step1v 243 undef rfl (fun _ => by kernel_rfl) ?_
    refine QL.step1v 244 undef rfl (fun _ => by kernel_rfl) ?_
    refine QL.step1v 245 (.bool false) rfl (fun _ => by kernel_rfl) ?_
    refine QL.step1v 246 (.bool false) rfl (fun _ => by kernel_rfl) ?_
    refine QL.step1v 247 undef rfl (fun _ => by kernel_rfl) ?_
    refine QL.step1v 248 undef rfl (fun _ => by kernel_rfl) ?_
    refine QL.step1v 249 undef rfl (fun _ => by kernel_rfl) ?_
    refine QL.step1v 250 undef rfl (fun _ => by kernel_rfl) ?_
    refine QL.step1v 251 undef rfl (fun _ => by kernel_rfl) ?_
    refine QL.step1v 252 undef rfl (fun _ => by kernel_rfl) ?_
    refine QL.step1v 253 undef rfl (fun _ => by kernel_rfl) ?_
    refine QL.step1v 254 (.bool false) rfl (fun _ => by kernel_rfl) ?_
    refine QL.step1v 255 (.bool false) rfl (fun _ => by kernel_rfl) ?_
    refine QL.step1v 256 undef rfl (fun _ => by kernel_rfl) ?_
    refine QL.step1v 257 undef rfl (fun _ => by kernel_rfl) ?_
    refine QL.step1v 258 undef rfl (fun _ => by kernel_rfl) ?_
    refine QL.step1v 259 undef rfl (fun _ => by kernel_rfl) ?_
    refine QL.step1v 260 undef rfl (fun _ => by kernel_rfl) ?_
    refine QL.step1v 261 undef rfl (fun _ => by kernel_rfl) ?_
    refine QL.step1v 262 undef rfl (fun _ => by kernel_rfl) ?_
    refine QL.step1v 263 undef rfl (fun _ => by kernel_rfl) ?_
    refine QL.step1v 264 undef rfl (fun _ => by kernel_rfl) ?_
    refine QL.step1v 265 (.bool false) rfl (fun _ => by kernel_rfl) ?_
    refine QL.step1v 266 (.bool false) rfl (fun _ => by kernel_rfl) ?_
    refine QL.step1v 267 undef rfl (fun _ => by kernel_rfl) ?_
    refine QL.step1v 268 undef rfl (fun _ => by kernel_rfl) ?_
    refine QL.step1v 269 undef rfl (fun _ => by kernel_rfl) ?_
    refine QL.step1v 270 undef rfl (fun _ => by kernel_rfl) ?_
    refine QL.step1v 271 undef rfl (fun _ => by kernel_rfl) ?_
    refine QL.step1v 272 undef rfl (fun _ => by kernel_rfl) ?_
    refine QL.step1v 273 undef rfl (fun _ => by kernel_rfl) ?_
    refine QL.step1v 274 undef rfl (fun _ => by kernel_rfl) ?_
    refine QL.step1v 275 undef rfl (fun _ => by kernel_rfl) ?_
    refine QL.step1v 276 (.bool false) rfl (fun _ => by kernel_rfl) ?_
    refine QL.step1v 277 (.bool false) rfl (fun _ => by kernel_rfl) ?_
    refine QL.step1v 278 undef rfl (fun _ => by kernel_rfl) ?_
    refine QL.step1v 279 undef rfl (fun _ => by kernel_rfl) ?_
    refine QL.step1v 280 undef rfl (fun _ => by kernel_rfl) ?_
    refine QL.step1v 281 undef rfl (fun _ => by kernel_rfl) ?_
    refine QL.step1v 282 undef rfl (fun _ => by kernel_rfl) ?_
    refine QL.step1v 283 undef rfl (fun _ => by kernel_rfl) ?_
    refine QL.step1v 284 undef rfl (fun _ => by kernel_rfl) ?_
    refine QL.step1v 285 undef rfl (fun _ => by kernel_rfl) ?_
    refine QL.step1v 286 undef rfl (fun _ => by kernel_rfl) ?_
    refine QL.step1v 287 undef rfl (fun _ => by kernel_rfl) ?_
    refine QL.step1v 288 undef rfl (fun _ => by kernel_rfl) ?_
    refine QL.step1v 289 undef rfl (fun _ => by kernel_rfl) ?_
    refine QL.step1v 290 undef rfl (fun _ => by kernel_rfl) ?_
    refine QL.step1v 291 undef rfl (fun _ => by kernel_rfl) ?_
    refine QL.step1v 292 undef rfl (fun _ => by kernel_rfl) ?_
    refine QL.step1v 293 undef rfl (fun _ => by kernel_rfl) ?_
    refine QL.step1v 294 undef rfl (fun _ => by kernel_rfl) ?_
    refine QL.step1v 295 undef rfl (fun _ => by kernel_rfl) ?_
    refine QL.step1v 296 undef rfl (fun _ => by kernel_rfl) ?_
    refine QL.step1v 297 undef rfl (fun _ => by kernel_rfl) ?_
    refine QL.step1v 298 undef rfl (fun _ => by kernel_rfl) ?_
    refine QL.step1v 299 undef rfl (fun _ => by kernel_rfl) ?_
    refine QL.step1v 300 (.bool false) rfl (fun _ => by kernel_rfl) ?_
    refine QL.step1v 4 (.bool false) rfl (fun _ => by kernel_rfl) ?_
    refine QL.subk [4] [(4, .bool false)] (by kernel_rfl) ?_
    refine QL.nil ?_
    intro w654 hE655
    have hb656 : Ext w w654 := Ext.trans hb470 hE655
    have hL657 : w.heap.size ≤ w654.heap.size := Nat.le_trans hL471 hE655.size
    have hS658 : SH w654 w.heap.size [aOwn fInt 2 a464 c465 x462.1, aOwn fChange 42 a271 c272 x269, aOwn fInt 2 a48 c49 x46.1, aBox 42 b23 [.int .i64 x15.Kind, .int .i64 x15.Amount]] := SH.ext hS472 hE655
    obtain rfl := Option.some.inj hm
    exact WQ.post' ⟨rfl, hb656, hL657, hS658⟩ ⟨rfl, trivial⟩
  have hm := iteT hm hc590
  refine QL.step1v 240 (.slice a464 x462.1.length c465) rfl (fun _ => by kernel_rfl) ?_
  refine QL.subk [19, 20, 21, 22, 23, 239, 240] [(19, .int .i64 x426), (20, .int .i64 x435), (21, .int .i64 x444), (22, .int .i64 x453), (23, .slice a464 x462.1.length c465), (239, .bool true), (240, .slice a464 x462.1.length c465)] (by kernel_rfl) ?_
  obtain ⟨x591, hx592, hm⟩ := bindE hm
  refine QL.st (.pointer (some (at_ a464 (Int.toNat 2 * 1)))) (ST.index (T := fInt.ty) (xs := x462.1) (SH.rd (SH.front 0 hS472)) hx592 rfl rfl rfl Try.underlying31 (info2).1 (info2).2.1) rfl rfl rfl ?_
  refine QL.st (.int .i64 x591) (ST.load (cell_ext (Rd.flat (F := fInt) (SH.rd (SH.front 0 hS472)) hx592 0 rfl)) rfl rfl Try.underlying2 rfl) rfl rfl rfl ?_
  refine QL.step1v 243 (.int .i64 x453) rfl (fun _ => by kernel_rfl) ?_
  refine QL.step1v 244 (.bool (decide (x591 ≤ x453))) rfl (fun _ => by kernel_rfl) ?_
  refine QL.step1v 245 (.bool (decide (x591 ≤ x453))) rfl (fun _ => by kernel_rfl) ?_
  refine QL.step1v 246 (.bool (decide (x591 ≤ x453))) rfl (fun _ => by kernel_rfl) ?_
  refine QL.subk [19, 20, 21, 23, 246] [(19, .int .i64 x426), (20, .int .i64 x435), (21, .int .i64 x444), (23, .slice a464 x462.1.length c465), (246, .bool (decide (x591 ≤ x453)))] (by kernel_rfl) ?_
  refine QL.case (decide (x591 ≤ x453)) [246] ⟨rfl, trivial⟩ (fun hc593 => ?_) (fun hc593 => ?_)
  rotate_left
  · have hm := iteF hm hc593
    refine QL.step1v 247 undef rfl (fun _ => by kernel_rfl) ?_
    refine QL.step1v 248 undef rfl (fun _ => by kernel_rfl) ?_
    refine QL.step1v 249 undef rfl (fun _ => by kernel_rfl) ?_
    refine QL.step1v 250 undef rfl (fun _ => by kernel_rfl) ?_
    refine QL.step1v 251 undef rfl (fun _ => by kernel_rfl) ?_
    refine QL.step1v 252 undef rfl (fun _ => by kernel_rfl) ?_
    refine QL.step1v 253 undef rfl (fun _ => by kernel_rfl) ?_
    refine QL.step1v 254 (.bool false) rfl (fun _ => by kernel_rfl) ?_
    refine QL.step1v 255 (.bool false) rfl (fun _ => by kernel_rfl) ?_
    refine QL.step1v 256 undef rfl (fun _ => by kernel_rfl) ?_
    refine QL.step1v 257 undef rfl (fun _ => by kernel_rfl) ?_
    refine QL.step1v 258 undef rfl (fun _ => by kernel_rfl) ?_
    refine QL.step1v 259 undef rfl (fun _ => by kernel_rfl) ?_
    refine QL.step1v 260 undef rfl (fun _ => by kernel_rfl) ?_
    refine QL.step1v 261 undef rfl (fun _ => by kernel_rfl) ?_
    refine QL.step1v 262 undef rfl (fun _ => by kernel_rfl) ?_
    refine QL.step1v 263 undef rfl (fun _ => by kernel_rfl) ?_
    refine QL.step1v 264 undef rfl (fun _ => by kernel_rfl) ?_
    refine QL.step1v 265 (.bool false) rfl (fun _ => by kernel_rfl) ?_
    refine QL.step1v 266 (.bool false) rfl (fun _ => by kernel_rfl) ?_
    refine QL.step1v 267 undef rfl (fun _ => by kernel_rfl) ?_
    refine QL.step1v 268 undef rfl (fun _ => by kernel_rfl) ?_
    refine QL.step1v 269 undef rfl (fun _ => by kernel_rfl) ?_
    refine QL.step1v 270 undef rfl (fun _ => by kernel_rfl) ?_
    refine QL.step1v 271 undef rfl (fun _ => by kernel_rfl) ?_
    refine QL.step1v 272 undef rfl (fun _ => by kernel_rfl) ?_
    refine QL.step1v 273 undef rfl (fun _ => by kernel_rfl) ?_
    refine QL.step1v 274 undef rfl (fun _ => by kernel_rfl) ?_
    refine QL.step1v 275 undef rfl (fun _ => by kernel_rfl) ?_
    refine QL.step1v 276 (.bool false) rfl (fun _ => by kernel_rfl) ?_
    refine QL.step1v 277 (.bool false) rfl (fun _ => by kernel_rfl) ?_
    refine QL.step1v 278 undef rfl (fun _ => by kernel_rfl) ?_
    refine QL.step1v 279 undef rfl (fun _ => by kernel_rfl) ?_
    refine QL.step1v 280 undef rfl (fun _ => by kernel_rfl) ?_
    refine QL.step1v 281 undef rfl (fun _ => by kernel_rfl) ?_
    refine QL.step1v 282 undef rfl (fun _ => by kernel_rfl) ?_
    refine QL.step1v 283 undef rfl (fun _ => by kernel_rfl) ?_
    refine QL.step1v 284 undef rfl (fun _ => by kernel_rfl) ?_
    refine QL.step1v 285 undef rfl (fun _ => by kernel_rfl) ?_
    refine QL.step1v 286 undef rfl (fun _ => by kernel_rfl) ?_
    refine QL.step1v 287 undef rfl (fun _ => by kernel_rfl) ?_
    refine QL.step1v 288 undef rfl (fun _ => by kernel_rfl) ?_
    refine QL.step1v 289 undef rfl (fun _ => by kernel_rfl) ?_
    refine QL.step1v 290 undef rfl (fun _ => by kernel_rfl) ?_
    refine QL.step1v 291 undef rfl (fun _ => by kernel_rfl) ?_
    refine QL.step1v 292 undef rfl (fun _ => by kernel_rfl) ?_
    refine QL.step1v 293 undef rfl (fun _ => by kernel_rfl) ?_
    refine QL.step1v 294 undef rfl (fun _ => by kernel_rfl) ?_
    refine QL.step1v 295 undef rfl (fun _ => by kernel_rfl) ?_
    refine QL.step1v 296 undef rfl (fun _ => by kernel_rfl) ?_
    refine QL.step1v 297 undef rfl (fun _ => by kernel_rfl) ?_
    refine QL.step1v 298 undef rfl (fun _ => by kernel_rfl) ?_
    refine QL.step1v 299 undef rfl (fun _ => by kernel_rfl) ?_
    refine QL.step1v 300 (.bool false) rfl (fun _ => by kernel_rfl) ?_
    refine QL.step1v 4 (.bool false) rfl (fun _ => by kernel_rfl) ?_
    refine QL.subk [4] [(4, .bool false)] (by kernel_rfl) ?_
    refine QL.nil ?_
    intro w649 hE650
    have hb651 : Ext w w649 := Ext.trans hb470 hE650
    have hL652 : w.heap.size ≤ w649.heap.size := Nat.le_trans hL471 hE650.size
    have hS653 : SH w649 w.heap.size [aOwn fInt 2 a464 c465 x462.1, aOwn fChange 42 a271 c272 x269, aOwn fInt 2 a48 c49 x46.1, aBox 42 b23 [.int .i64 x15.Kind, .int .i64 x15.Amount]] := SH.ext hS472 hE650
    obtain rfl := Option.some.inj hm
    exact WQ.post' ⟨rfl, hb651, hL652, hS653⟩ ⟨rfl, trivial⟩
  have hm := iteT hm hc593
  refine QL.step1v 247 (.slice a464 x462.1.length c465) rfl (fun _ => by kernel_rfl) ?_
  refine QL.subk [19, 20, 21, 23, 246, 247] [(19, .int .i64 x426), (20, .int .i64 x435), (21, .int .i64 x444), (23, .slice a464 x462.1.length c465), (246, .bool true), (247, .slice a464 x462.1.length c465)] (by kernel_rfl) ?_
  obtain ⟨x594, hx595, hm⟩ := bindE hm
  refine QL.st (.pointer (some (at_ a464 (Int.toNat 1 * 1)))) (ST.index (T := fInt.ty) (xs := x462.1) (SH.rd (SH.front 0 hS472)) hx595 rfl rfl rfl Try.underlying31 (info2).1 (info2).2.1) rfl rfl rfl ?_
  refine QL.st (.int .i64 x594) (ST.load (cell_ext (Rd.flat (F := fInt) (SH.rd (SH.front 0 hS472)) hx595 0 rfl)) rfl rfl Try.underlying2 rfl) rfl rfl rfl ?_
  refine QL.step1v 250 (.slice a464 x462.1.length c465) rfl (fun _ => by kernel_rfl) ?_
  refine QL.subk [19, 20, 21, 23, 246, 249, 250] [(19, .int .i64 x426), (20, .int .i64 x435), (21, .int .i64 x444), (23, .slice a464 x462.1.length c465), (246, .bool true), (249, .int .i64 x594), (250, .slice a464 x462.1.length c465)] (by kernel_rfl) ?_
  obtain ⟨x596, hx597, hm⟩ := bindE hm
  refine QL.st (.pointer (some (at_ a464 (Int.toNat 2 * 1)))) (ST.index (T := fInt.ty) (xs := x462.1) (SH.rd (SH.front 0 hS472)) hx597 rfl rfl rfl Try.underlying31 (info2).1 (info2).2.1) rfl rfl rfl ?_
  refine QL.st (.int .i64 x596) (ST.load (cell_ext (Rd.flat (F := fInt) (SH.rd (SH.front 0 hS472)) hx597 0 rfl)) rfl rfl Try.underlying2 rfl) rfl rfl rfl ?_
  refine QL.step1v 253 (.bool (decide (x594 ≥ x596))) rfl (fun _ => by kernel_rfl) ?_
  refine QL.step1v 254 (.bool (decide (x594 ≥ x596))) rfl (fun _ => by kernel_rfl) ?_
  refine QL.step1v 255 (.bool (decide (x594 ≥ x596))) rfl (fun _ => by kernel_rfl) ?_
  refine QL.subk [19, 20, 21, 23, 255] [(19, .int .i64 x426), (20, .int .i64 x435), (21, .int .i64 x444), (23, .slice a464 x462.1.length c465), (255, .bool (decide (x594 ≥ x596)))] (by kernel_rfl) ?_
  refine QL.case (decide (x594 ≥ x596)) [255] ⟨rfl, trivial⟩ (fun hc598 => ?_) (fun hc598 => ?_)
  rotate_left
  · have hm := iteF hm hc598
    refine QL.step1v 256 undef rfl (fun _ => by kernel_rfl) ?_
    refine QL.step1v 257 undef rfl (fun _ => by kernel_rfl) ?_
    refine QL.step1v 258 undef rfl (fun _ => by kernel_rfl) ?_
    refine QL.step1v 259 undef rfl (fun _ => by kernel_rfl) ?_
    refine QL.step1v 260 undef rfl (fun _ => by kernel_rfl) ?_
    refine QL.step1v 261 undef rfl (fun _ => by kernel_rfl) ?_
    refine QL.step1v 262 undef rfl (fun _ => by kernel_rfl) ?_
    refine QL.step1v 263 undef rfl (fun _ => by kernel_rfl) ?_
    refine QL.step1v 264 undef rfl (fun _ => by kernel_rfl) ?_
    refine QL.step1v 265 (.bool false) rfl (fun _ => by kernel_rfl) ?_
    refine QL.step1v 266 (.bool false) rfl (fun _ => by kernel_rfl) ?_
    refine QL.step1v 267 undef rfl (fun _ => by kernel_rfl) ?_
    refine QL.step1v 268 undef rfl (fun _ => by kernel_rfl) ?_
    refine QL.step1v 269 undef rfl (fun _ => by kernel_rfl) ?_
    refine QL.step1v 270 undef rfl (fun _ => by kernel_rfl) ?_
    refine QL.step1v 271 undef rfl (fun _ => by kernel_rfl) ?_
    refine QL.step1v 272 undef rfl (fun _ => by kernel_rfl) ?_
    refine QL.step1v 273 undef rfl (fun _ => by kernel_rfl) ?_
    refine QL.step1v 274 undef rfl (fun _ => by kernel_rfl) ?_
    refine QL.step1v 275 undef rfl (fun _ => by kernel_rfl) ?_
    refine QL.step1v 276 (.bool false) rfl (fun _ => by kernel_rfl) ?_
    refine QL.step1v 277 (.bool false) rfl (fun _ => by kernel_rfl) ?_
    refine QL.step1v 278 undef rfl (fun _ => by kernel_rfl) ?_
    refine QL.step1v 279 undef rfl (fun _ => by kernel_rfl) ?_
    refine QL.step1v 280 undef rfl (fun _ => by kernel_rfl) ?_
    refine QL.step1v 281 undef rfl (fun _ => by kernel_rfl) ?_
    refine QL.step1v 282 undef rfl (fun _ => by kernel_rfl) ?_
    refine QL.step1v 283 undef rfl (fun _ => by kernel_rfl) ?_
    refine QL.step1v 284 undef rfl (fun _ => by kernel_rfl) ?_
    refine QL.step1v 285 undef rfl (fun _ => by kernel_rfl) ?_
    refine QL.step1v 286 undef rfl (fun _ => by kernel_rfl) ?_
    refine QL.step1v 287 undef rfl (fun _ => by kernel_rfl) ?_
    refine QL.step1v 288 undef rfl (fun _ => by kernel_rfl) ?_
    refine QL.step1v 289 undef rfl (fun _ => by kernel_rfl) ?_
    refine QL.step1v 290 undef rfl (fun _ => by kernel_rfl) ?_
    refine QL.step1v 291 undef rfl (fun _ => by kernel_rfl) ?_
    refine QL.step1v 292 undef rfl (fun _ => by kernel_rfl) ?_
    refine QL.step1v 293 undef rfl (fun _ => by kernel_rfl) ?_
    refine QL.step1v 294 undef rfl (fun _ => by kernel_rfl) ?_
    refine QL.step1v 295 undef rfl (fun _ => by kernel_rfl) ?_
    refine QL.step1v 296 undef rfl (fun _ => by kernel_rfl) ?_
    refine QL.step1v 297 undef rfl (fun _ => by kernel_rfl) ?_
    refine QL.step1v 298 undef rfl (fun _ => by kernel_rfl) ?_
    refine QL.step1v 299 undef rfl (fun _ => by kernel_rfl) ?_
    refine QL.step1v 300 (.bool false) rfl (fun _ => by kernel_rfl) ?_
    refine QL.step1v 4 (.bool false) rfl (fun _ => by kernel_rfl) ?_
    refine QL.subk [4] [(4, .bool false)] (by kernel_rfl) ?_
    refine QL.nil ?_
    intro w644 hE645
    have hb646 : Ext w w644 := Ext.trans hb470 hE645
    have hL647 : w.heap.size ≤ w644.heap.size := Nat.le_trans hL471 hE645.size
    have hS648 : SH w644 w.heap.size [aOwn fInt 2 a464 c465 x462.1, aOwn fChange 42 a271 c272 x269, aOwn fInt 2 a48 c49 x46.1, aBox 42 b23 [.int .i64 x15.Kind, .int .i64 x15.Amount]] := SH.ext hS472 hE645
    obtain rfl := Option.some.inj hm
    exact WQ.post' ⟨rfl, hb646, hL647, hS648⟩ ⟨rfl, trivial⟩
  have hm := iteT hm hc598
  refine QL.step1v 256 (.slice a464 x462.1.length c465) rfl (fun _ => by kernel_rfl) ?_
  refine QL.subk [19, 20, 21, 23, 255, 256] [(19, .int .i64 x426), (20, .int .i64 x435), (21, .int .i64 x444), (23, .slice a464 x462.1.length c465), (255, .bool true), (256, .slice a464 x462.1.length c465)] (by kernel_rfl) ?_
  obtain ⟨x599, hx600, hm⟩ := bindE hm
  refine QL.st (.pointer (some (at_ a464 (Int.toNat 1 * 1)))) (ST.index (T := fInt.ty) (xs := x462.1) (SH.rd (SH.front 0 hS472)) hx600 rfl rfl rfl Try.underlying31 (info2).1 (info2).2.1) rfl rfl rfl ?_
  refine QL.st (.int .i64 x599) (ST.load (cell_ext (Rd.flat (F := fInt) (SH.rd (SH.front 0 hS472)) hx600 0 rfl)) rfl rfl Try.underlying2 rfl) rfl rfl rfl ?_
  refine QL.step1v 259 (.slice a464 x462.1.length c465) rfl (fun _ => by kernel_rfl) ?_
  refine QL.subk [19, 20, 21, 23, 255, 258, 259] [(19, .int .i64 x426), (20, .int .i64 x435), (21, .int .i64 x444), (23, .slice a464 x462.1.length c465), (255, .bool true), (258, .int .i64 x599), (259, .slice a464 x462.1.length c465)] (by kernel_rfl) ?_
  obtain ⟨x601, hx602, hm⟩ := bindE hm
  refine QL.st (.pointer (some (at_ a464 (Int.toNat 2 * 1)))) (ST.index (T := fInt.ty) (xs := x462.1) (SH.rd (SH.front 0 hS472)) hx602 rfl rfl rfl Try.underlying31 (info2).1 (info2).2.1) rfl rfl rfl ?_
  refine QL.st (.int .i64 x601) (ST.load (cell_ext (Rd.flat (F := fInt) (SH.rd (SH.front 0 hS472)) hx602 0 rfl)) rfl rfl Try.underlying2 rfl) rfl rfl rfl ?_
  refine QL.step1v 262 (.int .i64 (wI64 (x599 - x601))) rfl (fun _ => by kernel_rfl) ?_
  refine QL.step1v 263 (.int .i64 x444) rfl (fun _ => by kernel_rfl) ?_
  refine QL.step1v 264 (.bool (decide ((wI64 (x599 - x601)) ≤ x444))) rfl (fun _ => by kernel_rfl) ?_
  refine QL.step1v 265 (.bool (decide ((wI64 (x599 - x601)) ≤ x444))) rfl (fun _ => by kernel_rfl) ?_
  refine QL.step1v 266 (.bool (decide ((wI64 (x599 - x601)) ≤ x444))) rfl (fun _ => by kernel_rfl) ?_
  refine QL.subk [19, 20, 21, 23, 266] [(19, .int .i64 x426), (20, .int .i64 x435), (21, .int .i64 x444), (23, .slice a464 x462.1.length c465), (266, .bool (decide ((wI64 (x599 - x601)) ≤ x444)))] (by kernel_rfl) ?_
  refine QL.case (decide ((wI64 (x599 - x601)) ≤ x444)) [266] ⟨rfl, trivial⟩ (fun hc603 => ?_) (fun hc603 => ?_)
  rotate_left
  · have hm := iteF hm hc603
    refine QL.step1v 267 undef rfl (fun _ => by kernel_rfl) ?_
    refine QL.step1v 268 undef rfl (fun _ => by kernel_rfl) ?_
    refine QL.step1v 269 undef rfl (fun _ => by kernel_rfl) ?_
    refine QL.step1v 270 undef rfl (fun _ => by kernel_rfl) ?_
    refine QL.step1v 271 undef rfl (fun _ => by kernel_rfl) ?_
    refine QL.step1v 272 undef rfl (fun _ => by kernel_rfl) ?_
    refine QL.step1v 273 undef rfl (fun _ => by kernel_rfl) ?_
    refine QL.step1v 274 undef rfl (fun _ => by kernel_rfl) ?_
    refine QL.step1v 275 undef rfl (fun _ => by kernel_rfl) ?_
    refine QL.step1v 276 (.bool false) rfl (fun _ => by kernel_rfl) ?_
    refine QL.step1v 277 (.bool false) rfl (fun _ => by kernel_rfl) ?_
    refine QL.step1v 278 undef rfl (fun _ => by kernel_rfl) ?_
    refine QL.step1v 279 undef rfl (fun _ => by kernel_rfl) ?_
    refine QL.step1v 280 undef rfl (fun _ => by kernel_rfl) ?_
    refine QL.step1v 281 undef rfl (fun _ => by kernel_rfl) ?_
    refine QL.step1v 282 undef rfl (fun _ => by kernel_rfl) ?_
    refine QL.step1v 283 undef rfl (fun _ => by kernel_rfl) ?_
    refine QL.step1v 284 undef rfl (fun _ => by kernel_rfl) ?_
    refine QL.step1v 285 undef rfl (fun _ => by kernel_rfl) ?_
    refine QL.step1v 286 undef rfl (fun _ => by kernel_rfl) ?_
    refine QL.step1v 287 undef rfl (fun _ => by kernel_rfl) ?_
    refine QL.step1v 288 undef rfl (fun _ => by kernel_rfl) ?_
    refine QL.step1v 289 undef rfl (fun _ => by kernel_rfl) ?_
    refine QL.step1v 290 undef rfl (fun _ => by kernel_rfl) ?_
    refine QL.step1v 291 undef rfl (fun _ => by kernel_rfl) ?_
    refine QL.step1v 292 undef rfl (fun _ => by kernel_rfl) ?_
    refine QL.step1v 293 undef rfl (fun _ => by kernel_rfl) ?_
    refine QL.step1v 294 undef rfl (fun _ => by kernel_rfl) ?_
    refine QL.step1v 295 undef rfl (fun _ => by kernel_rfl) ?_
    refine QL.step1v 296 undef rfl (fun _ => by kernel_rfl) ?_
    refine QL.step1v 297 undef rfl (fun _ => by kernel_rfl) ?_
    refine QL.step1v 298 undef rfl (fun _ => by kernel_rfl) ?_
    refine QL.step1v 299 undef rfl (fun _ => by kernel_rfl) ?_
    refine QL.step1v 300 (.bool false) rfl (fun _ => by kernel_rfl) ?_
    refine QL.step1v 4 (.bool false) rfl (fun _ => by kernel_rfl) ?_
    refine QL.subk [4] [(4, .bool false)] (by kernel_rfl) ?_
    refine QL.nil ?_
    intro w639 hE640
    have hb641 : Ext w w639 := Ext.trans hb470 hE640
    have hL642 : w.heap.size ≤ w639.heap.size := Nat.le_trans hL471 hE640.size
    have hS643 : SH w639 w.heap.size [aOwn fInt 2 a464 c465 x462.1, aOwn fChange 42 a271 c272 x269, aOwn fInt 2 a48 c49 x46.1, aBox 42 b23 [.int .i64 x15.Kind, .int .i64 x15.Amount]] := SH.ext hS472 hE640
    obtain rfl := Option.some.inj hm
    exact WQ.post' ⟨rfl, hb641, hL642, hS643⟩ ⟨rfl, trivial⟩
  have hm := iteT hm hc603
  refine QL.step1v 267 (.slice a464 x462.1.length c465) rfl (fun _ => by kernel_rfl) ?_
  refine QL.subk [19, 20, 21, 23, 266, 267] [(19, .int .i64 x426), (20, .int .i64 x435), (21, .int .i64 x444), (23, .slice a464 x462.1.length c465), (266, .bool true), (267, .slice a464 x462.1.length c465)] (by kernel_rfl) ?_
  obtain ⟨x604, hx605, hm⟩ := bindE hm
  refine QL.st (.pointer (some (at_ a464 (Int.toNat 0 * 1)))) (ST.index (T := fInt.ty) (xs := x462.1) (SH.rd (SH.front 0 hS472)) hx605 rfl rfl rfl Try.underlying31 (info2).1 (info2).2.1) rfl rfl rfl ?_
  refine QL.st (.int .i64 x604) (ST.load (cell_ext (Rd.flat (F := fInt) (SH.rd (SH.front 0 hS472)) hx605 0 rfl)) rfl rfl Try.underlying2 rfl) rfl rfl rfl ?_
  refine QL.step1v 270 (.slice a464 x462.1.length c465) rfl (fun _ => by kernel_rfl) ?_
  refine QL.subk [19, 20, 21, 23, 266, 269, 270] [(19, .int .i64 x426), (20, .int .i64 x435), (21, .int .i64 x444), (23, .slice a464 x462.1.length c465), (266, .bool true), (269, .int .i64 x604), (270, .slice a464 x462.1.length c465)] (by kernel_rfl) ?_
  obtain ⟨x606, hx607, hm⟩ := bindE hm
  refine QL.st (.pointer (some (at_ a464 (Int.toNat 1 * 1)))) (ST.index (T := fInt.ty) (xs := x462.1) (SH.rd (SH.front 0 hS472)) hx607 rfl rfl rfl Try.underlying31 (info2).1 (info2).2.1) rfl rfl rfl ?_
  refine QL.st (.int .i64 x606) (ST.load (cell_ext (Rd.flat (F := fInt) (SH.rd (SH.front 0 hS472)) hx607 0 rfl)) rfl rfl Try.underlying2 rfl) rfl rfl rfl ?_
  refine QL.step1v 273 (.int .i64 (wI64 (x604 + x606))) rfl (fun _ => by kernel_rfl) ?_
  refine QL.step1v 274 (.int .i64 x426) rfl (fun _ => by kernel_rfl) ?_
  refine QL.step1v 275 (.bool ((wI64 (x604 + x606)) == x426)) rfl (fun _ => by kernel_rfl) ?_
  refine QL.step1v 276 (.bool ((wI64 (x604 + x606)) == x426)) rfl (fun _ => by kernel_rfl) ?_
  refine QL.step1v 277 (.bool ((wI64 (x604 + x606)) == x426)) rfl (fun _ => by kernel_rfl) ?_
  refine QL.subk [20, 21, 23, 277] [(20, .int .i64 x435), (21, .int .i64 x444), (23, .slice a464 x462.1.length c465), (277, .bool ((wI64 (x604 + x606)) == x426))] (by kernel_rfl) ?_
  refine QL.case ((wI64 (x604 + x606)) == x426) [277] ⟨rfl, trivial⟩ (fun hc608 => ?_) (fun hc608 => ?_)
  rotate_left
  · have hm := iteF hm hc608
    refine QL.step1v 278 undef rfl (fun _ => by kernel_rfl) ?_
    refine QL.step1v 279 undef rfl (fun _ => by kernel_rfl) ?_
    refine QL.step1v 280 undef rfl (fun _ => by kernel_rfl) ?_
    refine QL.step1v 281 undef rfl (fun _ => by kernel_rfl) ?_
    refine QL.step1v 282 undef rfl (fun _ => by kernel_rfl) ?_
    refine QL.step1v 283 undef rfl (fun _ => by kernel_rfl) ?_
    refine QL.step1v 284 undef rfl (fun _ => by kernel_rfl) ?_
    refine QL.step1v 285 undef rfl (fun _ => by kernel_rfl) ?_
    refine QL.step1v 286 undef rfl (fun _ => by kernel_rfl) ?_
    refine QL.step1v 287 undef rfl (fun _ => by kernel_rfl) ?_
    refine QL.step1v 288 undef rfl (fun _ => by kernel_rfl) ?_
    refine QL.step1v 289 undef rfl (fun _ => by kernel_rfl) ?_
    refine QL.step1v 290 undef rfl (fun _ => by kernel_rfl) ?_
    refine QL.step1v 291 undef rfl (fun _ => by kernel_rfl) ?_
    refine QL.step1v 292 undef rfl (fun _ => by kernel_rfl) ?_
    refine QL.step1v 293 undef rfl (fun _ => by kernel_rfl) ?_
    refine QL.step1v 294 undef rfl (fun _ => by kernel_rfl) ?_
    refine QL.step1v 295 undef rfl (fun _ => by kernel_rfl) ?_
    refine QL.step1v 296 undef rfl (fun _ => by kernel_rfl) ?_
    refine QL.step1v 297 undef rfl (fun _ => by kernel_rfl) ?_
    refine QL.step1v 298 undef rfl (fun _ => by kernel_rfl) ?_
    refine QL.step1v 299 undef rfl (fun _ => by kernel_rfl) ?_
    refine QL.step1v 300 (.bool false) rfl (fun _ => by kernel_rfl) ?_
    refine QL.step1v 4 (.bool false) rfl (fun _ => by kernel_rfl) ?_
    refine QL.subk [4] [(4, .bool false)] (by kernel_rfl) ?_
    refine QL.nil ?_
    intro w634 hE635
    have hb636 : Ext w w634 := Ext.trans hb470 hE635
    have hL637 : w.heap.size ≤ w634.heap.size := Nat.le_trans hL471 hE635.size
    have hS638 : SH w634 w.heap.size [aOwn fInt 2 a464 c465 x462.1, aOwn fChange 42 a271 c272 x269, aOwn fInt 2 a48 c49 x46.1, aBox 42 b23 [.int .i64 x15.Kind, .int .i64 x15.Amount]] := SH.ext hS472 hE635
    obtain rfl := Option.some.inj hm
    exact WQ.post' ⟨rfl, hb636, hL637, hS638⟩ ⟨rfl, trivial⟩
  have hm := iteT hm hc608
  refine QL.step1v 278 (.slice a464 x462.1.length c465) rfl (fun _ => by kernel_rfl) ?_
  refine QL.subk [20, 21, 23, 277, 278] [(20, .int .i64 x435), (21, .int .i64 x444), (23, .slice a464 x462.1.length c465), (277, .bool true), (278, .slice a464 x462.1.length c465)] (by kernel_rfl) ?_
  obtain ⟨x609, hx610, hm⟩ := bindE hm
  refine QL.st (.pointer (some (at_ a464 (Int.toNat 2 * 1)))) (ST.index (T := fInt.ty) (xs := x462.1) (SH.rd (SH.front 0 hS472)) hx610 rfl rfl rfl Try.underlying31 (info2).1 (info2).2.1) rfl rfl rfl ?_
  refine QL.st (.int .i64 x609) (ST.load (cell_ext (Rd.flat (F := fInt) (SH.rd (SH.front 0 hS472)) hx610 0 rfl)) rfl rfl Try.underlying2 rfl) rfl rfl rfl ?_
  refine QL.step1v 281 (.bool (x609 == 0)) rfl (fun _ => by kernel_rfl) ?_
  refine QL.step1v 282 (.bool (x609 == 0)) rfl (fun _ => by kernel_rfl) ?_
  refine QL.subk [20, 21, 23, 277, 282] [(20, .int .i64 x435), (21, .int .i64 x444), (23, .slice a464 x462.1.length c465), (277, .bool true), (282, .bool (x609 == 0))] (by kernel_rfl) ?_
  refine QL.case (x609 == 0) [282] ⟨rfl, trivial⟩ (fun hc611 => ?_) (fun hc611 => ?_)
  · have hm := iteT hm hc611
    refine QL.step1v 283 undef rfl (fun _ => by kernel_rfl) ?_
    refine QL.step1v 284 undef rfl (fun _ => by kernel_rfl) ?_
    refine QL.step1v 285 undef rfl (fun _ => by kernel_rfl) ?_
    refine QL.step1v 286 undef rfl (fun _ => by kernel_rfl) ?_
    refine QL.step1v 287 undef rfl (fun _ => by kernel_rfl) ?_
    refine QL.step1v 288 undef rfl (fun _ => by kernel_rfl) ?_
    refine QL.step1v 289 undef rfl (fun _ => by kernel_rfl) ?_
    refine QL.step1v 290 undef rfl (fun _ => by kernel_rfl) ?_
    refine QL.step1v 291 undef rfl (fun _ => by kernel_rfl) ?_
    refine QL.step1v 292 undef rfl (fun _ => by kernel_rfl) ?_
    refine QL.step1v 293 undef rfl (fun _ => by kernel_rfl) ?_
    refine QL.step1v 294 undef rfl (fun _ => by kernel_rfl) ?_
    refine QL.step1v 295 undef rfl (fun _ => by kernel_rfl) ?_
    refine QL.step1v 296 undef rfl (fun _ => by kernel_rfl) ?_
    refine QL.step1v 297 undef rfl (fun _ => by kernel_rfl) ?_
    refine QL.step1v 298 undef rfl (fun _ => by kernel_rfl) ?_
    refine QL.step1v 299 (.bool true) rfl (fun _ => by kernel_rfl) ?_
    refine QL.step1v 300 (.bool true) rfl (fun _ => by kernel_rfl) ?_
    refine QL.step1v 4 (.bool true) rfl (fun _ => by kernel_rfl) ?_
    refine QL.subk [4] [(4, .bool true)] (by kernel_rfl) ?_
    refine QL.nil ?_
    intro w612 hE613
    have hb614 : Ext w w612 := Ext.trans hb470 hE613
    have hL615 : w.heap.size ≤ w612.heap.size := Nat.le_trans hL471 hE613.size
    have hS616 : SH w612 w.heap.size [aOwn fInt 2 a464 c465 x462.1, aOwn fChange 42 a271 c272 x269, aOwn fInt 2 a48 c49 x46.1, aBox 42 b23 [.int .i64 x15.Kind, .int .i64 x15.Amount]] := SH.ext hS472 hE613
    obtain rfl := Option.some.inj hm
    exact WQ.post' ⟨rfl, hb614, hL615, hS616⟩ ⟨rfl, trivial⟩
  have hm := iteF hm hc611
  refine QL.step1v 283 (.slice a464 x462.1.length c465) rfl (fun _ => by kernel_rfl) ?_
  refine QL.subk [20, 21, 23, 277, 282, 283] [(20, .int .i64 x435), (21, .int .i64 x444), (23, .slice a464 x462.1.length c465), (277, .bool true), (282, .bool false), (283, .slice a464 x462.1.length c465)] (by kernel_rfl) ?_
  obtain ⟨x617, hx618, hm⟩ := bindE hm
  refine QL.st (.pointer (some (at_ a464 (Int.toNat 0 * 1)))) (ST.index (T := fInt.ty) (xs := x462.1) (SH.rd (SH.front 0 hS472)) hx618 rfl rfl rfl Try.underlying31 (info2).1 (info2).2.1) rfl rfl rfl ?_
  refine QL.st (.int .i64 x617) (ST.load (cell_ext (Rd.flat (F := fInt) (SH.rd (SH.front 0 hS472)) hx618 0 rfl)) rfl rfl Try.underlying2 rfl) rfl rfl rfl ?_
  refine QL.step1v 286 (.int .i64 x435) rfl (fun _ => by kernel_rfl) ?_
  refine QL.step1v 287 (.bool (x617 == x435)) rfl (fun _ => by kernel_rfl) ?_
  refine QL.step1v 288 (.bool (x617 == x435)) rfl (fun _ => by kernel_rfl) ?_
  refine QL.subk [21, 23, 277, 282, 288] [(21, .int .i64 x444), (23, .slice a464 x462.1.length c465), (277, .bool true), (282, .bool false), (288, .bool (x617 == x435))] (by kernel_rfl) ?_
  refine QL.case (x617 == x435) [288] ⟨rfl, trivial⟩ (fun hc619 => ?_) (fun hc619 => ?_)
  rotate_left
  · have hm := iteF hm hc619
    refine QL.step1v 289 undef rfl (fun _ => by kernel_rfl) ?_
    refine QL.step1v 290 undef rfl (fun _ => by kernel_rfl) ?_
    refine QL.step1v 291 undef rfl (fun _ => by kernel_rfl) ?_
    refine QL.step1v 292 undef rfl (fun _ => by kernel_rfl) ?_
    refine QL.step1v 293 undef rfl (fun _ => by kernel_rfl) ?_
    refine QL.step1v 294 undef rfl (fun _ => by kernel_rfl) ?_
    refine QL.step1v 295 undef rfl (fun _ => by kernel_rfl) ?_
    refine QL.step1v 296 undef rfl (fun _ => by kernel_rfl) ?_
    refine QL.step1v 297 undef rfl (fun _ => by kernel_rfl) ?_
    refine QL.step1v 298 (.bool false) rfl (fun _ => by kernel_rfl) ?_
    refine QL.step1v 299 (.bool false) rfl (fun _ => by kernel_rfl) ?_
    refine QL.step1v 300 (.bool false) rfl (fun _ => by kernel_rfl) ?_
    refine QL.step1v 4 (.bool false) rfl (fun _ => by kernel_rfl) ?_
    refine QL.subk [4] [(4, .bool false)] (by kernel_rfl) ?_
    refine QL.nil ?_
    intro w629 hE630
    have hb631 : Ext w w629 := Ext.trans hb470 hE630
    have hL632 : w.heap.size ≤ w629.heap.size := Nat.le_trans hL471 hE630.size
    have hS633 : SH w629 w.heap.size [aOwn fInt 2 a464 c465 x462.1, aOwn fChange 42 a271 c272 x269, aOwn fInt 2 a48 c49 x46.1, aBox 42 b23 [.int .i64 x15.Kind, .int .i64 x15.Amount]] := SH.ext hS472 hE630
    obtain rfl := Option.some.inj hm
    exact WQ.post' ⟨rfl, hb631, hL632, hS633⟩ ⟨rfl, trivial⟩
  have hm := iteT hm hc619
  refine QL.step1v 289 (.slice a464 x462.1.length c465) rfl (fun _ => by kernel_rfl) ?_
  refine QL.subk [21, 23, 277, 282, 288, 289] [(21, .int .i64 x444), (23, .slice a464 x462.1.length c465), (277, .bool true), (282, .bool false), (288, .bool true), (289, .slice a464 x462.1.length c465)] (by kernel_rfl) ?_
  obtain ⟨x620, hx621, hm⟩ := bindE hm
  refine QL.st (.pointer (some (at_ a464 (Int.toNat 1 * 1)))) (ST.index (T := fInt.ty) (xs := x462.1) (SH.rd (SH.front 0 hS472)) hx621 rfl rfl rfl Try.underlying31 (info2).1 (info2).2.1) rfl rfl rfl ?_
  refine QL.st (.int .i64 x620) (ST.load (cell_ext (Rd.flat (F := fInt) (SH.rd (SH.front 0 hS472)) hx621 0 rfl)) rfl rfl Try.underlying2 rfl) rfl rfl rfl ?_
  refine QL.step1v 292 (.slice a464 x462.1.length c465) rfl (fun _ => by kernel_rfl) ?_
  refine QL.subk [21, 277, 282, 288, 291, 292] [(21, .int .i64 x444), (277, .bool true), (282, .bool false), (288, .bool true), (291, .int .i64 x620), (292, .slice a464 x462.1.length c465)] (by kernel_rfl) ?_
  obtain ⟨x622, hx623, hm⟩ := bindE hm
  refine QL.st (.pointer (some (at_ a464 (Int.toNat 2 * 1)))) (ST.index (T := fInt.ty) (xs := x462.1) (SH.rd (SH.front 0 hS472)) hx623 rfl rfl rfl Try.underlying31 (info2).1 (info2).2.1) rfl rfl rfl ?_
  refine QL.st (.int .i64 x622) (ST.load (cell_ext (Rd.flat (F := fInt) (SH.rd (SH.front 0 hS472)) hx623 0 rfl)) rfl rfl Try.underlying2 rfl) rfl rfl rfl ?_
  refine QL.step1v 295 (.int .i64 (wI64 (x620 - x622))) rfl (fun _ => by kernel_rfl) ?_
  refine QL.step1v 296 (.int .i64 x444) rfl (fun _ => by kernel_rfl) ?_
  refine QL.step1v 297 (.bool ((wI64 (x620 - x622)) == x444)) rfl (fun _ => by kernel_rfl) ?_
  refine QL.step1v 298 (.bool ((wI64 (x620 - x622)) == x444)) rfl (fun _ => by kernel_rfl) ?_
  refine QL.step1v 299 (.bool ((wI64 (x620 - x622)) == x444)) rfl (fun _ => by kernel_rfl) ?_
  refine QL.step1v 300 (.bool ((wI64 (x620 - x622)) == x444)) rfl (fun _ => by kernel_rfl) ?_
  refine QL.step1v 4 (.bool ((wI64 (x620 - x622)) == x444)) rfl (fun _ => by kernel_rfl) ?_
  refine QL.subk [4] [(4, .bool ((wI64 (x620 - x622)) == x444))] (by kernel_rfl) ?_
  refine QL.nil ?_
  intro w624 hE625
  have hb626 : Ext w w624 := Ext.trans hb470 hE625
  have hL627 : w.heap.size ≤ w624.heap.size := Nat.le_trans hL471 hE625.size
  have hS628 : SH w624 w.heap.size [aOwn fInt 2 a464 c465 x462.1, aOwn fChange 42 a271 c272 x269, aOwn fInt 2 a48 c49 x46.1, aBox 42 b23 [.int .i64 x15.Kind, .int .i64 x15.Amount]] := SH.ext hS472 hE625
  obtain rfl := Option.some.inj hm
  exact WQ.post' ⟨rfl, hb626, hL627, hS628⟩ ⟨rfl, trivial⟩

end Go.Proofs.Ytlplbjeegkkilaa
