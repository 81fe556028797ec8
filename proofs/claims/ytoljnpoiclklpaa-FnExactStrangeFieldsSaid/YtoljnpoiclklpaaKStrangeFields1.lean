/- Each call does what its Lean function says. -/
import Derived.Test.YtoljnpoiclklpaaTi
import Derived.Test.YtoljnpoiclklpaaEq
import Derived.Test.YtoljnpoiclklpaaMo
set_option maxRecDepth 20000
set_option maxHeartbeats 4000000
namespace Go.Proofs.Ytoljnpoiclklpaa
open Go Go.Gv Go.RowKit

theorem c_15 (n : Nat) (a_0 : List (List UInt8)) (a0' : Option Addr) (c0' : Nat) (left_1 : Int) (w : World) {r : Int} (hm : m_laws_szStringS n a_0 left_1 = some r) (h0 : Rd fStr.ty w a0' a_0) (_hle0 : a_0.length ≤ c0') :
    CallV Try.prog 15 #[.slice a0' a_0.length c0', .int .i64 left_1] w (fun v w' => v = .int .i64 r ∧ Ext w w') := by
  unfold m_laws_szStringS at hm
  refine CallV.enter Try.func15 rfl (by kernel_rfl) Try.ntmps15 (env := [(0, .slice a0' a_0.length c0'), (1, .int .i64 left_1)]) ⟨rfl, rfl, trivial⟩ ?_
  refine WP.seq (fun K1 hK1 => ?_)
  refine WP.region ?_
  refine WL.runk 1 [0, 1] [(0, .slice a0' a_0.length c0'), (1, .int .i64 left_1)] (by kernel_rfl) ?_
  refine WL.nil ?_
  refine WQ.then_normal (hK1 _ _ _ ?_)
  refine WP.seq (fun K2 hK2 => ?_)
  refine WP.region ?_
  refine WL.runk 5 [0, 1] [(0, .slice a0' a_0.length c0'), (1, .int .i64 (wI64 (left_1 - (a_0.length : Int))))] (by kernel_rfl) ?_
  refine WL.nil ?_
  refine WQ.then_normal (hK2 _ _ _ ?_)
  refine WP.seq (fun K3 hK3 => ?_)
  refine WP.seq (fun K4 hK4 => ?_)
  refine WP.region ?_
  refine WL.runk 2 [0, 1, 11] [(0, .slice a0' a_0.length c0'), (1, .int .i64 (wI64 (left_1 - (a_0.length : Int)))), (11, .bool (decide ((wI64 (left_1 - (a_0.length : Int))) < 0)))] (by kernel_rfl) ?_
  refine WL.nil ?_
  refine WQ.then_normal (hK4 _ _ _ ?_)
  refine WP.cond (decide ((wI64 (left_1 - (a_0.length : Int))) < 0)) rfl rfl (fun hc5 => ?_) (fun hc5 => ?_)
  · have hm := iteT hm hc5
    refine WP.seq (fun K6 hK6 => ?_)
    refine WP.region ?_
    refine WL.runk 1 [4] [(4, .int .i64 (-1))] (by kernel_rfl) ?_
    refine WL.nil ?_
    refine WQ.then_normal (hK6 _ _ _ ?_)
    refine WP.ret ?_
    refine WQ.then_ret ?_
    obtain rfl := Option.some.inj hm
    exact WQ.ret1 _ rfl rfl ⟨rfl, (Ext.refl w)⟩
  have hm := iteF hm hc5
  refine WP.skip ?_
  refine WQ.then_normal (hK3 _ _ _ ?_)
  refine WP.seq (fun K7 hK7 => ?_)
  refine WP.seq (fun K8 hK8 => ?_)
  refine WP.region ?_
  refine WL.runk 1 [0, 1, 5] [(0, .slice a0' a_0.length c0'), (1, .int .i64 (wI64 (left_1 - (a_0.length : Int)))), (5, .int .i64 0)] (by kernel_rfl) ?_
  refine WL.nil ?_
  refine WQ.then_normal (hK8 _ _ _ ?_)
  refine WP.block ?_
  obtain ⟨t20, ht21, hm⟩ := bindE hm
  have hmo15 := hm; clear hm
  refine WP.sub [(0, .slice a0' a_0.length c0'), (1, .int .i64 (wI64 (left_1 - (a_0.length : Int)))), (5, .int .i64 0)] ⟨rfl, rfl, rfl, trivial⟩ ?_
  refine WP.loop (fun n' env' w' => ∃ (st9 : Int × Int) , env' = [(0, .slice a0' a_0.length c0'), (1, .int .i64 st9.1), (5, .int .i64 st9.2)] ∧ Ext w w' ∧ w.heap.size ≤ w'.heap.size ∧ SH w' w.heap.size [] ∧ loopN (m_laws_szStringS_l1 n a_0) n' st9 = some t20) n ⟨((wI64 (left_1 - (a_0.length : Int))), 0), rfl, (Ext.refl w), (Nat.le_refl _), (SH.nil _ _), ht21⟩ ?_
  rintro n17 _ w10 ⟨st9, rfl, hb11, hL12, hS13, hl14⟩ K16 hK16
  obtain ⟨n18, s19, rfl, hm, hl14⟩ := loopN_some hl14
  unfold m_laws_szStringS_l1 at hm
  refine WP.seq (fun K22 hK22 => ?_)
  refine WP.seq (fun K23 hK23 => ?_)
  refine WP.region ?_
  refine WL.runk 4 [0, 1, 5, 15] [(0, .slice a0' a_0.length c0'), (1, .int .i64 st9.1), (5, .int .i64 st9.2), (15, .bool (decide (st9.2 < (a_0.length : Int))))] (by kernel_rfl) ?_
  refine WL.nil ?_
  refine WQ.then_normal (hK23 _ _ _ ?_)
  refine WP.cond (decide (st9.2 < (a_0.length : Int))) rfl rfl (fun hc24 => ?_) (fun hc24 => ?_)
  rotate_left
  · have hm := iteF hm hc24
    refine WP.exit ?_
    refine WQ.then_exit ?_
    refine WQ.then_exit ?_
    refine WQ.block_here ?_
    obtain rfl := Option.some.inj hm
    obtain rfl := afterN_done hl14
    have hm := hmo15
    refine WQ.then_normal (hK7 _ _ _ ?_)
    refine WP.seq (fun K32 hK32 => ?_)
    refine WP.region ?_
    refine WL.runk 2 [4] [(4, .int .i64 st9.1)] (by kernel_rfl) ?_
    refine WL.nil ?_
    refine WQ.then_normal (hK32 _ _ _ ?_)
    refine WP.ret ?_
    obtain rfl := Option.some.inj hm
    exact WQ.ret1 _ rfl rfl ⟨rfl, hb11⟩
  have hm := iteT hm hc24
  refine WP.skip ?_
  refine WQ.then_normal (hK22 _ _ _ ?_)
  refine WP.seq (fun K25 hK25 => ?_)
  refine WP.block ?_
  refine WP.seq (fun K26 hK26 => ?_)
  refine WP.region ?_
  refine WL.runk 3 [0, 5, 18, 19, 20] [(0, .slice a0' a_0.length c0'), (5, .int .i64 st9.2), (18, .int .i64 st9.1), (19, .slice a0' a_0.length c0'), (20, .int .i64 st9.2)] (by kernel_rfl) ?_
  obtain ⟨x27, hx28, hm⟩ := bindE hm
  refine WL.st (.pointer (some (at_ a0' (Int.toNat st9.2 * 1)))) (ST.index (T := fStr.ty) (xs := a_0) (Rd.below h0 hb11) hx28 rfl rfl rfl Try.underlying22 (info9).1 (info9).2.1) rfl rfl rfl ?_
  refine WL.st (.string (bs x27)) (ST.load (cell_ext (Rd.flat (F := fStr) (Rd.below h0 hb11) hx28 0 rfl)) rfl rfl Try.underlying9 rfl) rfl rfl rfl ?_
  refine WL.runk 3 [0, 1, 5] [(0, .slice a0' a_0.length c0'), (5, .int .i64 st9.2), (1, .int .i64 (wI64 (st9.1 - (x27.length : Int))))] (by kernel_rfl) ?_
  refine WL.nil ?_
  refine WQ.then_normal (hK26 _ _ _ ?_)
  refine WP.seq (fun K29 hK29 => ?_)
  refine WP.region ?_
  refine WL.runk 2 [0, 1, 5, 26] [(0, .slice a0' a_0.length c0'), (5, .int .i64 st9.2), (1, .int .i64 (wI64 (st9.1 - (x27.length : Int)))), (26, .bool (decide ((wI64 (st9.1 - (x27.length : Int))) < 0)))] (by kernel_rfl) ?_
  refine WL.nil ?_
  refine WQ.then_normal (hK29 _ _ _ ?_)
  refine WP.cond (decide ((wI64 (st9.1 - (x27.length : Int))) < 0)) rfl rfl (fun hc30 => ?_) (fun hc30 => ?_)
  rotate_left
  · have hm := iteF hm hc30
    refine WP.skip ?_
    refine WQ.block_normal ?_
    refine WQ.then_normal (hK25 _ _ _ ?_)
    refine WP.region ?_
    refine WL.runk 3 [0, 1, 5] [(0, .slice a0' a_0.length c0'), (5, .int .i64 (wI64 (st9.2 + 1))), (1, .int .i64 (wI64 (st9.1 - (x27.length : Int))))] (by kernel_rfl) ?_
    refine WL.nil ?_
    obtain rfl := Option.some.inj hm
    exact WQ.round hK16 ⟨((wI64 (st9.1 - (x27.length : Int))), (wI64 (st9.2 + 1))), rfl, hb11, hL12, hS13, hl14⟩ (Nat.lt_succ_self _) ⟨rfl, rfl, rfl, trivial⟩
  have hm := iteT hm hc30
  refine WP.seq (fun K31 hK31 => ?_)
  refine WP.region ?_
  refine WL.runk 1 [4] [(4, .int .i64 (-1))] (by kernel_rfl) ?_
  refine WL.nil ?_
  refine WQ.then_normal (hK31 _ _ _ ?_)
  refine WP.ret ?_
  refine WQ.block_ret ?_
  refine WQ.then_ret ?_
  refine WQ.then_ret ?_
  refine WQ.block_ret ?_
  refine WQ.then_ret ?_
  obtain rfl := Option.some.inj hm
  obtain rfl := afterN_done hl14
  have hm := hmo15
  obtain rfl := Option.some.inj hm
  exact WQ.ret1 _ rfl rfl ⟨rfl, hb11⟩

theorem c_71 (n : Nat) (n_0 : Int) (low_1 : Int) (high_2 : Int) (w : World) {r : Bool} (hm : m_spec_l00In n n_0 low_1 high_2 = some r)  :
    CallV Try.prog 71 #[.int .i64 n_0, .int .i64 low_1, .int .i64 high_2] w (fun v w' => v = .bool r ∧ Ext w w') := by
  unfold m_spec_l00In at hm
  refine CallV.enter Try.func71 rfl (by kernel_rfl) Try.ntmps71 (env := [(0, .int .i64 n_0), (1, .int .i64 low_1), (2, .int .i64 high_2)]) ⟨rfl, rfl, rfl, trivial⟩ ?_
  refine WP.seq (fun K1 hK1 => ?_)
  refine WP.region ?_
  refine WL.runk 1 [0, 1, 2] [(0, .int .i64 n_0), (1, .int .i64 low_1), (2, .int .i64 high_2)] (by kernel_rfl) ?_
  refine WL.nil ?_
  refine WQ.then_normal (hK1 _ _ _ ?_)
  refine WP.seq (fun K2 hK2 => ?_)
  obtain ⟨x4, hx5, hm⟩ := bindE hm
  refine WP.cut (fun env' w' => env' = [(6, .bool x4)] ∧ Ext w w' ∧ w.heap.size ≤ w'.heap.size ∧ SH w' w.heap.size []) ?_ ?_
  rotate_left
  · clear hx5
    rintro _ w7 ⟨rfl, hb8, hL9, hS10⟩
    refine WQ.then_normal (hK2 _ _ _ ?_)
    refine WP.ret ?_
    obtain rfl := Option.some.inj hm
    exact WQ.ret1 _ rfl rfl ⟨rfl, hb8⟩
  have hm := hx5; clear hx5
  refine WP.region ?_
  refine WL.runk 4 [0, 2, 10] [(0, .int .i64 n_0), (2, .int .i64 high_2), (10, .bool (decide (n_0 ≥ low_1)))] (by kernel_rfl) ?_
  refine WL.case (decide (n_0 ≥ low_1)) [10] ⟨rfl, trivial⟩ (fun hc6 => ?_) (fun hc6 => ?_)
  · have hm := iteT hm hc6
    refine WL.runk 5 [6] [(6, .bool (decide (n_0 ≤ high_2)))] (by kernel_rfl) ?_
    refine WL.nil ?_
    obtain rfl := Option.some.inj hm
    exact WQ.post' ⟨rfl, (Ext.refl w), (Nat.le_refl _), (SH.nil _ _)⟩ ⟨rfl, trivial⟩
  have hm := iteF hm hc6
  refine WL.runk 5 [6] [(6, .bool false)] (by kernel_rfl) ?_
  refine WL.nil ?_
  obtain rfl := Option.some.inj hm
  exact WQ.post' ⟨rfl, (Ext.refl w), (Nat.le_refl _), (SH.nil _ _)⟩ ⟨rfl, trivial⟩

theorem c_76 (n : Nat) (c_0 : Int) (w : World) {r : Bool} (hm : m_spec_l01Digit n c_0 = some r)  :
    CallV Try.prog 76 #[.int .u8 c_0] w (fun v w' => v = .bool r ∧ Ext w w') := by
  unfold m_spec_l01Digit at hm
  refine CallV.enter Try.func76 rfl (by kernel_rfl) Try.ntmps76 (env := [(0, .int .u8 c_0)]) ⟨rfl, trivial⟩ ?_
  refine WP.seq (fun K1 hK1 => ?_)
  refine WP.region ?_
  refine WL.runk 1 [0] [(0, .int .u8 c_0)] (by kernel_rfl) ?_
  refine WL.nil ?_
  refine WQ.then_normal (hK1 _ _ _ ?_)
  refine WP.seq (fun K2 hK2 => ?_)
  obtain ⟨x4, hx5, hm⟩ := bindE hm
  refine WP.cut (fun env' w' => env' = [(2, .bool x4)] ∧ Ext w w' ∧ w.heap.size ≤ w'.heap.size ∧ SH w' w.heap.size []) ?_ ?_
  rotate_left
  · clear hx5
    rintro _ w7 ⟨rfl, hb8, hL9, hS10⟩
    refine WQ.then_normal (hK2 _ _ _ ?_)
    refine WP.ret ?_
    obtain rfl := Option.some.inj hm
    exact WQ.ret1 _ rfl rfl ⟨rfl, hb8⟩
  have hm := hx5; clear hx5
  refine WP.region ?_
  refine WL.runk 3 [0, 5] [(0, .int .u8 c_0), (5, .bool (decide (c_0 ≥ 48)))] (by kernel_rfl) ?_
  refine WL.case (decide (c_0 ≥ 48)) [5] ⟨rfl, trivial⟩ (fun hc6 => ?_) (fun hc6 => ?_)
  · have hm := iteT hm hc6
    refine WL.runk 4 [2] [(2, .bool (decide (c_0 ≤ 57)))] (by kernel_rfl) ?_
    refine WL.nil ?_
    obtain rfl := Option.some.inj hm
    exact WQ.post' ⟨rfl, (Ext.refl w), (Nat.le_refl _), (SH.nil _ _)⟩ ⟨rfl, trivial⟩
  have hm := iteF hm hc6
  refine WL.runk 4 [2] [(2, .bool false)] (by kernel_rfl) ?_
  refine WL.nil ?_
  obtain rfl := Option.some.inj hm
  exact WQ.post' ⟨rfl, (Ext.refl w), (Nat.le_refl _), (SH.nil _ _)⟩ ⟨rfl, trivial⟩

theorem c_49 (n : Nat) (rows_0 : List (List UInt8)) (a0' : Option Addr) (c0' : Nat) (w : World) {r : Bool} (hm : m_spec_l20Ok n rows_0 = some r) (h0 : Rd fStr.ty w a0' rows_0) (_hle0 : rows_0.length ≤ c0') :
    CallV Try.prog 49 #[.slice a0' rows_0.length c0'] w (fun v w' => v = .bool r ∧ Ext w w') := by
  unfold m_spec_l20Ok at hm
  refine CallV.enter Try.func49 rfl (by kernel_rfl) Try.ntmps49 (env := [(0, .slice a0' rows_0.length c0')]) ⟨rfl, trivial⟩ ?_
  refine WP.seq (fun K1 hK1 => ?_)
  refine WP.region ?_
  refine WL.runk 1 [0] [(0, .slice a0' rows_0.length c0')] (by kernel_rfl) ?_
  refine WL.nil ?_
  refine WQ.then_normal (hK1 _ _ _ ?_)
  refine WP.seq (fun K2 hK2 => ?_)
  refine WP.seq (fun K3 hK3 => ?_)
  refine WP.region ?_
  refine WL.runk 1 [0, 3] [(0, .slice a0' rows_0.length c0'), (3, .int .i64 0)] (by kernel_rfl) ?_
  refine WL.nil ?_
  refine WQ.then_normal (hK3 _ _ _ ?_)
  refine WP.block ?_
  obtain ⟨t15, ht16, hm⟩ := bindE hm
  have hmo10 := hm; clear hm
  refine WP.sub [(0, .slice a0' rows_0.length c0'), (3, .int .i64 0)] ⟨rfl, rfl, trivial⟩ ?_
  refine WP.loop (fun n' env' w' => ∃ (st4 : Int) , env' = [(0, .slice a0' rows_0.length c0'), (3, .int .i64 st4)] ∧ Ext w w' ∧ w.heap.size ≤ w'.heap.size ∧ SH w' w.heap.size [] ∧ loopN (m_spec_l20Ok_l1 n rows_0) n' st4 = some t15) n ⟨0, rfl, (Ext.refl w), (Nat.le_refl _), (SH.nil _ _), ht16⟩ ?_
  rintro n12 _ w5 ⟨st4, rfl, hb6, hL7, hS8, hl9⟩ K11 hK11
  obtain ⟨n13, s14, rfl, hm, hl9⟩ := loopN_some hl9
  unfold m_spec_l20Ok_l1 at hm
  refine WP.seq (fun K17 hK17 => ?_)
  refine WP.seq (fun K18 hK18 => ?_)
  refine WP.region ?_
  refine WL.runk 4 [0, 3, 8] [(0, .slice a0' rows_0.length c0'), (3, .int .i64 st4), (8, .bool (decide (st4 < (rows_0.length : Int))))] (by kernel_rfl) ?_
  refine WL.nil ?_
  refine WQ.then_normal (hK18 _ _ _ ?_)
  refine WP.cond (decide (st4 < (rows_0.length : Int))) rfl rfl (fun hc19 => ?_) (fun hc19 => ?_)
  rotate_left
  · have hm := iteF hm hc19
    refine WP.exit ?_
    refine WQ.then_exit ?_
    refine WQ.then_exit ?_
    refine WQ.block_here ?_
    obtain rfl := Option.some.inj hm
    obtain rfl := afterN_done hl9
    have hm := hmo10
    refine WQ.then_normal (hK2 _ _ _ ?_)
    refine WP.seq (fun K109 hK109 => ?_)
    refine WP.region ?_
    refine WL.runk 2 [48] [(48, .int .i64 (rows_0.length : Int))] (by kernel_rfl) ?_
    obtain ⟨x110, hx111, hm⟩ := bindE hm
    refine WL.call 71 #[.int .i64 (rows_0.length : Int), .int .i64 2, .int .i64 12] rfl rfl (by kernel_rfl) (c_71 n (rows_0.length : Int) 2 12 w5 hx111 ) ?_
    rintro _ w112 ⟨rfl, hE113⟩
    refine ⟨_, rfl, ?_⟩
    have hb115 : Ext w w112 := Ext.trans hb6 hE113
    have hL116 : w.heap.size ≤ w112.heap.size := Nat.le_trans hL7 hE113.size
    have hS117 : SH w112 w.heap.size [] := SH.ext hS8 hE113
    refine WL.runk 1 [2] [(2, .bool x110)] (by kernel_rfl) ?_
    refine WL.nil ?_
    refine WQ.then_normal (hK109 _ _ _ ?_)
    refine WP.ret ?_
    obtain rfl := Option.some.inj hm
    exact WQ.ret1 _ rfl rfl ⟨rfl, hb115⟩
  have hm := iteT hm hc19
  refine WP.skip ?_
  refine WQ.then_normal (hK17 _ _ _ ?_)
  refine WP.seq (fun K20 hK20 => ?_)
  refine WP.block ?_
  refine WP.seq (fun K21 hK21 => ?_)
  refine WP.seq (fun K22 hK22 => ?_)
  obtain ⟨x44, hx45, hm⟩ := bindE hm
  refine WP.cut (fun env' w' => env' = [(0, .slice a0' rows_0.length c0'), (3, .int .i64 st4), (29, .bool x44)] ∧ Ext w w' ∧ w.heap.size ≤ w'.heap.size ∧ SH w' w.heap.size []) ?_ ?_
  · have hm := hx45; clear hx45
    refine WP.quiet (by kernel_rfl) (by kernel_rfl) ?_
    refine QL.step1v 11 (.slice a0' rows_0.length c0') rfl (fun _ => by kernel_rfl) ?_
    refine QL.step1v 12 (.int .i64 st4) rfl (fun _ => by kernel_rfl) ?_
    refine QL.subk [0, 3, 11, 12] [(0, .slice a0' rows_0.length c0'), (3, .int .i64 st4), (11, .slice a0' rows_0.length c0'), (12, .int .i64 st4)] (by kernel_rfl) ?_
    obtain ⟨x46, hx47, hm⟩ := bindE hm
    refine QL.st (.pointer (some (at_ a0' (Int.toNat st4 * 1)))) (ST.index (T := fStr.ty) (xs := rows_0) (Rd.below h0 hb6) hx47 rfl rfl rfl Try.underlying22 (info9).1 (info9).2.1) rfl rfl rfl ?_
    refine QL.st (.string (bs x46)) (ST.load (cell_ext (Rd.flat (F := fStr) (Rd.below h0 hb6) hx47 0 rfl)) rfl rfl Try.underlying9 rfl) rfl rfl rfl ?_
    refine QL.step1v 15 (.int .i64 (x46.length : Int)) rfl (fun _ => by kernel_rfl) ?_
    refine QL.step1v 16 (.slice a0' rows_0.length c0') rfl (fun _ => by kernel_rfl) ?_
    refine QL.subk [0, 3, 15, 16] [(0, .slice a0' rows_0.length c0'), (3, .int .i64 st4), (15, .int .i64 (x46.length : Int)), (16, .slice a0' rows_0.length c0')] (by kernel_rfl) ?_
    obtain ⟨x48, hx49, hm⟩ := bindE hm
    refine QL.st (.pointer (some (at_ a0' (Int.toNat 0 * 1)))) (ST.index (T := fStr.ty) (xs := rows_0) (Rd.below h0 hb6) hx49 rfl rfl rfl Try.underlying22 (info9).1 (info9).2.1) rfl rfl rfl ?_
    refine QL.st (.string (bs x48)) (ST.load (cell_ext (Rd.flat (F := fStr) (Rd.below h0 hb6) hx49 0 rfl)) rfl rfl Try.underlying9 rfl) rfl rfl rfl ?_
    refine QL.step1v 19 (.int .i64 (x48.length : Int)) rfl (fun _ => by kernel_rfl) ?_
    refine QL.step1v 20 (.bool ((x46.length : Int) != (x48.length : Int))) rfl (fun _ => by kernel_rfl) ?_
    refine QL.step1v 21 (.bool ((x46.length : Int) != (x48.length : Int))) rfl (fun _ => by kernel_rfl) ?_
    refine QL.subk [0, 3, 21] [(0, .slice a0' rows_0.length c0'), (3, .int .i64 st4), (21, .bool ((x46.length : Int) != (x48.length : Int)))] (by kernel_rfl) ?_
    refine QL.case ((x46.length : Int) != (x48.length : Int)) [21] ⟨rfl, trivial⟩ (fun hc50 => ?_) (fun hc50 => ?_)
    · have hm := iteT hm hc50
      refine QL.step1v 22 undef rfl (fun _ => by kernel_rfl) ?_
      refine QL.step1v 23 undef rfl (fun _ => by kernel_rfl) ?_
      refine QL.step1v 24 undef rfl (fun _ => by kernel_rfl) ?_
      refine QL.step1v 25 undef rfl (fun _ => by kernel_rfl) ?_
      refine QL.step1v 26 undef rfl (fun _ => by kernel_rfl) ?_
      refine QL.step1v 27 undef rfl (fun _ => by kernel_rfl) ?_
      refine QL.step1v 28 undef rfl (fun _ => by kernel_rfl) ?_
      refine QL.step1v 29 (.bool true) rfl (fun _ => by kernel_rfl) ?_
      refine QL.subk [0, 3, 29] [(0, .slice a0' rows_0.length c0'), (3, .int .i64 st4), (29, .bool true)] (by kernel_rfl) ?_
      refine QL.nil ?_
      intro w51 hE52
      have hb53 : Ext w w51 := Ext.trans hb6 hE52
      have hL54 : w.heap.size ≤ w51.heap.size := Nat.le_trans hL7 hE52.size
      have hS55 : SH w51 w.heap.size [] := SH.ext hS8 hE52
      obtain rfl := Option.some.inj hm
      exact WQ.post' ⟨rfl, hb53, hL54, hS55⟩ ⟨rfl, rfl, rfl, trivial⟩
    have hm := iteF hm hc50
    refine QL.step1v 22 (.slice a0' rows_0.length c0') rfl (fun _ => by kernel_rfl) ?_
    refine QL.step1v 23 (.int .i64 st4) rfl (fun _ => by kernel_rfl) ?_
    refine QL.subk [0, 3, 21, 22, 23] [(0, .slice a0' rows_0.length c0'), (3, .int .i64 st4), (21, .bool false), (22, .slice a0' rows_0.length c0'), (23, .int .i64 st4)] (by kernel_rfl) ?_
    obtain ⟨x56, hx57, hm⟩ := bindE hm
    refine QL.st (.pointer (some (at_ a0' (Int.toNat st4 * 1)))) (ST.index (T := fStr.ty) (xs := rows_0) (Rd.below h0 hb6) hx57 rfl rfl rfl Try.underlying22 (info9).1 (info9).2.1) rfl rfl rfl ?_
    refine QL.st (.string (bs x56)) (ST.load (cell_ext (Rd.flat (F := fStr) (Rd.below h0 hb6) hx57 0 rfl)) rfl rfl Try.underlying9 rfl) rfl rfl rfl ?_
    refine QL.step1v 26 (.int .i64 (x56.length : Int)) rfl (fun _ => by kernel_rfl) ?_
    refine QL.subk [0, 3, 21, 26] [(0, .slice a0' rows_0.length c0'), (3, .int .i64 st4), (21, .bool false), (26, .int .i64 (x56.length : Int))] (by kernel_rfl) ?_
    obtain ⟨x58, hx59, hm⟩ := bindE hm
    refine QL.call 71 #[.int .i64 (x56.length : Int), .int .i64 2, .int .i64 8] (.bool x58) (fun _ => by kernel_rfl) (fun w60 hE61 => c_71 n (x56.length : Int) 2 8 w60 hx59 ) rfl rfl rfl ?_
    refine QL.step1v 28 (.bool (!x58)) rfl (fun _ => by kernel_rfl) ?_
    refine QL.step1v 29 (.bool (!x58)) rfl (fun _ => by kernel_rfl) ?_
    refine QL.subk [0, 3, 29] [(0, .slice a0' rows_0.length c0'), (3, .int .i64 st4), (29, .bool (!x58))] (by kernel_rfl) ?_
    refine QL.nil ?_
    intro w62 hE63
    have hb64 : Ext w w62 := Ext.trans hb6 hE63
    have hL65 : w.heap.size ≤ w62.heap.size := Nat.le_trans hL7 hE63.size
    have hS66 : SH w62 w.heap.size [] := SH.ext hS8 hE63
    obtain rfl := Option.some.inj hm
    exact WQ.post' ⟨rfl, hb64, hL65, hS66⟩ ⟨rfl, rfl, rfl, trivial⟩
  clear hx45
  rintro _ w67 ⟨rfl, hb68, hL69, hS70⟩
  refine WQ.then_normal (hK22 _ _ _ ?_)
  refine WP.cond x44 rfl rfl (fun hc71 => ?_) (fun hc71 => ?_)
  · have hm := iteT hm hc71
    refine WP.seq (fun K72 hK72 => ?_)
    refine WP.region ?_
    refine WL.runk 1 [2] [(2, .bool false)] (by kernel_rfl) ?_
    refine WL.nil ?_
    refine WQ.then_normal (hK72 _ _ _ ?_)
    refine WP.ret ?_
    refine WQ.then_ret ?_
    refine WQ.block_ret ?_
    refine WQ.then_ret ?_
    refine WQ.then_ret ?_
    refine WQ.block_ret ?_
    refine WQ.then_ret ?_
    obtain rfl := Option.some.inj hm
    obtain rfl := afterN_done hl9
    have hm := hmo10
    obtain rfl := Option.some.inj hm
    exact WQ.ret1 _ rfl rfl ⟨rfl, hb68⟩
  have hm := iteF hm hc71
  refine WP.skip ?_
  refine WQ.then_normal (hK21 _ _ _ ?_)
  refine WP.seq (fun K73 hK73 => ?_)
  refine WP.region ?_
  refine WL.runk 1 [0, 3, 4] [(0, .slice a0' rows_0.length c0'), (3, .int .i64 st4), (4, .int .i64 0)] (by kernel_rfl) ?_
  refine WL.nil ?_
  refine WQ.then_normal (hK73 _ _ _ ?_)
  refine WP.block ?_
  obtain ⟨t85, ht86, hm⟩ := bindE hm
  have hmo80 := hm; clear hm
  refine WP.sub [(0, .slice a0' rows_0.length c0'), (3, .int .i64 st4), (4, .int .i64 0)] ⟨rfl, rfl, rfl, trivial⟩ ?_
  refine WP.loop (fun n' env' w' => ∃ (st74 : Int) , env' = [(0, .slice a0' rows_0.length c0'), (3, .int .i64 st4), (4, .int .i64 st74)] ∧ Ext w w' ∧ w.heap.size ≤ w'.heap.size ∧ SH w' w.heap.size [] ∧ loopN (m_spec_l20Ok_l2 n rows_0 st4) n' st74 = some t85) n ⟨0, rfl, hb68, hL69, hS70, ht86⟩ ?_
  rintro n82 _ w75 ⟨st74, rfl, hb76, hL77, hS78, hl79⟩ K81 hK81
  obtain ⟨n83, s84, rfl, hm, hl79⟩ := loopN_some hl79
  unfold m_spec_l20Ok_l2 at hm
  refine WP.seq (fun K87 hK87 => ?_)
  refine WP.seq (fun K88 hK88 => ?_)
  refine WP.region ?_
  refine WL.runk 3 [0, 3, 4, 30, 31, 32] [(0, .slice a0' rows_0.length c0'), (3, .int .i64 st4), (4, .int .i64 st74), (30, .int .i64 st74), (31, .slice a0' rows_0.length c0'), (32, .int .i64 st4)] (by kernel_rfl) ?_
  obtain ⟨x89, hx90, hm⟩ := bindE hm
  refine WL.st (.pointer (some (at_ a0' (Int.toNat st4 * 1)))) (ST.index (T := fStr.ty) (xs := rows_0) (Rd.below h0 hb76) hx90 rfl rfl rfl Try.underlying22 (info9).1 (info9).2.1) rfl rfl rfl ?_
  refine WL.st (.string (bs x89)) (ST.load (cell_ext (Rd.flat (F := fStr) (Rd.below h0 hb76) hx90 0 rfl)) rfl rfl Try.underlying9 rfl) rfl rfl rfl ?_
  refine WL.runk 2 [0, 3, 4, 36] [(0, .slice a0' rows_0.length c0'), (3, .int .i64 st4), (4, .int .i64 st74), (36, .bool (decide (st74 < (x89.length : Int))))] (by kernel_rfl) ?_
  refine WL.nil ?_
  refine WQ.then_normal (hK88 _ _ _ ?_)
  refine WP.cond (decide (st74 < (x89.length : Int))) rfl rfl (fun hc91 => ?_) (fun hc91 => ?_)
  rotate_left
  · have hm := iteF hm hc91
    refine WP.exit ?_
    refine WQ.then_exit ?_
    refine WQ.then_exit ?_
    refine WQ.block_here ?_
    obtain rfl := Option.some.inj hm
    obtain rfl := afterN_done hl79
    have hm := hmo80
    refine WQ.block_normal ?_
    refine WQ.then_normal (hK20 _ _ _ ?_)
    refine WP.region ?_
    refine WL.runk 3 [0, 3] [(0, .slice a0' rows_0.length c0'), (3, .int .i64 (wI64 (st4 + 1)))] (by kernel_rfl) ?_
    refine WL.nil ?_
    obtain rfl := Option.some.inj hm
    exact WQ.round hK11 ⟨(wI64 (st4 + 1)), rfl, hb76, hL77, hS78, hl9⟩ (Nat.lt_succ_self _) ⟨rfl, rfl, trivial⟩
  have hm := iteT hm hc91
  refine WP.skip ?_
  refine WQ.then_normal (hK87 _ _ _ ?_)
  refine WP.seq (fun K92 hK92 => ?_)
  refine WP.block ?_
  refine WP.seq (fun K93 hK93 => ?_)
  refine WP.region ?_
  refine WL.runk 2 [0, 3, 4, 39, 40] [(0, .slice a0' rows_0.length c0'), (3, .int .i64 st4), (4, .int .i64 st74), (39, .slice a0' rows_0.length c0'), (40, .int .i64 st4)] (by kernel_rfl) ?_
  obtain ⟨x94, hx95, hm⟩ := bindE hm
  refine WL.st (.pointer (some (at_ a0' (Int.toNat st4 * 1)))) (ST.index (T := fStr.ty) (xs := rows_0) (Rd.below h0 hb76) hx95 rfl rfl rfl Try.underlying22 (info9).1 (info9).2.1) rfl rfl rfl ?_
  refine WL.st (.string (bs x94)) (ST.load (cell_ext (Rd.flat (F := fStr) (Rd.below h0 hb76) hx95 0 rfl)) rfl rfl Try.underlying9 rfl) rfl rfl rfl ?_
  refine WL.runk 1 [0, 3, 4, 42, 43] [(0, .slice a0' rows_0.length c0'), (3, .int .i64 st4), (4, .int .i64 st74), (42, .string (bs x94)), (43, .int .i64 st74)] (by kernel_rfl) ?_
  obtain ⟨x96, hx97, hm⟩ := bindE hm
  refine WL.st (.int .u8 (x96.toNat : Int)) (ST.sindex hx97 rfl rfl rfl Try.underlying9) rfl rfl rfl ?_
  obtain ⟨x98, hx99, hm⟩ := bindE hm
  refine WL.call 76 #[.int .u8 (x96.toNat : Int)] rfl rfl (by kernel_rfl) (c_76 n (x96.toNat : Int) w75 hx99 ) ?_
  rintro _ w100 ⟨rfl, hE101⟩
  refine ⟨_, rfl, ?_⟩
  have hb103 : Ext w w100 := Ext.trans hb76 hE101
  have hL104 : w.heap.size ≤ w100.heap.size := Nat.le_trans hL77 hE101.size
  have hS105 : SH w100 w.heap.size [] := SH.ext hS78 hE101
  refine WL.runk 1 [0, 3, 4, 46] [(0, .slice a0' rows_0.length c0'), (3, .int .i64 st4), (4, .int .i64 st74), (46, .bool (!x98))] (by kernel_rfl) ?_
  refine WL.nil ?_
  refine WQ.then_normal (hK93 _ _ _ ?_)
  refine WP.cond (!x98) rfl rfl (fun hc106 => ?_) (fun hc106 => ?_)
  rotate_left
  · have hm := iteF hm hc106
    refine WP.skip ?_
    refine WQ.block_normal ?_
    refine WQ.then_normal (hK92 _ _ _ ?_)
    refine WP.region ?_
    refine WL.runk 3 [0, 3, 4] [(0, .slice a0' rows_0.length c0'), (3, .int .i64 st4), (4, .int .i64 (wI64 (st74 + 1)))] (by kernel_rfl) ?_
    refine WL.nil ?_
    obtain rfl := Option.some.inj hm
    exact WQ.round hK81 ⟨(wI64 (st74 + 1)), rfl, hb103, hL104, hS105, hl79⟩ (Nat.lt_succ_self _) ⟨rfl, rfl, rfl, trivial⟩
  have hm := iteT hm hc106
  refine WP.seq (fun K107 hK107 => ?_)
  refine WP.region ?_
  refine WL.runk 1 [2] [(2, .bool false)] (by kernel_rfl) ?_
  refine WL.nil ?_
  refine WQ.then_normal (hK107 _ _ _ ?_)
  refine WP.ret ?_
  refine WQ.block_ret ?_
  refine WQ.then_ret ?_
  refine WQ.then_ret ?_
  refine WQ.block_ret ?_
  refine WQ.block_ret ?_
  refine WQ.then_ret ?_
  refine WQ.then_ret ?_
  refine WQ.block_ret ?_
  refine WQ.then_ret ?_
  obtain rfl := Option.some.inj hm
  obtain rfl := afterN_done hl79
  have hm := hmo80
  obtain rfl := Option.some.inj hm
  obtain rfl := afterN_done hl9
  have hm := hmo10
  obtain rfl := Option.some.inj hm
  exact WQ.ret1 _ rfl rfl ⟨rfl, hb103⟩

theorem c_17 (n : Nat) (a_0 : List (List UInt8)) (a0' : Option Addr) (c0' : Nat) (w : World) {r : List (List UInt8)} (hm : m_laws_toStringS n a_0 = some r) (h0 : Rd fStr.ty w a0' a_0) (_hle0 : a_0.length ≤ c0') :
    CallV Try.prog 17 #[.slice a0' a_0.length c0'] w (fun v w' => ∃ (ra0 : Option Addr) (rc0 : Nat), v = .slice ra0 r.length rc0 ∧ Ext w w' ∧ SH w' w.heap.size [aOwn fStr 9 ra0 rc0 r]) := by
  unfold m_laws_toStringS at hm
  refine CallV.enter Try.func17 rfl (by kernel_rfl) Try.ntmps17 (env := [(0, .slice a0' a_0.length c0')]) ⟨rfl, trivial⟩ ?_
  refine WP.seq (fun K1 hK1 => ?_)
  refine WP.region ?_
  refine WL.runk 1 [0] [(0, .slice a0' a_0.length c0')] (by kernel_rfl) ?_
  refine WL.nil ?_
  refine WQ.then_normal (hK1 _ _ _ ?_)
  refine WP.seq (fun K2 hK2 => ?_)
  refine WP.region ?_
  refine WL.runk 2 [0, 6] [(0, .slice a0' a_0.length c0'), (6, .int .i64 (a_0.length : Int))] (by kernel_rfl) ?_
  obtain ⟨x3, hx4, hm⟩ := bindE hm
  refine WL.make fStr 7 hx4 rfl rfl rfl Try.underlying22 (info9).1 (info9).2.2.1 (info9).2.1 (info9).2.2.2 rfl rfl rfl rfl rfl ?_
  intro a5 c6 w7 hE8 hR9
  have hb11 : Ext w w7 := Ext.trans (Ext.refl w) hE8
  have hL12 : w.heap.size ≤ w7.heap.size := Nat.le_trans (Nat.le_refl _) hE8.size
  have hS13 : SH w7 w.heap.size [aOwn fStr 9 a5 c6 x3] := SH.add (SH.nil _ _) hE8 (Nat.le_refl _) hR9
  refine WL.runk 1 [0, 3] [(0, .slice a0' a_0.length c0'), (3, .slice a5 x3.length c6)] (by kernel_rfl) ?_
  refine WL.nil ?_
  refine WQ.then_normal (hK2 _ _ _ ?_)
  refine WP.seq (fun K14 hK14 => ?_)
  refine WP.seq (fun K15 hK15 => ?_)
  refine WP.region ?_
  refine WL.runk 1 [0, 3, 4] [(0, .slice a0' a_0.length c0'), (3, .slice a5 x3.length c6), (4, .int .i64 0)] (by kernel_rfl) ?_
  refine WL.nil ?_
  refine WQ.then_normal (hK15 _ _ _ ?_)
  refine WP.block ?_
  obtain ⟨t54, ht55, hm⟩ := bindE hm
  have hmo49 := hm; clear hm
  refine WP.sub [(0, .slice a0' a_0.length c0'), (3, .slice a5 x3.length c6), (4, .int .i64 0)] ⟨rfl, rfl, rfl, trivial⟩ ?_
  refine WP.loop (fun n' env' w' => ∃ (st43 : Int × List (List UInt8)) , env' = [(0, .slice a0' a_0.length c0'), (3, .slice a5 st43.2.length c6), (4, .int .i64 st43.1)] ∧ Ext w w' ∧ w.heap.size ≤ w'.heap.size ∧ SH w' w.heap.size [aOwn fStr 9 a5 c6 st43.2] ∧ loopN (m_laws_toStringS_l1 n a_0) n' st43 = some t54) n ⟨(0, x3), rfl, hb11, hL12, hS13, ht55⟩ ?_
  rintro n51 _ w44 ⟨st43, rfl, hb45, hL46, hS47, hl48⟩ K50 hK50
  obtain ⟨n52, s53, rfl, hm, hl48⟩ := loopN_some hl48
  unfold m_laws_toStringS_l1 at hm
  refine WP.seq (fun K56 hK56 => ?_)
  refine WP.seq (fun K57 hK57 => ?_)
  refine WP.region ?_
  refine WL.runk 4 [0, 3, 4, 11] [(0, .slice a0' a_0.length c0'), (3, .slice a5 st43.2.length c6), (4, .int .i64 st43.1), (11, .bool (decide (st43.1 < (a_0.length : Int))))] (by kernel_rfl) ?_
  refine WL.nil ?_
  refine WQ.then_normal (hK57 _ _ _ ?_)
  refine WP.cond (decide (st43.1 < (a_0.length : Int))) rfl rfl (fun hc58 => ?_) (fun hc58 => ?_)
  rotate_left
  · have hm := iteF hm hc58
    refine WP.exit ?_
    refine WQ.then_exit ?_
    refine WQ.then_exit ?_
    refine WQ.block_here ?_
    obtain rfl := Option.some.inj hm
    obtain rfl := afterN_done hl48
    have hm := hmo49
    refine WQ.then_normal (hK14 _ _ _ ?_)
    refine WP.seq (fun K69 hK69 => ?_)
    refine WP.region ?_
    refine WL.runk 2 [2] [(2, .slice a5 st43.2.length c6)] (by kernel_rfl) ?_
    refine WL.nil ?_
    refine WQ.then_normal (hK69 _ _ _ ?_)
    refine WP.ret ?_
    obtain rfl := Option.some.inj hm
    exact WQ.ret1 _ rfl rfl ⟨_, _, rfl, hb45, hS47⟩
  have hm := iteT hm hc58
  refine WP.skip ?_
  refine WQ.then_normal (hK56 _ _ _ ?_)
  refine WP.seq (fun K59 hK59 => ?_)
  refine WP.block ?_
  refine WP.region ?_
  refine WL.runk 4 [0, 3, 4, 14, 15, 16, 17] [(0, .slice a0' a_0.length c0'), (3, .slice a5 st43.2.length c6), (4, .int .i64 st43.1), (14, .slice a5 st43.2.length c6), (15, .int .i64 st43.1), (16, .slice a0' a_0.length c0'), (17, .int .i64 st43.1)] (by kernel_rfl) ?_
  obtain ⟨x60, hx61, hm⟩ := bindE hm
  refine WL.st (.pointer (some (at_ a0' (Int.toNat st43.1 * 1)))) (ST.index (T := fStr.ty) (xs := a_0) (Rd.below h0 hb45) hx61 rfl rfl rfl Try.underlying22 (info9).1 (info9).2.1) rfl rfl rfl ?_
  refine WL.st (.string (bs x60)) (ST.load (cell_ext (Rd.flat (F := fStr) (Rd.below h0 hb45) hx61 0 rfl)) rfl rfl Try.underlying9 rfl) rfl rfl rfl ?_
  obtain ⟨x62, hx63, hm⟩ := bindE hm
  refine WL.st (.pointer (some (at_ a5 (Int.toNat st43.1 * 1)))) (ST.index (T := fStr.ty) (xs := st43.2) (SH.rd (SH.front 0 hS47)) hx63 rfl rfl rfl Try.underlying22 (info9).1 (info9).2.1) rfl rfl rfl ?_
  refine WL.store (F := fStr) x60 0 [.string (bs x60)] (SH.front 0 hS47) hL46 hx63 rfl rfl rfl rfl rfl rfl rfl (info9).1 (info9).2.1 rfl rfl rfl ?_
  intro w64 hB65 hS66
  have hb67 : Ext w w64 := Below.trans hb45 hB65
  have hL68 : w.heap.size ≤ w64.heap.size := Nat.le_trans hL46 hB65.size
  refine WL.sub [(0, .slice a0' a_0.length c0'), (3, .slice a5 ((st43.2.set (Int.toNat st43.1) x60).length) c6), (4, .int .i64 st43.1), (14, .slice a5 ((st43.2.set (Int.toNat st43.1) x60).length) c6), (15, .int .i64 st43.1), (16, .slice a0' a_0.length c0'), (17, .int .i64 st43.1), (18, .pointer (some (at_ a0' (Int.toNat st43.1 * 1)))), (19, .string (bs x60))] ⟨rfl, by first | (simp only [List.length_set]; done) | (simp only [List.length_set]; rfl), rfl, by first | (simp only [List.length_set]; done) | (simp only [List.length_set]; rfl), rfl, rfl, rfl, rfl, rfl, trivial⟩ ?_
  refine WL.sub [(0, .slice a0' a_0.length c0'), (3, .slice a5 ((st43.2.set (Int.toNat st43.1) x60).length) c6), (4, .int .i64 st43.1)] ⟨rfl, rfl, rfl, trivial⟩ ?_
  refine WL.nil ?_
  refine WQ.block_normal ?_
  refine WQ.then_normal (hK59 _ _ _ ?_)
  refine WP.region ?_
  refine WL.runk 3 [0, 3, 4] [(0, .slice a0' a_0.length c0'), (3, .slice a5 ((st43.2.set (Int.toNat st43.1) x60).length) c6), (4, .int .i64 (wI64 (st43.1 + 1)))] (by kernel_rfl) ?_
  refine WL.nil ?_
  obtain rfl := Option.some.inj hm
  exact WQ.round hK50 ⟨((wI64 (st43.1 + 1)), (st43.2.set (Int.toNat st43.1) x60)), rfl, hb67, hL68, hS66, hl48⟩ (Nat.lt_succ_self _) ⟨rfl, rfl, rfl, trivial⟩

theorem c_50 (n : Nat) (n_0 : Int) (low_1 : Int) (high_2 : Int) (w : World) {r : Bool} (hm : m_impl_within n n_0 low_1 high_2 = some r)  :
    CallV Try.prog 50 #[.int .i64 n_0, .int .i64 low_1, .int .i64 high_2] w (fun v w' => v = .bool r ∧ Ext w w') := by
  unfold m_impl_within at hm
  refine CallV.enter Try.func50 rfl (by kernel_rfl) Try.ntmps50 (env := [(0, .int .i64 n_0), (1, .int .i64 low_1), (2, .int .i64 high_2)]) ⟨rfl, rfl, rfl, trivial⟩ ?_
  refine WP.seq (fun K1 hK1 => ?_)
  refine WP.region ?_
  refine WL.runk 1 [0, 1, 2] [(0, .int .i64 n_0), (1, .int .i64 low_1), (2, .int .i64 high_2)] (by kernel_rfl) ?_
  refine WL.nil ?_
  refine WQ.then_normal (hK1 _ _ _ ?_)
  refine WP.seq (fun K2 hK2 => ?_)
  obtain ⟨x4, hx5, hm⟩ := bindE hm
  refine WP.cut (fun env' w' => env' = [(6, .bool x4)] ∧ Ext w w' ∧ w.heap.size ≤ w'.heap.size ∧ SH w' w.heap.size []) ?_ ?_
  rotate_left
  · clear hx5
    rintro _ w7 ⟨rfl, hb8, hL9, hS10⟩
    refine WQ.then_normal (hK2 _ _ _ ?_)
    refine WP.ret ?_
    obtain rfl := Option.some.inj hm
    exact WQ.ret1 _ rfl rfl ⟨rfl, hb8⟩
  have hm := hx5; clear hx5
  refine WP.region ?_
  refine WL.runk 4 [0, 2, 10] [(0, .int .i64 n_0), (2, .int .i64 high_2), (10, .bool (decide (n_0 ≥ low_1)))] (by kernel_rfl) ?_
  refine WL.case (decide (n_0 ≥ low_1)) [10] ⟨rfl, trivial⟩ (fun hc6 => ?_) (fun hc6 => ?_)
  · have hm := iteT hm hc6
    refine WL.runk 5 [6] [(6, .bool (decide (n_0 ≤ high_2)))] (by kernel_rfl) ?_
    refine WL.nil ?_
    obtain rfl := Option.some.inj hm
    exact WQ.post' ⟨rfl, (Ext.refl w), (Nat.le_refl _), (SH.nil _ _)⟩ ⟨rfl, trivial⟩
  have hm := iteF hm hc6
  refine WL.runk 5 [6] [(6, .bool false)] (by kernel_rfl) ?_
  refine WL.nil ?_
  obtain rfl := Option.some.inj hm
  exact WQ.post' ⟨rfl, (Ext.refl w), (Nat.le_refl _), (SH.nil _ _)⟩ ⟨rfl, trivial⟩

theorem c_18 (n : Nat) (rows_0 : List (List UInt8)) (a0' : Option Addr) (c0' : Nat) (w : World) {r : Bool} (hm : m_impl_ValidWear n rows_0 = some r) (h0 : Rd fStr.ty w a0' rows_0) (_hle0 : rows_0.length ≤ c0') :
    CallV Try.prog 18 #[.slice a0' rows_0.length c0'] w (fun v w' => v = .bool r ∧ Ext w w') := by
  unfold m_impl_ValidWear at hm
  refine CallV.enter Try.func18 rfl (by kernel_rfl) Try.ntmps18 (env := [(0, .slice a0' rows_0.length c0')]) ⟨rfl, trivial⟩ ?_
  refine WP.seq (fun K1 hK1 => ?_)
  refine WP.region ?_
  refine WL.runk 1 [0] [(0, .slice a0' rows_0.length c0')] (by kernel_rfl) ?_
  refine WL.nil ?_
  refine WQ.then_normal (hK1 _ _ _ ?_)
  refine WP.seq (fun K2 hK2 => ?_)
  refine WP.seq (fun K3 hK3 => ?_)
  obtain ⟨x23, hx24, hm⟩ := bindE hm
  refine WP.cut (fun env' w' => env' = [(0, .slice a0' rows_0.length c0'), (17, .bool x23)] ∧ Ext w w' ∧ w.heap.size ≤ w'.heap.size ∧ SH w' w.heap.size []) ?_ ?_
  · have hm := hx24; clear hx24
    refine WP.region ?_
    refine WL.runk 2 [0, 7] [(0, .slice a0' rows_0.length c0'), (7, .int .i64 (rows_0.length : Int))] (by kernel_rfl) ?_
    obtain ⟨x25, hx26, hm⟩ := bindE hm
    refine WL.call 50 #[.int .i64 (rows_0.length : Int), .int .i64 2, .int .i64 12] rfl rfl (by kernel_rfl) (c_50 n (rows_0.length : Int) 2 12 w hx26 ) ?_
    rintro _ w27 ⟨rfl, hE28⟩
    refine ⟨_, rfl, ?_⟩
    have hb30 : Ext w w27 := Ext.trans (Ext.refl w) hE28
    have hL31 : w.heap.size ≤ w27.heap.size := Nat.le_trans (Nat.le_refl _) hE28.size
    have hS32 : SH w27 w.heap.size [] := SH.ext (SH.nil _ _) hE28
    refine WL.runk 2 [0, 10] [(0, .slice a0' rows_0.length c0'), (10, .bool (!x25))] (by kernel_rfl) ?_
    refine WL.case (!x25) [10] ⟨rfl, trivial⟩ (fun hc33 => ?_) (fun hc33 => ?_)
    · have hm := iteT hm hc33
      refine WL.runk 7 [0, 17] [(0, .slice a0' rows_0.length c0'), (17, .bool true)] (by kernel_rfl) ?_
      refine WL.nil ?_
      obtain rfl := Option.some.inj hm
      exact WQ.post' ⟨rfl, hb30, hL31, hS32⟩ ⟨rfl, rfl, trivial⟩
    have hm := iteF hm hc33
    refine WL.runk 1 [0, 10, 11] [(0, .slice a0' rows_0.length c0'), (10, .bool false), (11, .slice a0' rows_0.length c0')] (by kernel_rfl) ?_
    obtain ⟨x34, hx35, hm⟩ := bindE hm
    refine WL.st (.pointer (some (at_ a0' (Int.toNat 0 * 1)))) (ST.index (T := fStr.ty) (xs := rows_0) (Rd.below h0 hb30) hx35 rfl rfl rfl Try.underlying22 (info9).1 (info9).2.1) rfl rfl rfl ?_
    refine WL.st (.string (bs x34)) (ST.load (cell_ext (Rd.flat (F := fStr) (Rd.below h0 hb30) hx35 0 rfl)) rfl rfl Try.underlying9 rfl) rfl rfl rfl ?_
    refine WL.runk 1 [0, 10, 14] [(0, .slice a0' rows_0.length c0'), (10, .bool false), (14, .int .i64 (x34.length : Int))] (by kernel_rfl) ?_
    obtain ⟨x36, hx37, hm⟩ := bindE hm
    refine WL.call 50 #[.int .i64 (x34.length : Int), .int .i64 2, .int .i64 8] rfl rfl (by kernel_rfl) (c_50 n (x34.length : Int) 2 8 w27 hx37 ) ?_
    rintro _ w38 ⟨rfl, hE39⟩
    refine ⟨_, rfl, ?_⟩
    have hb41 : Ext w w38 := Ext.trans hb30 hE39
    have hL42 : w.heap.size ≤ w38.heap.size := Nat.le_trans hL31 hE39.size
    have hS43 : SH w38 w.heap.size [] := SH.ext hS32 hE39
    refine WL.runk 2 [0, 17] [(0, .slice a0' rows_0.length c0'), (17, .bool (!x36))] (by kernel_rfl) ?_
    refine WL.nil ?_
    obtain rfl := Option.some.inj hm
    exact WQ.post' ⟨rfl, hb41, hL42, hS43⟩ ⟨rfl, rfl, trivial⟩
  clear hx24
  rintro _ w44 ⟨rfl, hb45, hL46, hS47⟩
  refine WQ.then_normal (hK3 _ _ _ ?_)
  refine WP.cond x23 rfl rfl (fun hc48 => ?_) (fun hc48 => ?_)
  · have hm := iteT hm hc48
    refine WP.seq (fun K49 hK49 => ?_)
    refine WP.region ?_
    refine WL.runk 1 [2] [(2, .bool false)] (by kernel_rfl) ?_
    refine WL.nil ?_
    refine WQ.then_normal (hK49 _ _ _ ?_)
    refine WP.ret ?_
    refine WQ.then_ret ?_
    obtain rfl := Option.some.inj hm
    exact WQ.ret1 _ rfl rfl ⟨rfl, hb45⟩
  have hm := iteF hm hc48
  refine WP.skip ?_
  refine WQ.then_normal (hK2 _ _ _ ?_)
  refine WP.seq (fun K50 hK50 => ?_)
  refine WP.seq (fun K51 hK51 => ?_)
  refine WP.region ?_
  refine WL.runk 3 [0, 18, 19, 20] [(0, .slice a0' rows_0.length c0'), (18, .slice a0' rows_0.length c0'), (19, .int .i64 (rows_0.length : Int)), (20, .int .i64 0)] (by kernel_rfl) ?_
  refine WL.nil ?_
  refine WQ.then_normal (hK51 _ _ _ ?_)
  refine WP.block ?_
  obtain ⟨t63, ht64, hm⟩ := bindE hm
  have hmo58 := hm; clear hm
  refine WP.sub [(0, .slice a0' rows_0.length c0'), (18, .slice a0' rows_0.length c0'), (19, .int .i64 (rows_0.length : Int)), (20, .int .i64 0)] ⟨rfl, rfl, rfl, rfl, trivial⟩ ?_
  refine WP.loop (fun n' env' w' => ∃ (st52 : Int) , env' = [(0, .slice a0' rows_0.length c0'), (18, .slice a0' rows_0.length c0'), (19, .int .i64 (rows_0.length : Int)), (20, .int .i64 st52)] ∧ Ext w w' ∧ w.heap.size ≤ w'.heap.size ∧ SH w' w.heap.size [] ∧ loopN (m_impl_ValidWear_l1 n rows_0) n' st52 = some t63) n ⟨0, rfl, hb45, hL46, hS47, ht64⟩ ?_
  rintro n60 _ w53 ⟨st52, rfl, hb54, hL55, hS56, hl57⟩ K59 hK59
  obtain ⟨n61, s62, rfl, hm, hl57⟩ := loopN_some hl57
  unfold m_impl_ValidWear_l1 at hm
  refine WP.seq (fun K65 hK65 => ?_)
  refine WP.region ?_
  refine WL.runk 1 [0, 18, 19, 20, 21] [(0, .slice a0' rows_0.length c0'), (18, .slice a0' rows_0.length c0'), (19, .int .i64 (rows_0.length : Int)), (20, .int .i64 st52), (21, .bool (decide (st52 < (rows_0.length : Int))))] (by kernel_rfl) ?_
  refine WL.nil ?_
  refine WQ.then_normal (hK65 _ _ _ ?_)
  refine WP.seq (fun K66 hK66 => ?_)
  refine WP.cond (decide (st52 < (rows_0.length : Int))) rfl rfl (fun hc67 => ?_) (fun hc67 => ?_)
  rotate_left
  · have hm := iteF hm hc67
    refine WP.exit ?_
    refine WQ.then_exit ?_
    refine WQ.then_exit ?_
    refine WQ.block_here ?_
    obtain rfl := Option.some.inj hm
    obtain rfl := afterN_done hl57
    have hm := hmo58
    refine WQ.then_normal (hK50 _ _ _ ?_)
    refine WP.seq (fun K117 hK117 => ?_)
    refine WP.region ?_
    refine WL.runk 1 [2] [(2, .bool true)] (by kernel_rfl) ?_
    refine WL.nil ?_
    refine WQ.then_normal (hK117 _ _ _ ?_)
    refine WP.ret ?_
    obtain rfl := Option.some.inj hm
    exact WQ.ret1 _ rfl rfl ⟨rfl, hb54⟩
  have hm := iteT hm hc67
  refine WP.skip ?_
  refine WQ.then_normal (hK66 _ _ _ ?_)
  refine WP.seq (fun K68 hK68 => ?_)
  refine WP.block ?_
  refine WP.seq (fun K69 hK69 => ?_)
  refine WP.region ?_
  obtain ⟨x70, hx71, hm⟩ := bindE hm
  refine WL.st (.pointer (some (at_ a0' (Int.toNat st52 * 1)))) (ST.index (T := fStr.ty) (xs := rows_0) (Rd.below h0 hb54) hx71 rfl rfl rfl Try.underlying22 (info9).1 (info9).2.1) rfl rfl rfl ?_
  refine WL.st (.string (bs x70)) (ST.load (cell_ext (Rd.flat (F := fStr) (Rd.below h0 hb54) hx71 0 rfl)) rfl rfl Try.underlying9 rfl) rfl rfl rfl ?_
  refine WL.runk 1 [0, 4, 18, 19, 20] [(0, .slice a0' rows_0.length c0'), (18, .slice a0' rows_0.length c0'), (19, .int .i64 (rows_0.length : Int)), (20, .int .i64 st52), (4, .string (bs x70))] (by kernel_rfl) ?_
  refine WL.nil ?_
  refine WQ.then_normal (hK69 _ _ _ ?_)
  refine WP.seq (fun K72 hK72 => ?_)
  refine WP.seq (fun K73 hK73 => ?_)
  refine WP.region ?_
  refine WL.runk 3 [0, 4, 18, 19, 20, 25, 26] [(0, .slice a0' rows_0.length c0'), (18, .slice a0' rows_0.length c0'), (19, .int .i64 (rows_0.length : Int)), (20, .int .i64 st52), (4, .string (bs x70)), (25, .int .i64 (x70.length : Int)), (26, .slice a0' rows_0.length c0')] (by kernel_rfl) ?_
  obtain ⟨x74, hx75, hm⟩ := bindE hm
  refine WL.st (.pointer (some (at_ a0' (Int.toNat 0 * 1)))) (ST.index (T := fStr.ty) (xs := rows_0) (Rd.below h0 hb54) hx75 rfl rfl rfl Try.underlying22 (info9).1 (info9).2.1) rfl rfl rfl ?_
  refine WL.st (.string (bs x74)) (ST.load (cell_ext (Rd.flat (F := fStr) (Rd.below h0 hb54) hx75 0 rfl)) rfl rfl Try.underlying9 rfl) rfl rfl rfl ?_
  refine WL.runk 2 [0, 4, 18, 19, 20, 30] [(0, .slice a0' rows_0.length c0'), (18, .slice a0' rows_0.length c0'), (19, .int .i64 (rows_0.length : Int)), (20, .int .i64 st52), (4, .string (bs x70)), (30, .bool ((x70.length : Int) != (x74.length : Int)))] (by kernel_rfl) ?_
  refine WL.nil ?_
  refine WQ.then_normal (hK73 _ _ _ ?_)
  refine WP.cond ((x70.length : Int) != (x74.length : Int)) rfl rfl (fun hc76 => ?_) (fun hc76 => ?_)
  · have hm := iteT hm hc76
    refine WP.seq (fun K77 hK77 => ?_)
    refine WP.region ?_
    refine WL.runk 1 [2] [(2, .bool false)] (by kernel_rfl) ?_
    refine WL.nil ?_
    refine WQ.then_normal (hK77 _ _ _ ?_)
    refine WP.ret ?_
    refine WQ.then_ret ?_
    refine WQ.block_ret ?_
    refine WQ.then_ret ?_
    refine WQ.then_ret ?_
    refine WQ.block_ret ?_
    refine WQ.then_ret ?_
    obtain rfl := Option.some.inj hm
    obtain rfl := afterN_done hl57
    have hm := hmo58
    obtain rfl := Option.some.inj hm
    exact WQ.ret1 _ rfl rfl ⟨rfl, hb54⟩
  have hm := iteF hm hc76
  refine WP.skip ?_
  refine WQ.then_normal (hK72 _ _ _ ?_)
  refine WP.seq (fun K78 hK78 => ?_)
  refine WP.region ?_
  refine WL.runk 3 [0, 4, 18, 19, 20, 32, 33] [(0, .slice a0' rows_0.length c0'), (18, .slice a0' rows_0.length c0'), (19, .int .i64 (rows_0.length : Int)), (20, .int .i64 st52), (4, .string (bs x70)), (32, .int .i64 (x70.length : Int)), (33, .int .i64 0)] (by kernel_rfl) ?_
  refine WL.nil ?_
  refine WQ.then_normal (hK78 _ _ _ ?_)
  refine WP.block ?_
  obtain ⟨t90, ht91, hm⟩ := bindE hm
  have hmo85 := hm; clear hm
  refine WP.sub [(0, .slice a0' rows_0.length c0'), (18, .slice a0' rows_0.length c0'), (19, .int .i64 (rows_0.length : Int)), (20, .int .i64 st52), (4, .string (bs x70)), (32, .int .i64 (x70.length : Int)), (33, .int .i64 0)] ⟨rfl, rfl, rfl, rfl, rfl, rfl, rfl, trivial⟩ ?_
  refine WP.loop (fun n' env' w' => ∃ (st79 : Int) , env' = [(0, .slice a0' rows_0.length c0'), (18, .slice a0' rows_0.length c0'), (19, .int .i64 (rows_0.length : Int)), (20, .int .i64 st52), (4, .string (bs x70)), (32, .int .i64 (x70.length : Int)), (33, .int .i64 st79)] ∧ Ext w w' ∧ w.heap.size ≤ w'.heap.size ∧ SH w' w.heap.size [] ∧ loopN (m_impl_ValidWear_l2 n x70) n' st79 = some t90) n ⟨0, rfl, hb54, hL55, hS56, ht91⟩ ?_
  rintro n87 _ w80 ⟨st79, rfl, hb81, hL82, hS83, hl84⟩ K86 hK86
  obtain ⟨n88, s89, rfl, hm, hl84⟩ := loopN_some hl84
  unfold m_impl_ValidWear_l2 at hm
  refine WP.seq (fun K92 hK92 => ?_)
  refine WP.region ?_
  refine WL.runk 1 [0, 4, 18, 19, 20, 32, 33, 34] [(0, .slice a0' rows_0.length c0'), (18, .slice a0' rows_0.length c0'), (19, .int .i64 (rows_0.length : Int)), (20, .int .i64 st52), (4, .string (bs x70)), (32, .int .i64 (x70.length : Int)), (33, .int .i64 st79), (34, .bool (decide (st79 < (x70.length : Int))))] (by kernel_rfl) ?_
  refine WL.nil ?_
  refine WQ.then_normal (hK92 _ _ _ ?_)
  refine WP.seq (fun K93 hK93 => ?_)
  refine WP.cond (decide (st79 < (x70.length : Int))) rfl rfl (fun hc94 => ?_) (fun hc94 => ?_)
  rotate_left
  · have hm := iteF hm hc94
    refine WP.exit ?_
    refine WQ.then_exit ?_
    refine WQ.then_exit ?_
    refine WQ.block_here ?_
    obtain rfl := Option.some.inj hm
    obtain rfl := afterN_done hl84
    have hm := hmo85
    refine WQ.block_normal ?_
    refine WQ.then_normal (hK68 _ _ _ ?_)
    refine WP.region ?_
    refine WL.runk 2 [0, 18, 19, 20] [(0, .slice a0' rows_0.length c0'), (18, .slice a0' rows_0.length c0'), (19, .int .i64 (rows_0.length : Int)), (20, .int .i64 (wI64 (st52 + 1)))] (by kernel_rfl) ?_
    refine WL.nil ?_
    obtain rfl := Option.some.inj hm
    exact WQ.round hK59 ⟨(wI64 (st52 + 1)), rfl, hb81, hL82, hS83, hl57⟩ (Nat.lt_succ_self _) ⟨rfl, rfl, rfl, rfl, trivial⟩
  have hm := iteT hm hc94
  refine WP.skip ?_
  refine WQ.then_normal (hK93 _ _ _ ?_)
  refine WP.seq (fun K95 hK95 => ?_)
  refine WP.block ?_
  refine WP.seq (fun K96 hK96 => ?_)
  refine WP.region ?_
  refine WL.runk 2 [0, 4, 5, 18, 19, 20, 32, 33] [(0, .slice a0' rows_0.length c0'), (18, .slice a0' rows_0.length c0'), (19, .int .i64 (rows_0.length : Int)), (20, .int .i64 st52), (4, .string (bs x70)), (32, .int .i64 (x70.length : Int)), (33, .int .i64 st79), (5, .int .i64 st79)] (by kernel_rfl) ?_
  refine WL.nil ?_
  refine WQ.then_normal (hK96 _ _ _ ?_)
  refine WP.seq (fun K97 hK97 => ?_)
  obtain ⟨x103, hx104, hm⟩ := bindE hm
  refine WP.cut (fun env' w' => env' = [(0, .slice a0' rows_0.length c0'), (18, .slice a0' rows_0.length c0'), (19, .int .i64 (rows_0.length : Int)), (20, .int .i64 st52), (4, .string (bs x70)), (32, .int .i64 (x70.length : Int)), (33, .int .i64 st79), (45, .bool x103)] ∧ Ext w w' ∧ w.heap.size ≤ w'.heap.size ∧ SH w' w.heap.size []) ?_ ?_
  · have hm := hx104; clear hx104
    refine WP.region ?_
    refine WL.runk 2 [0, 4, 5, 18, 19, 20, 32, 33, 36, 37] [(0, .slice a0' rows_0.length c0'), (18, .slice a0' rows_0.length c0'), (19, .int .i64 (rows_0.length : Int)), (20, .int .i64 st52), (4, .string (bs x70)), (32, .int .i64 (x70.length : Int)), (33, .int .i64 st79), (5, .int .i64 st79), (36, .string (bs x70)), (37, .int .i64 st79)] (by kernel_rfl) ?_
    obtain ⟨x105, hx106, hm⟩ := bindE hm
    refine WL.st (.int .u8 (x105.toNat : Int)) (ST.sindex hx106 rfl rfl rfl Try.underlying9) rfl rfl rfl ?_
    refine WL.runk 2 [0, 4, 5, 18, 19, 20, 32, 33, 40] [(0, .slice a0' rows_0.length c0'), (18, .slice a0' rows_0.length c0'), (19, .int .i64 (rows_0.length : Int)), (20, .int .i64 st52), (4, .string (bs x70)), (32, .int .i64 (x70.length : Int)), (33, .int .i64 st79), (5, .int .i64 st79), (40, .bool (decide ((x105.toNat : Int) < 48)))] (by kernel_rfl) ?_
    refine WL.case (decide ((x105.toNat : Int) < 48)) [40] ⟨rfl, trivial⟩ (fun hc107 => ?_) (fun hc107 => ?_)
    · have hm := iteT hm hc107
      refine WL.runk 5 [0, 4, 18, 19, 20, 32, 33, 45] [(0, .slice a0' rows_0.length c0'), (18, .slice a0' rows_0.length c0'), (19, .int .i64 (rows_0.length : Int)), (20, .int .i64 st52), (4, .string (bs x70)), (32, .int .i64 (x70.length : Int)), (33, .int .i64 st79), (45, .bool true)] (by kernel_rfl) ?_
      refine WL.nil ?_
      obtain rfl := Option.some.inj hm
      exact WQ.post' ⟨rfl, hb81, hL82, hS83⟩ ⟨rfl, rfl, rfl, rfl, rfl, rfl, rfl, rfl, trivial⟩
    have hm := iteF hm hc107
    refine WL.runk 2 [0, 4, 18, 19, 20, 32, 33, 40, 41, 42] [(0, .slice a0' rows_0.length c0'), (18, .slice a0' rows_0.length c0'), (19, .int .i64 (rows_0.length : Int)), (20, .int .i64 st52), (4, .string (bs x70)), (32, .int .i64 (x70.length : Int)), (33, .int .i64 st79), (40, .bool false), (41, .string (bs x70)), (42, .int .i64 st79)] (by kernel_rfl) ?_
    obtain ⟨x108, hx109, hm⟩ := bindE hm
    refine WL.st (.int .u8 (x108.toNat : Int)) (ST.sindex hx109 rfl rfl rfl Try.underlying9) rfl rfl rfl ?_
    refine WL.runk 2 [0, 4, 18, 19, 20, 32, 33, 45] [(0, .slice a0' rows_0.length c0'), (18, .slice a0' rows_0.length c0'), (19, .int .i64 (rows_0.length : Int)), (20, .int .i64 st52), (4, .string (bs x70)), (32, .int .i64 (x70.length : Int)), (33, .int .i64 st79), (45, .bool (decide ((x108.toNat : Int) > 57)))] (by kernel_rfl) ?_
    refine WL.nil ?_
    obtain rfl := Option.some.inj hm
    exact WQ.post' ⟨rfl, hb81, hL82, hS83⟩ ⟨rfl, rfl, rfl, rfl, rfl, rfl, rfl, rfl, trivial⟩
  clear hx104
  rintro _ w110 ⟨rfl, hb111, hL112, hS113⟩
  refine WQ.then_normal (hK97 _ _ _ ?_)
  refine WP.cond x103 rfl rfl (fun hc114 => ?_) (fun hc114 => ?_)
  rotate_left
  · have hm := iteF hm hc114
    refine WP.skip ?_
    refine WQ.block_normal ?_
    refine WQ.then_normal (hK95 _ _ _ ?_)
    refine WP.region ?_
    refine WL.runk 2 [0, 4, 18, 19, 20, 32, 33] [(0, .slice a0' rows_0.length c0'), (18, .slice a0' rows_0.length c0'), (19, .int .i64 (rows_0.length : Int)), (20, .int .i64 st52), (4, .string (bs x70)), (32, .int .i64 (x70.length : Int)), (33, .int .i64 (wI64 (st79 + 1)))] (by kernel_rfl) ?_
    refine WL.nil ?_
    obtain rfl := Option.some.inj hm
    exact WQ.round hK86 ⟨(wI64 (st79 + 1)), rfl, hb111, hL112, hS113, hl84⟩ (Nat.lt_succ_self _) ⟨rfl, rfl, rfl, rfl, rfl, rfl, rfl, trivial⟩
  have hm := iteT hm hc114
  refine WP.seq (fun K115 hK115 => ?_)
  refine WP.region ?_
  refine WL.runk 1 [2] [(2, .bool false)] (by kernel_rfl) ?_
  refine WL.nil ?_
  refine WQ.then_normal (hK115 _ _ _ ?_)
  refine WP.ret ?_
  refine WQ.block_ret ?_
  refine WQ.then_ret ?_
  refine WQ.then_ret ?_
  refine WQ.block_ret ?_
  refine WQ.block_ret ?_
  refine WQ.then_ret ?_
  refine WQ.then_ret ?_
  refine WQ.block_ret ?_
  refine WQ.then_ret ?_
  obtain rfl := Option.some.inj hm
  obtain rfl := afterN_done hl84
  have hm := hmo85
  obtain rfl := Option.some.inj hm
  obtain rfl := afterN_done hl57
  have hm := hmo58
  obtain rfl := Option.some.inj hm
  exact WQ.ret1 _ rfl rfl ⟨rfl, hb111⟩

theorem c_19 (n : Nat) (a_0 : List (List UInt8)) (a0' : Option Addr) (c0' : Nat) (b_1 : List (List UInt8)) (a1' : Option Addr) (c1' : Nat) (w : World) {r : Bool} (hm : m_laws_eqStringS n a_0 b_1 = some r) (h0 : Rd fStr.ty w a0' a_0) (_hle0 : a_0.length ≤ c0') (h1 : Rd fStr.ty w a1' b_1) (_hle1 : b_1.length ≤ c1') :
    CallV Try.prog 19 #[.slice a0' a_0.length c0', .slice a1' b_1.length c1'] w (fun v w' => v = .bool r ∧ Ext w w') := by
  unfold m_laws_eqStringS at hm
  refine CallV.enter Try.func19 rfl (by kernel_rfl) Try.ntmps19 (env := [(0, .slice a0' a_0.length c0'), (1, .slice a1' b_1.length c1')]) ⟨rfl, rfl, trivial⟩ ?_
  refine WP.seq (fun K1 hK1 => ?_)
  refine WP.region ?_
  refine WL.runk 1 [0, 1] [(0, .slice a0' a_0.length c0'), (1, .slice a1' b_1.length c1')] (by kernel_rfl) ?_
  refine WL.nil ?_
  refine WQ.then_normal (hK1 _ _ _ ?_)
  refine WP.seq (fun K2 hK2 => ?_)
  refine WP.seq (fun K3 hK3 => ?_)
  refine WP.region ?_
  refine WL.runk 5 [0, 1, 10] [(0, .slice a0' a_0.length c0'), (1, .slice a1' b_1.length c1'), (10, .bool ((a_0.length : Int) != (b_1.length : Int)))] (by kernel_rfl) ?_
  refine WL.nil ?_
  refine WQ.then_normal (hK3 _ _ _ ?_)
  refine WP.cond ((a_0.length : Int) != (b_1.length : Int)) rfl rfl (fun hc4 => ?_) (fun hc4 => ?_)
  · have hm := iteT hm hc4
    refine WP.seq (fun K5 hK5 => ?_)
    refine WP.region ?_
    refine WL.runk 1 [4] [(4, .bool false)] (by kernel_rfl) ?_
    refine WL.nil ?_
    refine WQ.then_normal (hK5 _ _ _ ?_)
    refine WP.ret ?_
    refine WQ.then_ret ?_
    obtain rfl := Option.some.inj hm
    exact WQ.ret1 _ rfl rfl ⟨rfl, (Ext.refl w)⟩
  have hm := iteF hm hc4
  refine WP.skip ?_
  refine WQ.then_normal (hK2 _ _ _ ?_)
  refine WP.seq (fun K6 hK6 => ?_)
  refine WP.seq (fun K7 hK7 => ?_)
  refine WP.region ?_
  refine WL.runk 1 [0, 1, 5] [(0, .slice a0' a_0.length c0'), (1, .slice a1' b_1.length c1'), (5, .int .i64 0)] (by kernel_rfl) ?_
  refine WL.nil ?_
  refine WQ.then_normal (hK7 _ _ _ ?_)
  refine WP.block ?_
  obtain ⟨t19, ht20, hm⟩ := bindE hm
  have hmo14 := hm; clear hm
  refine WP.sub [(0, .slice a0' a_0.length c0'), (1, .slice a1' b_1.length c1'), (5, .int .i64 0)] ⟨rfl, rfl, rfl, trivial⟩ ?_
  refine WP.loop (fun n' env' w' => ∃ (st8 : Int) , env' = [(0, .slice a0' a_0.length c0'), (1, .slice a1' b_1.length c1'), (5, .int .i64 st8)] ∧ Ext w w' ∧ w.heap.size ≤ w'.heap.size ∧ SH w' w.heap.size [] ∧ loopN (m_laws_eqStringS_l1 n a_0 b_1) n' st8 = some t19) n ⟨0, rfl, (Ext.refl w), (Nat.le_refl _), (SH.nil _ _), ht20⟩ ?_
  rintro n16 _ w9 ⟨st8, rfl, hb10, hL11, hS12, hl13⟩ K15 hK15
  obtain ⟨n17, s18, rfl, hm, hl13⟩ := loopN_some hl13
  unfold m_laws_eqStringS_l1 at hm
  refine WP.seq (fun K21 hK21 => ?_)
  refine WP.seq (fun K22 hK22 => ?_)
  refine WP.region ?_
  refine WL.runk 4 [0, 1, 5, 14] [(0, .slice a0' a_0.length c0'), (1, .slice a1' b_1.length c1'), (5, .int .i64 st8), (14, .bool (decide (st8 < (a_0.length : Int))))] (by kernel_rfl) ?_
  refine WL.nil ?_
  refine WQ.then_normal (hK22 _ _ _ ?_)
  refine WP.cond (decide (st8 < (a_0.length : Int))) rfl rfl (fun hc23 => ?_) (fun hc23 => ?_)
  rotate_left
  · have hm := iteF hm hc23
    refine WP.exit ?_
    refine WQ.then_exit ?_
    refine WQ.then_exit ?_
    refine WQ.block_here ?_
    obtain rfl := Option.some.inj hm
    obtain rfl := afterN_done hl13
    have hm := hmo14
    refine WQ.then_normal (hK6 _ _ _ ?_)
    refine WP.seq (fun K37 hK37 => ?_)
    refine WP.region ?_
    refine WL.runk 1 [4] [(4, .bool true)] (by kernel_rfl) ?_
    refine WL.nil ?_
    refine WQ.then_normal (hK37 _ _ _ ?_)
    refine WP.ret ?_
    obtain rfl := Option.some.inj hm
    exact WQ.ret1 _ rfl rfl ⟨rfl, hb10⟩
  have hm := iteT hm hc23
  refine WP.skip ?_
  refine WQ.then_normal (hK21 _ _ _ ?_)
  refine WP.seq (fun K24 hK24 => ?_)
  refine WP.block ?_
  refine WP.seq (fun K25 hK25 => ?_)
  refine WP.quiet (by kernel_rfl) (by kernel_rfl) ?_
  refine QL.step1v 17 (.slice a0' a_0.length c0') rfl (fun _ => by kernel_rfl) ?_
  refine QL.step1v 18 (.int .i64 st8) rfl (fun _ => by kernel_rfl) ?_
  refine QL.subk [0, 1, 5, 17, 18] [(0, .slice a0' a_0.length c0'), (1, .slice a1' b_1.length c1'), (5, .int .i64 st8), (17, .slice a0' a_0.length c0'), (18, .int .i64 st8)] (by kernel_rfl) ?_
  obtain ⟨x26, hx27, hm⟩ := bindE hm
  refine QL.st (.pointer (some (at_ a0' (Int.toNat st8 * 1)))) (ST.index (T := fStr.ty) (xs := a_0) (Rd.below h0 hb10) hx27 rfl rfl rfl Try.underlying22 (info9).1 (info9).2.1) rfl rfl rfl ?_
  refine QL.st (.string (bs x26)) (ST.load (cell_ext (Rd.flat (F := fStr) (Rd.below h0 hb10) hx27 0 rfl)) rfl rfl Try.underlying9 rfl) rfl rfl rfl ?_
  refine QL.step1v 21 (.slice a1' b_1.length c1') rfl (fun _ => by kernel_rfl) ?_
  refine QL.step1v 22 (.int .i64 st8) rfl (fun _ => by kernel_rfl) ?_
  refine QL.subk [0, 1, 5, 20, 21, 22] [(0, .slice a0' a_0.length c0'), (1, .slice a1' b_1.length c1'), (5, .int .i64 st8), (20, .string (bs x26)), (21, .slice a1' b_1.length c1'), (22, .int .i64 st8)] (by kernel_rfl) ?_
  obtain ⟨x28, hx29, hm⟩ := bindE hm
  refine QL.st (.pointer (some (at_ a1' (Int.toNat st8 * 1)))) (ST.index (T := fStr.ty) (xs := b_1) (Rd.below h1 hb10) hx29 rfl rfl rfl Try.underlying22 (info9).1 (info9).2.1) rfl rfl rfl ?_
  refine QL.st (.string (bs x28)) (ST.load (cell_ext (Rd.flat (F := fStr) (Rd.below h1 hb10) hx29 0 rfl)) rfl rfl Try.underlying9 rfl) rfl rfl rfl ?_
  refine QL.st (.bool (!(x26 == x28))) (ST.strne (x := x26) (y := x28) rfl rfl rfl) rfl rfl rfl ?_
  refine QL.subk [0, 1, 5, 25] [(0, .slice a0' a_0.length c0'), (1, .slice a1' b_1.length c1'), (5, .int .i64 st8), (25, .bool (!(x26 == x28)))] (by kernel_rfl) ?_
  refine QL.nil ?_
  intro w30 hE31
  have hb32 : Ext w w30 := Ext.trans hb10 hE31
  have hL33 : w.heap.size ≤ w30.heap.size := Nat.le_trans hL11 hE31.size
  have hS34 : SH w30 w.heap.size [] := SH.ext hS12 hE31
  refine WQ.then_normal (hK25 _ _ _ ?_)
  refine WP.cond (!(x26 == x28)) rfl rfl (fun hc35 => ?_) (fun hc35 => ?_)
  rotate_left
  · have hm := iteF hm hc35
    refine WP.skip ?_
    refine WQ.block_normal ?_
    refine WQ.then_normal (hK24 _ _ _ ?_)
    refine WP.region ?_
    refine WL.runk 3 [0, 1, 5] [(0, .slice a0' a_0.length c0'), (1, .slice a1' b_1.length c1'), (5, .int .i64 (wI64 (st8 + 1)))] (by kernel_rfl) ?_
    refine WL.nil ?_
    obtain rfl := Option.some.inj hm
    exact WQ.round hK15 ⟨(wI64 (st8 + 1)), rfl, hb32, hL33, hS34, hl13⟩ (Nat.lt_succ_self _) ⟨rfl, rfl, rfl, trivial⟩
  have hm := iteT hm hc35
  refine WP.seq (fun K36 hK36 => ?_)
  refine WP.region ?_
  refine WL.runk 1 [4] [(4, .bool false)] (by kernel_rfl) ?_
  refine WL.nil ?_
  refine WQ.then_normal (hK36 _ _ _ ?_)
  refine WP.ret ?_
  refine WQ.block_ret ?_
  refine WQ.then_ret ?_
  refine WQ.then_ret ?_
  refine WQ.block_ret ?_
  refine WQ.then_ret ?_
  obtain rfl := Option.some.inj hm
  obtain rfl := afterN_done hl13
  have hm := hmo14
  obtain rfl := Option.some.inj hm
  exact WQ.ret1 _ rfl rfl ⟨rfl, hb32⟩

theorem c_52 (n : Nat) (rows_0 : List (List UInt8)) (a0' : Option Addr) (c0' : Nat) (y_1 : Int) (x_2 : Int) (w : World) {r : Int} (hm : m_spec_l20At n rows_0 y_1 x_2 = some r) (h0 : Rd fStr.ty w a0' rows_0) (_hle0 : rows_0.length ≤ c0') :
    CallV Try.prog 52 #[.slice a0' rows_0.length c0', .int .i64 y_1, .int .i64 x_2] w (fun v w' => v = .int .i64 r ∧ Ext w w') := by
  unfold m_spec_l20At at hm
  refine CallV.enter Try.func52 rfl (by kernel_rfl) Try.ntmps52 (env := [(0, .slice a0' rows_0.length c0'), (1, .int .i64 y_1), (2, .int .i64 x_2)]) ⟨rfl, rfl, rfl, trivial⟩ ?_
  refine WP.seq (fun K1 hK1 => ?_)
  refine WP.region ?_
  refine WL.runk 1 [0, 1, 2] [(0, .slice a0' rows_0.length c0'), (1, .int .i64 y_1), (2, .int .i64 x_2)] (by kernel_rfl) ?_
  refine WL.nil ?_
  refine WQ.then_normal (hK1 _ _ _ ?_)
  refine WP.seq (fun K2 hK2 => ?_)
  refine WP.region ?_
  refine WL.runk 2 [2, 7, 8] [(2, .int .i64 x_2), (7, .slice a0' rows_0.length c0'), (8, .int .i64 y_1)] (by kernel_rfl) ?_
  obtain ⟨x3, hx4, hm⟩ := bindE hm
  refine WL.st (.pointer (some (at_ a0' (Int.toNat y_1 * 1)))) (ST.index (T := fStr.ty) (xs := rows_0) (Rd.below h0 (Ext.refl w)) hx4 rfl rfl rfl Try.underlying22 (info9).1 (info9).2.1) rfl rfl rfl ?_
  refine WL.st (.string (bs x3)) (ST.load (cell_ext (Rd.flat (F := fStr) (Rd.below h0 (Ext.refl w)) hx4 0 rfl)) rfl rfl Try.underlying9 rfl) rfl rfl rfl ?_
  refine WL.runk 1 [10, 11] [(10, .string (bs x3)), (11, .int .i64 x_2)] (by kernel_rfl) ?_
  obtain ⟨x5, hx6, hm⟩ := bindE hm
  refine WL.st (.int .u8 (x5.toNat : Int)) (ST.sindex hx6 rfl rfl rfl Try.underlying9) rfl rfl rfl ?_
  refine WL.runk 3 [6] [(6, .int .i64 (wI64 (IntKind.u8.wrap ((x5.toNat : Int) - 48))))] (by kernel_rfl) ?_
  refine WL.nil ?_
  refine WQ.then_normal (hK2 _ _ _ ?_)
  refine WP.ret ?_
  obtain rfl := Option.some.inj hm
  exact WQ.ret1 _ rfl rfl ⟨rfl, (Ext.refl w)⟩

theorem c_54 (n : Nat) (rows_0 : List (List UInt8)) (a0' : Option Addr) (c0' : Nat) (w : World) {r : List Int} (hm : m_impl_digits n rows_0 = some r) (h0 : Rd fStr.ty w a0' rows_0) (_hle0 : rows_0.length ≤ c0') :
    CallV Try.prog 54 #[.slice a0' rows_0.length c0'] w (fun v w' => ∃ (ra0 : Option Addr) (rc0 : Nat), v = .slice ra0 r.length rc0 ∧ Ext w w' ∧ SH w' w.heap.size [aOwn fInt 2 ra0 rc0 r]) := by
  unfold m_impl_digits at hm
  refine CallV.enter Try.func54 rfl (by kernel_rfl) Try.ntmps54 (env := [(0, .slice a0' rows_0.length c0')]) ⟨rfl, trivial⟩ ?_
  refine WP.seq (fun K1 hK1 => ?_)
  refine WP.region ?_
  refine WL.runk 1 [0] [(0, .slice a0' rows_0.length c0')] (by kernel_rfl) ?_
  refine WL.nil ?_
  refine WQ.then_normal (hK1 _ _ _ ?_)
  refine WP.seq (fun K2 hK2 => ?_)
  refine WP.region ?_
  refine WL.row fInt 2 ([] : List Int) 0 #[] 7 (by kernel_rfl) rfl rfl rfl rfl rfl rfl rfl ?_
  intro a3 c4 w5 hE6 hR7
  have hb9 : Ext w w5 := Ext.trans (Ext.refl w) hE6
  have hL10 : w.heap.size ≤ w5.heap.size := Nat.le_trans (Nat.le_refl _) hE6.size
  have hS11 : SH w5 w.heap.size [aOwn fInt 2 a3 c4 ([] : List Int)] := SH.add (SH.nil _ _) hE6 (Nat.le_refl _) hR7
  refine WL.runk 1 [0, 3] [(0, .slice a0' rows_0.length c0'), (3, .slice a3 (([] : List Int).length) c4)] (by kernel_rfl) ?_
  refine WL.nil ?_
  refine WQ.then_normal (hK2 _ _ _ ?_)
  refine WP.seq (fun K12 hK12 => ?_)
  refine WP.seq (fun K13 hK13 => ?_)
  refine WP.region ?_
  refine WL.runk 3 [3, 8, 9, 10] [(3, .slice a3 (([] : List Int).length) c4), (8, .slice a0' rows_0.length c0'), (9, .int .i64 (rows_0.length : Int)), (10, .int .i64 0)] (by kernel_rfl) ?_
  refine WL.nil ?_
  refine WQ.then_normal (hK13 _ _ _ ?_)
  refine WP.block ?_
  obtain ⟨t28, ht29, hm⟩ := bindE hm
  have hmo23 := hm; clear hm
  refine WP.sub [(3, .slice a3 (([] : List Int).length) c4), (8, .slice a0' rows_0.length c0'), (9, .int .i64 (rows_0.length : Int)), (10, .int .i64 0)] ⟨rfl, rfl, rfl, rfl, trivial⟩ ?_
  refine WP.loop (fun n' env' w' => ∃ (st14 : List Int × Int) (a15 : Option Addr) (c16 : Nat), env' = [(3, .slice a15 st14.1.length c16), (8, .slice a0' rows_0.length c0'), (9, .int .i64 (rows_0.length : Int)), (10, .int .i64 st14.2)] ∧ Ext w w' ∧ w.heap.size ≤ w'.heap.size ∧ SH w' w.heap.size [aOwn fInt 2 a15 c16 st14.1] ∧ loopN (m_impl_digits_l1 n rows_0) n' st14 = some t28) n ⟨(([] : List Int), 0), _, _, rfl, hb9, hL10, hS11, ht29⟩ ?_
  rintro n25 _ w18 ⟨st14, a15, c16, rfl, hb19, hL20, hS21, hl22⟩ K24 hK24
  obtain ⟨n26, s27, rfl, hm, hl22⟩ := loopN_some hl22
  unfold m_impl_digits_l1 at hm
  refine WP.seq (fun K30 hK30 => ?_)
  refine WP.region ?_
  refine WL.runk 1 [3, 8, 9, 10, 11] [(3, .slice a15 st14.1.length c16), (8, .slice a0' rows_0.length c0'), (9, .int .i64 (rows_0.length : Int)), (10, .int .i64 st14.2), (11, .bool (decide (st14.2 < (rows_0.length : Int))))] (by kernel_rfl) ?_
  refine WL.nil ?_
  refine WQ.then_normal (hK30 _ _ _ ?_)
  refine WP.seq (fun K31 hK31 => ?_)
  refine WP.cond (decide (st14.2 < (rows_0.length : Int))) rfl rfl (fun hc32 => ?_) (fun hc32 => ?_)
  rotate_left
  · have hm := iteF hm hc32
    refine WP.exit ?_
    refine WQ.then_exit ?_
    refine WQ.then_exit ?_
    refine WQ.block_here ?_
    obtain rfl := Option.some.inj hm
    obtain rfl := afterN_done hl22
    have hm := hmo23
    refine WQ.then_normal (hK12 _ _ _ ?_)
    refine WP.seq (fun K83 hK83 => ?_)
    refine WP.region ?_
    refine WL.runk 2 [2] [(2, .slice a15 st14.1.length c16)] (by kernel_rfl) ?_
    refine WL.nil ?_
    refine WQ.then_normal (hK83 _ _ _ ?_)
    refine WP.ret ?_
    obtain rfl := Option.some.inj hm
    exact WQ.ret1 _ rfl rfl ⟨_, _, rfl, hb19, hS21⟩
  have hm := iteT hm hc32
  refine WP.skip ?_
  refine WQ.then_normal (hK31 _ _ _ ?_)
  refine WP.seq (fun K33 hK33 => ?_)
  refine WP.block ?_
  refine WP.seq (fun K34 hK34 => ?_)
  refine WP.region ?_
  obtain ⟨x35, hx36, hm⟩ := bindE hm
  refine WL.st (.pointer (some (at_ a0' (Int.toNat st14.2 * 1)))) (ST.index (T := fStr.ty) (xs := rows_0) (Rd.below h0 hb19) hx36 rfl rfl rfl Try.underlying22 (info9).1 (info9).2.1) rfl rfl rfl ?_
  refine WL.st (.string (bs x35)) (ST.load (cell_ext (Rd.flat (F := fStr) (Rd.below h0 hb19) hx36 0 rfl)) rfl rfl Try.underlying9 rfl) rfl rfl rfl ?_
  refine WL.runk 1 [3, 5, 8, 9, 10] [(3, .slice a15 st14.1.length c16), (8, .slice a0' rows_0.length c0'), (9, .int .i64 (rows_0.length : Int)), (10, .int .i64 st14.2), (5, .string (bs x35))] (by kernel_rfl) ?_
  refine WL.nil ?_
  refine WQ.then_normal (hK34 _ _ _ ?_)
  refine WP.seq (fun K37 hK37 => ?_)
  refine WP.region ?_
  refine WL.runk 3 [3, 5, 8, 9, 10, 15, 16] [(3, .slice a15 st14.1.length c16), (8, .slice a0' rows_0.length c0'), (9, .int .i64 (rows_0.length : Int)), (10, .int .i64 st14.2), (5, .string (bs x35)), (15, .int .i64 (x35.length : Int)), (16, .int .i64 0)] (by kernel_rfl) ?_
  refine WL.nil ?_
  refine WQ.then_normal (hK37 _ _ _ ?_)
  refine WP.block ?_
  obtain ⟨t52, ht53, hm⟩ := bindE hm
  have hmo47 := hm; clear hm
  refine WP.sub [(3, .slice a15 st14.1.length c16), (8, .slice a0' rows_0.length c0'), (9, .int .i64 (rows_0.length : Int)), (10, .int .i64 st14.2), (5, .string (bs x35)), (15, .int .i64 (x35.length : Int)), (16, .int .i64 0)] ⟨rfl, rfl, rfl, rfl, rfl, rfl, rfl, trivial⟩ ?_
  refine WP.loop (fun n' env' w' => ∃ (st38 : List Int × Int) (a39 : Option Addr) (c40 : Nat), env' = [(3, .slice a39 st38.1.length c40), (8, .slice a0' rows_0.length c0'), (9, .int .i64 (rows_0.length : Int)), (10, .int .i64 st14.2), (5, .string (bs x35)), (15, .int .i64 (x35.length : Int)), (16, .int .i64 st38.2)] ∧ Ext w w' ∧ w.heap.size ≤ w'.heap.size ∧ SH w' w.heap.size [aOwn fInt 2 a39 c40 st38.1] ∧ loopN (m_impl_digits_l2 n x35) n' st38 = some t52) n ⟨(st14.1, 0), _, _, rfl, hb19, hL20, hS21, ht53⟩ ?_
  rintro n49 _ w42 ⟨st38, a39, c40, rfl, hb43, hL44, hS45, hl46⟩ K48 hK48
  obtain ⟨n50, s51, rfl, hm, hl46⟩ := loopN_some hl46
  unfold m_impl_digits_l2 at hm
  refine WP.seq (fun K54 hK54 => ?_)
  refine WP.region ?_
  refine WL.runk 1 [3, 5, 8, 9, 10, 15, 16, 17] [(3, .slice a39 st38.1.length c40), (8, .slice a0' rows_0.length c0'), (9, .int .i64 (rows_0.length : Int)), (10, .int .i64 st14.2), (5, .string (bs x35)), (15, .int .i64 (x35.length : Int)), (16, .int .i64 st38.2), (17, .bool (decide (st38.2 < (x35.length : Int))))] (by kernel_rfl) ?_
  refine WL.nil ?_
  refine WQ.then_normal (hK54 _ _ _ ?_)
  refine WP.seq (fun K55 hK55 => ?_)
  refine WP.cond (decide (st38.2 < (x35.length : Int))) rfl rfl (fun hc56 => ?_) (fun hc56 => ?_)
  rotate_left
  · have hm := iteF hm hc56
    refine WP.exit ?_
    refine WQ.then_exit ?_
    refine WQ.then_exit ?_
    refine WQ.block_here ?_
    obtain rfl := Option.some.inj hm
    obtain rfl := afterN_done hl46
    have hm := hmo47
    refine WQ.block_normal ?_
    refine WQ.then_normal (hK33 _ _ _ ?_)
    refine WP.region ?_
    refine WL.runk 2 [3, 8, 9, 10] [(3, .slice a39 st38.1.length c40), (8, .slice a0' rows_0.length c0'), (9, .int .i64 (rows_0.length : Int)), (10, .int .i64 (wI64 (st14.2 + 1)))] (by kernel_rfl) ?_
    refine WL.nil ?_
    obtain rfl := Option.some.inj hm
    exact WQ.round hK24 ⟨(st38.1, (wI64 (st14.2 + 1))), _, _, rfl, hb43, hL44, hS45, hl22⟩ (Nat.lt_succ_self _) ⟨rfl, rfl, rfl, rfl, trivial⟩
  have hm := iteT hm hc56
  refine WP.skip ?_
  refine WQ.then_normal (hK55 _ _ _ ?_)
  refine WP.seq (fun K57 hK57 => ?_)
  refine WP.block ?_
  refine WP.seq (fun K58 hK58 => ?_)
  refine WP.region ?_
  refine WL.runk 2 [3, 5, 6, 8, 9, 10, 15, 16] [(3, .slice a39 st38.1.length c40), (8, .slice a0' rows_0.length c0'), (9, .int .i64 (rows_0.length : Int)), (10, .int .i64 st14.2), (5, .string (bs x35)), (15, .int .i64 (x35.length : Int)), (16, .int .i64 st38.2), (6, .int .i64 st38.2)] (by kernel_rfl) ?_
  refine WL.nil ?_
  refine WQ.then_normal (hK58 _ _ _ ?_)
  refine WP.region ?_
  refine WL.runk 3 [5, 8, 9, 10, 15, 16, 19, 20, 21] [(8, .slice a0' rows_0.length c0'), (9, .int .i64 (rows_0.length : Int)), (10, .int .i64 st14.2), (5, .string (bs x35)), (15, .int .i64 (x35.length : Int)), (16, .int .i64 st38.2), (19, .slice a39 st38.1.length c40), (20, .string (bs x35)), (21, .int .i64 st38.2)] (by kernel_rfl) ?_
  obtain ⟨x59, hx60, hm⟩ := bindE hm
  refine WL.st (.int .u8 (x59.toNat : Int)) (ST.sindex hx60 rfl rfl rfl Try.underlying9) rfl rfl rfl ?_
  refine WL.runk 2 [5, 8, 9, 10, 15, 16, 19, 24] [(8, .slice a0' rows_0.length c0'), (9, .int .i64 (rows_0.length : Int)), (10, .int .i64 st14.2), (5, .string (bs x35)), (15, .int .i64 (x35.length : Int)), (16, .int .i64 st38.2), (19, .slice a39 st38.1.length c40), (24, .int .i64 (wI64 (IntKind.u8.wrap ((x59.toNat : Int) - 48))))] (by kernel_rfl) ?_
  refine WL.row fInt 2 ([(wI64 (IntKind.u8.wrap ((x59.toNat : Int) - 48)))] : List Int) 1 #[.int .i64 (wI64 (IntKind.u8.wrap ((x59.toNat : Int) - 48)))] 25 (by kernel_rfl) rfl rfl rfl rfl rfl rfl rfl ?_
  intro a61 c62 w63 hE64 hR65
  have hb67 : Ext w w63 := Ext.trans hb43 hE64
  have hL68 : w.heap.size ≤ w63.heap.size := Nat.le_trans hL44 hE64.size
  have hS69 : SH w63 w.heap.size [aOwn fInt 2 a61 c62 ([(wI64 (IntKind.u8.wrap ((x59.toNat : Int) - 48)))] : List Int), aOwn fInt 2 a39 c40 st38.1] := SH.add hS45 hE64 hL44 hR65
  obtain ⟨x70, hx71, hm⟩ := bindE hm
  refine WL.append (F := fInt) (xs := st38.1) (ys := ([(wI64 (IntKind.u8.wrap ((x59.toNat : Int) - 48)))] : List Int)) 26 (SH.front 1 hS69) hL68 (SH.rd (SH.front 0 hS69)) hx71 rfl rfl rfl Try.underlying40 (info2).1 (info2).2.2.1 (info2).2.1 (info2).2.2.2 rfl rfl rfl rfl rfl ?_
  intro a72 c73 w74 hB75 hS76
  have hb77 : Ext w w74 := Below.trans hb67 hB75
  have hL78 : w.heap.size ≤ w74.heap.size := Nat.le_trans hL68 hB75.size
  refine WL.runk 1 [3, 5, 8, 9, 10, 15, 16] [(8, .slice a0' rows_0.length c0'), (9, .int .i64 (rows_0.length : Int)), (10, .int .i64 st14.2), (5, .string (bs x35)), (15, .int .i64 (x35.length : Int)), (16, .int .i64 st38.2), (3, .slice a72 x70.length c73)] (by kernel_rfl) ?_
  refine WL.nil ?_
  refine WQ.block_normal ?_
  refine WQ.then_normal (hK57 _ _ _ ?_)
  refine WP.region ?_
  refine WL.runk 2 [3, 5, 8, 9, 10, 15, 16] [(8, .slice a0' rows_0.length c0'), (9, .int .i64 (rows_0.length : Int)), (10, .int .i64 st14.2), (5, .string (bs x35)), (15, .int .i64 (x35.length : Int)), (16, .int .i64 (wI64 (st38.2 + 1))), (3, .slice a72 x70.length c73)] (by kernel_rfl) ?_
  refine WL.nil ?_
  obtain rfl := Option.some.inj hm
  exact WQ.round hK48 ⟨(x70, (wI64 (st38.2 + 1))), _, _, rfl, hb77, hL78, (SH.take 1 hS76), hl46⟩ (Nat.lt_succ_self _) ⟨rfl, rfl, rfl, rfl, rfl, rfl, rfl, trivial⟩

theorem c_55 (n : Nat) (rows_0 : List (List UInt8)) (a0' : Option Addr) (c0' : Nat) (w : World) {r : List (List UInt8)} (hm : m_spec_l20Mirror n rows_0 = some r) (h0 : Rd fStr.ty w a0' rows_0) (_hle0 : rows_0.length ≤ c0') :
    CallV Try.prog 55 #[.slice a0' rows_0.length c0'] w (fun v w' => ∃ (ra0 : Option Addr) (rc0 : Nat), v = .slice ra0 r.length rc0 ∧ Ext w w' ∧ SH w' w.heap.size [aOwn fStr 9 ra0 rc0 r]) := by
  unfold m_spec_l20Mirror at hm
  refine CallV.enter Try.func55 rfl (by kernel_rfl) Try.ntmps55 (env := [(0, .slice a0' rows_0.length c0')]) ⟨rfl, trivial⟩ ?_
  refine WP.seq (fun K1 hK1 => ?_)
  refine WP.region ?_
  refine WL.runk 1 [0] [(0, .slice a0' rows_0.length c0')] (by kernel_rfl) ?_
  refine WL.nil ?_
  refine WQ.then_normal (hK1 _ _ _ ?_)
  refine WP.seq (fun K2 hK2 => ?_)
  refine WP.region ?_
  refine WL.row fStr 9 ([] : List (List UInt8)) 0 #[] 7 (by kernel_rfl) rfl rfl rfl rfl rfl rfl rfl ?_
  intro a3 c4 w5 hE6 hR7
  have hb9 : Ext w w5 := Ext.trans (Ext.refl w) hE6
  have hL10 : w.heap.size ≤ w5.heap.size := Nat.le_trans (Nat.le_refl _) hE6.size
  have hS11 : SH w5 w.heap.size [aOwn fStr 9 a3 c4 ([] : List (List UInt8))] := SH.add (SH.nil _ _) hE6 (Nat.le_refl _) hR7
  refine WL.runk 1 [0, 3] [(0, .slice a0' rows_0.length c0'), (3, .slice a3 (([] : List (List UInt8)).length) c4)] (by kernel_rfl) ?_
  refine WL.nil ?_
  refine WQ.then_normal (hK2 _ _ _ ?_)
  refine WP.seq (fun K12 hK12 => ?_)
  refine WP.seq (fun K13 hK13 => ?_)
  refine WP.region ?_
  refine WL.runk 1 [0, 3, 4] [(0, .slice a0' rows_0.length c0'), (3, .slice a3 (([] : List (List UInt8)).length) c4), (4, .int .i64 0)] (by kernel_rfl) ?_
  refine WL.nil ?_
  refine WQ.then_normal (hK13 _ _ _ ?_)
  refine WP.block ?_
  obtain ⟨t28, ht29, hm⟩ := bindE hm
  have hmo23 := hm; clear hm
  refine WP.sub [(0, .slice a0' rows_0.length c0'), (3, .slice a3 (([] : List (List UInt8)).length) c4), (4, .int .i64 0)] ⟨rfl, rfl, rfl, trivial⟩ ?_
  refine WP.loop (fun n' env' w' => ∃ (st14 : List (List UInt8) × Int) (a15 : Option Addr) (c16 : Nat), env' = [(0, .slice a0' rows_0.length c0'), (3, .slice a15 st14.1.length c16), (4, .int .i64 st14.2)] ∧ Ext w w' ∧ w.heap.size ≤ w'.heap.size ∧ SH w' w.heap.size [aOwn fStr 9 a15 c16 st14.1] ∧ loopN (m_spec_l20Mirror_l1 n rows_0) n' st14 = some t28) n ⟨(([] : List (List UInt8)), 0), _, _, rfl, hb9, hL10, hS11, ht29⟩ ?_
  rintro n25 _ w18 ⟨st14, a15, c16, rfl, hb19, hL20, hS21, hl22⟩ K24 hK24
  obtain ⟨n26, s27, rfl, hm, hl22⟩ := loopN_some hl22
  unfold m_spec_l20Mirror_l1 at hm
  refine WP.seq (fun K30 hK30 => ?_)
  refine WP.seq (fun K31 hK31 => ?_)
  refine WP.region ?_
  refine WL.runk 4 [0, 3, 4, 11] [(0, .slice a0' rows_0.length c0'), (3, .slice a15 st14.1.length c16), (4, .int .i64 st14.2), (11, .bool (decide (st14.2 < (rows_0.length : Int))))] (by kernel_rfl) ?_
  refine WL.nil ?_
  refine WQ.then_normal (hK31 _ _ _ ?_)
  refine WP.cond (decide (st14.2 < (rows_0.length : Int))) rfl rfl (fun hc32 => ?_) (fun hc32 => ?_)
  rotate_left
  · have hm := iteF hm hc32
    refine WP.exit ?_
    refine WQ.then_exit ?_
    refine WQ.then_exit ?_
    refine WQ.block_here ?_
    obtain rfl := Option.some.inj hm
    obtain rfl := afterN_done hl22
    have hm := hmo23
    refine WQ.then_normal (hK12 _ _ _ ?_)
    refine WP.seq (fun K130 hK130 => ?_)
    refine WP.region ?_
    refine WL.runk 2 [2] [(2, .slice a15 st14.1.length c16)] (by kernel_rfl) ?_
    refine WL.nil ?_
    refine WQ.then_normal (hK130 _ _ _ ?_)
    refine WP.ret ?_
    obtain rfl := Option.some.inj hm
    exact WQ.ret1 _ rfl rfl ⟨_, _, rfl, hb19, hS21⟩
  have hm := iteT hm hc32
  refine WP.skip ?_
  refine WQ.then_normal (hK30 _ _ _ ?_)
  refine WP.seq (fun K33 hK33 => ?_)
  refine WP.block ?_
  refine WP.seq (fun K34 hK34 => ?_)
  refine WP.region ?_
  refine WL.row fU8 5 ([] : List Int) 0 #[] 14 (by kernel_rfl) rfl rfl rfl rfl rfl rfl rfl ?_
  intro a35 c36 w37 hE38 hR39
  have hb41 : Ext w w37 := Ext.trans hb19 hE38
  have hL42 : w.heap.size ≤ w37.heap.size := Nat.le_trans hL20 hE38.size
  have hS43 : SH w37 w.heap.size [aOwn fU8 5 a35 c36 ([] : List Int), aOwn fStr 9 a15 c16 st14.1] := SH.add hS21 hE38 hL20 hR39
  refine WL.runk 1 [0, 3, 4, 5] [(0, .slice a0' rows_0.length c0'), (3, .slice a15 st14.1.length c16), (4, .int .i64 st14.2), (5, .slice a35 (([] : List Int).length) c36)] (by kernel_rfl) ?_
  refine WL.nil ?_
  refine WQ.then_normal (hK34 _ _ _ ?_)
  refine WP.seq (fun K44 hK44 => ?_)
  refine WP.seq (fun K45 hK45 => ?_)
  refine WP.region ?_
  refine WL.runk 2 [0, 3, 4, 5, 15, 16] [(0, .slice a0' rows_0.length c0'), (3, .slice a15 st14.1.length c16), (4, .int .i64 st14.2), (5, .slice a35 (([] : List Int).length) c36), (15, .slice a0' rows_0.length c0'), (16, .int .i64 st14.2)] (by kernel_rfl) ?_
  obtain ⟨x46, hx47, hm⟩ := bindE hm
  refine WL.st (.pointer (some (at_ a0' (Int.toNat st14.2 * 1)))) (ST.index (T := fStr.ty) (xs := rows_0) (Rd.below h0 hb41) hx47 rfl rfl rfl Try.underlying22 (info9).1 (info9).2.1) rfl rfl rfl ?_
  refine WL.st (.string (bs x46)) (ST.load (cell_ext (Rd.flat (F := fStr) (Rd.below h0 hb41) hx47 0 rfl)) rfl rfl Try.underlying9 rfl) rfl rfl rfl ?_
  refine WL.runk 3 [0, 3, 4, 5, 6] [(0, .slice a0' rows_0.length c0'), (3, .slice a15 st14.1.length c16), (4, .int .i64 st14.2), (5, .slice a35 (([] : List Int).length) c36), (6, .int .i64 (wI64 ((x46.length : Int) - 1)))] (by kernel_rfl) ?_
  refine WL.nil ?_
  refine WQ.then_normal (hK45 _ _ _ ?_)
  refine WP.block ?_
  obtain ⟨t62, ht63, hm⟩ := bindE hm
  have hmo57 := hm; clear hm
  refine WP.sub [(0, .slice a0' rows_0.length c0'), (3, .slice a15 st14.1.length c16), (4, .int .i64 st14.2), (5, .slice a35 (([] : List Int).length) c36), (6, .int .i64 (wI64 ((x46.length : Int) - 1)))] ⟨rfl, rfl, rfl, rfl, rfl, trivial⟩ ?_
  refine WP.loop (fun n' env' w' => ∃ (st48 : List Int × Int) (a49 : Option Addr) (c50 : Nat), env' = [(0, .slice a0' rows_0.length c0'), (3, .slice a15 st14.1.length c16), (4, .int .i64 st14.2), (5, .slice a49 st48.1.length c50), (6, .int .i64 st48.2)] ∧ Ext w w' ∧ w.heap.size ≤ w'.heap.size ∧ SH w' w.heap.size [aOwn fU8 5 a49 c50 st48.1, aOwn fStr 9 a15 c16 st14.1] ∧ loopN (m_spec_l20Mirror_l2 n rows_0 st14) n' st48 = some t62) n ⟨(([] : List Int), (wI64 ((x46.length : Int) - 1))), _, _, rfl, hb41, hL42, hS43, ht63⟩ ?_
  rintro n59 _ w52 ⟨st48, a49, c50, rfl, hb53, hL54, hS55, hl56⟩ K58 hK58
  obtain ⟨n60, s61, rfl, hm, hl56⟩ := loopN_some hl56
  unfold m_spec_l20Mirror_l2 at hm
  refine WP.seq (fun K64 hK64 => ?_)
  refine WP.seq (fun K65 hK65 => ?_)
  refine WP.region ?_
  refine WL.runk 2 [0, 3, 4, 5, 6, 22] [(0, .slice a0' rows_0.length c0'), (3, .slice a15 st14.1.length c16), (4, .int .i64 st14.2), (5, .slice a49 st48.1.length c50), (6, .int .i64 st48.2), (22, .bool (decide (st48.2 ≥ 0)))] (by kernel_rfl) ?_
  refine WL.nil ?_
  refine WQ.then_normal (hK65 _ _ _ ?_)
  refine WP.cond (decide (st48.2 ≥ 0)) rfl rfl (fun hc66 => ?_) (fun hc66 => ?_)
  rotate_left
  · have hm := iteF hm hc66
    refine WP.exit ?_
    refine WQ.then_exit ?_
    refine WQ.then_exit ?_
    refine WQ.block_here ?_
    obtain rfl := Option.some.inj hm
    obtain rfl := afterN_done hl56
    have hm := hmo57
    refine WQ.then_normal (hK44 _ _ _ ?_)
    refine WP.region ?_
    refine WL.runk 2 [0, 4, 34, 35] [(0, .slice a0' rows_0.length c0'), (4, .int .i64 st14.2), (34, .slice a15 st14.1.length c16), (35, .slice a49 st48.1.length c50)] (by kernel_rfl) ?_
    refine WL.st (.string (bs (ofBytes st48.1))) (ST.b2s (SH.rd (SH.front 0 hS55)) (SH.le (SH.front 0 hS55)).2 rfl rfl Try.underlying46 Try.underlying9 Try.underlying5) rfl rfl rfl ?_
    refine WL.row fStr 9 ([(ofBytes st48.1)] : List (List UInt8)) 1 #[.string (bs (ofBytes st48.1))] 37 (by kernel_rfl) rfl rfl rfl rfl rfl rfl rfl ?_
    intro a90 c91 w92 hE93 hR94
    have hb96 : Ext w w92 := Ext.trans hb53 hE93
    have hL97 : w.heap.size ≤ w92.heap.size := Nat.le_trans hL54 hE93.size
    have hS98 : SH w92 w.heap.size [aOwn fStr 9 a90 c91 ([(ofBytes st48.1)] : List (List UInt8)), aOwn fU8 5 a49 c50 st48.1, aOwn fStr 9 a15 c16 st14.1] := SH.add hS55 hE93 hL54 hR94
    obtain ⟨x99, hx100, hm⟩ := bindE hm
    refine WL.append (F := fStr) (xs := st14.1) (ys := ([(ofBytes st48.1)] : List (List UInt8))) 38 (SH.front 2 hS98) hL97 (SH.rd (SH.front 0 hS98)) hx100 rfl rfl rfl Try.underlying22 (info9).1 (info9).2.2.1 (info9).2.1 (info9).2.2.2 rfl rfl rfl rfl rfl ?_
    intro a101 c102 w103 hB104 hS105
    have hb106 : Ext w w103 := Below.trans hb96 hB104
    have hL107 : w.heap.size ≤ w103.heap.size := Nat.le_trans hL97 hB104.size
    refine WL.runk 1 [0, 3, 4] [(0, .slice a0' rows_0.length c0'), (4, .int .i64 st14.2), (3, .slice a101 x99.length c102)] (by kernel_rfl) ?_
    refine WL.nil ?_
    refine WQ.block_normal ?_
    refine WQ.then_normal (hK33 _ _ _ ?_)
    refine WP.region ?_
    refine WL.runk 3 [0, 3, 4] [(0, .slice a0' rows_0.length c0'), (4, .int .i64 (wI64 (st14.2 + 1))), (3, .slice a101 x99.length c102)] (by kernel_rfl) ?_
    refine WL.nil ?_
    obtain rfl := Option.some.inj hm
    exact WQ.round hK24 ⟨(x99, (wI64 (st14.2 + 1))), _, _, rfl, hb106, hL107, (SH.take 1 hS105), hl22⟩ (Nat.lt_succ_self _) ⟨rfl, rfl, rfl, trivial⟩
  have hm := iteT hm hc66
  refine WP.skip ?_
  refine WQ.then_normal (hK64 _ _ _ ?_)
  refine WP.seq (fun K67 hK67 => ?_)
  refine WP.block ?_
  refine WP.region ?_
  refine WL.runk 3 [0, 3, 4, 6, 25, 26, 27] [(0, .slice a0' rows_0.length c0'), (3, .slice a15 st14.1.length c16), (4, .int .i64 st14.2), (6, .int .i64 st48.2), (25, .slice a49 st48.1.length c50), (26, .slice a0' rows_0.length c0'), (27, .int .i64 st14.2)] (by kernel_rfl) ?_
  obtain ⟨x68, hx69, hm⟩ := bindE hm
  refine WL.st (.pointer (some (at_ a0' (Int.toNat st14.2 * 1)))) (ST.index (T := fStr.ty) (xs := rows_0) (Rd.below h0 hb53) hx69 rfl rfl rfl Try.underlying22 (info9).1 (info9).2.1) rfl rfl rfl ?_
  refine WL.st (.string (bs x68)) (ST.load (cell_ext (Rd.flat (F := fStr) (Rd.below h0 hb53) hx69 0 rfl)) rfl rfl Try.underlying9 rfl) rfl rfl rfl ?_
  refine WL.runk 1 [0, 3, 4, 6, 25, 29, 30] [(0, .slice a0' rows_0.length c0'), (3, .slice a15 st14.1.length c16), (4, .int .i64 st14.2), (6, .int .i64 st48.2), (25, .slice a49 st48.1.length c50), (29, .string (bs x68)), (30, .int .i64 st48.2)] (by kernel_rfl) ?_
  obtain ⟨x70, hx71, hm⟩ := bindE hm
  refine WL.st (.int .u8 (x70.toNat : Int)) (ST.sindex hx71 rfl rfl rfl Try.underlying9) rfl rfl rfl ?_
  refine WL.row fU8 5 ([(x70.toNat : Int)] : List Int) 1 #[.int .u8 (x70.toNat : Int)] 32 (by kernel_rfl) rfl rfl rfl rfl rfl rfl rfl ?_
  intro a72 c73 w74 hE75 hR76
  have hb78 : Ext w w74 := Ext.trans hb53 hE75
  have hL79 : w.heap.size ≤ w74.heap.size := Nat.le_trans hL54 hE75.size
  have hS80 : SH w74 w.heap.size [aOwn fU8 5 a72 c73 ([(x70.toNat : Int)] : List Int), aOwn fU8 5 a49 c50 st48.1, aOwn fStr 9 a15 c16 st14.1] := SH.add hS55 hE75 hL54 hR76
  obtain ⟨x81, hx82, hm⟩ := bindE hm
  refine WL.append (F := fU8) (xs := st48.1) (ys := ([(x70.toNat : Int)] : List Int)) 33 (SH.front 1 hS80) hL79 (SH.rd (SH.front 0 hS80)) hx82 rfl rfl rfl Try.underlying46 (info5).1 (info5).2.2.1 (info5).2.1 (info5).2.2.2 rfl rfl rfl rfl rfl ?_
  intro a83 c84 w85 hB86 hS87
  have hb88 : Ext w w85 := Below.trans hb78 hB86
  have hL89 : w.heap.size ≤ w85.heap.size := Nat.le_trans hL79 hB86.size
  refine WL.runk 1 [0, 3, 4, 5, 6] [(0, .slice a0' rows_0.length c0'), (3, .slice a15 st14.1.length c16), (4, .int .i64 st14.2), (6, .int .i64 st48.2), (5, .slice a83 x81.length c84)] (by kernel_rfl) ?_
  refine WL.nil ?_
  refine WQ.block_normal ?_
  refine WQ.then_normal (hK67 _ _ _ ?_)
  refine WP.region ?_
  refine WL.runk 3 [0, 3, 4, 5, 6] [(0, .slice a0' rows_0.length c0'), (3, .slice a15 st14.1.length c16), (4, .int .i64 st14.2), (6, .int .i64 (wI64 (st48.2 - 1))), (5, .slice a83 x81.length c84)] (by kernel_rfl) ?_
  refine WL.nil ?_
  obtain rfl := Option.some.inj hm
  exact WQ.round hK58 ⟨(x81, (wI64 (st48.2 - 1))), _, _, rfl, hb88, hL89, (SH.take 2 (SH.front 1 (SH.front 2 hS87))), hl56⟩ (Nat.lt_succ_self _) ⟨rfl, rfl, rfl, rfl, rfl, trivial⟩

theorem c_77 (n : Nat) (s_0 : List Int) (a0' : Option Addr) (c0' : Nat) (w : World) (w0 : World) (B : Nat) (L : List Asrt) {r : List Int} (hm : m_slices_Reverse_byte_byte n s_0 = some r) (_hE0 : Ext w0 w) (_hW : w0.heap.size ≤ B) (hL : B ≤ w.heap.size) (hS : SH w B (aFz 5 a0' c0' s_0 :: L)) :
    CallV Try.prog 77 #[.slice a0' s_0.length c0'] w (fun v w' => v = .tuple #[] ∧ Below B w w' ∧ SH w' B (aFz 5 a0' c0' r :: L) ∧ r.length = s_0.length) := by
  unfold m_slices_Reverse_byte_byte at hm
  refine CallV.enter Try.func77 rfl (by kernel_rfl) Try.ntmps77 (env := [(0, .slice a0' s_0.length c0')]) ⟨rfl, trivial⟩ ?_
  refine WP.seq (fun K1 hK1 => ?_)
  refine WP.region ?_
  refine WL.runk 5 [0, 2, 3] [(0, .slice a0' s_0.length c0'), (2, .int .i64 0), (3, .int .i64 (wI64 ((s_0.length : Int) - 1)))] (by kernel_rfl) ?_
  refine WL.nil ?_
  refine WQ.then_normal (hK1 _ _ _ ?_)
  refine WP.block ?_
  obtain ⟨t60, ht61, hm⟩ := bindE hm
  have hmo55 := hm; clear hm
  refine WP.sub [(0, .slice a0' s_0.length c0'), (2, .int .i64 0), (3, .int .i64 (wI64 ((s_0.length : Int) - 1)))] ⟨rfl, rfl, rfl, trivial⟩ ?_
  refine WP.loop (fun n' env' w' => ∃ (st49 : Int × Int × List Int) , env' = [(0, .slice a0' st49.2.2.length c0'), (2, .int .i64 st49.1), (3, .int .i64 st49.2.1)] ∧ Below B w w' ∧ B ≤ w'.heap.size ∧ SH w' B (aFz 5 a0' c0' st49.2.2 :: L) ∧ st49.2.2.length = s_0.length ∧ loopN (m_slices_Reverse_byte_byte_l1 n) n' st49 = some t60) n ⟨(0, (wI64 ((s_0.length : Int) - 1)), s_0), rfl, (Below.refl _ _), hL, hS, rfl, ht61⟩ ?_
  rintro n57 _ w50 ⟨st49, rfl, hb51, hL52, hS53, hn62, hl54⟩ K56 hK56
  obtain ⟨n58, s59, rfl, hm, hl54⟩ := loopN_some hl54
  unfold m_slices_Reverse_byte_byte_l1 at hm
  refine WP.seq (fun K63 hK63 => ?_)
  refine WP.seq (fun K64 hK64 => ?_)
  refine WP.region ?_
  refine WL.runk 3 [0, 2, 3, 9] [(0, .slice a0' st49.2.2.length c0'), (2, .int .i64 st49.1), (3, .int .i64 st49.2.1), (9, .bool (decide (st49.1 < st49.2.1)))] (by kernel_rfl) ?_
  refine WL.nil ?_
  refine WQ.then_normal (hK64 _ _ _ ?_)
  refine WP.cond (decide (st49.1 < st49.2.1)) rfl rfl (fun hc65 => ?_) (fun hc65 => ?_)
  rotate_left
  · have hm := iteF hm hc65
    refine WP.exit ?_
    refine WQ.then_exit ?_
    refine WQ.then_exit ?_
    refine WQ.block_here ?_
    obtain rfl := Option.some.inj hm
    obtain rfl := afterN_done hl54
    have hm := hmo55
    obtain rfl := Option.some.inj hm
    exact WQ.end0 rfl ⟨rfl, hb51, hS53, hn62⟩
  have hm := iteT hm hc65
  refine WP.skip ?_
  refine WQ.then_normal (hK63 _ _ _ ?_)
  refine WP.seq (fun K66 hK66 => ?_)
  refine WP.block ?_
  refine WP.open (n := 16) (by kernel_rfl) rfl (fun w67 hE68 => ?_)
  have hb69 : Below B w w67 := Below.trans hb51 (Below.mono hE68 hL52)
  have hL70 : B ≤ w67.heap.size := Nat.le_trans hL52 hE68.size
  have hS71 : SH w67 B (aFz 5 a0' c0' st49.2.2 :: L) := SH.ext hS53 hE68
  refine WA.pre (i := 2) (D' := [2]) [(0, .slice a0' st49.2.2.length c0'), (2, .int .i64 st49.1), (3, .int .i64 st49.2.1), (9, .bool (decide (st49.1 < st49.2.1))), (16, .slice a0' st49.2.2.length c0')] rfl (by kernel_rfl) rfl (fun _ => by kernel_rfl) rfl ?_
  refine WA.pre (i := 3) (D' := [2, 3]) [(0, .slice a0' st49.2.2.length c0'), (2, .int .i64 st49.1), (3, .int .i64 st49.2.1), (9, .bool (decide (st49.1 < st49.2.1))), (16, .slice a0' st49.2.2.length c0'), (17, .int .i64 st49.2.1)] rfl (by kernel_rfl) rfl (fun _ => by kernel_rfl) rfl ?_
  refine WA.quiet (f' := 3) (D' := [2, 3, 0, 1, 4, 5, 6, 7, 8, 9, 10, 11, 12]) [0, 1, 4, 5, 6, 7, 8, 9, 10, 11, 12] rfl rfl (by kernel_rfl) ?_
  refine QL.step1v 14 (.slice a0' st49.2.2.length c0') rfl (fun _ => by kernel_rfl) ?_
  refine QL.step1v 15 (.int .i64 st49.1) rfl (fun _ => by kernel_rfl) ?_
  refine QL.step1v 18 (.slice a0' st49.2.2.length c0') rfl (fun _ => by kernel_rfl) ?_
  refine QL.step1v 19 (.int .i64 st49.2.1) rfl (fun _ => by kernel_rfl) ?_
  refine QL.subk [0, 2, 3, 16, 17, 14, 15, 18, 19] [(0, .slice a0' st49.2.2.length c0'), (2, .int .i64 st49.1), (3, .int .i64 st49.2.1), (16, .slice a0' st49.2.2.length c0'), (17, .int .i64 st49.2.1), (14, .slice a0' st49.2.2.length c0'), (15, .int .i64 st49.1), (18, .slice a0' st49.2.2.length c0'), (19, .int .i64 st49.2.1)] (by kernel_rfl) ?_
  obtain ⟨x72, hx73, hm⟩ := bindE hm
  refine QL.st (.pointer (some (at_ a0' (Int.toNat st49.2.1 * 1)))) (ST.index (T := fU8.ty) (xs := st49.2.2) (SH.rdFz (SH.front 0 hS71)) hx73 rfl rfl rfl Try.underlying46 (info5).1 (info5).2.1) rfl rfl rfl ?_
  refine QL.st (.int .u8 x72) (ST.load (cell_ext (Rd.flat (F := fU8) (SH.rdFz (SH.front 0 hS71)) hx73 0 rfl)) rfl rfl Try.underlying5 rfl) rfl rfl rfl ?_
  refine QL.step1v 22 (.slice a0' st49.2.2.length c0') rfl (fun _ => by kernel_rfl) ?_
  refine QL.step1v 23 (.int .i64 st49.1) rfl (fun _ => by kernel_rfl) ?_
  refine QL.subk [0, 2, 3, 16, 17, 14, 15, 21, 22, 23] [(0, .slice a0' st49.2.2.length c0'), (2, .int .i64 st49.1), (3, .int .i64 st49.2.1), (16, .slice a0' st49.2.2.length c0'), (17, .int .i64 st49.2.1), (14, .slice a0' st49.2.2.length c0'), (15, .int .i64 st49.1), (21, .int .u8 x72), (22, .slice a0' st49.2.2.length c0'), (23, .int .i64 st49.1)] (by kernel_rfl) ?_
  obtain ⟨x74, hx75, hm⟩ := bindE hm
  refine QL.st (.pointer (some (at_ a0' (Int.toNat st49.1 * 1)))) (ST.index (T := fU8.ty) (xs := st49.2.2) (SH.rdFz (SH.front 0 hS71)) hx75 rfl rfl rfl Try.underlying46 (info5).1 (info5).2.1) rfl rfl rfl ?_
  refine QL.st (.int .u8 x74) (ST.load (cell_ext (Rd.flat (F := fU8) (SH.rdFz (SH.front 0 hS71)) hx75 0 rfl)) rfl rfl Try.underlying5 rfl) rfl rfl rfl ?_
  obtain ⟨x76, hx77, hm⟩ := bindE hm
  refine QL.st (.pointer (some (at_ a0' (Int.toNat st49.1 * 1)))) (ST.index (T := fU8.ty) (xs := st49.2.2) (SH.rdFz (SH.front 0 hS71)) hx77 rfl rfl rfl Try.underlying46 (info5).1 (info5).2.1) rfl rfl rfl ?_
  refine QL.subk [0, 2, 3, 16, 17, 21, 25, 26] [(0, .slice a0' st49.2.2.length c0'), (2, .int .i64 st49.1), (3, .int .i64 st49.2.1), (16, .slice a0' st49.2.2.length c0'), (17, .int .i64 st49.2.1), (21, .int .u8 x72), (25, .int .u8 x74), (26, .pointer (some (at_ a0' (Int.toNat st49.1 * 1))))] (by kernel_rfl) ?_
  refine QL.nil ?_
  intro w78 hE79
  have hb80 : Below B w w78 := Below.trans hb69 (Below.mono hE79 hL70)
  have hL81 : B ≤ w78.heap.size := Nat.le_trans hL70 hE79.size
  have hS82 : SH w78 B (aFz 5 a0' c0' st49.2.2 :: L) := SH.ext hS71 hE79
  refine WA.one (i := 13) (D' := [2, 3, 0, 1, 4, 5, 6, 7, 8, 9, 10, 11, 12, 13]) rfl rfl (by kernel_rfl) ?_
  refine WL.storeFz (SH.front 0 hS82) hL81 hx77 rfl rfl rfl (info5).1 (info5).2.1 rfl rfl rfl ?_
  intro w83 hB84 hS85
  have hb86 : Below B w w83 := Below.trans hb80 hB84
  have hL87 : B ≤ w83.heap.size := Nat.le_trans hL81 hB84.size
  refine WL.sub [(0, .slice a0' ((st49.2.2.set (Int.toNat st49.1) x72).length) c0'), (2, .int .i64 st49.1), (3, .int .i64 st49.2.1), (16, .slice a0' ((st49.2.2.set (Int.toNat st49.1) x72).length) c0'), (17, .int .i64 st49.2.1), (21, .int .u8 x72), (25, .int .u8 x74)] ⟨by first | (simp only [List.length_set]; done) | (simp only [List.length_set]; rfl), rfl, rfl, by first | (simp only [List.length_set]; done) | (simp only [List.length_set]; rfl), rfl, rfl, rfl, trivial⟩ ?_
  have hn88 : (st49.2.2.set (Int.toNat st49.1) x72).length = s_0.length := List.length_set.trans hn62
  refine WL.sub [(0, .slice a0' ((st49.2.2.set (Int.toNat st49.1) x72).length) c0'), (2, .int .i64 st49.1), (3, .int .i64 st49.2.1), (16, .slice a0' ((st49.2.2.set (Int.toNat st49.1) x72).length) c0'), (17, .int .i64 st49.2.1), (25, .int .u8 x74)] ⟨rfl, rfl, rfl, rfl, rfl, rfl, trivial⟩ ?_
  refine WL.nil ?_
  refine WA.one (i := 14) (D' := [2, 3, 0, 1, 4, 5, 6, 7, 8, 9, 10, 11, 12, 13, 14]) rfl rfl (by kernel_rfl) ?_
  obtain ⟨x89, hx90, hm⟩ := bindE hm
  refine WL.st (.pointer (some (at_ a0' (Int.toNat st49.2.1 * 1)))) (ST.index (T := fU8.ty) (xs := (st49.2.2.set (Int.toNat st49.1) x72)) (SH.rdFz (SH.front 0 hS85)) hx90 rfl rfl rfl Try.underlying46 (info5).1 (info5).2.1) rfl rfl rfl ?_
  refine WL.sub [(0, .slice a0' ((st49.2.2.set (Int.toNat st49.1) x72).length) c0'), (2, .int .i64 st49.1), (3, .int .i64 st49.2.1), (25, .int .u8 x74), (27, .pointer (some (at_ a0' (Int.toNat st49.2.1 * 1))))] ⟨rfl, rfl, rfl, rfl, rfl, trivial⟩ ?_
  refine WL.nil ?_
  refine WA.one (i := 15) (D' := [2, 3, 0, 1, 4, 5, 6, 7, 8, 9, 10, 11, 12, 13, 14, 15]) rfl rfl (by kernel_rfl) ?_
  refine WL.storeFz (SH.front 0 hS85) hL87 hx90 rfl rfl rfl (info5).1 (info5).2.1 rfl rfl rfl ?_
  intro w91 hB92 hS93
  have hb94 : Below B w w91 := Below.trans hb86 hB92
  have hL95 : B ≤ w91.heap.size := Nat.le_trans hL87 hB92.size
  refine WL.sub [(0, .slice a0' (((st49.2.2.set (Int.toNat st49.1) x72).set (Int.toNat st49.2.1) x74).length) c0'), (2, .int .i64 st49.1), (3, .int .i64 st49.2.1), (25, .int .u8 x74)] ⟨by first | (simp only [List.length_set]; done) | (simp only [List.length_set]; rfl), rfl, rfl, rfl, trivial⟩ ?_
  have hn96 : ((st49.2.2.set (Int.toNat st49.1) x72).set (Int.toNat st49.2.1) x74).length = s_0.length := List.length_set.trans hn88
  refine WL.sub [(0, .slice a0' (((st49.2.2.set (Int.toNat st49.1) x72).set (Int.toNat st49.2.1) x74).length) c0'), (2, .int .i64 st49.1), (3, .int .i64 st49.2.1)] ⟨rfl, rfl, rfl, trivial⟩ ?_
  refine WL.nil ?_
  refine WA.done (by kernel_rfl) ?_
  refine WQ.block_normal ?_
  refine WQ.then_normal (hK66 _ _ _ ?_)
  refine WP.region ?_
  refine WL.runk 6 [0, 2, 3] [(0, .slice a0' (((st49.2.2.set (Int.toNat st49.1) x72).set (Int.toNat st49.2.1) x74).length) c0'), (2, .int .i64 (wI64 (st49.1 + 1))), (3, .int .i64 (wI64 (st49.2.1 - 1)))] (by kernel_rfl) ?_
  refine WL.nil ?_
  obtain rfl := Option.some.inj hm
  exact WQ.round hK56 ⟨((wI64 (st49.1 + 1)), (wI64 (st49.2.1 - 1)), ((st49.2.2.set (Int.toNat st49.1) x72).set (Int.toNat st49.2.1) x74)), rfl, hb94, hL95, hS93, hn96, hl54⟩ (Nat.lt_succ_self _) ⟨rfl, rfl, rfl, trivial⟩

theorem c_56 (n : Nat) (rows_0 : List (List UInt8)) (a0' : Option Addr) (c0' : Nat) (w : World) {r : List (List UInt8)} (hm : m_impl_mirrorWear n rows_0 = some r) (h0 : Rd fStr.ty w a0' rows_0) (_hle0 : rows_0.length ≤ c0') :
    CallV Try.prog 56 #[.slice a0' rows_0.length c0'] w (fun v w' => ∃ (ra0 : Option Addr) (rc0 : Nat), v = .slice ra0 r.length rc0 ∧ Ext w w' ∧ SH w' w.heap.size [aOwn fStr 9 ra0 rc0 r]) := by
  unfold m_impl_mirrorWear at hm
  refine CallV.enter Try.func56 rfl (by kernel_rfl) Try.ntmps56 (env := [(0, .slice a0' rows_0.length c0')]) ⟨rfl, trivial⟩ ?_
  refine WP.seq (fun K1 hK1 => ?_)
  refine WP.region ?_
  refine WL.runk 1 [0] [(0, .slice a0' rows_0.length c0')] (by kernel_rfl) ?_
  refine WL.nil ?_
  refine WQ.then_normal (hK1 _ _ _ ?_)
  refine WP.seq (fun K2 hK2 => ?_)
  refine WP.region ?_
  refine WL.row fStr 9 ([] : List (List UInt8)) 0 #[] 7 (by kernel_rfl) rfl rfl rfl rfl rfl rfl rfl ?_
  intro a3 c4 w5 hE6 hR7
  have hb9 : Ext w w5 := Ext.trans (Ext.refl w) hE6
  have hL10 : w.heap.size ≤ w5.heap.size := Nat.le_trans (Nat.le_refl _) hE6.size
  have hS11 : SH w5 w.heap.size [aOwn fStr 9 a3 c4 ([] : List (List UInt8))] := SH.add (SH.nil _ _) hE6 (Nat.le_refl _) hR7
  refine WL.runk 1 [0, 3] [(0, .slice a0' rows_0.length c0'), (3, .slice a3 (([] : List (List UInt8)).length) c4)] (by kernel_rfl) ?_
  refine WL.nil ?_
  refine WQ.then_normal (hK2 _ _ _ ?_)
  refine WP.seq (fun K12 hK12 => ?_)
  refine WP.seq (fun K13 hK13 => ?_)
  refine WP.region ?_
  refine WL.runk 3 [3, 8, 9, 10] [(3, .slice a3 (([] : List (List UInt8)).length) c4), (8, .slice a0' rows_0.length c0'), (9, .int .i64 (rows_0.length : Int)), (10, .int .i64 0)] (by kernel_rfl) ?_
  refine WL.nil ?_
  refine WQ.then_normal (hK13 _ _ _ ?_)
  refine WP.block ?_
  obtain ⟨t28, ht29, hm⟩ := bindE hm
  have hmo23 := hm; clear hm
  refine WP.sub [(3, .slice a3 (([] : List (List UInt8)).length) c4), (8, .slice a0' rows_0.length c0'), (9, .int .i64 (rows_0.length : Int)), (10, .int .i64 0)] ⟨rfl, rfl, rfl, rfl, trivial⟩ ?_
  refine WP.loop (fun n' env' w' => ∃ (st14 : List (List UInt8) × Int) (a15 : Option Addr) (c16 : Nat), env' = [(3, .slice a15 st14.1.length c16), (8, .slice a0' rows_0.length c0'), (9, .int .i64 (rows_0.length : Int)), (10, .int .i64 st14.2)] ∧ Ext w w' ∧ w.heap.size ≤ w'.heap.size ∧ SH w' w.heap.size [aOwn fStr 9 a15 c16 st14.1] ∧ loopN (m_impl_mirrorWear_l1 n rows_0) n' st14 = some t28) n ⟨(([] : List (List UInt8)), 0), _, _, rfl, hb9, hL10, hS11, ht29⟩ ?_
  rintro n25 _ w18 ⟨st14, a15, c16, rfl, hb19, hL20, hS21, hl22⟩ K24 hK24
  obtain ⟨n26, s27, rfl, hm, hl22⟩ := loopN_some hl22
  unfold m_impl_mirrorWear_l1 at hm
  refine WP.seq (fun K30 hK30 => ?_)
  refine WP.region ?_
  refine WL.runk 1 [3, 8, 9, 10, 11] [(3, .slice a15 st14.1.length c16), (8, .slice a0' rows_0.length c0'), (9, .int .i64 (rows_0.length : Int)), (10, .int .i64 st14.2), (11, .bool (decide (st14.2 < (rows_0.length : Int))))] (by kernel_rfl) ?_
  refine WL.nil ?_
  refine WQ.then_normal (hK30 _ _ _ ?_)
  refine WP.seq (fun K31 hK31 => ?_)
  refine WP.cond (decide (st14.2 < (rows_0.length : Int))) rfl rfl (fun hc32 => ?_) (fun hc32 => ?_)
  rotate_left
  · have hm := iteF hm hc32
    refine WP.exit ?_
    refine WQ.then_exit ?_
    refine WQ.then_exit ?_
    refine WQ.block_here ?_
    obtain rfl := Option.some.inj hm
    obtain rfl := afterN_done hl22
    have hm := hmo23
    refine WQ.then_normal (hK12 _ _ _ ?_)
    refine WP.seq (fun K76 hK76 => ?_)
    refine WP.region ?_
    refine WL.runk 2 [2] [(2, .slice a15 st14.1.length c16)] (by kernel_rfl) ?_
    refine WL.nil ?_
    refine WQ.then_normal (hK76 _ _ _ ?_)
    refine WP.ret ?_
    obtain rfl := Option.some.inj hm
    exact WQ.ret1 _ rfl rfl ⟨_, _, rfl, hb19, hS21⟩
  have hm := iteT hm hc32
  refine WP.skip ?_
  refine WQ.then_normal (hK31 _ _ _ ?_)
  refine WP.seq (fun K33 hK33 => ?_)
  refine WP.block ?_
  refine WP.seq (fun K34 hK34 => ?_)
  refine WP.region ?_
  obtain ⟨x35, hx36, hm⟩ := bindE hm
  refine WL.st (.pointer (some (at_ a0' (Int.toNat st14.2 * 1)))) (ST.index (T := fStr.ty) (xs := rows_0) (Rd.below h0 hb19) hx36 rfl rfl rfl Try.underlying22 (info9).1 (info9).2.1) rfl rfl rfl ?_
  refine WL.st (.string (bs x35)) (ST.load (cell_ext (Rd.flat (F := fStr) (Rd.below h0 hb19) hx36 0 rfl)) rfl rfl Try.underlying9 rfl) rfl rfl rfl ?_
  refine WL.runk 1 [3, 5, 8, 9, 10] [(3, .slice a15 st14.1.length c16), (8, .slice a0' rows_0.length c0'), (9, .int .i64 (rows_0.length : Int)), (10, .int .i64 st14.2), (5, .string (bs x35))] (by kernel_rfl) ?_
  refine WL.nil ?_
  refine WQ.then_normal (hK34 _ _ _ ?_)
  refine WP.seq (fun K37 hK37 => ?_)
  refine WP.region ?_
  refine WL.runk 1 [3, 8, 9, 10, 14] [(3, .slice a15 st14.1.length c16), (8, .slice a0' rows_0.length c0'), (9, .int .i64 (rows_0.length : Int)), (10, .int .i64 st14.2), (14, .string (bs x35))] (by kernel_rfl) ?_
  refine WL.bytes 15 rfl rfl Try.underlying9 Try.underlying46 Try.underlying5 rfl rfl rfl rfl ?_
  intro a38 c39 w40 hE41 hR42
  have hb44 : Ext w w40 := Ext.trans hb19 hE41
  have hL45 : w.heap.size ≤ w40.heap.size := Nat.le_trans hL20 hE41.size
  have hS46 : SH w40 w.heap.size [aFz 5 a38 c39 (toBytes x35), aOwn fStr 9 a15 c16 st14.1] := SH.add hS21 hE41 hL20 hR42
  refine WL.runk 1 [3, 6, 8, 9, 10] [(3, .slice a15 st14.1.length c16), (8, .slice a0' rows_0.length c0'), (9, .int .i64 (rows_0.length : Int)), (10, .int .i64 st14.2), (6, .slice a38 ((toBytes x35).length) c39)] (by kernel_rfl) ?_
  refine WL.nil ?_
  refine WQ.then_normal (hK37 _ _ _ ?_)
  refine WP.seq (fun K47 hK47 => ?_)
  refine WP.region ?_
  refine WL.runk 1 [3, 6, 8, 9, 10, 16] [(3, .slice a15 st14.1.length c16), (8, .slice a0' rows_0.length c0'), (9, .int .i64 (rows_0.length : Int)), (10, .int .i64 st14.2), (6, .slice a38 ((toBytes x35).length) c39), (16, .slice a38 ((toBytes x35).length) c39)] (by kernel_rfl) ?_
  obtain ⟨x48, hx49, hm⟩ := bindE hm
  refine WL.call 77 #[.slice a38 ((toBytes x35).length) c39] rfl rfl (by kernel_rfl) (c_77 n (toBytes x35) a38 c39 w40 w w.heap.size [aOwn fStr 9 a15 c16 st14.1] hx49 hb44 (Nat.le_refl _) hL45  hS46) ?_
  rintro _ w50 ⟨rfl, hB54, hS53, hlen55⟩
  refine ⟨_, rfl, ?_⟩
  have hb56 : Ext w w50 := Below.trans hb44 hB54
  have hL57 : w.heap.size ≤ w50.heap.size := Nat.le_trans hL45 hB54.size
  refine WL.sub [(3, .slice a15 st14.1.length c16), (8, .slice a0' rows_0.length c0'), (9, .int .i64 (rows_0.length : Int)), (10, .int .i64 st14.2), (6, .slice a38 x48.length c39), (16, .slice a38 x48.length c39), (17, .tuple #[])] ⟨rfl, rfl, rfl, rfl, by rw [hlen55]; rfl, by rw [hlen55]; rfl, rfl, trivial⟩ ?_
  refine WL.sub [(3, .slice a15 st14.1.length c16), (8, .slice a0' rows_0.length c0'), (9, .int .i64 (rows_0.length : Int)), (10, .int .i64 st14.2), (6, .slice a38 x48.length c39)] ⟨rfl, rfl, rfl, rfl, rfl, trivial⟩ ?_
  refine WL.nil ?_
  refine WQ.then_normal (hK47 _ _ _ ?_)
  refine WP.region ?_
  refine WL.runk 2 [8, 9, 10, 18, 19] [(8, .slice a0' rows_0.length c0'), (9, .int .i64 (rows_0.length : Int)), (10, .int .i64 st14.2), (18, .slice a15 st14.1.length c16), (19, .slice a38 x48.length c39)] (by kernel_rfl) ?_
  refine WL.st (.string (bs (ofBytes x48))) (ST.b2s (SH.rdFz (SH.front 0 hS53)) (SH.leFz (SH.front 0 hS53)).2 rfl rfl Try.underlying46 Try.underlying9 Try.underlying5) rfl rfl rfl ?_
  refine WL.row fStr 9 ([(ofBytes x48)] : List (List UInt8)) 1 #[.string (bs (ofBytes x48))] 21 (by kernel_rfl) rfl rfl rfl rfl rfl rfl rfl ?_
  intro a58 c59 w60 hE61 hR62
  have hb64 : Ext w w60 := Ext.trans hb56 hE61
  have hL65 : w.heap.size ≤ w60.heap.size := Nat.le_trans hL57 hE61.size
  have hS66 : SH w60 w.heap.size [aOwn fStr 9 a58 c59 ([(ofBytes x48)] : List (List UInt8)), aFz 5 a38 c39 x48, aOwn fStr 9 a15 c16 st14.1] := SH.add hS53 hE61 hL57 hR62
  obtain ⟨x67, hx68, hm⟩ := bindE hm
  refine WL.append (F := fStr) (xs := st14.1) (ys := ([(ofBytes x48)] : List (List UInt8))) 22 (SH.front 2 hS66) hL65 (SH.rd (SH.front 0 hS66)) hx68 rfl rfl rfl Try.underlying22 (info9).1 (info9).2.2.1 (info9).2.1 (info9).2.2.2 rfl rfl rfl rfl rfl ?_
  intro a69 c70 w71 hB72 hS73
  have hb74 : Ext w w71 := Below.trans hb64 hB72
  have hL75 : w.heap.size ≤ w71.heap.size := Nat.le_trans hL65 hB72.size
  refine WL.runk 1 [3, 8, 9, 10] [(8, .slice a0' rows_0.length c0'), (9, .int .i64 (rows_0.length : Int)), (10, .int .i64 st14.2), (3, .slice a69 x67.length c70)] (by kernel_rfl) ?_
  refine WL.nil ?_
  refine WQ.block_normal ?_
  refine WQ.then_normal (hK33 _ _ _ ?_)
  refine WP.region ?_
  refine WL.runk 2 [3, 8, 9, 10] [(8, .slice a0' rows_0.length c0'), (9, .int .i64 (rows_0.length : Int)), (10, .int .i64 (wI64 (st14.2 + 1))), (3, .slice a69 x67.length c70)] (by kernel_rfl) ?_
  refine WL.nil ?_
  obtain rfl := Option.some.inj hm
  exact WQ.round hK24 ⟨(x67, (wI64 (st14.2 + 1))), _, _, rfl, hb74, hL75, (SH.take 1 hS73), hl22⟩ (Nat.lt_succ_self _) ⟨rfl, rfl, rfl, rfl, trivial⟩

theorem c_57 (n : Nat) (k_0 : Int) (w : World) {r : List UInt8} (hm : m_laws_markText n k_0 = some r)  :
    CallV Try.prog 57 #[.int .i64 k_0] w (fun v w' => v = .string (bs r) ∧ Ext w w') := by
  unfold m_laws_markText at hm
  refine CallV.enter Try.func57 rfl (by kernel_rfl) Try.ntmps57 (env := [(0, .int .i64 k_0)]) ⟨rfl, trivial⟩ ?_
  refine WP.seq (fun K1 hK1 => ?_)
  refine WP.region ?_
  refine WL.runk 1 [0] [(0, .int .i64 k_0)] (by kernel_rfl) ?_
  refine WL.nil ?_
  refine WQ.then_normal (hK1 _ _ _ ?_)
  refine WP.seq (fun K2 hK2 => ?_)
  refine WP.seq (fun K3 hK3 => ?_)
  refine WP.region ?_
  refine WL.runk 2 [0, 5] [(0, .int .i64 k_0), (5, .bool (decide (k_0 ≤ 0)))] (by kernel_rfl) ?_
  refine WL.nil ?_
  refine WQ.then_normal (hK3 _ _ _ ?_)
  refine WP.cond (decide (k_0 ≤ 0)) rfl rfl (fun hc4 => ?_) (fun hc4 => ?_)
  · have hm := iteT hm hc4
    refine WP.seq (fun K5 hK5 => ?_)
    refine WP.region ?_
    refine WL.runk 1 [2] [(2, .string (bs [109, 48]))] (by kernel_rfl) ?_
    refine WL.nil ?_
    refine WQ.then_normal (hK5 _ _ _ ?_)
    refine WP.ret ?_
    refine WQ.then_ret ?_
    obtain rfl := Option.some.inj hm
    exact WQ.ret1 _ rfl rfl ⟨rfl, (Ext.refl w)⟩
  have hm := iteF hm hc4
  refine WP.skip ?_
  refine WQ.then_normal (hK2 _ _ _ ?_)
  refine WP.seq (fun K6 hK6 => ?_)
  refine WP.region ?_
  refine WL.runk 1 [0, 3] [(0, .int .i64 k_0), (3, .string (bs []))] (by kernel_rfl) ?_
  refine WL.nil ?_
  refine WQ.then_normal (hK6 _ _ _ ?_)
  refine WP.seq (fun K7 hK7 => ?_)
  refine WP.block ?_
  obtain ⟨t19, ht20, hm⟩ := bindE hm
  have hmo14 := hm; clear hm
  refine WP.sub [(0, .int .i64 k_0), (3, .string (bs []))] ⟨rfl, rfl, trivial⟩ ?_
  refine WP.loop (fun n' env' w' => ∃ (st8 : Int × List UInt8) , env' = [(0, .int .i64 st8.1), (3, .string (bs st8.2))] ∧ Ext w w' ∧ w.heap.size ≤ w'.heap.size ∧ SH w' w.heap.size [] ∧ loopN (m_laws_markText_l1 n) n' st8 = some t19) n ⟨(k_0, []), rfl, (Ext.refl w), (Nat.le_refl _), (SH.nil _ _), ht20⟩ ?_
  rintro n16 _ w9 ⟨st8, rfl, hb10, hL11, hS12, hl13⟩ K15 hK15
  obtain ⟨n17, s18, rfl, hm, hl13⟩ := loopN_some hl13
  unfold m_laws_markText_l1 at hm
  refine WP.seq (fun K21 hK21 => ?_)
  refine WP.seq (fun K22 hK22 => ?_)
  refine WP.region ?_
  refine WL.runk 2 [0, 3, 7] [(0, .int .i64 st8.1), (3, .string (bs st8.2)), (7, .bool (decide (st8.1 > 0)))] (by kernel_rfl) ?_
  refine WL.nil ?_
  refine WQ.then_normal (hK22 _ _ _ ?_)
  refine WP.cond (decide (st8.1 > 0)) rfl rfl (fun hc23 => ?_) (fun hc23 => ?_)
  rotate_left
  · have hm := iteF hm hc23
    refine WP.exit ?_
    refine WQ.then_exit ?_
    refine WQ.then_exit ?_
    refine WQ.block_here ?_
    obtain rfl := Option.some.inj hm
    obtain rfl := afterN_done hl13
    have hm := hmo14
    refine WQ.then_normal (hK7 _ _ _ ?_)
    refine WP.seq (fun K36 hK36 => ?_)
    refine WP.region ?_
    refine WL.runk 1 [18] [(18, .string (bs st8.2))] (by kernel_rfl) ?_
    obtain ⟨x37, hx38, hm⟩ := bindE hm
    refine WL.st (.string (bs x37)) (ST.cat hx38 rfl rfl rfl) rfl rfl rfl ?_
    refine WL.runk 1 [2] [(2, .string (bs x37))] (by kernel_rfl) ?_
    refine WL.nil ?_
    refine WQ.then_normal (hK36 _ _ _ ?_)
    refine WP.ret ?_
    obtain rfl := Option.some.inj hm
    exact WQ.ret1 _ rfl rfl ⟨rfl, hb10⟩
  have hm := iteT hm hc23
  refine WP.skip ?_
  refine WQ.then_normal (hK21 _ _ _ ?_)
  refine WP.block ?_
  refine WP.seq (fun K24 hK24 => ?_)
  refine WP.region ?_
  refine WL.runk 4 [0, 3, 11] [(0, .int .i64 st8.1), (3, .string (bs st8.2)), (11, .int .u8 (IntKind.u8.wrap (wI64 (48 + (Int.tmod st8.1 10)))))] (by kernel_rfl) ?_
  refine WL.row fU8 5 ([(IntKind.u8.wrap (wI64 (48 + (Int.tmod st8.1 10))))] : List Int) 1 #[.int .u8 (IntKind.u8.wrap (wI64 (48 + (Int.tmod st8.1 10))))] 12 (by kernel_rfl) rfl rfl rfl rfl rfl rfl rfl ?_
  intro a25 c26 w27 hE28 hR29
  have hb31 : Ext w w27 := Ext.trans hb10 hE28
  have hL32 : w.heap.size ≤ w27.heap.size := Nat.le_trans hL11 hE28.size
  have hS33 : SH w27 w.heap.size [aOwn fU8 5 a25 c26 ([(IntKind.u8.wrap (wI64 (48 + (Int.tmod st8.1 10))))] : List Int)] := SH.add hS12 hE28 hL11 hR29
  refine WL.st (.string (bs (ofBytes ([(IntKind.u8.wrap (wI64 (48 + (Int.tmod st8.1 10))))] : List Int)))) (ST.b2s (SH.rd (SH.front 0 hS33)) (SH.le (SH.front 0 hS33)).2 rfl rfl Try.underlying46 Try.underlying9 Try.underlying5) rfl rfl rfl ?_
  refine WL.runk 1 [0, 13, 14] [(0, .int .i64 st8.1), (13, .string (bs (ofBytes ([(IntKind.u8.wrap (wI64 (48 + (Int.tmod st8.1 10))))] : List Int)))), (14, .string (bs st8.2))] (by kernel_rfl) ?_
  obtain ⟨x34, hx35, hm⟩ := bindE hm
  refine WL.st (.string (bs x34)) (ST.cat hx35 rfl rfl rfl) rfl rfl rfl ?_
  refine WL.runk 1 [0, 3] [(0, .int .i64 st8.1), (3, .string (bs x34))] (by kernel_rfl) ?_
  refine WL.nil ?_
  refine WQ.then_normal (hK24 _ _ _ ?_)
  refine WP.region ?_
  refine WL.runk 3 [0, 3] [(0, .int .i64 (wI64 (Int.tdiv st8.1 10))), (3, .string (bs x34))] (by kernel_rfl) ?_
  refine WL.nil ?_
  refine WQ.block_normal ?_
  obtain rfl := Option.some.inj hm
  exact WQ.round hK15 ⟨((wI64 (Int.tdiv st8.1 10)), x34), rfl, hb31, hL32, (SH.take 0 hS33), hl13⟩ (Nat.lt_succ_self _) ⟨rfl, rfl, trivial⟩

theorem c_24 (n : Nat) (a_0 : List (List UInt8)) (a0' : Option Addr) (c0' : Nat) (k_1 : Int) (w : World) (w0 : World) (B : Nat) (L : List Asrt) {r : Int × List (List UInt8)} (hm : m_laws_markStringS n a_0 k_1 = some r) (_hE0 : Ext w0 w) (_hW : w0.heap.size ≤ B) (hL : B ≤ w.heap.size) (hS : SH w B (aOwn fStr 9 a0' c0' a_0 :: L)) :
    CallV Try.prog 24 #[.slice a0' a_0.length c0', .int .i64 k_1] w (fun v w' => v = .int .i64 r.1 ∧ Below B w w' ∧ SH w' B (aOwn fStr 9 a0' c0' r.2 :: L) ∧ r.2.length = a_0.length) := by
  unfold m_laws_markStringS at hm
  refine CallV.enter Try.func24 rfl (by kernel_rfl) Try.ntmps24 (env := [(0, .slice a0' a_0.length c0'), (1, .int .i64 k_1)]) ⟨rfl, rfl, trivial⟩ ?_
  refine WP.seq (fun K1 hK1 => ?_)
  refine WP.region ?_
  refine WL.runk 1 [0, 1] [(0, .slice a0' a_0.length c0'), (1, .int .i64 k_1)] (by kernel_rfl) ?_
  refine WL.nil ?_
  refine WQ.then_normal (hK1 _ _ _ ?_)
  refine WP.seq (fun K2 hK2 => ?_)
  refine WP.seq (fun K3 hK3 => ?_)
  refine WP.region ?_
  refine WL.runk 1 [0, 1, 5] [(0, .slice a0' a_0.length c0'), (1, .int .i64 k_1), (5, .int .i64 0)] (by kernel_rfl) ?_
  refine WL.nil ?_
  refine WQ.then_normal (hK3 _ _ _ ?_)
  refine WP.block ?_
  obtain ⟨t50, ht51, hm⟩ := bindE hm
  have hmo45 := hm; clear hm
  refine WP.sub [(0, .slice a0' a_0.length c0'), (1, .int .i64 k_1), (5, .int .i64 0)] ⟨rfl, rfl, rfl, trivial⟩ ?_
  refine WP.loop (fun n' env' w' => ∃ (st39 : Int × Int × List (List UInt8)) , env' = [(0, .slice a0' st39.2.2.length c0'), (1, .int .i64 st39.1), (5, .int .i64 st39.2.1)] ∧ Below B w w' ∧ B ≤ w'.heap.size ∧ SH w' B (aOwn fStr 9 a0' c0' st39.2.2 :: L) ∧ st39.2.2.length = a_0.length ∧ loopN (m_laws_markStringS_l1 n) n' st39 = some t50) n ⟨(k_1, 0, a_0), rfl, (Below.refl _ _), hL, hS, rfl, ht51⟩ ?_
  rintro n47 _ w40 ⟨st39, rfl, hb41, hL42, hS43, hn52, hl44⟩ K46 hK46
  obtain ⟨n48, s49, rfl, hm, hl44⟩ := loopN_some hl44
  unfold m_laws_markStringS_l1 at hm
  refine WP.seq (fun K53 hK53 => ?_)
  refine WP.seq (fun K54 hK54 => ?_)
  refine WP.region ?_
  refine WL.runk 4 [0, 1, 5, 9] [(0, .slice a0' st39.2.2.length c0'), (1, .int .i64 st39.1), (5, .int .i64 st39.2.1), (9, .bool (decide (st39.2.1 < (st39.2.2.length : Int))))] (by kernel_rfl) ?_
  refine WL.nil ?_
  refine WQ.then_normal (hK54 _ _ _ ?_)
  refine WP.cond (decide (st39.2.1 < (st39.2.2.length : Int))) rfl rfl (fun hc55 => ?_) (fun hc55 => ?_)
  rotate_left
  · have hm := iteF hm hc55
    refine WP.exit ?_
    refine WQ.then_exit ?_
    refine WQ.then_exit ?_
    refine WQ.block_here ?_
    obtain rfl := Option.some.inj hm
    obtain rfl := afterN_done hl44
    have hm := hmo45
    refine WQ.then_normal (hK2 _ _ _ ?_)
    refine WP.seq (fun K74 hK74 => ?_)
    refine WP.region ?_
    refine WL.runk 2 [4] [(4, .int .i64 st39.1)] (by kernel_rfl) ?_
    refine WL.nil ?_
    refine WQ.then_normal (hK74 _ _ _ ?_)
    refine WP.ret ?_
    obtain rfl := Option.some.inj hm
    exact WQ.ret1 _ rfl rfl ⟨rfl, hb41, hS43, hn52⟩
  have hm := iteT hm hc55
  refine WP.skip ?_
  refine WQ.then_normal (hK53 _ _ _ ?_)
  refine WP.seq (fun K56 hK56 => ?_)
  refine WP.block ?_
  refine WP.seq (fun K57 hK57 => ?_)
  refine WP.region ?_
  refine WL.runk 3 [0, 1, 5, 12, 13, 14] [(0, .slice a0' st39.2.2.length c0'), (1, .int .i64 st39.1), (5, .int .i64 st39.2.1), (12, .slice a0' st39.2.2.length c0'), (13, .int .i64 st39.2.1), (14, .int .i64 st39.1)] (by kernel_rfl) ?_
  obtain ⟨x58, hx59, hm⟩ := bindE hm
  refine WL.call 57 #[.int .i64 st39.1] rfl rfl (by kernel_rfl) (c_57 n st39.1 w40 hx59 ) ?_
  rintro _ w60 ⟨rfl, hE61⟩
  refine ⟨_, rfl, ?_⟩
  have hb63 : Below B w w60 := Below.trans hb41 (Below.mono hE61 hL42)
  have hL64 : B ≤ w60.heap.size := Nat.le_trans hL42 hE61.size
  have hS65 : SH w60 B (aOwn fStr 9 a0' c0' st39.2.2 :: L) := SH.ext hS43 hE61
  obtain ⟨x66, hx67, hm⟩ := bindE hm
  refine WL.st (.pointer (some (at_ a0' (Int.toNat st39.2.1 * 1)))) (ST.index (T := fStr.ty) (xs := st39.2.2) (SH.rd (SH.front 0 hS65)) hx67 rfl rfl rfl Try.underlying22 (info9).1 (info9).2.1) rfl rfl rfl ?_
  refine WL.store (F := fStr) x58 0 [.string (bs x58)] (SH.front 0 hS65) hL64 hx67 rfl rfl rfl rfl rfl rfl rfl (info9).1 (info9).2.1 rfl rfl rfl ?_
  intro w68 hB69 hS70
  have hb71 : Below B w w68 := Below.trans hb63 hB69
  have hL72 : B ≤ w68.heap.size := Nat.le_trans hL64 hB69.size
  refine WL.sub [(0, .slice a0' ((st39.2.2.set (Int.toNat st39.2.1) x58).length) c0'), (1, .int .i64 st39.1), (5, .int .i64 st39.2.1), (12, .slice a0' ((st39.2.2.set (Int.toNat st39.2.1) x58).length) c0'), (13, .int .i64 st39.2.1), (14, .int .i64 st39.1), (15, .string (bs x58))] ⟨by first | (simp only [List.length_set]; done) | (simp only [List.length_set]; rfl), rfl, rfl, by first | (simp only [List.length_set]; done) | (simp only [List.length_set]; rfl), rfl, rfl, rfl, trivial⟩ ?_
  have hn73 : (st39.2.2.set (Int.toNat st39.2.1) x58).length = a_0.length := List.length_set.trans hn52
  refine WL.sub [(0, .slice a0' ((st39.2.2.set (Int.toNat st39.2.1) x58).length) c0'), (1, .int .i64 st39.1), (5, .int .i64 st39.2.1)] ⟨rfl, rfl, rfl, trivial⟩ ?_
  refine WL.nil ?_
  refine WQ.then_normal (hK57 _ _ _ ?_)
  refine WP.region ?_
  refine WL.runk 3 [0, 1, 5] [(0, .slice a0' ((st39.2.2.set (Int.toNat st39.2.1) x58).length) c0'), (1, .int .i64 (wI64 (st39.1 + 1))), (5, .int .i64 st39.2.1)] (by kernel_rfl) ?_
  refine WL.nil ?_
  refine WQ.block_normal ?_
  refine WQ.then_normal (hK56 _ _ _ ?_)
  refine WP.region ?_
  refine WL.runk 3 [0, 1, 5] [(0, .slice a0' ((st39.2.2.set (Int.toNat st39.2.1) x58).length) c0'), (1, .int .i64 (wI64 (st39.1 + 1))), (5, .int .i64 (wI64 (st39.2.1 + 1)))] (by kernel_rfl) ?_
  refine WL.nil ?_
  obtain rfl := Option.some.inj hm
  exact WQ.round hK46 ⟨((wI64 (st39.1 + 1)), (wI64 (st39.2.1 + 1)), (st39.2.2.set (Int.toNat st39.2.1) x58)), rfl, hb71, hL72, hS70, hn73, hl44⟩ (Nat.lt_succ_self _) ⟨rfl, rfl, rfl, trivial⟩

theorem c_58 (n : Nat) (a_0 : List (List UInt8)) (a0' : Option Addr) (c0' : Nat) (b_1 : List (List UInt8)) (a1' : Option Addr) (c1' : Nat) (w : World) {r : Int} (hm : m_spec_l20Two n a_0 b_1 = some r) (h0 : Rd fStr.ty w a0' a_0) (hle0 : a_0.length ≤ c0') (h1 : Rd fStr.ty w a1' b_1) (hle1 : b_1.length ≤ c1') :
    CallV Try.prog 58 #[.slice a0' a_0.length c0', .slice a1' b_1.length c1'] w (fun v w' => v = .int .i64 r ∧ Ext w w') := by
  unfold m_spec_l20Two at hm
  refine CallV.enter Try.func58 rfl (by kernel_rfl) Try.ntmps58 (env := [(0, .slice a0' a_0.length c0'), (1, .slice a1' b_1.length c1')]) ⟨rfl, rfl, trivial⟩ ?_
  refine WP.seq (fun K1 hK1 => ?_)
  refine WP.region ?_
  refine WL.runk 1 [0, 1] [(0, .slice a0' a_0.length c0'), (1, .slice a1' b_1.length c1')] (by kernel_rfl) ?_
  refine WL.nil ?_
  refine WQ.then_normal (hK1 _ _ _ ?_)
  refine WP.seq (fun K2 hK2 => ?_)
  refine WP.seq (fun K3 hK3 => ?_)
  obtain ⟨x21, hx22, hm⟩ := bindE hm
  refine WP.cut (fun env' w' => env' = [(0, .slice a0' a_0.length c0'), (1, .slice a1' b_1.length c1'), (12, .bool x21)] ∧ Ext w w' ∧ w.heap.size ≤ w'.heap.size ∧ SH w' w.heap.size []) ?_ ?_
  · have hm := hx22; clear hx22
    refine WP.region ?_
    refine WL.runk 1 [0, 1, 5] [(0, .slice a0' a_0.length c0'), (1, .slice a1' b_1.length c1'), (5, .slice a0' a_0.length c0')] (by kernel_rfl) ?_
    obtain ⟨x23, hx24, hm⟩ := bindE hm
    refine WL.call 49 #[.slice a0' a_0.length c0'] rfl rfl (by kernel_rfl) (c_49 n a_0 a0' c0' w hx24 (Rd.below h0 (Ext.refl w)) hle0) ?_
    rintro _ w25 ⟨rfl, hE26⟩
    refine ⟨_, rfl, ?_⟩
    have hb28 : Ext w w25 := Ext.trans (Ext.refl w) hE26
    have hL29 : w.heap.size ≤ w25.heap.size := Nat.le_trans (Nat.le_refl _) hE26.size
    have hS30 : SH w25 w.heap.size [] := SH.ext (SH.nil _ _) hE26
    refine WL.runk 2 [0, 1, 8] [(0, .slice a0' a_0.length c0'), (1, .slice a1' b_1.length c1'), (8, .bool (!x23))] (by kernel_rfl) ?_
    refine WL.case (!x23) [8] ⟨rfl, trivial⟩ (fun hc31 => ?_) (fun hc31 => ?_)
    · have hm := iteT hm hc31
      refine WL.runk 4 [0, 1, 12] [(0, .slice a0' a_0.length c0'), (1, .slice a1' b_1.length c1'), (12, .bool true)] (by kernel_rfl) ?_
      refine WL.nil ?_
      obtain rfl := Option.some.inj hm
      exact WQ.post' ⟨rfl, hb28, hL29, hS30⟩ ⟨rfl, rfl, rfl, trivial⟩
    have hm := iteF hm hc31
    refine WL.runk 1 [0, 1, 8, 9] [(0, .slice a0' a_0.length c0'), (1, .slice a1' b_1.length c1'), (8, .bool false), (9, .slice a1' b_1.length c1')] (by kernel_rfl) ?_
    obtain ⟨x32, hx33, hm⟩ := bindE hm
    refine WL.call 49 #[.slice a1' b_1.length c1'] rfl rfl (by kernel_rfl) (c_49 n b_1 a1' c1' w25 hx33 (Rd.below h1 hb28) hle1) ?_
    rintro _ w34 ⟨rfl, hE35⟩
    refine ⟨_, rfl, ?_⟩
    have hb37 : Ext w w34 := Ext.trans hb28 hE35
    have hL38 : w.heap.size ≤ w34.heap.size := Nat.le_trans hL29 hE35.size
    have hS39 : SH w34 w.heap.size [] := SH.ext hS30 hE35
    refine WL.runk 2 [0, 1, 12] [(0, .slice a0' a_0.length c0'), (1, .slice a1' b_1.length c1'), (12, .bool (!x32))] (by kernel_rfl) ?_
    refine WL.nil ?_
    obtain rfl := Option.some.inj hm
    exact WQ.post' ⟨rfl, hb37, hL38, hS39⟩ ⟨rfl, rfl, rfl, trivial⟩
  clear hx22
  rintro _ w40 ⟨rfl, hb41, hL42, hS43⟩
  refine WQ.then_normal (hK3 _ _ _ ?_)
  refine WP.cond x21 rfl rfl (fun hc44 => ?_) (fun hc44 => ?_)
  · have hm := iteT hm hc44
    refine WP.seq (fun K45 hK45 => ?_)
    refine WP.region ?_
    refine WL.runk 1 [4] [(4, .int .i64 1)] (by kernel_rfl) ?_
    refine WL.nil ?_
    refine WQ.then_normal (hK45 _ _ _ ?_)
    refine WP.ret ?_
    refine WQ.then_ret ?_
    obtain rfl := Option.some.inj hm
    exact WQ.ret1 _ rfl rfl ⟨rfl, hb41⟩
  have hm := iteF hm hc44
  refine WP.skip ?_
  refine WQ.then_normal (hK2 _ _ _ ?_)
  refine WP.seq (fun K46 hK46 => ?_)
  refine WP.seq (fun K47 hK47 => ?_)
  obtain ⟨x63, hx64, hm⟩ := bindE hm
  refine WP.cut (fun env' w' => env' = [(28, .bool x63)] ∧ Ext w w' ∧ w.heap.size ≤ w'.heap.size ∧ SH w' w.heap.size []) ?_ ?_
  rotate_left
  · clear hx64
    rintro _ w80 ⟨rfl, hb81, hL82, hS83⟩
    refine WQ.then_normal (hK47 _ _ _ ?_)
    refine WP.cond x63 rfl rfl (fun hc84 => ?_) (fun hc84 => ?_)
    · have hm := iteT hm hc84
      refine WP.seq (fun K85 hK85 => ?_)
      refine WP.region ?_
      refine WL.runk 1 [4] [(4, .int .i64 9)] (by kernel_rfl) ?_
      refine WL.nil ?_
      refine WQ.then_normal (hK85 _ _ _ ?_)
      refine WP.ret ?_
      refine WQ.then_ret ?_
      obtain rfl := Option.some.inj hm
      exact WQ.ret1 _ rfl rfl ⟨rfl, hb81⟩
    have hm := iteF hm hc84
    refine WP.skip ?_
    refine WQ.then_normal (hK46 _ _ _ ?_)
    refine WP.seq (fun K86 hK86 => ?_)
    refine WP.region ?_
    refine WL.runk 1 [4] [(4, .int .i64 0)] (by kernel_rfl) ?_
    refine WL.nil ?_
    refine WQ.then_normal (hK86 _ _ _ ?_)
    refine WP.ret ?_
    obtain rfl := Option.some.inj hm
    exact WQ.ret1 _ rfl rfl ⟨rfl, hb81⟩
  have hm := hx64; clear hx64
  refine WP.quiet (by kernel_rfl) (by kernel_rfl) ?_
  refine QL.step1v 13 (.slice a0' a_0.length c0') rfl (fun _ => by kernel_rfl) ?_
  refine QL.step1v 14 (.int .i64 (a_0.length : Int)) rfl (fun _ => by kernel_rfl) ?_
  refine QL.step1v 15 (.slice a1' b_1.length c1') rfl (fun _ => by kernel_rfl) ?_
  refine QL.step1v 16 (.int .i64 (b_1.length : Int)) rfl (fun _ => by kernel_rfl) ?_
  refine QL.step1v 17 (.bool ((a_0.length : Int) != (b_1.length : Int))) rfl (fun _ => by kernel_rfl) ?_
  refine QL.step1v 18 (.bool ((a_0.length : Int) != (b_1.length : Int))) rfl (fun _ => by kernel_rfl) ?_
  refine QL.subk [0, 1, 18] [(0, .slice a0' a_0.length c0'), (1, .slice a1' b_1.length c1'), (18, .bool ((a_0.length : Int) != (b_1.length : Int)))] (by kernel_rfl) ?_
  refine QL.case ((a_0.length : Int) != (b_1.length : Int)) [18] ⟨rfl, trivial⟩ (fun hc65 => ?_) (fun hc65 => ?_)
  · have hm := iteT hm hc65
    refine QL.step1v 19 undef rfl (fun _ => by kernel_rfl) ?_
    refine QL.step1v 20 undef rfl (fun _ => by kernel_rfl) ?_
    refine QL.step1v 21 undef rfl (fun _ => by kernel_rfl) ?_
    refine QL.step1v 22 undef rfl (fun _ => by kernel_rfl) ?_
    refine QL.step1v 23 undef rfl (fun _ => by kernel_rfl) ?_
    refine QL.step1v 24 undef rfl (fun _ => by kernel_rfl) ?_
    refine QL.step1v 25 undef rfl (fun _ => by kernel_rfl) ?_
    refine QL.step1v 26 undef rfl (fun _ => by kernel_rfl) ?_
    refine QL.step1v 27 undef rfl (fun _ => by kernel_rfl) ?_
    refine QL.step1v 28 (.bool true) rfl (fun _ => by kernel_rfl) ?_
    refine QL.subk [28] [(28, .bool true)] (by kernel_rfl) ?_
    refine QL.nil ?_
    intro w66 hE67
    have hb68 : Ext w w66 := Ext.trans hb41 hE67
    have hL69 : w.heap.size ≤ w66.heap.size := Nat.le_trans hL42 hE67.size
    have hS70 : SH w66 w.heap.size [] := SH.ext hS43 hE67
    obtain rfl := Option.some.inj hm
    exact WQ.post' ⟨rfl, hb68, hL69, hS70⟩ ⟨rfl, trivial⟩
  have hm := iteF hm hc65
  refine QL.step1v 19 (.slice a0' a_0.length c0') rfl (fun _ => by kernel_rfl) ?_
  refine QL.subk [1, 18, 19] [(1, .slice a1' b_1.length c1'), (18, .bool false), (19, .slice a0' a_0.length c0')] (by kernel_rfl) ?_
  obtain ⟨x71, hx72, hm⟩ := bindE hm
  refine QL.st (.pointer (some (at_ a0' (Int.toNat 0 * 1)))) (ST.index (T := fStr.ty) (xs := a_0) (Rd.below h0 hb41) hx72 rfl rfl rfl Try.underlying22 (info9).1 (info9).2.1) rfl rfl rfl ?_
  refine QL.st (.string (bs x71)) (ST.load (cell_ext (Rd.flat (F := fStr) (Rd.below h0 hb41) hx72 0 rfl)) rfl rfl Try.underlying9 rfl) rfl rfl rfl ?_
  refine QL.step1v 22 (.int .i64 (x71.length : Int)) rfl (fun _ => by kernel_rfl) ?_
  refine QL.step1v 23 (.slice a1' b_1.length c1') rfl (fun _ => by kernel_rfl) ?_
  refine QL.subk [18, 22, 23] [(18, .bool false), (22, .int .i64 (x71.length : Int)), (23, .slice a1' b_1.length c1')] (by kernel_rfl) ?_
  obtain ⟨x73, hx74, hm⟩ := bindE hm
  refine QL.st (.pointer (some (at_ a1' (Int.toNat 0 * 1)))) (ST.index (T := fStr.ty) (xs := b_1) (Rd.below h1 hb41) hx74 rfl rfl rfl Try.underlying22 (info9).1 (info9).2.1) rfl rfl rfl ?_
  refine QL.st (.string (bs x73)) (ST.load (cell_ext (Rd.flat (F := fStr) (Rd.below h1 hb41) hx74 0 rfl)) rfl rfl Try.underlying9 rfl) rfl rfl rfl ?_
  refine QL.step1v 26 (.int .i64 (x73.length : Int)) rfl (fun _ => by kernel_rfl) ?_
  refine QL.step1v 27 (.bool ((x71.length : Int) != (x73.length : Int))) rfl (fun _ => by kernel_rfl) ?_
  refine QL.step1v 28 (.bool ((x71.length : Int) != (x73.length : Int))) rfl (fun _ => by kernel_rfl) ?_
  refine QL.subk [28] [(28, .bool ((x71.length : Int) != (x73.length : Int)))] (by kernel_rfl) ?_
  refine QL.nil ?_
  intro w75 hE76
  have hb77 : Ext w w75 := Ext.trans hb41 hE76
  have hL78 : w.heap.size ≤ w75.heap.size := Nat.le_trans hL42 hE76.size
  have hS79 : SH w75 w.heap.size [] := SH.ext hS43 hE76
  obtain rfl := Option.some.inj hm
  exact WQ.post' ⟨rfl, hb77, hL78, hS79⟩ ⟨rfl, trivial⟩

theorem c_60 (n : Nat) (a_0 : List (List UInt8)) (a0' : Option Addr) (c0' : Nat) (b_1 : List (List UInt8)) (a1' : Option Addr) (c1' : Nat) (w : World) {r : Int} (hm : m_impl_sameWear n a_0 b_1 = some r) (h0 : Rd fStr.ty w a0' a_0) (hle0 : a_0.length ≤ c0') (h1 : Rd fStr.ty w a1' b_1) (hle1 : b_1.length ≤ c1') :
    CallV Try.prog 60 #[.slice a0' a_0.length c0', .slice a1' b_1.length c1'] w (fun v w' => v = .int .i64 r ∧ Ext w w') := by
  unfold m_impl_sameWear at hm
  refine CallV.enter Try.func60 rfl (by kernel_rfl) Try.ntmps60 (env := [(0, .slice a0' a_0.length c0'), (1, .slice a1' b_1.length c1')]) ⟨rfl, rfl, trivial⟩ ?_
  refine WP.seq (fun K1 hK1 => ?_)
  refine WP.region ?_
  refine WL.runk 1 [0, 1] [(0, .slice a0' a_0.length c0'), (1, .slice a1' b_1.length c1')] (by kernel_rfl) ?_
  refine WL.nil ?_
  refine WQ.then_normal (hK1 _ _ _ ?_)
  refine WP.seq (fun K2 hK2 => ?_)
  refine WP.block ?_
  refine WP.seq (fun K3 hK3 => ?_)
  obtain ⟨x21, hx22, hm⟩ := bindE hm
  refine WP.cut (fun env' w' => env' = [(0, .slice a0' a_0.length c0'), (1, .slice a1' b_1.length c1'), (5, .bool x21)] ∧ Ext w w' ∧ w.heap.size ≤ w'.heap.size ∧ SH w' w.heap.size []) ?_ ?_
  · have hm := hx22; clear hx22
    refine WP.region ?_
    refine WL.runk 1 [0, 1, 6] [(0, .slice a0' a_0.length c0'), (1, .slice a1' b_1.length c1'), (6, .slice a0' a_0.length c0')] (by kernel_rfl) ?_
    obtain ⟨x23, hx24, hm⟩ := bindE hm
    refine WL.call 18 #[.slice a0' a_0.length c0'] rfl rfl (by kernel_rfl) (c_18 n a_0 a0' c0' w hx24 (Rd.below h0 (Ext.refl w)) hle0) ?_
    rintro _ w25 ⟨rfl, hE26⟩
    refine ⟨_, rfl, ?_⟩
    have hb28 : Ext w w25 := Ext.trans (Ext.refl w) hE26
    have hL29 : w.heap.size ≤ w25.heap.size := Nat.le_trans (Nat.le_refl _) hE26.size
    have hS30 : SH w25 w.heap.size [] := SH.ext (SH.nil _ _) hE26
    refine WL.runk 2 [0, 1, 9] [(0, .slice a0' a_0.length c0'), (1, .slice a1' b_1.length c1'), (9, .bool (!x23))] (by kernel_rfl) ?_
    refine WL.case (!x23) [9] ⟨rfl, trivial⟩ (fun hc31 => ?_) (fun hc31 => ?_)
    · have hm := iteT hm hc31
      refine WL.runk 5 [0, 1, 5] [(0, .slice a0' a_0.length c0'), (1, .slice a1' b_1.length c1'), (5, .bool true)] (by kernel_rfl) ?_
      refine WL.nil ?_
      obtain rfl := Option.some.inj hm
      exact WQ.post' ⟨rfl, hb28, hL29, hS30⟩ ⟨rfl, rfl, rfl, trivial⟩
    have hm := iteF hm hc31
    refine WL.runk 1 [0, 1, 9, 10] [(0, .slice a0' a_0.length c0'), (1, .slice a1' b_1.length c1'), (9, .bool false), (10, .slice a1' b_1.length c1')] (by kernel_rfl) ?_
    obtain ⟨x32, hx33, hm⟩ := bindE hm
    refine WL.call 18 #[.slice a1' b_1.length c1'] rfl rfl (by kernel_rfl) (c_18 n b_1 a1' c1' w25 hx33 (Rd.below h1 hb28) hle1) ?_
    rintro _ w34 ⟨rfl, hE35⟩
    refine ⟨_, rfl, ?_⟩
    have hb37 : Ext w w34 := Ext.trans hb28 hE35
    have hL38 : w.heap.size ≤ w34.heap.size := Nat.le_trans hL29 hE35.size
    have hS39 : SH w34 w.heap.size [] := SH.ext hS30 hE35
    refine WL.runk 3 [0, 1, 5] [(0, .slice a0' a_0.length c0'), (1, .slice a1' b_1.length c1'), (5, .bool (!x32))] (by kernel_rfl) ?_
    refine WL.nil ?_
    obtain rfl := Option.some.inj hm
    exact WQ.post' ⟨rfl, hb37, hL38, hS39⟩ ⟨rfl, rfl, rfl, trivial⟩
  clear hx22
  rintro _ w40 ⟨rfl, hb41, hL42, hS43⟩
  refine WQ.then_normal (hK3 _ _ _ ?_)
  refine WP.cond x21 rfl rfl (fun hc44 => ?_) (fun hc44 => ?_)
  · have hm := iteT hm hc44
    refine WP.seq (fun K45 hK45 => ?_)
    refine WP.region ?_
    refine WL.runk 1 [4] [(4, .int .i64 1)] (by kernel_rfl) ?_
    refine WL.nil ?_
    refine WQ.then_normal (hK45 _ _ _ ?_)
    refine WP.ret ?_
    refine WQ.block_ret ?_
    refine WQ.then_ret ?_
    obtain rfl := Option.some.inj hm
    exact WQ.ret1 _ rfl rfl ⟨rfl, hb41⟩
  have hm := iteF hm hc44
  refine WP.seq (fun K46 hK46 => ?_)
  obtain ⟨x62, hx63, hm⟩ := bindE hm
  refine WP.cut (fun env' w' => env' = [(14, .bool x62)] ∧ Ext w w' ∧ w.heap.size ≤ w'.heap.size ∧ SH w' w.heap.size []) ?_ ?_
  rotate_left
  · clear hx63
    rintro _ w79 ⟨rfl, hb80, hL81, hS82⟩
    refine WQ.then_normal (hK46 _ _ _ ?_)
    refine WP.cond x62 rfl rfl (fun hc83 => ?_) (fun hc83 => ?_)
    · have hm := iteT hm hc83
      refine WP.seq (fun K84 hK84 => ?_)
      refine WP.region ?_
      refine WL.runk 1 [4] [(4, .int .i64 9)] (by kernel_rfl) ?_
      refine WL.nil ?_
      refine WQ.then_normal (hK84 _ _ _ ?_)
      refine WP.ret ?_
      refine WQ.block_ret ?_
      refine WQ.then_ret ?_
      obtain rfl := Option.some.inj hm
      exact WQ.ret1 _ rfl rfl ⟨rfl, hb80⟩
    have hm := iteF hm hc83
    refine WP.skip ?_
    refine WQ.block_normal ?_
    refine WQ.then_normal (hK2 _ _ _ ?_)
    refine WP.seq (fun K85 hK85 => ?_)
    refine WP.region ?_
    refine WL.runk 1 [4] [(4, .int .i64 0)] (by kernel_rfl) ?_
    refine WL.nil ?_
    refine WQ.then_normal (hK85 _ _ _ ?_)
    refine WP.ret ?_
    obtain rfl := Option.some.inj hm
    exact WQ.ret1 _ rfl rfl ⟨rfl, hb80⟩
  have hm := hx63; clear hx63
  refine WP.quiet (by kernel_rfl) (by kernel_rfl) ?_
  refine QL.step1v 15 (.slice a0' a_0.length c0') rfl (fun _ => by kernel_rfl) ?_
  refine QL.step1v 16 (.int .i64 (a_0.length : Int)) rfl (fun _ => by kernel_rfl) ?_
  refine QL.step1v 17 (.slice a1' b_1.length c1') rfl (fun _ => by kernel_rfl) ?_
  refine QL.step1v 18 (.int .i64 (b_1.length : Int)) rfl (fun _ => by kernel_rfl) ?_
  refine QL.step1v 19 (.bool ((a_0.length : Int) != (b_1.length : Int))) rfl (fun _ => by kernel_rfl) ?_
  refine QL.step1v 20 (.bool ((a_0.length : Int) != (b_1.length : Int))) rfl (fun _ => by kernel_rfl) ?_
  refine QL.subk [0, 1, 20] [(0, .slice a0' a_0.length c0'), (1, .slice a1' b_1.length c1'), (20, .bool ((a_0.length : Int) != (b_1.length : Int)))] (by kernel_rfl) ?_
  refine QL.case ((a_0.length : Int) != (b_1.length : Int)) [20] ⟨rfl, trivial⟩ (fun hc64 => ?_) (fun hc64 => ?_)
  · have hm := iteT hm hc64
    refine QL.step1v 21 undef rfl (fun _ => by kernel_rfl) ?_
    refine QL.step1v 22 undef rfl (fun _ => by kernel_rfl) ?_
    refine QL.step1v 23 undef rfl (fun _ => by kernel_rfl) ?_
    refine QL.step1v 24 undef rfl (fun _ => by kernel_rfl) ?_
    refine QL.step1v 25 undef rfl (fun _ => by kernel_rfl) ?_
    refine QL.step1v 26 undef rfl (fun _ => by kernel_rfl) ?_
    refine QL.step1v 27 undef rfl (fun _ => by kernel_rfl) ?_
    refine QL.step1v 28 undef rfl (fun _ => by kernel_rfl) ?_
    refine QL.step1v 29 undef rfl (fun _ => by kernel_rfl) ?_
    refine QL.step1v 30 (.bool true) rfl (fun _ => by kernel_rfl) ?_
    refine QL.step1v 14 (.bool true) rfl (fun _ => by kernel_rfl) ?_
    refine QL.subk [14] [(14, .bool true)] (by kernel_rfl) ?_
    refine QL.nil ?_
    intro w65 hE66
    have hb67 : Ext w w65 := Ext.trans hb41 hE66
    have hL68 : w.heap.size ≤ w65.heap.size := Nat.le_trans hL42 hE66.size
    have hS69 : SH w65 w.heap.size [] := SH.ext hS43 hE66
    obtain rfl := Option.some.inj hm
    exact WQ.post' ⟨rfl, hb67, hL68, hS69⟩ ⟨rfl, trivial⟩
  have hm := iteF hm hc64
  refine QL.step1v 21 (.slice a0' a_0.length c0') rfl (fun _ => by kernel_rfl) ?_
  refine QL.subk [1, 20, 21] [(1, .slice a1' b_1.length c1'), (20, .bool false), (21, .slice a0' a_0.length c0')] (by kernel_rfl) ?_
  obtain ⟨x70, hx71, hm⟩ := bindE hm
  refine QL.st (.pointer (some (at_ a0' (Int.toNat 0 * 1)))) (ST.index (T := fStr.ty) (xs := a_0) (Rd.below h0 hb41) hx71 rfl rfl rfl Try.underlying22 (info9).1 (info9).2.1) rfl rfl rfl ?_
  refine QL.st (.string (bs x70)) (ST.load (cell_ext (Rd.flat (F := fStr) (Rd.below h0 hb41) hx71 0 rfl)) rfl rfl Try.underlying9 rfl) rfl rfl rfl ?_
  refine QL.step1v 24 (.int .i64 (x70.length : Int)) rfl (fun _ => by kernel_rfl) ?_
  refine QL.step1v 25 (.slice a1' b_1.length c1') rfl (fun _ => by kernel_rfl) ?_
  refine QL.subk [20, 24, 25] [(20, .bool false), (24, .int .i64 (x70.length : Int)), (25, .slice a1' b_1.length c1')] (by kernel_rfl) ?_
  obtain ⟨x72, hx73, hm⟩ := bindE hm
  refine QL.st (.pointer (some (at_ a1' (Int.toNat 0 * 1)))) (ST.index (T := fStr.ty) (xs := b_1) (Rd.below h1 hb41) hx73 rfl rfl rfl Try.underlying22 (info9).1 (info9).2.1) rfl rfl rfl ?_
  refine QL.st (.string (bs x72)) (ST.load (cell_ext (Rd.flat (F := fStr) (Rd.below h1 hb41) hx73 0 rfl)) rfl rfl Try.underlying9 rfl) rfl rfl rfl ?_
  refine QL.step1v 28 (.int .i64 (x72.length : Int)) rfl (fun _ => by kernel_rfl) ?_
  refine QL.step1v 29 (.bool ((x70.length : Int) != (x72.length : Int))) rfl (fun _ => by kernel_rfl) ?_
  refine QL.step1v 30 (.bool ((x70.length : Int) != (x72.length : Int))) rfl (fun _ => by kernel_rfl) ?_
  refine QL.step1v 14 (.bool ((x70.length : Int) != (x72.length : Int))) rfl (fun _ => by kernel_rfl) ?_
  refine QL.subk [14] [(14, .bool ((x70.length : Int) != (x72.length : Int)))] (by kernel_rfl) ?_
  refine QL.nil ?_
  intro w74 hE75
  have hb76 : Ext w w74 := Ext.trans hb41 hE75
  have hL77 : w.heap.size ≤ w74.heap.size := Nat.le_trans hL42 hE75.size
  have hS78 : SH w74 w.heap.size [] := SH.ext hS43 hE75
  obtain rfl := Option.some.inj hm
  exact WQ.post' ⟨rfl, hb76, hL77, hS78⟩ ⟨rfl, trivial⟩

theorem c_72 (n : Nat) (n_0 : Int) (w : World) {r : Int} (hm : m_spec_l02Size n n_0 = some r)  :
    CallV Try.prog 72 #[.int .i64 n_0] w (fun v w' => v = .int .i64 r ∧ Ext w w') := by
  unfold m_spec_l02Size at hm
  refine CallV.enter Try.func72 rfl (by kernel_rfl) Try.ntmps72 (env := [(0, .int .i64 n_0)]) ⟨rfl, trivial⟩ ?_
  refine WP.seq (fun K1 hK1 => ?_)
  refine WP.region ?_
  refine WL.runk 1 [0] [(0, .int .i64 n_0)] (by kernel_rfl) ?_
  refine WL.nil ?_
  refine WQ.then_normal (hK1 _ _ _ ?_)
  refine WP.seq (fun K2 hK2 => ?_)
  refine WP.seq (fun K3 hK3 => ?_)
  refine WP.region ?_
  refine WL.runk 2 [0, 4] [(0, .int .i64 n_0), (4, .bool (decide (n_0 < 0)))] (by kernel_rfl) ?_
  refine WL.nil ?_
  refine WQ.then_normal (hK3 _ _ _ ?_)
  refine WP.cond (decide (n_0 < 0)) rfl rfl (fun hc4 => ?_) (fun hc4 => ?_)
  · have hm := iteT hm hc4
    refine WP.seq (fun K5 hK5 => ?_)
    refine WP.region ?_
    refine WL.runk 3 [2] [(2, .int .i64 (wI64 (0 - n_0)))] (by kernel_rfl) ?_
    refine WL.nil ?_
    refine WQ.then_normal (hK5 _ _ _ ?_)
    refine WP.ret ?_
    refine WQ.then_ret ?_
    obtain rfl := Option.some.inj hm
    exact WQ.ret1 _ rfl rfl ⟨rfl, (Ext.refl w)⟩
  have hm := iteF hm hc4
  refine WP.skip ?_
  refine WQ.then_normal (hK2 _ _ _ ?_)
  refine WP.seq (fun K6 hK6 => ?_)
  refine WP.region ?_
  refine WL.runk 2 [2] [(2, .int .i64 n_0)] (by kernel_rfl) ?_
  refine WL.nil ?_
  refine WQ.then_normal (hK6 _ _ _ ?_)
  refine WP.ret ?_
  obtain rfl := Option.some.inj hm
  exact WQ.ret1 _ rfl rfl ⟨rfl, (Ext.refl w)⟩

theorem c_35 (n : Nat) (a_0 : List Int) (a0' : Option Addr) (c0' : Nat) (b_1 : List Int) (a1' : Option Addr) (c1' : Nat) (w : World) {r : Bool} (hm : m_laws_eqInt64S n a_0 b_1 = some r) (h0 : Rd fInt.ty w a0' a_0) (_hle0 : a_0.length ≤ c0') (h1 : Rd fInt.ty w a1' b_1) (_hle1 : b_1.length ≤ c1') :
    CallV Try.prog 35 #[.slice a0' a_0.length c0', .slice a1' b_1.length c1'] w (fun v w' => v = .bool r ∧ Ext w w') := by
  unfold m_laws_eqInt64S at hm
  refine CallV.enter Try.func35 rfl (by kernel_rfl) Try.ntmps35 (env := [(0, .slice a0' a_0.length c0'), (1, .slice a1' b_1.length c1')]) ⟨rfl, rfl, trivial⟩ ?_
  refine WP.seq (fun K1 hK1 => ?_)
  refine WP.region ?_
  refine WL.runk 1 [0, 1] [(0, .slice a0' a_0.length c0'), (1, .slice a1' b_1.length c1')] (by kernel_rfl) ?_
  refine WL.nil ?_
  refine WQ.then_normal (hK1 _ _ _ ?_)
  refine WP.seq (fun K2 hK2 => ?_)
  refine WP.seq (fun K3 hK3 => ?_)
  refine WP.region ?_
  refine WL.runk 5 [0, 1, 10] [(0, .slice a0' a_0.length c0'), (1, .slice a1' b_1.length c1'), (10, .bool ((a_0.length : Int) != (b_1.length : Int)))] (by kernel_rfl) ?_
  refine WL.nil ?_
  refine WQ.then_normal (hK3 _ _ _ ?_)
  refine WP.cond ((a_0.length : Int) != (b_1.length : Int)) rfl rfl (fun hc4 => ?_) (fun hc4 => ?_)
  · have hm := iteT hm hc4
    refine WP.seq (fun K5 hK5 => ?_)
    refine WP.region ?_
    refine WL.runk 1 [4] [(4, .bool false)] (by kernel_rfl) ?_
    refine WL.nil ?_
    refine WQ.then_normal (hK5 _ _ _ ?_)
    refine WP.ret ?_
    refine WQ.then_ret ?_
    obtain rfl := Option.some.inj hm
    exact WQ.ret1 _ rfl rfl ⟨rfl, (Ext.refl w)⟩
  have hm := iteF hm hc4
  refine WP.skip ?_
  refine WQ.then_normal (hK2 _ _ _ ?_)
  refine WP.seq (fun K6 hK6 => ?_)
  refine WP.seq (fun K7 hK7 => ?_)
  refine WP.region ?_
  refine WL.runk 1 [0, 1, 5] [(0, .slice a0' a_0.length c0'), (1, .slice a1' b_1.length c1'), (5, .int .i64 0)] (by kernel_rfl) ?_
  refine WL.nil ?_
  refine WQ.then_normal (hK7 _ _ _ ?_)
  refine WP.block ?_
  obtain ⟨t19, ht20, hm⟩ := bindE hm
  have hmo14 := hm; clear hm
  refine WP.sub [(0, .slice a0' a_0.length c0'), (1, .slice a1' b_1.length c1'), (5, .int .i64 0)] ⟨rfl, rfl, rfl, trivial⟩ ?_
  refine WP.loop (fun n' env' w' => ∃ (st8 : Int) , env' = [(0, .slice a0' a_0.length c0'), (1, .slice a1' b_1.length c1'), (5, .int .i64 st8)] ∧ Ext w w' ∧ w.heap.size ≤ w'.heap.size ∧ SH w' w.heap.size [] ∧ loopN (m_laws_eqInt64S_l1 n a_0 b_1) n' st8 = some t19) n ⟨0, rfl, (Ext.refl w), (Nat.le_refl _), (SH.nil _ _), ht20⟩ ?_
  rintro n16 _ w9 ⟨st8, rfl, hb10, hL11, hS12, hl13⟩ K15 hK15
  obtain ⟨n17, s18, rfl, hm, hl13⟩ := loopN_some hl13
  unfold m_laws_eqInt64S_l1 at hm
  refine WP.seq (fun K21 hK21 => ?_)
  refine WP.seq (fun K22 hK22 => ?_)
  refine WP.region ?_
  refine WL.runk 4 [0, 1, 5, 14] [(0, .slice a0' a_0.length c0'), (1, .slice a1' b_1.length c1'), (5, .int .i64 st8), (14, .bool (decide (st8 < (a_0.length : Int))))] (by kernel_rfl) ?_
  refine WL.nil ?_
  refine WQ.then_normal (hK22 _ _ _ ?_)
  refine WP.cond (decide (st8 < (a_0.length : Int))) rfl rfl (fun hc23 => ?_) (fun hc23 => ?_)
  rotate_left
  · have hm := iteF hm hc23
    refine WP.exit ?_
    refine WQ.then_exit ?_
    refine WQ.then_exit ?_
    refine WQ.block_here ?_
    obtain rfl := Option.some.inj hm
    obtain rfl := afterN_done hl13
    have hm := hmo14
    refine WQ.then_normal (hK6 _ _ _ ?_)
    refine WP.seq (fun K37 hK37 => ?_)
    refine WP.region ?_
    refine WL.runk 1 [4] [(4, .bool true)] (by kernel_rfl) ?_
    refine WL.nil ?_
    refine WQ.then_normal (hK37 _ _ _ ?_)
    refine WP.ret ?_
    obtain rfl := Option.some.inj hm
    exact WQ.ret1 _ rfl rfl ⟨rfl, hb10⟩
  have hm := iteT hm hc23
  refine WP.skip ?_
  refine WQ.then_normal (hK21 _ _ _ ?_)
  refine WP.seq (fun K24 hK24 => ?_)
  refine WP.block ?_
  refine WP.seq (fun K25 hK25 => ?_)
  refine WP.quiet (by kernel_rfl) (by kernel_rfl) ?_
  refine QL.step1v 17 (.slice a0' a_0.length c0') rfl (fun _ => by kernel_rfl) ?_
  refine QL.step1v 18 (.int .i64 st8) rfl (fun _ => by kernel_rfl) ?_
  refine QL.subk [0, 1, 5, 17, 18] [(0, .slice a0' a_0.length c0'), (1, .slice a1' b_1.length c1'), (5, .int .i64 st8), (17, .slice a0' a_0.length c0'), (18, .int .i64 st8)] (by kernel_rfl) ?_
  obtain ⟨x26, hx27, hm⟩ := bindE hm
  refine QL.st (.pointer (some (at_ a0' (Int.toNat st8 * 1)))) (ST.index (T := fInt.ty) (xs := a_0) (Rd.below h0 hb10) hx27 rfl rfl rfl Try.underlying40 (info2).1 (info2).2.1) rfl rfl rfl ?_
  refine QL.st (.int .i64 x26) (ST.load (cell_ext (Rd.flat (F := fInt) (Rd.below h0 hb10) hx27 0 rfl)) rfl rfl Try.underlying2 rfl) rfl rfl rfl ?_
  refine QL.step1v 21 (.slice a1' b_1.length c1') rfl (fun _ => by kernel_rfl) ?_
  refine QL.step1v 22 (.int .i64 st8) rfl (fun _ => by kernel_rfl) ?_
  refine QL.subk [0, 1, 5, 20, 21, 22] [(0, .slice a0' a_0.length c0'), (1, .slice a1' b_1.length c1'), (5, .int .i64 st8), (20, .int .i64 x26), (21, .slice a1' b_1.length c1'), (22, .int .i64 st8)] (by kernel_rfl) ?_
  obtain ⟨x28, hx29, hm⟩ := bindE hm
  refine QL.st (.pointer (some (at_ a1' (Int.toNat st8 * 1)))) (ST.index (T := fInt.ty) (xs := b_1) (Rd.below h1 hb10) hx29 rfl rfl rfl Try.underlying40 (info2).1 (info2).2.1) rfl rfl rfl ?_
  refine QL.st (.int .i64 x28) (ST.load (cell_ext (Rd.flat (F := fInt) (Rd.below h1 hb10) hx29 0 rfl)) rfl rfl Try.underlying2 rfl) rfl rfl rfl ?_
  refine QL.step1v 25 (.bool (x26 != x28)) rfl (fun _ => by kernel_rfl) ?_
  refine QL.subk [0, 1, 5, 25] [(0, .slice a0' a_0.length c0'), (1, .slice a1' b_1.length c1'), (5, .int .i64 st8), (25, .bool (x26 != x28))] (by kernel_rfl) ?_
  refine QL.nil ?_
  intro w30 hE31
  have hb32 : Ext w w30 := Ext.trans hb10 hE31
  have hL33 : w.heap.size ≤ w30.heap.size := Nat.le_trans hL11 hE31.size
  have hS34 : SH w30 w.heap.size [] := SH.ext hS12 hE31
  refine WQ.then_normal (hK25 _ _ _ ?_)
  refine WP.cond (x26 != x28) rfl rfl (fun hc35 => ?_) (fun hc35 => ?_)
  rotate_left
  · have hm := iteF hm hc35
    refine WP.skip ?_
    refine WQ.block_normal ?_
    refine WQ.then_normal (hK24 _ _ _ ?_)
    refine WP.region ?_
    refine WL.runk 3 [0, 1, 5] [(0, .slice a0' a_0.length c0'), (1, .slice a1' b_1.length c1'), (5, .int .i64 (wI64 (st8 + 1)))] (by kernel_rfl) ?_
    refine WL.nil ?_
    obtain rfl := Option.some.inj hm
    exact WQ.round hK15 ⟨(wI64 (st8 + 1)), rfl, hb32, hL33, hS34, hl13⟩ (Nat.lt_succ_self _) ⟨rfl, rfl, rfl, trivial⟩
  have hm := iteT hm hc35
  refine WP.seq (fun K36 hK36 => ?_)
  refine WP.region ?_
  refine WL.runk 1 [4] [(4, .bool false)] (by kernel_rfl) ?_
  refine WL.nil ?_
  refine WQ.then_normal (hK36 _ _ _ ?_)
  refine WP.ret ?_
  refine WQ.block_ret ?_
  refine WQ.then_ret ?_
  refine WQ.then_ret ?_
  refine WQ.block_ret ?_
  refine WQ.then_ret ?_
  obtain rfl := Option.some.inj hm
  obtain rfl := afterN_done hl13
  have hm := hmo14
  obtain rfl := Option.some.inj hm
  exact WQ.ret1 _ rfl rfl ⟨rfl, hb32⟩

theorem c_36 (n : Nat) (a_0 : List Int) (a0' : Option Addr) (c0' : Nat) (k_1 : Int) (w : World) (w0 : World) (B : Nat) (L : List Asrt) {r : Int × List Int} (hm : m_laws_markInt64S n a_0 k_1 = some r) (_hE0 : Ext w0 w) (_hW : w0.heap.size ≤ B) (hL : B ≤ w.heap.size) (hS : SH w B (aOwn fInt 2 a0' c0' a_0 :: L)) :
    CallV Try.prog 36 #[.slice a0' a_0.length c0', .int .i64 k_1] w (fun v w' => v = .int .i64 r.1 ∧ Below B w w' ∧ SH w' B (aOwn fInt 2 a0' c0' r.2 :: L) ∧ r.2.length = a_0.length) := by
  unfold m_laws_markInt64S at hm
  refine CallV.enter Try.func36 rfl (by kernel_rfl) Try.ntmps36 (env := [(0, .slice a0' a_0.length c0'), (1, .int .i64 k_1)]) ⟨rfl, rfl, trivial⟩ ?_
  refine WP.seq (fun K1 hK1 => ?_)
  refine WP.region ?_
  refine WL.runk 1 [0, 1] [(0, .slice a0' a_0.length c0'), (1, .int .i64 k_1)] (by kernel_rfl) ?_
  refine WL.nil ?_
  refine WQ.then_normal (hK1 _ _ _ ?_)
  refine WP.seq (fun K2 hK2 => ?_)
  refine WP.seq (fun K3 hK3 => ?_)
  refine WP.region ?_
  refine WL.runk 1 [0, 1, 5] [(0, .slice a0' a_0.length c0'), (1, .int .i64 k_1), (5, .int .i64 0)] (by kernel_rfl) ?_
  refine WL.nil ?_
  refine WQ.then_normal (hK3 _ _ _ ?_)
  refine WP.block ?_
  obtain ⟨t42, ht43, hm⟩ := bindE hm
  have hmo37 := hm; clear hm
  refine WP.sub [(0, .slice a0' a_0.length c0'), (1, .int .i64 k_1), (5, .int .i64 0)] ⟨rfl, rfl, rfl, trivial⟩ ?_
  refine WP.loop (fun n' env' w' => ∃ (st31 : Int × Int × List Int) , env' = [(0, .slice a0' st31.2.2.length c0'), (1, .int .i64 st31.1), (5, .int .i64 st31.2.1)] ∧ Below B w w' ∧ B ≤ w'.heap.size ∧ SH w' B (aOwn fInt 2 a0' c0' st31.2.2 :: L) ∧ st31.2.2.length = a_0.length ∧ loopN (m_laws_markInt64S_l1 n) n' st31 = some t42) n ⟨(k_1, 0, a_0), rfl, (Below.refl _ _), hL, hS, rfl, ht43⟩ ?_
  rintro n39 _ w32 ⟨st31, rfl, hb33, hL34, hS35, hn44, hl36⟩ K38 hK38
  obtain ⟨n40, s41, rfl, hm, hl36⟩ := loopN_some hl36
  unfold m_laws_markInt64S_l1 at hm
  refine WP.seq (fun K45 hK45 => ?_)
  refine WP.seq (fun K46 hK46 => ?_)
  refine WP.region ?_
  refine WL.runk 4 [0, 1, 5, 9] [(0, .slice a0' st31.2.2.length c0'), (1, .int .i64 st31.1), (5, .int .i64 st31.2.1), (9, .bool (decide (st31.2.1 < (st31.2.2.length : Int))))] (by kernel_rfl) ?_
  refine WL.nil ?_
  refine WQ.then_normal (hK46 _ _ _ ?_)
  refine WP.cond (decide (st31.2.1 < (st31.2.2.length : Int))) rfl rfl (fun hc47 => ?_) (fun hc47 => ?_)
  rotate_left
  · have hm := iteF hm hc47
    refine WP.exit ?_
    refine WQ.then_exit ?_
    refine WQ.then_exit ?_
    refine WQ.block_here ?_
    obtain rfl := Option.some.inj hm
    obtain rfl := afterN_done hl36
    have hm := hmo37
    refine WQ.then_normal (hK2 _ _ _ ?_)
    refine WP.seq (fun K58 hK58 => ?_)
    refine WP.region ?_
    refine WL.runk 2 [4] [(4, .int .i64 st31.1)] (by kernel_rfl) ?_
    refine WL.nil ?_
    refine WQ.then_normal (hK58 _ _ _ ?_)
    refine WP.ret ?_
    obtain rfl := Option.some.inj hm
    exact WQ.ret1 _ rfl rfl ⟨rfl, hb33, hS35, hn44⟩
  have hm := iteT hm hc47
  refine WP.skip ?_
  refine WQ.then_normal (hK45 _ _ _ ?_)
  refine WP.seq (fun K48 hK48 => ?_)
  refine WP.block ?_
  refine WP.seq (fun K49 hK49 => ?_)
  refine WP.region ?_
  refine WL.runk 3 [0, 1, 5, 12, 13, 14] [(0, .slice a0' st31.2.2.length c0'), (1, .int .i64 st31.1), (5, .int .i64 st31.2.1), (12, .slice a0' st31.2.2.length c0'), (13, .int .i64 st31.2.1), (14, .int .i64 st31.1)] (by kernel_rfl) ?_
  obtain ⟨x50, hx51, hm⟩ := bindE hm
  refine WL.st (.pointer (some (at_ a0' (Int.toNat st31.2.1 * 1)))) (ST.index (T := fInt.ty) (xs := st31.2.2) (SH.rd (SH.front 0 hS35)) hx51 rfl rfl rfl Try.underlying40 (info2).1 (info2).2.1) rfl rfl rfl ?_
  refine WL.store (F := fInt) st31.1 0 [.int .i64 st31.1] (SH.front 0 hS35) hL34 hx51 rfl rfl rfl rfl rfl rfl rfl (info2).1 (info2).2.1 rfl rfl rfl ?_
  intro w52 hB53 hS54
  have hb55 : Below B w w52 := Below.trans hb33 hB53
  have hL56 : B ≤ w52.heap.size := Nat.le_trans hL34 hB53.size
  refine WL.sub [(0, .slice a0' ((st31.2.2.set (Int.toNat st31.2.1) st31.1).length) c0'), (1, .int .i64 st31.1), (5, .int .i64 st31.2.1), (12, .slice a0' ((st31.2.2.set (Int.toNat st31.2.1) st31.1).length) c0'), (13, .int .i64 st31.2.1), (14, .int .i64 st31.1)] ⟨by first | (simp only [List.length_set]; done) | (simp only [List.length_set]; rfl), rfl, rfl, by first | (simp only [List.length_set]; done) | (simp only [List.length_set]; rfl), rfl, rfl, trivial⟩ ?_
  have hn57 : (st31.2.2.set (Int.toNat st31.2.1) st31.1).length = a_0.length := List.length_set.trans hn44
  refine WL.sub [(0, .slice a0' ((st31.2.2.set (Int.toNat st31.2.1) st31.1).length) c0'), (1, .int .i64 st31.1), (5, .int .i64 st31.2.1)] ⟨rfl, rfl, rfl, trivial⟩ ?_
  refine WL.nil ?_
  refine WQ.then_normal (hK49 _ _ _ ?_)
  refine WP.region ?_
  refine WL.runk 3 [0, 1, 5] [(0, .slice a0' ((st31.2.2.set (Int.toNat st31.2.1) st31.1).length) c0'), (1, .int .i64 (wI64 (st31.1 + 1))), (5, .int .i64 st31.2.1)] (by kernel_rfl) ?_
  refine WL.nil ?_
  refine WQ.block_normal ?_
  refine WQ.then_normal (hK48 _ _ _ ?_)
  refine WP.region ?_
  refine WL.runk 3 [0, 1, 5] [(0, .slice a0' ((st31.2.2.set (Int.toNat st31.2.1) st31.1).length) c0'), (1, .int .i64 (wI64 (st31.1 + 1))), (5, .int .i64 (wI64 (st31.2.1 + 1)))] (by kernel_rfl) ?_
  refine WL.nil ?_
  obtain rfl := Option.some.inj hm
  exact WQ.round hK38 ⟨((wI64 (st31.1 + 1)), (wI64 (st31.2.1 + 1)), (st31.2.2.set (Int.toNat st31.2.1) st31.1)), rfl, hb55, hL56, hS54, hn57, hl36⟩ (Nat.lt_succ_self _) ⟨rfl, rfl, rfl, trivial⟩

theorem c_37 (n : Nat) (a_0 : List Int) (a0' : Option Addr) (c0' : Nat) (k_1 : Int) (w : World) {r : Int} (hm : m_laws_heldInt64S n a_0 k_1 = some r) (h0 : Rd fInt.ty w a0' a_0) (_hle0 : a_0.length ≤ c0') :
    CallV Try.prog 37 #[.slice a0' a_0.length c0', .int .i64 k_1] w (fun v w' => v = .int .i64 r ∧ Ext w w') := by
  unfold m_laws_heldInt64S at hm
  refine CallV.enter Try.func37 rfl (by kernel_rfl) Try.ntmps37 (env := [(0, .slice a0' a_0.length c0'), (1, .int .i64 k_1)]) ⟨rfl, rfl, trivial⟩ ?_
  refine WP.seq (fun K1 hK1 => ?_)
  refine WP.region ?_
  refine WL.runk 1 [0, 1] [(0, .slice a0' a_0.length c0'), (1, .int .i64 k_1)] (by kernel_rfl) ?_
  refine WL.nil ?_
  refine WQ.then_normal (hK1 _ _ _ ?_)
  refine WP.seq (fun K2 hK2 => ?_)
  refine WP.seq (fun K3 hK3 => ?_)
  refine WP.region ?_
  refine WL.runk 1 [0, 1, 5] [(0, .slice a0' a_0.length c0'), (1, .int .i64 k_1), (5, .int .i64 0)] (by kernel_rfl) ?_
  refine WL.nil ?_
  refine WQ.then_normal (hK3 _ _ _ ?_)
  refine WP.block ?_
  obtain ⟨t15, ht16, hm⟩ := bindE hm
  have hmo10 := hm; clear hm
  refine WP.sub [(0, .slice a0' a_0.length c0'), (1, .int .i64 k_1), (5, .int .i64 0)] ⟨rfl, rfl, rfl, trivial⟩ ?_
  refine WP.loop (fun n' env' w' => ∃ (st4 : Int × Int) , env' = [(0, .slice a0' a_0.length c0'), (1, .int .i64 st4.1), (5, .int .i64 st4.2)] ∧ Ext w w' ∧ w.heap.size ≤ w'.heap.size ∧ SH w' w.heap.size [] ∧ loopN (m_laws_heldInt64S_l1 n a_0) n' st4 = some t15) n ⟨(k_1, 0), rfl, (Ext.refl w), (Nat.le_refl _), (SH.nil _ _), ht16⟩ ?_
  rintro n12 _ w5 ⟨st4, rfl, hb6, hL7, hS8, hl9⟩ K11 hK11
  obtain ⟨n13, s14, rfl, hm, hl9⟩ := loopN_some hl9
  unfold m_laws_heldInt64S_l1 at hm
  refine WP.seq (fun K17 hK17 => ?_)
  refine WP.seq (fun K18 hK18 => ?_)
  refine WP.region ?_
  refine WL.runk 4 [0, 1, 5, 9] [(0, .slice a0' a_0.length c0'), (1, .int .i64 st4.1), (5, .int .i64 st4.2), (9, .bool (decide (st4.2 < (a_0.length : Int))))] (by kernel_rfl) ?_
  refine WL.nil ?_
  refine WQ.then_normal (hK18 _ _ _ ?_)
  refine WP.cond (decide (st4.2 < (a_0.length : Int))) rfl rfl (fun hc19 => ?_) (fun hc19 => ?_)
  rotate_left
  · have hm := iteF hm hc19
    refine WP.exit ?_
    refine WQ.then_exit ?_
    refine WQ.then_exit ?_
    refine WQ.block_here ?_
    obtain rfl := Option.some.inj hm
    obtain rfl := afterN_done hl9
    have hm := hmo10
    refine WQ.then_normal (hK2 _ _ _ ?_)
    refine WP.seq (fun K27 hK27 => ?_)
    refine WP.region ?_
    refine WL.runk 2 [4] [(4, .int .i64 st4.1)] (by kernel_rfl) ?_
    refine WL.nil ?_
    refine WQ.then_normal (hK27 _ _ _ ?_)
    refine WP.ret ?_
    obtain rfl := Option.some.inj hm
    exact WQ.ret1 _ rfl rfl ⟨rfl, hb6⟩
  have hm := iteT hm hc19
  refine WP.skip ?_
  refine WQ.then_normal (hK17 _ _ _ ?_)
  refine WP.seq (fun K20 hK20 => ?_)
  refine WP.block ?_
  refine WP.seq (fun K21 hK21 => ?_)
  refine WP.seq (fun K22 hK22 => ?_)
  refine WP.region ?_
  refine WL.runk 2 [0, 1, 5, 12, 13] [(0, .slice a0' a_0.length c0'), (1, .int .i64 st4.1), (5, .int .i64 st4.2), (12, .slice a0' a_0.length c0'), (13, .int .i64 st4.2)] (by kernel_rfl) ?_
  obtain ⟨x23, hx24, hm⟩ := bindE hm
  refine WL.st (.pointer (some (at_ a0' (Int.toNat st4.2 * 1)))) (ST.index (T := fInt.ty) (xs := a_0) (Rd.below h0 hb6) hx24 rfl rfl rfl Try.underlying40 (info2).1 (info2).2.1) rfl rfl rfl ?_
  refine WL.st (.int .i64 x23) (ST.load (cell_ext (Rd.flat (F := fInt) (Rd.below h0 hb6) hx24 0 rfl)) rfl rfl Try.underlying2 rfl) rfl rfl rfl ?_
  refine WL.runk 2 [0, 1, 5, 17] [(0, .slice a0' a_0.length c0'), (1, .int .i64 st4.1), (5, .int .i64 st4.2), (17, .bool (x23 != st4.1))] (by kernel_rfl) ?_
  refine WL.nil ?_
  refine WQ.then_normal (hK22 _ _ _ ?_)
  refine WP.cond (x23 != st4.1) rfl rfl (fun hc25 => ?_) (fun hc25 => ?_)
  rotate_left
  · have hm := iteF hm hc25
    refine WP.skip ?_
    refine WQ.then_normal (hK21 _ _ _ ?_)
    refine WP.region ?_
    refine WL.runk 3 [0, 1, 5] [(0, .slice a0' a_0.length c0'), (1, .int .i64 (wI64 (st4.1 + 1))), (5, .int .i64 st4.2)] (by kernel_rfl) ?_
    refine WL.nil ?_
    refine WQ.block_normal ?_
    refine WQ.then_normal (hK20 _ _ _ ?_)
    refine WP.region ?_
    refine WL.runk 3 [0, 1, 5] [(0, .slice a0' a_0.length c0'), (1, .int .i64 (wI64 (st4.1 + 1))), (5, .int .i64 (wI64 (st4.2 + 1)))] (by kernel_rfl) ?_
    refine WL.nil ?_
    obtain rfl := Option.some.inj hm
    exact WQ.round hK11 ⟨((wI64 (st4.1 + 1)), (wI64 (st4.2 + 1))), rfl, hb6, hL7, hS8, hl9⟩ (Nat.lt_succ_self _) ⟨rfl, rfl, rfl, trivial⟩
  have hm := iteT hm hc25
  refine WP.seq (fun K26 hK26 => ?_)
  refine WP.region ?_
  refine WL.runk 1 [4] [(4, .int .i64 (-1))] (by kernel_rfl) ?_
  refine WL.nil ?_
  refine WQ.then_normal (hK26 _ _ _ ?_)
  refine WP.ret ?_
  refine WQ.then_ret ?_
  refine WQ.block_ret ?_
  refine WQ.then_ret ?_
  refine WQ.then_ret ?_
  refine WQ.block_ret ?_
  refine WQ.then_ret ?_
  obtain rfl := Option.some.inj hm
  obtain rfl := afterN_done hl9
  have hm := hmo10
  obtain rfl := Option.some.inj hm
  exact WQ.ret1 _ rfl rfl ⟨rfl, hb6⟩

theorem c_70 (n : Nat) (a_0 : Int) (b_1 : Int) (w : World) {r : Int} (hm : m_impl_apart n a_0 b_1 = some r)  :
    CallV Try.prog 70 #[.int .i64 a_0, .int .i64 b_1] w (fun v w' => v = .int .i64 r ∧ Ext w w') := by
  unfold m_impl_apart at hm
  refine CallV.enter Try.func70 rfl (by kernel_rfl) Try.ntmps70 (env := [(0, .int .i64 a_0), (1, .int .i64 b_1)]) ⟨rfl, rfl, trivial⟩ ?_
  refine WP.seq (fun K1 hK1 => ?_)
  refine WP.region ?_
  refine WL.runk 1 [0, 1] [(0, .int .i64 a_0), (1, .int .i64 b_1)] (by kernel_rfl) ?_
  refine WL.nil ?_
  refine WQ.then_normal (hK1 _ _ _ ?_)
  refine WP.seq (fun K2 hK2 => ?_)
  refine WP.region ?_
  refine WL.runk 8 [4] [(4, .int .i64 (imax (wI64 (a_0 - b_1)) (wI64 (b_1 - a_0))))] (by kernel_rfl) ?_
  refine WL.nil ?_
  refine WQ.then_normal (hK2 _ _ _ ?_)
  refine WP.ret ?_
  obtain rfl := Option.some.inj hm
  exact WQ.ret1 _ rfl rfl ⟨rfl, (Ext.refl w)⟩

theorem c_42 (n : Nat) (left_0 : List (List UInt8)) (a0' : Option Addr) (c0' : Nat) (right_1 : List (List UInt8)) (a1' : Option Addr) (c1' : Nat) (most_2 : Int) (w : World) {r : List Int × Int} (hm : m_impl_StrangeFields n left_0 right_1 most_2 = some r) (h0 : Rd fStr.ty w a0' left_0) (hle0 : left_0.length ≤ c0') (h1 : Rd fStr.ty w a1' right_1) (hle1 : right_1.length ≤ c1') :
    CallV Try.prog 42 #[.slice a0' left_0.length c0', .slice a1' right_1.length c1', .int .i64 most_2] w (fun v w' => ∃ (ra0 : Option Addr) (rc0 : Nat), v = .tuple #[.slice ra0 r.1.length rc0, .int .i64 r.2] ∧ Ext w w' ∧ SH w' w.heap.size [aOwn fInt 2 ra0 rc0 r.1]) := by
  unfold m_impl_StrangeFields at hm
  refine CallV.enter Try.func42 rfl (by kernel_rfl) Try.ntmps42 (env := [(0, .slice a0' left_0.length c0'), (1, .slice a1' right_1.length c1'), (2, .int .i64 most_2)]) ⟨rfl, rfl, rfl, trivial⟩ ?_
  refine WP.seq (fun K1 hK1 => ?_)
  refine WP.region ?_
  refine WL.runk 2 [0, 1, 2] [(0, .slice a0' left_0.length c0'), (1, .slice a1' right_1.length c1'), (2, .int .i64 most_2)] (by kernel_rfl) ?_
  refine WL.nil ?_
  refine WQ.then_normal (hK1 _ _ _ ?_)
  refine WP.seq (fun K2 hK2 => ?_)
  refine WP.block ?_
  refine WP.seq (fun K3 hK3 => ?_)
  obtain ⟨x21, hx22, hm⟩ := bindE hm
  refine WP.cut (fun env' w' => env' = [(0, .slice a0' left_0.length c0'), (1, .slice a1' right_1.length c1'), (2, .int .i64 most_2), (12, .bool x21)] ∧ Ext w w' ∧ w.heap.size ≤ w'.heap.size ∧ SH w' w.heap.size []) ?_ ?_
  · have hm := hx22; clear hx22
    refine WP.region ?_
    refine WL.runk 1 [0, 1, 2, 13] [(0, .slice a0' left_0.length c0'), (1, .slice a1' right_1.length c1'), (2, .int .i64 most_2), (13, .slice a0' left_0.length c0')] (by kernel_rfl) ?_
    obtain ⟨x23, hx24, hm⟩ := bindE hm
    refine WL.call 18 #[.slice a0' left_0.length c0'] rfl rfl (by kernel_rfl) (c_18 n left_0 a0' c0' w hx24 (Rd.below h0 (Ext.refl w)) hle0) ?_
    rintro _ w25 ⟨rfl, hE26⟩
    refine ⟨_, rfl, ?_⟩
    have hb28 : Ext w w25 := Ext.trans (Ext.refl w) hE26
    have hL29 : w.heap.size ≤ w25.heap.size := Nat.le_trans (Nat.le_refl _) hE26.size
    have hS30 : SH w25 w.heap.size [] := SH.ext (SH.nil _ _) hE26
    refine WL.runk 2 [0, 1, 2, 16] [(0, .slice a0' left_0.length c0'), (1, .slice a1' right_1.length c1'), (2, .int .i64 most_2), (16, .bool (!x23))] (by kernel_rfl) ?_
    refine WL.case (!x23) [16] ⟨rfl, trivial⟩ (fun hc31 => ?_) (fun hc31 => ?_)
    · have hm := iteT hm hc31
      refine WL.runk 5 [0, 1, 2, 12] [(0, .slice a0' left_0.length c0'), (1, .slice a1' right_1.length c1'), (2, .int .i64 most_2), (12, .bool true)] (by kernel_rfl) ?_
      refine WL.nil ?_
      obtain rfl := Option.some.inj hm
      exact WQ.post' ⟨rfl, hb28, hL29, hS30⟩ ⟨rfl, rfl, rfl, rfl, trivial⟩
    have hm := iteF hm hc31
    refine WL.runk 1 [0, 1, 2, 16, 17] [(0, .slice a0' left_0.length c0'), (1, .slice a1' right_1.length c1'), (2, .int .i64 most_2), (16, .bool false), (17, .slice a1' right_1.length c1')] (by kernel_rfl) ?_
    obtain ⟨x32, hx33, hm⟩ := bindE hm
    refine WL.call 18 #[.slice a1' right_1.length c1'] rfl rfl (by kernel_rfl) (c_18 n right_1 a1' c1' w25 hx33 (Rd.below h1 hb28) hle1) ?_
    rintro _ w34 ⟨rfl, hE35⟩
    refine ⟨_, rfl, ?_⟩
    have hb37 : Ext w w34 := Ext.trans hb28 hE35
    have hL38 : w.heap.size ≤ w34.heap.size := Nat.le_trans hL29 hE35.size
    have hS39 : SH w34 w.heap.size [] := SH.ext hS30 hE35
    refine WL.runk 3 [0, 1, 2, 12] [(0, .slice a0' left_0.length c0'), (1, .slice a1' right_1.length c1'), (2, .int .i64 most_2), (12, .bool (!x32))] (by kernel_rfl) ?_
    refine WL.nil ?_
    obtain rfl := Option.some.inj hm
    exact WQ.post' ⟨rfl, hb37, hL38, hS39⟩ ⟨rfl, rfl, rfl, rfl, trivial⟩
  clear hx22
  rintro _ w40 ⟨rfl, hb41, hL42, hS43⟩
  refine WQ.then_normal (hK3 _ _ _ ?_)
  refine WP.cond x21 rfl rfl (fun hc44 => ?_) (fun hc44 => ?_)
  · have hm := iteT hm hc44
    refine WP.seq (fun K45 hK45 => ?_)
    refine WP.region ?_
    refine WL.runk 2 [6, 7] [(6, .slice none 0 0), (7, .int .i64 1)] (by kernel_rfl) ?_
    refine WL.nil ?_
    refine WQ.then_normal (hK45 _ _ _ ?_)
    refine WP.ret ?_
    refine WQ.block_ret ?_
    refine WQ.then_ret ?_
    obtain rfl := Option.some.inj hm
    have hS47 : SH w40 w.heap.size [aOwn fInt 2 none 0 ([] : List Int)] := SH.nilOwn hS43
    exact WQ.ret2 _ _ rfl rfl rfl ⟨_, _, rfl, hb41, hS47⟩
  have hm := iteF hm hc44
  refine WP.seq (fun K48 hK48 => ?_)
  refine WP.region ?_
  refine WL.runk 1 [0, 1, 2, 22] [(0, .slice a0' left_0.length c0'), (1, .slice a1' right_1.length c1'), (2, .int .i64 most_2), (22, .int .i64 most_2)] (by kernel_rfl) ?_
  obtain ⟨x49, hx50, hm⟩ := bindE hm
  refine WL.call 50 #[.int .i64 most_2, .int .i64 0, .int .i64 9] rfl rfl (by kernel_rfl) (c_50 n most_2 0 9 w40 hx50 ) ?_
  rintro _ w51 ⟨rfl, hE52⟩
  refine ⟨_, rfl, ?_⟩
  have hb54 : Ext w w51 := Ext.trans hb41 hE52
  have hL55 : w.heap.size ≤ w51.heap.size := Nat.le_trans hL42 hE52.size
  have hS56 : SH w51 w.heap.size [] := SH.ext hS43 hE52
  refine WL.runk 2 [0, 1, 2, 21] [(0, .slice a0' left_0.length c0'), (1, .slice a1' right_1.length c1'), (2, .int .i64 most_2), (21, .bool (!x49))] (by kernel_rfl) ?_
  refine WL.nil ?_
  refine WQ.then_normal (hK48 _ _ _ ?_)
  refine WP.cond (!x49) rfl rfl (fun hc57 => ?_) (fun hc57 => ?_)
  · have hm := iteT hm hc57
    refine WP.seq (fun K58 hK58 => ?_)
    refine WP.region ?_
    refine WL.runk 2 [6, 7] [(6, .slice none 0 0), (7, .int .i64 2)] (by kernel_rfl) ?_
    refine WL.nil ?_
    refine WQ.then_normal (hK58 _ _ _ ?_)
    refine WP.ret ?_
    refine WQ.block_ret ?_
    refine WQ.then_ret ?_
    obtain rfl := Option.some.inj hm
    have hS60 : SH w51 w.heap.size [aOwn fInt 2 none 0 ([] : List Int)] := SH.nilOwn hS56
    exact WQ.ret2 _ _ rfl rfl rfl ⟨_, _, rfl, hb54, hS60⟩
  have hm := iteF hm hc57
  refine WP.seq (fun K61 hK61 => ?_)
  refine WP.region ?_
  refine WL.runk 2 [0, 1, 2, 26, 27] [(0, .slice a0' left_0.length c0'), (1, .slice a1' right_1.length c1'), (2, .int .i64 most_2), (26, .slice a0' left_0.length c0'), (27, .slice a1' right_1.length c1')] (by kernel_rfl) ?_
  obtain ⟨x62, hx63, hm⟩ := bindE hm
  refine WL.call 60 #[.slice a0' left_0.length c0', .slice a1' right_1.length c1'] rfl rfl (by kernel_rfl) (c_60 n left_0 a0' c0' right_1 a1' c1' w51 hx63 (Rd.below h0 hb54) hle0 (Rd.below h1 hb54) hle1) ?_
  rintro _ w64 ⟨rfl, hE65⟩
  refine ⟨_, rfl, ?_⟩
  have hb67 : Ext w w64 := Ext.trans hb54 hE65
  have hL68 : w.heap.size ≤ w64.heap.size := Nat.le_trans hL55 hE65.size
  have hS69 : SH w64 w.heap.size [] := SH.ext hS56 hE65
  refine WL.runk 2 [0, 1, 2, 25] [(0, .slice a0' left_0.length c0'), (1, .slice a1' right_1.length c1'), (2, .int .i64 most_2), (25, .bool (x62 != 0))] (by kernel_rfl) ?_
  refine WL.nil ?_
  refine WQ.then_normal (hK61 _ _ _ ?_)
  refine WP.cond (x62 != 0) rfl rfl (fun hc70 => ?_) (fun hc70 => ?_)
  · have hm := iteT hm hc70
    refine WP.seq (fun K71 hK71 => ?_)
    refine WP.region ?_
    refine WL.runk 2 [6, 7] [(6, .slice none 0 0), (7, .int .i64 9)] (by kernel_rfl) ?_
    refine WL.nil ?_
    refine WQ.then_normal (hK71 _ _ _ ?_)
    refine WP.ret ?_
    refine WQ.block_ret ?_
    refine WQ.then_ret ?_
    obtain rfl := Option.some.inj hm
    have hS73 : SH w64 w.heap.size [aOwn fInt 2 none 0 ([] : List Int)] := SH.nilOwn hS69
    exact WQ.ret2 _ _ rfl rfl rfl ⟨_, _, rfl, hb67, hS73⟩
  have hm := iteF hm hc70
  refine WP.skip ?_
  refine WQ.block_normal ?_
  refine WQ.then_normal (hK2 _ _ _ ?_)
  refine WP.seq (fun K74 hK74 => ?_)
  refine WP.region ?_
  refine WL.row fInt 2 ([] : List Int) 0 #[] 30 (by kernel_rfl) rfl rfl rfl rfl rfl rfl rfl ?_
  intro a75 c76 w77 hE78 hR79
  have hb81 : Ext w w77 := Ext.trans hb67 hE78
  have hL82 : w.heap.size ≤ w77.heap.size := Nat.le_trans hL68 hE78.size
  have hS83 : SH w77 w.heap.size [aOwn fInt 2 a75 c76 ([] : List Int)] := SH.add hS69 hE78 hL68 hR79
  refine WL.runk 1 [0, 2, 30, 31] [(0, .slice a0' left_0.length c0'), (2, .int .i64 most_2), (30, .slice a75 (([] : List Int).length) c76), (31, .slice a1' right_1.length c1')] (by kernel_rfl) ?_
  obtain ⟨x84, hx85, hm⟩ := bindE hm
  refine WL.call 56 #[.slice a1' right_1.length c1'] rfl rfl (by kernel_rfl) (c_56 n right_1 a1' c1' w77 hx85 (Rd.below h1 hb81) hle1) ?_
  rintro _ w89 ⟨a86, c87, rfl, hE90, hR91⟩
  refine ⟨_, rfl, ?_⟩
  have hb92 : Ext w w89 := Ext.trans hb81 hE90
  have hL93 : w.heap.size ≤ w89.heap.size := Nat.le_trans hL82 hE90.size
  have hS94 : SH w89 w.heap.size [aOwn fStr 9 a86 c87 x84, aOwn fInt 2 a75 c76 ([] : List Int)] := SH.add hS83 hE90 hL82 hR91
  obtain ⟨x95, hx96, hm⟩ := bindE hm
  refine WL.call 54 #[.slice a86 x84.length c87] rfl rfl (by kernel_rfl) (c_54 n x84 a86 c87 w89 hx96 (SH.rd (SH.front 0 hS94)) (SH.le (SH.front 0 hS94)).1) ?_
  rintro _ w100 ⟨a97, c98, rfl, hE101, hR102⟩
  refine ⟨_, rfl, ?_⟩
  have hb103 : Ext w w100 := Ext.trans hb92 hE101
  have hL104 : w.heap.size ≤ w100.heap.size := Nat.le_trans hL93 hE101.size
  have hS105 : SH w100 w.heap.size [aOwn fInt 2 a97 c98 x95, aOwn fStr 9 a86 c87 x84, aOwn fInt 2 a75 c76 ([] : List Int)] := SH.add hS94 hE101 hL93 hR102
  refine WL.runk 2 [0, 2, 8, 9] [(0, .slice a0' left_0.length c0'), (2, .int .i64 most_2), (8, .slice a75 (([] : List Int).length) c76), (9, .slice a97 x95.length c98)] (by kernel_rfl) ?_
  refine WL.nil ?_
  refine WQ.then_normal (hK74 _ _ _ ?_)
  refine WP.seq (fun K106 hK106 => ?_)
  refine WP.seq (fun K107 hK107 => ?_)
  refine WP.region ?_
  refine WL.runk 1 [2, 8, 9, 34] [(2, .int .i64 most_2), (8, .slice a75 (([] : List Int).length) c76), (9, .slice a97 x95.length c98), (34, .slice a0' left_0.length c0')] (by kernel_rfl) ?_
  obtain ⟨x108, hx109, hm⟩ := bindE hm
  refine WL.call 54 #[.slice a0' left_0.length c0'] rfl rfl (by kernel_rfl) (c_54 n left_0 a0' c0' w100 hx109 (Rd.below h0 hb103) hle0) ?_
  rintro _ w113 ⟨a110, c111, rfl, hE114, hR115⟩
  refine ⟨_, rfl, ?_⟩
  have hb116 : Ext w w113 := Ext.trans hb103 hE114
  have hL117 : w.heap.size ≤ w113.heap.size := Nat.le_trans hL104 hE114.size
  have hS118 : SH w113 w.heap.size [aOwn fInt 2 a110 c111 x108, aOwn fInt 2 a97 c98 x95, aOwn fStr 9 a86 c87 x84, aOwn fInt 2 a75 c76 ([] : List Int)] := SH.add hS105 hE114 hL104 hR115
  refine WL.runk 2 [2, 8, 9, 35, 36, 37] [(2, .int .i64 most_2), (8, .slice a75 (([] : List Int).length) c76), (9, .slice a97 x95.length c98), (35, .slice a110 x108.length c111), (36, .int .i64 (x108.length : Int)), (37, .int .i64 0)] (by kernel_rfl) ?_
  refine WL.nil ?_
  refine WQ.then_normal (hK107 _ _ _ ?_)
  refine WP.block ?_
  obtain ⟨t133, ht134, hm⟩ := bindE hm
  have hmo128 := hm; clear hm
  refine WP.sub [(2, .int .i64 most_2), (8, .slice a75 (([] : List Int).length) c76), (9, .slice a97 x95.length c98), (35, .slice a110 x108.length c111), (36, .int .i64 (x108.length : Int)), (37, .int .i64 0)] ⟨rfl, rfl, rfl, rfl, rfl, rfl, trivial⟩ ?_
  refine WP.loop (fun n' env' w' => ∃ (st119 : List Int × Int) (a120 : Option Addr) (c121 : Nat), env' = [(2, .int .i64 most_2), (8, .slice a120 st119.1.length c121), (9, .slice a97 x95.length c98), (35, .slice a110 x108.length c111), (36, .int .i64 (x108.length : Int)), (37, .int .i64 st119.2)] ∧ Ext w w' ∧ w.heap.size ≤ w'.heap.size ∧ SH w' w.heap.size [aOwn fInt 2 a120 c121 st119.1, aOwn fInt 2 a110 c111 x108, aOwn fInt 2 a97 c98 x95, aOwn fStr 9 a86 c87 x84] ∧ loopN (m_impl_StrangeFields_l1 n most_2 x95 x108) n' st119 = some t133) n ⟨(([] : List Int), 0), _, _, rfl, hb116, hL117, (SH.front 3 (SH.front 2 (SH.front 2 (SH.front 2 hS118)))), ht134⟩ ?_
  rintro n130 _ w123 ⟨st119, a120, c121, rfl, hb124, hL125, hS126, hl127⟩ K129 hK129
  obtain ⟨n131, s132, rfl, hm, hl127⟩ := loopN_some hl127
  unfold m_impl_StrangeFields_l1 at hm
  refine WP.seq (fun K135 hK135 => ?_)
  refine WP.region ?_
  refine WL.runk 1 [2, 8, 9, 35, 36, 37, 38] [(2, .int .i64 most_2), (8, .slice a120 st119.1.length c121), (9, .slice a97 x95.length c98), (35, .slice a110 x108.length c111), (36, .int .i64 (x108.length : Int)), (37, .int .i64 st119.2), (38, .bool (decide (st119.2 < (x108.length : Int))))] (by kernel_rfl) ?_
  refine WL.nil ?_
  refine WQ.then_normal (hK135 _ _ _ ?_)
  refine WP.seq (fun K136 hK136 => ?_)
  refine WP.cond (decide (st119.2 < (x108.length : Int))) rfl rfl (fun hc137 => ?_) (fun hc137 => ?_)
  rotate_left
  · have hm := iteF hm hc137
    refine WP.exit ?_
    refine WQ.then_exit ?_
    refine WQ.then_exit ?_
    refine WQ.block_here ?_
    obtain rfl := Option.some.inj hm
    obtain rfl := afterN_done hl127
    have hm := hmo128
    refine WQ.then_normal (hK106 _ _ _ ?_)
    refine WP.seq (fun K199 hK199 => ?_)
    refine WP.region ?_
    refine WL.runk 3 [6, 7] [(6, .slice a120 st119.1.length c121), (7, .int .i64 0)] (by kernel_rfl) ?_
    refine WL.nil ?_
    refine WQ.then_normal (hK199 _ _ _ ?_)
    refine WP.ret ?_
    obtain rfl := Option.some.inj hm
    exact WQ.ret2 _ _ rfl rfl rfl ⟨_, _, rfl, hb124, (SH.take 1 hS126)⟩
  have hm := iteT hm hc137
  refine WP.skip ?_
  refine WQ.then_normal (hK136 _ _ _ ?_)
  refine WP.seq (fun K138 hK138 => ?_)
  refine WP.block ?_
  refine WP.seq (fun K139 hK139 => ?_)
  refine WP.region ?_
  refine WL.runk 1 [2, 8, 9, 35, 36, 37, 39] [(2, .int .i64 most_2), (8, .slice a120 st119.1.length c121), (9, .slice a97 x95.length c98), (35, .slice a110 x108.length c111), (36, .int .i64 (x108.length : Int)), (37, .int .i64 st119.2), (39, .int .i64 st119.2)] (by kernel_rfl) ?_
  obtain ⟨x140, hx141, hm⟩ := bindE hm
  refine WL.st (.pointer (some (at_ a110 (Int.toNat st119.2 * 1)))) (ST.index (T := fInt.ty) (xs := x108) (SH.rd (SH.front 1 hS126)) hx141 rfl rfl rfl Try.underlying40 (info2).1 (info2).2.1) rfl rfl rfl ?_
  refine WL.st (.int .i64 x140) (ST.load (cell_ext (Rd.flat (F := fInt) (SH.rd (SH.front 1 hS126)) hx141 0 rfl)) rfl rfl Try.underlying2 rfl) rfl rfl rfl ?_
  refine WL.runk 2 [2, 8, 9, 10, 11, 35, 36, 37] [(2, .int .i64 most_2), (8, .slice a120 st119.1.length c121), (9, .slice a97 x95.length c98), (35, .slice a110 x108.length c111), (36, .int .i64 (x108.length : Int)), (37, .int .i64 st119.2), (10, .int .i64 st119.2), (11, .int .i64 x140)] (by kernel_rfl) ?_
  refine WL.nil ?_
  refine WQ.then_normal (hK139 _ _ _ ?_)
  refine WP.seq (fun K142 hK142 => ?_)
  refine WP.region ?_
  refine WL.runk 3 [2, 8, 9, 10, 35, 36, 37, 42, 43, 44] [(2, .int .i64 most_2), (8, .slice a120 st119.1.length c121), (9, .slice a97 x95.length c98), (35, .slice a110 x108.length c111), (36, .int .i64 (x108.length : Int)), (37, .int .i64 st119.2), (10, .int .i64 st119.2), (42, .int .i64 x140), (43, .slice a97 x95.length c98), (44, .int .i64 st119.2)] (by kernel_rfl) ?_
  obtain ⟨x143, hx144, hm⟩ := bindE hm
  refine WL.st (.pointer (some (at_ a97 (Int.toNat st119.2 * 1)))) (ST.index (T := fInt.ty) (xs := x95) (SH.rd (SH.front 2 hS126)) hx144 rfl rfl rfl Try.underlying40 (info2).1 (info2).2.1) rfl rfl rfl ?_
  refine WL.st (.int .i64 x143) (ST.load (cell_ext (Rd.flat (F := fInt) (SH.rd (SH.front 2 hS126)) hx144 0 rfl)) rfl rfl Try.underlying2 rfl) rfl rfl rfl ?_
  obtain ⟨x145, hx146, hm⟩ := bindE hm
  refine WL.call 70 #[.int .i64 x140, .int .i64 x143] rfl rfl (by kernel_rfl) (c_70 n x140 x143 w123 hx146 ) ?_
  rintro _ w147 ⟨rfl, hE148⟩
  refine ⟨_, rfl, ?_⟩
  have hb150 : Ext w w147 := Ext.trans hb124 hE148
  have hL151 : w.heap.size ≤ w147.heap.size := Nat.le_trans hL125 hE148.size
  have hS152 : SH w147 w.heap.size [aOwn fInt 2 a120 c121 st119.1, aOwn fInt 2 a110 c111 x108, aOwn fInt 2 a97 c98 x95, aOwn fStr 9 a86 c87 x84] := SH.ext hS126 hE148
  refine WL.runk 2 [2, 8, 9, 10, 35, 36, 37, 49] [(2, .int .i64 most_2), (8, .slice a120 st119.1.length c121), (9, .slice a97 x95.length c98), (35, .slice a110 x108.length c111), (36, .int .i64 (x108.length : Int)), (37, .int .i64 st119.2), (10, .int .i64 st119.2), (49, .bool (decide (x145 > most_2)))] (by kernel_rfl) ?_
  refine WL.nil ?_
  refine WQ.then_normal (hK142 _ _ _ ?_)
  obtain ⟨x172, hx173, hm⟩ := bindE hm
  refine WP.cut (fun env' w' => ∃ (a174 : Option Addr) (c175 : Nat), env' = [(2, .int .i64 most_2), (8, .slice a174 x172.length c175), (9, .slice a97 x95.length c98), (35, .slice a110 x108.length c111), (36, .int .i64 (x108.length : Int)), (37, .int .i64 st119.2)] ∧ Ext w w' ∧ w.heap.size ≤ w'.heap.size ∧ SH w' w.heap.size [aOwn fInt 2 a174 c175 x172, aOwn fInt 2 a110 c111 x108, aOwn fInt 2 a97 c98 x95, aOwn fStr 9 a86 c87 x84]) ?_ ?_
  rotate_left
  · clear hx173
    rintro _ w195 ⟨a174, c175, rfl, hb196, hL197, hS198⟩
    refine WQ.block_normal ?_
    refine WQ.then_normal (hK138 _ _ _ ?_)
    refine WP.region ?_
    refine WL.runk 2 [2, 8, 9, 35, 36, 37] [(2, .int .i64 most_2), (8, .slice a174 x172.length c175), (9, .slice a97 x95.length c98), (35, .slice a110 x108.length c111), (36, .int .i64 (x108.length : Int)), (37, .int .i64 (wI64 (st119.2 + 1)))] (by kernel_rfl) ?_
    refine WL.nil ?_
    obtain rfl := Option.some.inj hm
    exact WQ.round hK129 ⟨(x172, (wI64 (st119.2 + 1))), _, _, rfl, hb196, hL197, hS198, hl127⟩ (Nat.lt_succ_self _) ⟨rfl, rfl, rfl, rfl, rfl, rfl, trivial⟩
  have hm := hx173; clear hx173
  refine WP.cond (decide (x145 > most_2)) rfl rfl (fun hc153 => ?_) (fun hc153 => ?_)
  rotate_left
  · have hm := iteF hm hc153
    refine WP.skip ?_
    obtain rfl := Option.some.inj hm
    exact WQ.post' ⟨_, _, rfl, hb150, hL151, hS152⟩ ⟨rfl, rfl, rfl, rfl, rfl, rfl, trivial⟩
  have hm := iteT hm hc153
  refine WP.region ?_
  refine WL.runk 2 [2, 9, 35, 36, 37, 50, 51] [(2, .int .i64 most_2), (9, .slice a97 x95.length c98), (35, .slice a110 x108.length c111), (36, .int .i64 (x108.length : Int)), (37, .int .i64 st119.2), (50, .slice a120 st119.1.length c121), (51, .int .i64 st119.2)] (by kernel_rfl) ?_
  refine WL.row fInt 2 ([st119.2] : List Int) 1 #[.int .i64 st119.2] 52 (by kernel_rfl) rfl rfl rfl rfl rfl rfl rfl ?_
  intro a177 c178 w179 hE180 hR181
  have hb183 : Ext w w179 := Ext.trans hb150 hE180
  have hL184 : w.heap.size ≤ w179.heap.size := Nat.le_trans hL151 hE180.size
  have hS185 : SH w179 w.heap.size [aOwn fInt 2 a177 c178 ([st119.2] : List Int), aOwn fInt 2 a120 c121 st119.1, aOwn fInt 2 a110 c111 x108, aOwn fInt 2 a97 c98 x95, aOwn fStr 9 a86 c87 x84] := SH.add hS152 hE180 hL151 hR181
  obtain ⟨x186, hx187, hm⟩ := bindE hm
  refine WL.append (F := fInt) (xs := st119.1) (ys := ([st119.2] : List Int)) 53 (SH.front 1 hS185) hL184 (SH.rd (SH.front 0 hS185)) hx187 rfl rfl rfl Try.underlying40 (info2).1 (info2).2.2.1 (info2).2.1 (info2).2.2.2 rfl rfl rfl rfl rfl ?_
  intro a188 c189 w190 hB191 hS192
  have hb193 : Ext w w190 := Below.trans hb183 hB191
  have hL194 : w.heap.size ≤ w190.heap.size := Nat.le_trans hL184 hB191.size
  refine WL.runk 1 [2, 8, 9, 35, 36, 37] [(2, .int .i64 most_2), (9, .slice a97 x95.length c98), (35, .slice a110 x108.length c111), (36, .int .i64 (x108.length : Int)), (37, .int .i64 st119.2), (8, .slice a188 x186.length c189)] (by kernel_rfl) ?_
  refine WL.nil ?_
  obtain rfl := Option.some.inj hm
  exact WQ.post' ⟨_, _, rfl, hb193, hL194, (SH.take 4 (SH.front 3 (SH.front 4 (SH.front 4 (SH.front 4 hS192)))))⟩ ⟨rfl, rfl, rfl, rfl, rfl, rfl, trivial⟩

theorem c_44 (n : Nat) (left_0 : List (List UInt8)) (a0' : Option Addr) (c0' : Nat) (right_1 : List (List UInt8)) (a1' : Option Addr) (c1' : Nat) (most_2 : Int) (w : World) {r : List Int × Int} (hm : m_spec_StrangeFields n left_0 right_1 most_2 = some r) (h0 : Rd fStr.ty w a0' left_0) (hle0 : left_0.length ≤ c0') (h1 : Rd fStr.ty w a1' right_1) (hle1 : right_1.length ≤ c1') :
    CallV Try.prog 44 #[.slice a0' left_0.length c0', .slice a1' right_1.length c1', .int .i64 most_2] w (fun v w' => ∃ (ra0 : Option Addr) (rc0 : Nat), v = .tuple #[.slice ra0 r.1.length rc0, .int .i64 r.2] ∧ Ext w w' ∧ SH w' w.heap.size [aOwn fInt 2 ra0 rc0 r.1]) := by
  unfold m_spec_StrangeFields at hm
  refine CallV.enter Try.func44 rfl (by kernel_rfl) Try.ntmps44 (env := [(0, .slice a0' left_0.length c0'), (1, .slice a1' right_1.length c1'), (2, .int .i64 most_2)]) ⟨rfl, rfl, rfl, trivial⟩ ?_
  refine WP.seq (fun K1 hK1 => ?_)
  refine WP.region ?_
  refine WL.runk 2 [0, 1, 2] [(0, .slice a0' left_0.length c0'), (1, .slice a1' right_1.length c1'), (2, .int .i64 most_2)] (by kernel_rfl) ?_
  refine WL.nil ?_
  refine WQ.then_normal (hK1 _ _ _ ?_)
  refine WP.seq (fun K2 hK2 => ?_)
  refine WP.region ?_
  refine WL.runk 2 [0, 1, 2, 13, 14] [(0, .slice a0' left_0.length c0'), (1, .slice a1' right_1.length c1'), (2, .int .i64 most_2), (13, .slice a0' left_0.length c0'), (14, .slice a1' right_1.length c1')] (by kernel_rfl) ?_
  obtain ⟨x3, hx4, hm⟩ := bindE hm
  refine WL.call 58 #[.slice a0' left_0.length c0', .slice a1' right_1.length c1'] rfl rfl (by kernel_rfl) (c_58 n left_0 a0' c0' right_1 a1' c1' w hx4 (Rd.below h0 (Ext.refl w)) hle0 (Rd.below h1 (Ext.refl w)) hle1) ?_
  rintro _ w5 ⟨rfl, hE6⟩
  refine ⟨_, rfl, ?_⟩
  have hb8 : Ext w w5 := Ext.trans (Ext.refl w) hE6
  have hL9 : w.heap.size ≤ w5.heap.size := Nat.le_trans (Nat.le_refl _) hE6.size
  have hS10 : SH w5 w.heap.size [] := SH.ext (SH.nil _ _) hE6
  refine WL.runk 1 [0, 1, 2, 8] [(0, .slice a0' left_0.length c0'), (1, .slice a1' right_1.length c1'), (2, .int .i64 most_2), (8, .int .i64 x3)] (by kernel_rfl) ?_
  refine WL.nil ?_
  refine WQ.then_normal (hK2 _ _ _ ?_)
  refine WP.seq (fun K11 hK11 => ?_)
  refine WP.seq (fun K12 hK12 => ?_)
  refine WP.region ?_
  refine WL.runk 2 [0, 1, 2, 8, 17] [(0, .slice a0' left_0.length c0'), (1, .slice a1' right_1.length c1'), (2, .int .i64 most_2), (8, .int .i64 x3), (17, .bool (x3 == 1))] (by kernel_rfl) ?_
  refine WL.nil ?_
  refine WQ.then_normal (hK12 _ _ _ ?_)
  refine WP.cond (x3 == 1) rfl rfl (fun hc13 => ?_) (fun hc13 => ?_)
  · have hm := iteT hm hc13
    refine WP.seq (fun K14 hK14 => ?_)
    refine WP.region ?_
    refine WL.runk 3 [6, 7] [(6, .slice none 0 0), (7, .int .i64 x3)] (by kernel_rfl) ?_
    refine WL.nil ?_
    refine WQ.then_normal (hK14 _ _ _ ?_)
    refine WP.ret ?_
    refine WQ.then_ret ?_
    obtain rfl := Option.some.inj hm
    have hS16 : SH w5 w.heap.size [aOwn fInt 2 none 0 ([] : List Int)] := SH.nilOwn hS10
    exact WQ.ret2 _ _ rfl rfl rfl ⟨_, _, rfl, hb8, hS16⟩
  have hm := iteF hm hc13
  refine WP.skip ?_
  refine WQ.then_normal (hK11 _ _ _ ?_)
  refine WP.seq (fun K17 hK17 => ?_)
  refine WP.seq (fun K18 hK18 => ?_)
  refine WP.region ?_
  refine WL.runk 1 [0, 1, 2, 8, 19] [(0, .slice a0' left_0.length c0'), (1, .slice a1' right_1.length c1'), (2, .int .i64 most_2), (8, .int .i64 x3), (19, .int .i64 most_2)] (by kernel_rfl) ?_
  obtain ⟨x19, hx20, hm⟩ := bindE hm
  refine WL.call 71 #[.int .i64 most_2, .int .i64 0, .int .i64 9] rfl rfl (by kernel_rfl) (c_71 n most_2 0 9 w5 hx20 ) ?_
  rintro _ w21 ⟨rfl, hE22⟩
  refine ⟨_, rfl, ?_⟩
  have hb24 : Ext w w21 := Ext.trans hb8 hE22
  have hL25 : w.heap.size ≤ w21.heap.size := Nat.le_trans hL9 hE22.size
  have hS26 : SH w21 w.heap.size [] := SH.ext hS10 hE22
  refine WL.runk 1 [0, 1, 2, 8, 21] [(0, .slice a0' left_0.length c0'), (1, .slice a1' right_1.length c1'), (2, .int .i64 most_2), (8, .int .i64 x3), (21, .bool (!x19))] (by kernel_rfl) ?_
  refine WL.nil ?_
  refine WQ.then_normal (hK18 _ _ _ ?_)
  refine WP.cond (!x19) rfl rfl (fun hc27 => ?_) (fun hc27 => ?_)
  · have hm := iteT hm hc27
    refine WP.seq (fun K28 hK28 => ?_)
    refine WP.region ?_
    refine WL.runk 2 [6, 7] [(6, .slice none 0 0), (7, .int .i64 2)] (by kernel_rfl) ?_
    refine WL.nil ?_
    refine WQ.then_normal (hK28 _ _ _ ?_)
    refine WP.ret ?_
    refine WQ.then_ret ?_
    obtain rfl := Option.some.inj hm
    have hS30 : SH w21 w.heap.size [aOwn fInt 2 none 0 ([] : List Int)] := SH.nilOwn hS26
    exact WQ.ret2 _ _ rfl rfl rfl ⟨_, _, rfl, hb24, hS30⟩
  have hm := iteF hm hc27
  refine WP.skip ?_
  refine WQ.then_normal (hK17 _ _ _ ?_)
  refine WP.seq (fun K31 hK31 => ?_)
  refine WP.seq (fun K32 hK32 => ?_)
  refine WP.region ?_
  refine WL.runk 2 [0, 1, 2, 8, 23] [(0, .slice a0' left_0.length c0'), (1, .slice a1' right_1.length c1'), (2, .int .i64 most_2), (8, .int .i64 x3), (23, .bool (x3 != 0))] (by kernel_rfl) ?_
  refine WL.nil ?_
  refine WQ.then_normal (hK32 _ _ _ ?_)
  refine WP.cond (x3 != 0) rfl rfl (fun hc33 => ?_) (fun hc33 => ?_)
  · have hm := iteT hm hc33
    refine WP.seq (fun K34 hK34 => ?_)
    refine WP.region ?_
    refine WL.runk 3 [6, 7] [(6, .slice none 0 0), (7, .int .i64 x3)] (by kernel_rfl) ?_
    refine WL.nil ?_
    refine WQ.then_normal (hK34 _ _ _ ?_)
    refine WP.ret ?_
    refine WQ.then_ret ?_
    obtain rfl := Option.some.inj hm
    have hS36 : SH w21 w.heap.size [aOwn fInt 2 none 0 ([] : List Int)] := SH.nilOwn hS26
    exact WQ.ret2 _ _ rfl rfl rfl ⟨_, _, rfl, hb24, hS36⟩
  have hm := iteF hm hc33
  refine WP.skip ?_
  refine WQ.then_normal (hK31 _ _ _ ?_)
  refine WP.seq (fun K37 hK37 => ?_)
  refine WP.region ?_
  refine WL.runk 1 [0, 2, 25] [(0, .slice a0' left_0.length c0'), (2, .int .i64 most_2), (25, .slice a1' right_1.length c1')] (by kernel_rfl) ?_
  obtain ⟨x38, hx39, hm⟩ := bindE hm
  refine WL.call 55 #[.slice a1' right_1.length c1'] rfl rfl (by kernel_rfl) (c_55 n right_1 a1' c1' w21 hx39 (Rd.below h1 hb24) hle1) ?_
  rintro _ w43 ⟨a40, c41, rfl, hE44, hR45⟩
  refine ⟨_, rfl, ?_⟩
  have hb46 : Ext w w43 := Ext.trans hb24 hE44
  have hL47 : w.heap.size ≤ w43.heap.size := Nat.le_trans hL25 hE44.size
  have hS48 : SH w43 w.heap.size [aOwn fStr 9 a40 c41 x38] := SH.add hS26 hE44 hL25 hR45
  refine WL.runk 1 [0, 2, 9] [(0, .slice a0' left_0.length c0'), (2, .int .i64 most_2), (9, .slice a40 x38.length c41)] (by kernel_rfl) ?_
  refine WL.nil ?_
  refine WQ.then_normal (hK37 _ _ _ ?_)
  refine WP.seq (fun K49 hK49 => ?_)
  refine WP.region ?_
  refine WL.row fInt 2 ([] : List Int) 0 #[] 27 (by kernel_rfl) rfl rfl rfl rfl rfl rfl rfl ?_
  intro a50 c51 w52 hE53 hR54
  have hb56 : Ext w w52 := Ext.trans hb46 hE53
  have hL57 : w.heap.size ≤ w52.heap.size := Nat.le_trans hL47 hE53.size
  have hS58 : SH w52 w.heap.size [aOwn fInt 2 a50 c51 ([] : List Int), aOwn fStr 9 a40 c41 x38] := SH.add hS48 hE53 hL47 hR54
  refine WL.runk 1 [0, 2, 9, 10] [(0, .slice a0' left_0.length c0'), (2, .int .i64 most_2), (9, .slice a40 x38.length c41), (10, .slice a50 (([] : List Int).length) c51)] (by kernel_rfl) ?_
  refine WL.nil ?_
  refine WQ.then_normal (hK49 _ _ _ ?_)
  refine WP.seq (fun K59 hK59 => ?_)
  refine WP.seq (fun K60 hK60 => ?_)
  refine WP.region ?_
  refine WL.runk 1 [0, 2, 9, 10, 11] [(0, .slice a0' left_0.length c0'), (2, .int .i64 most_2), (9, .slice a40 x38.length c41), (10, .slice a50 (([] : List Int).length) c51), (11, .int .i64 0)] (by kernel_rfl) ?_
  refine WL.nil ?_
  refine WQ.then_normal (hK60 _ _ _ ?_)
  refine WP.block ?_
  obtain ⟨t75, ht76, hm⟩ := bindE hm
  have hmo70 := hm; clear hm
  refine WP.sub [(0, .slice a0' left_0.length c0'), (2, .int .i64 most_2), (9, .slice a40 x38.length c41), (10, .slice a50 (([] : List Int).length) c51), (11, .int .i64 0)] ⟨rfl, rfl, rfl, rfl, rfl, trivial⟩ ?_
  refine WP.loop (fun n' env' w' => ∃ (st61 : List Int × Int) (a62 : Option Addr) (c63 : Nat), env' = [(0, .slice a0' left_0.length c0'), (2, .int .i64 most_2), (9, .slice a40 x38.length c41), (10, .slice a62 st61.1.length c63), (11, .int .i64 st61.2)] ∧ Ext w w' ∧ w.heap.size ≤ w'.heap.size ∧ SH w' w.heap.size [aOwn fInt 2 a62 c63 st61.1, aOwn fStr 9 a40 c41 x38] ∧ loopN (m_spec_StrangeFields_l1 n left_0 most_2 x38) n' st61 = some t75) n ⟨(([] : List Int), 0), _, _, rfl, hb56, hL57, hS58, ht76⟩ ?_
  rintro n72 _ w65 ⟨st61, a62, c63, rfl, hb66, hL67, hS68, hl69⟩ K71 hK71
  obtain ⟨n73, s74, rfl, hm, hl69⟩ := loopN_some hl69
  unfold m_spec_StrangeFields_l1 at hm
  refine WP.seq (fun K77 hK77 => ?_)
  refine WP.seq (fun K78 hK78 => ?_)
  refine WP.region ?_
  refine WL.runk 4 [0, 2, 9, 10, 11, 31] [(0, .slice a0' left_0.length c0'), (2, .int .i64 most_2), (9, .slice a40 x38.length c41), (10, .slice a62 st61.1.length c63), (11, .int .i64 st61.2), (31, .bool (decide (st61.2 < (left_0.length : Int))))] (by kernel_rfl) ?_
  refine WL.nil ?_
  refine WQ.then_normal (hK78 _ _ _ ?_)
  refine WP.cond (decide (st61.2 < (left_0.length : Int))) rfl rfl (fun hc79 => ?_) (fun hc79 => ?_)
  rotate_left
  · have hm := iteF hm hc79
    refine WP.exit ?_
    refine WQ.then_exit ?_
    refine WQ.then_exit ?_
    refine WQ.block_here ?_
    obtain rfl := Option.some.inj hm
    obtain rfl := afterN_done hl69
    have hm := hmo70
    refine WQ.then_normal (hK59 _ _ _ ?_)
    refine WP.seq (fun K183 hK183 => ?_)
    refine WP.region ?_
    refine WL.runk 3 [6, 7] [(6, .slice a62 st61.1.length c63), (7, .int .i64 0)] (by kernel_rfl) ?_
    refine WL.nil ?_
    refine WQ.then_normal (hK183 _ _ _ ?_)
    refine WP.ret ?_
    obtain rfl := Option.some.inj hm
    exact WQ.ret2 _ _ rfl rfl rfl ⟨_, _, rfl, hb66, (SH.take 1 hS68)⟩
  have hm := iteT hm hc79
  refine WP.skip ?_
  refine WQ.then_normal (hK77 _ _ _ ?_)
  refine WP.seq (fun K80 hK80 => ?_)
  refine WP.block ?_
  refine WP.seq (fun K81 hK81 => ?_)
  refine WP.region ?_
  refine WL.runk 1 [0, 2, 9, 10, 11, 12] [(0, .slice a0' left_0.length c0'), (2, .int .i64 most_2), (9, .slice a40 x38.length c41), (10, .slice a62 st61.1.length c63), (11, .int .i64 st61.2), (12, .int .i64 0)] (by kernel_rfl) ?_
  refine WL.nil ?_
  refine WQ.then_normal (hK81 _ _ _ ?_)
  refine WP.block ?_
  obtain ⟨t96, ht97, hm⟩ := bindE hm
  have hmo91 := hm; clear hm
  refine WP.sub [(0, .slice a0' left_0.length c0'), (2, .int .i64 most_2), (9, .slice a40 x38.length c41), (10, .slice a62 st61.1.length c63), (11, .int .i64 st61.2), (12, .int .i64 0)] ⟨rfl, rfl, rfl, rfl, rfl, rfl, trivial⟩ ?_
  refine WP.loop (fun n' env' w' => ∃ (st82 : List Int × Int) (a83 : Option Addr) (c84 : Nat), env' = [(0, .slice a0' left_0.length c0'), (2, .int .i64 most_2), (9, .slice a40 x38.length c41), (10, .slice a83 st82.1.length c84), (11, .int .i64 st61.2), (12, .int .i64 st82.2)] ∧ Ext w w' ∧ w.heap.size ≤ w'.heap.size ∧ SH w' w.heap.size [aOwn fInt 2 a83 c84 st82.1, aOwn fStr 9 a40 c41 x38] ∧ loopN (m_spec_StrangeFields_l2 n left_0 most_2 x38 st61) n' st82 = some t96) n ⟨(st61.1, 0), _, _, rfl, hb66, hL67, hS68, ht97⟩ ?_
  rintro n93 _ w86 ⟨st82, a83, c84, rfl, hb87, hL88, hS89, hl90⟩ K92 hK92
  obtain ⟨n94, s95, rfl, hm, hl90⟩ := loopN_some hl90
  unfold m_spec_StrangeFields_l2 at hm
  refine WP.seq (fun K98 hK98 => ?_)
  refine WP.seq (fun K99 hK99 => ?_)
  refine WP.region ?_
  refine WL.runk 3 [0, 2, 9, 10, 11, 12, 34, 35, 36] [(0, .slice a0' left_0.length c0'), (2, .int .i64 most_2), (9, .slice a40 x38.length c41), (10, .slice a83 st82.1.length c84), (11, .int .i64 st61.2), (12, .int .i64 st82.2), (34, .int .i64 st82.2), (35, .slice a0' left_0.length c0'), (36, .int .i64 st61.2)] (by kernel_rfl) ?_
  obtain ⟨x100, hx101, hm⟩ := bindE hm
  refine WL.st (.pointer (some (at_ a0' (Int.toNat st61.2 * 1)))) (ST.index (T := fStr.ty) (xs := left_0) (Rd.below h0 hb87) hx101 rfl rfl rfl Try.underlying22 (info9).1 (info9).2.1) rfl rfl rfl ?_
  refine WL.st (.string (bs x100)) (ST.load (cell_ext (Rd.flat (F := fStr) (Rd.below h0 hb87) hx101 0 rfl)) rfl rfl Try.underlying9 rfl) rfl rfl rfl ?_
  refine WL.runk 2 [0, 2, 9, 10, 11, 12, 40] [(0, .slice a0' left_0.length c0'), (2, .int .i64 most_2), (9, .slice a40 x38.length c41), (10, .slice a83 st82.1.length c84), (11, .int .i64 st61.2), (12, .int .i64 st82.2), (40, .bool (decide (st82.2 < (x100.length : Int))))] (by kernel_rfl) ?_
  refine WL.nil ?_
  refine WQ.then_normal (hK99 _ _ _ ?_)
  refine WP.cond (decide (st82.2 < (x100.length : Int))) rfl rfl (fun hc102 => ?_) (fun hc102 => ?_)
  rotate_left
  · have hm := iteF hm hc102
    refine WP.exit ?_
    refine WQ.then_exit ?_
    refine WQ.then_exit ?_
    refine WQ.block_here ?_
    obtain rfl := Option.some.inj hm
    obtain rfl := afterN_done hl90
    have hm := hmo91
    refine WQ.block_normal ?_
    refine WQ.then_normal (hK80 _ _ _ ?_)
    refine WP.region ?_
    refine WL.runk 3 [0, 2, 9, 10, 11] [(0, .slice a0' left_0.length c0'), (2, .int .i64 most_2), (9, .slice a40 x38.length c41), (10, .slice a83 st82.1.length c84), (11, .int .i64 (wI64 (st61.2 + 1)))] (by kernel_rfl) ?_
    refine WL.nil ?_
    obtain rfl := Option.some.inj hm
    exact WQ.round hK71 ⟨(st82.1, (wI64 (st61.2 + 1))), _, _, rfl, hb87, hL88, hS89, hl69⟩ (Nat.lt_succ_self _) ⟨rfl, rfl, rfl, rfl, rfl, trivial⟩
  have hm := iteT hm hc102
  refine WP.skip ?_
  refine WQ.then_normal (hK98 _ _ _ ?_)
  refine WP.seq (fun K103 hK103 => ?_)
  refine WP.block ?_
  refine WP.seq (fun K104 hK104 => ?_)
  refine WP.region ?_
  refine WL.runk 3 [0, 2, 9, 10, 11, 12, 43, 44, 45] [(0, .slice a0' left_0.length c0'), (2, .int .i64 most_2), (9, .slice a40 x38.length c41), (10, .slice a83 st82.1.length c84), (11, .int .i64 st61.2), (12, .int .i64 st82.2), (43, .slice a0' left_0.length c0'), (44, .int .i64 st61.2), (45, .int .i64 st82.2)] (by kernel_rfl) ?_
  obtain ⟨x105, hx106, hm⟩ := bindE hm
  refine WL.call 52 #[.slice a0' left_0.length c0', .int .i64 st61.2, .int .i64 st82.2] rfl rfl (by kernel_rfl) (c_52 n left_0 a0' c0' st61.2 st82.2 w86 hx106 (Rd.below h0 hb87) hle0) ?_
  rintro _ w107 ⟨rfl, hE108⟩
  refine ⟨_, rfl, ?_⟩
  have hb110 : Ext w w107 := Ext.trans hb87 hE108
  have hL111 : w.heap.size ≤ w107.heap.size := Nat.le_trans hL88 hE108.size
  have hS112 : SH w107 w.heap.size [aOwn fInt 2 a83 c84 st82.1, aOwn fStr 9 a40 c41 x38] := SH.ext hS89 hE108
  refine WL.runk 3 [0, 2, 9, 10, 11, 12, 46, 47, 48, 49] [(0, .slice a0' left_0.length c0'), (2, .int .i64 most_2), (9, .slice a40 x38.length c41), (10, .slice a83 st82.1.length c84), (11, .int .i64 st61.2), (12, .int .i64 st82.2), (46, .int .i64 x105), (47, .slice a40 x38.length c41), (48, .int .i64 st61.2), (49, .int .i64 st82.2)] (by kernel_rfl) ?_
  obtain ⟨x113, hx114, hm⟩ := bindE hm
  refine WL.call 52 #[.slice a40 x38.length c41, .int .i64 st61.2, .int .i64 st82.2] rfl rfl (by kernel_rfl) (c_52 n x38 a40 c41 st61.2 st82.2 w107 hx114 (SH.rd (SH.front 1 hS112)) (SH.le (SH.front 1 hS112)).1) ?_
  rintro _ w115 ⟨rfl, hE116⟩
  refine ⟨_, rfl, ?_⟩
  have hb118 : Ext w w115 := Ext.trans hb110 hE116
  have hL119 : w.heap.size ≤ w115.heap.size := Nat.le_trans hL111 hE116.size
  have hS120 : SH w115 w.heap.size [aOwn fInt 2 a83 c84 st82.1, aOwn fStr 9 a40 c41 x38] := SH.ext hS112 hE116
  refine WL.runk 1 [0, 2, 9, 10, 11, 12, 51] [(0, .slice a0' left_0.length c0'), (2, .int .i64 most_2), (9, .slice a40 x38.length c41), (10, .slice a83 st82.1.length c84), (11, .int .i64 st61.2), (12, .int .i64 st82.2), (51, .int .i64 (wI64 (x105 - x113)))] (by kernel_rfl) ?_
  obtain ⟨x121, hx122, hm⟩ := bindE hm
  refine WL.call 72 #[.int .i64 (wI64 (x105 - x113))] rfl rfl (by kernel_rfl) (c_72 n (wI64 (x105 - x113)) w115 hx122 ) ?_
  rintro _ w123 ⟨rfl, hE124⟩
  refine ⟨_, rfl, ?_⟩
  have hb126 : Ext w w123 := Ext.trans hb118 hE124
  have hL127 : w.heap.size ≤ w123.heap.size := Nat.le_trans hL119 hE124.size
  have hS128 : SH w123 w.heap.size [aOwn fInt 2 a83 c84 st82.1, aOwn fStr 9 a40 c41 x38] := SH.ext hS120 hE124
  refine WL.runk 2 [0, 2, 9, 10, 11, 12, 54] [(0, .slice a0' left_0.length c0'), (2, .int .i64 most_2), (9, .slice a40 x38.length c41), (10, .slice a83 st82.1.length c84), (11, .int .i64 st61.2), (12, .int .i64 st82.2), (54, .bool (decide (x121 > most_2)))] (by kernel_rfl) ?_
  refine WL.nil ?_
  refine WQ.then_normal (hK104 _ _ _ ?_)
  obtain ⟨x150, hx151, hm⟩ := bindE hm
  refine WP.cut (fun env' w' => ∃ (a152 : Option Addr) (c153 : Nat), env' = [(0, .slice a0' left_0.length c0'), (2, .int .i64 most_2), (9, .slice a40 x38.length c41), (10, .slice a152 x150.length c153), (11, .int .i64 st61.2), (12, .int .i64 st82.2)] ∧ Ext w w' ∧ w.heap.size ≤ w'.heap.size ∧ SH w' w.heap.size [aOwn fInt 2 a152 c153 x150, aOwn fStr 9 a40 c41 x38]) ?_ ?_
  rotate_left
  · clear hx151
    rintro _ w175 ⟨a152, c153, rfl, hb176, hL177, hS178⟩
    refine WQ.block_normal ?_
    refine WQ.then_normal (hK103 _ _ _ ?_)
    refine WP.region ?_
    refine WL.runk 3 [0, 2, 9, 10, 11, 12] [(0, .slice a0' left_0.length c0'), (2, .int .i64 most_2), (9, .slice a40 x38.length c41), (10, .slice a152 x150.length c153), (11, .int .i64 st61.2), (12, .int .i64 (wI64 (st82.2 + 1)))] (by kernel_rfl) ?_
    refine WL.nil ?_
    obtain rfl := Option.some.inj hm
    exact WQ.round hK92 ⟨(x150, (wI64 (st82.2 + 1))), _, _, rfl, hb176, hL177, hS178, hl90⟩ (Nat.lt_succ_self _) ⟨rfl, rfl, rfl, rfl, rfl, rfl, trivial⟩
  have hm := hx151; clear hx151
  refine WP.cond (decide (x121 > most_2)) rfl rfl (fun hc129 => ?_) (fun hc129 => ?_)
  rotate_left
  · have hm := iteF hm hc129
    refine WP.skip ?_
    obtain rfl := Option.some.inj hm
    exact WQ.post' ⟨_, _, rfl, hb126, hL127, hS128⟩ ⟨rfl, rfl, rfl, rfl, rfl, rfl, trivial⟩
  have hm := iteT hm hc129
  refine WP.region ?_
  refine WL.runk 4 [0, 2, 9, 11, 12, 55, 56, 57, 58] [(0, .slice a0' left_0.length c0'), (2, .int .i64 most_2), (9, .slice a40 x38.length c41), (11, .int .i64 st61.2), (12, .int .i64 st82.2), (55, .slice a83 st82.1.length c84), (56, .int .i64 st61.2), (57, .slice a0' left_0.length c0'), (58, .int .i64 st61.2)] (by kernel_rfl) ?_
  obtain ⟨x155, hx156, hm⟩ := bindE hm
  refine WL.st (.pointer (some (at_ a0' (Int.toNat st61.2 * 1)))) (ST.index (T := fStr.ty) (xs := left_0) (Rd.below h0 hb126) hx156 rfl rfl rfl Try.underlying22 (info9).1 (info9).2.1) rfl rfl rfl ?_
  refine WL.st (.string (bs x155)) (ST.load (cell_ext (Rd.flat (F := fStr) (Rd.below h0 hb126) hx156 0 rfl)) rfl rfl Try.underlying9 rfl) rfl rfl rfl ?_
  refine WL.runk 4 [0, 2, 9, 11, 12, 55, 64] [(0, .slice a0' left_0.length c0'), (2, .int .i64 most_2), (9, .slice a40 x38.length c41), (11, .int .i64 st61.2), (12, .int .i64 st82.2), (55, .slice a83 st82.1.length c84), (64, .int .i64 (wI64 ((wI64 (st61.2 * (x155.length : Int))) + st82.2)))] (by kernel_rfl) ?_
  refine WL.row fInt 2 ([(wI64 ((wI64 (st61.2 * (x155.length : Int))) + st82.2))] : List Int) 1 #[.int .i64 (wI64 ((wI64 (st61.2 * (x155.length : Int))) + st82.2))] 65 (by kernel_rfl) rfl rfl rfl rfl rfl rfl rfl ?_
  intro a157 c158 w159 hE160 hR161
  have hb163 : Ext w w159 := Ext.trans hb126 hE160
  have hL164 : w.heap.size ≤ w159.heap.size := Nat.le_trans hL127 hE160.size
  have hS165 : SH w159 w.heap.size [aOwn fInt 2 a157 c158 ([(wI64 ((wI64 (st61.2 * (x155.length : Int))) + st82.2))] : List Int), aOwn fInt 2 a83 c84 st82.1, aOwn fStr 9 a40 c41 x38] := SH.add hS128 hE160 hL127 hR161
  obtain ⟨x166, hx167, hm⟩ := bindE hm
  refine WL.append (F := fInt) (xs := st82.1) (ys := ([(wI64 ((wI64 (st61.2 * (x155.length : Int))) + st82.2))] : List Int)) 66 (SH.front 1 hS165) hL164 (SH.rd (SH.front 0 hS165)) hx167 rfl rfl rfl Try.underlying40 (info2).1 (info2).2.2.1 (info2).2.1 (info2).2.2.2 rfl rfl rfl rfl rfl ?_
  intro a168 c169 w170 hB171 hS172
  have hb173 : Ext w w170 := Below.trans hb163 hB171
  have hL174 : w.heap.size ≤ w170.heap.size := Nat.le_trans hL164 hB171.size
  refine WL.runk 1 [0, 2, 9, 10, 11, 12] [(0, .slice a0' left_0.length c0'), (2, .int .i64 most_2), (9, .slice a40 x38.length c41), (11, .int .i64 st61.2), (12, .int .i64 st82.2), (10, .slice a168 x166.length c169)] (by kernel_rfl) ?_
  refine WL.nil ?_
  obtain rfl := Option.some.inj hm
  exact WQ.post' ⟨_, _, rfl, hb173, hL174, (SH.take 2 (SH.front 1 (SH.front 2 hS172)))⟩ ⟨rfl, rfl, rfl, rfl, rfl, rfl, trivial⟩

theorem c_12 (n : Nat) (aLeft_0 : List (List UInt8)) (a0' : Option Addr) (c0' : Nat) (aRight_1 : List (List UInt8)) (a1' : Option Addr) (c1' : Nat) (aMost_2 : Int) (w : World) {r : Bool} (hm : m_laws_FnExactStrangeFields n aLeft_0 aRight_1 aMost_2 = some r) (h0 : Rd fStr.ty w a0' aLeft_0) (hle0 : aLeft_0.length ≤ c0') (h1 : Rd fStr.ty w a1' aRight_1) (hle1 : aRight_1.length ≤ c1') :
    CallV Try.prog 12 #[.slice a0' aLeft_0.length c0', .slice a1' aRight_1.length c1', .int .i64 aMost_2] w (fun v w' => v = .bool r ∧ Ext w w') := by
  unfold m_laws_FnExactStrangeFields at hm
  refine CallV.enter Try.func12 rfl (by kernel_rfl) Try.ntmps12 (env := [(0, .slice a0' aLeft_0.length c0'), (1, .slice a1' aRight_1.length c1'), (2, .int .i64 aMost_2)]) ⟨rfl, rfl, rfl, trivial⟩ ?_
  refine WP.seq (fun K1 hK1 => ?_)
  refine WP.region ?_
  refine WL.runk 1 [0, 1, 2] [(0, .slice a0' aLeft_0.length c0'), (1, .slice a1' aRight_1.length c1'), (2, .int .i64 aMost_2)] (by kernel_rfl) ?_
  refine WL.nil ?_
  refine WQ.then_normal (hK1 _ _ _ ?_)
  refine WP.seq (fun K2 hK2 => ?_)
  refine WP.region ?_
  refine WL.runk 1 [0, 1, 2, 7] [(0, .slice a0' aLeft_0.length c0'), (1, .slice a1' aRight_1.length c1'), (2, .int .i64 aMost_2), (7, .int .i64 1048576)] (by kernel_rfl) ?_
  refine WL.nil ?_
  refine WQ.then_normal (hK2 _ _ _ ?_)
  refine WP.seq (fun K3 hK3 => ?_)
  refine WP.region ?_
  refine WL.runk 2 [0, 1, 2, 19, 20] [(0, .slice a0' aLeft_0.length c0'), (1, .slice a1' aRight_1.length c1'), (2, .int .i64 aMost_2), (19, .slice a0' aLeft_0.length c0'), (20, .int .i64 1048576)] (by kernel_rfl) ?_
  obtain ⟨x4, hx5, hm⟩ := bindE hm
  refine WL.call 15 #[.slice a0' aLeft_0.length c0', .int .i64 1048576] rfl rfl (by kernel_rfl) (c_15 n aLeft_0 a0' c0' 1048576 w hx5 (Rd.below h0 (Ext.refl w)) hle0) ?_
  rintro _ w6 ⟨rfl, hE7⟩
  refine ⟨_, rfl, ?_⟩
  have hb9 : Ext w w6 := Ext.trans (Ext.refl w) hE7
  have hL10 : w.heap.size ≤ w6.heap.size := Nat.le_trans (Nat.le_refl _) hE7.size
  have hS11 : SH w6 w.heap.size [] := SH.ext (SH.nil _ _) hE7
  refine WL.runk 1 [0, 1, 2, 7] [(0, .slice a0' aLeft_0.length c0'), (1, .slice a1' aRight_1.length c1'), (2, .int .i64 aMost_2), (7, .int .i64 x4)] (by kernel_rfl) ?_
  refine WL.nil ?_
  refine WQ.then_normal (hK3 _ _ _ ?_)
  refine WP.seq (fun K12 hK12 => ?_)
  refine WP.seq (fun K13 hK13 => ?_)
  refine WP.region ?_
  refine WL.runk 2 [0, 1, 2, 7, 23] [(0, .slice a0' aLeft_0.length c0'), (1, .slice a1' aRight_1.length c1'), (2, .int .i64 aMost_2), (7, .int .i64 x4), (23, .bool (decide (x4 < 0)))] (by kernel_rfl) ?_
  refine WL.nil ?_
  refine WQ.then_normal (hK13 _ _ _ ?_)
  refine WP.cond (decide (x4 < 0)) rfl rfl (fun hc14 => ?_) (fun hc14 => ?_)
  · have hm := iteT hm hc14
    refine WP.seq (fun K15 hK15 => ?_)
    refine WP.region ?_
    refine WL.runk 1 [6] [(6, .bool true)] (by kernel_rfl) ?_
    refine WL.nil ?_
    refine WQ.then_normal (hK15 _ _ _ ?_)
    refine WP.ret ?_
    refine WQ.then_ret ?_
    obtain rfl := Option.some.inj hm
    exact WQ.ret1 _ rfl rfl ⟨rfl, hb9⟩
  have hm := iteF hm hc14
  refine WP.skip ?_
  refine WQ.then_normal (hK12 _ _ _ ?_)
  refine WP.seq (fun K16 hK16 => ?_)
  refine WP.region ?_
  refine WL.runk 2 [0, 1, 2, 24, 25] [(0, .slice a0' aLeft_0.length c0'), (1, .slice a1' aRight_1.length c1'), (2, .int .i64 aMost_2), (24, .slice a1' aRight_1.length c1'), (25, .int .i64 x4)] (by kernel_rfl) ?_
  obtain ⟨x17, hx18, hm⟩ := bindE hm
  refine WL.call 15 #[.slice a1' aRight_1.length c1', .int .i64 x4] rfl rfl (by kernel_rfl) (c_15 n aRight_1 a1' c1' x4 w6 hx18 (Rd.below h1 hb9) hle1) ?_
  rintro _ w19 ⟨rfl, hE20⟩
  refine ⟨_, rfl, ?_⟩
  have hb22 : Ext w w19 := Ext.trans hb9 hE20
  have hL23 : w.heap.size ≤ w19.heap.size := Nat.le_trans hL10 hE20.size
  have hS24 : SH w19 w.heap.size [] := SH.ext hS11 hE20
  refine WL.runk 1 [0, 1, 2, 7] [(0, .slice a0' aLeft_0.length c0'), (1, .slice a1' aRight_1.length c1'), (2, .int .i64 aMost_2), (7, .int .i64 x17)] (by kernel_rfl) ?_
  refine WL.nil ?_
  refine WQ.then_normal (hK16 _ _ _ ?_)
  refine WP.seq (fun K25 hK25 => ?_)
  refine WP.seq (fun K26 hK26 => ?_)
  refine WP.region ?_
  refine WL.runk 2 [0, 1, 2, 28] [(0, .slice a0' aLeft_0.length c0'), (1, .slice a1' aRight_1.length c1'), (2, .int .i64 aMost_2), (28, .bool (decide (x17 < 0)))] (by kernel_rfl) ?_
  refine WL.nil ?_
  refine WQ.then_normal (hK26 _ _ _ ?_)
  refine WP.cond (decide (x17 < 0)) rfl rfl (fun hc27 => ?_) (fun hc27 => ?_)
  · have hm := iteT hm hc27
    refine WP.seq (fun K28 hK28 => ?_)
    refine WP.region ?_
    refine WL.runk 1 [6] [(6, .bool true)] (by kernel_rfl) ?_
    refine WL.nil ?_
    refine WQ.then_normal (hK28 _ _ _ ?_)
    refine WP.ret ?_
    refine WQ.then_ret ?_
    obtain rfl := Option.some.inj hm
    exact WQ.ret1 _ rfl rfl ⟨rfl, hb22⟩
  have hm := iteF hm hc27
  refine WP.skip ?_
  refine WQ.then_normal (hK25 _ _ _ ?_)
  refine WP.seq (fun K29 hK29 => ?_)
  refine WP.region ?_
  refine WL.runk 1 [0, 1, 2, 30] [(0, .slice a0' aLeft_0.length c0'), (1, .slice a1' aRight_1.length c1'), (2, .int .i64 aMost_2), (30, .slice a0' aLeft_0.length c0')] (by kernel_rfl) ?_
  obtain ⟨x30, hx31, hm⟩ := bindE hm
  refine WL.call 17 #[.slice a0' aLeft_0.length c0'] rfl rfl (by kernel_rfl) (c_17 n aLeft_0 a0' c0' w19 hx31 (Rd.below h0 hb22) hle0) ?_
  rintro _ w35 ⟨a32, c33, rfl, hE36, hR37⟩
  refine ⟨_, rfl, ?_⟩
  have hb38 : Ext w w35 := Ext.trans hb22 hE36
  have hL39 : w.heap.size ≤ w35.heap.size := Nat.le_trans hL23 hE36.size
  have hS40 : SH w35 w.heap.size [aOwn fStr 9 a32 c33 x30] := SH.add hS24 hE36 hL23 hR37
  refine WL.runk 1 [0, 1, 2, 31, 32] [(0, .slice a0' aLeft_0.length c0'), (1, .slice a1' aRight_1.length c1'), (2, .int .i64 aMost_2), (31, .slice a32 x30.length c33), (32, .slice a1' aRight_1.length c1')] (by kernel_rfl) ?_
  obtain ⟨x41, hx42, hm⟩ := bindE hm
  refine WL.call 17 #[.slice a1' aRight_1.length c1'] rfl rfl (by kernel_rfl) (c_17 n aRight_1 a1' c1' w35 hx42 (Rd.below h1 hb38) hle1) ?_
  rintro _ w46 ⟨a43, c44, rfl, hE47, hR48⟩
  refine ⟨_, rfl, ?_⟩
  have hb49 : Ext w w46 := Ext.trans hb38 hE47
  have hL50 : w.heap.size ≤ w46.heap.size := Nat.le_trans hL39 hE47.size
  have hS51 : SH w46 w.heap.size [aOwn fStr 9 a43 c44 x41, aOwn fStr 9 a32 c33 x30] := SH.add hS40 hE47 hL39 hR48
  refine WL.runk 1 [0, 1, 2, 31, 33, 34] [(0, .slice a0' aLeft_0.length c0'), (1, .slice a1' aRight_1.length c1'), (2, .int .i64 aMost_2), (31, .slice a32 x30.length c33), (33, .slice a43 x41.length c44), (34, .int .i64 aMost_2)] (by kernel_rfl) ?_
  obtain ⟨x52, hx53, hm⟩ := bindE hm
  refine WL.call 44 #[.slice a32 x30.length c33, .slice a43 x41.length c44, .int .i64 aMost_2] rfl rfl (by kernel_rfl) (c_44 n x30 a32 c33 x41 a43 c44 aMost_2 w46 hx53 (SH.rd (SH.front 1 hS51)) (SH.le (SH.front 1 hS51)).1 (SH.rd (SH.front 0 hS51)) (SH.le (SH.front 0 hS51)).1) ?_
  rintro _ w57 ⟨a54, c55, rfl, hE58, hR59⟩
  refine ⟨_, rfl, ?_⟩
  have hb60 : Ext w w57 := Ext.trans hb49 hE58
  have hL61 : w.heap.size ≤ w57.heap.size := Nat.le_trans hL50 hE58.size
  have hS62 : SH w57 w.heap.size [aOwn fInt 2 a54 c55 x52.1, aOwn fStr 9 a43 c44 x41, aOwn fStr 9 a32 c33 x30] := SH.add hS51 hE58 hL50 hR59
  refine WL.runk 5 [0, 1, 2, 8, 9] [(0, .slice a0' aLeft_0.length c0'), (1, .slice a1' aRight_1.length c1'), (2, .int .i64 aMost_2), (8, .slice a54 x52.1.length c55), (9, .int .i64 x52.2)] (by kernel_rfl) ?_
  refine WL.nil ?_
  refine WQ.then_normal (hK29 _ _ _ ?_)
  refine WP.seq (fun K63 hK63 => ?_)
  refine WP.region ?_
  refine WL.runk 1 [0, 1, 2, 8, 9, 38] [(0, .slice a0' aLeft_0.length c0'), (1, .slice a1' aRight_1.length c1'), (2, .int .i64 aMost_2), (8, .slice a54 x52.1.length c55), (9, .int .i64 x52.2), (38, .slice a0' aLeft_0.length c0')] (by kernel_rfl) ?_
  obtain ⟨x64, hx65, hm⟩ := bindE hm
  refine WL.call 17 #[.slice a0' aLeft_0.length c0'] rfl rfl (by kernel_rfl) (c_17 n aLeft_0 a0' c0' w57 hx65 (Rd.below h0 hb60) hle0) ?_
  rintro _ w69 ⟨a66, c67, rfl, hE70, hR71⟩
  refine ⟨_, rfl, ?_⟩
  have hb72 : Ext w w69 := Ext.trans hb60 hE70
  have hL73 : w.heap.size ≤ w69.heap.size := Nat.le_trans hL61 hE70.size
  have hS74 : SH w69 w.heap.size [aOwn fStr 9 a66 c67 x64, aOwn fInt 2 a54 c55 x52.1, aOwn fStr 9 a43 c44 x41, aOwn fStr 9 a32 c33 x30] := SH.add hS62 hE70 hL61 hR71
  refine WL.runk 1 [0, 1, 2, 8, 9, 10] [(0, .slice a0' aLeft_0.length c0'), (1, .slice a1' aRight_1.length c1'), (2, .int .i64 aMost_2), (8, .slice a54 x52.1.length c55), (9, .int .i64 x52.2), (10, .slice a66 x64.length c67)] (by kernel_rfl) ?_
  refine WL.nil ?_
  refine WQ.then_normal (hK63 _ _ _ ?_)
  refine WP.seq (fun K75 hK75 => ?_)
  refine WP.region ?_
  refine WL.runk 1 [0, 1, 2, 8, 9, 10, 40] [(0, .slice a0' aLeft_0.length c0'), (1, .slice a1' aRight_1.length c1'), (2, .int .i64 aMost_2), (8, .slice a54 x52.1.length c55), (9, .int .i64 x52.2), (10, .slice a66 x64.length c67), (40, .slice a1' aRight_1.length c1')] (by kernel_rfl) ?_
  obtain ⟨x76, hx77, hm⟩ := bindE hm
  refine WL.call 17 #[.slice a1' aRight_1.length c1'] rfl rfl (by kernel_rfl) (c_17 n aRight_1 a1' c1' w69 hx77 (Rd.below h1 hb72) hle1) ?_
  rintro _ w81 ⟨a78, c79, rfl, hE82, hR83⟩
  refine ⟨_, rfl, ?_⟩
  have hb84 : Ext w w81 := Ext.trans hb72 hE82
  have hL85 : w.heap.size ≤ w81.heap.size := Nat.le_trans hL73 hE82.size
  have hS86 : SH w81 w.heap.size [aOwn fStr 9 a78 c79 x76, aOwn fStr 9 a66 c67 x64, aOwn fInt 2 a54 c55 x52.1, aOwn fStr 9 a43 c44 x41, aOwn fStr 9 a32 c33 x30] := SH.add hS74 hE82 hL73 hR83
  refine WL.runk 1 [0, 1, 2, 8, 9, 10, 11] [(0, .slice a0' aLeft_0.length c0'), (1, .slice a1' aRight_1.length c1'), (2, .int .i64 aMost_2), (8, .slice a54 x52.1.length c55), (9, .int .i64 x52.2), (10, .slice a66 x64.length c67), (11, .slice a78 x76.length c79)] (by kernel_rfl) ?_
  refine WL.nil ?_
  refine WQ.then_normal (hK75 _ _ _ ?_)
  refine WP.seq (fun K87 hK87 => ?_)
  refine WP.region ?_
  refine WL.runk 3 [0, 1, 2, 8, 9, 10, 11, 43, 44, 45] [(0, .slice a0' aLeft_0.length c0'), (1, .slice a1' aRight_1.length c1'), (2, .int .i64 aMost_2), (8, .slice a54 x52.1.length c55), (9, .int .i64 x52.2), (10, .slice a66 x64.length c67), (11, .slice a78 x76.length c79), (43, .slice a66 x64.length c67), (44, .slice a78 x76.length c79), (45, .int .i64 aMost_2)] (by kernel_rfl) ?_
  obtain ⟨x88, hx89, hm⟩ := bindE hm
  refine WL.call 42 #[.slice a66 x64.length c67, .slice a78 x76.length c79, .int .i64 aMost_2] rfl rfl (by kernel_rfl) (c_42 n x64 a66 c67 x76 a78 c79 aMost_2 w81 hx89 (SH.rd (SH.front 1 hS86)) (SH.le (SH.front 1 hS86)).1 (SH.rd (SH.front 0 hS86)) (SH.le (SH.front 0 hS86)).1) ?_
  rintro _ w93 ⟨a90, c91, rfl, hE94, hR95⟩
  refine ⟨_, rfl, ?_⟩
  have hb96 : Ext w w93 := Ext.trans hb84 hE94
  have hL97 : w.heap.size ≤ w93.heap.size := Nat.le_trans hL85 hE94.size
  have hS98 : SH w93 w.heap.size [aOwn fInt 2 a90 c91 x88.1, aOwn fStr 9 a78 c79 x76, aOwn fStr 9 a66 c67 x64, aOwn fInt 2 a54 c55 x52.1, aOwn fStr 9 a43 c44 x41, aOwn fStr 9 a32 c33 x30] := SH.add hS86 hE94 hL85 hR95
  refine WL.runk 5 [0, 1, 2, 8, 9, 10, 11, 12, 13] [(0, .slice a0' aLeft_0.length c0'), (1, .slice a1' aRight_1.length c1'), (2, .int .i64 aMost_2), (8, .slice a54 x52.1.length c55), (9, .int .i64 x52.2), (10, .slice a66 x64.length c67), (11, .slice a78 x76.length c79), (12, .slice a90 x88.1.length c91), (13, .int .i64 x88.2)] (by kernel_rfl) ?_
  refine WL.nil ?_
  refine WQ.then_normal (hK87 _ _ _ ?_)
  refine WP.seq (fun K99 hK99 => ?_)
  refine WP.seq (fun K100 hK100 => ?_)
  obtain ⟨x110, hx111, hm⟩ := bindE hm
  refine WP.cut (fun env' w' => env' = [(0, .slice a0' aLeft_0.length c0'), (1, .slice a1' aRight_1.length c1'), (2, .int .i64 aMost_2), (8, .slice a54 x52.1.length c55), (9, .int .i64 x52.2), (10, .slice a66 x64.length c67), (11, .slice a78 x76.length c79), (12, .slice a90 x88.1.length c91), (13, .int .i64 x88.2), (57, .bool x110)] ∧ Ext w w' ∧ w.heap.size ≤ w'.heap.size ∧ SH w' w.heap.size [aOwn fInt 2 a90 c91 x88.1, aOwn fStr 9 a78 c79 x76, aOwn fStr 9 a66 c67 x64, aOwn fInt 2 a54 c55 x52.1, aOwn fStr 9 a43 c44 x41, aOwn fStr 9 a32 c33 x30]) ?_ ?_
  · have hm := hx111; clear hx111
    refine WP.region ?_
    refine WL.runk 2 [0, 1, 2, 8, 9, 10, 11, 12, 13, 49, 50] [(0, .slice a0' aLeft_0.length c0'), (1, .slice a1' aRight_1.length c1'), (2, .int .i64 aMost_2), (8, .slice a54 x52.1.length c55), (9, .int .i64 x52.2), (10, .slice a66 x64.length c67), (11, .slice a78 x76.length c79), (12, .slice a90 x88.1.length c91), (13, .int .i64 x88.2), (49, .slice a90 x88.1.length c91), (50, .slice a54 x52.1.length c55)] (by kernel_rfl) ?_
    obtain ⟨x112, hx113, hm⟩ := bindE hm
    refine WL.call 35 #[.slice a90 x88.1.length c91, .slice a54 x52.1.length c55] rfl rfl (by kernel_rfl) (c_35 n x88.1 a90 c91 x52.1 a54 c55 w93 hx113 (SH.rd (SH.front 0 hS98)) (SH.le (SH.front 0 hS98)).1 (SH.rd (SH.front 3 hS98)) (SH.le (SH.front 3 hS98)).1) ?_
    rintro _ w114 ⟨rfl, hE115⟩
    refine ⟨_, rfl, ?_⟩
    have hb117 : Ext w w114 := Ext.trans hb96 hE115
    have hL118 : w.heap.size ≤ w114.heap.size := Nat.le_trans hL97 hE115.size
    have hS119 : SH w114 w.heap.size [aOwn fInt 2 a90 c91 x88.1, aOwn fStr 9 a78 c79 x76, aOwn fStr 9 a66 c67 x64, aOwn fInt 2 a54 c55 x52.1, aOwn fStr 9 a43 c44 x41, aOwn fStr 9 a32 c33 x30] := SH.ext hS98 hE115
    refine WL.runk 2 [0, 1, 2, 8, 9, 10, 11, 12, 13, 53] [(0, .slice a0' aLeft_0.length c0'), (1, .slice a1' aRight_1.length c1'), (2, .int .i64 aMost_2), (8, .slice a54 x52.1.length c55), (9, .int .i64 x52.2), (10, .slice a66 x64.length c67), (11, .slice a78 x76.length c79), (12, .slice a90 x88.1.length c91), (13, .int .i64 x88.2), (53, .bool (!x112))] (by kernel_rfl) ?_
    refine WL.case (!x112) [53] ⟨rfl, trivial⟩ (fun hc120 => ?_) (fun hc120 => ?_)
    · have hm := iteT hm hc120
      refine WL.runk 4 [0, 1, 2, 8, 9, 10, 11, 12, 13, 57] [(0, .slice a0' aLeft_0.length c0'), (1, .slice a1' aRight_1.length c1'), (2, .int .i64 aMost_2), (8, .slice a54 x52.1.length c55), (9, .int .i64 x52.2), (10, .slice a66 x64.length c67), (11, .slice a78 x76.length c79), (12, .slice a90 x88.1.length c91), (13, .int .i64 x88.2), (57, .bool true)] (by kernel_rfl) ?_
      refine WL.nil ?_
      obtain rfl := Option.some.inj hm
      exact WQ.post' ⟨rfl, hb117, hL118, hS119⟩ ⟨rfl, rfl, rfl, rfl, rfl, rfl, rfl, rfl, rfl, rfl, trivial⟩
    have hm := iteF hm hc120
    refine WL.runk 4 [0, 1, 2, 8, 9, 10, 11, 12, 13, 57] [(0, .slice a0' aLeft_0.length c0'), (1, .slice a1' aRight_1.length c1'), (2, .int .i64 aMost_2), (8, .slice a54 x52.1.length c55), (9, .int .i64 x52.2), (10, .slice a66 x64.length c67), (11, .slice a78 x76.length c79), (12, .slice a90 x88.1.length c91), (13, .int .i64 x88.2), (57, .bool (x88.2 != x52.2))] (by kernel_rfl) ?_
    refine WL.nil ?_
    obtain rfl := Option.some.inj hm
    exact WQ.post' ⟨rfl, hb117, hL118, hS119⟩ ⟨rfl, rfl, rfl, rfl, rfl, rfl, rfl, rfl, rfl, rfl, trivial⟩
  clear hx111
  rintro _ w121 ⟨rfl, hb122, hL123, hS124⟩
  refine WQ.then_normal (hK100 _ _ _ ?_)
  refine WP.cond x110 rfl rfl (fun hc125 => ?_) (fun hc125 => ?_)
  · have hm := iteT hm hc125
    refine WP.seq (fun K126 hK126 => ?_)
    refine WP.region ?_
    refine WL.runk 1 [6] [(6, .bool false)] (by kernel_rfl) ?_
    refine WL.nil ?_
    refine WQ.then_normal (hK126 _ _ _ ?_)
    refine WP.ret ?_
    refine WQ.then_ret ?_
    obtain rfl := Option.some.inj hm
    exact WQ.ret1 _ rfl rfl ⟨rfl, hb122⟩
  have hm := iteF hm hc125
  refine WP.skip ?_
  refine WQ.then_normal (hK99 _ _ _ ?_)
  refine WP.seq (fun K127 hK127 => ?_)
  refine WP.seq (fun K128 hK128 => ?_)
  refine WP.region ?_
  refine WL.runk 2 [0, 1, 2, 8, 9, 10, 11, 12, 13, 58, 59] [(0, .slice a0' aLeft_0.length c0'), (1, .slice a1' aRight_1.length c1'), (2, .int .i64 aMost_2), (8, .slice a54 x52.1.length c55), (9, .int .i64 x52.2), (10, .slice a66 x64.length c67), (11, .slice a78 x76.length c79), (12, .slice a90 x88.1.length c91), (13, .int .i64 x88.2), (58, .slice a66 x64.length c67), (59, .slice a0' aLeft_0.length c0')] (by kernel_rfl) ?_
  obtain ⟨x129, hx130, hm⟩ := bindE hm
  refine WL.call 17 #[.slice a0' aLeft_0.length c0'] rfl rfl (by kernel_rfl) (c_17 n aLeft_0 a0' c0' w121 hx130 (Rd.below h0 hb122) hle0) ?_
  rintro _ w134 ⟨a131, c132, rfl, hE135, hR136⟩
  refine ⟨_, rfl, ?_⟩
  have hb137 : Ext w w134 := Ext.trans hb122 hE135
  have hL138 : w.heap.size ≤ w134.heap.size := Nat.le_trans hL123 hE135.size
  have hS139 : SH w134 w.heap.size [aOwn fStr 9 a131 c132 x129, aOwn fInt 2 a90 c91 x88.1, aOwn fStr 9 a78 c79 x76, aOwn fStr 9 a66 c67 x64, aOwn fInt 2 a54 c55 x52.1, aOwn fStr 9 a43 c44 x41, aOwn fStr 9 a32 c33 x30] := SH.add hS124 hE135 hL123 hR136
  obtain ⟨x140, hx141, hm⟩ := bindE hm
  refine WL.call 19 #[.slice a66 x64.length c67, .slice a131 x129.length c132] rfl rfl (by kernel_rfl) (c_19 n x64 a66 c67 x129 a131 c132 w134 hx141 (SH.rd (SH.front 3 hS139)) (SH.le (SH.front 3 hS139)).1 (SH.rd (SH.front 0 hS139)) (SH.le (SH.front 0 hS139)).1) ?_
  rintro _ w142 ⟨rfl, hE143⟩
  refine ⟨_, rfl, ?_⟩
  have hb145 : Ext w w142 := Ext.trans hb137 hE143
  have hL146 : w.heap.size ≤ w142.heap.size := Nat.le_trans hL138 hE143.size
  have hS147 : SH w142 w.heap.size [aOwn fStr 9 a131 c132 x129, aOwn fInt 2 a90 c91 x88.1, aOwn fStr 9 a78 c79 x76, aOwn fStr 9 a66 c67 x64, aOwn fInt 2 a54 c55 x52.1, aOwn fStr 9 a43 c44 x41, aOwn fStr 9 a32 c33 x30] := SH.ext hS139 hE143
  refine WL.runk 1 [0, 1, 2, 8, 9, 10, 11, 12, 13, 62] [(0, .slice a0' aLeft_0.length c0'), (1, .slice a1' aRight_1.length c1'), (2, .int .i64 aMost_2), (8, .slice a54 x52.1.length c55), (9, .int .i64 x52.2), (10, .slice a66 x64.length c67), (11, .slice a78 x76.length c79), (12, .slice a90 x88.1.length c91), (13, .int .i64 x88.2), (62, .bool (!x140))] (by kernel_rfl) ?_
  refine WL.nil ?_
  refine WQ.then_normal (hK128 _ _ _ ?_)
  refine WP.cond (!x140) rfl rfl (fun hc148 => ?_) (fun hc148 => ?_)
  · have hm := iteT hm hc148
    refine WP.seq (fun K149 hK149 => ?_)
    refine WP.region ?_
    refine WL.runk 1 [6] [(6, .bool false)] (by kernel_rfl) ?_
    refine WL.nil ?_
    refine WQ.then_normal (hK149 _ _ _ ?_)
    refine WP.ret ?_
    refine WQ.then_ret ?_
    obtain rfl := Option.some.inj hm
    exact WQ.ret1 _ rfl rfl ⟨rfl, hb145⟩
  have hm := iteF hm hc148
  refine WP.skip ?_
  refine WQ.then_normal (hK127 _ _ _ ?_)
  refine WP.seq (fun K150 hK150 => ?_)
  refine WP.seq (fun K151 hK151 => ?_)
  refine WP.region ?_
  refine WL.runk 2 [0, 1, 2, 8, 9, 10, 11, 12, 13, 63, 64] [(0, .slice a0' aLeft_0.length c0'), (1, .slice a1' aRight_1.length c1'), (2, .int .i64 aMost_2), (8, .slice a54 x52.1.length c55), (9, .int .i64 x52.2), (10, .slice a66 x64.length c67), (11, .slice a78 x76.length c79), (12, .slice a90 x88.1.length c91), (13, .int .i64 x88.2), (63, .slice a78 x76.length c79), (64, .slice a1' aRight_1.length c1')] (by kernel_rfl) ?_
  obtain ⟨x152, hx153, hm⟩ := bindE hm
  refine WL.call 17 #[.slice a1' aRight_1.length c1'] rfl rfl (by kernel_rfl) (c_17 n aRight_1 a1' c1' w142 hx153 (Rd.below h1 hb145) hle1) ?_
  rintro _ w157 ⟨a154, c155, rfl, hE158, hR159⟩
  refine ⟨_, rfl, ?_⟩
  have hb160 : Ext w w157 := Ext.trans hb145 hE158
  have hL161 : w.heap.size ≤ w157.heap.size := Nat.le_trans hL146 hE158.size
  have hS162 : SH w157 w.heap.size [aOwn fStr 9 a154 c155 x152, aOwn fStr 9 a131 c132 x129, aOwn fInt 2 a90 c91 x88.1, aOwn fStr 9 a78 c79 x76, aOwn fStr 9 a66 c67 x64, aOwn fInt 2 a54 c55 x52.1, aOwn fStr 9 a43 c44 x41, aOwn fStr 9 a32 c33 x30] := SH.add hS147 hE158 hL146 hR159
  obtain ⟨x163, hx164, hm⟩ := bindE hm
  refine WL.call 19 #[.slice a78 x76.length c79, .slice a154 x152.length c155] rfl rfl (by kernel_rfl) (c_19 n x76 a78 c79 x152 a154 c155 w157 hx164 (SH.rd (SH.front 3 hS162)) (SH.le (SH.front 3 hS162)).1 (SH.rd (SH.front 0 hS162)) (SH.le (SH.front 0 hS162)).1) ?_
  rintro _ w165 ⟨rfl, hE166⟩
  refine ⟨_, rfl, ?_⟩
  have hb168 : Ext w w165 := Ext.trans hb160 hE166
  have hL169 : w.heap.size ≤ w165.heap.size := Nat.le_trans hL161 hE166.size
  have hS170 : SH w165 w.heap.size [aOwn fStr 9 a154 c155 x152, aOwn fStr 9 a131 c132 x129, aOwn fInt 2 a90 c91 x88.1, aOwn fStr 9 a78 c79 x76, aOwn fStr 9 a66 c67 x64, aOwn fInt 2 a54 c55 x52.1, aOwn fStr 9 a43 c44 x41, aOwn fStr 9 a32 c33 x30] := SH.ext hS162 hE166
  refine WL.runk 1 [0, 1, 2, 8, 9, 10, 11, 12, 13, 67] [(0, .slice a0' aLeft_0.length c0'), (1, .slice a1' aRight_1.length c1'), (2, .int .i64 aMost_2), (8, .slice a54 x52.1.length c55), (9, .int .i64 x52.2), (10, .slice a66 x64.length c67), (11, .slice a78 x76.length c79), (12, .slice a90 x88.1.length c91), (13, .int .i64 x88.2), (67, .bool (!x163))] (by kernel_rfl) ?_
  refine WL.nil ?_
  refine WQ.then_normal (hK151 _ _ _ ?_)
  refine WP.cond (!x163) rfl rfl (fun hc171 => ?_) (fun hc171 => ?_)
  · have hm := iteT hm hc171
    refine WP.seq (fun K172 hK172 => ?_)
    refine WP.region ?_
    refine WL.runk 1 [6] [(6, .bool false)] (by kernel_rfl) ?_
    refine WL.nil ?_
    refine WQ.then_normal (hK172 _ _ _ ?_)
    refine WP.ret ?_
    refine WQ.then_ret ?_
    obtain rfl := Option.some.inj hm
    exact WQ.ret1 _ rfl rfl ⟨rfl, hb168⟩
  have hm := iteF hm hc171
  refine WP.skip ?_
  refine WQ.then_normal (hK150 _ _ _ ?_)
  refine WP.seq (fun K173 hK173 => ?_)
  refine WP.region ?_
  refine WL.runk 1 [0, 1, 2, 8, 9, 10, 11, 12, 13, 14] [(0, .slice a0' aLeft_0.length c0'), (1, .slice a1' aRight_1.length c1'), (2, .int .i64 aMost_2), (8, .slice a54 x52.1.length c55), (9, .int .i64 x52.2), (10, .slice a66 x64.length c67), (11, .slice a78 x76.length c79), (12, .slice a90 x88.1.length c91), (13, .int .i64 x88.2), (14, .int .i64 1)] (by kernel_rfl) ?_
  refine WL.nil ?_
  refine WQ.then_normal (hK173 _ _ _ ?_)
  refine WP.seq (fun K174 hK174 => ?_)
  refine WP.region ?_
  refine WL.runk 2 [0, 1, 2, 8, 9, 11, 12, 13, 68, 69] [(0, .slice a0' aLeft_0.length c0'), (1, .slice a1' aRight_1.length c1'), (2, .int .i64 aMost_2), (8, .slice a54 x52.1.length c55), (9, .int .i64 x52.2), (11, .slice a78 x76.length c79), (12, .slice a90 x88.1.length c91), (13, .int .i64 x88.2), (68, .slice a66 x64.length c67), (69, .int .i64 1)] (by kernel_rfl) ?_
  obtain ⟨x175, hx176, hm⟩ := bindE hm
  refine WL.call 24 #[.slice a66 x64.length c67, .int .i64 1] rfl rfl (by kernel_rfl) (c_24 n x64 a66 c67 1 w165 w w.heap.size [aOwn fStr 9 a154 c155 x152, aOwn fStr 9 a131 c132 x129, aOwn fInt 2 a90 c91 x88.1, aOwn fStr 9 a78 c79 x76, aOwn fInt 2 a54 c55 x52.1, aOwn fStr 9 a43 c44 x41, aOwn fStr 9 a32 c33 x30] hx176 hb168 (Nat.le_refl _) hL169  (SH.front 7 (SH.front 6 (SH.front 6 (SH.front 6 (SH.front 6 (SH.front 7 (SH.front 7 (SH.front 7 hS170))))))))) ?_
  rintro _ w177 ⟨rfl, hB181, hS180, hlen182⟩
  refine ⟨_, rfl, ?_⟩
  have hb183 : Ext w w177 := Below.trans hb168 hB181
  have hL184 : w.heap.size ≤ w177.heap.size := Nat.le_trans hL169 hB181.size
  refine WL.sub [(0, .slice a0' aLeft_0.length c0'), (1, .slice a1' aRight_1.length c1'), (2, .int .i64 aMost_2), (8, .slice a54 x52.1.length c55), (9, .int .i64 x52.2), (11, .slice a78 x76.length c79), (12, .slice a90 x88.1.length c91), (13, .int .i64 x88.2), (68, .slice a66 x175.2.length c67), (69, .int .i64 1), (70, .int .i64 x175.1)] ⟨rfl, rfl, rfl, rfl, rfl, rfl, rfl, rfl, by rw [hlen182]; rfl, rfl, rfl, trivial⟩ ?_
  refine WL.runk 1 [0, 1, 2, 8, 9, 11, 12, 13, 14] [(0, .slice a0' aLeft_0.length c0'), (1, .slice a1' aRight_1.length c1'), (2, .int .i64 aMost_2), (8, .slice a54 x52.1.length c55), (9, .int .i64 x52.2), (11, .slice a78 x76.length c79), (12, .slice a90 x88.1.length c91), (13, .int .i64 x88.2), (14, .int .i64 x175.1)] (by kernel_rfl) ?_
  refine WL.nil ?_
  refine WQ.then_normal (hK174 _ _ _ ?_)
  refine WP.seq (fun K185 hK185 => ?_)
  refine WP.region ?_
  refine WL.runk 2 [0, 1, 2, 8, 9, 12, 13, 71, 72] [(0, .slice a0' aLeft_0.length c0'), (1, .slice a1' aRight_1.length c1'), (2, .int .i64 aMost_2), (8, .slice a54 x52.1.length c55), (9, .int .i64 x52.2), (12, .slice a90 x88.1.length c91), (13, .int .i64 x88.2), (71, .slice a78 x76.length c79), (72, .int .i64 x175.1)] (by kernel_rfl) ?_
  obtain ⟨x186, hx187, hm⟩ := bindE hm
  refine WL.call 24 #[.slice a78 x76.length c79, .int .i64 x175.1] rfl rfl (by kernel_rfl) (c_24 n x76 a78 c79 x175.1 w177 w w.heap.size [aOwn fStr 9 a66 c67 x175.2, aOwn fStr 9 a154 c155 x152, aOwn fStr 9 a131 c132 x129, aOwn fInt 2 a90 c91 x88.1, aOwn fInt 2 a54 c55 x52.1, aOwn fStr 9 a43 c44 x41, aOwn fStr 9 a32 c33 x30] hx187 hb183 (Nat.le_refl _) hL184  (SH.front 7 (SH.front 6 (SH.front 6 (SH.front 6 (SH.front 6 (SH.front 7 (SH.front 7 (SH.front 7 hS180))))))))) ?_
  rintro _ w188 ⟨rfl, hB192, hS191, hlen193⟩
  refine ⟨_, rfl, ?_⟩
  have hb194 : Ext w w188 := Below.trans hb183 hB192
  have hL195 : w.heap.size ≤ w188.heap.size := Nat.le_trans hL184 hB192.size
  refine WL.sub [(0, .slice a0' aLeft_0.length c0'), (1, .slice a1' aRight_1.length c1'), (2, .int .i64 aMost_2), (8, .slice a54 x52.1.length c55), (9, .int .i64 x52.2), (12, .slice a90 x88.1.length c91), (13, .int .i64 x88.2), (71, .slice a78 x186.2.length c79), (72, .int .i64 x175.1), (73, .int .i64 x186.1)] ⟨rfl, rfl, rfl, rfl, rfl, rfl, rfl, by rw [hlen193]; rfl, rfl, rfl, trivial⟩ ?_
  refine WL.runk 1 [0, 1, 2, 8, 9, 12, 13, 14] [(0, .slice a0' aLeft_0.length c0'), (1, .slice a1' aRight_1.length c1'), (2, .int .i64 aMost_2), (8, .slice a54 x52.1.length c55), (9, .int .i64 x52.2), (12, .slice a90 x88.1.length c91), (13, .int .i64 x88.2), (14, .int .i64 x186.1)] (by kernel_rfl) ?_
  refine WL.nil ?_
  refine WQ.then_normal (hK185 _ _ _ ?_)
  refine WP.seq (fun K196 hK196 => ?_)
  refine WP.seq (fun K197 hK197 => ?_)
  obtain ⟨x208, hx209, hm⟩ := bindE hm
  refine WP.cut (fun env' w' => env' = [(0, .slice a0' aLeft_0.length c0'), (1, .slice a1' aRight_1.length c1'), (2, .int .i64 aMost_2), (8, .slice a54 x52.1.length c55), (9, .int .i64 x52.2), (12, .slice a90 x88.1.length c91), (86, .bool x208)] ∧ Ext w w' ∧ w.heap.size ≤ w'.heap.size ∧ SH w' w.heap.size [aOwn fStr 9 a78 c79 x186.2, aOwn fStr 9 a66 c67 x175.2, aOwn fStr 9 a154 c155 x152, aOwn fStr 9 a131 c132 x129, aOwn fInt 2 a90 c91 x88.1, aOwn fInt 2 a54 c55 x52.1, aOwn fStr 9 a43 c44 x41, aOwn fStr 9 a32 c33 x30]) ?_ ?_
  · have hm := hx209; clear hx209
    refine WP.region ?_
    refine WL.runk 3 [0, 1, 2, 8, 9, 12, 13, 76] [(0, .slice a0' aLeft_0.length c0'), (1, .slice a1' aRight_1.length c1'), (2, .int .i64 aMost_2), (8, .slice a54 x52.1.length c55), (9, .int .i64 x52.2), (12, .slice a90 x88.1.length c91), (13, .int .i64 x88.2), (76, .bool (decide (x186.1 < 0)))] (by kernel_rfl) ?_
    refine WL.case (decide (x186.1 < 0)) [76] ⟨rfl, trivial⟩ (fun hc210 => ?_) (fun hc210 => ?_)
    · have hm := iteT hm hc210
      refine WL.runk 10 [0, 1, 2, 8, 9, 12, 86] [(0, .slice a0' aLeft_0.length c0'), (1, .slice a1' aRight_1.length c1'), (2, .int .i64 aMost_2), (8, .slice a54 x52.1.length c55), (9, .int .i64 x52.2), (12, .slice a90 x88.1.length c91), (86, .bool true)] (by kernel_rfl) ?_
      refine WL.nil ?_
      obtain rfl := Option.some.inj hm
      exact WQ.post' ⟨rfl, hb194, hL195, hS191⟩ ⟨rfl, rfl, rfl, rfl, rfl, rfl, rfl, trivial⟩
    have hm := iteF hm hc210
    refine WL.runk 2 [0, 1, 2, 8, 9, 12, 13, 76, 77, 78] [(0, .slice a0' aLeft_0.length c0'), (1, .slice a1' aRight_1.length c1'), (2, .int .i64 aMost_2), (8, .slice a54 x52.1.length c55), (9, .int .i64 x52.2), (12, .slice a90 x88.1.length c91), (13, .int .i64 x88.2), (76, .bool false), (77, .slice a90 x88.1.length c91), (78, .slice a54 x52.1.length c55)] (by kernel_rfl) ?_
    obtain ⟨x211, hx212, hm⟩ := bindE hm
    refine WL.call 35 #[.slice a90 x88.1.length c91, .slice a54 x52.1.length c55] rfl rfl (by kernel_rfl) (c_35 n x88.1 a90 c91 x52.1 a54 c55 w188 hx212 (SH.rd (SH.front 4 hS191)) (SH.le (SH.front 4 hS191)).1 (SH.rd (SH.front 5 hS191)) (SH.le (SH.front 5 hS191)).1) ?_
    rintro _ w213 ⟨rfl, hE214⟩
    refine ⟨_, rfl, ?_⟩
    have hb216 : Ext w w213 := Ext.trans hb194 hE214
    have hL217 : w.heap.size ≤ w213.heap.size := Nat.le_trans hL195 hE214.size
    have hS218 : SH w213 w.heap.size [aOwn fStr 9 a78 c79 x186.2, aOwn fStr 9 a66 c67 x175.2, aOwn fStr 9 a154 c155 x152, aOwn fStr 9 a131 c132 x129, aOwn fInt 2 a90 c91 x88.1, aOwn fInt 2 a54 c55 x52.1, aOwn fStr 9 a43 c44 x41, aOwn fStr 9 a32 c33 x30] := SH.ext hS191 hE214
    refine WL.runk 3 [0, 1, 2, 8, 9, 12, 13, 82] [(0, .slice a0' aLeft_0.length c0'), (1, .slice a1' aRight_1.length c1'), (2, .int .i64 aMost_2), (8, .slice a54 x52.1.length c55), (9, .int .i64 x52.2), (12, .slice a90 x88.1.length c91), (13, .int .i64 x88.2), (82, .bool (!x211))] (by kernel_rfl) ?_
    refine WL.case (!x211) [82] ⟨rfl, trivial⟩ (fun hc219 => ?_) (fun hc219 => ?_)
    · have hm := iteT hm hc219
      refine WL.runk 4 [0, 1, 2, 8, 9, 12, 86] [(0, .slice a0' aLeft_0.length c0'), (1, .slice a1' aRight_1.length c1'), (2, .int .i64 aMost_2), (8, .slice a54 x52.1.length c55), (9, .int .i64 x52.2), (12, .slice a90 x88.1.length c91), (86, .bool true)] (by kernel_rfl) ?_
      refine WL.nil ?_
      obtain rfl := Option.some.inj hm
      exact WQ.post' ⟨rfl, hb216, hL217, hS218⟩ ⟨rfl, rfl, rfl, rfl, rfl, rfl, rfl, trivial⟩
    have hm := iteF hm hc219
    refine WL.runk 4 [0, 1, 2, 8, 9, 12, 86] [(0, .slice a0' aLeft_0.length c0'), (1, .slice a1' aRight_1.length c1'), (2, .int .i64 aMost_2), (8, .slice a54 x52.1.length c55), (9, .int .i64 x52.2), (12, .slice a90 x88.1.length c91), (86, .bool (x88.2 != x52.2))] (by kernel_rfl) ?_
    refine WL.nil ?_
    obtain rfl := Option.some.inj hm
    exact WQ.post' ⟨rfl, hb216, hL217, hS218⟩ ⟨rfl, rfl, rfl, rfl, rfl, rfl, rfl, trivial⟩
  clear hx209
  rintro _ w220 ⟨rfl, hb221, hL222, hS223⟩
  refine WQ.then_normal (hK197 _ _ _ ?_)
  refine WP.cond x208 rfl rfl (fun hc224 => ?_) (fun hc224 => ?_)
  · have hm := iteT hm hc224
    refine WP.seq (fun K225 hK225 => ?_)
    refine WP.region ?_
    refine WL.runk 1 [6] [(6, .bool false)] (by kernel_rfl) ?_
    refine WL.nil ?_
    refine WQ.then_normal (hK225 _ _ _ ?_)
    refine WP.ret ?_
    refine WQ.then_ret ?_
    obtain rfl := Option.some.inj hm
    exact WQ.ret1 _ rfl rfl ⟨rfl, hb221⟩
  have hm := iteF hm hc224
  refine WP.skip ?_
  refine WQ.then_normal (hK196 _ _ _ ?_)
  refine WP.seq (fun K226 hK226 => ?_)
  refine WP.region ?_
  refine WL.runk 1 [0, 1, 2, 8, 9, 12, 15] [(0, .slice a0' aLeft_0.length c0'), (1, .slice a1' aRight_1.length c1'), (2, .int .i64 aMost_2), (8, .slice a54 x52.1.length c55), (9, .int .i64 x52.2), (12, .slice a90 x88.1.length c91), (15, .int .i64 1)] (by kernel_rfl) ?_
  refine WL.nil ?_
  refine WQ.then_normal (hK226 _ _ _ ?_)
  refine WP.seq (fun K227 hK227 => ?_)
  refine WP.region ?_
  refine WL.runk 2 [0, 1, 2, 8, 9, 12, 87, 88] [(0, .slice a0' aLeft_0.length c0'), (1, .slice a1' aRight_1.length c1'), (2, .int .i64 aMost_2), (8, .slice a54 x52.1.length c55), (9, .int .i64 x52.2), (12, .slice a90 x88.1.length c91), (87, .slice a90 x88.1.length c91), (88, .int .i64 1)] (by kernel_rfl) ?_
  obtain ⟨x228, hx229, hm⟩ := bindE hm
  refine WL.call 36 #[.slice a90 x88.1.length c91, .int .i64 1] rfl rfl (by kernel_rfl) (c_36 n x88.1 a90 c91 1 w220 w w.heap.size [aOwn fStr 9 a78 c79 x186.2, aOwn fStr 9 a66 c67 x175.2, aOwn fStr 9 a154 c155 x152, aOwn fStr 9 a131 c132 x129, aOwn fInt 2 a54 c55 x52.1, aOwn fStr 9 a43 c44 x41, aOwn fStr 9 a32 c33 x30] hx229 hb221 (Nat.le_refl _) hL222  (SH.front 7 (SH.front 6 (SH.front 6 (SH.front 6 (SH.front 6 (SH.front 7 (SH.front 7 (SH.front 7 hS223))))))))) ?_
  rintro _ w230 ⟨rfl, hB234, hS233, hlen235⟩
  refine ⟨_, rfl, ?_⟩
  have hb236 : Ext w w230 := Below.trans hb221 hB234
  have hL237 : w.heap.size ≤ w230.heap.size := Nat.le_trans hL222 hB234.size
  refine WL.sub [(0, .slice a0' aLeft_0.length c0'), (1, .slice a1' aRight_1.length c1'), (2, .int .i64 aMost_2), (8, .slice a54 x52.1.length c55), (9, .int .i64 x52.2), (12, .slice a90 x228.2.length c91), (87, .slice a90 x228.2.length c91), (88, .int .i64 1), (89, .int .i64 x228.1)] ⟨rfl, rfl, rfl, rfl, rfl, by rw [hlen235]; rfl, by rw [hlen235]; rfl, rfl, rfl, trivial⟩ ?_
  refine WL.runk 1 [0, 1, 2, 8, 9, 12, 15] [(0, .slice a0' aLeft_0.length c0'), (1, .slice a1' aRight_1.length c1'), (2, .int .i64 aMost_2), (8, .slice a54 x52.1.length c55), (9, .int .i64 x52.2), (12, .slice a90 x228.2.length c91), (15, .int .i64 x228.1)] (by kernel_rfl) ?_
  refine WL.nil ?_
  refine WQ.then_normal (hK227 _ _ _ ?_)
  refine WP.seq (fun K238 hK238 => ?_)
  refine WP.region ?_
  refine WL.runk 1 [0, 1, 2, 8, 9, 12, 15, 16] [(0, .slice a0' aLeft_0.length c0'), (1, .slice a1' aRight_1.length c1'), (2, .int .i64 aMost_2), (8, .slice a54 x52.1.length c55), (9, .int .i64 x52.2), (12, .slice a90 x228.2.length c91), (15, .int .i64 x228.1), (16, .int .i64 1)] (by kernel_rfl) ?_
  refine WL.nil ?_
  refine WQ.then_normal (hK238 _ _ _ ?_)
  refine WP.seq (fun K239 hK239 => ?_)
  refine WP.region ?_
  refine WL.runk 2 [0, 1, 2, 8, 9, 12, 15, 90, 91] [(0, .slice a0' aLeft_0.length c0'), (1, .slice a1' aRight_1.length c1'), (2, .int .i64 aMost_2), (8, .slice a54 x52.1.length c55), (9, .int .i64 x52.2), (12, .slice a90 x228.2.length c91), (15, .int .i64 x228.1), (90, .slice a90 x228.2.length c91), (91, .int .i64 1)] (by kernel_rfl) ?_
  obtain ⟨x240, hx241, hm⟩ := bindE hm
  refine WL.call 37 #[.slice a90 x228.2.length c91, .int .i64 1] rfl rfl (by kernel_rfl) (c_37 n x228.2 a90 c91 1 w230 hx241 (SH.rd (SH.front 0 hS233)) (SH.le (SH.front 0 hS233)).1) ?_
  rintro _ w242 ⟨rfl, hE243⟩
  refine ⟨_, rfl, ?_⟩
  have hb245 : Ext w w242 := Ext.trans hb236 hE243
  have hL246 : w.heap.size ≤ w242.heap.size := Nat.le_trans hL237 hE243.size
  have hS247 : SH w242 w.heap.size [aOwn fInt 2 a90 c91 x228.2, aOwn fStr 9 a78 c79 x186.2, aOwn fStr 9 a66 c67 x175.2, aOwn fStr 9 a154 c155 x152, aOwn fStr 9 a131 c132 x129, aOwn fInt 2 a54 c55 x52.1, aOwn fStr 9 a43 c44 x41, aOwn fStr 9 a32 c33 x30] := SH.ext hS233 hE243
  refine WL.runk 1 [0, 1, 2, 8, 9, 12, 15, 16] [(0, .slice a0' aLeft_0.length c0'), (1, .slice a1' aRight_1.length c1'), (2, .int .i64 aMost_2), (8, .slice a54 x52.1.length c55), (9, .int .i64 x52.2), (12, .slice a90 x228.2.length c91), (15, .int .i64 x228.1), (16, .int .i64 x240)] (by kernel_rfl) ?_
  refine WL.nil ?_
  refine WQ.then_normal (hK239 _ _ _ ?_)
  refine WP.seq (fun K248 hK248 => ?_)
  refine WP.seq (fun K249 hK249 => ?_)
  refine WP.region ?_
  refine WL.runk 2 [0, 1, 2, 8, 9, 12, 15, 16, 94] [(0, .slice a0' aLeft_0.length c0'), (1, .slice a1' aRight_1.length c1'), (2, .int .i64 aMost_2), (8, .slice a54 x52.1.length c55), (9, .int .i64 x52.2), (12, .slice a90 x228.2.length c91), (15, .int .i64 x228.1), (16, .int .i64 x240), (94, .bool (decide (x240 < 0)))] (by kernel_rfl) ?_
  refine WL.nil ?_
  refine WQ.then_normal (hK249 _ _ _ ?_)
  refine WP.cond (decide (x240 < 0)) rfl rfl (fun hc250 => ?_) (fun hc250 => ?_)
  · have hm := iteT hm hc250
    refine WP.seq (fun K251 hK251 => ?_)
    refine WP.region ?_
    refine WL.runk 1 [6] [(6, .bool false)] (by kernel_rfl) ?_
    refine WL.nil ?_
    refine WQ.then_normal (hK251 _ _ _ ?_)
    refine WP.ret ?_
    refine WQ.then_ret ?_
    obtain rfl := Option.some.inj hm
    exact WQ.ret1 _ rfl rfl ⟨rfl, hb245⟩
  have hm := iteF hm hc250
  refine WP.skip ?_
  refine WQ.then_normal (hK248 _ _ _ ?_)
  refine WP.seq (fun K252 hK252 => ?_)
  refine WP.seq (fun K253 hK253 => ?_)
  refine WP.region ?_
  refine WL.runk 3 [0, 1, 2, 8, 9, 12, 15, 97] [(0, .slice a0' aLeft_0.length c0'), (1, .slice a1' aRight_1.length c1'), (2, .int .i64 aMost_2), (8, .slice a54 x52.1.length c55), (9, .int .i64 x52.2), (12, .slice a90 x228.2.length c91), (15, .int .i64 x228.1), (97, .bool (x240 != x228.1))] (by kernel_rfl) ?_
  refine WL.nil ?_
  refine WQ.then_normal (hK253 _ _ _ ?_)
  refine WP.cond (x240 != x228.1) rfl rfl (fun hc254 => ?_) (fun hc254 => ?_)
  · have hm := iteT hm hc254
    refine WP.seq (fun K255 hK255 => ?_)
    refine WP.region ?_
    refine WL.runk 1 [6] [(6, .bool false)] (by kernel_rfl) ?_
    refine WL.nil ?_
    refine WQ.then_normal (hK255 _ _ _ ?_)
    refine WP.ret ?_
    refine WQ.then_ret ?_
    obtain rfl := Option.some.inj hm
    exact WQ.ret1 _ rfl rfl ⟨rfl, hb245⟩
  have hm := iteF hm hc254
  refine WP.skip ?_
  refine WQ.then_normal (hK252 _ _ _ ?_)
  refine WP.seq (fun K256 hK256 => ?_)
  refine WP.region ?_
  refine WL.runk 1 [1, 2, 8, 9, 12, 15, 99] [(1, .slice a1' aRight_1.length c1'), (2, .int .i64 aMost_2), (8, .slice a54 x52.1.length c55), (9, .int .i64 x52.2), (12, .slice a90 x228.2.length c91), (15, .int .i64 x228.1), (99, .slice a0' aLeft_0.length c0')] (by kernel_rfl) ?_
  obtain ⟨x257, hx258, hm⟩ := bindE hm
  refine WL.call 17 #[.slice a0' aLeft_0.length c0'] rfl rfl (by kernel_rfl) (c_17 n aLeft_0 a0' c0' w242 hx258 (Rd.below h0 hb245) hle0) ?_
  rintro _ w262 ⟨a259, c260, rfl, hE263, hR264⟩
  refine ⟨_, rfl, ?_⟩
  have hb265 : Ext w w262 := Ext.trans hb245 hE263
  have hL266 : w.heap.size ≤ w262.heap.size := Nat.le_trans hL246 hE263.size
  have hS267 : SH w262 w.heap.size [aOwn fStr 9 a259 c260 x257, aOwn fInt 2 a90 c91 x228.2, aOwn fStr 9 a78 c79 x186.2, aOwn fStr 9 a66 c67 x175.2, aOwn fStr 9 a154 c155 x152, aOwn fStr 9 a131 c132 x129, aOwn fInt 2 a54 c55 x52.1, aOwn fStr 9 a43 c44 x41, aOwn fStr 9 a32 c33 x30] := SH.add hS247 hE263 hL246 hR264
  refine WL.runk 1 [2, 8, 9, 12, 15, 100, 101] [(2, .int .i64 aMost_2), (8, .slice a54 x52.1.length c55), (9, .int .i64 x52.2), (12, .slice a90 x228.2.length c91), (15, .int .i64 x228.1), (100, .slice a259 x257.length c260), (101, .slice a1' aRight_1.length c1')] (by kernel_rfl) ?_
  obtain ⟨x268, hx269, hm⟩ := bindE hm
  refine WL.call 17 #[.slice a1' aRight_1.length c1'] rfl rfl (by kernel_rfl) (c_17 n aRight_1 a1' c1' w262 hx269 (Rd.below h1 hb265) hle1) ?_
  rintro _ w273 ⟨a270, c271, rfl, hE274, hR275⟩
  refine ⟨_, rfl, ?_⟩
  have hb276 : Ext w w273 := Ext.trans hb265 hE274
  have hL277 : w.heap.size ≤ w273.heap.size := Nat.le_trans hL266 hE274.size
  have hS278 : SH w273 w.heap.size [aOwn fStr 9 a270 c271 x268, aOwn fStr 9 a259 c260 x257, aOwn fInt 2 a90 c91 x228.2, aOwn fStr 9 a78 c79 x186.2, aOwn fStr 9 a66 c67 x175.2, aOwn fStr 9 a154 c155 x152, aOwn fStr 9 a131 c132 x129, aOwn fInt 2 a54 c55 x52.1, aOwn fStr 9 a43 c44 x41, aOwn fStr 9 a32 c33 x30] := SH.add hS267 hE274 hL266 hR275
  refine WL.runk 1 [8, 9, 12, 15, 100, 102, 103] [(8, .slice a54 x52.1.length c55), (9, .int .i64 x52.2), (12, .slice a90 x228.2.length c91), (15, .int .i64 x228.1), (100, .slice a259 x257.length c260), (102, .slice a270 x268.length c271), (103, .int .i64 aMost_2)] (by kernel_rfl) ?_
  obtain ⟨x279, hx280, hm⟩ := bindE hm
  refine WL.call 42 #[.slice a259 x257.length c260, .slice a270 x268.length c271, .int .i64 aMost_2] rfl rfl (by kernel_rfl) (c_42 n x257 a259 c260 x268 a270 c271 aMost_2 w273 hx280 (SH.rd (SH.front 1 hS278)) (SH.le (SH.front 1 hS278)).1 (SH.rd (SH.front 0 hS278)) (SH.le (SH.front 0 hS278)).1) ?_
  rintro _ w284 ⟨a281, c282, rfl, hE285, hR286⟩
  refine ⟨_, rfl, ?_⟩
  have hb287 : Ext w w284 := Ext.trans hb276 hE285
  have hL288 : w.heap.size ≤ w284.heap.size := Nat.le_trans hL277 hE285.size
  have hS289 : SH w284 w.heap.size [aOwn fInt 2 a281 c282 x279.1, aOwn fStr 9 a270 c271 x268, aOwn fStr 9 a259 c260 x257, aOwn fInt 2 a90 c91 x228.2, aOwn fStr 9 a78 c79 x186.2, aOwn fStr 9 a66 c67 x175.2, aOwn fStr 9 a154 c155 x152, aOwn fStr 9 a131 c132 x129, aOwn fInt 2 a54 c55 x52.1, aOwn fStr 9 a43 c44 x41, aOwn fStr 9 a32 c33 x30] := SH.add hS278 hE285 hL277 hR286
  refine WL.runk 5 [8, 9, 12, 15, 17, 18] [(8, .slice a54 x52.1.length c55), (9, .int .i64 x52.2), (12, .slice a90 x228.2.length c91), (15, .int .i64 x228.1), (17, .slice a281 x279.1.length c282), (18, .int .i64 x279.2)] (by kernel_rfl) ?_
  refine WL.nil ?_
  refine WQ.then_normal (hK256 _ _ _ ?_)
  refine WP.seq (fun K290 hK290 => ?_)
  refine WP.seq (fun K291 hK291 => ?_)
  obtain ⟨x301, hx302, hm⟩ := bindE hm
  refine WP.cut (fun env' w' => env' = [(12, .slice a90 x228.2.length c91), (15, .int .i64 x228.1), (115, .bool x301)] ∧ Ext w w' ∧ w.heap.size ≤ w'.heap.size ∧ SH w' w.heap.size [aOwn fInt 2 a281 c282 x279.1, aOwn fStr 9 a270 c271 x268, aOwn fStr 9 a259 c260 x257, aOwn fInt 2 a90 c91 x228.2, aOwn fStr 9 a78 c79 x186.2, aOwn fStr 9 a66 c67 x175.2, aOwn fStr 9 a154 c155 x152, aOwn fStr 9 a131 c132 x129, aOwn fInt 2 a54 c55 x52.1, aOwn fStr 9 a43 c44 x41, aOwn fStr 9 a32 c33 x30]) ?_ ?_
  · have hm := hx302; clear hx302
    refine WP.region ?_
    refine WL.runk 2 [9, 12, 15, 18, 107, 108] [(9, .int .i64 x52.2), (12, .slice a90 x228.2.length c91), (15, .int .i64 x228.1), (18, .int .i64 x279.2), (107, .slice a281 x279.1.length c282), (108, .slice a54 x52.1.length c55)] (by kernel_rfl) ?_
    obtain ⟨x303, hx304, hm⟩ := bindE hm
    refine WL.call 35 #[.slice a281 x279.1.length c282, .slice a54 x52.1.length c55] rfl rfl (by kernel_rfl) (c_35 n x279.1 a281 c282 x52.1 a54 c55 w284 hx304 (SH.rd (SH.front 0 hS289)) (SH.le (SH.front 0 hS289)).1 (SH.rd (SH.front 8 hS289)) (SH.le (SH.front 8 hS289)).1) ?_
    rintro _ w305 ⟨rfl, hE306⟩
    refine ⟨_, rfl, ?_⟩
    have hb308 : Ext w w305 := Ext.trans hb287 hE306
    have hL309 : w.heap.size ≤ w305.heap.size := Nat.le_trans hL288 hE306.size
    have hS310 : SH w305 w.heap.size [aOwn fInt 2 a281 c282 x279.1, aOwn fStr 9 a270 c271 x268, aOwn fStr 9 a259 c260 x257, aOwn fInt 2 a90 c91 x228.2, aOwn fStr 9 a78 c79 x186.2, aOwn fStr 9 a66 c67 x175.2, aOwn fStr 9 a154 c155 x152, aOwn fStr 9 a131 c132 x129, aOwn fInt 2 a54 c55 x52.1, aOwn fStr 9 a43 c44 x41, aOwn fStr 9 a32 c33 x30] := SH.ext hS289 hE306
    refine WL.runk 2 [9, 12, 15, 18, 111] [(9, .int .i64 x52.2), (12, .slice a90 x228.2.length c91), (15, .int .i64 x228.1), (18, .int .i64 x279.2), (111, .bool (!x303))] (by kernel_rfl) ?_
    refine WL.case (!x303) [111] ⟨rfl, trivial⟩ (fun hc311 => ?_) (fun hc311 => ?_)
    · have hm := iteT hm hc311
      refine WL.runk 4 [12, 15, 115] [(12, .slice a90 x228.2.length c91), (15, .int .i64 x228.1), (115, .bool true)] (by kernel_rfl) ?_
      refine WL.nil ?_
      obtain rfl := Option.some.inj hm
      exact WQ.post' ⟨rfl, hb308, hL309, hS310⟩ ⟨rfl, rfl, rfl, trivial⟩
    have hm := iteF hm hc311
    refine WL.runk 4 [12, 15, 115] [(12, .slice a90 x228.2.length c91), (15, .int .i64 x228.1), (115, .bool (x279.2 != x52.2))] (by kernel_rfl) ?_
    refine WL.nil ?_
    obtain rfl := Option.some.inj hm
    exact WQ.post' ⟨rfl, hb308, hL309, hS310⟩ ⟨rfl, rfl, rfl, trivial⟩
  clear hx302
  rintro _ w312 ⟨rfl, hb313, hL314, hS315⟩
  refine WQ.then_normal (hK291 _ _ _ ?_)
  refine WP.cond x301 rfl rfl (fun hc316 => ?_) (fun hc316 => ?_)
  · have hm := iteT hm hc316
    refine WP.seq (fun K317 hK317 => ?_)
    refine WP.region ?_
    refine WL.runk 1 [6] [(6, .bool false)] (by kernel_rfl) ?_
    refine WL.nil ?_
    refine WQ.then_normal (hK317 _ _ _ ?_)
    refine WP.ret ?_
    refine WQ.then_ret ?_
    obtain rfl := Option.some.inj hm
    exact WQ.ret1 _ rfl rfl ⟨rfl, hb313⟩
  have hm := iteF hm hc316
  refine WP.skip ?_
  refine WQ.then_normal (hK290 _ _ _ ?_)
  refine WP.seq (fun K318 hK318 => ?_)
  refine WP.region ?_
  refine WL.runk 1 [12, 15, 16] [(12, .slice a90 x228.2.length c91), (15, .int .i64 x228.1), (16, .int .i64 1)] (by kernel_rfl) ?_
  refine WL.nil ?_
  refine WQ.then_normal (hK318 _ _ _ ?_)
  refine WP.seq (fun K319 hK319 => ?_)
  refine WP.region ?_
  refine WL.runk 2 [15, 116, 117] [(15, .int .i64 x228.1), (116, .slice a90 x228.2.length c91), (117, .int .i64 1)] (by kernel_rfl) ?_
  obtain ⟨x320, hx321, hm⟩ := bindE hm
  refine WL.call 37 #[.slice a90 x228.2.length c91, .int .i64 1] rfl rfl (by kernel_rfl) (c_37 n x228.2 a90 c91 1 w312 hx321 (SH.rd (SH.front 3 hS315)) (SH.le (SH.front 3 hS315)).1) ?_
  rintro _ w322 ⟨rfl, hE323⟩
  refine ⟨_, rfl, ?_⟩
  have hb325 : Ext w w322 := Ext.trans hb313 hE323
  have hL326 : w.heap.size ≤ w322.heap.size := Nat.le_trans hL314 hE323.size
  have hS327 : SH w322 w.heap.size [aOwn fInt 2 a281 c282 x279.1, aOwn fStr 9 a270 c271 x268, aOwn fStr 9 a259 c260 x257, aOwn fInt 2 a90 c91 x228.2, aOwn fStr 9 a78 c79 x186.2, aOwn fStr 9 a66 c67 x175.2, aOwn fStr 9 a154 c155 x152, aOwn fStr 9 a131 c132 x129, aOwn fInt 2 a54 c55 x52.1, aOwn fStr 9 a43 c44 x41, aOwn fStr 9 a32 c33 x30] := SH.ext hS315 hE323
  refine WL.runk 1 [15, 16] [(15, .int .i64 x228.1), (16, .int .i64 x320)] (by kernel_rfl) ?_
  refine WL.nil ?_
  refine WQ.then_normal (hK319 _ _ _ ?_)
  refine WP.seq (fun K328 hK328 => ?_)
  refine WP.seq (fun K329 hK329 => ?_)
  refine WP.region ?_
  refine WL.runk 2 [15, 16, 120] [(15, .int .i64 x228.1), (16, .int .i64 x320), (120, .bool (decide (x320 < 0)))] (by kernel_rfl) ?_
  refine WL.nil ?_
  refine WQ.then_normal (hK329 _ _ _ ?_)
  refine WP.cond (decide (x320 < 0)) rfl rfl (fun hc330 => ?_) (fun hc330 => ?_)
  · have hm := iteT hm hc330
    refine WP.seq (fun K331 hK331 => ?_)
    refine WP.region ?_
    refine WL.runk 1 [6] [(6, .bool false)] (by kernel_rfl) ?_
    refine WL.nil ?_
    refine WQ.then_normal (hK331 _ _ _ ?_)
    refine WP.ret ?_
    refine WQ.then_ret ?_
    obtain rfl := Option.some.inj hm
    exact WQ.ret1 _ rfl rfl ⟨rfl, hb325⟩
  have hm := iteF hm hc330
  refine WP.skip ?_
  refine WQ.then_normal (hK328 _ _ _ ?_)
  refine WP.seq (fun K332 hK332 => ?_)
  refine WP.seq (fun K333 hK333 => ?_)
  refine WP.region ?_
  refine WL.runk 3 [123] [(123, .bool (x320 != x228.1))] (by kernel_rfl) ?_
  refine WL.nil ?_
  refine WQ.then_normal (hK333 _ _ _ ?_)
  refine WP.cond (x320 != x228.1) rfl rfl (fun hc334 => ?_) (fun hc334 => ?_)
  · have hm := iteT hm hc334
    refine WP.seq (fun K335 hK335 => ?_)
    refine WP.region ?_
    refine WL.runk 1 [6] [(6, .bool false)] (by kernel_rfl) ?_
    refine WL.nil ?_
    refine WQ.then_normal (hK335 _ _ _ ?_)
    refine WP.ret ?_
    refine WQ.then_ret ?_
    obtain rfl := Option.some.inj hm
    exact WQ.ret1 _ rfl rfl ⟨rfl, hb325⟩
  have hm := iteF hm hc334
  refine WP.skip ?_
  refine WQ.then_normal (hK332 _ _ _ ?_)
  refine WP.seq (fun K336 hK336 => ?_)
  refine WP.region ?_
  refine WL.runk 1 [6] [(6, .bool true)] (by kernel_rfl) ?_
  refine WL.nil ?_
  refine WQ.then_normal (hK336 _ _ _ ?_)
  refine WP.ret ?_
  obtain rfl := Option.some.inj hm
  exact WQ.ret1 _ rfl rfl ⟨rfl, hb325⟩

end Go.Proofs.Ytoljnpoiclklpaa
