/- Each call does what its Lean function says. -/
import Derived.Test.YtoljnpoiclklpaaTi
import Derived.Test.YtoljnpoiclklpaaEq
import Derived.Test.YtoljnpoiclklpaaMo
set_option maxRecDepth 20000
set_option maxHeartbeats 4000000
namespace Go.Proofs.Ytoljnpoiclklpaa
open Go Go.Gv Go.RowKit

theorem c_15 (n : Nat) (a_0 : List (List UInt8)) (a0' : Option Addr) (c0' : Nat) (left_1 : Int) (w : World) {r : Int} (hm : m_laws_szStringS n a_0 left_1 = some r) (h0 : Rd fStr.ty w a0' a_0) (_hle0 : a_0.length ≤ c0') :
    CallV Try.prog 15 #[.slice a0' a_0.length c0', .int .i64 left_1] w (fun v w' => v = .int .i64 r ∧ Ext w w') := by
  unfold m_laws_szStringS at hm
  refine CallV.enter Try.func15 rfl (by kernel_rfl) Try.ntmps15 (env := [(0, .slice a0' a_0.length c0'), (1, .int .i64 left_1)]) ⟨rfl, rfl, trivial⟩ ?_
  refine WP.seq (fun K1 hK1 => ?_)
  refine WP.region ?_
  refine WL.runk 1 [0, 1] [(0, .slice a0' a_0.length c0'), (1, .int .i64 left_1)] (by kernel_rfl) ?_
  refine WL.nil ?_
  refine WQ.then_normal (hK1 _ _ _ ?_)
  refine WP.seq (fun K2 hK2 => ?_)
  refine WP.region ?_
  refine WL.runk 5 [0, 1] [(0, .slice a0' a_0.length c0'), (1, .int .i64 (wI64 (left_1 - (a_0.length : Int))))] (by kernel_rfl) ?_
  refine WL.nil ?_
  refine WQ.then_normal (hK2 _ _ _ ?_)
  refine WP.seq (fun K3 hK3 => ?_)
  refine WP.seq (fun K4 hK4 => ?_)
  refine WP.region ?_
  refine WL.runk 2 [0, 1, 11] [(0, .slice a0' a_0.length c0'), (1, .int .i64 (wI64 (left_1 - (a_0.length : Int)))), (11, .bool (decide ((wI64 (left_1 - (a_0.length : Int))) < 0)))] (by kernel_rfl) ?_
  refine WL.nil ?_
  refine WQ.then_normal (hK4 _ _ _ ?_)
  refine WP.cond (decide ((wI64 (left_1 - (a_0.length : Int))) < 0)) rfl rfl (fun hc5 => ?_) (fun hc5 => ?_)
  · have hm := iteT hm hc5
    refine WP.seq (fun K6 hK6 => ?_)
    refine WP.region ?_
    refine WL.runk 1 [4] [(4, .int .i64 (-1))] (by kernel_rfl) ?_
    refine WL.nil ?_
    refine WQ.then_normal (hK6 _ _ _ ?_)
    refine WP.ret ?_
    refine WQ.then_ret ?_
    obtain rfl := Option.some.inj hm
    exact WQ.ret1 _ rfl rfl ⟨rfl, (Ext.refl w)⟩
  have hm := iteF hm hc5
  refine WP.skip ?_
  refine WQ.then_normal (hK3 _ _ _ ?_)
  refine WP.seq (fun K7 hK7 => ?_)
  refine WP.seq (fun K8 hK8 => ?_)
  refine WP.region ?_
  refine WL.runk 1 [0, 1, 5] [(0, .slice a0' a_0.length c0'), (1, .int .i64 (wI64 (left_1 - (a_0.length : Int)))), (5, .int .i64 0)] (by kernel_rfl) ?_
  refine WL.nil ?_
  refine WQ.then_normal (hK8 _ _ _ ?_)
  refine WP.block ?_
  obtain ⟨t20, ht21, hm⟩ := bindE hm
  have hmo15 := hm; clear hm
  refine WP.sub [(0, .slice a0' a_0.length c0'), (1, .int .i64 (wI64 (left_1 - (a_0.length : Int)))), (5, .int .i64 0)] ⟨rfl, rfl, rfl, trivial⟩ ?_
  refine WP.loop (fun n' env' w' => ∃ (st9 : Int × Int) , env' = [(0, .slice a0' a_0.length c0'), (1, .int .i64 st9.1), (5, .int .i64 st9.2)] ∧ Ext w w' ∧ w.heap.size ≤ w'.heap.size ∧ SH w' w.heap.size [] ∧ loopN (m_laws_szStringS_l1 n a_0) n' st9 = some t20) n ⟨((wI64 (left_1 - (a_0.length : Int))), 0), rfl, (Ext.refl w), (Nat.le_refl _), (SH.nil _ _), ht21⟩ ?_
  rintro n17 _ w10 ⟨st9, rfl, hb11, hL12, hS13, hl14⟩ K16 hK16
  obtain ⟨n18, s19, rfl, hm, hl14⟩ := loopN_some hl14
  unfold m_laws_szStringS_l1 at hm
  refine WP.seq (fun K22 hK22 => ?_)
  refine WP.seq (fun K23 hK23 => ?_)
  refine WP.region ?_
  refine WL.runk 4 [0, 1, 5, 15] [(0, .slice a0' a_0.length c0'), (1, .int .i64 st9.1), (5, .int .i64 st9.2), (15, .bool (decide (st9.2 < (a_0.length : Int))))] (by kernel_rfl) ?_
  refine WL.nil ?_
  refine WQ.then_normal (hK23 _ _ _ ?_)
  refine WP.cond (decide (st9.2 < (a_0.length : Int))) rfl rfl (fun hc24 => ?_) (fun hc24 => ?_)
  rotate_left
  · have hm := iteF hm hc24
    refine WP.exit ?_
    refine WQ.then_exit ?_
    refine WQ.then_exit ?_
    refine WQ.block_here ?_
    obtain rfl := Option.some.inj hm
    obtain rfl := afterN_done hl14
    have hm := hmo15
    refine WQ.then_normal (hK7 _ _ _ ?_)
    refine WP.seq (fun K32 hK32 => ?_)
    refine WP.region ?_
    refine WL.runk 2 [4] [(4, .int .i64 st9.1)] (by kernel_rfl) ?_
    refine WL.nil ?_
    refine WQ.then_normal (hK32 _ _ _ ?_)
    refine WP.ret ?_
    obtain rfl := Option.some.inj hm
    exact WQ.ret1 _ rfl rfl ⟨rfl, hb11⟩
  have hm := iteT hm hc24
  refine WP.skip ?_
  refine WQ.then_normal (hK22 _ _ _ ?_)
  refine WP.seq (fun K25 hK25 => ?_)
  refine WP.block ?_
  refine WP.seq (fun K26 hK26 => ?_)
  refine WP.region ?_
  refine WL.runk 3 [0, 5, 18, 19, 20] [(0, .slice a0' a_0.length c0'), (5, .int .i64 st9.2), (18, .int .i64 st9.1), (19, .slice a0' a_0.length c0'), (20, .int .i64 st9.2)] (by kernel_rfl) ?_
  obtain ⟨x27, hx28, hm⟩ := bindE hm
  refine WL.st (.pointer (some (at_ a0' (Int.toNat st9.2 * 1)))) (ST.index (T := fStr.ty) (xs := a_0) (Rd.below h0 hb11) hx28 rfl rfl rfl Try.underlying22 (info9).1 (info9).2.1) rfl rfl rfl ?_
  refine WL.st (.string (bs x27)) (ST.load (cell_ext (Rd.flat (F := fStr) (Rd.below h0 hb11) hx28 0 rfl)) rfl rfl Try.underlying9 rfl) rfl rfl rfl ?_
  refine WL.runk 3 [0, 1, 5] [(0, .slice a0' a_0.length c0'), (5, .int .i64 st9.2), (1, .int .i64 (wI64 (st9.1 - (x27.length : Int))))] (by kernel_rfl) ?_
  refine WL.nil ?_
  refine WQ.then_normal (hK26 _ _ _ ?_)
  refine WP.seq (fun K29 hK29 => ?_)
  refine WP.region ?_
  refine WL.runk 2 [0, 1, 5, 26] [(0, .slice a0' a_0.length c0'), (5, .int .i64 st9.2), (1, .int .i64 (wI64 (st9.1 - (x27.length : Int)))), (26, .bool (decide ((wI64 (st9.1 - (x27.length : Int))) < 0)))] (by kernel_rfl) ?_
  refine WL.nil ?_
  refine WQ.then_normal (hK29 _ _ _ ?_)
  refine WP.cond (decide ((wI64 (st9.1 - (x27.length : Int))) < 0)) rfl rfl (fun hc30 => ?_) (fun hc30 => ?_)
  rotate_left
  · have hm := iteF hm hc30
    refine WP.skip ?_
    refine WQ.block_normal ?_
    refine WQ.then_normal (hK25 _ _ _ ?_)
    refine WP.region ?_
    refine WL.runk 3 [0, 1, 5] [(0, .slice a0' a_0.length c0'), (5, .int .i64 (wI64 (st9.2 + 1))), (1, .int .i64 (wI64 (st9.1 - (x27.length : Int))))] (by kernel_rfl) ?_
    refine WL.nil ?_
    obtain rfl := Option.some.inj hm
    exact WQ.round hK16 ⟨((wI64 (st9.1 - (x27.length : Int))), (wI64 (st9.2 + 1))), rfl, hb11, hL12, hS13, hl14⟩ (Nat.lt_succ_self _) ⟨rfl, rfl, rfl, trivial⟩
  have hm := iteT hm hc30
  refine WP.seq (fun K31 hK31 => ?_)
  refine WP.region ?_
  refine WL.runk 1 [4] [(4, .int .i64 (-1))] (by kernel_rfl) ?_
  refine WL.nil ?_
  refine WQ.then_normal (hK31 _ _ _ ?_)
  refine WP.ret ?_
  refine WQ.block_ret ?_
  refine WQ.then_ret ?_
  refine WQ.then_ret ?_
  refine WQ.block_ret ?_
  refine WQ.then_ret ?_
  obtain rfl := Option.some.inj hm
  obtain rfl := afterN_done hl14
  have hm := hmo15
  obtain rfl := Option.some.inj hm
  exact WQ.ret1 _ rfl rfl ⟨rfl, hb11⟩

theorem c_71 (n : Nat) (n_0 : Int) (low_1 : Int) (high_2 : Int) (w : World) {r : Bool} (hm : m_spec_l00In n n_0 low_1 high_2 = some r)  :
    CallV Try.prog 71 #[.int .i64 n_0, .int .i64 low_1, .int .i64 high_2] w (fun v w' => v = .bool r ∧ Ext w w') := by
  unfold m_spec_l00In at hm
  refine CallV.enter Try.func71 rfl (by kernel_rfl) Try.ntmps71 (env := [(0, .int .i64 n_0), (1, .int .i64 low_1), (2, .int .i64 high_2)]) ⟨rfl, rfl, rfl, trivial⟩ ?_
  refine WP.seq (fun K1 hK1 => ?_)
  refine WP.region ?_
  refine WL.runk 1 [0, 1, 2] [(0, .int .i64 n_0), (1, .int .i64 low_1), (2, .int .i64 high_2)] (by kernel_rfl) ?_
  refine WL.nil ?_
  refine WQ.then_normal (hK1 _ _ _ ?_)
  refine WP.seq (fun K2 hK2 => ?_)
  obtain ⟨x4, hx5, hm⟩ := bindE hm
  refine WP.cut (fun env' w' => env' = [(6, .bool x4)] ∧ Ext w w' ∧ w.heap.size ≤ w'.heap.size ∧ SH w' w.heap.size []) ?_ ?_
  rotate_left
  · clear hx5
    rintro _ w7 ⟨rfl, hb8, hL9, hS10⟩
    refine WQ.then_normal (hK2 _ _ _ ?_)
    refine WP.ret ?_
    obtain rfl := Option.some.inj hm
    exact WQ.ret1 _ rfl rfl ⟨rfl, hb8⟩
  have hm := hx5; clear hx5
  refine WP.region ?_
  refine WL.runk 4 [0, 2, 10] [(0, .int .i64 n_0), (2, .int .i64 high_2), (10, .bool (decide (n_0 ≥ low_1)))] (by kernel_rfl) ?_
  refine WL.case (decide (n_0 ≥ low_1)) [10] ⟨rfl, trivial⟩ (fun hc6 => ?_) (fun hc6 => ?_)
  · have hm := iteT hm hc6
    refine WL.runk 5 [6] [(6, .bool (decide (n_0 ≤ high_2)))] (by kernel_rfl) ?_
    refine WL.nil ?_
    obtain rfl := Option.some.inj hm
    exact WQ.post' ⟨rfl, (Ext.refl w), (Nat.le_refl _), (SH.nil _ _)⟩ ⟨rfl, trivial⟩
  have hm := iteF hm hc6
  refine WL.runk 5 [6] [(6, .bool false)] (by kernel_rfl) ?_
  refine WL.nil ?_
  obtain rfl := Option.some.inj hm
  exact WQ.post' ⟨rfl, (Ext.refl w), (Nat.le_refl _), (SH.nil _ _)⟩ ⟨rfl, trivial⟩

theorem c_76 (n : Nat) (c_0 : Int) (w : World) {r : Bool} (hm : m_spec_l01Digit n c_0 = some r)  :
    CallV Try.prog 76 #[.int .u8 c_0] w (fun v w' => v = .bool r ∧ Ext w w') := by
  unfold m_spec_l01Digit at hm
  refine CallV.enter Try.func76 rfl (by kernel_rfl) Try.ntmps76 (env := [(0, .int .u8 c_0)]) ⟨rfl, trivial⟩ ?_
  refine WP.seq (fun K1 hK1 => ?_)
  refine WP.region ?_
  refine WL.runk 1 [0] [(0, .int .u8 c_0)] (by kernel_rfl) ?_
  refine WL.nil ?_
  refine WQ.then_normal (hK1 _ _ _ ?_)
  refine WP.seq (fun K2 hK2 => ?_)
  obtain ⟨x4, hx5, hm⟩ := bindE hm
  refine WP.cut (fun env' w' => env' = [(2, .bool x4)] ∧ Ext w w' ∧ w.heap.size ≤ w'.heap.size ∧ SH w' w.heap.size []) ?_ ?_
  rotate_left
  · clear hx5
    rintro _ w7 ⟨rfl, hb8, hL9, hS10⟩
    refine WQ.then_normal (hK2 _ _ _ ?_)
    refine WP.ret ?_
    obtain rfl := Option.some.inj hm
    exact WQ.ret1 _ rfl rfl ⟨rfl, hb8⟩
  have hm := hx5; clear hx5
  refine WP.region ?_
  refine WL.runk 3 [0, 5] [(0, .int .u8 c_0), (5, .bool (decide (c_0 ≥ 48)))] (by kernel_rfl) ?_
  refine WL.case (decide (c_0 ≥ 48)) [5] ⟨rfl, trivial⟩ (fun hc6 => ?_) (fun hc6 => ?_)
  · have hm := iteT hm hc6
    refine WL.runk 4 [2] [(2, .bool (decide (c_0 ≤ 57)))] (by kernel_rfl) ?_
    refine WL.nil ?_
    obtain rfl := Option.some.inj hm
    exact WQ.post' ⟨rfl, (Ext.refl w), (Nat.le_refl _), (SH.nil _ _)⟩ ⟨rfl, trivial⟩
  have hm := iteF hm hc6
  refine WL.runk 4 [2] [(2, .bool false)] (by kernel_rfl) ?_
  refine WL.nil ?_
  obtain rfl := Option.some.inj hm
  exact WQ.post' ⟨rfl, (Ext.refl w), (Nat.le_refl _), (SH.nil _ _)⟩ ⟨rfl, trivial⟩

theorem c_49 (n : Nat) (rows_0 : List (List UInt8)) (a0' : Option Addr) (c0' : Nat) (w : World) {r : Bool} (hm : m_spec_l20Ok n rows_0 = some r) (h0 : Rd fStr.ty w a0' rows_0) (_hle0 : rows_0.length ≤ c0') :
    CallV Try.prog 49 #[.slice a0' rows_0.length c0'] w (fun v w' => v = .bool r ∧ Ext w w') := by
  unfold m_spec_l20Ok at hm
  refine CallV.enter Try.func49 rfl (by kernel_rfl) Try.ntmps49 (env := [(0, .slice a0' rows_0.length c0')]) ⟨rfl, trivial⟩ ?_
  refine WP.seq (fun K1 hK1 => ?_)
  refine WP.region ?_
  refine WL.runk 1 [0] [(0, .slice a0' rows_0.length c0')] (by kernel_rfl) ?_
  refine WL.nil ?_
  refine WQ.then_normal (hK1 _ _ _ ?_)
  refine WP.seq (fun K2 hK2 => ?_)
  refine WP.seq (fun K3 hK3 => ?_)
  refine WP.region ?_
  refine WL.runk 1 [0, 3] [(0, .slice a0' rows_0.length c0'), (3, .int .i64 0)] (by kernel_rfl) ?_
  refine WL.nil ?_
  refine WQ.then_normal (hK3 _ _ _ ?_)
  refine WP.block ?_
  obtain ⟨t15, ht16, hm⟩ := bindE hm
  have hmo10 := hm; clear hm
  refine WP.sub [(0, .slice a0' rows_0.length c0'), (3, .int .i64 0)] ⟨rfl, rfl, trivial⟩ ?_
  refine WP.loop (fun n' env' w' => ∃ (st4 : Int) , env' = [(0, .slice a0' rows_0.length c0'), (3, .int .i64 st4)] ∧ Ext w w' ∧ w.heap.size ≤ w'.heap.size ∧ SH w' w.heap.size [] ∧ loopN (m_spec_l20Ok_l1 n rows_0) n' st4 = some t15) n ⟨0, rfl, (Ext.refl w), (Nat.le_refl _), (SH.nil _ _), ht16⟩ ?_
  rintro n12 _ w5 ⟨st4, rfl, hb6, hL7, hS8, hl9⟩ K11 hK11
  obtain ⟨n13, s14, rfl, hm, hl9⟩ := loopN_some hl9
  unfold m_spec_l20Ok_l1 at hm
  refine WP.seq (fun K17 hK17 => ?_)
  refine WP.seq (fun K18 hK18 => ?_)
  refine WP.region ?_
  refine WL.runk 4 [0, 3, 8] [(0, .slice a0' rows_0.length c0'), (3, .int .i64 st4), (8, .bool (decide (st4 < (rows_0.length : Int))))] (by kernel_rfl) ?_
  refine WL.nil ?_
  refine WQ.then_normal (hK18 _ _ _ ?_)
  refine WP.cond (decide (st4 < (rows_0.length : Int))) rfl rfl (fun hc19 => ?_) (fun hc19 => ?_)
  rotate_left
  · have hm := iteF hm hc19
    refine WP.exit ?_
    refine WQ.then_exit ?_
    refine WQ.then_exit ?_
    refine WQ.block_here ?_
    obtain rfl := Option.some.inj hm
    obtain rfl := afterN_done hl9
    have hm := hmo10
    refine WQ.then_normal (hK2 _ _ _ ?_)
    refine WP.seq (fun K109 hK109 => ?_)
    refine WP.region ?_
    refine WL.runk 2 [48] [(48, .int .i64 (rows_0.length : Int))] (by kernel_rfl) ?_
    obtain ⟨x110, hx111, hm⟩ := bindE hm
    refine WL.call 71 #[.int .i64 (rows_0.length : Int), .int .i64 2, .int .i64 12] rfl rfl (by kernel_rfl) (c_71 n (rows_0.length : Int) 2 12 w5 hx111 ) ?_
    rintro _ w112 ⟨rfl, hE113⟩
    refine ⟨_, rfl, ?_⟩
    have hb115 : Ext w w112 := Ext.trans hb6 hE113
    have hL116 : w.heap.size ≤ w112.heap.size := Nat.le_trans hL7 hE113.size
    have hS117 : SH w112 w.heap.size [] := SH.ext hS8 hE113
    refine WL.runk 1 [2] [(2, .bool x110)] (by kernel_rfl) ?_
    refine WL.nil ?_
    refine WQ.then_normal (hK109 _ _ _ ?_)
    refine WP.ret ?_
    obtain rfl := Option.some.inj hm
    exact WQ.ret1 _ rfl rfl ⟨rfl, hb115⟩
  have hm := iteT hm hc19
  refine WP.skip ?_
  refine WQ.then_normal (hK17 _ _ _ ?_)
  refine WP.seq (fun K20 hK20 => ?_)
  refine WP.block ?_
  refine WP.seq (fun K21 hK21 => ?_)
  refine WP.seq (fun K22 hK22 => ?_)
  obtain ⟨x44, hx45, hm⟩ := bindE hm
  refine WP.cut (fun env' w' => env' = [(0, .slice a0' rows_0.length c0'), (3, .int .i64 st4), (29, .bool x44)] ∧ Ext w w' ∧ w.heap.size ≤ w'.heap.size ∧ SH w' w.heap.size []) ?_ ?_
  · have hm := hx45; clear hx45
    refine WP.quiet (by kernel_rfl) (by kernel_rfl) ?_
    refine QL.step1v 11 (.slice a0' rows_0.length c0') rfl (fun _ => by kernel_rfl) ?_
    refine QL.step1v 12 (.int .i64 st4) rfl (fun _ => by kernel_rfl) ?_
    refine QL.subk [0, 3, 11, 12] [(0, .slice a0' rows_0.length c0'), (3, .int .i64 st4), (11, .slice a0' rows_0.length c0'), (12, .int .i64 st4)] (by kernel_rfl) ?_
    obtain ⟨x46, hx47, hm⟩ := bindE hm
    refine QL.st (.pointer (some (at_ a0' (Int.toNat st4 * 1)))) (ST.index (T := fStr.ty) (xs := rows_0) (Rd.below h0 hb6) hx47 rfl rfl rfl Try.underlying22 (info9).1 (info9).2.1) rfl rfl rfl ?_
    refine QL.st (.string (bs x46)) (ST.load (cell_ext (Rd.flat (F := fStr) (Rd.below h0 hb6) hx47 0 rfl)) rfl rfl Try.underlying9 rfl) rfl rfl rfl ?_
    refine QL.step1v 15 (.int .i64 (x46.length : Int)) rfl (fun _ => by kernel_rfl) ?_
    refine QL.step1v 16 (.slice a0' rows_0.length c0') rfl (fun _ => by kernel_rfl) ?_
    refine QL.subk [0, 3, 15, 16] [(0, .slice a0' rows_0.length c0'), (3, .int .i64 st4), (15, .int .i64 (x46.length : Int)), (16, .slice a0' rows_0.length c0')] (by kernel_rfl) ?_
    obtain ⟨x48, hx49, hm⟩ := bindE hm
    refine QL.st (.pointer (some (at_ a0' (Int.toNat 0 * 1)))) (ST.index (T := fStr.ty) (xs := rows_0) (Rd.below h0 hb6) hx49 rfl rfl rfl Try.underlying22 (info9).1 (info9).2.1) rfl rfl rfl ?_
    refine QL.st (.string (bs x48)) (ST.load (cell_ext (Rd.flat (F := fStr) (Rd.below h0 hb6) hx49 0 rfl)) rfl rfl Try.underlying9 rfl) rfl rfl rfl ?_
    refine QL.step1v 19 (.int .i64 (x48.length : Int)) rfl (fun _ => by kernel_rfl) ?_
    refine QL.step1v 20 (.bool ((x46.length : Int) != (x48.length : Int))) rfl (fun _ => by kernel_rfl) ?_
    refine QL.step1v 21 (.bool ((x46.length : Int) != (x48.length : Int))) rfl (fun _ => by kernel_rfl) ?_
    refine QL.subk [0, 3, 21] [(0, .slice a0' rows_0.length c0'), (3, .int .i64 st4), (21, .bool ((x46.length : Int) != (x48.length : Int)))] (by kernel_rfl) ?_
    refine QL.case ((x46.length : Int) != (x48.length : Int)) [21] ⟨rfl, trivial⟩ (fun hc50 => ?_) (fun hc50 => ?_)
    · have hm := iteT hm hc50
      refine QL.step1v 22 undef rfl (fun _ => by kernel_rfl) ?_
      refine QL.step1v 23 undef rfl (fun _ => by kernel_rfl) ?_
      refine QL.step1v 24 undef rfl (fun _ => by kernel_rfl) ?_
      refine QL.step1v 25 undef rfl (fun _ => by kernel_rfl) ?_
      refine QL.step1v 26 undef rfl (fun _ => by kernel_rfl) ?_
      refine QL.step1v 27 undef rfl (fun _ => by kernel_rfl) ?_
      refine QL.step1v 28 undef rfl (fun _ => by kernel_rfl) ?_
      refine QL.step1v 29 (.bool true) rfl (fun _ => by kernel_rfl) ?_
      refine QL.subk [0, 3, 29] [(0, .slice a0' rows_0.length c0'), (3, .int .i64 st4), (29, .bool true)] (by kernel_rfl) ?_
      refine QL.nil ?_
      intro w51 hE52
      have hb53 : Ext w w51 := Ext.trans hb6 hE52
      have hL54 : w.heap.size ≤ w51.heap.size := Nat.le_trans hL7 hE52.size
      have hS55 : SH w51 w.heap.size [] := SH.ext hS8 hE52
      obtain rfl := Option.some.inj hm
      exact WQ.post' ⟨rfl, hb53, hL54, hS55⟩ ⟨rfl, rfl, rfl, trivial⟩
    have hm := iteF hm hc50
    refine QL.step1v 22 (.slice a0' rows_0.length c0') rfl (fun _ => by kernel_rfl) ?_
    refine QL.step1v 23 (.int .i64 st4) rfl (fun _ => by kernel_rfl) ?_
    refine QL.subk [0, 3, 21, 22, 23] [(0, .slice a0' rows_0.length c0'), (3, .int .i64 st4), (21, .bool false), (22, .slice a0' rows_0.length c0'), (23, .int .i64 st4)] (by kernel_rfl) ?_
    obtain ⟨x56, hx57, hm⟩ := bindE hm
    refine QL.st (.pointer (some (at_ a0' (Int.toNat st4 * 1)))) (ST.index (T := fStr.ty) (xs := rows_0) (Rd.below h0 hb6) hx57 rfl rfl rfl Try.underlying22 (info9).1 (info9).2.1) rfl rfl rfl ?_
    refine QL.st (.string (bs x56)) (ST.load (cell_ext (Rd.flat (F := fStr) (Rd.below h0 hb6) hx57 0 rfl)) rfl rfl Try.underlying9 rfl) rfl rfl rfl ?_
    refine QL.step1v 26 (.int .i64 (x56.length : Int)) rfl (fun _ => by kernel_rfl) ?_
    refine QL.subk [0, 3, 21, 26] [(0, .slice a0' rows_0.length c0'), (3, .int .i64 st4), (21, .bool false), (26, .int .i64 (x56.length : Int))] (by kernel_rfl) ?_
    obtain ⟨x58, hx59, hm⟩ := bindE hm
    refine QL.call 71 #[.int .i64 (x56.length : Int), .int .i64 2, .int .i64 8] (.bool x58) (fun _ => by kernel_rfl) (fun w60 hE61 => c_71 n (x56.length : Int) 2 8 w60 hx59 ) rfl rfl rfl ?_
    refine QL.step1v 28 (.bool (!x58)) rfl (fun _ => by kernel_rfl) ?_
    refine QL.step1v 29 (.bool (!x58)) rfl (fun _ => by kernel_rfl) ?_
    refine QL.subk [0, 3, 29] [(0, .slice a0' rows_0.length c0'), (3, .int .i64 st4), (29, .bool (!x58))] (by kernel_rfl) ?_
    refine QL.nil ?_
    intro w62 hE63
    have hb64 : Ext w w62 := Ext.trans hb6 hE63
    have hL65 : w.heap.size ≤ w62.heap.size := Nat.le_trans hL7 hE63.size
    have hS66 : SH w62 w.heap.size [] := SH.ext hS8 hE63
    obtain rfl := Option.some.inj hm
    exact WQ.post' ⟨rfl, hb64, hL65, hS66⟩ ⟨rfl, rfl, rfl, trivial⟩
  clear hx45
  rintro _ w67 ⟨rfl, hb68, hL69, hS70⟩
  refine WQ.then_normal (hK22 _ _ _ ?_)
  refine WP.cond x44 rfl rfl (fun hc71 => ?_) (fun hc71 => ?_)
  · have hm := iteT hm hc71
    refine WP.seq (fun K72 hK72 => ?_)
    refine WP.region ?_
    refine WL.runk 1 [2] [(2, .bool false)] (by kernel_rfl) ?_
    refine WL.nil ?_
    refine WQ.then_normal (hK72 _ _ _ ?_)
    refine WP.ret ?_
    refine WQ.then_ret ?_
    refine WQ.block_ret ?_
    refine WQ.then_ret ?_
    refine WQ.then_ret ?_
    refine WQ.block_ret ?_
    refine WQ.then_ret ?_
    obtain rfl := Option.some.inj hm
    obtain rfl := afterN_done hl9
    have hm := hmo10
    obtain rfl := Option.some.inj hm
    exact WQ.ret1 _ rfl rfl ⟨rfl, hb68⟩
  have hm := iteF hm hc71
  refine WP.skip ?_
  refine WQ.then_normal (hK21 _ _ _ ?_)
  refine WP.seq (fun K73 hK73 => ?_)
  refine WP.region ?_
  refine WL.runk 1 [0, 3, 4] [(0, .slice a0' rows_0.length c0'), (3, .int .i64 st4), (4, .int .i64 0)] (by kernel_rfl) ?_
  refine WL.nil ?_
  refine WQ.then_normal (hK73 _ _ _ ?_)
  refine WP.block ?_
  obtain ⟨t85, ht86, hm⟩ := bindE hm
  have hmo80 := hm; clear hm
  refine WP.sub [(0, .slice a0' rows_0.length c0'), (3, .int .i64 st4), (4, .int .i64 0)] ⟨rfl, rfl, rfl, trivial⟩ ?_
  refine WP.loop (fun n' env' w' => ∃ (st74 : Int) , env' = [(0, .slice a0' rows_0.length c0'), (3, .int .i64 st4), (4, .int .i64 st74)] ∧ Ext w w' ∧ w.heap.size ≤ w'.heap.size ∧ SH w' w.heap.size [] ∧ loopN (m_spec_l20Ok_l2 n rows_0 st4) n' st74 = some t85) n ⟨0, rfl, hb68, hL69, hS70, ht86⟩ ?_
  rintro n82 _ w75 ⟨st74, rfl, hb76, hL77, hS78, hl79⟩ K81 hK81
  obtain ⟨n83, s84, rfl, hm, hl79⟩ := loopN_some hl79
  unfold m_spec_l20Ok_l2 at hm
  refine WP.seq (fun K87 hK87 => ?_)
  refine WP.seq (fun K88 hK88 => ?_)
  refine WP.region ?_
  refine WL.runk 3 [0, 3, 4, 30, 31, 32] [(0, .slice a0' rows_0.length c0'), (3, .int .i64 st4), (4, .int .i64 st74), (30, .int .i64 st74), (31, .slice a0' rows_0.length c0'), (32, .int .i64 st4)] (by kernel_rfl) ?_
  obtain ⟨x89, hx90, hm⟩ := bindE hm
  refine WL.st (.pointer (some (at_ a0' (Int.toNat st4 * 1)))) (ST.index (T := fStr.ty) (xs := rows_0) (Rd.below h0 hb76) hx90 rfl rfl rfl Try.underlying22 (info9).1 (info9).2.1) rfl rfl rfl ?_
  refine WL.st (.string (bs x89)) (ST.load (cell_ext (Rd.flat (F := fStr) (Rd.below h0 hb76) hx90 0 rfl)) rfl rfl Try.underlying9 rfl) rfl rfl rfl ?_
  refine WL.runk 2 [0, 3, 4, 36] [(0, .slice a0' rows_0.length c0'), (3, .int .i64 st4), (4, .int .i64 st74), (36, .bool (decide (st74 < (x89.length : Int))))] (by kernel_rfl) ?_
  refine WL.nil ?_
  refine WQ.then_normal (hK88 _ _ _ ?_)
  refine WP.cond (decide (st74 < (x89.length : Int))) rfl rfl (fun hc91 => ?_) (fun hc91 => ?_)
  rotate_left
  · have hm := iteF hm hc91
    refine WP.exit ?_
    refine WQ.then_exit ?_
    refine WQ.then_exit ?_
    refine WQ.block_here ?_
    obtain rfl := Option.some.inj hm
    obtain rfl := afterN_done hl79
    have hm := hmo80
    refine WQ.block_normal ?_
    refine WQ.then_normal (hK20 _ _ _ ?_)
    refine WP.region ?_
    refine WL.runk 3 [0, 3] [(0, .slice a0' rows_0.length c0'), (3, .int .i64 (wI64 (st4 + 1)))] (by kernel_rfl) ?_
    refine WL.nil ?_
    obtain rfl := Option.some.inj hm
    exact WQ.round hK11 ⟨(wI64 (st4 + 1)), rfl, hb76, hL77, hS78, hl9⟩ (Nat.lt_succ_self _) ⟨rfl, rfl, trivial⟩
  have hm := iteT hm hc91
  refine WP.skip ?_
  refine WQ.then_normal (hK87 _ _ _ ?_)
  refine WP.seq (fun K92 hK92 => ?_)
  refine WP.block ?_
  refine WP.seq (fun K93 hK93 => ?_)
  refine WP.region ?_
  refine WL.runk 2 [0, 3, 4, 39, 40] [(0, .slice a0' rows_0.length c0'), (3, .int .i64 st4), (4, .int .i64 st74), (39, .slice a0' rows_0.length c0'), (40, .int .i64 st4)] (by kernel_rfl) ?_
  obtain ⟨x94, hx95, hm⟩ := bindE hm
  refine WL.st (.pointer (some (at_ a0' (Int.toNat st4 * 1)))) (ST.index (T := fStr.ty) (xs := rows_0) (Rd.below h0 hb76) hx95 rfl rfl rfl Try.underlying22 (info9).1 (info9).2.1) rfl rfl rfl ?_
  refine WL.st (.string (bs x94)) (ST.load (cell_ext (Rd.flat (F := fStr) (Rd.below h0 hb76) hx95 0 rfl)) rfl rfl Try.underlying9 rfl) rfl rfl rfl ?_
  refine WL.runk 1 [0, 3, 4, 42, 43] [(0, .slice a0' rows_0.length c0'), (3, .int .i64 st4), (4, .int .i64 st74), (42, .string (bs x94)), (43, .int .i64 st74)] (by kernel_rfl) ?_
  obtain ⟨x96, hx97, hm⟩ := bindE hm
  refine WL.st (.int .u8 (x96.toNat : Int)) (ST.sindex hx97 rfl rfl rfl Try.underlying9) rfl rfl rfl ?_
  obtain ⟨x98, hx99, hm⟩ := bindE hm
  refine WL.call 76 #[.int .u8 (x96.toNat : Int)] rfl rfl (by kernel_rfl) (c_76 n (x96.toNat : Int) w75 hx99 ) ?_
  rintro _ w100 ⟨rfl, hE101⟩
  refine ⟨_, rfl, ?_⟩
  have hb103 : Ext w w100 := Ext.trans hb76 hE101
  have hL104 : w.heap.size ≤ w100.heap.size := Nat.le_trans hL77 hE101.size
  have hS105 : SH w100 w.heap.size [] := SH.ext hS78 hE101
  refine WL.runk 1 [0, 3, 4, 46] [(0, .slice a0' rows_0.length c0'), (3, .int .i64 st4), (4, .int .i64 st74), (46, .bool (!x98))] (by kernel_rfl) ?_
  refine WL.nil ?_
  refine WQ.then_normal (hK93 _ _ _ ?_)
  refine WP.cond (!x98) rfl rfl (fun hc106 => ?_) (fun hc106 => ?_)
  rotate_left
  · have hm := iteF hm hc106
    refine WP.skip ?_
    refine WQ.block_normal ?_
    refine WQ.then_normal (hK92 _ _ _ ?_)
    refine WP.region ?_
    refine WL.runk 3 [0, 3, 4] [(0, .slice a0' rows_0.length c0'), (3, .int .i64 st4), (4, .int .i64 (wI64 (st74 + 1)))] (by kernel_rfl) ?_
    refine WL.nil ?_
    obtain rfl := Option.some.inj hm
    exact WQ.round hK81 ⟨(wI64 (st74 + 1)), rfl, hb103, hL104, hS105, hl79⟩ (Nat.lt_succ_self _) ⟨rfl, rfl, rfl, trivial⟩
  have hm := iteT hm hc106
  refine WP.seq (fun K107 hK107 => ?_)
  refine WP.region ?_
  refine WL.runk 1 [2] [(2, .bool false)] (by kernel_rfl) ?_
  refine WL.nil ?_
  refine WQ.then_normal (hK107 _ _ _ ?_)
  refine WP.ret ?_
  refine WQ.block_ret ?_
  refine WQ.then_ret ?_
  refine WQ.then_ret ?_
  refine WQ.block_ret ?_
  refine WQ.block_ret ?_
  refine WQ.then_ret ?_
  refine WQ.then_ret ?_
  refine WQ.block_ret ?_
  refine WQ.then_ret ?_
  obtain rfl := Option.some.inj hm
  obtain rfl := afterN_done hl79
  have hm := hmo80
  obtain rfl := Option.some.inj hm
  obtain rfl := afterN_done hl9
  have hm := hmo10
  obtain rfl := Option.some.inj hm
  exact WQ.ret1 _ rfl rfl ⟨rfl, hb103⟩

theorem c_17 (n : Nat) (a_0 : List (List UInt8)) (a0' : Option Addr) (c0' : Nat) (w : World) {r : List (List UInt8)} (hm : m_laws_toStringS n a_0 = some r) (h0 : Rd fStr.ty w a0' a_0) (_hle0 : a_0.length ≤ c0') :
    CallV Try.prog 17 #[.slice a0' a_0.length c0'] w (fun v w' => ∃ (ra0 : Option Addr) (rc0 : Nat), v = .slice ra0 r.length rc0 ∧ Ext w w' ∧ SH w' w.heap.size [aOwn fStr 9 ra0 rc0 r]) := by
  unfold m_laws_toStringS at hm
  refine CallV.enter Try.func17 rfl (by kernel_rfl) Try.ntmps17 (env := [(0, .slice a0' a_0.length c0')]) ⟨rfl, trivial⟩ ?_
  refine WP.seq (fun K1 hK1 => ?_)
  refine WP.region ?_
  refine WL.runk 1 [0] [(0, .slice a0' a_0.length c0')] (by kernel_rfl) ?_
  refine WL.nil ?_
  refine WQ.then_normal (hK1 _ _ _ ?_)
  refine WP.seq (fun K2 hK2 => ?_)
  refine WP.region ?_
  refine WL.runk 2 [0, 6] [(0, .slice a0' a_0.length c0'), (6, .int .i64 (a_0.length : Int))] (by kernel_rfl) ?_
  obtain ⟨x3, hx4, hm⟩ := bindE hm
  refine WL.make fStr 7 hx4 rfl rfl rfl Try.underlying22 (info9).1 (info9).2.2.1 (info9).2.1 (info9).2.2.2 rfl rfl rfl rfl rfl ?_
  intro a5 c6 w7 hE8 hR9
  have hb11 : Ext w w7 := Ext.trans (Ext.refl w) hE8
  have hL12 : w.heap.size ≤ w7.heap.size := Nat.le_trans (Nat.le_refl _) hE8.size
  have hS13 : SH w7 w.heap.size [aOwn fStr 9 a5 c6 x3] := SH.add (SH.nil _ _) hE8 (Nat.le_refl _) hR9
  refine WL.runk 1 [0, 3] [(0, .slice a0' a_0.length c0'), (3, .slice a5 x3.length c6)] (by kernel_rfl) ?_
  refine WL.nil ?_
  refine WQ.then_normal (hK2 _ _ _ ?_)
  refine WP.seq (fun K14 hK14 => ?_)
  refine WP.seq (fun K15 hK15 => ?_)
  refine WP.region ?_
  refine WL.runk 1 [0, 3, 4] [(0, .slice a0' a_0.length c0'), (3, .slice a5 x3.length c6), (4, .int .i64 0)] (by kernel_rfl) ?_
  refine WL.nil ?_
  refine WQ.then_normal (hK15 _ _ _ ?_)
  refine WP.block ?_
  obtain ⟨t54, ht55, hm⟩ := bindE hm
  have hmo49 := hm; clear hm
  refine WP.sub [(0, .slice a0' a_0.length c0'), (3, .slice a5 x3.length c6), (4, .int .i64 0)] ⟨rfl, rfl, rfl, trivial⟩ ?_
  refine WP.loop (fun n' env' w' => ∃ (st43 : Int × List (List UInt8)) , env' = [(0, .slice a0' a_0.length c0'), (3, .slice a5 st43.2.length c6), (4, .int .i64 st43.1)] ∧ Ext w w' ∧ w.heap.size ≤ w'.heap.size ∧ SH w' w.heap.size [aOwn fStr 9 a5 c6 st43.2] ∧ loopN (m_laws_toStringS_l1 n a_0) n' st43 = some t54) n ⟨(0, x3), rfl, hb11, hL12, hS13, ht55⟩ ?_
  rintro n51 _ w44 ⟨st43, rfl, hb45, hL46, hS47, hl48⟩ K50 hK50
  obtain ⟨n52, s53, rfl, hm, hl48⟩ := loopN_some hl48
  unfold m_laws_toStringS_l1 at hm
  refine WP.seq (fun K56 hK56 => ?_)
  refine WP.seq (fun K57 hK57 => ?_)
  refine WP.region ?_
  refine WL.runk 4 [0, 3, 4, 11] [(0, .slice a0' a_0.length c0'), (3, .slice a5 st43.2.length c6), (4, .int .i64 st43.1), (11, .bool (decide (st43.1 < (a_0.length : Int))))] (by kernel_rfl) ?_
  refine WL.nil ?_
  refine WQ.then_normal (hK57 _ _ _ ?_)
  refine WP.cond (decide (st43.1 < (a_0.length : Int))) rfl rfl (fun hc58 => ?_) (fun hc58 => ?_)
  rotate_left
  · have hm := iteF hm hc58
    refine WP.exit ?_
    refine WQ.then_exit ?_
    refine WQ.then_exit ?_
    refine WQ.block_here ?_
    obtain rfl := Option.some.inj hm
    obtain rfl := afterN_done hl48
    have hm := hmo49
    refine WQ.then_normal (hK14 _ _ _ ?_)
    refine WP.seq (fun K69 hK69 => ?_)
    refine WP.region ?_
    refine WL.runk 2 [2] [(2, .slice a5 st43.2.length c6)] (by kernel_rfl) ?_
    refine WL.nil ?_
    refine WQ.then_normal (hK69 _ _ _ ?_)
    refine WP.ret ?_
    obtain rfl := Option.some.inj hm
    exact WQ.ret1 _ rfl rfl ⟨_, _, rfl, hb45, hS47⟩
  have hm := iteT hm hc58
  refine WP.skip ?_
  refine WQ.then_normal (hK56 _ _ _ ?_)
  refine WP.seq (fun K59 hK59 => ?_)
  refine WP.block ?_
  refine WP.region ?_
  refine WL.runk 4 [0, 3, 4, 14, 15, 16, 17] [(0, .slice a0' a_0.length c0'), (3, .slice a5 st43.2.length c6), (4, .int .i64 st43.1), (14, .slice a5 st43.2.length c6), (15, .int .i64 st43.1), (16, .slice a0' a_0.length c0'), (17, .int .i64 st43.1)] (by kernel_rfl) ?_
  obtain ⟨x60, hx61, hm⟩ := bindE hm
  refine WL.st (.pointer (some (at_ a0' (Int.toNat st43.1 * 1)))) (ST.index (T := fStr.ty) (xs := a_0) (Rd.below h0 hb45) hx61 rfl rfl rfl Try.underlying22 (info9).1 (info9).2.1) rfl rfl rfl ?_
  refine WL.st (.string (bs x60)) (ST.load (cell_ext (Rd.flat (F := fStr) (Rd.below h0 hb45) hx61 0 rfl)) rfl rfl Try.underlying9 rfl) rfl rfl rfl ?_
  obtain ⟨x62, hx63, hm⟩ := bindE hm
  refine WL.st (.pointer (some (at_ a5 (Int.toNat st43.1 * 1)))) (ST.index (T := fStr.ty) (xs := st43.2) (SH.rd (SH.front 0 hS47)) hx63 rfl rfl rfl Try.underlying22 (info9).1 (info9).2.1) rfl rfl rfl ?_
  refine WL.store (F := fStr) x60 0 [.string (bs x60)] (SH.front 0 hS47) hL46 hx63 rfl rfl rfl rfl rfl rfl rfl (info9).1 (info9).2.1 rfl rfl rfl ?_
  intro w64 hB65 hS66
  have hb67 : Ext w w64 := Below.trans hb45 hB65
  have hL68 : w.heap.size ≤ w64.heap.size := Nat.le_trans hL46 hB65.size
  refine WL.sub [(0, .slice a0' a_0.length c0'), (3, .slice a5 ((st43.2.set (Int.toNat st43.1) x60).length) c6), (4, .int .i64 st43.1), (14, .slice a5 ((st43.2.set (Int.toNat st43.1) x60).length) c6), (15, .int .i64 st43.1), (16, .slice a0' a_0.length c0'), (17, .int .i64 st43.1), (18, .pointer (some (at_ a0' (Int.toNat st43.1 * 1)))), (19, .string (bs x60))] ⟨rfl, by first | (simp only [List.length_set]; done) | (simp only [List.length_set]; rfl), rfl, by first | (simp only [List.length_set]; done) | (simp only [List.length_set]; rfl), rfl, rfl, rfl, rfl, rfl, trivial⟩ ?_
  refine WL.sub [(0, .slice a0' a_0.length c0'), (3, .slice a5 ((st43.2.set (Int.toNat st43.1) x60).length) c6), (4, .int .i64 st43.1)] ⟨rfl, rfl, rfl, trivial⟩ ?_
  refine WL.nil ?_
  refine WQ.block_normal ?_
  refine WQ.then_normal (hK59 _ _ _ ?_)
  refine WP.region ?_
  refine WL.runk 3 [0, 3, 4] [(0, .slice a0' a_0.length c0'), (3, .slice a5 ((st43.2.set (Int.toNat st43.1) x60).length) c6), (4, .int .i64 (wI64 (st43.1 + 1)))] (by kernel_rfl) ?_
  refine WL.nil ?_
  obtain rfl := Option.some.inj hm
  exact WQ.round hK50 ⟨((wI64 (st43.1 + 1)), (st43.2.set (Int.toNat st43.1) x60)), rfl, hb67, hL68, hS66, hl48⟩ (Nat.lt_succ_self _) ⟨rfl, rfl, rfl, trivial⟩

theorem c_50 (n : Nat) (n_0 : Int) (low_1 : Int) (high_2 : Int) (w : World) {r : Bool} (hm : m_impl_within n n_0 low_1 high_2 = some r)  :
    CallV Try.prog 50 #[.int .i64 n_0, .int .i64 low_1, .int .i64 high_2] w (fun v w' => v = .bool r ∧ Ext w w') := by
  unfold m_impl_within at hm
  refine CallV.enter Try.func50 rfl (by kernel_rfl) Try.ntmps50 (env := [(0, .int .i64 n_0), (1, .int .i64 low_1), (2, .int .i64 high_2)]) ⟨rfl, rfl, rfl, trivial⟩ ?_
  refine WP.seq (fun K1 hK1 => ?_)
  refine WP.region ?_
  refine WL.runk 1 [0, 1, 2] [(0, .int .i64 n_0), (1, .int .i64 low_1), (2, .int .i64 high_2)] (by kernel_rfl) ?_
  refine WL.nil ?_
  refine WQ.then_normal (hK1 _ _ _ ?_)
  refine WP.seq (fun K2 hK2 => ?_)
  obtain ⟨x4, hx5, hm⟩ := bindE hm
  refine WP.cut (fun env' w' => env' = [(6, .bool x4)] ∧ Ext w w' ∧ w.heap.size ≤ w'.heap.size ∧ SH w' w.heap.size []) ?_ ?_
  rotate_left
  · clear hx5
    rintro _ w7 ⟨rfl, hb8, hL9, hS10⟩
    refine WQ.then_normal (hK2 _ _ _ ?_)
    refine WP.ret ?_
    obtain rfl := Option.some.inj hm
    exact WQ.ret1 _ rfl rfl ⟨rfl, hb8⟩
  have hm := hx5; clear hx5
  refine WP.region ?_
  refine WL.runk 4 [0, 2, 10] [(0, .int .i64 n_0), (2, .int .i64 high_2), (10, .bool (decide (n_0 ≥ low_1)))] (by kernel_rfl) ?_
  refine WL.case (decide (n_0 ≥ low_1)) [10] ⟨rfl, trivial⟩ (fun hc6 => ?_) (fun hc6 => ?_)
  · have hm := iteT hm hc6
    refine WL.runk 5 [6] [(6, .bool (decide (n_0 ≤ high_2)))] (by kernel_rfl) ?_
    refine WL.nil ?_
    obtain rfl := Option.some.inj hm
    exact WQ.post' ⟨rfl, (Ext.refl w), (Nat.le_refl _), (SH.nil _ _)⟩ ⟨rfl, trivial⟩
  have hm := iteF hm hc6
  refine WL.runk 5 [6] [(6, .bool false)] (by kernel_rfl) ?_
  refine WL.nil ?_
  obtain rfl := Option.some.inj hm
  exact WQ.post' ⟨rfl, (Ext.refl w), (Nat.le_refl _), (SH.nil _ _)⟩ ⟨rfl, trivial⟩

theorem c_18 (n : Nat) (rows_0 : List (List UInt8)) (a0' : Option Addr) (c0' : Nat) (w : World) {r : Bool} (hm : m_impl_ValidWear n rows_0 = some r) (h0 : Rd fStr.ty w a0' rows_0) (_hle0 : rows_0.length ≤ c0') :
    CallV Try.prog 18 #[.slice a0' rows_0.length c0'] w (fun v w' => v = .bool r ∧ Ext w w') := by
  unfold m_impl_ValidWear at hm
  refine CallV.enter Try.func18 rfl (by kernel_rfl) Try.ntmps18 (env := [(0, .slice a0' rows_0.length c0')]) ⟨rfl, trivial⟩ ?_
  refine WP.seq (fun K1 hK1 => ?_)
  refine WP.region ?_
  refine WL.runk 1 [0] [(0, .slice a0' rows_0.length c0')] (by kernel_rfl) ?_
  refine WL.nil ?_
  refine WQ.then_normal (hK1 _ _ _ ?_)
  refine WP.seq (fun K2 hK2 => ?_)
  refine WP.seq (fun K3 hK3 => ?_)
  obtain ⟨x23, hx24, hm⟩ := bindE hm
  refine WP.cut (fun env' w' => env' = [(0, .slice a0' rows_0.length c0'), (17, .bool x23)] ∧ Ext w w' ∧ w.heap.size ≤ w'.heap.size ∧ SH w' w.heap.size []) ?_ ?_
  · have hm := hx24; clear hx24
    refine WP.region ?_
    refine WL.runk 2 [0, 7] [(0, .slice a0' rows_0.length c0'), (7, .int .i64 (rows_0.length : Int))] (by kernel_rfl) ?_
    obtain ⟨x25, hx26, hm⟩ := bindE hm
    refine WL.call 50 #[.int .i64 (rows_0.length : Int), .int .i64 2, .int .i64 12] rfl rfl (by kernel_rfl) (c_50 n (rows_0.length : Int) 2 12 w hx26 ) ?_
    rintro _ w27 ⟨rfl, hE28⟩
    refine ⟨_, rfl, ?_⟩
    have hb30 : Ext w w27 := Ext.trans (Ext.refl w) hE28
    have hL31 : w.heap.size ≤ w27.heap.size := Nat.le_trans (Nat.le_refl _) hE28.size
    have hS32 : SH w27 w.heap.size [] := SH.ext (SH.nil _ _) hE28
    refine WL.runk 2 [0, 10] [(0, .slice a0' rows_0.length c0'), (10, .bool (!x25))] (by kernel_rfl) ?_
    refine WL.case (!x25) [10] ⟨rfl, trivial⟩ (fun hc33 => ?_) (fun hc33 => ?_)
    · have hm := iteT hm hc33
      refine WL.runk 7 [0, 17] [(0, .slice a0' rows_0.length c0'), (17, .bool true)] (by kernel_rfl) ?_
      refine WL.nil ?_
      obtain rfl := Option.some.inj hm
      exact WQ.post' ⟨rfl, hb30, hL31, hS32⟩ ⟨rfl, rfl, trivial⟩
    have hm := iteF hm hc33
    refine WL.runk 1 [0, 10, 11] [(0, .slice a0' rows_0.length c0'), (10, .bool false), (11, .slice a0' rows_0.length c0')] (by kernel_rfl) ?_
    obtain ⟨x34, hx35, hm⟩ := bindE hm
    refine WL.st (.pointer (some (at_ a0' (Int.toNat 0 * 1)))) (ST.index (T := fStr.ty) (xs := rows_0) (Rd.below h0 hb30) hx35 rfl rfl rfl Try.underlying22 (info9).1 (info9).2.1) rfl rfl rfl ?_
    refine WL.st (.string (bs x34)) (ST.load (cell_ext (Rd.flat (F := fStr) (Rd.below h0 hb30) hx35 0 rfl)) rfl rfl Try.underlying9 rfl) rfl rfl rfl ?_
    refine WL.runk 1 [0, 10, 14] [(0, .slice a0' rows_0.length c0'), (10, .bool false), (14, .int .i64 (x34.length : Int))] (by kernel_rfl) ?_
    obtain ⟨x36, hx37, hm⟩ := bindE hm
    refine WL.call 50 #[.int .i64 (x34.length : Int), .int .i64 2, .int .i64 8] rfl rfl (by kernel_rfl) (c_50 n (x34.length : Int) 2 8 w27 hx37 ) ?_
    rintro _ w38 ⟨rfl, hE39⟩
    refine ⟨_, rfl, ?_⟩
    have hb41 : Ext w w38 := Ext.trans hb30 hE39
    have hL42 : w.heap.size ≤ w38.heap.size := Nat.le_trans hL31 hE39.size
    have hS43 : SH w38 w.heap.size [] := SH.ext hS32 hE39
    refine WL.runk 2 [0, 17] [(0, .slice a0' rows_0.length c0'), (17, .bool (!x36))] (by kernel_rfl) ?_
    refine WL.nil ?_
    obtain rfl := Option.some.inj hm
    exact WQ.post' ⟨rfl, hb41, hL42, hS43⟩ ⟨rfl, rfl, trivial⟩
  clear hx24
  rintro _ w44 ⟨rfl, hb45, hL46, hS47⟩
  refine WQ.then_normal (hK3 _ _ _ ?_)
  refine WP.cond x23 rfl rfl (fun hc48 => ?_) (fun hc48 => ?_)
  · have hm := iteT hm hc48
    refine WP.seq (fun K49 hK49 => ?_)
    refine WP.region ?_
    refine WL.runk 1 [2] [(2, .bool false)] (by kernel_rfl) ?_
    refine WL.nil ?_
    refine WQ.then_normal (hK49 _ _ _ ?_)
    refine WP.ret ?_
    refine WQ.then_ret ?_
    obtain rfl := Option.some.inj hm
    exact WQ.ret1 _ rfl rfl ⟨rfl, hb45⟩
  have hm := iteF hm hc48
  refine WP.skip ?_
  refine WQ.then_normal (hK2 _ _ _ ?_)
  refine WP.seq (fun K50 hK50 => ?_)
  refine WP.seq (fun K51 hK51 => ?_)
  refine WP.region ?_
  refine WL.runk 3 [0, 18, 19, 20] [(0, .slice a0' rows_0.length c0'), (18, .slice a0' rows_0.length c0'), (19, .int .i64 (rows_0.length : Int)), (20, .int .i64 0)] (by kernel_rfl) ?_
  refine WL.nil ?_
  refine WQ.then_normal (hK51 _ _ _ ?_)
  refine WP.block ?_
  obtain ⟨t63, ht64, hm⟩ := bindE hm
  have hmo58 := hm; clear hm
  refine WP.sub [(0, .slice a0' rows_0.length c0'), (18, .slice a0' rows_0.length c0'), (19, .int .i64 (rows_0.length : Int)), (20, .int .i64 0)] ⟨rfl, rfl, rfl, rfl, trivial⟩ ?_
  refine WP.loop (fun n' env' w' => ∃ (st52 : Int) , env' = [(0, .slice a0' rows_0.length c0'), (18, .slice a0' rows_0.length c0'), (19, .int .i64 (rows_0.length : Int)), (20, .int .i64 st52)] ∧ Ext w w' ∧ w.heap.size ≤ w'.heap.size ∧ SH w' w.heap.size [] ∧ loopN (m_impl_ValidWear_l1 n rows_0) n' st52 = some t63) n ⟨0, rfl, hb45, hL46, hS47, ht64⟩ ?_
  rintro n60 _ w53 ⟨st52, rfl, hb54, hL55, hS56, hl57⟩ K59 hK59
  obtain ⟨n61, s62, rfl, hm, hl57⟩ := loopN_some hl57
  unfold m_impl_ValidWear_l1 at hm
  refine WP.seq (fun K65 hK65 => ?_)
  refine WP.region ?_
  refine WL.runk 1 [0, 18, 19, 20, 21] [(0, .slice a0' rows_0.length c0'), (18, .slice a0' rows_0.length c0'), (19, .int .i64 (rows_0.length : Int)), (20, .int .i64 st52), (21, .bool (decide (st52 < (rows_0.length : Int))))] (by kernel_rfl) ?_
  refine WL.nil ?_
  refine WQ.then_normal (hK65 _ _ _ ?_)
  refine WP.seq (fun K66 hK66 => ?_)
  refine WP.cond (decide (st52 < (rows_0.length : Int))) rfl rfl (fun hc67 => ?_) (fun hc67 => ?_)
  rotate_left
  · have hm := iteF hm hc67
    refine WP.exit ?_
    refine WQ.then_exit ?_
    refine WQ.then_exit ?_
    refine WQ.block_here ?_
    obtain rfl := Option.some.inj hm
    obtain rfl := afterN_done hl57
    have hm := hmo58
    refine WQ.then_normal (hK50 _ _ _ ?_)
    refine WP.seq (fun K117 hK117 => ?_)
    refine WP.region ?_
    refine WL.runk 1 [2] [(2, .bool true)] (by kernel_rfl) ?_
    refine WL.nil ?_
    refine WQ.then_normal (hK117 _ _ _ ?_)
    refine WP.ret ?_
    obtain rfl := Option.some.inj hm
    exact WQ.ret1 _ rfl rfl ⟨rfl, hb54⟩
  have hm := iteT hm hc67
  refine WP.skip ?_
  refine WQ.then_normal (hK66 _ _ _ ?_)
  refine WP.seq (fun K68 hK68 => ?_)
  refine WP.block ?_
  refine WP.seq (fun K69 hK69 => ?_)
  refine WP.region ?_
  obtain ⟨x70, hx71, hm⟩ := bindE hm
  refine WL.st (.pointer (some (at_ a0' (Int.toNat st52 * 1)))) (ST.index (T := fStr.ty) (xs := rows_0) (Rd.below h0 hb54) hx71 rfl rfl rfl Try.underlying22 (info9).1 (info9).2.1) rfl rfl rfl ?_
  refine WL.st (.string (bs x70)) (ST.load (cell_ext (Rd.flat (F := fStr) (Rd.below h0 hb54) hx71 0 rfl)) rfl rfl Try.underlying9 rfl) rfl rfl rfl ?_
  refine WL.runk 1 [0, 4, 18, 19, 20] [(0, .slice a0' rows_0.length c0'), (18, .slice a0' rows_0.length c0'), (19, .int .i64 (rows_0.length : Int)), (20, .int .i64 st52), (4, .string (bs x70))] (by kernel_rfl) ?_
  refine WL.nil ?_
  refine WQ.then_normal (hK69 _ _ _ ?_)
  refine WP.seq (fun K72 hK72 => ?_)
  refine WP.seq (fun K73 hK73 => ?_)
  refine WP.region ?_
  refine WL.runk 3 [0, 4, 18, 19, 20, 25, 26] [(0, .slice a0' rows_0.length c0'), (18, .slice a0' rows_0.length c0'), (19, .int .i64 (rows_0.length : Int)), (20, .int .i64 st52), (4, .string (bs x70)), (25, .int .i64 (x70.length : Int)), (26, .slice a0' rows_0.length c0')] (by kernel_rfl) ?_
  obtain ⟨x74, hx75, hm⟩ := bindE hm
  refine WL.st (.pointer (some (at_ a0' (Int.toNat 0 * 1)))) (ST.index (T := fStr.ty) (xs := rows_0) (Rd.below h0 hb54) hx75 rfl rfl rfl Try.underlying22 (info9).1 (info9).2.1) rfl rfl rfl ?_
  refine WL.st (.string (bs x74)) (ST.load (cell_ext (Rd.flat (F := fStr) (Rd.below h0 hb54) hx75 0 rfl)) rfl rfl Try.underlying9 rfl) rfl rfl rfl ?_
  refine WL.runk 2 [0, 4, 18, 19, 20, 30] [(0, .slice a0' rows_0.length c0'), (18, .slice a0' rows_0.length c0'), (19, .int .i64 (rows_0.length : Int)), (20, .int .i64 st52), (4, .string (bs x70)), (30, .bool ((x70.length : Int) != (x74.length : Int)))] (by kernel_rfl) ?_
  refine WL.nil ?_
  refine WQ.then_normal (hK73 _ _ _ ?_)
  refine WP.cond ((x70.length : Int) != (x74.length : Int)) rfl rfl (fun hc76 => ?_) (fun hc76 => ?_)
  · have hm := iteT hm hc76
    refine WP.seq (fun K77 hK77 => ?_)
    refine WP.region ?_
    refine WL.runk 1 [2] [(2, .bool false)] (by kernel_rfl) ?_
    refine WL.nil ?_
    refine WQ.then_normal (hK77 _ _ _ ?_)
    refine WP.ret ?_
    refine WQ.then_ret ?_
    refine WQ.block_ret ?_
    refine WQ.then_ret ?_
    refine WQ.then_ret ?_
    refine WQ.block_ret ?_
    refine WQ.then_ret ?_
    obtain rfl := Option.some.inj hm
    obtain rfl := afterN_done hl57
    have hm := hmo58
    obtain rfl := Option.some.inj hm
    exact WQ.ret1 _ rfl rfl ⟨rfl, hb54⟩
  have hm := iteF hm hc76
  refine WP.skip ?_
  refine WQ.then_normal (hK72 _ _ _ ?_)
  refine WP.seq (fun K78 hK78 => ?_)
  refine WP.region ?_
  refine WL.runk 3 [0, 4, 18, 19, 20, 32, 33] [(0, .slice a0' rows_0.length c0'), (18, .slice a0' rows_0.length c0'), (19, .int .i64 (rows_0.length : Int)), (20, .int .i64 st52), (4, .string (bs x70)), (32, .int .i64 (x70.length : Int)), (33, .int .i64 0)] (by kernel_rfl) ?_
  refine WL.nil ?_
  refine WQ.then_normal (hK78 _ _ _ ?_)
  refine WP.block ?_
  obtain ⟨t90, ht91, hm⟩ := bindE hm
  have hmo85 := hm; clear hm
  refine WP.sub [(0, .slice a0' rows_0.length c0'), (18, .slice a0' rows_0.length c0'), (19, .int .i64 (rows_0.length : Int)), (20, .int .i64 st52), (4, .string (bs x70)), (32, .int .i64 (x70.length : Int)), (33, .int .i64 0)] ⟨rfl, rfl, rfl, rfl, rfl, rfl, rfl, trivial⟩ ?_
  refine WP.loop (fun n' env' w' => ∃ (st79 : Int) , env' = [(0, .slice a0' rows_0.length c0'), (18, .slice a0' rows_0.length c0'), (19, .int .i64 (rows_0.length : Int)), (20, .int .i64 st52), (4, .string (bs x70)), (32, .int .i64 (x70.length : Int)), (33, .int .i64 st79)] ∧ Ext w w' ∧ w.heap.size ≤ w'.heap.size ∧ SH w' w.heap.size [] ∧ loopN (m_impl_ValidWear_l2 n x70) n' st79 = some t90) n ⟨0, rfl, hb54, hL55, hS56, ht91⟩ ?_
  rintro n87 _ w80 ⟨st79, rfl, hb81, hL82, hS83, hl84⟩ K86 hK86
  obtain ⟨n88, s89, rfl, hm, hl84⟩ := loopN_some hl84
  unfold m_impl_ValidWear_l2 at hm
  refine WP.seq (fun K92 hK92 => ?_)
  refine WP.region ?_
  refine WL.runk 1 [0, 4, 18, 19, 20, 32, 33, 34] [(0, .slice a0' rows_0.length c0'), (18, .slice a0' rows_0.length c0'), (19, .int .i64 (rows_0.length : Int)), (20, .int .i64 st52), (4, .string (bs x70)), (32, .int .i64 (x70.length : Int)), (33, .int .i64 st79), (34, .bool (decide (st79 < (x70.length : Int))))] (by kernel_rfl) ?_
  refine WL.nil ?_
  refine WQ.then_normal (hK92 _ _ _ ?_)
  refine WP.seq (fun K93 hK93 => ?_)
  refine WP.cond (decide (st79 < (x70.length : Int))) rfl rfl (fun hc94 => ?_) (fun hc94 => ?_)
  rotate_left
  · have hm := iteF hm hc94
    refine WP.exit ?_
    refine WQ.then_exit ?_
    refine WQ.then_exit ?_
    refine WQ.block_here ?_
    obtain rfl := Option.some.inj hm
    obtain rfl := afterN_done hl84
    have hm := hmo85
    refine WQ.block_normal ?_
    refine WQ.then_normal (hK68 _ _ _ ?_)
    refine WP.region ?_
    refine WL.runk 2 [0, 18, 19, 20] [(0, .slice a0' rows_0.length c0'), (18, .slice a0' rows_0.length c0'), (19, .int .i64 (rows_0.length : Int)), (20, .int .i64 (wI64 (st52 + 1)))] (by kernel_rfl) ?_
    refine WL.nil ?_
    obtain rfl := Option.some.inj hm
    exact WQ.round hK59 ⟨(wI64 (st52 + 1)), rfl, hb81, hL82, hS83, hl57⟩ (Nat.lt_succ_self _) ⟨rfl, rfl, rfl, rfl, trivial⟩
  have hm := iteT hm hc94
  refine WP.skip ?_
  refine WQ.then_normal (hK93 _ _ _ ?_)
  refine WP.seq (fun K95 hK95 => ?_)
  refine WP.block ?_
  refine WP.seq (fun K96 hK96 => ?_)
  refine WP.region ?_
  refine WL.runk 2 [0, 4, 5, 18, 19, 20, 32, 33] [(0, .slice a0' rows_0.length c0'), (18, .slice a0' rows_0.length c0'), (19, .int .i64 (rows_0.length : Int)), (20, .int .i64 st52), (4, .string (bs x70)), (32, .int .i64 (x70.length : Int)), (33, .int .i64 st79), (5, .int .i64 st79)] (by kernel_rfl) ?_
  refine WL.nil ?_
  refine WQ.then_normal (hK96 _ _ _ ?_)
  refine WP.seq (fun K97 hK97 => ?_)
  obtain ⟨x103, hx104, hm⟩ := bindE hm
  refine WP.cut (fun env' w' => env' = [(0, .slice a0' rows_0.length c0'), (18, .slice a0' rows_0.length c0'), (19, .int .i64 (rows_0.length : Int)), (20, .int .i64 st52), (4, .string (bs x70)), (32, .int .i64 (x70.length : Int)), (33, .int .i64 st79), (45, .bool x103)] ∧ Ext w w' ∧ w.heap.size ≤ w'.heap.size ∧ SH w' w.heap.size []) ?_ ?_
  · have hm := hx104; clear hx104
    refine WP.region ?_
    refine WL.runk 2 [0, 4, 5, 18, 19, 20, 32, 33, 36, 37] [(0, .slice a0' rows_0.length c0'), (18, .slice a0' rows_0.length c0'), (19, .int .i64 (rows_0.length : Int)), (20, .int .i64 st52), (4, .string (bs x70)), (32, .int .i64 (x70.length : Int)), (33, .int .i64 st79), (5, .int .i64 st79), (36, .string (bs x70)), (37, .int .i64 st79)] (by kernel_rfl) ?_
    obtain ⟨x105, hx106, hm⟩ := bindE hm
    refine WL.st (.int .u8 (x105.toNat : Int)) (ST.sindex hx106 rfl rfl rfl Try.underlying9) rfl rfl rfl ?_
    refine WL.runk 2 [0, 4, 5, 18, 19, 20, 32, 33, 40] [(0, .slice a0' rows_0.length c0'), (18, .slice a0' rows_0.length c0'), (19, .int .i64 (rows_0.length : Int)), (20, .int .i64 st52), (4, .string (bs x70)), (32, .int .i64 (x70.length : Int)), (33, .int .i64 st79), (5, .int .i64 st79), (40, .bool (decide ((x105.toNat : Int) < 48)))] (by kernel_rfl) ?_
    refine WL.case (decide ((x105.toNat : Int) < 48)) [40] ⟨rfl, trivial⟩ (fun hc107 => ?_) (fun hc107 => ?_)
    · have hm := iteT hm hc107
      refine WL.runk 5 [0, 4, 18, 19, 20, 32, 33, 45] [(0, .slice a0' rows_0.length c0'), (18, .slice a0' rows_0.length c0'), (19, .int .i64 (rows_0.length : Int)), (20, .int .i64 st52), (4, .string (bs x70)), (32, .int .i64 (x70.length : Int)), (33, .int .i64 st79), (45, .bool true)] (by kernel_rfl) ?_
      refine WL.nil ?_
      obtain rfl := Option.some.inj hm
      exact WQ.post' ⟨rfl, hb81, hL82, hS83⟩ ⟨rfl, rfl, rfl, rfl, rfl, rfl, rfl, rfl, trivial⟩
    have hm := iteF hm hc107
    refine WL.runk 2 [0, 4, 18, 19, 20, 32, 33, 40, 41, 42] [(0, .slice a0' rows_0.length c0'), (18, .slice a0' rows_0.length c0'), (19, .int .i64 (rows_0.length : Int)), (20, .int .i64 st52), (4, .string (bs x70)), (32, .int .i64 (x70.length : Int)), (33, .int .i64 st79), (40, .bool false), (41, .string (bs x70)), (42, .int .i64 st79)] (by kernel_rfl) ?_
    obtain ⟨x108, hx109, hm⟩ := bindE hm
    refine WL.st (.int .u8 (x108.toNat : Int)) (ST.sindex hx109 rfl rfl rfl Try.underlying9) rfl rfl rfl ?_
    refine WL.runk 2 [0, 4, 18, 19, 20, 32, 33, 45] [(0, .slice a0' rows_0.length c0'), (18, .slice a0' rows_0.length c0'), (19, .int .i64 (rows_0.length : Int)), (20, .int .i64 st52), (4, .string (bs x70)), (32, .int .i64 (x70.length : Int)), (33, .int .i64 st79), (45, .bool (decide ((x108.toNat : Int) > 57)))] (by kernel_rfl) ?_
    refine WL.nil ?_
    obtain rfl := Option.some.inj hm
    exact WQ.post' ⟨rfl, hb81, hL82, hS83⟩ ⟨rfl, rfl, rfl, rfl, rfl, rfl, rfl, rfl, trivial⟩
  clear hx104
  rintro _ w110 ⟨rfl, hb111, hL112, hS113⟩
  refine WQ.then_normal (hK97 _ _ _ ?_)
  refine WP.cond x103 rfl rfl (fun hc114 => ?_) (fun hc114 => ?_)
  rotate_left
  · have hm := iteF hm hc114
    refine WP.skip ?_
    refine WQ.block_normal ?_
    refine WQ.then_normal (hK95 _ _ _ ?_)
    refine WP.region ?_
    refine WL.runk 2 [0, 4, 18, 19, 20, 32, 33] [(0, .slice a0' rows_0.length c0'), (18, .slice a0' rows_0.length c0'), (19, .int .i64 (rows_0.length : Int)), (20, .int .i64 st52), (4, .string (bs x70)), (32, .int .i64 (x70.length : Int)), (33, .int .i64 (wI64 (st79 + 1)))] (by kernel_rfl) ?_
    refine WL.nil ?_
    obtain rfl := Option.some.inj hm
    exact WQ.round hK86 ⟨(wI64 (st79 + 1)), rfl, hb111, hL112, hS113, hl84⟩ (Nat.lt_succ_self _) ⟨rfl, rfl, rfl, rfl, rfl, rfl, rfl, trivial⟩
  have hm := iteT hm hc114
  refine WP.seq (fun K115 hK115 => ?_)
  refine WP.region ?_
  refine WL.runk 1 [2] [(2, .bool false)] (by kernel_rfl) ?_
  refine WL.nil ?_
  refine WQ.then_normal (hK115 _ _ _ ?_)
  refine WP.ret ?_
  refine WQ.block_ret ?_
  refine WQ.then_ret ?_
  refine WQ.then_ret ?_
  refine WQ.block_ret ?_
  refine WQ.block_ret ?_
  refine WQ.then_ret ?_
  refine WQ.then_ret ?_
  refine WQ.block_ret ?_
  refine WQ.then_ret ?_
  obtain rfl := Option.some.inj hm
  obtain rfl := afterN_done hl84
  have hm := hmo85
  obtain rfl := Option.some.inj hm
  obtain rfl := afterN_done hl57
  have hm := hmo58
  obtain rfl := Option.some.inj hm
  exact WQ.ret1 _ rfl rfl ⟨rfl, hb111⟩

theorem c_19 (n : Nat) (a_0 : List (List UInt8)) (a0' : Option Addr) (c0' : Nat) (b_1 : List (List UInt8)) (a1' : Option Addr) (c1' : Nat) (w : World) {r : Bool} (hm : m_laws_eqStringS n a_0 b_1 = some r) (h0 : Rd fStr.ty w a0' a_0) (_hle0 : a_0.length ≤ c0') (h1 : Rd fStr.ty w a1' b_1) (_hle1 : b_1.length ≤ c1') :
    CallV Try.prog 19 #[.slice a0' a_0.length c0', .slice a1' b_1.length c1'] w (fun v w' => v = .bool r ∧ Ext w w') := by
  unfold m_laws_eqStringS at hm
  refine CallV.enter Try.func19 rfl (by kernel_rfl) Try.ntmps19 (env := [(0, .slice a0' a_0.length c0'), (1, .slice a1' b_1.length c1')]) ⟨rfl, rfl, trivial⟩ ?_
  refine WP.seq (fun K1 hK1 => ?_)
  refine WP.region ?_
  refine WL.runk 1 [0, 1] [(0, .slice a0' a_0.length c0'), (1, .slice a1' b_1.length c1')] (by kernel_rfl) ?_
  refine WL.nil ?_
  refine WQ.then_normal (hK1 _ _ _ ?_)
  refine WP.seq (fun K2 hK2 => ?_)
  refine WP.seq (fun K3 hK3 => ?_)
  refine WP.region ?_
  refine WL.runk 5 [0, 1, 10] [(0, .slice a0' a_0.length c0'), (1, .slice a1' b_1.length c1'), (10, .bool ((a_0.length : Int) != (b_1.length : Int)))] (by kernel_rfl) ?_
  refine WL.nil ?_
  refine WQ.then_normal (hK3 _ _ _ ?_)
  refine WP.cond ((a_0.length : Int) != (b_1.length : Int)) rfl rfl (fun hc4 => ?_) (fun hc4 => ?_)
  · have hm := iteT hm hc4
    refine WP.seq (fun K5 hK5 => ?_)
    refine WP.region ?_
    refine WL.runk 1 [4] [(4, .bool false)] (by kernel_rfl) ?_
    refine WL.nil ?_
    refine WQ.then_normal (hK5 _ _ _ ?_)
    refine WP.ret ?_
    refine WQ.then_ret ?_
    obtain rfl := Option.some.inj hm
    exact WQ.ret1 _ rfl rfl ⟨rfl, (Ext.refl w)⟩
  have hm := iteF hm hc4
  refine WP.skip ?_
  refine WQ.then_normal (hK2 _ _ _ ?_)
  refine WP.seq (fun K6 hK6 => ?_)
  refine WP.seq (fun K7 hK7 => ?_)
  refine WP.region ?_
  refine WL.runk 1 [0, 1, 5] [(0, .slice a0' a_0.length c0'), (1, .slice a1' b_1.length c1'), (5, .int .i64 0)] (by kernel_rfl) ?_
  refine WL.nil ?_
  refine WQ.then_normal (hK7 _ _ _ ?_)
  refine WP.block ?_
  obtain ⟨t19, ht20, hm⟩ := bindE hm
  have hmo14 := hm; clear hm
  refine WP.sub [(0, .slice a0' a_0.length c0'), (1, .slice a1' b_1.length c1'), (5, .int .i64 0)] ⟨rfl, rfl, rfl, trivial⟩ ?_
  refine WP.loop (fun n' env' w' => ∃ (st8 : Int) , env' = [(0, .slice a0' a_0.length c0'), (1, .slice a1' b_1.length c1'), (5, .int .i64 st8)] ∧ Ext w w' ∧ w.heap.size ≤ w'.heap.size ∧ SH w' w.heap.size [] ∧ loopN (m_laws_eqStringS_l1 n a_0 b_1) n' st8 = some t19) n ⟨0, rfl, (Ext.refl w), (Nat.le_refl _), (SH.nil _ _), ht20⟩ ?_
  rintro n16 _ w9 ⟨st8, rfl, hb10, hL11, hS12, hl13⟩ K15 hK15
  obtain ⟨n17, s18, rfl, hm, hl13⟩ := loopN_some hl13
  unfold m_laws_eqStringS_l1 at hm
  refine WP.seq (fun K21 hK21 => ?_)
  refine WP.seq (fun K22 hK22 => ?_)
  refine WP.region ?_
  refine WL.runk 4 [0, 1, 5, 14] [(0, .slice a0' a_0.length c0'), (1, .slice a1' b_1.length c1'), (5, .int .i64 st8), (14, .bool (decide (st8 < (a_0.length : Int))))] (by kernel_rfl) ?_
  refine WL.nil ?_
  refine WQ.then_normal (hK22 _ _ _ ?_)
  refine WP.cond (decide (st8 < (a_0.length : Int))) rfl rfl (fun hc23 => ?_) (fun hc23 => ?_)
  rotate_left
  · have hm := iteF hm hc23
    refine WP.exit ?_
    refine WQ.then_exit ?_
    refine WQ.then_exit ?_
    refine WQ.block_here ?_
    obtain rfl := Option.some.inj hm
    obtain rfl := afterN_done hl13
    have hm := hmo14
    refine WQ.then_normal (hK6 _ _ _ ?_)
    refine WP.seq (fun K37 hK37 => ?_)
    refine WP.region ?_
    refine WL.runk 1 [4] [(4, .bool true)] (by kernel_rfl) ?_
    refine WL.nil ?_
    refine WQ.then_normal (hK37 _ _ _ ?_)
    refine WP.ret ?_
    obtain rfl := Option.some.inj hm
    exact WQ.ret1 _ rfl rfl ⟨rfl, hb10⟩
  have hm := iteT hm hc23
  refine WP.skip ?_
  refine WQ.then_normal (hK21 _ _ _ ?_)
  refine WP.seq (fun K24 hK24 => ?_)
  refine WP.block ?_
  refine WP.seq (fun K25 hK25 => ?_)
  refine WP.quiet (by kernel_rfl) (by kernel_rfl) ?_
  refine QL.step1v 17 (.slice a0' a_0.length c0') rfl (fun _ => by kernel_rfl) ?_
  refine QL.step1v 18 (.int .i64 st8) rfl (fun _ => by kernel_rfl) ?_
  refine QL.subk [0, 1, 5, 17, 18] [(0, .slice a0' a_0.length c0'), (1, .slice a1' b_1.length c1'), (5, .int .i64 st8), (17, .slice a0' a_0.length c0'), (18, .int .i64 st8)] (by kernel_rfl) ?_
  obtain ⟨x26, hx27, hm⟩ := bindE hm
  refine QL.st (.pointer (some (at_ a0' (Int.toNat st8 * 1)))) (ST.index (T := fStr.ty) (xs := a_0) (Rd.below h0 hb10) hx27 rfl rfl rfl Try.underlying22 (info9).1 (info9).2.1) rfl rfl rfl ?_
  refine QL.st (.string (bs x26)) (ST.load (cell_ext (Rd.flat (F := fStr) (Rd.below h0 hb10) hx27 0 rfl)) rfl rfl Try.underlying9 rfl) rfl rfl rfl ?_
  refine QL.step1v 21 (.slice a1' b_1.length c1') rfl (fun _ => by kernel_rfl) ?_
  refine QL.step1v 22 (.int .i64 st8) rfl (fun _ => by kernel_rfl) ?_
  refine QL.subk [0, 1, 5, 20, 21, 22] [(0, .slice a0' a_0.length c0'), (1, .slice a1' b_1.length c1'), (5, .int .i64 st8), (20, .string (bs x26)), (21, .slice a1' b_1.length c1'), (22, .int .i64 st8)] (by kernel_rfl) ?_
  obtain ⟨x28, hx29, hm⟩ := bindE hm
  refine QL.st (.pointer (some (at_ a1' (Int.toNat st8 * 1)))) (ST.index (T := fStr.ty) (xs := b_1) (Rd.below h1 hb10) hx29 rfl rfl rfl Try.underlying22 (info9).1 (info9).2.1) rfl rfl rfl ?_
  refine QL.st (.string (bs x28)) (ST.load (cell_ext (Rd.flat (F := fStr) (Rd.below h1 hb10) hx29 0 rfl)) rfl rfl Try.underlying9 rfl) rfl rfl rfl ?_
  refine QL.st (.bool (!(x26 == x28))) (ST.strne (x := x26) (y := x28) rfl rfl rfl) rfl rfl rfl ?_
  refine QL.subk [0, 1, 5, 25] [(0, .slice a0' a_0.length c0'), (1, .slice a1' b_1.length c1'), (5, .int .i64 st8), (25, .bool (!(x26 == x28)))] (by kernel_rfl) ?_
  refine QL.nil ?_
  intro w30 hE31
  have hb32 : Ext w w30 := Ext.trans hb10 hE31
  have hL33 : w.heap.size ≤ w30.heap.size := Nat.le_trans hL11 hE31.size
  have hS34 : SH w30 w.heap.size [] := SH.ext hS12 hE31
  refine WQ.then_normal (hK25 _ _ _ ?_)
  refine WP.cond (!(x26 == x28)) rfl rfl (fun hc35 => ?_) (fun hc35 => ?_)
  rotate_left
  · have hm := iteF hm hc35
    refine WP.skip ?_
    refine WQ.block_normal ?_
    refine WQ.then_normal (hK24 _ _ _ ?_)
    refine WP.region ?_
    refine WL.runk 3 [0, 1, 5] [(0, .slice a0' a_0.length c0'), (1, .slice a1' b_1.length c1'), (5, .int .i64 (wI64 (st8 + 1)))] (by kernel_rfl) ?_
    refine WL.nil ?_
    obtain rfl := Option.some.inj hm
    exact WQ.round hK15 ⟨(wI64 (st8 + 1)), rfl, hb32, hL33, hS34, hl13⟩ (Nat.lt_succ_self _) ⟨rfl, rfl, rfl, trivial⟩
  have hm := iteT hm hc35
  refine WP.seq (fun K36 hK36 => ?_)
  refine WP.region ?_
  refine WL.runk 1 [4] [(4, .bool false)] (by kernel_rfl) ?_
  refine WL.nil ?_
  refine WQ.then_normal (hK36 _ _ _ ?_)
  refine WP.ret ?_
  refine WQ.block_ret ?_
  refine WQ.then_ret ?_
  refine WQ.then_ret ?_
  refine WQ.block_ret ?_
  refine WQ.then_ret ?_
  obtain rfl := Option.some.inj hm
  obtain rfl := afterN_done hl13
  have hm := hmo14
  obtain rfl := Option.some.inj hm
  exact WQ.ret1 _ rfl rfl ⟨rfl, hb32⟩

theorem c_51 (n : Nat) (rows_0 : List (List UInt8)) (a0' : Option Addr) (c0' : Nat) (least_1 : Int) (w : World) {r : Int} (hm : m_spec_l20Code n rows_0 least_1 = some r) (h0 : Rd fStr.ty w a0' rows_0) (hle0 : rows_0.length ≤ c0') :
    CallV Try.prog 51 #[.slice a0' rows_0.length c0', .int .i64 least_1] w (fun v w' => v = .int .i64 r ∧ Ext w w') := by
  unfold m_spec_l20Code at hm
  refine CallV.enter Try.func51 rfl (by kernel_rfl) Try.ntmps51 (env := [(0, .slice a0' rows_0.length c0'), (1, .int .i64 least_1)]) ⟨rfl, rfl, trivial⟩ ?_
  refine WP.seq (fun K1 hK1 => ?_)
  refine WP.region ?_
  refine WL.runk 1 [0, 1] [(0, .slice a0' rows_0.length c0'), (1, .int .i64 least_1)] (by kernel_rfl) ?_
  refine WL.nil ?_
  refine WQ.then_normal (hK1 _ _ _ ?_)
  refine WP.seq (fun K2 hK2 => ?_)
  refine WP.seq (fun K3 hK3 => ?_)
  refine WP.region ?_
  refine WL.runk 1 [1, 5] [(1, .int .i64 least_1), (5, .slice a0' rows_0.length c0')] (by kernel_rfl) ?_
  obtain ⟨x4, hx5, hm⟩ := bindE hm
  refine WL.call 49 #[.slice a0' rows_0.length c0'] rfl rfl (by kernel_rfl) (c_49 n rows_0 a0' c0' w hx5 (Rd.below h0 (Ext.refl w)) hle0) ?_
  rintro _ w6 ⟨rfl, hE7⟩
  refine ⟨_, rfl, ?_⟩
  have hb9 : Ext w w6 := Ext.trans (Ext.refl w) hE7
  have hL10 : w.heap.size ≤ w6.heap.size := Nat.le_trans (Nat.le_refl _) hE7.size
  have hS11 : SH w6 w.heap.size [] := SH.ext (SH.nil _ _) hE7
  refine WL.runk 1 [1, 7] [(1, .int .i64 least_1), (7, .bool (!x4))] (by kernel_rfl) ?_
  refine WL.nil ?_
  refine WQ.then_normal (hK3 _ _ _ ?_)
  refine WP.cond (!x4) rfl rfl (fun hc12 => ?_) (fun hc12 => ?_)
  · have hm := iteT hm hc12
    refine WP.seq (fun K13 hK13 => ?_)
    refine WP.region ?_
    refine WL.runk 1 [4] [(4, .int .i64 1)] (by kernel_rfl) ?_
    refine WL.nil ?_
    refine WQ.then_normal (hK13 _ _ _ ?_)
    refine WP.ret ?_
    refine WQ.then_ret ?_
    obtain rfl := Option.some.inj hm
    exact WQ.ret1 _ rfl rfl ⟨rfl, hb9⟩
  have hm := iteF hm hc12
  refine WP.skip ?_
  refine WQ.then_normal (hK2 _ _ _ ?_)
  refine WP.seq (fun K14 hK14 => ?_)
  refine WP.seq (fun K15 hK15 => ?_)
  refine WP.region ?_
  refine WL.runk 1 [8] [(8, .int .i64 least_1)] (by kernel_rfl) ?_
  obtain ⟨x16, hx17, hm⟩ := bindE hm
  refine WL.call 71 #[.int .i64 least_1, .int .i64 1, .int .i64 9] rfl rfl (by kernel_rfl) (c_71 n least_1 1 9 w6 hx17 ) ?_
  rintro _ w18 ⟨rfl, hE19⟩
  refine ⟨_, rfl, ?_⟩
  have hb21 : Ext w w18 := Ext.trans hb9 hE19
  have hL22 : w.heap.size ≤ w18.heap.size := Nat.le_trans hL10 hE19.size
  have hS23 : SH w18 w.heap.size [] := SH.ext hS11 hE19
  refine WL.runk 1 [10] [(10, .bool (!x16))] (by kernel_rfl) ?_
  refine WL.nil ?_
  refine WQ.then_normal (hK15 _ _ _ ?_)
  refine WP.cond (!x16) rfl rfl (fun hc24 => ?_) (fun hc24 => ?_)
  · have hm := iteT hm hc24
    refine WP.seq (fun K25 hK25 => ?_)
    refine WP.region ?_
    refine WL.runk 1 [4] [(4, .int .i64 2)] (by kernel_rfl) ?_
    refine WL.nil ?_
    refine WQ.then_normal (hK25 _ _ _ ?_)
    refine WP.ret ?_
    refine WQ.then_ret ?_
    obtain rfl := Option.some.inj hm
    exact WQ.ret1 _ rfl rfl ⟨rfl, hb21⟩
  have hm := iteF hm hc24
  refine WP.skip ?_
  refine WQ.then_normal (hK14 _ _ _ ?_)
  refine WP.seq (fun K26 hK26 => ?_)
  refine WP.region ?_
  refine WL.runk 1 [4] [(4, .int .i64 0)] (by kernel_rfl) ?_
  refine WL.nil ?_
  refine WQ.then_normal (hK26 _ _ _ ?_)
  refine WP.ret ?_
  obtain rfl := Option.some.inj hm
  exact WQ.ret1 _ rfl rfl ⟨rfl, hb21⟩

theorem c_52 (n : Nat) (rows_0 : List (List UInt8)) (a0' : Option Addr) (c0' : Nat) (y_1 : Int) (x_2 : Int) (w : World) {r : Int} (hm : m_spec_l20At n rows_0 y_1 x_2 = some r) (h0 : Rd fStr.ty w a0' rows_0) (_hle0 : rows_0.length ≤ c0') :
    CallV Try.prog 52 #[.slice a0' rows_0.length c0', .int .i64 y_1, .int .i64 x_2] w (fun v w' => v = .int .i64 r ∧ Ext w w') := by
  unfold m_spec_l20At at hm
  refine CallV.enter Try.func52 rfl (by kernel_rfl) Try.ntmps52 (env := [(0, .slice a0' rows_0.length c0'), (1, .int .i64 y_1), (2, .int .i64 x_2)]) ⟨rfl, rfl, rfl, trivial⟩ ?_
  refine WP.seq (fun K1 hK1 => ?_)
  refine WP.region ?_
  refine WL.runk 1 [0, 1, 2] [(0, .slice a0' rows_0.length c0'), (1, .int .i64 y_1), (2, .int .i64 x_2)] (by kernel_rfl) ?_
  refine WL.nil ?_
  refine WQ.then_normal (hK1 _ _ _ ?_)
  refine WP.seq (fun K2 hK2 => ?_)
  refine WP.region ?_
  refine WL.runk 2 [2, 7, 8] [(2, .int .i64 x_2), (7, .slice a0' rows_0.length c0'), (8, .int .i64 y_1)] (by kernel_rfl) ?_
  obtain ⟨x3, hx4, hm⟩ := bindE hm
  refine WL.st (.pointer (some (at_ a0' (Int.toNat y_1 * 1)))) (ST.index (T := fStr.ty) (xs := rows_0) (Rd.below h0 (Ext.refl w)) hx4 rfl rfl rfl Try.underlying22 (info9).1 (info9).2.1) rfl rfl rfl ?_
  refine WL.st (.string (bs x3)) (ST.load (cell_ext (Rd.flat (F := fStr) (Rd.below h0 (Ext.refl w)) hx4 0 rfl)) rfl rfl Try.underlying9 rfl) rfl rfl rfl ?_
  refine WL.runk 1 [10, 11] [(10, .string (bs x3)), (11, .int .i64 x_2)] (by kernel_rfl) ?_
  obtain ⟨x5, hx6, hm⟩ := bindE hm
  refine WL.st (.int .u8 (x5.toNat : Int)) (ST.sindex hx6 rfl rfl rfl Try.underlying9) rfl rfl rfl ?_
  refine WL.runk 3 [6] [(6, .int .i64 (wI64 (IntKind.u8.wrap ((x5.toNat : Int) - 48))))] (by kernel_rfl) ?_
  refine WL.nil ?_
  refine WQ.then_normal (hK2 _ _ _ ?_)
  refine WP.ret ?_
  obtain rfl := Option.some.inj hm
  exact WQ.ret1 _ rfl rfl ⟨rfl, (Ext.refl w)⟩

theorem c_53 (n : Nat) (rows_0 : List (List UInt8)) (a0' : Option Addr) (c0' : Nat) (least_1 : Int) (w : World) {r : Int} (hm : m_impl_wearCode n rows_0 least_1 = some r) (h0 : Rd fStr.ty w a0' rows_0) (hle0 : rows_0.length ≤ c0') :
    CallV Try.prog 53 #[.slice a0' rows_0.length c0', .int .i64 least_1] w (fun v w' => v = .int .i64 r ∧ Ext w w') := by
  unfold m_impl_wearCode at hm
  refine CallV.enter Try.func53 rfl (by kernel_rfl) Try.ntmps53 (env := [(0, .slice a0' rows_0.length c0'), (1, .int .i64 least_1)]) ⟨rfl, rfl, trivial⟩ ?_
  refine WP.seq (fun K1 hK1 => ?_)
  refine WP.region ?_
  refine WL.runk 1 [0, 1] [(0, .slice a0' rows_0.length c0'), (1, .int .i64 least_1)] (by kernel_rfl) ?_
  refine WL.nil ?_
  refine WQ.then_normal (hK1 _ _ _ ?_)
  refine WP.seq (fun K2 hK2 => ?_)
  refine WP.block ?_
  refine WP.seq (fun K3 hK3 => ?_)
  refine WP.region ?_
  refine WL.runk 1 [1, 6] [(1, .int .i64 least_1), (6, .slice a0' rows_0.length c0')] (by kernel_rfl) ?_
  obtain ⟨x4, hx5, hm⟩ := bindE hm
  refine WL.call 18 #[.slice a0' rows_0.length c0'] rfl rfl (by kernel_rfl) (c_18 n rows_0 a0' c0' w hx5 (Rd.below h0 (Ext.refl w)) hle0) ?_
  rintro _ w6 ⟨rfl, hE7⟩
  refine ⟨_, rfl, ?_⟩
  have hb9 : Ext w w6 := Ext.trans (Ext.refl w) hE7
  have hL10 : w.heap.size ≤ w6.heap.size := Nat.le_trans (Nat.le_refl _) hE7.size
  have hS11 : SH w6 w.heap.size [] := SH.ext (SH.nil _ _) hE7
  refine WL.runk 2 [1, 5] [(1, .int .i64 least_1), (5, .bool (!x4))] (by kernel_rfl) ?_
  refine WL.nil ?_
  refine WQ.then_normal (hK3 _ _ _ ?_)
  refine WP.cond (!x4) rfl rfl (fun hc12 => ?_) (fun hc12 => ?_)
  · have hm := iteT hm hc12
    refine WP.seq (fun K13 hK13 => ?_)
    refine WP.region ?_
    refine WL.runk 1 [4] [(4, .int .i64 1)] (by kernel_rfl) ?_
    refine WL.nil ?_
    refine WQ.then_normal (hK13 _ _ _ ?_)
    refine WP.ret ?_
    refine WQ.block_ret ?_
    refine WQ.then_ret ?_
    obtain rfl := Option.some.inj hm
    exact WQ.ret1 _ rfl rfl ⟨rfl, hb9⟩
  have hm := iteF hm hc12
  refine WP.seq (fun K14 hK14 => ?_)
  refine WP.region ?_
  refine WL.runk 1 [10] [(10, .int .i64 least_1)] (by kernel_rfl) ?_
  obtain ⟨x15, hx16, hm⟩ := bindE hm
  refine WL.call 50 #[.int .i64 least_1, .int .i64 1, .int .i64 9] rfl rfl (by kernel_rfl) (c_50 n least_1 1 9 w6 hx16 ) ?_
  rintro _ w17 ⟨rfl, hE18⟩
  refine ⟨_, rfl, ?_⟩
  have hb20 : Ext w w17 := Ext.trans hb9 hE18
  have hL21 : w.heap.size ≤ w17.heap.size := Nat.le_trans hL10 hE18.size
  have hS22 : SH w17 w.heap.size [] := SH.ext hS11 hE18
  refine WL.runk 2 [9] [(9, .bool (!x15))] (by kernel_rfl) ?_
  refine WL.nil ?_
  refine WQ.then_normal (hK14 _ _ _ ?_)
  refine WP.cond (!x15) rfl rfl (fun hc23 => ?_) (fun hc23 => ?_)
  · have hm := iteT hm hc23
    refine WP.seq (fun K24 hK24 => ?_)
    refine WP.region ?_
    refine WL.runk 1 [4] [(4, .int .i64 2)] (by kernel_rfl) ?_
    refine WL.nil ?_
    refine WQ.then_normal (hK24 _ _ _ ?_)
    refine WP.ret ?_
    refine WQ.block_ret ?_
    refine WQ.then_ret ?_
    obtain rfl := Option.some.inj hm
    exact WQ.ret1 _ rfl rfl ⟨rfl, hb20⟩
  have hm := iteF hm hc23
  refine WP.skip ?_
  refine WQ.block_normal ?_
  refine WQ.then_normal (hK2 _ _ _ ?_)
  refine WP.seq (fun K25 hK25 => ?_)
  refine WP.region ?_
  refine WL.runk 1 [4] [(4, .int .i64 0)] (by kernel_rfl) ?_
  refine WL.nil ?_
  refine WQ.then_normal (hK25 _ _ _ ?_)
  refine WP.ret ?_
  obtain rfl := Option.some.inj hm
  exact WQ.ret1 _ rfl rfl ⟨rfl, hb20⟩

theorem c_54 (n : Nat) (rows_0 : List (List UInt8)) (a0' : Option Addr) (c0' : Nat) (w : World) {r : List Int} (hm : m_impl_digits n rows_0 = some r) (h0 : Rd fStr.ty w a0' rows_0) (_hle0 : rows_0.length ≤ c0') :
    CallV Try.prog 54 #[.slice a0' rows_0.length c0'] w (fun v w' => ∃ (ra0 : Option Addr) (rc0 : Nat), v = .slice ra0 r.length rc0 ∧ Ext w w' ∧ SH w' w.heap.size [aOwn fInt 2 ra0 rc0 r]) := by
  unfold m_impl_digits at hm
  refine CallV.enter Try.func54 rfl (by kernel_rfl) Try.ntmps54 (env := [(0, .slice a0' rows_0.length c0')]) ⟨rfl, trivial⟩ ?_
  refine WP.seq (fun K1 hK1 => ?_)
  refine WP.region ?_
  refine WL.runk 1 [0] [(0, .slice a0' rows_0.length c0')] (by kernel_rfl) ?_
  refine WL.nil ?_
  refine WQ.then_normal (hK1 _ _ _ ?_)
  refine WP.seq (fun K2 hK2 => ?_)
  refine WP.region ?_
  refine WL.row fInt 2 ([] : List Int) 0 #[] 7 (by kernel_rfl) rfl rfl rfl rfl rfl rfl rfl ?_
  intro a3 c4 w5 hE6 hR7
  have hb9 : Ext w w5 := Ext.trans (Ext.refl w) hE6
  have hL10 : w.heap.size ≤ w5.heap.size := Nat.le_trans (Nat.le_refl _) hE6.size
  have hS11 : SH w5 w.heap.size [aOwn fInt 2 a3 c4 ([] : List Int)] := SH.add (SH.nil _ _) hE6 (Nat.le_refl _) hR7
  refine WL.runk 1 [0, 3] [(0, .slice a0' rows_0.length c0'), (3, .slice a3 (([] : List Int).length) c4)] (by kernel_rfl) ?_
  refine WL.nil ?_
  refine WQ.then_normal (hK2 _ _ _ ?_)
  refine WP.seq (fun K12 hK12 => ?_)
  refine WP.seq (fun K13 hK13 => ?_)
  refine WP.region ?_
  refine WL.runk 3 [3, 8, 9, 10] [(3, .slice a3 (([] : List Int).length) c4), (8, .slice a0' rows_0.length c0'), (9, .int .i64 (rows_0.length : Int)), (10, .int .i64 0)] (by kernel_rfl) ?_
  refine WL.nil ?_
  refine WQ.then_normal (hK13 _ _ _ ?_)
  refine WP.block ?_
  obtain ⟨t28, ht29, hm⟩ := bindE hm
  have hmo23 := hm; clear hm
  refine WP.sub [(3, .slice a3 (([] : List Int).length) c4), (8, .slice a0' rows_0.length c0'), (9, .int .i64 (rows_0.length : Int)), (10, .int .i64 0)] ⟨rfl, rfl, rfl, rfl, trivial⟩ ?_
  refine WP.loop (fun n' env' w' => ∃ (st14 : List Int × Int) (a15 : Option Addr) (c16 : Nat), env' = [(3, .slice a15 st14.1.length c16), (8, .slice a0' rows_0.length c0'), (9, .int .i64 (rows_0.length : Int)), (10, .int .i64 st14.2)] ∧ Ext w w' ∧ w.heap.size ≤ w'.heap.size ∧ SH w' w.heap.size [aOwn fInt 2 a15 c16 st14.1] ∧ loopN (m_impl_digits_l1 n rows_0) n' st14 = some t28) n ⟨(([] : List Int), 0), _, _, rfl, hb9, hL10, hS11, ht29⟩ ?_
  rintro n25 _ w18 ⟨st14, a15, c16, rfl, hb19, hL20, hS21, hl22⟩ K24 hK24
  obtain ⟨n26, s27, rfl, hm, hl22⟩ := loopN_some hl22
  unfold m_impl_digits_l1 at hm
  refine WP.seq (fun K30 hK30 => ?_)
  refine WP.region ?_
  refine WL.runk 1 [3, 8, 9, 10, 11] [(3, .slice a15 st14.1.length c16), (8, .slice a0' rows_0.length c0'), (9, .int .i64 (rows_0.length : Int)), (10, .int .i64 st14.2), (11, .bool (decide (st14.2 < (rows_0.length : Int))))] (by kernel_rfl) ?_
  refine WL.nil ?_
  refine WQ.then_normal (hK30 _ _ _ ?_)
  refine WP.seq (fun K31 hK31 => ?_)
  refine WP.cond (decide (st14.2 < (rows_0.length : Int))) rfl rfl (fun hc32 => ?_) (fun hc32 => ?_)
  rotate_left
  · have hm := iteF hm hc32
    refine WP.exit ?_
    refine WQ.then_exit ?_
    refine WQ.then_exit ?_
    refine WQ.block_here ?_
    obtain rfl := Option.some.inj hm
    obtain rfl := afterN_done hl22
    have hm := hmo23
    refine WQ.then_normal (hK12 _ _ _ ?_)
    refine WP.seq (fun K83 hK83 => ?_)
    refine WP.region ?_
    refine WL.runk 2 [2] [(2, .slice a15 st14.1.length c16)] (by kernel_rfl) ?_
    refine WL.nil ?_
    refine WQ.then_normal (hK83 _ _ _ ?_)
    refine WP.ret ?_
    obtain rfl := Option.some.inj hm
    exact WQ.ret1 _ rfl rfl ⟨_, _, rfl, hb19, hS21⟩
  have hm := iteT hm hc32
  refine WP.skip ?_
  refine WQ.then_normal (hK31 _ _ _ ?_)
  refine WP.seq (fun K33 hK33 => ?_)
  refine WP.block ?_
  refine WP.seq (fun K34 hK34 => ?_)
  refine WP.region ?_
  obtain ⟨x35, hx36, hm⟩ := bindE hm
  refine WL.st (.pointer (some (at_ a0' (Int.toNat st14.2 * 1)))) (ST.index (T := fStr.ty) (xs := rows_0) (Rd.below h0 hb19) hx36 rfl rfl rfl Try.underlying22 (info9).1 (info9).2.1) rfl rfl rfl ?_
  refine WL.st (.string (bs x35)) (ST.load (cell_ext (Rd.flat (F := fStr) (Rd.below h0 hb19) hx36 0 rfl)) rfl rfl Try.underlying9 rfl) rfl rfl rfl ?_
  refine WL.runk 1 [3, 5, 8, 9, 10] [(3, .slice a15 st14.1.length c16), (8, .slice a0' rows_0.length c0'), (9, .int .i64 (rows_0.length : Int)), (10, .int .i64 st14.2), (5, .string (bs x35))] (by kernel_rfl) ?_
  refine WL.nil ?_
  refine WQ.then_normal (hK34 _ _ _ ?_)
  refine WP.seq (fun K37 hK37 => ?_)
  refine WP.region ?_
  refine WL.runk 3 [3, 5, 8, 9, 10, 15, 16] [(3, .slice a15 st14.1.length c16), (8, .slice a0' rows_0.length c0'), (9, .int .i64 (rows_0.length : Int)), (10, .int .i64 st14.2), (5, .string (bs x35)), (15, .int .i64 (x35.length : Int)), (16, .int .i64 0)] (by kernel_rfl) ?_
  refine WL.nil ?_
  refine WQ.then_normal (hK37 _ _ _ ?_)
  refine WP.block ?_
  obtain ⟨t52, ht53, hm⟩ := bindE hm
  have hmo47 := hm; clear hm
  refine WP.sub [(3, .slice a15 st14.1.length c16), (8, .slice a0' rows_0.length c0'), (9, .int .i64 (rows_0.length : Int)), (10, .int .i64 st14.2), (5, .string (bs x35)), (15, .int .i64 (x35.length : Int)), (16, .int .i64 0)] ⟨rfl, rfl, rfl, rfl, rfl, rfl, rfl, trivial⟩ ?_
  refine WP.loop (fun n' env' w' => ∃ (st38 : List Int × Int) (a39 : Option Addr) (c40 : Nat), env' = [(3, .slice a39 st38.1.length c40), (8, .slice a0' rows_0.length c0'), (9, .int .i64 (rows_0.length : Int)), (10, .int .i64 st14.2), (5, .string (bs x35)), (15, .int .i64 (x35.length : Int)), (16, .int .i64 st38.2)] ∧ Ext w w' ∧ w.heap.size ≤ w'.heap.size ∧ SH w' w.heap.size [aOwn fInt 2 a39 c40 st38.1] ∧ loopN (m_impl_digits_l2 n x35) n' st38 = some t52) n ⟨(st14.1, 0), _, _, rfl, hb19, hL20, hS21, ht53⟩ ?_
  rintro n49 _ w42 ⟨st38, a39, c40, rfl, hb43, hL44, hS45, hl46⟩ K48 hK48
  obtain ⟨n50, s51, rfl, hm, hl46⟩ := loopN_some hl46
  unfold m_impl_digits_l2 at hm
  refine WP.seq (fun K54 hK54 => ?_)
  refine WP.region ?_
  refine WL.runk 1 [3, 5, 8, 9, 10, 15, 16, 17] [(3, .slice a39 st38.1.length c40), (8, .slice a0' rows_0.length c0'), (9, .int .i64 (rows_0.length : Int)), (10, .int .i64 st14.2), (5, .string (bs x35)), (15, .int .i64 (x35.length : Int)), (16, .int .i64 st38.2), (17, .bool (decide (st38.2 < (x35.length : Int))))] (by kernel_rfl) ?_
  refine WL.nil ?_
  refine WQ.then_normal (hK54 _ _ _ ?_)
  refine WP.seq (fun K55 hK55 => ?_)
  refine WP.cond (decide (st38.2 < (x35.length : Int))) rfl rfl (fun hc56 => ?_) (fun hc56 => ?_)
  rotate_left
  · have hm := iteF hm hc56
    refine WP.exit ?_
    refine WQ.then_exit ?_
    refine WQ.then_exit ?_
    refine WQ.block_here ?_
    obtain rfl := Option.some.inj hm
    obtain rfl := afterN_done hl46
    have hm := hmo47
    refine WQ.block_normal ?_
    refine WQ.then_normal (hK33 _ _ _ ?_)
    refine WP.region ?_
    refine WL.runk 2 [3, 8, 9, 10] [(3, .slice a39 st38.1.length c40), (8, .slice a0' rows_0.length c0'), (9, .int .i64 (rows_0.length : Int)), (10, .int .i64 (wI64 (st14.2 + 1)))] (by kernel_rfl) ?_
    refine WL.nil ?_
    obtain rfl := Option.some.inj hm
    exact WQ.round hK24 ⟨(st38.1, (wI64 (st14.2 + 1))), _, _, rfl, hb43, hL44, hS45, hl22⟩ (Nat.lt_succ_self _) ⟨rfl, rfl, rfl, rfl, trivial⟩
  have hm := iteT hm hc56
  refine WP.skip ?_
  refine WQ.then_normal (hK55 _ _ _ ?_)
  refine WP.seq (fun K57 hK57 => ?_)
  refine WP.block ?_
  refine WP.seq (fun K58 hK58 => ?_)
  refine WP.region ?_
  refine WL.runk 2 [3, 5, 6, 8, 9, 10, 15, 16] [(3, .slice a39 st38.1.length c40), (8, .slice a0' rows_0.length c0'), (9, .int .i64 (rows_0.length : Int)), (10, .int .i64 st14.2), (5, .string (bs x35)), (15, .int .i64 (x35.length : Int)), (16, .int .i64 st38.2), (6, .int .i64 st38.2)] (by kernel_rfl) ?_
  refine WL.nil ?_
  refine WQ.then_normal (hK58 _ _ _ ?_)
  refine WP.region ?_
  refine WL.runk 3 [5, 8, 9, 10, 15, 16, 19, 20, 21] [(8, .slice a0' rows_0.length c0'), (9, .int .i64 (rows_0.length : Int)), (10, .int .i64 st14.2), (5, .string (bs x35)), (15, .int .i64 (x35.length : Int)), (16, .int .i64 st38.2), (19, .slice a39 st38.1.length c40), (20, .string (bs x35)), (21, .int .i64 st38.2)] (by kernel_rfl) ?_
  obtain ⟨x59, hx60, hm⟩ := bindE hm
  refine WL.st (.int .u8 (x59.toNat : Int)) (ST.sindex hx60 rfl rfl rfl Try.underlying9) rfl rfl rfl ?_
  refine WL.runk 2 [5, 8, 9, 10, 15, 16, 19, 24] [(8, .slice a0' rows_0.length c0'), (9, .int .i64 (rows_0.length : Int)), (10, .int .i64 st14.2), (5, .string (bs x35)), (15, .int .i64 (x35.length : Int)), (16, .int .i64 st38.2), (19, .slice a39 st38.1.length c40), (24, .int .i64 (wI64 (IntKind.u8.wrap ((x59.toNat : Int) - 48))))] (by kernel_rfl) ?_
  refine WL.row fInt 2 ([(wI64 (IntKind.u8.wrap ((x59.toNat : Int) - 48)))] : List Int) 1 #[.int .i64 (wI64 (IntKind.u8.wrap ((x59.toNat : Int) - 48)))] 25 (by kernel_rfl) rfl rfl rfl rfl rfl rfl rfl ?_
  intro a61 c62 w63 hE64 hR65
  have hb67 : Ext w w63 := Ext.trans hb43 hE64
  have hL68 : w.heap.size ≤ w63.heap.size := Nat.le_trans hL44 hE64.size
  have hS69 : SH w63 w.heap.size [aOwn fInt 2 a61 c62 ([(wI64 (IntKind.u8.wrap ((x59.toNat : Int) - 48)))] : List Int), aOwn fInt 2 a39 c40 st38.1] := SH.add hS45 hE64 hL44 hR65
  obtain ⟨x70, hx71, hm⟩ := bindE hm
  refine WL.append (F := fInt) (xs := st38.1) (ys := ([(wI64 (IntKind.u8.wrap ((x59.toNat : Int) - 48)))] : List Int)) 26 (SH.front 1 hS69) hL68 (SH.rd (SH.front 0 hS69)) hx71 rfl rfl rfl Try.underlying40 (info2).1 (info2).2.2.1 (info2).2.1 (info2).2.2.2 rfl rfl rfl rfl rfl ?_
  intro a72 c73 w74 hB75 hS76
  have hb77 : Ext w w74 := Below.trans hb67 hB75
  have hL78 : w.heap.size ≤ w74.heap.size := Nat.le_trans hL68 hB75.size
  refine WL.runk 1 [3, 5, 8, 9, 10, 15, 16] [(8, .slice a0' rows_0.length c0'), (9, .int .i64 (rows_0.length : Int)), (10, .int .i64 st14.2), (5, .string (bs x35)), (15, .int .i64 (x35.length : Int)), (16, .int .i64 st38.2), (3, .slice a72 x70.length c73)] (by kernel_rfl) ?_
  refine WL.nil ?_
  refine WQ.block_normal ?_
  refine WQ.then_normal (hK57 _ _ _ ?_)
  refine WP.region ?_
  refine WL.runk 2 [3, 5, 8, 9, 10, 15, 16] [(8, .slice a0' rows_0.length c0'), (9, .int .i64 (rows_0.length : Int)), (10, .int .i64 st14.2), (5, .string (bs x35)), (15, .int .i64 (x35.length : Int)), (16, .int .i64 (wI64 (st38.2 + 1))), (3, .slice a72 x70.length c73)] (by kernel_rfl) ?_
  refine WL.nil ?_
  obtain rfl := Option.some.inj hm
  exact WQ.round hK48 ⟨(x70, (wI64 (st38.2 + 1))), _, _, rfl, hb77, hL78, (SH.take 1 hS76), hl46⟩ (Nat.lt_succ_self _) ⟨rfl, rfl, rfl, rfl, rfl, rfl, rfl, trivial⟩

theorem c_57 (n : Nat) (k_0 : Int) (w : World) {r : List UInt8} (hm : m_laws_markText n k_0 = some r)  :
    CallV Try.prog 57 #[.int .i64 k_0] w (fun v w' => v = .string (bs r) ∧ Ext w w') := by
  unfold m_laws_markText at hm
  refine CallV.enter Try.func57 rfl (by kernel_rfl) Try.ntmps57 (env := [(0, .int .i64 k_0)]) ⟨rfl, trivial⟩ ?_
  refine WP.seq (fun K1 hK1 => ?_)
  refine WP.region ?_
  refine WL.runk 1 [0] [(0, .int .i64 k_0)] (by kernel_rfl) ?_
  refine WL.nil ?_
  refine WQ.then_normal (hK1 _ _ _ ?_)
  refine WP.seq (fun K2 hK2 => ?_)
  refine WP.seq (fun K3 hK3 => ?_)
  refine WP.region ?_
  refine WL.runk 2 [0, 5] [(0, .int .i64 k_0), (5, .bool (decide (k_0 ≤ 0)))] (by kernel_rfl) ?_
  refine WL.nil ?_
  refine WQ.then_normal (hK3 _ _ _ ?_)
  refine WP.cond (decide (k_0 ≤ 0)) rfl rfl (fun hc4 => ?_) (fun hc4 => ?_)
  · have hm := iteT hm hc4
    refine WP.seq (fun K5 hK5 => ?_)
    refine WP.region ?_
    refine WL.runk 1 [2] [(2, .string (bs [109, 48]))] (by kernel_rfl) ?_
    refine WL.nil ?_
    refine WQ.then_normal (hK5 _ _ _ ?_)
    refine WP.ret ?_
    refine WQ.then_ret ?_
    obtain rfl := Option.some.inj hm
    exact WQ.ret1 _ rfl rfl ⟨rfl, (Ext.refl w)⟩
  have hm := iteF hm hc4
  refine WP.skip ?_
  refine WQ.then_normal (hK2 _ _ _ ?_)
  refine WP.seq (fun K6 hK6 => ?_)
  refine WP.region ?_
  refine WL.runk 1 [0, 3] [(0, .int .i64 k_0), (3, .string (bs []))] (by kernel_rfl) ?_
  refine WL.nil ?_
  refine WQ.then_normal (hK6 _ _ _ ?_)
  refine WP.seq (fun K7 hK7 => ?_)
  refine WP.block ?_
  obtain ⟨t19, ht20, hm⟩ := bindE hm
  have hmo14 := hm; clear hm
  refine WP.sub [(0, .int .i64 k_0), (3, .string (bs []))] ⟨rfl, rfl, trivial⟩ ?_
  refine WP.loop (fun n' env' w' => ∃ (st8 : Int × List UInt8) , env' = [(0, .int .i64 st8.1), (3, .string (bs st8.2))] ∧ Ext w w' ∧ w.heap.size ≤ w'.heap.size ∧ SH w' w.heap.size [] ∧ loopN (m_laws_markText_l1 n) n' st8 = some t19) n ⟨(k_0, []), rfl, (Ext.refl w), (Nat.le_refl _), (SH.nil _ _), ht20⟩ ?_
  rintro n16 _ w9 ⟨st8, rfl, hb10, hL11, hS12, hl13⟩ K15 hK15
  obtain ⟨n17, s18, rfl, hm, hl13⟩ := loopN_some hl13
  unfold m_laws_markText_l1 at hm
  refine WP.seq (fun K21 hK21 => ?_)
  refine WP.seq (fun K22 hK22 => ?_)
  refine WP.region ?_
  refine WL.runk 2 [0, 3, 7] [(0, .int .i64 st8.1), (3, .string (bs st8.2)), (7, .bool (decide (st8.1 > 0)))] (by kernel_rfl) ?_
  refine WL.nil ?_
  refine WQ.then_normal (hK22 _ _ _ ?_)
  refine WP.cond (decide (st8.1 > 0)) rfl rfl (fun hc23 => ?_) (fun hc23 => ?_)
  rotate_left
  · have hm := iteF hm hc23
    refine WP.exit ?_
    refine WQ.then_exit ?_
    refine WQ.then_exit ?_
    refine WQ.block_here ?_
    obtain rfl := Option.some.inj hm
    obtain rfl := afterN_done hl13
    have hm := hmo14
    refine WQ.then_normal (hK7 _ _ _ ?_)
    refine WP.seq (fun K36 hK36 => ?_)
    refine WP.region ?_
    refine WL.runk 1 [18] [(18, .string (bs st8.2))] (by kernel_rfl) ?_
    obtain ⟨x37, hx38, hm⟩ := bindE hm
    refine WL.st (.string (bs x37)) (ST.cat hx38 rfl rfl rfl) rfl rfl rfl ?_
    refine WL.runk 1 [2] [(2, .string (bs x37))] (by kernel_rfl) ?_
    refine WL.nil ?_
    refine WQ.then_normal (hK36 _ _ _ ?_)
    refine WP.ret ?_
    obtain rfl := Option.some.inj hm
    exact WQ.ret1 _ rfl rfl ⟨rfl, hb10⟩
  have hm := iteT hm hc23
  refine WP.skip ?_
  refine WQ.then_normal (hK21 _ _ _ ?_)
  refine WP.block ?_
  refine WP.seq (fun K24 hK24 => ?_)
  refine WP.region ?_
  refine WL.runk 4 [0, 3, 11] [(0, .int .i64 st8.1), (3, .string (bs st8.2)), (11, .int .u8 (IntKind.u8.wrap (wI64 (48 + (Int.tmod st8.1 10)))))] (by kernel_rfl) ?_
  refine WL.row fU8 5 ([(IntKind.u8.wrap (wI64 (48 + (Int.tmod st8.1 10))))] : List Int) 1 #[.int .u8 (IntKind.u8.wrap (wI64 (48 + (Int.tmod st8.1 10))))] 12 (by kernel_rfl) rfl rfl rfl rfl rfl rfl rfl ?_
  intro a25 c26 w27 hE28 hR29
  have hb31 : Ext w w27 := Ext.trans hb10 hE28
  have hL32 : w.heap.size ≤ w27.heap.size := Nat.le_trans hL11 hE28.size
  have hS33 : SH w27 w.heap.size [aOwn fU8 5 a25 c26 ([(IntKind.u8.wrap (wI64 (48 + (Int.tmod st8.1 10))))] : List Int)] := SH.add hS12 hE28 hL11 hR29
  refine WL.st (.string (bs (ofBytes ([(IntKind.u8.wrap (wI64 (48 + (Int.tmod st8.1 10))))] : List Int)))) (ST.b2s (SH.rd (SH.front 0 hS33)) (SH.le (SH.front 0 hS33)).2 rfl rfl Try.underlying46 Try.underlying9 Try.underlying5) rfl rfl rfl ?_
  refine WL.runk 1 [0, 13, 14] [(0, .int .i64 st8.1), (13, .string (bs (ofBytes ([(IntKind.u8.wrap (wI64 (48 + (Int.tmod st8.1 10))))] : List Int)))), (14, .string (bs st8.2))] (by kernel_rfl) ?_
  obtain ⟨x34, hx35, hm⟩ := bindE hm
  refine WL.st (.string (bs x34)) (ST.cat hx35 rfl rfl rfl) rfl rfl rfl ?_
  refine WL.runk 1 [0, 3] [(0, .int .i64 st8.1), (3, .string (bs x34))] (by kernel_rfl) ?_
  refine WL.nil ?_
  refine WQ.then_normal (hK24 _ _ _ ?_)
  refine WP.region ?_
  refine WL.runk 3 [0, 3] [(0, .int .i64 (wI64 (Int.tdiv st8.1 10))), (3, .string (bs x34))] (by kernel_rfl) ?_
  refine WL.nil ?_
  refine WQ.block_normal ?_
  obtain rfl := Option.some.inj hm
  exact WQ.round hK15 ⟨((wI64 (Int.tdiv st8.1 10)), x34), rfl, hb31, hL32, (SH.take 0 hS33), hl13⟩ (Nat.lt_succ_self _) ⟨rfl, rfl, trivial⟩

theorem c_24 (n : Nat) (a_0 : List (List UInt8)) (a0' : Option Addr) (c0' : Nat) (k_1 : Int) (w : World) (w0 : World) (B : Nat) (L : List Asrt) {r : Int × List (List UInt8)} (hm : m_laws_markStringS n a_0 k_1 = some r) (_hE0 : Ext w0 w) (_hW : w0.heap.size ≤ B) (hL : B ≤ w.heap.size) (hS : SH w B (aOwn fStr 9 a0' c0' a_0 :: L)) :
    CallV Try.prog 24 #[.slice a0' a_0.length c0', .int .i64 k_1] w (fun v w' => v = .int .i64 r.1 ∧ Below B w w' ∧ SH w' B (aOwn fStr 9 a0' c0' r.2 :: L) ∧ r.2.length = a_0.length) := by
  unfold m_laws_markStringS at hm
  refine CallV.enter Try.func24 rfl (by kernel_rfl) Try.ntmps24 (env := [(0, .slice a0' a_0.length c0'), (1, .int .i64 k_1)]) ⟨rfl, rfl, trivial⟩ ?_
  refine WP.seq (fun K1 hK1 => ?_)
  refine WP.region ?_
  refine WL.runk 1 [0, 1] [(0, .slice a0' a_0.length c0'), (1, .int .i64 k_1)] (by kernel_rfl) ?_
  refine WL.nil ?_
  refine WQ.then_normal (hK1 _ _ _ ?_)
  refine WP.seq (fun K2 hK2 => ?_)
  refine WP.seq (fun K3 hK3 => ?_)
  refine WP.region ?_
  refine WL.runk 1 [0, 1, 5] [(0, .slice a0' a_0.length c0'), (1, .int .i64 k_1), (5, .int .i64 0)] (by kernel_rfl) ?_
  refine WL.nil ?_
  refine WQ.then_normal (hK3 _ _ _ ?_)
  refine WP.block ?_
  obtain ⟨t50, ht51, hm⟩ := bindE hm
  have hmo45 := hm; clear hm
  refine WP.sub [(0, .slice a0' a_0.length c0'), (1, .int .i64 k_1), (5, .int .i64 0)] ⟨rfl, rfl, rfl, trivial⟩ ?_
  refine WP.loop (fun n' env' w' => ∃ (st39 : Int × Int × List (List UInt8)) , env' = [(0, .slice a0' st39.2.2.length c0'), (1, .int .i64 st39.1), (5, .int .i64 st39.2.1)] ∧ Below B w w' ∧ B ≤ w'.heap.size ∧ SH w' B (aOwn fStr 9 a0' c0' st39.2.2 :: L) ∧ st39.2.2.length = a_0.length ∧ loopN (m_laws_markStringS_l1 n) n' st39 = some t50) n ⟨(k_1, 0, a_0), rfl, (Below.refl _ _), hL, hS, rfl, ht51⟩ ?_
  rintro n47 _ w40 ⟨st39, rfl, hb41, hL42, hS43, hn52, hl44⟩ K46 hK46
  obtain ⟨n48, s49, rfl, hm, hl44⟩ := loopN_some hl44
  unfold m_laws_markStringS_l1 at hm
  refine WP.seq (fun K53 hK53 => ?_)
  refine WP.seq (fun K54 hK54 => ?_)
  refine WP.region ?_
  refine WL.runk 4 [0, 1, 5, 9] [(0, .slice a0' st39.2.2.length c0'), (1, .int .i64 st39.1), (5, .int .i64 st39.2.1), (9, .bool (decide (st39.2.1 < (st39.2.2.length : Int))))] (by kernel_rfl) ?_
  refine WL.nil ?_
  refine WQ.then_normal (hK54 _ _ _ ?_)
  refine WP.cond (decide (st39.2.1 < (st39.2.2.length : Int))) rfl rfl (fun hc55 => ?_) (fun hc55 => ?_)
  rotate_left
  · have hm := iteF hm hc55
    refine WP.exit ?_
    refine WQ.then_exit ?_
    refine WQ.then_exit ?_
    refine WQ.block_here ?_
    obtain rfl := Option.some.inj hm
    obtain rfl := afterN_done hl44
    have hm := hmo45
    refine WQ.then_normal (hK2 _ _ _ ?_)
    refine WP.seq (fun K74 hK74 => ?_)
    refine WP.region ?_
    refine WL.runk 2 [4] [(4, .int .i64 st39.1)] (by kernel_rfl) ?_
    refine WL.nil ?_
    refine WQ.then_normal (hK74 _ _ _ ?_)
    refine WP.ret ?_
    obtain rfl := Option.some.inj hm
    exact WQ.ret1 _ rfl rfl ⟨rfl, hb41, hS43, hn52⟩
  have hm := iteT hm hc55
  refine WP.skip ?_
  refine WQ.then_normal (hK53 _ _ _ ?_)
  refine WP.seq (fun K56 hK56 => ?_)
  refine WP.block ?_
  refine WP.seq (fun K57 hK57 => ?_)
  refine WP.region ?_
  refine WL.runk 3 [0, 1, 5, 12, 13, 14] [(0, .slice a0' st39.2.2.length c0'), (1, .int .i64 st39.1), (5, .int .i64 st39.2.1), (12, .slice a0' st39.2.2.length c0'), (13, .int .i64 st39.2.1), (14, .int .i64 st39.1)] (by kernel_rfl) ?_
  obtain ⟨x58, hx59, hm⟩ := bindE hm
  refine WL.call 57 #[.int .i64 st39.1] rfl rfl (by kernel_rfl) (c_57 n st39.1 w40 hx59 ) ?_
  rintro _ w60 ⟨rfl, hE61⟩
  refine ⟨_, rfl, ?_⟩
  have hb63 : Below B w w60 := Below.trans hb41 (Below.mono hE61 hL42)
  have hL64 : B ≤ w60.heap.size := Nat.le_trans hL42 hE61.size
  have hS65 : SH w60 B (aOwn fStr 9 a0' c0' st39.2.2 :: L) := SH.ext hS43 hE61
  obtain ⟨x66, hx67, hm⟩ := bindE hm
  refine WL.st (.pointer (some (at_ a0' (Int.toNat st39.2.1 * 1)))) (ST.index (T := fStr.ty) (xs := st39.2.2) (SH.rd (SH.front 0 hS65)) hx67 rfl rfl rfl Try.underlying22 (info9).1 (info9).2.1) rfl rfl rfl ?_
  refine WL.store (F := fStr) x58 0 [.string (bs x58)] (SH.front 0 hS65) hL64 hx67 rfl rfl rfl rfl rfl rfl rfl (info9).1 (info9).2.1 rfl rfl rfl ?_
  intro w68 hB69 hS70
  have hb71 : Below B w w68 := Below.trans hb63 hB69
  have hL72 : B ≤ w68.heap.size := Nat.le_trans hL64 hB69.size
  refine WL.sub [(0, .slice a0' ((st39.2.2.set (Int.toNat st39.2.1) x58).length) c0'), (1, .int .i64 st39.1), (5, .int .i64 st39.2.1), (12, .slice a0' ((st39.2.2.set (Int.toNat st39.2.1) x58).length) c0'), (13, .int .i64 st39.2.1), (14, .int .i64 st39.1), (15, .string (bs x58))] ⟨by first | (simp only [List.length_set]; done) | (simp only [List.length_set]; rfl), rfl, rfl, by first | (simp only [List.length_set]; done) | (simp only [List.length_set]; rfl), rfl, rfl, rfl, trivial⟩ ?_
  have hn73 : (st39.2.2.set (Int.toNat st39.2.1) x58).length = a_0.length := List.length_set.trans hn52
  refine WL.sub [(0, .slice a0' ((st39.2.2.set (Int.toNat st39.2.1) x58).length) c0'), (1, .int .i64 st39.1), (5, .int .i64 st39.2.1)] ⟨rfl, rfl, rfl, trivial⟩ ?_
  refine WL.nil ?_
  refine WQ.then_normal (hK57 _ _ _ ?_)
  refine WP.region ?_
  refine WL.runk 3 [0, 1, 5] [(0, .slice a0' ((st39.2.2.set (Int.toNat st39.2.1) x58).length) c0'), (1, .int .i64 (wI64 (st39.1 + 1))), (5, .int .i64 st39.2.1)] (by kernel_rfl) ?_
  refine WL.nil ?_
  refine WQ.block_normal ?_
  refine WQ.then_normal (hK56 _ _ _ ?_)
  refine WP.region ?_
  refine WL.runk 3 [0, 1, 5] [(0, .slice a0' ((st39.2.2.set (Int.toNat st39.2.1) x58).length) c0'), (1, .int .i64 (wI64 (st39.1 + 1))), (5, .int .i64 (wI64 (st39.2.1 + 1)))] (by kernel_rfl) ?_
  refine WL.nil ?_
  obtain rfl := Option.some.inj hm
  exact WQ.round hK46 ⟨((wI64 (st39.1 + 1)), (wI64 (st39.2.1 + 1)), (st39.2.2.set (Int.toNat st39.2.1) x58)), rfl, hb71, hL72, hS70, hn73, hl44⟩ (Nat.lt_succ_self _) ⟨rfl, rfl, rfl, trivial⟩

theorem c_35 (n : Nat) (a_0 : List Int) (a0' : Option Addr) (c0' : Nat) (b_1 : List Int) (a1' : Option Addr) (c1' : Nat) (w : World) {r : Bool} (hm : m_laws_eqInt64S n a_0 b_1 = some r) (h0 : Rd fInt.ty w a0' a_0) (_hle0 : a_0.length ≤ c0') (h1 : Rd fInt.ty w a1' b_1) (_hle1 : b_1.length ≤ c1') :
    CallV Try.prog 35 #[.slice a0' a_0.length c0', .slice a1' b_1.length c1'] w (fun v w' => v = .bool r ∧ Ext w w') := by
  unfold m_laws_eqInt64S at hm
  refine CallV.enter Try.func35 rfl (by kernel_rfl) Try.ntmps35 (env := [(0, .slice a0' a_0.length c0'), (1, .slice a1' b_1.length c1')]) ⟨rfl, rfl, trivial⟩ ?_
  refine WP.seq (fun K1 hK1 => ?_)
  refine WP.region ?_
  refine WL.runk 1 [0, 1] [(0, .slice a0' a_0.length c0'), (1, .slice a1' b_1.length c1')] (by kernel_rfl) ?_
  refine WL.nil ?_
  refine WQ.then_normal (hK1 _ _ _ ?_)
  refine WP.seq (fun K2 hK2 => ?_)
  refine WP.seq (fun K3 hK3 => ?_)
  refine WP.region ?_
  refine WL.runk 5 [0, 1, 10] [(0, .slice a0' a_0.length c0'), (1, .slice a1' b_1.length c1'), (10, .bool ((a_0.length : Int) != (b_1.length : Int)))] (by kernel_rfl) ?_
  refine WL.nil ?_
  refine WQ.then_normal (hK3 _ _ _ ?_)
  refine WP.cond ((a_0.length : Int) != (b_1.length : Int)) rfl rfl (fun hc4 => ?_) (fun hc4 => ?_)
  · have hm := iteT hm hc4
    refine WP.seq (fun K5 hK5 => ?_)
    refine WP.region ?_
    refine WL.runk 1 [4] [(4, .bool false)] (by kernel_rfl) ?_
    refine WL.nil ?_
    refine WQ.then_normal (hK5 _ _ _ ?_)
    refine WP.ret ?_
    refine WQ.then_ret ?_
    obtain rfl := Option.some.inj hm
    exact WQ.ret1 _ rfl rfl ⟨rfl, (Ext.refl w)⟩
  have hm := iteF hm hc4
  refine WP.skip ?_
  refine WQ.then_normal (hK2 _ _ _ ?_)
  refine WP.seq (fun K6 hK6 => ?_)
  refine WP.seq (fun K7 hK7 => ?_)
  refine WP.region ?_
  refine WL.runk 1 [0, 1, 5] [(0, .slice a0' a_0.length c0'), (1, .slice a1' b_1.length c1'), (5, .int .i64 0)] (by kernel_rfl) ?_
  refine WL.nil ?_
  refine WQ.then_normal (hK7 _ _ _ ?_)
  refine WP.block ?_
  obtain ⟨t19, ht20, hm⟩ := bindE hm
  have hmo14 := hm; clear hm
  refine WP.sub [(0, .slice a0' a_0.length c0'), (1, .slice a1' b_1.length c1'), (5, .int .i64 0)] ⟨rfl, rfl, rfl, trivial⟩ ?_
  refine WP.loop (fun n' env' w' => ∃ (st8 : Int) , env' = [(0, .slice a0' a_0.length c0'), (1, .slice a1' b_1.length c1'), (5, .int .i64 st8)] ∧ Ext w w' ∧ w.heap.size ≤ w'.heap.size ∧ SH w' w.heap.size [] ∧ loopN (m_laws_eqInt64S_l1 n a_0 b_1) n' st8 = some t19) n ⟨0, rfl, (Ext.refl w), (Nat.le_refl _), (SH.nil _ _), ht20⟩ ?_
  rintro n16 _ w9 ⟨st8, rfl, hb10, hL11, hS12, hl13⟩ K15 hK15
  obtain ⟨n17, s18, rfl, hm, hl13⟩ := loopN_some hl13
  unfold m_laws_eqInt64S_l1 at hm
  refine WP.seq (fun K21 hK21 => ?_)
  refine WP.seq (fun K22 hK22 => ?_)
  refine WP.region ?_
  refine WL.runk 4 [0, 1, 5, 14] [(0, .slice a0' a_0.length c0'), (1, .slice a1' b_1.length c1'), (5, .int .i64 st8), (14, .bool (decide (st8 < (a_0.length : Int))))] (by kernel_rfl) ?_
  refine WL.nil ?_
  refine WQ.then_normal (hK22 _ _ _ ?_)
  refine WP.cond (decide (st8 < (a_0.length : Int))) rfl rfl (fun hc23 => ?_) (fun hc23 => ?_)
  rotate_left
  · have hm := iteF hm hc23
    refine WP.exit ?_
    refine WQ.then_exit ?_
    refine WQ.then_exit ?_
    refine WQ.block_here ?_
    obtain rfl := Option.some.inj hm
    obtain rfl := afterN_done hl13
    have hm := hmo14
    refine WQ.then_normal (hK6 _ _ _ ?_)
    refine WP.seq (fun K37 hK37 => ?_)
    refine WP.region ?_
    refine WL.runk 1 [4] [(4, .bool true)] (by kernel_rfl) ?_
    refine WL.nil ?_
    refine WQ.then_normal (hK37 _ _ _ ?_)
    refine WP.ret ?_
    obtain rfl := Option.some.inj hm
    exact WQ.ret1 _ rfl rfl ⟨rfl, hb10⟩
  have hm := iteT hm hc23
  refine WP.skip ?_
  refine WQ.then_normal (hK21 _ _ _ ?_)
  refine WP.seq (fun K24 hK24 => ?_)
  refine WP.block ?_
  refine WP.seq (fun K25 hK25 => ?_)
  refine WP.quiet (by kernel_rfl) (by kernel_rfl) ?_
  refine QL.step1v 17 (.slice a0' a_0.length c0') rfl (fun _ => by kernel_rfl) ?_
  refine QL.step1v 18 (.int .i64 st8) rfl (fun _ => by kernel_rfl) ?_
  refine QL.subk [0, 1, 5, 17, 18] [(0, .slice a0' a_0.length c0'), (1, .slice a1' b_1.length c1'), (5, .int .i64 st8), (17, .slice a0' a_0.length c0'), (18, .int .i64 st8)] (by kernel_rfl) ?_
  obtain ⟨x26, hx27, hm⟩ := bindE hm
  refine QL.st (.pointer (some (at_ a0' (Int.toNat st8 * 1)))) (ST.index (T := fInt.ty) (xs := a_0) (Rd.below h0 hb10) hx27 rfl rfl rfl Try.underlying40 (info2).1 (info2).2.1) rfl rfl rfl ?_
  refine QL.st (.int .i64 x26) (ST.load (cell_ext (Rd.flat (F := fInt) (Rd.below h0 hb10) hx27 0 rfl)) rfl rfl Try.underlying2 rfl) rfl rfl rfl ?_
  refine QL.step1v 21 (.slice a1' b_1.length c1') rfl (fun _ => by kernel_rfl) ?_
  refine QL.step1v 22 (.int .i64 st8) rfl (fun _ => by kernel_rfl) ?_
  refine QL.subk [0, 1, 5, 20, 21, 22] [(0, .slice a0' a_0.length c0'), (1, .slice a1' b_1.length c1'), (5, .int .i64 st8), (20, .int .i64 x26), (21, .slice a1' b_1.length c1'), (22, .int .i64 st8)] (by kernel_rfl) ?_
  obtain ⟨x28, hx29, hm⟩ := bindE hm
  refine QL.st (.pointer (some (at_ a1' (Int.toNat st8 * 1)))) (ST.index (T := fInt.ty) (xs := b_1) (Rd.below h1 hb10) hx29 rfl rfl rfl Try.underlying40 (info2).1 (info2).2.1) rfl rfl rfl ?_
  refine QL.st (.int .i64 x28) (ST.load (cell_ext (Rd.flat (F := fInt) (Rd.below h1 hb10) hx29 0 rfl)) rfl rfl Try.underlying2 rfl) rfl rfl rfl ?_
  refine QL.step1v 25 (.bool (x26 != x28)) rfl (fun _ => by kernel_rfl) ?_
  refine QL.subk [0, 1, 5, 25] [(0, .slice a0' a_0.length c0'), (1, .slice a1' b_1.length c1'), (5, .int .i64 st8), (25, .bool (x26 != x28))] (by kernel_rfl) ?_
  refine QL.nil ?_
  intro w30 hE31
  have hb32 : Ext w w30 := Ext.trans hb10 hE31
  have hL33 : w.heap.size ≤ w30.heap.size := Nat.le_trans hL11 hE31.size
  have hS34 : SH w30 w.heap.size [] := SH.ext hS12 hE31
  refine WQ.then_normal (hK25 _ _ _ ?_)
  refine WP.cond (x26 != x28) rfl rfl (fun hc35 => ?_) (fun hc35 => ?_)
  rotate_left
  · have hm := iteF hm hc35
    refine WP.skip ?_
    refine WQ.block_normal ?_
    refine WQ.then_normal (hK24 _ _ _ ?_)
    refine WP.region ?_
    refine WL.runk 3 [0, 1, 5] [(0, .slice a0' a_0.length c0'), (1, .slice a1' b_1.length c1'), (5, .int .i64 (wI64 (st8 + 1)))] (by kernel_rfl) ?_
    refine WL.nil ?_
    obtain rfl := Option.some.inj hm
    exact WQ.round hK15 ⟨(wI64 (st8 + 1)), rfl, hb32, hL33, hS34, hl13⟩ (Nat.lt_succ_self _) ⟨rfl, rfl, rfl, trivial⟩
  have hm := iteT hm hc35
  refine WP.seq (fun K36 hK36 => ?_)
  refine WP.region ?_
  refine WL.runk 1 [4] [(4, .bool false)] (by kernel_rfl) ?_
  refine WL.nil ?_
  refine WQ.then_normal (hK36 _ _ _ ?_)
  refine WP.ret ?_
  refine WQ.block_ret ?_
  refine WQ.then_ret ?_
  refine WQ.then_ret ?_
  refine WQ.block_ret ?_
  refine WQ.then_ret ?_
  obtain rfl := Option.some.inj hm
  obtain rfl := afterN_done hl13
  have hm := hmo14
  obtain rfl := Option.some.inj hm
  exact WQ.ret1 _ rfl rfl ⟨rfl, hb32⟩

theorem c_36 (n : Nat) (a_0 : List Int) (a0' : Option Addr) (c0' : Nat) (k_1 : Int) (w : World) (w0 : World) (B : Nat) (L : List Asrt) {r : Int × List Int} (hm : m_laws_markInt64S n a_0 k_1 = some r) (_hE0 : Ext w0 w) (_hW : w0.heap.size ≤ B) (hL : B ≤ w.heap.size) (hS : SH w B (aOwn fInt 2 a0' c0' a_0 :: L)) :
    CallV Try.prog 36 #[.slice a0' a_0.length c0', .int .i64 k_1] w (fun v w' => v = .int .i64 r.1 ∧ Below B w w' ∧ SH w' B (aOwn fInt 2 a0' c0' r.2 :: L) ∧ r.2.length = a_0.length) := by
  unfold m_laws_markInt64S at hm
  refine CallV.enter Try.func36 rfl (by kernel_rfl) Try.ntmps36 (env := [(0, .slice a0' a_0.length c0'), (1, .int .i64 k_1)]) ⟨rfl, rfl, trivial⟩ ?_
  refine WP.seq (fun K1 hK1 => ?_)
  refine WP.region ?_
  refine WL.runk 1 [0, 1] [(0, .slice a0' a_0.length c0'), (1, .int .i64 k_1)] (by kernel_rfl) ?_
  refine WL.nil ?_
  refine WQ.then_normal (hK1 _ _ _ ?_)
  refine WP.seq (fun K2 hK2 => ?_)
  refine WP.seq (fun K3 hK3 => ?_)
  refine WP.region ?_
  refine WL.runk 1 [0, 1, 5] [(0, .slice a0' a_0.length c0'), (1, .int .i64 k_1), (5, .int .i64 0)] (by kernel_rfl) ?_
  refine WL.nil ?_
  refine WQ.then_normal (hK3 _ _ _ ?_)
  refine WP.block ?_
  obtain ⟨t42, ht43, hm⟩ := bindE hm
  have hmo37 := hm; clear hm
  refine WP.sub [(0, .slice a0' a_0.length c0'), (1, .int .i64 k_1), (5, .int .i64 0)] ⟨rfl, rfl, rfl, trivial⟩ ?_
  refine WP.loop (fun n' env' w' => ∃ (st31 : Int × Int × List Int) , env' = [(0, .slice a0' st31.2.2.length c0'), (1, .int .i64 st31.1), (5, .int .i64 st31.2.1)] ∧ Below B w w' ∧ B ≤ w'.heap.size ∧ SH w' B (aOwn fInt 2 a0' c0' st31.2.2 :: L) ∧ st31.2.2.length = a_0.length ∧ loopN (m_laws_markInt64S_l1 n) n' st31 = some t42) n ⟨(k_1, 0, a_0), rfl, (Below.refl _ _), hL, hS, rfl, ht43⟩ ?_
  rintro n39 _ w32 ⟨st31, rfl, hb33, hL34, hS35, hn44, hl36⟩ K38 hK38
  obtain ⟨n40, s41, rfl, hm, hl36⟩ := loopN_some hl36
  unfold m_laws_markInt64S_l1 at hm
  refine WP.seq (fun K45 hK45 => ?_)
  refine WP.seq (fun K46 hK46 => ?_)
  refine WP.region ?_
  refine WL.runk 4 [0, 1, 5, 9] [(0, .slice a0' st31.2.2.length c0'), (1, .int .i64 st31.1), (5, .int .i64 st31.2.1), (9, .bool (decide (st31.2.1 < (st31.2.2.length : Int))))] (by kernel_rfl) ?_
  refine WL.nil ?_
  refine WQ.then_normal (hK46 _ _ _ ?_)
  refine WP.cond (decide (st31.2.1 < (st31.2.2.length : Int))) rfl rfl (fun hc47 => ?_) (fun hc47 => ?_)
  rotate_left
  · have hm := iteF hm hc47
    refine WP.exit ?_
    refine WQ.then_exit ?_
    refine WQ.then_exit ?_
    refine WQ.block_here ?_
    obtain rfl := Option.some.inj hm
    obtain rfl := afterN_done hl36
    have hm := hmo37
    refine WQ.then_normal (hK2 _ _ _ ?_)
    refine WP.seq (fun K58 hK58 => ?_)
    refine WP.region ?_
    refine WL.runk 2 [4] [(4, .int .i64 st31.1)] (by kernel_rfl) ?_
    refine WL.nil ?_
    refine WQ.then_normal (hK58 _ _ _ ?_)
    refine WP.ret ?_
    obtain rfl := Option.some.inj hm
    exact WQ.ret1 _ rfl rfl ⟨rfl, hb33, hS35, hn44⟩
  have hm := iteT hm hc47
  refine WP.skip ?_
  refine WQ.then_normal (hK45 _ _ _ ?_)
  refine WP.seq (fun K48 hK48 => ?_)
  refine WP.block ?_
  refine WP.seq (fun K49 hK49 => ?_)
  refine WP.region ?_
  refine WL.runk 3 [0, 1, 5, 12, 13, 14] [(0, .slice a0' st31.2.2.length c0'), (1, .int .i64 st31.1), (5, .int .i64 st31.2.1), (12, .slice a0' st31.2.2.length c0'), (13, .int .i64 st31.2.1), (14, .int .i64 st31.1)] (by kernel_rfl) ?_
  obtain ⟨x50, hx51, hm⟩ := bindE hm
  refine WL.st (.pointer (some (at_ a0' (Int.toNat st31.2.1 * 1)))) (ST.index (T := fInt.ty) (xs := st31.2.2) (SH.rd (SH.front 0 hS35)) hx51 rfl rfl rfl Try.underlying40 (info2).1 (info2).2.1) rfl rfl rfl ?_
  refine WL.store (F := fInt) st31.1 0 [.int .i64 st31.1] (SH.front 0 hS35) hL34 hx51 rfl rfl rfl rfl rfl rfl rfl (info2).1 (info2).2.1 rfl rfl rfl ?_
  intro w52 hB53 hS54
  have hb55 : Below B w w52 := Below.trans hb33 hB53
  have hL56 : B ≤ w52.heap.size := Nat.le_trans hL34 hB53.size
  refine WL.sub [(0, .slice a0' ((st31.2.2.set (Int.toNat st31.2.1) st31.1).length) c0'), (1, .int .i64 st31.1), (5, .int .i64 st31.2.1), (12, .slice a0' ((st31.2.2.set (Int.toNat st31.2.1) st31.1).length) c0'), (13, .int .i64 st31.2.1), (14, .int .i64 st31.1)] ⟨by first | (simp only [List.length_set]; done) | (simp only [List.length_set]; rfl), rfl, rfl, by first | (simp only [List.length_set]; done) | (simp only [List.length_set]; rfl), rfl, rfl, trivial⟩ ?_
  have hn57 : (st31.2.2.set (Int.toNat st31.2.1) st31.1).length = a_0.length := List.length_set.trans hn44
  refine WL.sub [(0, .slice a0' ((st31.2.2.set (Int.toNat st31.2.1) st31.1).length) c0'), (1, .int .i64 st31.1), (5, .int .i64 st31.2.1)] ⟨rfl, rfl, rfl, trivial⟩ ?_
  refine WL.nil ?_
  refine WQ.then_normal (hK49 _ _ _ ?_)
  refine WP.region ?_
  refine WL.runk 3 [0, 1, 5] [(0, .slice a0' ((st31.2.2.set (Int.toNat st31.2.1) st31.1).length) c0'), (1, .int .i64 (wI64 (st31.1 + 1))), (5, .int .i64 st31.2.1)] (by kernel_rfl) ?_
  refine WL.nil ?_
  refine WQ.block_normal ?_
  refine WQ.then_normal (hK48 _ _ _ ?_)
  refine WP.region ?_
  refine WL.runk 3 [0, 1, 5] [(0, .slice a0' ((st31.2.2.set (Int.toNat st31.2.1) st31.1).length) c0'), (1, .int .i64 (wI64 (st31.1 + 1))), (5, .int .i64 (wI64 (st31.2.1 + 1)))] (by kernel_rfl) ?_
  refine WL.nil ?_
  obtain rfl := Option.some.inj hm
  exact WQ.round hK38 ⟨((wI64 (st31.1 + 1)), (wI64 (st31.2.1 + 1)), (st31.2.2.set (Int.toNat st31.2.1) st31.1)), rfl, hb55, hL56, hS54, hn57, hl36⟩ (Nat.lt_succ_self _) ⟨rfl, rfl, rfl, trivial⟩

theorem c_37 (n : Nat) (a_0 : List Int) (a0' : Option Addr) (c0' : Nat) (k_1 : Int) (w : World) {r : Int} (hm : m_laws_heldInt64S n a_0 k_1 = some r) (h0 : Rd fInt.ty w a0' a_0) (_hle0 : a_0.length ≤ c0') :
    CallV Try.prog 37 #[.slice a0' a_0.length c0', .int .i64 k_1] w (fun v w' => v = .int .i64 r ∧ Ext w w') := by
  unfold m_laws_heldInt64S at hm
  refine CallV.enter Try.func37 rfl (by kernel_rfl) Try.ntmps37 (env := [(0, .slice a0' a_0.length c0'), (1, .int .i64 k_1)]) ⟨rfl, rfl, trivial⟩ ?_
  refine WP.seq (fun K1 hK1 => ?_)
  refine WP.region ?_
  refine WL.runk 1 [0, 1] [(0, .slice a0' a_0.length c0'), (1, .int .i64 k_1)] (by kernel_rfl) ?_
  refine WL.nil ?_
  refine WQ.then_normal (hK1 _ _ _ ?_)
  refine WP.seq (fun K2 hK2 => ?_)
  refine WP.seq (fun K3 hK3 => ?_)
  refine WP.region ?_
  refine WL.runk 1 [0, 1, 5] [(0, .slice a0' a_0.length c0'), (1, .int .i64 k_1), (5, .int .i64 0)] (by kernel_rfl) ?_
  refine WL.nil ?_
  refine WQ.then_normal (hK3 _ _ _ ?_)
  refine WP.block ?_
  obtain ⟨t15, ht16, hm⟩ := bindE hm
  have hmo10 := hm; clear hm
  refine WP.sub [(0, .slice a0' a_0.length c0'), (1, .int .i64 k_1), (5, .int .i64 0)] ⟨rfl, rfl, rfl, trivial⟩ ?_
  refine WP.loop (fun n' env' w' => ∃ (st4 : Int × Int) , env' = [(0, .slice a0' a_0.length c0'), (1, .int .i64 st4.1), (5, .int .i64 st4.2)] ∧ Ext w w' ∧ w.heap.size ≤ w'.heap.size ∧ SH w' w.heap.size [] ∧ loopN (m_laws_heldInt64S_l1 n a_0) n' st4 = some t15) n ⟨(k_1, 0), rfl, (Ext.refl w), (Nat.le_refl _), (SH.nil _ _), ht16⟩ ?_
  rintro n12 _ w5 ⟨st4, rfl, hb6, hL7, hS8, hl9⟩ K11 hK11
  obtain ⟨n13, s14, rfl, hm, hl9⟩ := loopN_some hl9
  unfold m_laws_heldInt64S_l1 at hm
  refine WP.seq (fun K17 hK17 => ?_)
  refine WP.seq (fun K18 hK18 => ?_)
  refine WP.region ?_
  refine WL.runk 4 [0, 1, 5, 9] [(0, .slice a0' a_0.length c0'), (1, .int .i64 st4.1), (5, .int .i64 st4.2), (9, .bool (decide (st4.2 < (a_0.length : Int))))] (by kernel_rfl) ?_
  refine WL.nil ?_
  refine WQ.then_normal (hK18 _ _ _ ?_)
  refine WP.cond (decide (st4.2 < (a_0.length : Int))) rfl rfl (fun hc19 => ?_) (fun hc19 => ?_)
  rotate_left
  · have hm := iteF hm hc19
    refine WP.exit ?_
    refine WQ.then_exit ?_
    refine WQ.then_exit ?_
    refine WQ.block_here ?_
    obtain rfl := Option.some.inj hm
    obtain rfl := afterN_done hl9
    have hm := hmo10
    refine WQ.then_normal (hK2 _ _ _ ?_)
    refine WP.seq (fun K27 hK27 => ?_)
    refine WP.region ?_
    refine WL.runk 2 [4] [(4, .int .i64 st4.1)] (by kernel_rfl) ?_
    refine WL.nil ?_
    refine WQ.then_normal (hK27 _ _ _ ?_)
    refine WP.ret ?_
    obtain rfl := Option.some.inj hm
    exact WQ.ret1 _ rfl rfl ⟨rfl, hb6⟩
  have hm := iteT hm hc19
  refine WP.skip ?_
  refine WQ.then_normal (hK17 _ _ _ ?_)
  refine WP.seq (fun K20 hK20 => ?_)
  refine WP.block ?_
  refine WP.seq (fun K21 hK21 => ?_)
  refine WP.seq (fun K22 hK22 => ?_)
  refine WP.region ?_
  refine WL.runk 2 [0, 1, 5, 12, 13] [(0, .slice a0' a_0.length c0'), (1, .int .i64 st4.1), (5, .int .i64 st4.2), (12, .slice a0' a_0.length c0'), (13, .int .i64 st4.2)] (by kernel_rfl) ?_
  obtain ⟨x23, hx24, hm⟩ := bindE hm
  refine WL.st (.pointer (some (at_ a0' (Int.toNat st4.2 * 1)))) (ST.index (T := fInt.ty) (xs := a_0) (Rd.below h0 hb6) hx24 rfl rfl rfl Try.underlying40 (info2).1 (info2).2.1) rfl rfl rfl ?_
  refine WL.st (.int .i64 x23) (ST.load (cell_ext (Rd.flat (F := fInt) (Rd.below h0 hb6) hx24 0 rfl)) rfl rfl Try.underlying2 rfl) rfl rfl rfl ?_
  refine WL.runk 2 [0, 1, 5, 17] [(0, .slice a0' a_0.length c0'), (1, .int .i64 st4.1), (5, .int .i64 st4.2), (17, .bool (x23 != st4.1))] (by kernel_rfl) ?_
  refine WL.nil ?_
  refine WQ.then_normal (hK22 _ _ _ ?_)
  refine WP.cond (x23 != st4.1) rfl rfl (fun hc25 => ?_) (fun hc25 => ?_)
  rotate_left
  · have hm := iteF hm hc25
    refine WP.skip ?_
    refine WQ.then_normal (hK21 _ _ _ ?_)
    refine WP.region ?_
    refine WL.runk 3 [0, 1, 5] [(0, .slice a0' a_0.length c0'), (1, .int .i64 (wI64 (st4.1 + 1))), (5, .int .i64 st4.2)] (by kernel_rfl) ?_
    refine WL.nil ?_
    refine WQ.block_normal ?_
    refine WQ.then_normal (hK20 _ _ _ ?_)
    refine WP.region ?_
    refine WL.runk 3 [0, 1, 5] [(0, .slice a0' a_0.length c0'), (1, .int .i64 (wI64 (st4.1 + 1))), (5, .int .i64 (wI64 (st4.2 + 1)))] (by kernel_rfl) ?_
    refine WL.nil ?_
    obtain rfl := Option.some.inj hm
    exact WQ.round hK11 ⟨((wI64 (st4.1 + 1)), (wI64 (st4.2 + 1))), rfl, hb6, hL7, hS8, hl9⟩ (Nat.lt_succ_self _) ⟨rfl, rfl, rfl, trivial⟩
  have hm := iteT hm hc25
  refine WP.seq (fun K26 hK26 => ?_)
  refine WP.region ?_
  refine WL.runk 1 [4] [(4, .int .i64 (-1))] (by kernel_rfl) ?_
  refine WL.nil ?_
  refine WQ.then_normal (hK26 _ _ _ ?_)
  refine WP.ret ?_
  refine WQ.then_ret ?_
  refine WQ.block_ret ?_
  refine WQ.then_ret ?_
  refine WQ.then_ret ?_
  refine WQ.block_ret ?_
  refine WQ.then_ret ?_
  obtain rfl := Option.some.inj hm
  obtain rfl := afterN_done hl9
  have hm := hmo10
  obtain rfl := Option.some.inj hm
  exact WQ.ret1 _ rfl rfl ⟨rfl, hb6⟩

theorem c_73 (n : Nat) (rows_0 : List (List UInt8)) (a0' : Option Addr) (c0' : Nat) (seen_1 : List Bool) (a1' : Option Addr) (c1' : Nat) (at_2 : Int) (least_3 : Int) (w : World) (w0 : World) (B : Nat) (L : List Asrt) {r : Int × List Bool} (hm : m_spec_l20Area n rows_0 seen_1 at_2 least_3 = some r) (hE0 : Ext w0 w) (hW : w0.heap.size ≤ B) (hL : B ≤ w.heap.size) (h0 : Rd fStr.ty w0 a0' rows_0) (hle0 : rows_0.length ≤ c0') (hS : SH w B (aOwn fBool 4 a1' c1' seen_1 :: L)) :
    CallV Try.prog 73 #[.slice a0' rows_0.length c0', .slice a1' seen_1.length c1', .int .i64 at_2, .int .i64 least_3] w (fun v w' => v = .int .i64 r.1 ∧ Below B w w' ∧ SH w' B (aOwn fBool 4 a1' c1' r.2 :: L) ∧ r.2.length = seen_1.length) := by
  unfold m_spec_l20Area at hm
  refine CallV.enter Try.func73 rfl (by kernel_rfl) Try.ntmps73 (env := [(0, .slice a0' rows_0.length c0'), (1, .slice a1' seen_1.length c1'), (2, .int .i64 at_2), (3, .int .i64 least_3)]) ⟨rfl, rfl, rfl, rfl, trivial⟩ ?_
  refine WP.seq (fun K1 hK1 => ?_)
  refine WP.region ?_
  refine WL.runk 1 [0, 1, 2, 3] [(0, .slice a0' rows_0.length c0'), (1, .slice a1' seen_1.length c1'), (2, .int .i64 at_2), (3, .int .i64 least_3)] (by kernel_rfl) ?_
  refine WL.nil ?_
  refine WQ.then_normal (hK1 _ _ _ ?_)
  refine WP.seq (fun K2 hK2 => ?_)
  refine WP.region ?_
  refine WL.runk 1 [0, 1, 2, 3, 17] [(0, .slice a0' rows_0.length c0'), (1, .slice a1' seen_1.length c1'), (2, .int .i64 at_2), (3, .int .i64 least_3), (17, .slice a0' rows_0.length c0')] (by kernel_rfl) ?_
  obtain ⟨x3, hx4, hm⟩ := bindE hm
  refine WL.st (.pointer (some (at_ a0' (Int.toNat 0 * 1)))) (ST.index (T := fStr.ty) (xs := rows_0) (Rd.below h0 (Below.trans hE0 (Below.mono (Below.refl _ _) hW))) hx4 rfl rfl rfl Try.underlying22 (info9).1 (info9).2.1) rfl rfl rfl ?_
  refine WL.st (.string (bs x3)) (ST.load (cell_ext (Rd.flat (F := fStr) (Rd.below h0 (Below.trans hE0 (Below.mono (Below.refl _ _) hW))) hx4 0 rfl)) rfl rfl Try.underlying9 rfl) rfl rfl rfl ?_
  refine WL.runk 2 [0, 1, 2, 3, 9] [(0, .slice a0' rows_0.length c0'), (1, .slice a1' seen_1.length c1'), (2, .int .i64 at_2), (3, .int .i64 least_3), (9, .int .i64 (x3.length : Int))] (by kernel_rfl) ?_
  refine WL.nil ?_
  refine WQ.then_normal (hK2 _ _ _ ?_)
  refine WP.seq (fun K5 hK5 => ?_)
  refine WP.region ?_
  refine WL.runk 1 [0, 1, 2, 3, 9, 21] [(0, .slice a0' rows_0.length c0'), (1, .slice a1' seen_1.length c1'), (2, .int .i64 at_2), (3, .int .i64 least_3), (9, .int .i64 (x3.length : Int)), (21, .int .i64 at_2)] (by kernel_rfl) ?_
  refine WL.row fInt 3 ([at_2] : List Int) 1 #[.int .i64 at_2] 22 (by kernel_rfl) rfl rfl rfl rfl rfl rfl rfl ?_
  intro a6 c7 w8 hE9 hR10
  have hb12 : Below B w w8 := Below.trans (Below.refl _ _) (Below.mono hE9 hL)
  have hL13 : B ≤ w8.heap.size := Nat.le_trans hL hE9.size
  have hS14 : SH w8 B (aOwn fInt 3 a6 c7 ([at_2] : List Int) :: aOwn fBool 4 a1' c1' seen_1 :: L) := SH.add hS hE9 hL hR10
  refine WL.runk 1 [0, 1, 2, 3, 9, 10] [(0, .slice a0' rows_0.length c0'), (1, .slice a1' seen_1.length c1'), (2, .int .i64 at_2), (3, .int .i64 least_3), (9, .int .i64 (x3.length : Int)), (10, .slice a6 (([at_2] : List Int).length) c7)] (by kernel_rfl) ?_
  refine WL.nil ?_
  refine WQ.then_normal (hK5 _ _ _ ?_)
  refine WP.seq (fun K15 hK15 => ?_)
  refine WP.region ?_
  refine WL.runk 2 [0, 1, 3, 9, 10, 23, 24] [(0, .slice a0' rows_0.length c0'), (1, .slice a1' seen_1.length c1'), (3, .int .i64 least_3), (9, .int .i64 (x3.length : Int)), (10, .slice a6 (([at_2] : List Int).length) c7), (23, .slice a1' seen_1.length c1'), (24, .int .i64 at_2)] (by kernel_rfl) ?_
  obtain ⟨x16, hx17, hm⟩ := bindE hm
  refine WL.st (.pointer (some (at_ a1' (Int.toNat at_2 * 1)))) (ST.index (T := fBool.ty) (xs := seen_1) (SH.rd (SH.front 1 hS14)) hx17 rfl rfl rfl Try.underlying68 (info4).1 (info4).2.1) rfl rfl rfl ?_
  refine WL.store (F := fBool) true 0 [.bool true] (SH.front 1 hS14) hL13 hx17 rfl rfl rfl rfl rfl rfl rfl (info4).1 (info4).2.1 rfl rfl rfl ?_
  intro w18 hB19 hS20
  have hb21 : Below B w w18 := Below.trans hb12 hB19
  have hL22 : B ≤ w18.heap.size := Nat.le_trans hL13 hB19.size
  refine WL.sub [(0, .slice a0' rows_0.length c0'), (1, .slice a1' ((seen_1.set (Int.toNat at_2) true).length) c1'), (3, .int .i64 least_3), (9, .int .i64 (x3.length : Int)), (10, .slice a6 (([at_2] : List Int).length) c7), (23, .slice a1' ((seen_1.set (Int.toNat at_2) true).length) c1'), (24, .int .i64 at_2)] ⟨rfl, by first | (simp only [List.length_set]; done) | (simp only [List.length_set]; rfl), rfl, rfl, rfl, by first | (simp only [List.length_set]; done) | (simp only [List.length_set]; rfl), rfl, trivial⟩ ?_
  have hn23 : (seen_1.set (Int.toNat at_2) true).length = seen_1.length := List.length_set.trans rfl
  refine WL.sub [(0, .slice a0' rows_0.length c0'), (1, .slice a1' ((seen_1.set (Int.toNat at_2) true).length) c1'), (3, .int .i64 least_3), (9, .int .i64 (x3.length : Int)), (10, .slice a6 (([at_2] : List Int).length) c7)] ⟨rfl, rfl, rfl, rfl, rfl, trivial⟩ ?_
  refine WL.nil ?_
  refine WQ.then_normal (hK15 _ _ _ ?_)
  refine WP.seq (fun K24 hK24 => ?_)
  refine WP.seq (fun K25 hK25 => ?_)
  refine WP.region ?_
  refine WL.runk 1 [0, 1, 3, 9, 10, 11] [(0, .slice a0' rows_0.length c0'), (1, .slice a1' ((seen_1.set (Int.toNat at_2) true).length) c1'), (3, .int .i64 least_3), (9, .int .i64 (x3.length : Int)), (10, .slice a6 (([at_2] : List Int).length) c7), (11, .int .i64 0)] (by kernel_rfl) ?_
  refine WL.nil ?_
  refine WQ.then_normal (hK25 _ _ _ ?_)
  refine WP.block ?_
  obtain ⟨t687, ht688, hm⟩ := bindE hm
  have hmo682 := hm; clear hm
  refine WP.sub [(0, .slice a0' rows_0.length c0'), (1, .slice a1' ((seen_1.set (Int.toNat at_2) true).length) c1'), (3, .int .i64 least_3), (9, .int .i64 (x3.length : Int)), (10, .slice a6 (([at_2] : List Int).length) c7), (11, .int .i64 0)] ⟨rfl, rfl, rfl, rfl, rfl, rfl, trivial⟩ ?_
  refine WP.loop (fun n' env' w' => ∃ (st673 : List Int × Int × List Bool) (a674 : Option Addr) (c675 : Nat), env' = [(0, .slice a0' rows_0.length c0'), (1, .slice a1' st673.2.2.length c1'), (3, .int .i64 least_3), (9, .int .i64 (x3.length : Int)), (10, .slice a674 st673.1.length c675), (11, .int .i64 st673.2.1)] ∧ Below B w w' ∧ B ≤ w'.heap.size ∧ SH w' B (aOwn fInt 3 a674 c675 st673.1 :: aOwn fBool 4 a1' c1' st673.2.2 :: L) ∧ st673.2.2.length = seen_1.length ∧ loopN (m_spec_l20Area_l1 n rows_0 least_3 x3) n' st673 = some t687) n ⟨(([at_2] : List Int), 0, (seen_1.set (Int.toNat at_2) true)), _, _, rfl, hb21, hL22, (SH.front 1 hS20), hn23, ht688⟩ ?_
  rintro n684 _ w677 ⟨st673, a674, c675, rfl, hb678, hL679, hS680, hn689, hl681⟩ K683 hK683
  obtain ⟨n685, s686, rfl, hm, hl681⟩ := loopN_some hl681
  unfold m_spec_l20Area_l1 at hm
  refine WP.seq (fun K690 hK690 => ?_)
  refine WP.seq (fun K691 hK691 => ?_)
  refine WP.region ?_
  refine WL.runk 4 [0, 1, 3, 9, 10, 11, 29] [(0, .slice a0' rows_0.length c0'), (1, .slice a1' st673.2.2.length c1'), (3, .int .i64 least_3), (9, .int .i64 (x3.length : Int)), (10, .slice a674 st673.1.length c675), (11, .int .i64 st673.2.1), (29, .bool (decide (st673.2.1 < (st673.1.length : Int))))] (by kernel_rfl) ?_
  refine WL.nil ?_
  refine WQ.then_normal (hK691 _ _ _ ?_)
  refine WP.cond (decide (st673.2.1 < (st673.1.length : Int))) rfl rfl (fun hc692 => ?_) (fun hc692 => ?_)
  rotate_left
  · have hm := iteF hm hc692
    refine WP.exit ?_
    refine WQ.then_exit ?_
    refine WQ.then_exit ?_
    refine WQ.block_here ?_
    obtain rfl := Option.some.inj hm
    obtain rfl := afterN_done hl681
    have hm := hmo682
    refine WQ.then_normal (hK24 _ _ _ ?_)
    refine WP.seq (fun K1320 hK1320 => ?_)
    refine WP.region ?_
    refine WL.runk 3 [8] [(8, .int .i64 (st673.1.length : Int))] (by kernel_rfl) ?_
    refine WL.nil ?_
    refine WQ.then_normal (hK1320 _ _ _ ?_)
    refine WP.ret ?_
    obtain rfl := Option.some.inj hm
    exact WQ.ret1 _ rfl rfl ⟨rfl, hb678, (SH.cutOut 1 1 (SH.front 1 hS680)), hn689⟩
  have hm := iteT hm hc692
  refine WP.skip ?_
  refine WQ.then_normal (hK690 _ _ _ ?_)
  refine WP.seq (fun K693 hK693 => ?_)
  refine WP.block ?_
  refine WP.seq (fun K694 hK694 => ?_)
  refine WP.region ?_
  refine WL.runk 2 [0, 1, 3, 9, 10, 11, 32, 33] [(0, .slice a0' rows_0.length c0'), (1, .slice a1' st673.2.2.length c1'), (3, .int .i64 least_3), (9, .int .i64 (x3.length : Int)), (10, .slice a674 st673.1.length c675), (11, .int .i64 st673.2.1), (32, .slice a674 st673.1.length c675), (33, .int .i64 st673.2.1)] (by kernel_rfl) ?_
  obtain ⟨x695, hx696, hm⟩ := bindE hm
  refine WL.st (.pointer (some (at_ a674 (Int.toNat st673.2.1 * 1)))) (ST.index (T := fInt.ty) (xs := st673.1) (SH.rd (SH.front 0 hS680)) hx696 rfl rfl rfl Try.underlying78 (info3).1 (info3).2.1) rfl rfl rfl ?_
  refine WL.st (.int .i64 x695) (ST.load (cell_ext (Rd.flat (F := fInt) (SH.rd (SH.front 0 hS680)) hx696 0 rfl)) rfl rfl Try.underlying3 rfl) rfl rfl rfl ?_
  refine WL.runk 1 [0, 1, 3, 9, 10, 11, 35, 36] [(0, .slice a0' rows_0.length c0'), (1, .slice a1' st673.2.2.length c1'), (3, .int .i64 least_3), (9, .int .i64 (x3.length : Int)), (10, .slice a674 st673.1.length c675), (11, .int .i64 st673.2.1), (35, .int .i64 x695), (36, .int .i64 (x3.length : Int))] (by kernel_rfl) ?_
  obtain ⟨x697, hx698, hm⟩ := bindE hm
  refine WL.st (.int .i64 x697) (ST.quo (k := .i64) hx698 rfl rfl rfl) rfl rfl rfl ?_
  refine WL.runk 1 [0, 1, 3, 9, 10, 11, 12] [(0, .slice a0' rows_0.length c0'), (1, .slice a1' st673.2.2.length c1'), (3, .int .i64 least_3), (9, .int .i64 (x3.length : Int)), (10, .slice a674 st673.1.length c675), (11, .int .i64 st673.2.1), (12, .int .i64 x697)] (by kernel_rfl) ?_
  refine WL.nil ?_
  refine WQ.then_normal (hK694 _ _ _ ?_)
  refine WP.seq (fun K699 hK699 => ?_)
  refine WP.region ?_
  refine WL.runk 2 [0, 1, 3, 9, 10, 11, 12, 38, 39] [(0, .slice a0' rows_0.length c0'), (1, .slice a1' st673.2.2.length c1'), (3, .int .i64 least_3), (9, .int .i64 (x3.length : Int)), (10, .slice a674 st673.1.length c675), (11, .int .i64 st673.2.1), (12, .int .i64 x697), (38, .slice a674 st673.1.length c675), (39, .int .i64 st673.2.1)] (by kernel_rfl) ?_
  obtain ⟨x700, hx701, hm⟩ := bindE hm
  refine WL.st (.pointer (some (at_ a674 (Int.toNat st673.2.1 * 1)))) (ST.index (T := fInt.ty) (xs := st673.1) (SH.rd (SH.front 0 hS680)) hx701 rfl rfl rfl Try.underlying78 (info3).1 (info3).2.1) rfl rfl rfl ?_
  refine WL.st (.int .i64 x700) (ST.load (cell_ext (Rd.flat (F := fInt) (SH.rd (SH.front 0 hS680)) hx701 0 rfl)) rfl rfl Try.underlying3 rfl) rfl rfl rfl ?_
  refine WL.runk 1 [0, 1, 3, 9, 10, 11, 12, 41, 42] [(0, .slice a0' rows_0.length c0'), (1, .slice a1' st673.2.2.length c1'), (3, .int .i64 least_3), (9, .int .i64 (x3.length : Int)), (10, .slice a674 st673.1.length c675), (11, .int .i64 st673.2.1), (12, .int .i64 x697), (41, .int .i64 x700), (42, .int .i64 (x3.length : Int))] (by kernel_rfl) ?_
  obtain ⟨x702, hx703, hm⟩ := bindE hm
  refine WL.st (.int .i64 x702) (ST.rem (k := .i64) hx703 rfl rfl rfl) rfl rfl rfl ?_
  refine WL.runk 1 [0, 1, 3, 9, 10, 11, 12, 13] [(0, .slice a0' rows_0.length c0'), (1, .slice a1' st673.2.2.length c1'), (3, .int .i64 least_3), (9, .int .i64 (x3.length : Int)), (10, .slice a674 st673.1.length c675), (11, .int .i64 st673.2.1), (12, .int .i64 x697), (13, .int .i64 x702)] (by kernel_rfl) ?_
  refine WL.nil ?_
  refine WQ.then_normal (hK699 _ _ _ ?_)
  refine WP.seq (fun K704 hK704 => ?_)
  refine WP.region ?_
  refine WL.row fInt 3 ([] : List Int) 0 #[] 44 (by kernel_rfl) rfl rfl rfl rfl rfl rfl rfl ?_
  intro a705 c706 w707 hE708 hR709
  have hb711 : Below B w w707 := Below.trans hb678 (Below.mono hE708 hL679)
  have hL712 : B ≤ w707.heap.size := Nat.le_trans hL679 hE708.size
  have hS713 : SH w707 B (aOwn fInt 3 a705 c706 ([] : List Int) :: aOwn fInt 3 a674 c675 st673.1 :: aOwn fBool 4 a1' c1' st673.2.2 :: L) := SH.add hS680 hE708 hL679 hR709
  refine WL.runk 1 [0, 1, 3, 9, 10, 11, 12, 13, 14] [(0, .slice a0' rows_0.length c0'), (1, .slice a1' st673.2.2.length c1'), (3, .int .i64 least_3), (9, .int .i64 (x3.length : Int)), (10, .slice a674 st673.1.length c675), (11, .int .i64 st673.2.1), (12, .int .i64 x697), (13, .int .i64 x702), (14, .slice a705 (([] : List Int).length) c706)] (by kernel_rfl) ?_
  refine WL.nil ?_
  refine WQ.then_normal (hK704 _ _ _ ?_)
  refine WP.seq (fun K714 hK714 => ?_)
  refine WP.seq (fun K715 hK715 => ?_)
  refine WP.region ?_
  refine WL.runk 2 [0, 1, 3, 9, 10, 11, 12, 13, 14, 46] [(0, .slice a0' rows_0.length c0'), (1, .slice a1' st673.2.2.length c1'), (3, .int .i64 least_3), (9, .int .i64 (x3.length : Int)), (10, .slice a674 st673.1.length c675), (11, .int .i64 st673.2.1), (12, .int .i64 x697), (13, .int .i64 x702), (14, .slice a705 (([] : List Int).length) c706), (46, .bool (decide (x697 > 0)))] (by kernel_rfl) ?_
  refine WL.nil ?_
  refine WQ.then_normal (hK715 _ _ _ ?_)
  obtain ⟨x737, hx738, hm⟩ := bindE hm
  refine WP.cut (fun env' w' => ∃ (a739 : Option Addr) (c740 : Nat), env' = [(0, .slice a0' rows_0.length c0'), (1, .slice a1' st673.2.2.length c1'), (3, .int .i64 least_3), (9, .int .i64 (x3.length : Int)), (10, .slice a674 st673.1.length c675), (11, .int .i64 st673.2.1), (12, .int .i64 x697), (13, .int .i64 x702), (14, .slice a739 x737.length c740)] ∧ Below B w w' ∧ B ≤ w'.heap.size ∧ SH w' B (aOwn fInt 3 a739 c740 x737 :: aOwn fInt 3 a674 c675 st673.1 :: aOwn fBool 4 a1' c1' st673.2.2 :: L)) ?_ ?_
  · have hm := hx738; clear hx738
    refine WP.cond (decide (x697 > 0)) rfl rfl (fun hc716 => ?_) (fun hc716 => ?_)
    rotate_left
    · have hm := iteF hm hc716
      refine WP.skip ?_
      obtain rfl := Option.some.inj hm
      exact WQ.post' ⟨_, _, rfl, hb711, hL712, hS713⟩ ⟨rfl, rfl, rfl, rfl, rfl, rfl, rfl, rfl, rfl, trivial⟩
    have hm := iteT hm hc716
    refine WP.region ?_
    refine WL.runk 3 [0, 1, 3, 9, 10, 11, 12, 13, 47, 48, 49] [(0, .slice a0' rows_0.length c0'), (1, .slice a1' st673.2.2.length c1'), (3, .int .i64 least_3), (9, .int .i64 (x3.length : Int)), (10, .slice a674 st673.1.length c675), (11, .int .i64 st673.2.1), (12, .int .i64 x697), (13, .int .i64 x702), (47, .slice a705 (([] : List Int).length) c706), (48, .slice a674 st673.1.length c675), (49, .int .i64 st673.2.1)] (by kernel_rfl) ?_
    obtain ⟨x742, hx743, hm⟩ := bindE hm
    refine WL.st (.pointer (some (at_ a674 (Int.toNat st673.2.1 * 1)))) (ST.index (T := fInt.ty) (xs := st673.1) (SH.rd (SH.front 1 hS713)) hx743 rfl rfl rfl Try.underlying78 (info3).1 (info3).2.1) rfl rfl rfl ?_
    refine WL.st (.int .i64 x742) (ST.load (cell_ext (Rd.flat (F := fInt) (SH.rd (SH.front 1 hS713)) hx743 0 rfl)) rfl rfl Try.underlying3 rfl) rfl rfl rfl ?_
    refine WL.runk 2 [0, 1, 3, 9, 10, 11, 12, 13, 47, 53] [(0, .slice a0' rows_0.length c0'), (1, .slice a1' st673.2.2.length c1'), (3, .int .i64 least_3), (9, .int .i64 (x3.length : Int)), (10, .slice a674 st673.1.length c675), (11, .int .i64 st673.2.1), (12, .int .i64 x697), (13, .int .i64 x702), (47, .slice a705 (([] : List Int).length) c706), (53, .int .i64 (wI64 (x742 - (x3.length : Int))))] (by kernel_rfl) ?_
    refine WL.row fInt 3 ([(wI64 (x742 - (x3.length : Int)))] : List Int) 1 #[.int .i64 (wI64 (x742 - (x3.length : Int)))] 54 (by kernel_rfl) rfl rfl rfl rfl rfl rfl rfl ?_
    intro a744 c745 w746 hE747 hR748
    have hb750 : Below B w w746 := Below.trans hb711 (Below.mono hE747 hL712)
    have hL751 : B ≤ w746.heap.size := Nat.le_trans hL712 hE747.size
    have hS752 : SH w746 B (aOwn fInt 3 a744 c745 ([(wI64 (x742 - (x3.length : Int)))] : List Int) :: aOwn fInt 3 a705 c706 ([] : List Int) :: aOwn fInt 3 a674 c675 st673.1 :: aOwn fBool 4 a1' c1' st673.2.2 :: L) := SH.add hS713 hE747 hL712 hR748
    obtain ⟨x753, hx754, hm⟩ := bindE hm
    refine WL.append (F := fInt) (xs := ([] : List Int)) (ys := ([(wI64 (x742 - (x3.length : Int)))] : List Int)) 55 (SH.front 1 hS752) hL751 (SH.rd (SH.front 0 hS752)) hx754 rfl rfl rfl Try.underlying78 (info3).1 (info3).2.2.1 (info3).2.1 (info3).2.2.2 rfl rfl rfl rfl rfl ?_
    intro a755 c756 w757 hB758 hS759
    have hb760 : Below B w w757 := Below.trans hb750 hB758
    have hL761 : B ≤ w757.heap.size := Nat.le_trans hL751 hB758.size
    refine WL.runk 1 [0, 1, 3, 9, 10, 11, 12, 13, 14] [(0, .slice a0' rows_0.length c0'), (1, .slice a1' st673.2.2.length c1'), (3, .int .i64 least_3), (9, .int .i64 (x3.length : Int)), (10, .slice a674 st673.1.length c675), (11, .int .i64 st673.2.1), (12, .int .i64 x697), (13, .int .i64 x702), (14, .slice a755 x753.length c756)] (by kernel_rfl) ?_
    refine WL.nil ?_
    obtain rfl := Option.some.inj hm
    exact WQ.post' ⟨_, _, rfl, hb760, hL761, (SH.cutOut 3 1 (SH.front 2 (SH.front 3 (SH.front 3 hS759))))⟩ ⟨rfl, rfl, rfl, rfl, rfl, rfl, rfl, rfl, rfl, trivial⟩
  clear hx738
  rintro _ w762 ⟨a739, c740, rfl, hb763, hL764, hS765⟩
  refine WQ.then_normal (hK714 _ _ _ ?_)
  refine WP.seq (fun K766 hK766 => ?_)
  refine WP.seq (fun K767 hK767 => ?_)
  refine WP.region ?_
  refine WL.runk 5 [0, 1, 3, 9, 10, 11, 13, 14, 60] [(0, .slice a0' rows_0.length c0'), (1, .slice a1' st673.2.2.length c1'), (3, .int .i64 least_3), (9, .int .i64 (x3.length : Int)), (10, .slice a674 st673.1.length c675), (11, .int .i64 st673.2.1), (13, .int .i64 x702), (14, .slice a739 x737.length c740), (60, .bool (decide ((wI64 (x697 + 1)) < (rows_0.length : Int))))] (by kernel_rfl) ?_
  refine WL.nil ?_
  refine WQ.then_normal (hK767 _ _ _ ?_)
  obtain ⟨x789, hx790, hm⟩ := bindE hm
  refine WP.cut (fun env' w' => ∃ (a791 : Option Addr) (c792 : Nat), env' = [(0, .slice a0' rows_0.length c0'), (1, .slice a1' st673.2.2.length c1'), (3, .int .i64 least_3), (9, .int .i64 (x3.length : Int)), (10, .slice a674 st673.1.length c675), (11, .int .i64 st673.2.1), (13, .int .i64 x702), (14, .slice a791 x789.length c792)] ∧ Below B w w' ∧ B ≤ w'.heap.size ∧ SH w' B (aOwn fInt 3 a791 c792 x789 :: aOwn fInt 3 a674 c675 st673.1 :: aOwn fBool 4 a1' c1' st673.2.2 :: L)) ?_ ?_
  · have hm := hx790; clear hx790
    refine WP.cond (decide ((wI64 (x697 + 1)) < (rows_0.length : Int))) rfl rfl (fun hc768 => ?_) (fun hc768 => ?_)
    rotate_left
    · have hm := iteF hm hc768
      refine WP.skip ?_
      obtain rfl := Option.some.inj hm
      exact WQ.post' ⟨_, _, rfl, hb763, hL764, hS765⟩ ⟨rfl, rfl, rfl, rfl, rfl, rfl, rfl, rfl, trivial⟩
    have hm := iteT hm hc768
    refine WP.region ?_
    refine WL.runk 3 [0, 1, 3, 9, 10, 11, 13, 61, 62, 63] [(0, .slice a0' rows_0.length c0'), (1, .slice a1' st673.2.2.length c1'), (3, .int .i64 least_3), (9, .int .i64 (x3.length : Int)), (10, .slice a674 st673.1.length c675), (11, .int .i64 st673.2.1), (13, .int .i64 x702), (61, .slice a739 x737.length c740), (62, .slice a674 st673.1.length c675), (63, .int .i64 st673.2.1)] (by kernel_rfl) ?_
    obtain ⟨x794, hx795, hm⟩ := bindE hm
    refine WL.st (.pointer (some (at_ a674 (Int.toNat st673.2.1 * 1)))) (ST.index (T := fInt.ty) (xs := st673.1) (SH.rd (SH.front 1 hS765)) hx795 rfl rfl rfl Try.underlying78 (info3).1 (info3).2.1) rfl rfl rfl ?_
    refine WL.st (.int .i64 x794) (ST.load (cell_ext (Rd.flat (F := fInt) (SH.rd (SH.front 1 hS765)) hx795 0 rfl)) rfl rfl Try.underlying3 rfl) rfl rfl rfl ?_
    refine WL.runk 2 [0, 1, 3, 9, 10, 11, 13, 61, 67] [(0, .slice a0' rows_0.length c0'), (1, .slice a1' st673.2.2.length c1'), (3, .int .i64 least_3), (9, .int .i64 (x3.length : Int)), (10, .slice a674 st673.1.length c675), (11, .int .i64 st673.2.1), (13, .int .i64 x702), (61, .slice a739 x737.length c740), (67, .int .i64 (wI64 (x794 + (x3.length : Int))))] (by kernel_rfl) ?_
    refine WL.row fInt 3 ([(wI64 (x794 + (x3.length : Int)))] : List Int) 1 #[.int .i64 (wI64 (x794 + (x3.length : Int)))] 68 (by kernel_rfl) rfl rfl rfl rfl rfl rfl rfl ?_
    intro a796 c797 w798 hE799 hR800
    have hb802 : Below B w w798 := Below.trans hb763 (Below.mono hE799 hL764)
    have hL803 : B ≤ w798.heap.size := Nat.le_trans hL764 hE799.size
    have hS804 : SH w798 B (aOwn fInt 3 a796 c797 ([(wI64 (x794 + (x3.length : Int)))] : List Int) :: aOwn fInt 3 a739 c740 x737 :: aOwn fInt 3 a674 c675 st673.1 :: aOwn fBool 4 a1' c1' st673.2.2 :: L) := SH.add hS765 hE799 hL764 hR800
    obtain ⟨x805, hx806, hm⟩ := bindE hm
    refine WL.append (F := fInt) (xs := x737) (ys := ([(wI64 (x794 + (x3.length : Int)))] : List Int)) 69 (SH.front 1 hS804) hL803 (SH.rd (SH.front 0 hS804)) hx806 rfl rfl rfl Try.underlying78 (info3).1 (info3).2.2.1 (info3).2.1 (info3).2.2.2 rfl rfl rfl rfl rfl ?_
    intro a807 c808 w809 hB810 hS811
    have hb812 : Below B w w809 := Below.trans hb802 hB810
    have hL813 : B ≤ w809.heap.size := Nat.le_trans hL803 hB810.size
    refine WL.runk 1 [0, 1, 3, 9, 10, 11, 13, 14] [(0, .slice a0' rows_0.length c0'), (1, .slice a1' st673.2.2.length c1'), (3, .int .i64 least_3), (9, .int .i64 (x3.length : Int)), (10, .slice a674 st673.1.length c675), (11, .int .i64 st673.2.1), (13, .int .i64 x702), (14, .slice a807 x805.length c808)] (by kernel_rfl) ?_
    refine WL.nil ?_
    obtain rfl := Option.some.inj hm
    exact WQ.post' ⟨_, _, rfl, hb812, hL813, (SH.cutOut 3 1 (SH.front 2 (SH.front 3 (SH.front 3 hS811))))⟩ ⟨rfl, rfl, rfl, rfl, rfl, rfl, rfl, rfl, trivial⟩
  clear hx790
  rintro _ w814 ⟨a791, c792, rfl, hb815, hL816, hS817⟩
  refine WQ.then_normal (hK766 _ _ _ ?_)
  refine WP.seq (fun K818 hK818 => ?_)
  refine WP.seq (fun K819 hK819 => ?_)
  refine WP.region ?_
  refine WL.runk 2 [0, 1, 3, 9, 10, 11, 13, 14, 71] [(0, .slice a0' rows_0.length c0'), (1, .slice a1' st673.2.2.length c1'), (3, .int .i64 least_3), (9, .int .i64 (x3.length : Int)), (10, .slice a674 st673.1.length c675), (11, .int .i64 st673.2.1), (13, .int .i64 x702), (14, .slice a791 x789.length c792), (71, .bool (decide (x702 > 0)))] (by kernel_rfl) ?_
  refine WL.nil ?_
  refine WQ.then_normal (hK819 _ _ _ ?_)
  obtain ⟨x841, hx842, hm⟩ := bindE hm
  refine WP.cut (fun env' w' => ∃ (a843 : Option Addr) (c844 : Nat), env' = [(0, .slice a0' rows_0.length c0'), (1, .slice a1' st673.2.2.length c1'), (3, .int .i64 least_3), (9, .int .i64 (x3.length : Int)), (10, .slice a674 st673.1.length c675), (11, .int .i64 st673.2.1), (13, .int .i64 x702), (14, .slice a843 x841.length c844)] ∧ Below B w w' ∧ B ≤ w'.heap.size ∧ SH w' B (aOwn fInt 3 a843 c844 x841 :: aOwn fInt 3 a674 c675 st673.1 :: aOwn fBool 4 a1' c1' st673.2.2 :: L)) ?_ ?_
  · have hm := hx842; clear hx842
    refine WP.cond (decide (x702 > 0)) rfl rfl (fun hc820 => ?_) (fun hc820 => ?_)
    rotate_left
    · have hm := iteF hm hc820
      refine WP.skip ?_
      obtain rfl := Option.some.inj hm
      exact WQ.post' ⟨_, _, rfl, hb815, hL816, hS817⟩ ⟨rfl, rfl, rfl, rfl, rfl, rfl, rfl, rfl, trivial⟩
    have hm := iteT hm hc820
    refine WP.region ?_
    refine WL.runk 3 [0, 1, 3, 9, 10, 11, 13, 72, 73, 74] [(0, .slice a0' rows_0.length c0'), (1, .slice a1' st673.2.2.length c1'), (3, .int .i64 least_3), (9, .int .i64 (x3.length : Int)), (10, .slice a674 st673.1.length c675), (11, .int .i64 st673.2.1), (13, .int .i64 x702), (72, .slice a791 x789.length c792), (73, .slice a674 st673.1.length c675), (74, .int .i64 st673.2.1)] (by kernel_rfl) ?_
    obtain ⟨x846, hx847, hm⟩ := bindE hm
    refine WL.st (.pointer (some (at_ a674 (Int.toNat st673.2.1 * 1)))) (ST.index (T := fInt.ty) (xs := st673.1) (SH.rd (SH.front 1 hS817)) hx847 rfl rfl rfl Try.underlying78 (info3).1 (info3).2.1) rfl rfl rfl ?_
    refine WL.st (.int .i64 x846) (ST.load (cell_ext (Rd.flat (F := fInt) (SH.rd (SH.front 1 hS817)) hx847 0 rfl)) rfl rfl Try.underlying3 rfl) rfl rfl rfl ?_
    refine WL.runk 1 [0, 1, 3, 9, 10, 11, 13, 72, 77] [(0, .slice a0' rows_0.length c0'), (1, .slice a1' st673.2.2.length c1'), (3, .int .i64 least_3), (9, .int .i64 (x3.length : Int)), (10, .slice a674 st673.1.length c675), (11, .int .i64 st673.2.1), (13, .int .i64 x702), (72, .slice a791 x789.length c792), (77, .int .i64 (wI64 (x846 - 1)))] (by kernel_rfl) ?_
    refine WL.row fInt 3 ([(wI64 (x846 - 1))] : List Int) 1 #[.int .i64 (wI64 (x846 - 1))] 78 (by kernel_rfl) rfl rfl rfl rfl rfl rfl rfl ?_
    intro a848 c849 w850 hE851 hR852
    have hb854 : Below B w w850 := Below.trans hb815 (Below.mono hE851 hL816)
    have hL855 : B ≤ w850.heap.size := Nat.le_trans hL816 hE851.size
    have hS856 : SH w850 B (aOwn fInt 3 a848 c849 ([(wI64 (x846 - 1))] : List Int) :: aOwn fInt 3 a791 c792 x789 :: aOwn fInt 3 a674 c675 st673.1 :: aOwn fBool 4 a1' c1' st673.2.2 :: L) := SH.add hS817 hE851 hL816 hR852
    obtain ⟨x857, hx858, hm⟩ := bindE hm
    refine WL.append (F := fInt) (xs := x789) (ys := ([(wI64 (x846 - 1))] : List Int)) 79 (SH.front 1 hS856) hL855 (SH.rd (SH.front 0 hS856)) hx858 rfl rfl rfl Try.underlying78 (info3).1 (info3).2.2.1 (info3).2.1 (info3).2.2.2 rfl rfl rfl rfl rfl ?_
    intro a859 c860 w861 hB862 hS863
    have hb864 : Below B w w861 := Below.trans hb854 hB862
    have hL865 : B ≤ w861.heap.size := Nat.le_trans hL855 hB862.size
    refine WL.runk 1 [0, 1, 3, 9, 10, 11, 13, 14] [(0, .slice a0' rows_0.length c0'), (1, .slice a1' st673.2.2.length c1'), (3, .int .i64 least_3), (9, .int .i64 (x3.length : Int)), (10, .slice a674 st673.1.length c675), (11, .int .i64 st673.2.1), (13, .int .i64 x702), (14, .slice a859 x857.length c860)] (by kernel_rfl) ?_
    refine WL.nil ?_
    obtain rfl := Option.some.inj hm
    exact WQ.post' ⟨_, _, rfl, hb864, hL865, (SH.cutOut 3 1 (SH.front 2 (SH.front 3 (SH.front 3 hS863))))⟩ ⟨rfl, rfl, rfl, rfl, rfl, rfl, rfl, rfl, trivial⟩
  clear hx842
  rintro _ w866 ⟨a843, c844, rfl, hb867, hL868, hS869⟩
  refine WQ.then_normal (hK818 _ _ _ ?_)
  refine WP.seq (fun K870 hK870 => ?_)
  refine WP.seq (fun K871 hK871 => ?_)
  refine WP.region ?_
  refine WL.runk 4 [0, 1, 3, 9, 10, 11, 14, 83] [(0, .slice a0' rows_0.length c0'), (1, .slice a1' st673.2.2.length c1'), (3, .int .i64 least_3), (9, .int .i64 (x3.length : Int)), (10, .slice a674 st673.1.length c675), (11, .int .i64 st673.2.1), (14, .slice a843 x841.length c844), (83, .bool (decide ((wI64 (x702 + 1)) < (x3.length : Int))))] (by kernel_rfl) ?_
  refine WL.nil ?_
  refine WQ.then_normal (hK871 _ _ _ ?_)
  obtain ⟨x893, hx894, hm⟩ := bindE hm
  refine WP.cut (fun env' w' => ∃ (a895 : Option Addr) (c896 : Nat), env' = [(0, .slice a0' rows_0.length c0'), (1, .slice a1' st673.2.2.length c1'), (3, .int .i64 least_3), (9, .int .i64 (x3.length : Int)), (10, .slice a674 st673.1.length c675), (11, .int .i64 st673.2.1), (14, .slice a895 x893.length c896)] ∧ Below B w w' ∧ B ≤ w'.heap.size ∧ SH w' B (aOwn fInt 3 a895 c896 x893 :: aOwn fInt 3 a674 c675 st673.1 :: aOwn fBool 4 a1' c1' st673.2.2 :: L)) ?_ ?_
  · have hm := hx894; clear hx894
    refine WP.cond (decide ((wI64 (x702 + 1)) < (x3.length : Int))) rfl rfl (fun hc872 => ?_) (fun hc872 => ?_)
    rotate_left
    · have hm := iteF hm hc872
      refine WP.skip ?_
      obtain rfl := Option.some.inj hm
      exact WQ.post' ⟨_, _, rfl, hb867, hL868, hS869⟩ ⟨rfl, rfl, rfl, rfl, rfl, rfl, rfl, trivial⟩
    have hm := iteT hm hc872
    refine WP.region ?_
    refine WL.runk 3 [0, 1, 3, 9, 10, 11, 84, 85, 86] [(0, .slice a0' rows_0.length c0'), (1, .slice a1' st673.2.2.length c1'), (3, .int .i64 least_3), (9, .int .i64 (x3.length : Int)), (10, .slice a674 st673.1.length c675), (11, .int .i64 st673.2.1), (84, .slice a843 x841.length c844), (85, .slice a674 st673.1.length c675), (86, .int .i64 st673.2.1)] (by kernel_rfl) ?_
    obtain ⟨x898, hx899, hm⟩ := bindE hm
    refine WL.st (.pointer (some (at_ a674 (Int.toNat st673.2.1 * 1)))) (ST.index (T := fInt.ty) (xs := st673.1) (SH.rd (SH.front 1 hS869)) hx899 rfl rfl rfl Try.underlying78 (info3).1 (info3).2.1) rfl rfl rfl ?_
    refine WL.st (.int .i64 x898) (ST.load (cell_ext (Rd.flat (F := fInt) (SH.rd (SH.front 1 hS869)) hx899 0 rfl)) rfl rfl Try.underlying3 rfl) rfl rfl rfl ?_
    refine WL.runk 1 [0, 1, 3, 9, 10, 11, 84, 89] [(0, .slice a0' rows_0.length c0'), (1, .slice a1' st673.2.2.length c1'), (3, .int .i64 least_3), (9, .int .i64 (x3.length : Int)), (10, .slice a674 st673.1.length c675), (11, .int .i64 st673.2.1), (84, .slice a843 x841.length c844), (89, .int .i64 (wI64 (x898 + 1)))] (by kernel_rfl) ?_
    refine WL.row fInt 3 ([(wI64 (x898 + 1))] : List Int) 1 #[.int .i64 (wI64 (x898 + 1))] 90 (by kernel_rfl) rfl rfl rfl rfl rfl rfl rfl ?_
    intro a900 c901 w902 hE903 hR904
    have hb906 : Below B w w902 := Below.trans hb867 (Below.mono hE903 hL868)
    have hL907 : B ≤ w902.heap.size := Nat.le_trans hL868 hE903.size
    have hS908 : SH w902 B (aOwn fInt 3 a900 c901 ([(wI64 (x898 + 1))] : List Int) :: aOwn fInt 3 a843 c844 x841 :: aOwn fInt 3 a674 c675 st673.1 :: aOwn fBool 4 a1' c1' st673.2.2 :: L) := SH.add hS869 hE903 hL868 hR904
    obtain ⟨x909, hx910, hm⟩ := bindE hm
    refine WL.append (F := fInt) (xs := x841) (ys := ([(wI64 (x898 + 1))] : List Int)) 91 (SH.front 1 hS908) hL907 (SH.rd (SH.front 0 hS908)) hx910 rfl rfl rfl Try.underlying78 (info3).1 (info3).2.2.1 (info3).2.1 (info3).2.2.2 rfl rfl rfl rfl rfl ?_
    intro a911 c912 w913 hB914 hS915
    have hb916 : Below B w w913 := Below.trans hb906 hB914
    have hL917 : B ≤ w913.heap.size := Nat.le_trans hL907 hB914.size
    refine WL.runk 1 [0, 1, 3, 9, 10, 11, 14] [(0, .slice a0' rows_0.length c0'), (1, .slice a1' st673.2.2.length c1'), (3, .int .i64 least_3), (9, .int .i64 (x3.length : Int)), (10, .slice a674 st673.1.length c675), (11, .int .i64 st673.2.1), (14, .slice a911 x909.length c912)] (by kernel_rfl) ?_
    refine WL.nil ?_
    obtain rfl := Option.some.inj hm
    exact WQ.post' ⟨_, _, rfl, hb916, hL917, (SH.cutOut 3 1 (SH.front 2 (SH.front 3 (SH.front 3 hS915))))⟩ ⟨rfl, rfl, rfl, rfl, rfl, rfl, rfl, trivial⟩
  clear hx894
  rintro _ w918 ⟨a895, c896, rfl, hb919, hL920, hS921⟩
  refine WQ.then_normal (hK870 _ _ _ ?_)
  refine WP.seq (fun K922 hK922 => ?_)
  refine WP.region ?_
  refine WL.runk 1 [0, 1, 3, 9, 10, 11, 14, 15] [(0, .slice a0' rows_0.length c0'), (1, .slice a1' st673.2.2.length c1'), (3, .int .i64 least_3), (9, .int .i64 (x3.length : Int)), (10, .slice a674 st673.1.length c675), (11, .int .i64 st673.2.1), (14, .slice a895 x893.length c896), (15, .int .i64 0)] (by kernel_rfl) ?_
  refine WL.nil ?_
  refine WQ.then_normal (hK922 _ _ _ ?_)
  refine WP.block ?_
  obtain ⟨t1133, ht1134, hm⟩ := bindE hm
  have hmo1128 := hm; clear hm
  refine WP.sub [(0, .slice a0' rows_0.length c0'), (1, .slice a1' st673.2.2.length c1'), (3, .int .i64 least_3), (9, .int .i64 (x3.length : Int)), (10, .slice a674 st673.1.length c675), (11, .int .i64 st673.2.1), (14, .slice a895 x893.length c896), (15, .int .i64 0)] ⟨rfl, rfl, rfl, rfl, rfl, rfl, rfl, rfl, trivial⟩ ?_
  refine WP.loop (fun n' env' w' => ∃ (st1119 : List Int × Int × List Bool) (a1120 : Option Addr) (c1121 : Nat), env' = [(0, .slice a0' rows_0.length c0'), (1, .slice a1' st1119.2.2.length c1'), (3, .int .i64 least_3), (9, .int .i64 (x3.length : Int)), (10, .slice a1120 st1119.1.length c1121), (11, .int .i64 st673.2.1), (14, .slice a895 x893.length c896), (15, .int .i64 st1119.2.1)] ∧ Below B w w' ∧ B ≤ w'.heap.size ∧ SH w' B (aOwn fInt 3 a1120 c1121 st1119.1 :: aOwn fInt 3 a895 c896 x893 :: aOwn fBool 4 a1' c1' st1119.2.2 :: L) ∧ st1119.2.2.length = seen_1.length ∧ loopN (m_spec_l20Area_l3 n rows_0 least_3 x3 x893) n' st1119 = some t1133) n ⟨(st673.1, 0, st673.2.2), _, _, rfl, hb919, hL920, (SH.front 2 (SH.front 1 (SH.front 2 hS921))), hn689, ht1134⟩ ?_
  rintro n1130 _ w1123 ⟨st1119, a1120, c1121, rfl, hb1124, hL1125, hS1126, hn1135, hl1127⟩ K1129 hK1129
  obtain ⟨n1131, s1132, rfl, hm, hl1127⟩ := loopN_some hl1127
  unfold m_spec_l20Area_l3 at hm
  refine WP.seq (fun K1136 hK1136 => ?_)
  refine WP.seq (fun K1137 hK1137 => ?_)
  refine WP.region ?_
  refine WL.runk 4 [0, 1, 3, 9, 10, 11, 14, 15, 95] [(0, .slice a0' rows_0.length c0'), (1, .slice a1' st1119.2.2.length c1'), (3, .int .i64 least_3), (9, .int .i64 (x3.length : Int)), (10, .slice a1120 st1119.1.length c1121), (11, .int .i64 st673.2.1), (14, .slice a895 x893.length c896), (15, .int .i64 st1119.2.1), (95, .bool (decide (st1119.2.1 < (x893.length : Int))))] (by kernel_rfl) ?_
  refine WL.nil ?_
  refine WQ.then_normal (hK1137 _ _ _ ?_)
  refine WP.cond (decide (st1119.2.1 < (x893.length : Int))) rfl rfl (fun hc1138 => ?_) (fun hc1138 => ?_)
  rotate_left
  · have hm := iteF hm hc1138
    refine WP.exit ?_
    refine WQ.then_exit ?_
    refine WQ.then_exit ?_
    refine WQ.block_here ?_
    obtain rfl := Option.some.inj hm
    obtain rfl := afterN_done hl1127
    have hm := hmo1128
    refine WQ.block_normal ?_
    refine WQ.then_normal (hK693 _ _ _ ?_)
    refine WP.region ?_
    refine WL.runk 3 [0, 1, 3, 9, 10, 11] [(0, .slice a0' rows_0.length c0'), (1, .slice a1' st1119.2.2.length c1'), (3, .int .i64 least_3), (9, .int .i64 (x3.length : Int)), (10, .slice a1120 st1119.1.length c1121), (11, .int .i64 (wI64 (st673.2.1 + 1)))] (by kernel_rfl) ?_
    refine WL.nil ?_
    obtain rfl := Option.some.inj hm
    exact WQ.round hK683 ⟨(st1119.1, (wI64 (st673.2.1 + 1)), st1119.2.2), _, _, rfl, hb1124, hL1125, (SH.cutOut 2 1 (SH.front 1 (SH.front 2 hS1126))), hn1135, hl681⟩ (Nat.lt_succ_self _) ⟨rfl, rfl, rfl, rfl, rfl, rfl, trivial⟩
  have hm := iteT hm hc1138
  refine WP.skip ?_
  refine WQ.then_normal (hK1136 _ _ _ ?_)
  refine WP.seq (fun K1139 hK1139 => ?_)
  refine WP.block ?_
  refine WP.seq (fun K1140 hK1140 => ?_)
  refine WP.region ?_
  refine WL.runk 2 [0, 1, 3, 9, 10, 11, 14, 15, 98, 99] [(0, .slice a0' rows_0.length c0'), (1, .slice a1' st1119.2.2.length c1'), (3, .int .i64 least_3), (9, .int .i64 (x3.length : Int)), (10, .slice a1120 st1119.1.length c1121), (11, .int .i64 st673.2.1), (14, .slice a895 x893.length c896), (15, .int .i64 st1119.2.1), (98, .slice a895 x893.length c896), (99, .int .i64 st1119.2.1)] (by kernel_rfl) ?_
  obtain ⟨x1141, hx1142, hm⟩ := bindE hm
  refine WL.st (.pointer (some (at_ a895 (Int.toNat st1119.2.1 * 1)))) (ST.index (T := fInt.ty) (xs := x893) (SH.rd (SH.front 1 hS1126)) hx1142 rfl rfl rfl Try.underlying78 (info3).1 (info3).2.1) rfl rfl rfl ?_
  refine WL.st (.int .i64 x1141) (ST.load (cell_ext (Rd.flat (F := fInt) (SH.rd (SH.front 1 hS1126)) hx1142 0 rfl)) rfl rfl Try.underlying3 rfl) rfl rfl rfl ?_
  refine WL.runk 1 [0, 1, 3, 9, 10, 11, 14, 15, 16] [(0, .slice a0' rows_0.length c0'), (1, .slice a1' st1119.2.2.length c1'), (3, .int .i64 least_3), (9, .int .i64 (x3.length : Int)), (10, .slice a1120 st1119.1.length c1121), (11, .int .i64 st673.2.1), (14, .slice a895 x893.length c896), (15, .int .i64 st1119.2.1), (16, .int .i64 x1141)] (by kernel_rfl) ?_
  refine WL.nil ?_
  refine WQ.then_normal (hK1140 _ _ _ ?_)
  refine WP.seq (fun K1143 hK1143 => ?_)
  obtain ⟨x1165, hx1166, hm⟩ := bindE hm
  refine WP.cut (fun env' w' => env' = [(0, .slice a0' rows_0.length c0'), (1, .slice a1' st1119.2.2.length c1'), (3, .int .i64 least_3), (9, .int .i64 (x3.length : Int)), (10, .slice a1120 st1119.1.length c1121), (11, .int .i64 st673.2.1), (14, .slice a895 x893.length c896), (15, .int .i64 st1119.2.1), (16, .int .i64 x1141), (118, .bool x1165)] ∧ Below B w w' ∧ B ≤ w'.heap.size ∧ SH w' B (aOwn fInt 3 a1120 c1121 st1119.1 :: aOwn fInt 3 a895 c896 x893 :: aOwn fBool 4 a1' c1' st1119.2.2 :: L)) ?_ ?_
  rotate_left
  · clear hx1166
    rintro _ w1188 ⟨rfl, hb1189, hL1190, hS1191⟩
    refine WQ.then_normal (hK1143 _ _ _ ?_)
    obtain ⟨x1279, hx1280, hm⟩ := bindE hm
    refine WP.cut (fun env' w' => ∃ (a1281 : Option Addr) (c1282 : Nat), env' = [(0, .slice a0' rows_0.length c0'), (1, .slice a1' x1279.2.length c1'), (3, .int .i64 least_3), (9, .int .i64 (x3.length : Int)), (10, .slice a1281 x1279.1.length c1282), (11, .int .i64 st673.2.1), (14, .slice a895 x893.length c896), (15, .int .i64 st1119.2.1)] ∧ Below B w w' ∧ B ≤ w'.heap.size ∧ SH w' B (aOwn fInt 3 a1281 c1282 x1279.1 :: aOwn fInt 3 a895 c896 x893 :: aOwn fBool 4 a1' c1' x1279.2 :: L) ∧ x1279.2.length = seen_1.length) ?_ ?_
    rotate_left
    · clear hx1280
      rintro _ w1311 ⟨a1281, c1282, rfl, hb1312, hL1313, hS1314, hn1315⟩
      refine WQ.block_normal ?_
      refine WQ.then_normal (hK1139 _ _ _ ?_)
      refine WP.region ?_
      refine WL.runk 3 [0, 1, 3, 9, 10, 11, 14, 15] [(0, .slice a0' rows_0.length c0'), (1, .slice a1' x1279.2.length c1'), (3, .int .i64 least_3), (9, .int .i64 (x3.length : Int)), (10, .slice a1281 x1279.1.length c1282), (11, .int .i64 st673.2.1), (14, .slice a895 x893.length c896), (15, .int .i64 (wI64 (st1119.2.1 + 1)))] (by kernel_rfl) ?_
      refine WL.nil ?_
      obtain rfl := Option.some.inj hm
      exact WQ.round hK1129 ⟨(x1279.1, (wI64 (st1119.2.1 + 1)), x1279.2), _, _, rfl, hb1312, hL1313, hS1314, hn1315, hl1127⟩ (Nat.lt_succ_self _) ⟨rfl, rfl, rfl, rfl, rfl, rfl, rfl, rfl, trivial⟩
    have hm := hx1280; clear hx1280
    refine WP.cond x1165 rfl rfl (fun hc1192 => ?_) (fun hc1192 => ?_)
    rotate_left
    · have hm := iteF hm hc1192
      refine WP.skip ?_
      obtain rfl := Option.some.inj hm
      exact WQ.post' ⟨_, _, rfl, hb1189, hL1190, hS1191, hn1135⟩ ⟨rfl, rfl, rfl, rfl, rfl, rfl, rfl, rfl, trivial⟩
    have hm := iteT hm hc1192
    refine WP.seq (fun K1284 hK1284 => ?_)
    refine WP.region ?_
    refine WL.runk 2 [0, 1, 3, 9, 10, 11, 14, 15, 16, 119, 120] [(0, .slice a0' rows_0.length c0'), (1, .slice a1' st1119.2.2.length c1'), (3, .int .i64 least_3), (9, .int .i64 (x3.length : Int)), (10, .slice a1120 st1119.1.length c1121), (11, .int .i64 st673.2.1), (14, .slice a895 x893.length c896), (15, .int .i64 st1119.2.1), (16, .int .i64 x1141), (119, .slice a1' st1119.2.2.length c1'), (120, .int .i64 x1141)] (by kernel_rfl) ?_
    obtain ⟨x1285, hx1286, hm⟩ := bindE hm
    refine WL.st (.pointer (some (at_ a1' (Int.toNat x1141 * 1)))) (ST.index (T := fBool.ty) (xs := st1119.2.2) (SH.rd (SH.front 2 hS1191)) hx1286 rfl rfl rfl Try.underlying68 (info4).1 (info4).2.1) rfl rfl rfl ?_
    refine WL.store (F := fBool) true 0 [.bool true] (SH.front 2 hS1191) hL1190 hx1286 rfl rfl rfl rfl rfl rfl rfl (info4).1 (info4).2.1 rfl rfl rfl ?_
    intro w1287 hB1288 hS1289
    have hb1290 : Below B w w1287 := Below.trans hb1189 hB1288
    have hL1291 : B ≤ w1287.heap.size := Nat.le_trans hL1190 hB1288.size
    refine WL.sub [(0, .slice a0' rows_0.length c0'), (1, .slice a1' ((st1119.2.2.set (Int.toNat x1141) true).length) c1'), (3, .int .i64 least_3), (9, .int .i64 (x3.length : Int)), (10, .slice a1120 st1119.1.length c1121), (11, .int .i64 st673.2.1), (14, .slice a895 x893.length c896), (15, .int .i64 st1119.2.1), (16, .int .i64 x1141), (119, .slice a1' ((st1119.2.2.set (Int.toNat x1141) true).length) c1'), (120, .int .i64 x1141)] ⟨rfl, by first | (simp only [List.length_set]; done) | (simp only [List.length_set]; rfl), rfl, rfl, rfl, rfl, rfl, rfl, rfl, by first | (simp only [List.length_set]; done) | (simp only [List.length_set]; rfl), rfl, trivial⟩ ?_
    have hn1292 : (st1119.2.2.set (Int.toNat x1141) true).length = seen_1.length := List.length_set.trans hn1135
    refine WL.sub [(0, .slice a0' rows_0.length c0'), (1, .slice a1' ((st1119.2.2.set (Int.toNat x1141) true).length) c1'), (3, .int .i64 least_3), (9, .int .i64 (x3.length : Int)), (10, .slice a1120 st1119.1.length c1121), (11, .int .i64 st673.2.1), (14, .slice a895 x893.length c896), (15, .int .i64 st1119.2.1), (16, .int .i64 x1141)] ⟨rfl, rfl, rfl, rfl, rfl, rfl, rfl, rfl, rfl, trivial⟩ ?_
    refine WL.nil ?_
    refine WQ.then_normal (hK1284 _ _ _ ?_)
    refine WP.region ?_
    refine WL.runk 2 [0, 1, 3, 9, 11, 14, 15, 122, 123] [(0, .slice a0' rows_0.length c0'), (1, .slice a1' ((st1119.2.2.set (Int.toNat x1141) true).length) c1'), (3, .int .i64 least_3), (9, .int .i64 (x3.length : Int)), (11, .int .i64 st673.2.1), (14, .slice a895 x893.length c896), (15, .int .i64 st1119.2.1), (122, .slice a1120 st1119.1.length c1121), (123, .int .i64 x1141)] (by kernel_rfl) ?_
    refine WL.row fInt 3 ([x1141] : List Int) 1 #[.int .i64 x1141] 124 (by kernel_rfl) rfl rfl rfl rfl rfl rfl rfl ?_
    intro a1293 c1294 w1295 hE1296 hR1297
    have hb1299 : Below B w w1295 := Below.trans hb1290 (Below.mono hE1296 hL1291)
    have hL1300 : B ≤ w1295.heap.size := Nat.le_trans hL1291 hE1296.size
    have hS1301 : SH w1295 B (aOwn fInt 3 a1293 c1294 ([x1141] : List Int) :: aOwn fBool 4 a1' c1' (st1119.2.2.set (Int.toNat x1141) true) :: aOwn fInt 3 a1120 c1121 st1119.1 :: aOwn fInt 3 a895 c896 x893 :: L) := SH.add hS1289 hE1296 hL1291 hR1297
    obtain ⟨x1302, hx1303, hm⟩ := bindE hm
    refine WL.append (F := fInt) (xs := st1119.1) (ys := ([x1141] : List Int)) 125 (SH.front 2 hS1301) hL1300 (SH.rd (SH.front 0 hS1301)) hx1303 rfl rfl rfl Try.underlying78 (info3).1 (info3).2.2.1 (info3).2.1 (info3).2.2.2 rfl rfl rfl rfl rfl ?_
    intro a1304 c1305 w1306 hB1307 hS1308
    have hb1309 : Below B w w1306 := Below.trans hb1299 hB1307
    have hL1310 : B ≤ w1306.heap.size := Nat.le_trans hL1300 hB1307.size
    refine WL.runk 1 [0, 1, 3, 9, 10, 11, 14, 15] [(0, .slice a0' rows_0.length c0'), (1, .slice a1' ((st1119.2.2.set (Int.toNat x1141) true).length) c1'), (3, .int .i64 least_3), (9, .int .i64 (x3.length : Int)), (11, .int .i64 st673.2.1), (14, .slice a895 x893.length c896), (15, .int .i64 st1119.2.1), (10, .slice a1304 x1302.length c1305)] (by kernel_rfl) ?_
    refine WL.nil ?_
    obtain rfl := Option.some.inj hm
    exact WQ.post' ⟨_, _, rfl, hb1309, hL1310, (SH.cutOut 3 1 (SH.front 2 (SH.front 3 (SH.front 2 hS1308)))), hn1292⟩ ⟨rfl, rfl, rfl, rfl, rfl, rfl, rfl, rfl, trivial⟩
  have hm := hx1166; clear hx1166
  refine WP.quiet (by kernel_rfl) (by kernel_rfl) ?_
  refine QL.step1v 102 (.slice a1' st1119.2.2.length c1') rfl (fun _ => by kernel_rfl) ?_
  refine QL.step1v 103 (.int .i64 x1141) rfl (fun _ => by kernel_rfl) ?_
  refine QL.subk [0, 1, 3, 9, 10, 11, 14, 15, 16, 102, 103] [(0, .slice a0' rows_0.length c0'), (1, .slice a1' st1119.2.2.length c1'), (3, .int .i64 least_3), (9, .int .i64 (x3.length : Int)), (10, .slice a1120 st1119.1.length c1121), (11, .int .i64 st673.2.1), (14, .slice a895 x893.length c896), (15, .int .i64 st1119.2.1), (16, .int .i64 x1141), (102, .slice a1' st1119.2.2.length c1'), (103, .int .i64 x1141)] (by kernel_rfl) ?_
  obtain ⟨x1167, hx1168, hm⟩ := bindE hm
  refine QL.st (.pointer (some (at_ a1' (Int.toNat x1141 * 1)))) (ST.index (T := fBool.ty) (xs := st1119.2.2) (SH.rd (SH.front 2 hS1126)) hx1168 rfl rfl rfl Try.underlying68 (info4).1 (info4).2.1) rfl rfl rfl ?_
  refine QL.st (.bool x1167) (ST.load (cell_ext (Rd.flat (F := fBool) (SH.rd (SH.front 2 hS1126)) hx1168 0 rfl)) rfl rfl Try.underlying4 rfl) rfl rfl rfl ?_
  refine QL.step1v 106 (.bool (!x1167)) rfl (fun _ => by kernel_rfl) ?_
  refine QL.step1v 107 (.bool (!x1167)) rfl (fun _ => by kernel_rfl) ?_
  refine QL.subk [0, 1, 3, 9, 10, 11, 14, 15, 16, 107] [(0, .slice a0' rows_0.length c0'), (1, .slice a1' st1119.2.2.length c1'), (3, .int .i64 least_3), (9, .int .i64 (x3.length : Int)), (10, .slice a1120 st1119.1.length c1121), (11, .int .i64 st673.2.1), (14, .slice a895 x893.length c896), (15, .int .i64 st1119.2.1), (16, .int .i64 x1141), (107, .bool (!x1167))] (by kernel_rfl) ?_
  refine QL.case (!x1167) [107] ⟨rfl, trivial⟩ (fun hc1169 => ?_) (fun hc1169 => ?_)
  rotate_left
  · have hm := iteF hm hc1169
    refine QL.step1v 108 undef rfl (fun _ => by kernel_rfl) ?_
    refine QL.step1v 109 undef rfl (fun _ => by kernel_rfl) ?_
    refine QL.step1v 110 undef rfl (fun _ => by kernel_rfl) ?_
    refine QL.step1v 111 undef rfl (fun _ => by kernel_rfl) ?_
    refine QL.step1v 112 undef rfl (fun _ => by kernel_rfl) ?_
    refine QL.step1v 113 undef rfl (fun _ => by kernel_rfl) ?_
    refine QL.step1v 114 undef rfl (fun _ => by kernel_rfl) ?_
    refine QL.step1v 115 undef rfl (fun _ => by kernel_rfl) ?_
    refine QL.step1v 116 undef rfl (fun _ => by kernel_rfl) ?_
    refine QL.step1v 117 undef rfl (fun _ => by kernel_rfl) ?_
    refine QL.step1v 118 (.bool false) rfl (fun _ => by kernel_rfl) ?_
    refine QL.subk [0, 1, 3, 9, 10, 11, 14, 15, 16, 118] [(0, .slice a0' rows_0.length c0'), (1, .slice a1' st1119.2.2.length c1'), (3, .int .i64 least_3), (9, .int .i64 (x3.length : Int)), (10, .slice a1120 st1119.1.length c1121), (11, .int .i64 st673.2.1), (14, .slice a895 x893.length c896), (15, .int .i64 st1119.2.1), (16, .int .i64 x1141), (118, .bool false)] (by kernel_rfl) ?_
    refine QL.nil ?_
    intro w1183 hE1184
    have hb1185 : Below B w w1183 := Below.trans hb1124 (Below.mono hE1184 hL1125)
    have hL1186 : B ≤ w1183.heap.size := Nat.le_trans hL1125 hE1184.size
    have hS1187 : SH w1183 B (aOwn fInt 3 a1120 c1121 st1119.1 :: aOwn fInt 3 a895 c896 x893 :: aOwn fBool 4 a1' c1' st1119.2.2 :: L) := SH.ext hS1126 hE1184
    obtain rfl := Option.some.inj hm
    exact WQ.post' ⟨rfl, hb1185, hL1186, hS1187⟩ ⟨rfl, rfl, rfl, rfl, rfl, rfl, rfl, rfl, rfl, rfl, trivial⟩
  have hm := iteT hm hc1169
  refine QL.step1v 108 (.slice a0' rows_0.length c0') rfl (fun _ => by kernel_rfl) ?_
  refine QL.step1v 109 (.int .i64 x1141) rfl (fun _ => by kernel_rfl) ?_
  refine QL.step1v 110 (.int .i64 (x3.length : Int)) rfl (fun _ => by kernel_rfl) ?_
  refine QL.subk [0, 1, 3, 9, 10, 11, 14, 15, 16, 107, 108, 109, 110] [(0, .slice a0' rows_0.length c0'), (1, .slice a1' st1119.2.2.length c1'), (3, .int .i64 least_3), (9, .int .i64 (x3.length : Int)), (10, .slice a1120 st1119.1.length c1121), (11, .int .i64 st673.2.1), (14, .slice a895 x893.length c896), (15, .int .i64 st1119.2.1), (16, .int .i64 x1141), (107, .bool true), (108, .slice a0' rows_0.length c0'), (109, .int .i64 x1141), (110, .int .i64 (x3.length : Int))] (by kernel_rfl) ?_
  obtain ⟨x1170, hx1171, hm⟩ := bindE hm
  refine QL.st (.int .i64 x1170) (ST.quo (k := .i64) hx1171 rfl rfl rfl) rfl rfl rfl ?_
  refine QL.step1v 112 (.int .i64 x1141) rfl (fun _ => by kernel_rfl) ?_
  refine QL.step1v 113 (.int .i64 (x3.length : Int)) rfl (fun _ => by kernel_rfl) ?_
  refine QL.subk [0, 1, 3, 9, 10, 11, 14, 15, 16, 107, 108, 111, 112, 113] [(0, .slice a0' rows_0.length c0'), (1, .slice a1' st1119.2.2.length c1'), (3, .int .i64 least_3), (9, .int .i64 (x3.length : Int)), (10, .slice a1120 st1119.1.length c1121), (11, .int .i64 st673.2.1), (14, .slice a895 x893.length c896), (15, .int .i64 st1119.2.1), (16, .int .i64 x1141), (107, .bool true), (108, .slice a0' rows_0.length c0'), (111, .int .i64 x1170), (112, .int .i64 x1141), (113, .int .i64 (x3.length : Int))] (by kernel_rfl) ?_
  obtain ⟨x1172, hx1173, hm⟩ := bindE hm
  refine QL.st (.int .i64 x1172) (ST.rem (k := .i64) hx1173 rfl rfl rfl) rfl rfl rfl ?_
  obtain ⟨x1174, hx1175, hm⟩ := bindE hm
  refine QL.call 52 #[.slice a0' rows_0.length c0', .int .i64 x1170, .int .i64 x1172] (.int .i64 x1174) (fun _ => by kernel_rfl) (fun w1176 hE1177 => c_52 n rows_0 a0' c0' x1170 x1172 w1176 hx1175 (Rd.below (Rd.below h0 (Below.trans hE0 (Below.mono hb1124 hW))) hE1177) hle0) rfl rfl rfl ?_
  refine QL.step1v 116 (.int .i64 least_3) rfl (fun _ => by kernel_rfl) ?_
  refine QL.step1v 117 (.bool (decide (x1174 ≥ least_3))) rfl (fun _ => by kernel_rfl) ?_
  refine QL.step1v 118 (.bool (decide (x1174 ≥ least_3))) rfl (fun _ => by kernel_rfl) ?_
  refine QL.subk [0, 1, 3, 9, 10, 11, 14, 15, 16, 118] [(0, .slice a0' rows_0.length c0'), (1, .slice a1' st1119.2.2.length c1'), (3, .int .i64 least_3), (9, .int .i64 (x3.length : Int)), (10, .slice a1120 st1119.1.length c1121), (11, .int .i64 st673.2.1), (14, .slice a895 x893.length c896), (15, .int .i64 st1119.2.1), (16, .int .i64 x1141), (118, .bool (decide (x1174 ≥ least_3)))] (by kernel_rfl) ?_
  refine QL.nil ?_
  intro w1178 hE1179
  have hb1180 : Below B w w1178 := Below.trans hb1124 (Below.mono hE1179 hL1125)
  have hL1181 : B ≤ w1178.heap.size := Nat.le_trans hL1125 hE1179.size
  have hS1182 : SH w1178 B (aOwn fInt 3 a1120 c1121 st1119.1 :: aOwn fInt 3 a895 c896 x893 :: aOwn fBool 4 a1' c1' st1119.2.2 :: L) := SH.ext hS1126 hE1179
  obtain rfl := Option.some.inj hm
  exact WQ.post' ⟨rfl, hb1180, hL1181, hS1182⟩ ⟨rfl, rfl, rfl, rfl, rfl, rfl, rfl, rfl, rfl, rfl, trivial⟩

theorem c_45 (n : Nat) (rows_0 : List (List UInt8)) (a0' : Option Addr) (c0' : Nat) (least_1 : Int) (w : World) {r : List Int × Int} (hm : m_spec_WornAreas n rows_0 least_1 = some r) (h0 : Rd fStr.ty w a0' rows_0) (hle0 : rows_0.length ≤ c0') :
    CallV Try.prog 45 #[.slice a0' rows_0.length c0', .int .i64 least_1] w (fun v w' => ∃ (ra0 : Option Addr) (rc0 : Nat), v = .tuple #[.slice ra0 r.1.length rc0, .int .i64 r.2] ∧ Ext w w' ∧ SH w' w.heap.size [aOwn fInt 2 ra0 rc0 r.1]) := by
  unfold m_spec_WornAreas at hm
  refine CallV.enter Try.func45 rfl (by kernel_rfl) Try.ntmps45 (env := [(0, .slice a0' rows_0.length c0'), (1, .int .i64 least_1)]) ⟨rfl, rfl, trivial⟩ ?_
  refine WP.seq (fun K1 hK1 => ?_)
  refine WP.region ?_
  refine WL.runk 2 [0, 1] [(0, .slice a0' rows_0.length c0'), (1, .int .i64 least_1)] (by kernel_rfl) ?_
  refine WL.nil ?_
  refine WQ.then_normal (hK1 _ _ _ ?_)
  refine WP.seq (fun K2 hK2 => ?_)
  refine WP.region ?_
  refine WL.runk 2 [0, 1, 11, 12] [(0, .slice a0' rows_0.length c0'), (1, .int .i64 least_1), (11, .slice a0' rows_0.length c0'), (12, .int .i64 least_1)] (by kernel_rfl) ?_
  obtain ⟨x3, hx4, hm⟩ := bindE hm
  refine WL.call 51 #[.slice a0' rows_0.length c0', .int .i64 least_1] rfl rfl (by kernel_rfl) (c_51 n rows_0 a0' c0' least_1 w hx4 (Rd.below h0 (Ext.refl w)) hle0) ?_
  rintro _ w5 ⟨rfl, hE6⟩
  refine ⟨_, rfl, ?_⟩
  have hb8 : Ext w w5 := Ext.trans (Ext.refl w) hE6
  have hL9 : w.heap.size ≤ w5.heap.size := Nat.le_trans (Nat.le_refl _) hE6.size
  have hS10 : SH w5 w.heap.size [] := SH.ext (SH.nil _ _) hE6
  refine WL.runk 1 [0, 1, 6] [(0, .slice a0' rows_0.length c0'), (1, .int .i64 least_1), (6, .int .i64 x3)] (by kernel_rfl) ?_
  refine WL.nil ?_
  refine WQ.then_normal (hK2 _ _ _ ?_)
  refine WP.seq (fun K11 hK11 => ?_)
  refine WP.seq (fun K12 hK12 => ?_)
  refine WP.region ?_
  refine WL.runk 2 [0, 1, 6, 15] [(0, .slice a0' rows_0.length c0'), (1, .int .i64 least_1), (6, .int .i64 x3), (15, .bool (x3 != 0))] (by kernel_rfl) ?_
  refine WL.nil ?_
  refine WQ.then_normal (hK12 _ _ _ ?_)
  refine WP.cond (x3 != 0) rfl rfl (fun hc13 => ?_) (fun hc13 => ?_)
  · have hm := iteT hm hc13
    refine WP.seq (fun K14 hK14 => ?_)
    refine WP.region ?_
    refine WL.runk 3 [4, 5] [(4, .slice none 0 0), (5, .int .i64 x3)] (by kernel_rfl) ?_
    refine WL.nil ?_
    refine WQ.then_normal (hK14 _ _ _ ?_)
    refine WP.ret ?_
    refine WQ.then_ret ?_
    obtain rfl := Option.some.inj hm
    have hS16 : SH w5 w.heap.size [aOwn fInt 2 none 0 ([] : List Int)] := SH.nilOwn hS10
    exact WQ.ret2 _ _ rfl rfl rfl ⟨_, _, rfl, hb8, hS16⟩
  have hm := iteF hm hc13
  refine WP.skip ?_
  refine WQ.then_normal (hK11 _ _ _ ?_)
  refine WP.seq (fun K17 hK17 => ?_)
  refine WP.region ?_
  refine WL.runk 1 [0, 1, 17] [(0, .slice a0' rows_0.length c0'), (1, .int .i64 least_1), (17, .slice a0' rows_0.length c0')] (by kernel_rfl) ?_
  obtain ⟨x18, hx19, hm⟩ := bindE hm
  refine WL.st (.pointer (some (at_ a0' (Int.toNat 0 * 1)))) (ST.index (T := fStr.ty) (xs := rows_0) (Rd.below h0 hb8) hx19 rfl rfl rfl Try.underlying22 (info9).1 (info9).2.1) rfl rfl rfl ?_
  refine WL.st (.string (bs x18)) (ST.load (cell_ext (Rd.flat (F := fStr) (Rd.below h0 hb8) hx19 0 rfl)) rfl rfl Try.underlying9 rfl) rfl rfl rfl ?_
  refine WL.runk 2 [0, 1, 7] [(0, .slice a0' rows_0.length c0'), (1, .int .i64 least_1), (7, .int .i64 (x18.length : Int))] (by kernel_rfl) ?_
  refine WL.nil ?_
  refine WQ.then_normal (hK17 _ _ _ ?_)
  refine WP.seq (fun K20 hK20 => ?_)
  refine WP.region ?_
  refine WL.runk 4 [0, 1, 7, 24] [(0, .slice a0' rows_0.length c0'), (1, .int .i64 least_1), (7, .int .i64 (x18.length : Int)), (24, .int .i64 (wI64 ((x18.length : Int) * (rows_0.length : Int))))] (by kernel_rfl) ?_
  obtain ⟨x21, hx22, hm⟩ := bindE hm
  refine WL.make fBool 25 hx22 rfl rfl rfl Try.underlying68 (info4).1 (info4).2.2.1 (info4).2.1 (info4).2.2.2 rfl rfl rfl rfl rfl ?_
  intro a23 c24 w25 hE26 hR27
  have hb29 : Ext w w25 := Ext.trans hb8 hE26
  have hL30 : w.heap.size ≤ w25.heap.size := Nat.le_trans hL9 hE26.size
  have hS31 : SH w25 w.heap.size [aOwn fBool 4 a23 c24 x21] := SH.add hS10 hE26 hL9 hR27
  refine WL.runk 1 [0, 1, 7, 8] [(0, .slice a0' rows_0.length c0'), (1, .int .i64 least_1), (7, .int .i64 (x18.length : Int)), (8, .slice a23 x21.length c24)] (by kernel_rfl) ?_
  refine WL.nil ?_
  refine WQ.then_normal (hK20 _ _ _ ?_)
  refine WP.seq (fun K32 hK32 => ?_)
  refine WP.region ?_
  refine WL.row fInt 2 ([] : List Int) 0 #[] 26 (by kernel_rfl) rfl rfl rfl rfl rfl rfl rfl ?_
  intro a33 c34 w35 hE36 hR37
  have hb39 : Ext w w35 := Ext.trans hb29 hE36
  have hL40 : w.heap.size ≤ w35.heap.size := Nat.le_trans hL30 hE36.size
  have hS41 : SH w35 w.heap.size [aOwn fInt 2 a33 c34 ([] : List Int), aOwn fBool 4 a23 c24 x21] := SH.add hS31 hE36 hL30 hR37
  refine WL.runk 1 [0, 1, 7, 8, 9] [(0, .slice a0' rows_0.length c0'), (1, .int .i64 least_1), (7, .int .i64 (x18.length : Int)), (8, .slice a23 x21.length c24), (9, .slice a33 (([] : List Int).length) c34)] (by kernel_rfl) ?_
  refine WL.nil ?_
  refine WQ.then_normal (hK32 _ _ _ ?_)
  refine WP.seq (fun K42 hK42 => ?_)
  refine WP.seq (fun K43 hK43 => ?_)
  refine WP.region ?_
  refine WL.runk 1 [0, 1, 7, 8, 9, 10] [(0, .slice a0' rows_0.length c0'), (1, .int .i64 least_1), (7, .int .i64 (x18.length : Int)), (8, .slice a23 x21.length c24), (9, .slice a33 (([] : List Int).length) c34), (10, .int .i64 0)] (by kernel_rfl) ?_
  refine WL.nil ?_
  refine WQ.then_normal (hK43 _ _ _ ?_)
  refine WP.block ?_
  obtain ⟨t255, ht256, hm⟩ := bindE hm
  have hmo250 := hm; clear hm
  refine WP.sub [(0, .slice a0' rows_0.length c0'), (1, .int .i64 least_1), (7, .int .i64 (x18.length : Int)), (8, .slice a23 x21.length c24), (9, .slice a33 (([] : List Int).length) c34), (10, .int .i64 0)] ⟨rfl, rfl, rfl, rfl, rfl, rfl, trivial⟩ ?_
  refine WP.loop (fun n' env' w' => ∃ (st241 : List Int × Int × List Bool) (a242 : Option Addr) (c243 : Nat), env' = [(0, .slice a0' rows_0.length c0'), (1, .int .i64 least_1), (7, .int .i64 (x18.length : Int)), (8, .slice a23 st241.2.2.length c24), (9, .slice a242 st241.1.length c243), (10, .int .i64 st241.2.1)] ∧ Ext w w' ∧ w.heap.size ≤ w'.heap.size ∧ SH w' w.heap.size [aOwn fInt 2 a242 c243 st241.1, aOwn fBool 4 a23 c24 st241.2.2] ∧ loopN (m_spec_WornAreas_l1 n rows_0 least_1 x18) n' st241 = some t255) n ⟨(([] : List Int), 0, x21), _, _, rfl, hb39, hL40, hS41, ht256⟩ ?_
  rintro n252 _ w245 ⟨st241, a242, c243, rfl, hb246, hL247, hS248, hl249⟩ K251 hK251
  obtain ⟨n253, s254, rfl, hm, hl249⟩ := loopN_some hl249
  unfold m_spec_WornAreas_l1 at hm
  refine WP.seq (fun K257 hK257 => ?_)
  refine WP.seq (fun K258 hK258 => ?_)
  refine WP.region ?_
  refine WL.runk 4 [0, 1, 7, 8, 9, 10, 30] [(0, .slice a0' rows_0.length c0'), (1, .int .i64 least_1), (7, .int .i64 (x18.length : Int)), (8, .slice a23 st241.2.2.length c24), (9, .slice a242 st241.1.length c243), (10, .int .i64 st241.2.1), (30, .bool (decide (st241.2.1 < (st241.2.2.length : Int))))] (by kernel_rfl) ?_
  refine WL.nil ?_
  refine WQ.then_normal (hK258 _ _ _ ?_)
  refine WP.cond (decide (st241.2.1 < (st241.2.2.length : Int))) rfl rfl (fun hc259 => ?_) (fun hc259 => ?_)
  rotate_left
  · have hm := iteF hm hc259
    refine WP.exit ?_
    refine WQ.then_exit ?_
    refine WQ.then_exit ?_
    refine WQ.block_here ?_
    obtain rfl := Option.some.inj hm
    obtain rfl := afterN_done hl249
    have hm := hmo250
    refine WQ.then_normal (hK42 _ _ _ ?_)
    refine WP.seq (fun K437 hK437 => ?_)
    refine WP.region ?_
    refine WL.runk 3 [4, 5] [(4, .slice a242 st241.1.length c243), (5, .int .i64 0)] (by kernel_rfl) ?_
    refine WL.nil ?_
    refine WQ.then_normal (hK437 _ _ _ ?_)
    refine WP.ret ?_
    obtain rfl := Option.some.inj hm
    exact WQ.ret2 _ _ rfl rfl rfl ⟨_, _, rfl, hb246, (SH.take 1 hS248)⟩
  have hm := iteT hm hc259
  refine WP.skip ?_
  refine WQ.then_normal (hK257 _ _ _ ?_)
  refine WP.seq (fun K260 hK260 => ?_)
  refine WP.block ?_
  refine WP.seq (fun K261 hK261 => ?_)
  obtain ⟨x283, hx284, hm⟩ := bindE hm
  refine WP.cut (fun env' w' => env' = [(0, .slice a0' rows_0.length c0'), (1, .int .i64 least_1), (7, .int .i64 (x18.length : Int)), (8, .slice a23 st241.2.2.length c24), (9, .slice a242 st241.1.length c243), (10, .int .i64 st241.2.1), (49, .bool x283)] ∧ Ext w w' ∧ w.heap.size ≤ w'.heap.size ∧ SH w' w.heap.size [aOwn fInt 2 a242 c243 st241.1, aOwn fBool 4 a23 c24 st241.2.2]) ?_ ?_
  rotate_left
  · clear hx284
    rintro _ w306 ⟨rfl, hb307, hL308, hS309⟩
    refine WQ.then_normal (hK261 _ _ _ ?_)
    obtain ⟨x400, hx401, hm⟩ := bindE hm
    refine WP.cut (fun env' w' => ∃ (a402 : Option Addr) (c403 : Nat), env' = [(0, .slice a0' rows_0.length c0'), (1, .int .i64 least_1), (7, .int .i64 (x18.length : Int)), (8, .slice a23 x400.2.length c24), (9, .slice a402 x400.1.length c403), (10, .int .i64 st241.2.1)] ∧ Ext w w' ∧ w.heap.size ≤ w'.heap.size ∧ SH w' w.heap.size [aOwn fInt 2 a402 c403 x400.1, aOwn fBool 4 a23 c24 x400.2]) ?_ ?_
    rotate_left
    · clear hx401
      rintro _ w433 ⟨a402, c403, rfl, hb434, hL435, hS436⟩
      refine WQ.block_normal ?_
      refine WQ.then_normal (hK260 _ _ _ ?_)
      refine WP.region ?_
      refine WL.runk 3 [0, 1, 7, 8, 9, 10] [(0, .slice a0' rows_0.length c0'), (1, .int .i64 least_1), (7, .int .i64 (x18.length : Int)), (8, .slice a23 x400.2.length c24), (9, .slice a402 x400.1.length c403), (10, .int .i64 (wI64 (st241.2.1 + 1)))] (by kernel_rfl) ?_
      refine WL.nil ?_
      obtain rfl := Option.some.inj hm
      exact WQ.round hK251 ⟨(x400.1, (wI64 (st241.2.1 + 1)), x400.2), _, _, rfl, hb434, hL435, hS436, hl249⟩ (Nat.lt_succ_self _) ⟨rfl, rfl, rfl, rfl, rfl, rfl, trivial⟩
    have hm := hx401; clear hx401
    refine WP.cond x283 rfl rfl (fun hc310 => ?_) (fun hc310 => ?_)
    rotate_left
    · have hm := iteF hm hc310
      refine WP.skip ?_
      obtain rfl := Option.some.inj hm
      exact WQ.post' ⟨_, _, rfl, hb307, hL308, hS309⟩ ⟨rfl, rfl, rfl, rfl, rfl, rfl, trivial⟩
    have hm := iteT hm hc310
    refine WP.region ?_
    refine WL.runk 5 [0, 1, 7, 8, 10, 50, 51, 52, 53, 54] [(0, .slice a0' rows_0.length c0'), (1, .int .i64 least_1), (7, .int .i64 (x18.length : Int)), (8, .slice a23 st241.2.2.length c24), (10, .int .i64 st241.2.1), (50, .slice a242 st241.1.length c243), (51, .slice a0' rows_0.length c0'), (52, .slice a23 st241.2.2.length c24), (53, .int .i64 st241.2.1), (54, .int .i64 least_1)] (by kernel_rfl) ?_
    obtain ⟨x405, hx406, hm⟩ := bindE hm
    refine WL.call 73 #[.slice a0' rows_0.length c0', .slice a23 st241.2.2.length c24, .int .i64 st241.2.1, .int .i64 least_1] rfl rfl (by kernel_rfl) (c_73 n rows_0 a0' c0' st241.2.2 a23 c24 st241.2.1 least_1 w306 w w.heap.size [aOwn fInt 2 a242 c243 st241.1] hx406 hb307 (Nat.le_refl _) hL308 h0 hle0 (SH.front 1 hS309)) ?_
    rintro _ w407 ⟨rfl, hB411, hS410, hlen412⟩
    refine ⟨_, rfl, ?_⟩
    have hb413 : Ext w w407 := Below.trans hb307 hB411
    have hL414 : w.heap.size ≤ w407.heap.size := Nat.le_trans hL308 hB411.size
    refine WL.sub [(0, .slice a0' rows_0.length c0'), (1, .int .i64 least_1), (7, .int .i64 (x18.length : Int)), (8, .slice a23 x405.2.length c24), (10, .int .i64 st241.2.1), (50, .slice a242 st241.1.length c243), (51, .slice a0' rows_0.length c0'), (52, .slice a23 x405.2.length c24), (53, .int .i64 st241.2.1), (54, .int .i64 least_1), (55, .int .i64 x405.1)] ⟨rfl, rfl, rfl, by rw [hlen412]; rfl, rfl, rfl, rfl, by rw [hlen412]; rfl, rfl, rfl, rfl, trivial⟩ ?_
    refine WL.row fInt 2 ([x405.1] : List Int) 1 #[.int .i64 x405.1] 56 (by kernel_rfl) rfl rfl rfl rfl rfl rfl rfl ?_
    intro a415 c416 w417 hE418 hR419
    have hb421 : Ext w w417 := Ext.trans hb413 hE418
    have hL422 : w.heap.size ≤ w417.heap.size := Nat.le_trans hL414 hE418.size
    have hS423 : SH w417 w.heap.size [aOwn fInt 2 a415 c416 ([x405.1] : List Int), aOwn fBool 4 a23 c24 x405.2, aOwn fInt 2 a242 c243 st241.1] := SH.add hS410 hE418 hL414 hR419
    obtain ⟨x424, hx425, hm⟩ := bindE hm
    refine WL.append (F := fInt) (xs := st241.1) (ys := ([x405.1] : List Int)) 57 (SH.front 2 hS423) hL422 (SH.rd (SH.front 0 hS423)) hx425 rfl rfl rfl Try.underlying40 (info2).1 (info2).2.2.1 (info2).2.1 (info2).2.2.2 rfl rfl rfl rfl rfl ?_
    intro a426 c427 w428 hB429 hS430
    have hb431 : Ext w w428 := Below.trans hb421 hB429
    have hL432 : w.heap.size ≤ w428.heap.size := Nat.le_trans hL422 hB429.size
    refine WL.runk 1 [0, 1, 7, 8, 9, 10] [(0, .slice a0' rows_0.length c0'), (1, .int .i64 least_1), (7, .int .i64 (x18.length : Int)), (8, .slice a23 x405.2.length c24), (10, .int .i64 st241.2.1), (9, .slice a426 x424.length c427)] (by kernel_rfl) ?_
    refine WL.nil ?_
    obtain rfl := Option.some.inj hm
    exact WQ.post' ⟨_, _, rfl, hb431, hL432, (SH.take 2 (SH.front 1 (SH.front 2 hS430)))⟩ ⟨rfl, rfl, rfl, rfl, rfl, rfl, trivial⟩
  have hm := hx284; clear hx284
  refine WP.quiet (by kernel_rfl) (by kernel_rfl) ?_
  refine QL.step1v 33 (.slice a23 st241.2.2.length c24) rfl (fun _ => by kernel_rfl) ?_
  refine QL.step1v 34 (.int .i64 st241.2.1) rfl (fun _ => by kernel_rfl) ?_
  refine QL.subk [0, 1, 7, 8, 9, 10, 33, 34] [(0, .slice a0' rows_0.length c0'), (1, .int .i64 least_1), (7, .int .i64 (x18.length : Int)), (8, .slice a23 st241.2.2.length c24), (9, .slice a242 st241.1.length c243), (10, .int .i64 st241.2.1), (33, .slice a23 st241.2.2.length c24), (34, .int .i64 st241.2.1)] (by kernel_rfl) ?_
  obtain ⟨x285, hx286, hm⟩ := bindE hm
  refine QL.st (.pointer (some (at_ a23 (Int.toNat st241.2.1 * 1)))) (ST.index (T := fBool.ty) (xs := st241.2.2) (SH.rd (SH.front 1 hS248)) hx286 rfl rfl rfl Try.underlying68 (info4).1 (info4).2.1) rfl rfl rfl ?_
  refine QL.st (.bool x285) (ST.load (cell_ext (Rd.flat (F := fBool) (SH.rd (SH.front 1 hS248)) hx286 0 rfl)) rfl rfl Try.underlying4 rfl) rfl rfl rfl ?_
  refine QL.step1v 37 (.bool (!x285)) rfl (fun _ => by kernel_rfl) ?_
  refine QL.step1v 38 (.bool (!x285)) rfl (fun _ => by kernel_rfl) ?_
  refine QL.subk [0, 1, 7, 8, 9, 10, 38] [(0, .slice a0' rows_0.length c0'), (1, .int .i64 least_1), (7, .int .i64 (x18.length : Int)), (8, .slice a23 st241.2.2.length c24), (9, .slice a242 st241.1.length c243), (10, .int .i64 st241.2.1), (38, .bool (!x285))] (by kernel_rfl) ?_
  refine QL.case (!x285) [38] ⟨rfl, trivial⟩ (fun hc287 => ?_) (fun hc287 => ?_)
  rotate_left
  · have hm := iteF hm hc287
    refine QL.step1v 39 undef rfl (fun _ => by kernel_rfl) ?_
    refine QL.step1v 40 undef rfl (fun _ => by kernel_rfl) ?_
    refine QL.step1v 41 undef rfl (fun _ => by kernel_rfl) ?_
    refine QL.step1v 42 undef rfl (fun _ => by kernel_rfl) ?_
    refine QL.step1v 43 undef rfl (fun _ => by kernel_rfl) ?_
    refine QL.step1v 44 undef rfl (fun _ => by kernel_rfl) ?_
    refine QL.step1v 45 undef rfl (fun _ => by kernel_rfl) ?_
    refine QL.step1v 46 undef rfl (fun _ => by kernel_rfl) ?_
    refine QL.step1v 47 undef rfl (fun _ => by kernel_rfl) ?_
    refine QL.step1v 48 undef rfl (fun _ => by kernel_rfl) ?_
    refine QL.step1v 49 (.bool false) rfl (fun _ => by kernel_rfl) ?_
    refine QL.subk [0, 1, 7, 8, 9, 10, 49] [(0, .slice a0' rows_0.length c0'), (1, .int .i64 least_1), (7, .int .i64 (x18.length : Int)), (8, .slice a23 st241.2.2.length c24), (9, .slice a242 st241.1.length c243), (10, .int .i64 st241.2.1), (49, .bool false)] (by kernel_rfl) ?_
    refine QL.nil ?_
    intro w301 hE302
    have hb303 : Ext w w301 := Ext.trans hb246 hE302
    have hL304 : w.heap.size ≤ w301.heap.size := Nat.le_trans hL247 hE302.size
    have hS305 : SH w301 w.heap.size [aOwn fInt 2 a242 c243 st241.1, aOwn fBool 4 a23 c24 st241.2.2] := SH.ext hS248 hE302
    obtain rfl := Option.some.inj hm
    exact WQ.post' ⟨rfl, hb303, hL304, hS305⟩ ⟨rfl, rfl, rfl, rfl, rfl, rfl, rfl, trivial⟩
  have hm := iteT hm hc287
  refine QL.step1v 39 (.slice a0' rows_0.length c0') rfl (fun _ => by kernel_rfl) ?_
  refine QL.step1v 40 (.int .i64 st241.2.1) rfl (fun _ => by kernel_rfl) ?_
  refine QL.step1v 41 (.int .i64 (x18.length : Int)) rfl (fun _ => by kernel_rfl) ?_
  refine QL.subk [0, 1, 7, 8, 9, 10, 38, 39, 40, 41] [(0, .slice a0' rows_0.length c0'), (1, .int .i64 least_1), (7, .int .i64 (x18.length : Int)), (8, .slice a23 st241.2.2.length c24), (9, .slice a242 st241.1.length c243), (10, .int .i64 st241.2.1), (38, .bool true), (39, .slice a0' rows_0.length c0'), (40, .int .i64 st241.2.1), (41, .int .i64 (x18.length : Int))] (by kernel_rfl) ?_
  obtain ⟨x288, hx289, hm⟩ := bindE hm
  refine QL.st (.int .i64 x288) (ST.quo (k := .i64) hx289 rfl rfl rfl) rfl rfl rfl ?_
  refine QL.step1v 43 (.int .i64 st241.2.1) rfl (fun _ => by kernel_rfl) ?_
  refine QL.step1v 44 (.int .i64 (x18.length : Int)) rfl (fun _ => by kernel_rfl) ?_
  refine QL.subk [0, 1, 7, 8, 9, 10, 38, 39, 42, 43, 44] [(0, .slice a0' rows_0.length c0'), (1, .int .i64 least_1), (7, .int .i64 (x18.length : Int)), (8, .slice a23 st241.2.2.length c24), (9, .slice a242 st241.1.length c243), (10, .int .i64 st241.2.1), (38, .bool true), (39, .slice a0' rows_0.length c0'), (42, .int .i64 x288), (43, .int .i64 st241.2.1), (44, .int .i64 (x18.length : Int))] (by kernel_rfl) ?_
  obtain ⟨x290, hx291, hm⟩ := bindE hm
  refine QL.st (.int .i64 x290) (ST.rem (k := .i64) hx291 rfl rfl rfl) rfl rfl rfl ?_
  obtain ⟨x292, hx293, hm⟩ := bindE hm
  refine QL.call 52 #[.slice a0' rows_0.length c0', .int .i64 x288, .int .i64 x290] (.int .i64 x292) (fun _ => by kernel_rfl) (fun w294 hE295 => c_52 n rows_0 a0' c0' x288 x290 w294 hx293 (Rd.below (Rd.below h0 hb246) hE295) hle0) rfl rfl rfl ?_
  refine QL.step1v 47 (.int .i64 least_1) rfl (fun _ => by kernel_rfl) ?_
  refine QL.step1v 48 (.bool (decide (x292 ≥ least_1))) rfl (fun _ => by kernel_rfl) ?_
  refine QL.step1v 49 (.bool (decide (x292 ≥ least_1))) rfl (fun _ => by kernel_rfl) ?_
  refine QL.subk [0, 1, 7, 8, 9, 10, 49] [(0, .slice a0' rows_0.length c0'), (1, .int .i64 least_1), (7, .int .i64 (x18.length : Int)), (8, .slice a23 st241.2.2.length c24), (9, .slice a242 st241.1.length c243), (10, .int .i64 st241.2.1), (49, .bool (decide (x292 ≥ least_1)))] (by kernel_rfl) ?_
  refine QL.nil ?_
  intro w296 hE297
  have hb298 : Ext w w296 := Ext.trans hb246 hE297
  have hL299 : w.heap.size ≤ w296.heap.size := Nat.le_trans hL247 hE297.size
  have hS300 : SH w296 w.heap.size [aOwn fInt 2 a242 c243 st241.1, aOwn fBool 4 a23 c24 st241.2.2] := SH.ext hS248 hE297
  obtain rfl := Option.some.inj hm
  exact WQ.post' ⟨rfl, hb298, hL299, hS300⟩ ⟨rfl, rfl, rfl, rfl, rfl, rfl, rfl, trivial⟩

theorem c_74 (n : Nat) : ∀ (worn_0 : List Bool) (a0' : Option Addr) (c0' : Nat) (columns_1 : Int) (field_2 : Int) (w : World) (w0 : World) (B : Nat) (L : List Asrt) {r : Int × List Bool} (hm : m_impl_area n worn_0 columns_1 field_2 = some r) (hE0 : Ext w0 w) (hW : w0.heap.size ≤ B) (hL : B ≤ w.heap.size) (hS : SH w B (aOwn fBool 4 a0' c0' worn_0 :: L)), CallV Try.prog 74 #[.slice a0' worn_0.length c0', .int .i64 columns_1, .int .i64 field_2] w (fun v w' => v = .int .i64 r.1 ∧ Below B w w' ∧ SH w' B (aOwn fBool 4 a0' c0' r.2 :: L) ∧ r.2.length = worn_0.length) := by
  induction n with
  | zero => intro worn_0 a0' c0' columns_1 field_2 w w0 B L r hm hE0 hW hL hS; cases hm
  | succ n ih =>
    intro worn_0 a0' c0' columns_1 field_2 w w0 B L r hm hE0 hW hL hS
    rw [m_impl_area] at hm
    refine CallV.enter Try.func74 rfl (by kernel_rfl) Try.ntmps74 (env := [(0, .slice a0' worn_0.length c0'), (1, .int .i64 columns_1), (2, .int .i64 field_2)]) ⟨rfl, rfl, rfl, trivial⟩ ?_
    refine WP.seq (fun K1 hK1 => ?_)
    refine WP.region ?_
    refine WL.runk 1 [0, 1, 2] [(0, .slice a0' worn_0.length c0'), (1, .int .i64 columns_1), (2, .int .i64 field_2)] (by kernel_rfl) ?_
    refine WL.nil ?_
    refine WQ.then_normal (hK1 _ _ _ ?_)
    refine WP.seq (fun K2 hK2 => ?_)
    refine WP.seq (fun K3 hK3 => ?_)
    obtain ⟨x8, hx9, hm⟩ := bindE hm
    refine WP.cut (fun env' w' => env' = [(0, .slice a0' worn_0.length c0'), (1, .int .i64 columns_1), (2, .int .i64 field_2), (22, .bool x8)] ∧ Below B w w' ∧ B ≤ w'.heap.size ∧ SH w' B (aOwn fBool 4 a0' c0' worn_0 :: L)) ?_ ?_
    · have hm := hx9; clear hx9
      refine WP.region ?_
      refine WL.runk 3 [0, 1, 2, 10] [(0, .slice a0' worn_0.length c0'), (1, .int .i64 columns_1), (2, .int .i64 field_2), (10, .bool (decide (field_2 < 0)))] (by kernel_rfl) ?_
      refine WL.case (decide (field_2 < 0)) [10] ⟨rfl, trivial⟩ (fun hc10 => ?_) (fun hc10 => ?_)
      · have hm := iteT hm hc10
        refine WL.runk 12 [0, 1, 2, 22] [(0, .slice a0' worn_0.length c0'), (1, .int .i64 columns_1), (2, .int .i64 field_2), (22, .bool true)] (by kernel_rfl) ?_
        refine WL.nil ?_
        obtain rfl := Option.some.inj hm
        exact WQ.post' ⟨rfl, (Below.refl _ _), hL, hS⟩ ⟨rfl, rfl, rfl, rfl, trivial⟩
      have hm := iteF hm hc10
      refine WL.runk 6 [0, 1, 2, 16] [(0, .slice a0' worn_0.length c0'), (1, .int .i64 columns_1), (2, .int .i64 field_2), (16, .bool (decide (field_2 ≥ (worn_0.length : Int))))] (by kernel_rfl) ?_
      refine WL.case (decide (field_2 ≥ (worn_0.length : Int))) [16] ⟨rfl, trivial⟩ (fun hc11 => ?_) (fun hc11 => ?_)
      · have hm := iteT hm hc11
        refine WL.runk 6 [0, 1, 2, 22] [(0, .slice a0' worn_0.length c0'), (1, .int .i64 columns_1), (2, .int .i64 field_2), (22, .bool true)] (by kernel_rfl) ?_
        refine WL.nil ?_
        obtain rfl := Option.some.inj hm
        exact WQ.post' ⟨rfl, (Below.refl _ _), hL, hS⟩ ⟨rfl, rfl, rfl, rfl, trivial⟩
      have hm := iteF hm hc11
      refine WL.runk 2 [0, 1, 2, 16, 17, 18] [(0, .slice a0' worn_0.length c0'), (1, .int .i64 columns_1), (2, .int .i64 field_2), (16, .bool false), (17, .slice a0' worn_0.length c0'), (18, .int .i64 field_2)] (by kernel_rfl) ?_
      obtain ⟨x12, hx13, hm⟩ := bindE hm
      refine WL.st (.pointer (some (at_ a0' (Int.toNat field_2 * 1)))) (ST.index (T := fBool.ty) (xs := worn_0) (SH.rd (SH.front 0 hS)) hx13 rfl rfl rfl Try.underlying68 (info4).1 (info4).2.1) rfl rfl rfl ?_
      refine WL.st (.bool x12) (ST.load (cell_ext (Rd.flat (F := fBool) (SH.rd (SH.front 0 hS)) hx13 0 rfl)) rfl rfl Try.underlying4 rfl) rfl rfl rfl ?_
      refine WL.runk 2 [0, 1, 2, 22] [(0, .slice a0' worn_0.length c0'), (1, .int .i64 columns_1), (2, .int .i64 field_2), (22, .bool (!x12))] (by kernel_rfl) ?_
      refine WL.nil ?_
      obtain rfl := Option.some.inj hm
      exact WQ.post' ⟨rfl, (Below.refl _ _), hL, hS⟩ ⟨rfl, rfl, rfl, rfl, trivial⟩
    clear hx9
    rintro _ w14 ⟨rfl, hb15, hL16, hS17⟩
    refine WQ.then_normal (hK3 _ _ _ ?_)
    refine WP.cond x8 rfl rfl (fun hc18 => ?_) (fun hc18 => ?_)
    · have hm := iteT hm hc18
      refine WP.seq (fun K19 hK19 => ?_)
      refine WP.region ?_
      refine WL.runk 1 [6] [(6, .int .i64 0)] (by kernel_rfl) ?_
      refine WL.nil ?_
      refine WQ.then_normal (hK19 _ _ _ ?_)
      refine WP.ret ?_
      refine WQ.then_ret ?_
      obtain rfl := Option.some.inj hm
      exact WQ.ret1 _ rfl rfl ⟨rfl, hb15, hS17, rfl⟩
    have hm := iteF hm hc18
    refine WP.skip ?_
    refine WQ.then_normal (hK2 _ _ _ ?_)
    refine WP.seq (fun K20 hK20 => ?_)
    refine WP.region ?_
    refine WL.runk 2 [0, 1, 2, 23, 24] [(0, .slice a0' worn_0.length c0'), (1, .int .i64 columns_1), (2, .int .i64 field_2), (23, .slice a0' worn_0.length c0'), (24, .int .i64 field_2)] (by kernel_rfl) ?_
    obtain ⟨x21, hx22, hm⟩ := bindE hm
    refine WL.st (.pointer (some (at_ a0' (Int.toNat field_2 * 1)))) (ST.index (T := fBool.ty) (xs := worn_0) (SH.rd (SH.front 0 hS17)) hx22 rfl rfl rfl Try.underlying68 (info4).1 (info4).2.1) rfl rfl rfl ?_
    refine WL.store (F := fBool) false 0 [.bool false] (SH.front 0 hS17) hL16 hx22 rfl rfl rfl rfl rfl rfl rfl (info4).1 (info4).2.1 rfl rfl rfl ?_
    intro w23 hB24 hS25
    have hb26 : Below B w w23 := Below.trans hb15 hB24
    have hL27 : B ≤ w23.heap.size := Nat.le_trans hL16 hB24.size
    refine WL.sub [(0, .slice a0' ((worn_0.set (Int.toNat field_2) false).length) c0'), (1, .int .i64 columns_1), (2, .int .i64 field_2), (23, .slice a0' ((worn_0.set (Int.toNat field_2) false).length) c0'), (24, .int .i64 field_2)] ⟨by first | (simp only [List.length_set]; done) | (simp only [List.length_set]; rfl), rfl, rfl, by first | (simp only [List.length_set]; done) | (simp only [List.length_set]; rfl), rfl, trivial⟩ ?_
    have hn28 : (worn_0.set (Int.toNat field_2) false).length = worn_0.length := List.length_set.trans rfl
    refine WL.sub [(0, .slice a0' ((worn_0.set (Int.toNat field_2) false).length) c0'), (1, .int .i64 columns_1), (2, .int .i64 field_2)] ⟨rfl, rfl, rfl, trivial⟩ ?_
    refine WL.nil ?_
    refine WQ.then_normal (hK20 _ _ _ ?_)
    refine WP.seq (fun K29 hK29 => ?_)
    refine WP.region ?_
    refine WL.runk 5 [0, 1, 2, 26, 27, 30] [(0, .slice a0' ((worn_0.set (Int.toNat field_2) false).length) c0'), (1, .int .i64 columns_1), (2, .int .i64 field_2), (26, .slice a0' ((worn_0.set (Int.toNat field_2) false).length) c0'), (27, .int .i64 columns_1), (30, .int .i64 (wI64 (field_2 - columns_1)))] (by kernel_rfl) ?_
    obtain ⟨x30, hx31, hm⟩ := bindE hm
    refine WL.call 74 #[.slice a0' ((worn_0.set (Int.toNat field_2) false).length) c0', .int .i64 columns_1, .int .i64 (wI64 (field_2 - columns_1))] rfl rfl (by kernel_rfl) (ih (worn_0.set (Int.toNat field_2) false) a0' c0' columns_1 (wI64 (field_2 - columns_1)) w23 w0 B (L) hx31 (Below.trans hE0 (Below.mono hb26 hW)) hW hL27  hS25) ?_
    rintro _ w32 ⟨rfl, hB36, hS35, hlen37⟩
    refine ⟨_, rfl, ?_⟩
    have hb38 : Below B w w32 := Below.trans hb26 hB36
    have hL39 : B ≤ w32.heap.size := Nat.le_trans hL27 hB36.size
    refine WL.sub [(0, .slice a0' x30.2.length c0'), (1, .int .i64 columns_1), (2, .int .i64 field_2), (26, .slice a0' x30.2.length c0'), (27, .int .i64 columns_1), (30, .int .i64 (wI64 (field_2 - columns_1))), (31, .int .i64 x30.1)] ⟨by rw [hlen37]; rfl, rfl, rfl, by rw [hlen37]; rfl, rfl, rfl, rfl, trivial⟩ ?_
    have hn40 := hlen37.trans hn28
    refine WL.runk 6 [0, 1, 2, 32, 33, 34, 37] [(0, .slice a0' x30.2.length c0'), (1, .int .i64 columns_1), (2, .int .i64 field_2), (32, .int .i64 (wI64 (1 + x30.1))), (33, .slice a0' x30.2.length c0'), (34, .int .i64 columns_1), (37, .int .i64 (wI64 (field_2 + columns_1)))] (by kernel_rfl) ?_
    obtain ⟨x41, hx42, hm⟩ := bindE hm
    refine WL.call 74 #[.slice a0' x30.2.length c0', .int .i64 columns_1, .int .i64 (wI64 (field_2 + columns_1))] rfl rfl (by kernel_rfl) (ih x30.2 a0' c0' columns_1 (wI64 (field_2 + columns_1)) w32 w0 B (L) hx42 (Below.trans hE0 (Below.mono hb38 hW)) hW hL39  hS35) ?_
    rintro _ w43 ⟨rfl, hB47, hS46, hlen48⟩
    refine ⟨_, rfl, ?_⟩
    have hb49 : Below B w w43 := Below.trans hb38 hB47
    have hL50 : B ≤ w43.heap.size := Nat.le_trans hL39 hB47.size
    refine WL.sub [(0, .slice a0' x41.2.length c0'), (1, .int .i64 columns_1), (2, .int .i64 field_2), (32, .int .i64 (wI64 (1 + x30.1))), (33, .slice a0' x41.2.length c0'), (34, .int .i64 columns_1), (37, .int .i64 (wI64 (field_2 + columns_1))), (38, .int .i64 x41.1)] ⟨by rw [hlen48]; rfl, rfl, rfl, rfl, by rw [hlen48]; rfl, rfl, rfl, rfl, trivial⟩ ?_
    have hn51 := hlen48.trans hn40
    refine WL.runk 2 [0, 1, 2, 7] [(0, .slice a0' x41.2.length c0'), (1, .int .i64 columns_1), (2, .int .i64 field_2), (7, .int .i64 (wI64 ((wI64 (1 + x30.1)) + x41.1)))] (by kernel_rfl) ?_
    refine WL.nil ?_
    refine WQ.then_normal (hK29 _ _ _ ?_)
    refine WP.seq (fun K52 hK52 => ?_)
    refine WP.seq (fun K53 hK53 => ?_)
    refine WP.region ?_
    refine WL.runk 2 [0, 1, 2, 7, 40, 41] [(0, .slice a0' x41.2.length c0'), (1, .int .i64 columns_1), (2, .int .i64 field_2), (7, .int .i64 (wI64 ((wI64 (1 + x30.1)) + x41.1))), (40, .int .i64 field_2), (41, .int .i64 columns_1)] (by kernel_rfl) ?_
    obtain ⟨x54, hx55, hm⟩ := bindE hm
    refine WL.st (.int .i64 x54) (ST.rem (k := .i64) hx55 rfl rfl rfl) rfl rfl rfl ?_
    refine WL.runk 1 [0, 1, 2, 7, 43] [(0, .slice a0' x41.2.length c0'), (1, .int .i64 columns_1), (2, .int .i64 field_2), (7, .int .i64 (wI64 ((wI64 (1 + x30.1)) + x41.1))), (43, .bool (decide (x54 > 0)))] (by kernel_rfl) ?_
    refine WL.nil ?_
    refine WQ.then_normal (hK53 _ _ _ ?_)
    obtain ⟨x92, hx93, hm⟩ := bindE hm
    refine WP.cut (fun env' w' => env' = [(0, .slice a0' x92.2.length c0'), (1, .int .i64 columns_1), (2, .int .i64 field_2), (7, .int .i64 x92.1)] ∧ Below B w w' ∧ B ≤ w'.heap.size ∧ SH w' B (aOwn fBool 4 a0' c0' x92.2 :: L) ∧ x92.2.length = worn_0.length) ?_ ?_
    · have hm := hx93; clear hx93
      refine WP.cond (decide (x54 > 0)) rfl rfl (fun hc56 => ?_) (fun hc56 => ?_)
      rotate_left
      · have hm := iteF hm hc56
        refine WP.skip ?_
        obtain rfl := Option.some.inj hm
        exact WQ.post' ⟨rfl, hb49, hL50, hS46, hn51⟩ ⟨rfl, rfl, rfl, rfl, trivial⟩
      have hm := iteT hm hc56
      refine WP.region ?_
      refine WL.runk 5 [0, 1, 2, 44, 45, 46, 48] [(0, .slice a0' x41.2.length c0'), (1, .int .i64 columns_1), (2, .int .i64 field_2), (44, .int .i64 (wI64 ((wI64 (1 + x30.1)) + x41.1))), (45, .slice a0' x41.2.length c0'), (46, .int .i64 columns_1), (48, .int .i64 (wI64 (field_2 - 1)))] (by kernel_rfl) ?_
      obtain ⟨x94, hx95, hm⟩ := bindE hm
      refine WL.call 74 #[.slice a0' x41.2.length c0', .int .i64 columns_1, .int .i64 (wI64 (field_2 - 1))] rfl rfl (by kernel_rfl) (ih x41.2 a0' c0' columns_1 (wI64 (field_2 - 1)) w43 w0 B (L) hx95 (Below.trans hE0 (Below.mono hb49 hW)) hW hL50  hS46) ?_
      rintro _ w96 ⟨rfl, hB100, hS99, hlen101⟩
      refine ⟨_, rfl, ?_⟩
      have hb102 : Below B w w96 := Below.trans hb49 hB100
      have hL103 : B ≤ w96.heap.size := Nat.le_trans hL50 hB100.size
      refine WL.sub [(0, .slice a0' x94.2.length c0'), (1, .int .i64 columns_1), (2, .int .i64 field_2), (44, .int .i64 (wI64 ((wI64 (1 + x30.1)) + x41.1))), (45, .slice a0' x94.2.length c0'), (46, .int .i64 columns_1), (48, .int .i64 (wI64 (field_2 - 1))), (49, .int .i64 x94.1)] ⟨by rw [hlen101]; rfl, rfl, rfl, rfl, by rw [hlen101]; rfl, rfl, rfl, rfl, trivial⟩ ?_
      have hn104 := hlen101.trans hn51
      refine WL.runk 2 [0, 1, 2, 7] [(0, .slice a0' x94.2.length c0'), (1, .int .i64 columns_1), (2, .int .i64 field_2), (7, .int .i64 (wI64 ((wI64 ((wI64 (1 + x30.1)) + x41.1)) + x94.1)))] (by kernel_rfl) ?_
      refine WL.nil ?_
      obtain rfl := Option.some.inj hm
      exact WQ.post' ⟨rfl, hb102, hL103, hS99, hn104⟩ ⟨rfl, rfl, rfl, rfl, trivial⟩
    clear hx93
    rintro _ w105 ⟨rfl, hb106, hL107, hS108, hn109⟩
    refine WQ.then_normal (hK52 _ _ _ ?_)
    refine WP.seq (fun K110 hK110 => ?_)
    refine WP.seq (fun K111 hK111 => ?_)
    refine WP.region ?_
    refine WL.runk 2 [0, 1, 2, 7, 51, 52] [(0, .slice a0' x92.2.length c0'), (1, .int .i64 columns_1), (2, .int .i64 field_2), (7, .int .i64 x92.1), (51, .int .i64 field_2), (52, .int .i64 columns_1)] (by kernel_rfl) ?_
    obtain ⟨x112, hx113, hm⟩ := bindE hm
    refine WL.st (.int .i64 x112) (ST.rem (k := .i64) hx113 rfl rfl rfl) rfl rfl rfl ?_
    refine WL.runk 3 [0, 1, 2, 7, 56] [(0, .slice a0' x92.2.length c0'), (1, .int .i64 columns_1), (2, .int .i64 field_2), (7, .int .i64 x92.1), (56, .bool (decide (x112 < (wI64 (columns_1 - 1)))))] (by kernel_rfl) ?_
    refine WL.nil ?_
    refine WQ.then_normal (hK111 _ _ _ ?_)
    obtain ⟨x150, hx151, hm⟩ := bindE hm
    refine WP.cut (fun env' w' => env' = [(7, .int .i64 x150.1)] ∧ Below B w w' ∧ B ≤ w'.heap.size ∧ SH w' B (aOwn fBool 4 a0' c0' x150.2 :: L) ∧ x150.2.length = worn_0.length) ?_ ?_
    rotate_left
    · clear hx151
      rintro _ w163 ⟨rfl, hb164, hL165, hS166, hn167⟩
      refine WQ.then_normal (hK110 _ _ _ ?_)
      refine WP.seq (fun K168 hK168 => ?_)
      refine WP.region ?_
      refine WL.runk 2 [6] [(6, .int .i64 x150.1)] (by kernel_rfl) ?_
      refine WL.nil ?_
      refine WQ.then_normal (hK168 _ _ _ ?_)
      refine WP.ret ?_
      obtain rfl := Option.some.inj hm
      exact WQ.ret1 _ rfl rfl ⟨rfl, hb164, hS166, hn167⟩
    have hm := hx151; clear hx151
    refine WP.cond (decide (x112 < (wI64 (columns_1 - 1)))) rfl rfl (fun hc114 => ?_) (fun hc114 => ?_)
    rotate_left
    · have hm := iteF hm hc114
      refine WP.skip ?_
      obtain rfl := Option.some.inj hm
      exact WQ.post' ⟨rfl, hb106, hL107, hS108, hn109⟩ ⟨rfl, trivial⟩
    have hm := iteT hm hc114
    refine WP.region ?_
    refine WL.runk 5 [57, 58, 59, 61] [(57, .int .i64 x92.1), (58, .slice a0' x92.2.length c0'), (59, .int .i64 columns_1), (61, .int .i64 (wI64 (field_2 + 1)))] (by kernel_rfl) ?_
    obtain ⟨x152, hx153, hm⟩ := bindE hm
    refine WL.call 74 #[.slice a0' x92.2.length c0', .int .i64 columns_1, .int .i64 (wI64 (field_2 + 1))] rfl rfl (by kernel_rfl) (ih x92.2 a0' c0' columns_1 (wI64 (field_2 + 1)) w105 w0 B (L) hx153 (Below.trans hE0 (Below.mono hb106 hW)) hW hL107  hS108) ?_
    rintro _ w154 ⟨rfl, hB158, hS157, hlen159⟩
    refine ⟨_, rfl, ?_⟩
    have hb160 : Below B w w154 := Below.trans hb106 hB158
    have hL161 : B ≤ w154.heap.size := Nat.le_trans hL107 hB158.size
    refine WL.sub [(57, .int .i64 x92.1), (58, .slice a0' x152.2.length c0'), (59, .int .i64 columns_1), (61, .int .i64 (wI64 (field_2 + 1))), (62, .int .i64 x152.1)] ⟨rfl, by rw [hlen159]; rfl, rfl, rfl, rfl, trivial⟩ ?_
    have hn162 := hlen159.trans hn109
    refine WL.runk 2 [7] [(7, .int .i64 (wI64 (x92.1 + x152.1)))] (by kernel_rfl) ?_
    refine WL.nil ?_
    obtain rfl := Option.some.inj hm
    exact WQ.post' ⟨rfl, hb160, hL161, hS157, hn162⟩ ⟨rfl, trivial⟩

theorem c_46 (n : Nat) (rows_0 : List (List UInt8)) (a0' : Option Addr) (c0' : Nat) (least_1 : Int) (w : World) {r : List Int × Int} (hm : m_impl_WornAreas n rows_0 least_1 = some r) (h0 : Rd fStr.ty w a0' rows_0) (hle0 : rows_0.length ≤ c0') :
    CallV Try.prog 46 #[.slice a0' rows_0.length c0', .int .i64 least_1] w (fun v w' => ∃ (ra0 : Option Addr) (rc0 : Nat), v = .tuple #[.slice ra0 r.1.length rc0, .int .i64 r.2] ∧ Ext w w' ∧ SH w' w.heap.size [aOwn fInt 2 ra0 rc0 r.1]) := by
  unfold m_impl_WornAreas at hm
  refine CallV.enter Try.func46 rfl (by kernel_rfl) Try.ntmps46 (env := [(0, .slice a0' rows_0.length c0'), (1, .int .i64 least_1)]) ⟨rfl, rfl, trivial⟩ ?_
  refine WP.seq (fun K1 hK1 => ?_)
  refine WP.region ?_
  refine WL.runk 2 [0, 1] [(0, .slice a0' rows_0.length c0'), (1, .int .i64 least_1)] (by kernel_rfl) ?_
  refine WL.nil ?_
  refine WQ.then_normal (hK1 _ _ _ ?_)
  refine WP.seq (fun K2 hK2 => ?_)
  refine WP.seq (fun K3 hK3 => ?_)
  refine WP.region ?_
  refine WL.runk 2 [0, 1, 13, 14] [(0, .slice a0' rows_0.length c0'), (1, .int .i64 least_1), (13, .slice a0' rows_0.length c0'), (14, .int .i64 least_1)] (by kernel_rfl) ?_
  obtain ⟨x4, hx5, hm⟩ := bindE hm
  refine WL.call 53 #[.slice a0' rows_0.length c0', .int .i64 least_1] rfl rfl (by kernel_rfl) (c_53 n rows_0 a0' c0' least_1 w hx5 (Rd.below h0 (Ext.refl w)) hle0) ?_
  rintro _ w6 ⟨rfl, hE7⟩
  refine ⟨_, rfl, ?_⟩
  have hb9 : Ext w w6 := Ext.trans (Ext.refl w) hE7
  have hL10 : w.heap.size ≤ w6.heap.size := Nat.le_trans (Nat.le_refl _) hE7.size
  have hS11 : SH w6 w.heap.size [] := SH.ext (SH.nil _ _) hE7
  refine WL.runk 1 [0, 1, 6] [(0, .slice a0' rows_0.length c0'), (1, .int .i64 least_1), (6, .int .i64 x4)] (by kernel_rfl) ?_
  refine WL.nil ?_
  refine WQ.then_normal (hK3 _ _ _ ?_)
  refine WP.seq (fun K12 hK12 => ?_)
  refine WP.region ?_
  refine WL.runk 2 [0, 1, 6, 17] [(0, .slice a0' rows_0.length c0'), (1, .int .i64 least_1), (6, .int .i64 x4), (17, .bool (x4 != 0))] (by kernel_rfl) ?_
  refine WL.nil ?_
  refine WQ.then_normal (hK12 _ _ _ ?_)
  refine WP.cond (x4 != 0) rfl rfl (fun hc13 => ?_) (fun hc13 => ?_)
  · have hm := iteT hm hc13
    refine WP.seq (fun K14 hK14 => ?_)
    refine WP.region ?_
    refine WL.runk 3 [4, 5] [(4, .slice none 0 0), (5, .int .i64 x4)] (by kernel_rfl) ?_
    refine WL.nil ?_
    refine WQ.then_normal (hK14 _ _ _ ?_)
    refine WP.ret ?_
    refine WQ.then_ret ?_
    obtain rfl := Option.some.inj hm
    have hS16 : SH w6 w.heap.size [aOwn fInt 2 none 0 ([] : List Int)] := SH.nilOwn hS11
    exact WQ.ret2 _ _ rfl rfl rfl ⟨_, _, rfl, hb9, hS16⟩
  have hm := iteF hm hc13
  refine WP.skip ?_
  refine WQ.then_normal (hK2 _ _ _ ?_)
  refine WP.seq (fun K17 hK17 => ?_)
  refine WP.region ?_
  refine WL.row fBool 4 ([] : List Bool) 0 #[] 19 (by kernel_rfl) rfl rfl rfl rfl rfl rfl rfl ?_
  intro a18 c19 w20 hE21 hR22
  have hb24 : Ext w w20 := Ext.trans hb9 hE21
  have hL25 : w.heap.size ≤ w20.heap.size := Nat.le_trans hL10 hE21.size
  have hS26 : SH w20 w.heap.size [aOwn fBool 4 a18 c19 ([] : List Bool)] := SH.add hS11 hE21 hL10 hR22
  refine WL.row fInt 2 ([] : List Int) 0 #[] 20 (by kernel_rfl) rfl rfl rfl rfl rfl rfl rfl ?_
  intro a27 c28 w29 hE30 hR31
  have hb33 : Ext w w29 := Ext.trans hb24 hE30
  have hL34 : w.heap.size ≤ w29.heap.size := Nat.le_trans hL25 hE30.size
  have hS35 : SH w29 w.heap.size [aOwn fInt 2 a27 c28 ([] : List Int), aOwn fBool 4 a18 c19 ([] : List Bool)] := SH.add hS26 hE30 hL25 hR31
  refine WL.runk 2 [0, 1, 7, 8] [(0, .slice a0' rows_0.length c0'), (1, .int .i64 least_1), (7, .slice a18 (([] : List Bool).length) c19), (8, .slice a27 (([] : List Int).length) c28)] (by kernel_rfl) ?_
  refine WL.nil ?_
  refine WQ.then_normal (hK17 _ _ _ ?_)
  refine WP.seq (fun K36 hK36 => ?_)
  refine WP.seq (fun K37 hK37 => ?_)
  refine WP.region ?_
  refine WL.runk 1 [0, 1, 7, 8, 21] [(0, .slice a0' rows_0.length c0'), (1, .int .i64 least_1), (7, .slice a18 (([] : List Bool).length) c19), (8, .slice a27 (([] : List Int).length) c28), (21, .slice a0' rows_0.length c0')] (by kernel_rfl) ?_
  obtain ⟨x38, hx39, hm⟩ := bindE hm
  refine WL.call 54 #[.slice a0' rows_0.length c0'] rfl rfl (by kernel_rfl) (c_54 n rows_0 a0' c0' w29 hx39 (Rd.below h0 hb33) hle0) ?_
  rintro _ w43 ⟨a40, c41, rfl, hE44, hR45⟩
  refine ⟨_, rfl, ?_⟩
  have hb46 : Ext w w43 := Ext.trans hb33 hE44
  have hL47 : w.heap.size ≤ w43.heap.size := Nat.le_trans hL34 hE44.size
  have hS48 : SH w43 w.heap.size [aOwn fInt 2 a40 c41 x38, aOwn fInt 2 a27 c28 ([] : List Int), aOwn fBool 4 a18 c19 ([] : List Bool)] := SH.add hS35 hE44 hL34 hR45
  refine WL.runk 2 [0, 1, 7, 8, 22, 23, 24] [(0, .slice a0' rows_0.length c0'), (1, .int .i64 least_1), (7, .slice a18 (([] : List Bool).length) c19), (8, .slice a27 (([] : List Int).length) c28), (22, .slice a40 x38.length c41), (23, .int .i64 (x38.length : Int)), (24, .int .i64 0)] (by kernel_rfl) ?_
  refine WL.nil ?_
  refine WQ.then_normal (hK37 _ _ _ ?_)
  refine WP.block ?_
  obtain ⟨t63, ht64, hm⟩ := bindE hm
  have hmo58 := hm; clear hm
  refine WP.sub [(0, .slice a0' rows_0.length c0'), (1, .int .i64 least_1), (7, .slice a18 (([] : List Bool).length) c19), (8, .slice a27 (([] : List Int).length) c28), (22, .slice a40 x38.length c41), (23, .int .i64 (x38.length : Int)), (24, .int .i64 0)] ⟨rfl, rfl, rfl, rfl, rfl, rfl, rfl, trivial⟩ ?_
  refine WP.loop (fun n' env' w' => ∃ (st49 : List Bool × Int) (a50 : Option Addr) (c51 : Nat), env' = [(0, .slice a0' rows_0.length c0'), (1, .int .i64 least_1), (7, .slice a50 st49.1.length c51), (8, .slice a27 (([] : List Int).length) c28), (22, .slice a40 x38.length c41), (23, .int .i64 (x38.length : Int)), (24, .int .i64 st49.2)] ∧ Ext w w' ∧ w.heap.size ≤ w'.heap.size ∧ SH w' w.heap.size [aOwn fBool 4 a50 c51 st49.1, aOwn fInt 2 a40 c41 x38, aOwn fInt 2 a27 c28 ([] : List Int)] ∧ loopN (m_impl_WornAreas_l1 n least_1 x38) n' st49 = some t63) n ⟨(([] : List Bool), 0), _, _, rfl, hb46, hL47, (SH.front 2 (SH.front 1 (SH.front 1 hS48))), ht64⟩ ?_
  rintro n60 _ w53 ⟨st49, a50, c51, rfl, hb54, hL55, hS56, hl57⟩ K59 hK59
  obtain ⟨n61, s62, rfl, hm, hl57⟩ := loopN_some hl57
  unfold m_impl_WornAreas_l1 at hm
  refine WP.seq (fun K65 hK65 => ?_)
  refine WP.region ?_
  refine WL.runk 1 [0, 1, 7, 8, 22, 23, 24, 25] [(0, .slice a0' rows_0.length c0'), (1, .int .i64 least_1), (7, .slice a50 st49.1.length c51), (8, .slice a27 (([] : List Int).length) c28), (22, .slice a40 x38.length c41), (23, .int .i64 (x38.length : Int)), (24, .int .i64 st49.2), (25, .bool (decide (st49.2 < (x38.length : Int))))] (by kernel_rfl) ?_
  refine WL.nil ?_
  refine WQ.then_normal (hK65 _ _ _ ?_)
  refine WP.seq (fun K66 hK66 => ?_)
  refine WP.cond (decide (st49.2 < (x38.length : Int))) rfl rfl (fun hc67 => ?_) (fun hc67 => ?_)
  · have hm := iteT hm hc67
    refine WP.skip ?_
    refine WQ.then_normal (hK66 _ _ _ ?_)
    refine WP.seq (fun K68 hK68 => ?_)
    refine WP.block ?_
    refine WP.seq (fun K69 hK69 => ?_)
    refine WP.region ?_
    obtain ⟨x70, hx71, hm⟩ := bindE hm
    refine WL.st (.pointer (some (at_ a40 (Int.toNat st49.2 * 1)))) (ST.index (T := fInt.ty) (xs := x38) (SH.rd (SH.front 1 hS56)) hx71 rfl rfl rfl Try.underlying40 (info2).1 (info2).2.1) rfl rfl rfl ?_
    refine WL.st (.int .i64 x70) (ST.load (cell_ext (Rd.flat (F := fInt) (SH.rd (SH.front 1 hS56)) hx71 0 rfl)) rfl rfl Try.underlying2 rfl) rfl rfl rfl ?_
    refine WL.runk 1 [0, 1, 7, 8, 10, 22, 23, 24] [(0, .slice a0' rows_0.length c0'), (1, .int .i64 least_1), (7, .slice a50 st49.1.length c51), (8, .slice a27 (([] : List Int).length) c28), (22, .slice a40 x38.length c41), (23, .int .i64 (x38.length : Int)), (24, .int .i64 st49.2), (10, .int .i64 x70)] (by kernel_rfl) ?_
    refine WL.nil ?_
    refine WQ.then_normal (hK69 _ _ _ ?_)
    refine WP.region ?_
    refine WL.runk 4 [0, 1, 8, 22, 23, 24, 28, 31] [(0, .slice a0' rows_0.length c0'), (1, .int .i64 least_1), (8, .slice a27 (([] : List Int).length) c28), (22, .slice a40 x38.length c41), (23, .int .i64 (x38.length : Int)), (24, .int .i64 st49.2), (28, .slice a50 st49.1.length c51), (31, .bool (decide (x70 ≥ least_1)))] (by kernel_rfl) ?_
    refine WL.row fBool 4 ([(decide (x70 ≥ least_1))] : List Bool) 1 #[.bool (decide (x70 ≥ least_1))] 32 (by kernel_rfl) rfl rfl rfl rfl rfl rfl rfl ?_
    intro a72 c73 w74 hE75 hR76
    have hb78 : Ext w w74 := Ext.trans hb54 hE75
    have hL79 : w.heap.size ≤ w74.heap.size := Nat.le_trans hL55 hE75.size
    have hS80 : SH w74 w.heap.size [aOwn fBool 4 a72 c73 ([(decide (x70 ≥ least_1))] : List Bool), aOwn fBool 4 a50 c51 st49.1, aOwn fInt 2 a40 c41 x38, aOwn fInt 2 a27 c28 ([] : List Int)] := SH.add hS56 hE75 hL55 hR76
    obtain ⟨x81, hx82, hm⟩ := bindE hm
    refine WL.append (F := fBool) (xs := st49.1) (ys := ([(decide (x70 ≥ least_1))] : List Bool)) 33 (SH.front 1 hS80) hL79 (SH.rd (SH.front 0 hS80)) hx82 rfl rfl rfl Try.underlying68 (info4).1 (info4).2.2.1 (info4).2.1 (info4).2.2.2 rfl rfl rfl rfl rfl ?_
    intro a83 c84 w85 hB86 hS87
    have hb88 : Ext w w85 := Below.trans hb78 hB86
    have hL89 : w.heap.size ≤ w85.heap.size := Nat.le_trans hL79 hB86.size
    refine WL.runk 1 [0, 1, 7, 8, 22, 23, 24] [(0, .slice a0' rows_0.length c0'), (1, .int .i64 least_1), (8, .slice a27 (([] : List Int).length) c28), (22, .slice a40 x38.length c41), (23, .int .i64 (x38.length : Int)), (24, .int .i64 st49.2), (7, .slice a83 x81.length c84)] (by kernel_rfl) ?_
    refine WL.nil ?_
    refine WQ.block_normal ?_
    refine WQ.then_normal (hK68 _ _ _ ?_)
    refine WP.region ?_
    refine WL.runk 2 [0, 1, 7, 8, 22, 23, 24] [(0, .slice a0' rows_0.length c0'), (1, .int .i64 least_1), (8, .slice a27 (([] : List Int).length) c28), (22, .slice a40 x38.length c41), (23, .int .i64 (x38.length : Int)), (24, .int .i64 (wI64 (st49.2 + 1))), (7, .slice a83 x81.length c84)] (by kernel_rfl) ?_
    refine WL.nil ?_
    obtain rfl := Option.some.inj hm
    exact WQ.round hK59 ⟨(x81, (wI64 (st49.2 + 1))), _, _, rfl, hb88, hL89, (SH.take 3 (SH.front 2 (SH.front 3 (SH.front 3 hS87)))), hl57⟩ (Nat.lt_succ_self _) ⟨rfl, rfl, rfl, rfl, rfl, rfl, rfl, trivial⟩
  have hm := iteF hm hc67
  refine WP.exit ?_
  refine WQ.then_exit ?_
  refine WQ.then_exit ?_
  refine WQ.block_here ?_
  obtain rfl := Option.some.inj hm
  obtain rfl := afterN_done hl57
  have hm := hmo58
  refine WQ.then_normal (hK36 _ _ _ ?_)
  refine WP.seq (fun K90 hK90 => ?_)
  refine WP.seq (fun K91 hK91 => ?_)
  refine WP.region ?_
  refine WL.runk 3 [0, 7, 8, 36, 37] [(0, .slice a0' rows_0.length c0'), (7, .slice a50 st49.1.length c51), (8, .slice a27 (([] : List Int).length) c28), (36, .int .i64 (st49.1.length : Int)), (37, .int .i64 0)] (by kernel_rfl) ?_
  refine WL.nil ?_
  refine WQ.then_normal (hK91 _ _ _ ?_)
  refine WP.block ?_
  obtain ⟨t188, ht189, hm⟩ := bindE hm
  have hmo183 := hm; clear hm
  refine WP.sub [(0, .slice a0' rows_0.length c0'), (7, .slice a50 st49.1.length c51), (8, .slice a27 (([] : List Int).length) c28), (36, .int .i64 (st49.1.length : Int)), (37, .int .i64 0)] ⟨rfl, rfl, rfl, rfl, rfl, trivial⟩ ?_
  refine WP.loop (fun n' env' w' => ∃ (st174 : List Int × Int × List Bool) (a175 : Option Addr) (c176 : Nat), env' = [(0, .slice a0' rows_0.length c0'), (7, .slice a50 st174.2.2.length c51), (8, .slice a175 st174.1.length c176), (36, .int .i64 (st49.1.length : Int)), (37, .int .i64 st174.2.1)] ∧ Ext w w' ∧ w.heap.size ≤ w'.heap.size ∧ SH w' w.heap.size [aOwn fInt 2 a175 c176 st174.1, aOwn fBool 4 a50 c51 st174.2.2, aOwn fInt 2 a40 c41 x38] ∧ loopN (m_impl_WornAreas_l2 n rows_0 st49) n' st174 = some t188) n ⟨(([] : List Int), 0, st49.1), _, _, rfl, hb54, hL55, (SH.front 2 (SH.front 1 (SH.front 1 hS56))), ht189⟩ ?_
  rintro n185 _ w178 ⟨st174, a175, c176, rfl, hb179, hL180, hS181, hl182⟩ K184 hK184
  obtain ⟨n186, s187, rfl, hm, hl182⟩ := loopN_some hl182
  unfold m_impl_WornAreas_l2 at hm
  refine WP.seq (fun K190 hK190 => ?_)
  refine WP.region ?_
  refine WL.runk 1 [0, 7, 8, 36, 37, 38] [(0, .slice a0' rows_0.length c0'), (7, .slice a50 st174.2.2.length c51), (8, .slice a175 st174.1.length c176), (36, .int .i64 (st49.1.length : Int)), (37, .int .i64 st174.2.1), (38, .bool (decide (st174.2.1 < (st49.1.length : Int))))] (by kernel_rfl) ?_
  refine WL.nil ?_
  refine WQ.then_normal (hK190 _ _ _ ?_)
  refine WP.seq (fun K191 hK191 => ?_)
  refine WP.cond (decide (st174.2.1 < (st49.1.length : Int))) rfl rfl (fun hc192 => ?_) (fun hc192 => ?_)
  rotate_left
  · have hm := iteF hm hc192
    refine WP.exit ?_
    refine WQ.then_exit ?_
    refine WQ.then_exit ?_
    refine WQ.block_here ?_
    obtain rfl := Option.some.inj hm
    obtain rfl := afterN_done hl182
    have hm := hmo183
    refine WQ.then_normal (hK90 _ _ _ ?_)
    refine WP.seq (fun K255 hK255 => ?_)
    refine WP.region ?_
    refine WL.runk 3 [4, 5] [(4, .slice a175 st174.1.length c176), (5, .int .i64 0)] (by kernel_rfl) ?_
    refine WL.nil ?_
    refine WQ.then_normal (hK255 _ _ _ ?_)
    refine WP.ret ?_
    obtain rfl := Option.some.inj hm
    exact WQ.ret2 _ _ rfl rfl rfl ⟨_, _, rfl, hb179, (SH.take 1 hS181)⟩
  have hm := iteT hm hc192
  refine WP.skip ?_
  refine WQ.then_normal (hK191 _ _ _ ?_)
  refine WP.seq (fun K193 hK193 => ?_)
  refine WP.block ?_
  refine WP.seq (fun K194 hK194 => ?_)
  refine WP.region ?_
  refine WL.runk 2 [0, 7, 8, 11, 36, 37] [(0, .slice a0' rows_0.length c0'), (7, .slice a50 st174.2.2.length c51), (8, .slice a175 st174.1.length c176), (36, .int .i64 (st49.1.length : Int)), (37, .int .i64 st174.2.1), (11, .int .i64 st174.2.1)] (by kernel_rfl) ?_
  refine WL.nil ?_
  refine WQ.then_normal (hK194 _ _ _ ?_)
  refine WP.seq (fun K195 hK195 => ?_)
  refine WP.region ?_
  refine WL.runk 2 [0, 7, 8, 11, 36, 37, 40, 41] [(0, .slice a0' rows_0.length c0'), (7, .slice a50 st174.2.2.length c51), (8, .slice a175 st174.1.length c176), (36, .int .i64 (st49.1.length : Int)), (37, .int .i64 st174.2.1), (11, .int .i64 st174.2.1), (40, .slice a50 st174.2.2.length c51), (41, .slice a0' rows_0.length c0')] (by kernel_rfl) ?_
  obtain ⟨x196, hx197, hm⟩ := bindE hm
  refine WL.st (.pointer (some (at_ a0' (Int.toNat 0 * 1)))) (ST.index (T := fStr.ty) (xs := rows_0) (Rd.below h0 hb179) hx197 rfl rfl rfl Try.underlying22 (info9).1 (info9).2.1) rfl rfl rfl ?_
  refine WL.st (.string (bs x196)) (ST.load (cell_ext (Rd.flat (F := fStr) (Rd.below h0 hb179) hx197 0 rfl)) rfl rfl Try.underlying9 rfl) rfl rfl rfl ?_
  refine WL.runk 2 [0, 7, 8, 36, 37, 40, 44, 45] [(0, .slice a0' rows_0.length c0'), (7, .slice a50 st174.2.2.length c51), (8, .slice a175 st174.1.length c176), (36, .int .i64 (st49.1.length : Int)), (37, .int .i64 st174.2.1), (40, .slice a50 st174.2.2.length c51), (44, .int .i64 (x196.length : Int)), (45, .int .i64 st174.2.1)] (by kernel_rfl) ?_
  obtain ⟨x198, hx199, hm⟩ := bindE hm
  refine WL.call 74 #[.slice a50 st174.2.2.length c51, .int .i64 (x196.length : Int), .int .i64 st174.2.1] rfl rfl (by kernel_rfl) (c_74 n st174.2.2 a50 c51 (x196.length : Int) st174.2.1 w178 w w.heap.size [aOwn fInt 2 a175 c176 st174.1, aOwn fInt 2 a40 c41 x38] hx199 hb179 (Nat.le_refl _) hL180  (SH.front 2 (SH.front 1 (SH.front 2 hS181)))) ?_
  rintro _ w200 ⟨rfl, hB204, hS203, hlen205⟩
  refine ⟨_, rfl, ?_⟩
  have hb206 : Ext w w200 := Below.trans hb179 hB204
  have hL207 : w.heap.size ≤ w200.heap.size := Nat.le_trans hL180 hB204.size
  refine WL.sub [(0, .slice a0' rows_0.length c0'), (7, .slice a50 x198.2.length c51), (8, .slice a175 st174.1.length c176), (36, .int .i64 (st49.1.length : Int)), (37, .int .i64 st174.2.1), (40, .slice a50 x198.2.length c51), (44, .int .i64 (x196.length : Int)), (45, .int .i64 st174.2.1), (46, .int .i64 x198.1)] ⟨rfl, by rw [hlen205]; rfl, rfl, rfl, rfl, by rw [hlen205]; rfl, rfl, rfl, rfl, trivial⟩ ?_
  refine WL.runk 1 [0, 7, 8, 12, 36, 37] [(0, .slice a0' rows_0.length c0'), (7, .slice a50 x198.2.length c51), (8, .slice a175 st174.1.length c176), (36, .int .i64 (st49.1.length : Int)), (37, .int .i64 st174.2.1), (12, .int .i64 x198.1)] (by kernel_rfl) ?_
  refine WL.nil ?_
  refine WQ.then_normal (hK195 _ _ _ ?_)
  refine WP.seq (fun K208 hK208 => ?_)
  refine WP.region ?_
  refine WL.runk 2 [0, 7, 8, 12, 36, 37, 48] [(0, .slice a0' rows_0.length c0'), (7, .slice a50 x198.2.length c51), (8, .slice a175 st174.1.length c176), (36, .int .i64 (st49.1.length : Int)), (37, .int .i64 st174.2.1), (12, .int .i64 x198.1), (48, .bool (decide (x198.1 > 0)))] (by kernel_rfl) ?_
  refine WL.nil ?_
  refine WQ.then_normal (hK208 _ _ _ ?_)
  obtain ⟨x228, hx229, hm⟩ := bindE hm
  refine WP.cut (fun env' w' => ∃ (a230 : Option Addr) (c231 : Nat), env' = [(0, .slice a0' rows_0.length c0'), (7, .slice a50 x198.2.length c51), (8, .slice a230 x228.length c231), (36, .int .i64 (st49.1.length : Int)), (37, .int .i64 st174.2.1)] ∧ Ext w w' ∧ w.heap.size ≤ w'.heap.size ∧ SH w' w.heap.size [aOwn fInt 2 a230 c231 x228, aOwn fBool 4 a50 c51 x198.2, aOwn fInt 2 a40 c41 x38]) ?_ ?_
  rotate_left
  · clear hx229
    rintro _ w251 ⟨a230, c231, rfl, hb252, hL253, hS254⟩
    refine WQ.block_normal ?_
    refine WQ.then_normal (hK193 _ _ _ ?_)
    refine WP.region ?_
    refine WL.runk 2 [0, 7, 8, 36, 37] [(0, .slice a0' rows_0.length c0'), (7, .slice a50 x198.2.length c51), (8, .slice a230 x228.length c231), (36, .int .i64 (st49.1.length : Int)), (37, .int .i64 (wI64 (st174.2.1 + 1)))] (by kernel_rfl) ?_
    refine WL.nil ?_
    obtain rfl := Option.some.inj hm
    exact WQ.round hK184 ⟨(x228, (wI64 (st174.2.1 + 1)), x198.2), _, _, rfl, hb252, hL253, hS254, hl182⟩ (Nat.lt_succ_self _) ⟨rfl, rfl, rfl, rfl, rfl, trivial⟩
  have hm := hx229; clear hx229
  refine WP.cond (decide (x198.1 > 0)) rfl rfl (fun hc209 => ?_) (fun hc209 => ?_)
  rotate_left
  · have hm := iteF hm hc209
    refine WP.skip ?_
    obtain rfl := Option.some.inj hm
    exact WQ.post' ⟨_, _, rfl, hb206, hL207, (SH.front 2 (SH.front 1 (SH.front 2 hS203)))⟩ ⟨rfl, rfl, rfl, rfl, rfl, trivial⟩
  have hm := iteT hm hc209
  refine WP.region ?_
  refine WL.runk 2 [0, 7, 36, 37, 49, 50] [(0, .slice a0' rows_0.length c0'), (7, .slice a50 x198.2.length c51), (36, .int .i64 (st49.1.length : Int)), (37, .int .i64 st174.2.1), (49, .slice a175 st174.1.length c176), (50, .int .i64 x198.1)] (by kernel_rfl) ?_
  refine WL.row fInt 2 ([x198.1] : List Int) 1 #[.int .i64 x198.1] 51 (by kernel_rfl) rfl rfl rfl rfl rfl rfl rfl ?_
  intro a233 c234 w235 hE236 hR237
  have hb239 : Ext w w235 := Ext.trans hb206 hE236
  have hL240 : w.heap.size ≤ w235.heap.size := Nat.le_trans hL207 hE236.size
  have hS241 : SH w235 w.heap.size [aOwn fInt 2 a233 c234 ([x198.1] : List Int), aOwn fBool 4 a50 c51 x198.2, aOwn fInt 2 a175 c176 st174.1, aOwn fInt 2 a40 c41 x38] := SH.add hS203 hE236 hL207 hR237
  obtain ⟨x242, hx243, hm⟩ := bindE hm
  refine WL.append (F := fInt) (xs := st174.1) (ys := ([x198.1] : List Int)) 52 (SH.front 2 hS241) hL240 (SH.rd (SH.front 0 hS241)) hx243 rfl rfl rfl Try.underlying40 (info2).1 (info2).2.2.1 (info2).2.1 (info2).2.2.2 rfl rfl rfl rfl rfl ?_
  intro a244 c245 w246 hB247 hS248
  have hb249 : Ext w w246 := Below.trans hb239 hB247
  have hL250 : w.heap.size ≤ w246.heap.size := Nat.le_trans hL240 hB247.size
  refine WL.runk 1 [0, 7, 8, 36, 37] [(0, .slice a0' rows_0.length c0'), (7, .slice a50 x198.2.length c51), (36, .int .i64 (st49.1.length : Int)), (37, .int .i64 st174.2.1), (8, .slice a244 x242.length c245)] (by kernel_rfl) ?_
  refine WL.nil ?_
  obtain rfl := Option.some.inj hm
  exact WQ.post' ⟨_, _, rfl, hb249, hL250, (SH.take 3 (SH.front 2 (SH.front 3 (SH.front 3 hS248))))⟩ ⟨rfl, rfl, rfl, rfl, rfl, trivial⟩

theorem c_13 (n : Nat) (aRows_0 : List (List UInt8)) (a0' : Option Addr) (c0' : Nat) (aLeast_1 : Int) (w : World) {r : Bool} (hm : m_laws_FnExactWornAreas n aRows_0 aLeast_1 = some r) (h0 : Rd fStr.ty w a0' aRows_0) (hle0 : aRows_0.length ≤ c0') :
    CallV Try.prog 13 #[.slice a0' aRows_0.length c0', .int .i64 aLeast_1] w (fun v w' => v = .bool r ∧ Ext w w') := by
  unfold m_laws_FnExactWornAreas at hm
  refine CallV.enter Try.func13 rfl (by kernel_rfl) Try.ntmps13 (env := [(0, .slice a0' aRows_0.length c0'), (1, .int .i64 aLeast_1)]) ⟨rfl, rfl, trivial⟩ ?_
  refine WP.seq (fun K1 hK1 => ?_)
  refine WP.region ?_
  refine WL.runk 1 [0, 1] [(0, .slice a0' aRows_0.length c0'), (1, .int .i64 aLeast_1)] (by kernel_rfl) ?_
  refine WL.nil ?_
  refine WQ.then_normal (hK1 _ _ _ ?_)
  refine WP.seq (fun K2 hK2 => ?_)
  refine WP.region ?_
  refine WL.runk 1 [0, 1, 5] [(0, .slice a0' aRows_0.length c0'), (1, .int .i64 aLeast_1), (5, .int .i64 1048576)] (by kernel_rfl) ?_
  refine WL.nil ?_
  refine WQ.then_normal (hK2 _ _ _ ?_)
  refine WP.seq (fun K3 hK3 => ?_)
  refine WP.region ?_
  refine WL.runk 2 [0, 1, 16, 17] [(0, .slice a0' aRows_0.length c0'), (1, .int .i64 aLeast_1), (16, .slice a0' aRows_0.length c0'), (17, .int .i64 1048576)] (by kernel_rfl) ?_
  obtain ⟨x4, hx5, hm⟩ := bindE hm
  refine WL.call 15 #[.slice a0' aRows_0.length c0', .int .i64 1048576] rfl rfl (by kernel_rfl) (c_15 n aRows_0 a0' c0' 1048576 w hx5 (Rd.below h0 (Ext.refl w)) hle0) ?_
  rintro _ w6 ⟨rfl, hE7⟩
  refine ⟨_, rfl, ?_⟩
  have hb9 : Ext w w6 := Ext.trans (Ext.refl w) hE7
  have hL10 : w.heap.size ≤ w6.heap.size := Nat.le_trans (Nat.le_refl _) hE7.size
  have hS11 : SH w6 w.heap.size [] := SH.ext (SH.nil _ _) hE7
  refine WL.runk 1 [0, 1, 5] [(0, .slice a0' aRows_0.length c0'), (1, .int .i64 aLeast_1), (5, .int .i64 x4)] (by kernel_rfl) ?_
  refine WL.nil ?_
  refine WQ.then_normal (hK3 _ _ _ ?_)
  refine WP.seq (fun K12 hK12 => ?_)
  refine WP.seq (fun K13 hK13 => ?_)
  refine WP.region ?_
  refine WL.runk 2 [0, 1, 20] [(0, .slice a0' aRows_0.length c0'), (1, .int .i64 aLeast_1), (20, .bool (decide (x4 < 0)))] (by kernel_rfl) ?_
  refine WL.nil ?_
  refine WQ.then_normal (hK13 _ _ _ ?_)
  refine WP.cond (decide (x4 < 0)) rfl rfl (fun hc14 => ?_) (fun hc14 => ?_)
  · have hm := iteT hm hc14
    refine WP.seq (fun K15 hK15 => ?_)
    refine WP.region ?_
    refine WL.runk 1 [4] [(4, .bool true)] (by kernel_rfl) ?_
    refine WL.nil ?_
    refine WQ.then_normal (hK15 _ _ _ ?_)
    refine WP.ret ?_
    refine WQ.then_ret ?_
    obtain rfl := Option.some.inj hm
    exact WQ.ret1 _ rfl rfl ⟨rfl, hb9⟩
  have hm := iteF hm hc14
  refine WP.skip ?_
  refine WQ.then_normal (hK12 _ _ _ ?_)
  refine WP.seq (fun K16 hK16 => ?_)
  refine WP.region ?_
  refine WL.runk 1 [0, 1, 22] [(0, .slice a0' aRows_0.length c0'), (1, .int .i64 aLeast_1), (22, .slice a0' aRows_0.length c0')] (by kernel_rfl) ?_
  obtain ⟨x17, hx18, hm⟩ := bindE hm
  refine WL.call 17 #[.slice a0' aRows_0.length c0'] rfl rfl (by kernel_rfl) (c_17 n aRows_0 a0' c0' w6 hx18 (Rd.below h0 hb9) hle0) ?_
  rintro _ w22 ⟨a19, c20, rfl, hE23, hR24⟩
  refine ⟨_, rfl, ?_⟩
  have hb25 : Ext w w22 := Ext.trans hb9 hE23
  have hL26 : w.heap.size ≤ w22.heap.size := Nat.le_trans hL10 hE23.size
  have hS27 : SH w22 w.heap.size [aOwn fStr 9 a19 c20 x17] := SH.add hS11 hE23 hL10 hR24
  refine WL.runk 1 [0, 1, 23, 24] [(0, .slice a0' aRows_0.length c0'), (1, .int .i64 aLeast_1), (23, .slice a19 x17.length c20), (24, .int .i64 aLeast_1)] (by kernel_rfl) ?_
  obtain ⟨x28, hx29, hm⟩ := bindE hm
  refine WL.call 45 #[.slice a19 x17.length c20, .int .i64 aLeast_1] rfl rfl (by kernel_rfl) (c_45 n x17 a19 c20 aLeast_1 w22 hx29 (SH.rd (SH.front 0 hS27)) (SH.le (SH.front 0 hS27)).1) ?_
  rintro _ w33 ⟨a30, c31, rfl, hE34, hR35⟩
  refine ⟨_, rfl, ?_⟩
  have hb36 : Ext w w33 := Ext.trans hb25 hE34
  have hL37 : w.heap.size ≤ w33.heap.size := Nat.le_trans hL26 hE34.size
  have hS38 : SH w33 w.heap.size [aOwn fInt 2 a30 c31 x28.1, aOwn fStr 9 a19 c20 x17] := SH.add hS27 hE34 hL26 hR35
  refine WL.runk 5 [0, 1, 6, 7] [(0, .slice a0' aRows_0.length c0'), (1, .int .i64 aLeast_1), (6, .slice a30 x28.1.length c31), (7, .int .i64 x28.2)] (by kernel_rfl) ?_
  refine WL.nil ?_
  refine WQ.then_normal (hK16 _ _ _ ?_)
  refine WP.seq (fun K39 hK39 => ?_)
  refine WP.region ?_
  refine WL.runk 1 [0, 1, 6, 7, 28] [(0, .slice a0' aRows_0.length c0'), (1, .int .i64 aLeast_1), (6, .slice a30 x28.1.length c31), (7, .int .i64 x28.2), (28, .slice a0' aRows_0.length c0')] (by kernel_rfl) ?_
  obtain ⟨x40, hx41, hm⟩ := bindE hm
  refine WL.call 17 #[.slice a0' aRows_0.length c0'] rfl rfl (by kernel_rfl) (c_17 n aRows_0 a0' c0' w33 hx41 (Rd.below h0 hb36) hle0) ?_
  rintro _ w45 ⟨a42, c43, rfl, hE46, hR47⟩
  refine ⟨_, rfl, ?_⟩
  have hb48 : Ext w w45 := Ext.trans hb36 hE46
  have hL49 : w.heap.size ≤ w45.heap.size := Nat.le_trans hL37 hE46.size
  have hS50 : SH w45 w.heap.size [aOwn fStr 9 a42 c43 x40, aOwn fInt 2 a30 c31 x28.1, aOwn fStr 9 a19 c20 x17] := SH.add hS38 hE46 hL37 hR47
  refine WL.runk 1 [0, 1, 6, 7, 8] [(0, .slice a0' aRows_0.length c0'), (1, .int .i64 aLeast_1), (6, .slice a30 x28.1.length c31), (7, .int .i64 x28.2), (8, .slice a42 x40.length c43)] (by kernel_rfl) ?_
  refine WL.nil ?_
  refine WQ.then_normal (hK39 _ _ _ ?_)
  refine WP.seq (fun K51 hK51 => ?_)
  refine WP.region ?_
  refine WL.runk 2 [0, 1, 6, 7, 8, 31, 32] [(0, .slice a0' aRows_0.length c0'), (1, .int .i64 aLeast_1), (6, .slice a30 x28.1.length c31), (7, .int .i64 x28.2), (8, .slice a42 x40.length c43), (31, .slice a42 x40.length c43), (32, .int .i64 aLeast_1)] (by kernel_rfl) ?_
  obtain ⟨x52, hx53, hm⟩ := bindE hm
  refine WL.call 46 #[.slice a42 x40.length c43, .int .i64 aLeast_1] rfl rfl (by kernel_rfl) (c_46 n x40 a42 c43 aLeast_1 w45 hx53 (SH.rd (SH.front 0 hS50)) (SH.le (SH.front 0 hS50)).1) ?_
  rintro _ w57 ⟨a54, c55, rfl, hE58, hR59⟩
  refine ⟨_, rfl, ?_⟩
  have hb60 : Ext w w57 := Ext.trans hb48 hE58
  have hL61 : w.heap.size ≤ w57.heap.size := Nat.le_trans hL49 hE58.size
  have hS62 : SH w57 w.heap.size [aOwn fInt 2 a54 c55 x52.1, aOwn fStr 9 a42 c43 x40, aOwn fInt 2 a30 c31 x28.1, aOwn fStr 9 a19 c20 x17] := SH.add hS50 hE58 hL49 hR59
  refine WL.runk 5 [0, 1, 6, 7, 8, 9, 10] [(0, .slice a0' aRows_0.length c0'), (1, .int .i64 aLeast_1), (6, .slice a30 x28.1.length c31), (7, .int .i64 x28.2), (8, .slice a42 x40.length c43), (9, .slice a54 x52.1.length c55), (10, .int .i64 x52.2)] (by kernel_rfl) ?_
  refine WL.nil ?_
  refine WQ.then_normal (hK51 _ _ _ ?_)
  refine WP.seq (fun K63 hK63 => ?_)
  refine WP.seq (fun K64 hK64 => ?_)
  obtain ⟨x74, hx75, hm⟩ := bindE hm
  refine WP.cut (fun env' w' => env' = [(0, .slice a0' aRows_0.length c0'), (1, .int .i64 aLeast_1), (6, .slice a30 x28.1.length c31), (7, .int .i64 x28.2), (8, .slice a42 x40.length c43), (9, .slice a54 x52.1.length c55), (10, .int .i64 x52.2), (44, .bool x74)] ∧ Ext w w' ∧ w.heap.size ≤ w'.heap.size ∧ SH w' w.heap.size [aOwn fInt 2 a54 c55 x52.1, aOwn fStr 9 a42 c43 x40, aOwn fInt 2 a30 c31 x28.1, aOwn fStr 9 a19 c20 x17]) ?_ ?_
  · have hm := hx75; clear hx75
    refine WP.region ?_
    refine WL.runk 2 [0, 1, 6, 7, 8, 9, 10, 36, 37] [(0, .slice a0' aRows_0.length c0'), (1, .int .i64 aLeast_1), (6, .slice a30 x28.1.length c31), (7, .int .i64 x28.2), (8, .slice a42 x40.length c43), (9, .slice a54 x52.1.length c55), (10, .int .i64 x52.2), (36, .slice a54 x52.1.length c55), (37, .slice a30 x28.1.length c31)] (by kernel_rfl) ?_
    obtain ⟨x76, hx77, hm⟩ := bindE hm
    refine WL.call 35 #[.slice a54 x52.1.length c55, .slice a30 x28.1.length c31] rfl rfl (by kernel_rfl) (c_35 n x52.1 a54 c55 x28.1 a30 c31 w57 hx77 (SH.rd (SH.front 0 hS62)) (SH.le (SH.front 0 hS62)).1 (SH.rd (SH.front 2 hS62)) (SH.le (SH.front 2 hS62)).1) ?_
    rintro _ w78 ⟨rfl, hE79⟩
    refine ⟨_, rfl, ?_⟩
    have hb81 : Ext w w78 := Ext.trans hb60 hE79
    have hL82 : w.heap.size ≤ w78.heap.size := Nat.le_trans hL61 hE79.size
    have hS83 : SH w78 w.heap.size [aOwn fInt 2 a54 c55 x52.1, aOwn fStr 9 a42 c43 x40, aOwn fInt 2 a30 c31 x28.1, aOwn fStr 9 a19 c20 x17] := SH.ext hS62 hE79
    refine WL.runk 2 [0, 1, 6, 7, 8, 9, 10, 40] [(0, .slice a0' aRows_0.length c0'), (1, .int .i64 aLeast_1), (6, .slice a30 x28.1.length c31), (7, .int .i64 x28.2), (8, .slice a42 x40.length c43), (9, .slice a54 x52.1.length c55), (10, .int .i64 x52.2), (40, .bool (!x76))] (by kernel_rfl) ?_
    refine WL.case (!x76) [40] ⟨rfl, trivial⟩ (fun hc84 => ?_) (fun hc84 => ?_)
    · have hm := iteT hm hc84
      refine WL.runk 4 [0, 1, 6, 7, 8, 9, 10, 44] [(0, .slice a0' aRows_0.length c0'), (1, .int .i64 aLeast_1), (6, .slice a30 x28.1.length c31), (7, .int .i64 x28.2), (8, .slice a42 x40.length c43), (9, .slice a54 x52.1.length c55), (10, .int .i64 x52.2), (44, .bool true)] (by kernel_rfl) ?_
      refine WL.nil ?_
      obtain rfl := Option.some.inj hm
      exact WQ.post' ⟨rfl, hb81, hL82, hS83⟩ ⟨rfl, rfl, rfl, rfl, rfl, rfl, rfl, rfl, trivial⟩
    have hm := iteF hm hc84
    refine WL.runk 4 [0, 1, 6, 7, 8, 9, 10, 44] [(0, .slice a0' aRows_0.length c0'), (1, .int .i64 aLeast_1), (6, .slice a30 x28.1.length c31), (7, .int .i64 x28.2), (8, .slice a42 x40.length c43), (9, .slice a54 x52.1.length c55), (10, .int .i64 x52.2), (44, .bool (x52.2 != x28.2))] (by kernel_rfl) ?_
    refine WL.nil ?_
    obtain rfl := Option.some.inj hm
    exact WQ.post' ⟨rfl, hb81, hL82, hS83⟩ ⟨rfl, rfl, rfl, rfl, rfl, rfl, rfl, rfl, trivial⟩
  clear hx75
  rintro _ w85 ⟨rfl, hb86, hL87, hS88⟩
  refine WQ.then_normal (hK64 _ _ _ ?_)
  refine WP.cond x74 rfl rfl (fun hc89 => ?_) (fun hc89 => ?_)
  · have hm := iteT hm hc89
    refine WP.seq (fun K90 hK90 => ?_)
    refine WP.region ?_
    refine WL.runk 1 [4] [(4, .bool false)] (by kernel_rfl) ?_
    refine WL.nil ?_
    refine WQ.then_normal (hK90 _ _ _ ?_)
    refine WP.ret ?_
    refine WQ.then_ret ?_
    obtain rfl := Option.some.inj hm
    exact WQ.ret1 _ rfl rfl ⟨rfl, hb86⟩
  have hm := iteF hm hc89
  refine WP.skip ?_
  refine WQ.then_normal (hK63 _ _ _ ?_)
  refine WP.seq (fun K91 hK91 => ?_)
  refine WP.seq (fun K92 hK92 => ?_)
  refine WP.region ?_
  refine WL.runk 2 [0, 1, 6, 7, 8, 9, 10, 45, 46] [(0, .slice a0' aRows_0.length c0'), (1, .int .i64 aLeast_1), (6, .slice a30 x28.1.length c31), (7, .int .i64 x28.2), (8, .slice a42 x40.length c43), (9, .slice a54 x52.1.length c55), (10, .int .i64 x52.2), (45, .slice a42 x40.length c43), (46, .slice a0' aRows_0.length c0')] (by kernel_rfl) ?_
  obtain ⟨x93, hx94, hm⟩ := bindE hm
  refine WL.call 17 #[.slice a0' aRows_0.length c0'] rfl rfl (by kernel_rfl) (c_17 n aRows_0 a0' c0' w85 hx94 (Rd.below h0 hb86) hle0) ?_
  rintro _ w98 ⟨a95, c96, rfl, hE99, hR100⟩
  refine ⟨_, rfl, ?_⟩
  have hb101 : Ext w w98 := Ext.trans hb86 hE99
  have hL102 : w.heap.size ≤ w98.heap.size := Nat.le_trans hL87 hE99.size
  have hS103 : SH w98 w.heap.size [aOwn fStr 9 a95 c96 x93, aOwn fInt 2 a54 c55 x52.1, aOwn fStr 9 a42 c43 x40, aOwn fInt 2 a30 c31 x28.1, aOwn fStr 9 a19 c20 x17] := SH.add hS88 hE99 hL87 hR100
  obtain ⟨x104, hx105, hm⟩ := bindE hm
  refine WL.call 19 #[.slice a42 x40.length c43, .slice a95 x93.length c96] rfl rfl (by kernel_rfl) (c_19 n x40 a42 c43 x93 a95 c96 w98 hx105 (SH.rd (SH.front 2 hS103)) (SH.le (SH.front 2 hS103)).1 (SH.rd (SH.front 0 hS103)) (SH.le (SH.front 0 hS103)).1) ?_
  rintro _ w106 ⟨rfl, hE107⟩
  refine ⟨_, rfl, ?_⟩
  have hb109 : Ext w w106 := Ext.trans hb101 hE107
  have hL110 : w.heap.size ≤ w106.heap.size := Nat.le_trans hL102 hE107.size
  have hS111 : SH w106 w.heap.size [aOwn fStr 9 a95 c96 x93, aOwn fInt 2 a54 c55 x52.1, aOwn fStr 9 a42 c43 x40, aOwn fInt 2 a30 c31 x28.1, aOwn fStr 9 a19 c20 x17] := SH.ext hS103 hE107
  refine WL.runk 1 [0, 1, 6, 7, 8, 9, 10, 49] [(0, .slice a0' aRows_0.length c0'), (1, .int .i64 aLeast_1), (6, .slice a30 x28.1.length c31), (7, .int .i64 x28.2), (8, .slice a42 x40.length c43), (9, .slice a54 x52.1.length c55), (10, .int .i64 x52.2), (49, .bool (!x104))] (by kernel_rfl) ?_
  refine WL.nil ?_
  refine WQ.then_normal (hK92 _ _ _ ?_)
  refine WP.cond (!x104) rfl rfl (fun hc112 => ?_) (fun hc112 => ?_)
  · have hm := iteT hm hc112
    refine WP.seq (fun K113 hK113 => ?_)
    refine WP.region ?_
    refine WL.runk 1 [4] [(4, .bool false)] (by kernel_rfl) ?_
    refine WL.nil ?_
    refine WQ.then_normal (hK113 _ _ _ ?_)
    refine WP.ret ?_
    refine WQ.then_ret ?_
    obtain rfl := Option.some.inj hm
    exact WQ.ret1 _ rfl rfl ⟨rfl, hb109⟩
  have hm := iteF hm hc112
  refine WP.skip ?_
  refine WQ.then_normal (hK91 _ _ _ ?_)
  refine WP.seq (fun K114 hK114 => ?_)
  refine WP.region ?_
  refine WL.runk 1 [0, 1, 6, 7, 8, 9, 10, 11] [(0, .slice a0' aRows_0.length c0'), (1, .int .i64 aLeast_1), (6, .slice a30 x28.1.length c31), (7, .int .i64 x28.2), (8, .slice a42 x40.length c43), (9, .slice a54 x52.1.length c55), (10, .int .i64 x52.2), (11, .int .i64 1)] (by kernel_rfl) ?_
  refine WL.nil ?_
  refine WQ.then_normal (hK114 _ _ _ ?_)
  refine WP.seq (fun K115 hK115 => ?_)
  refine WP.region ?_
  refine WL.runk 2 [0, 1, 6, 7, 9, 10, 50, 51] [(0, .slice a0' aRows_0.length c0'), (1, .int .i64 aLeast_1), (6, .slice a30 x28.1.length c31), (7, .int .i64 x28.2), (9, .slice a54 x52.1.length c55), (10, .int .i64 x52.2), (50, .slice a42 x40.length c43), (51, .int .i64 1)] (by kernel_rfl) ?_
  obtain ⟨x116, hx117, hm⟩ := bindE hm
  refine WL.call 24 #[.slice a42 x40.length c43, .int .i64 1] rfl rfl (by kernel_rfl) (c_24 n x40 a42 c43 1 w106 w w.heap.size [aOwn fStr 9 a95 c96 x93, aOwn fInt 2 a54 c55 x52.1, aOwn fInt 2 a30 c31 x28.1, aOwn fStr 9 a19 c20 x17] hx117 hb109 (Nat.le_refl _) hL110  (SH.front 4 (SH.front 3 (SH.front 3 (SH.front 4 (SH.front 4 hS111)))))) ?_
  rintro _ w118 ⟨rfl, hB122, hS121, hlen123⟩
  refine ⟨_, rfl, ?_⟩
  have hb124 : Ext w w118 := Below.trans hb109 hB122
  have hL125 : w.heap.size ≤ w118.heap.size := Nat.le_trans hL110 hB122.size
  refine WL.sub [(0, .slice a0' aRows_0.length c0'), (1, .int .i64 aLeast_1), (6, .slice a30 x28.1.length c31), (7, .int .i64 x28.2), (9, .slice a54 x52.1.length c55), (10, .int .i64 x52.2), (50, .slice a42 x116.2.length c43), (51, .int .i64 1), (52, .int .i64 x116.1)] ⟨rfl, rfl, rfl, rfl, rfl, rfl, by rw [hlen123]; rfl, rfl, rfl, trivial⟩ ?_
  refine WL.runk 1 [0, 1, 6, 7, 9, 10, 11] [(0, .slice a0' aRows_0.length c0'), (1, .int .i64 aLeast_1), (6, .slice a30 x28.1.length c31), (7, .int .i64 x28.2), (9, .slice a54 x52.1.length c55), (10, .int .i64 x52.2), (11, .int .i64 x116.1)] (by kernel_rfl) ?_
  refine WL.nil ?_
  refine WQ.then_normal (hK115 _ _ _ ?_)
  refine WP.seq (fun K126 hK126 => ?_)
  refine WP.seq (fun K127 hK127 => ?_)
  obtain ⟨x138, hx139, hm⟩ := bindE hm
  refine WP.cut (fun env' w' => env' = [(0, .slice a0' aRows_0.length c0'), (1, .int .i64 aLeast_1), (6, .slice a30 x28.1.length c31), (7, .int .i64 x28.2), (9, .slice a54 x52.1.length c55), (65, .bool x138)] ∧ Ext w w' ∧ w.heap.size ≤ w'.heap.size ∧ SH w' w.heap.size [aOwn fStr 9 a42 c43 x116.2, aOwn fStr 9 a95 c96 x93, aOwn fInt 2 a54 c55 x52.1, aOwn fInt 2 a30 c31 x28.1, aOwn fStr 9 a19 c20 x17]) ?_ ?_
  · have hm := hx139; clear hx139
    refine WP.region ?_
    refine WL.runk 3 [0, 1, 6, 7, 9, 10, 55] [(0, .slice a0' aRows_0.length c0'), (1, .int .i64 aLeast_1), (6, .slice a30 x28.1.length c31), (7, .int .i64 x28.2), (9, .slice a54 x52.1.length c55), (10, .int .i64 x52.2), (55, .bool (decide (x116.1 < 0)))] (by kernel_rfl) ?_
    refine WL.case (decide (x116.1 < 0)) [55] ⟨rfl, trivial⟩ (fun hc140 => ?_) (fun hc140 => ?_)
    · have hm := iteT hm hc140
      refine WL.runk 10 [0, 1, 6, 7, 9, 65] [(0, .slice a0' aRows_0.length c0'), (1, .int .i64 aLeast_1), (6, .slice a30 x28.1.length c31), (7, .int .i64 x28.2), (9, .slice a54 x52.1.length c55), (65, .bool true)] (by kernel_rfl) ?_
      refine WL.nil ?_
      obtain rfl := Option.some.inj hm
      exact WQ.post' ⟨rfl, hb124, hL125, hS121⟩ ⟨rfl, rfl, rfl, rfl, rfl, rfl, trivial⟩
    have hm := iteF hm hc140
    refine WL.runk 2 [0, 1, 6, 7, 9, 10, 55, 56, 57] [(0, .slice a0' aRows_0.length c0'), (1, .int .i64 aLeast_1), (6, .slice a30 x28.1.length c31), (7, .int .i64 x28.2), (9, .slice a54 x52.1.length c55), (10, .int .i64 x52.2), (55, .bool false), (56, .slice a54 x52.1.length c55), (57, .slice a30 x28.1.length c31)] (by kernel_rfl) ?_
    obtain ⟨x141, hx142, hm⟩ := bindE hm
    refine WL.call 35 #[.slice a54 x52.1.length c55, .slice a30 x28.1.length c31] rfl rfl (by kernel_rfl) (c_35 n x52.1 a54 c55 x28.1 a30 c31 w118 hx142 (SH.rd (SH.front 2 hS121)) (SH.le (SH.front 2 hS121)).1 (SH.rd (SH.front 3 hS121)) (SH.le (SH.front 3 hS121)).1) ?_
    rintro _ w143 ⟨rfl, hE144⟩
    refine ⟨_, rfl, ?_⟩
    have hb146 : Ext w w143 := Ext.trans hb124 hE144
    have hL147 : w.heap.size ≤ w143.heap.size := Nat.le_trans hL125 hE144.size
    have hS148 : SH w143 w.heap.size [aOwn fStr 9 a42 c43 x116.2, aOwn fStr 9 a95 c96 x93, aOwn fInt 2 a54 c55 x52.1, aOwn fInt 2 a30 c31 x28.1, aOwn fStr 9 a19 c20 x17] := SH.ext hS121 hE144
    refine WL.runk 3 [0, 1, 6, 7, 9, 10, 61] [(0, .slice a0' aRows_0.length c0'), (1, .int .i64 aLeast_1), (6, .slice a30 x28.1.length c31), (7, .int .i64 x28.2), (9, .slice a54 x52.1.length c55), (10, .int .i64 x52.2), (61, .bool (!x141))] (by kernel_rfl) ?_
    refine WL.case (!x141) [61] ⟨rfl, trivial⟩ (fun hc149 => ?_) (fun hc149 => ?_)
    · have hm := iteT hm hc149
      refine WL.runk 4 [0, 1, 6, 7, 9, 65] [(0, .slice a0' aRows_0.length c0'), (1, .int .i64 aLeast_1), (6, .slice a30 x28.1.length c31), (7, .int .i64 x28.2), (9, .slice a54 x52.1.length c55), (65, .bool true)] (by kernel_rfl) ?_
      refine WL.nil ?_
      obtain rfl := Option.some.inj hm
      exact WQ.post' ⟨rfl, hb146, hL147, hS148⟩ ⟨rfl, rfl, rfl, rfl, rfl, rfl, trivial⟩
    have hm := iteF hm hc149
    refine WL.runk 4 [0, 1, 6, 7, 9, 65] [(0, .slice a0' aRows_0.length c0'), (1, .int .i64 aLeast_1), (6, .slice a30 x28.1.length c31), (7, .int .i64 x28.2), (9, .slice a54 x52.1.length c55), (65, .bool (x52.2 != x28.2))] (by kernel_rfl) ?_
    refine WL.nil ?_
    obtain rfl := Option.some.inj hm
    exact WQ.post' ⟨rfl, hb146, hL147, hS148⟩ ⟨rfl, rfl, rfl, rfl, rfl, rfl, trivial⟩
  clear hx139
  rintro _ w150 ⟨rfl, hb151, hL152, hS153⟩
  refine WQ.then_normal (hK127 _ _ _ ?_)
  refine WP.cond x138 rfl rfl (fun hc154 => ?_) (fun hc154 => ?_)
  · have hm := iteT hm hc154
    refine WP.seq (fun K155 hK155 => ?_)
    refine WP.region ?_
    refine WL.runk 1 [4] [(4, .bool false)] (by kernel_rfl) ?_
    refine WL.nil ?_
    refine WQ.then_normal (hK155 _ _ _ ?_)
    refine WP.ret ?_
    refine WQ.then_ret ?_
    obtain rfl := Option.some.inj hm
    exact WQ.ret1 _ rfl rfl ⟨rfl, hb151⟩
  have hm := iteF hm hc154
  refine WP.skip ?_
  refine WQ.then_normal (hK126 _ _ _ ?_)
  refine WP.seq (fun K156 hK156 => ?_)
  refine WP.region ?_
  refine WL.runk 1 [0, 1, 6, 7, 9, 12] [(0, .slice a0' aRows_0.length c0'), (1, .int .i64 aLeast_1), (6, .slice a30 x28.1.length c31), (7, .int .i64 x28.2), (9, .slice a54 x52.1.length c55), (12, .int .i64 1)] (by kernel_rfl) ?_
  refine WL.nil ?_
  refine WQ.then_normal (hK156 _ _ _ ?_)
  refine WP.seq (fun K157 hK157 => ?_)
  refine WP.region ?_
  refine WL.runk 2 [0, 1, 6, 7, 9, 66, 67] [(0, .slice a0' aRows_0.length c0'), (1, .int .i64 aLeast_1), (6, .slice a30 x28.1.length c31), (7, .int .i64 x28.2), (9, .slice a54 x52.1.length c55), (66, .slice a54 x52.1.length c55), (67, .int .i64 1)] (by kernel_rfl) ?_
  obtain ⟨x158, hx159, hm⟩ := bindE hm
  refine WL.call 36 #[.slice a54 x52.1.length c55, .int .i64 1] rfl rfl (by kernel_rfl) (c_36 n x52.1 a54 c55 1 w150 w w.heap.size [aOwn fStr 9 a42 c43 x116.2, aOwn fStr 9 a95 c96 x93, aOwn fInt 2 a30 c31 x28.1, aOwn fStr 9 a19 c20 x17] hx159 hb151 (Nat.le_refl _) hL152  (SH.front 4 (SH.front 3 (SH.front 3 (SH.front 4 (SH.front 4 hS153)))))) ?_
  rintro _ w160 ⟨rfl, hB164, hS163, hlen165⟩
  refine ⟨_, rfl, ?_⟩
  have hb166 : Ext w w160 := Below.trans hb151 hB164
  have hL167 : w.heap.size ≤ w160.heap.size := Nat.le_trans hL152 hB164.size
  refine WL.sub [(0, .slice a0' aRows_0.length c0'), (1, .int .i64 aLeast_1), (6, .slice a30 x28.1.length c31), (7, .int .i64 x28.2), (9, .slice a54 x158.2.length c55), (66, .slice a54 x158.2.length c55), (67, .int .i64 1), (68, .int .i64 x158.1)] ⟨rfl, rfl, rfl, rfl, by rw [hlen165]; rfl, by rw [hlen165]; rfl, rfl, rfl, trivial⟩ ?_
  refine WL.runk 1 [0, 1, 6, 7, 9, 12] [(0, .slice a0' aRows_0.length c0'), (1, .int .i64 aLeast_1), (6, .slice a30 x28.1.length c31), (7, .int .i64 x28.2), (9, .slice a54 x158.2.length c55), (12, .int .i64 x158.1)] (by kernel_rfl) ?_
  refine WL.nil ?_
  refine WQ.then_normal (hK157 _ _ _ ?_)
  refine WP.seq (fun K168 hK168 => ?_)
  refine WP.region ?_
  refine WL.runk 1 [0, 1, 6, 7, 9, 12, 13] [(0, .slice a0' aRows_0.length c0'), (1, .int .i64 aLeast_1), (6, .slice a30 x28.1.length c31), (7, .int .i64 x28.2), (9, .slice a54 x158.2.length c55), (12, .int .i64 x158.1), (13, .int .i64 1)] (by kernel_rfl) ?_
  refine WL.nil ?_
  refine WQ.then_normal (hK168 _ _ _ ?_)
  refine WP.seq (fun K169 hK169 => ?_)
  refine WP.region ?_
  refine WL.runk 2 [0, 1, 6, 7, 9, 12, 69, 70] [(0, .slice a0' aRows_0.length c0'), (1, .int .i64 aLeast_1), (6, .slice a30 x28.1.length c31), (7, .int .i64 x28.2), (9, .slice a54 x158.2.length c55), (12, .int .i64 x158.1), (69, .slice a54 x158.2.length c55), (70, .int .i64 1)] (by kernel_rfl) ?_
  obtain ⟨x170, hx171, hm⟩ := bindE hm
  refine WL.call 37 #[.slice a54 x158.2.length c55, .int .i64 1] rfl rfl (by kernel_rfl) (c_37 n x158.2 a54 c55 1 w160 hx171 (SH.rd (SH.front 0 hS163)) (SH.le (SH.front 0 hS163)).1) ?_
  rintro _ w172 ⟨rfl, hE173⟩
  refine ⟨_, rfl, ?_⟩
  have hb175 : Ext w w172 := Ext.trans hb166 hE173
  have hL176 : w.heap.size ≤ w172.heap.size := Nat.le_trans hL167 hE173.size
  have hS177 : SH w172 w.heap.size [aOwn fInt 2 a54 c55 x158.2, aOwn fStr 9 a42 c43 x116.2, aOwn fStr 9 a95 c96 x93, aOwn fInt 2 a30 c31 x28.1, aOwn fStr 9 a19 c20 x17] := SH.ext hS163 hE173
  refine WL.runk 1 [0, 1, 6, 7, 9, 12, 13] [(0, .slice a0' aRows_0.length c0'), (1, .int .i64 aLeast_1), (6, .slice a30 x28.1.length c31), (7, .int .i64 x28.2), (9, .slice a54 x158.2.length c55), (12, .int .i64 x158.1), (13, .int .i64 x170)] (by kernel_rfl) ?_
  refine WL.nil ?_
  refine WQ.then_normal (hK169 _ _ _ ?_)
  refine WP.seq (fun K178 hK178 => ?_)
  refine WP.seq (fun K179 hK179 => ?_)
  refine WP.region ?_
  refine WL.runk 2 [0, 1, 6, 7, 9, 12, 13, 73] [(0, .slice a0' aRows_0.length c0'), (1, .int .i64 aLeast_1), (6, .slice a30 x28.1.length c31), (7, .int .i64 x28.2), (9, .slice a54 x158.2.length c55), (12, .int .i64 x158.1), (13, .int .i64 x170), (73, .bool (decide (x170 < 0)))] (by kernel_rfl) ?_
  refine WL.nil ?_
  refine WQ.then_normal (hK179 _ _ _ ?_)
  refine WP.cond (decide (x170 < 0)) rfl rfl (fun hc180 => ?_) (fun hc180 => ?_)
  · have hm := iteT hm hc180
    refine WP.seq (fun K181 hK181 => ?_)
    refine WP.region ?_
    refine WL.runk 1 [4] [(4, .bool false)] (by kernel_rfl) ?_
    refine WL.nil ?_
    refine WQ.then_normal (hK181 _ _ _ ?_)
    refine WP.ret ?_
    refine WQ.then_ret ?_
    obtain rfl := Option.some.inj hm
    exact WQ.ret1 _ rfl rfl ⟨rfl, hb175⟩
  have hm := iteF hm hc180
  refine WP.skip ?_
  refine WQ.then_normal (hK178 _ _ _ ?_)
  refine WP.seq (fun K182 hK182 => ?_)
  refine WP.seq (fun K183 hK183 => ?_)
  refine WP.region ?_
  refine WL.runk 3 [0, 1, 6, 7, 9, 12, 76] [(0, .slice a0' aRows_0.length c0'), (1, .int .i64 aLeast_1), (6, .slice a30 x28.1.length c31), (7, .int .i64 x28.2), (9, .slice a54 x158.2.length c55), (12, .int .i64 x158.1), (76, .bool (x170 != x158.1))] (by kernel_rfl) ?_
  refine WL.nil ?_
  refine WQ.then_normal (hK183 _ _ _ ?_)
  refine WP.cond (x170 != x158.1) rfl rfl (fun hc184 => ?_) (fun hc184 => ?_)
  · have hm := iteT hm hc184
    refine WP.seq (fun K185 hK185 => ?_)
    refine WP.region ?_
    refine WL.runk 1 [4] [(4, .bool false)] (by kernel_rfl) ?_
    refine WL.nil ?_
    refine WQ.then_normal (hK185 _ _ _ ?_)
    refine WP.ret ?_
    refine WQ.then_ret ?_
    obtain rfl := Option.some.inj hm
    exact WQ.ret1 _ rfl rfl ⟨rfl, hb175⟩
  have hm := iteF hm hc184
  refine WP.skip ?_
  refine WQ.then_normal (hK182 _ _ _ ?_)
  refine WP.seq (fun K186 hK186 => ?_)
  refine WP.region ?_
  refine WL.runk 1 [1, 6, 7, 9, 12, 78] [(1, .int .i64 aLeast_1), (6, .slice a30 x28.1.length c31), (7, .int .i64 x28.2), (9, .slice a54 x158.2.length c55), (12, .int .i64 x158.1), (78, .slice a0' aRows_0.length c0')] (by kernel_rfl) ?_
  obtain ⟨x187, hx188, hm⟩ := bindE hm
  refine WL.call 17 #[.slice a0' aRows_0.length c0'] rfl rfl (by kernel_rfl) (c_17 n aRows_0 a0' c0' w172 hx188 (Rd.below h0 hb175) hle0) ?_
  rintro _ w192 ⟨a189, c190, rfl, hE193, hR194⟩
  refine ⟨_, rfl, ?_⟩
  have hb195 : Ext w w192 := Ext.trans hb175 hE193
  have hL196 : w.heap.size ≤ w192.heap.size := Nat.le_trans hL176 hE193.size
  have hS197 : SH w192 w.heap.size [aOwn fStr 9 a189 c190 x187, aOwn fInt 2 a54 c55 x158.2, aOwn fStr 9 a42 c43 x116.2, aOwn fStr 9 a95 c96 x93, aOwn fInt 2 a30 c31 x28.1, aOwn fStr 9 a19 c20 x17] := SH.add hS177 hE193 hL176 hR194
  refine WL.runk 1 [6, 7, 9, 12, 79, 80] [(6, .slice a30 x28.1.length c31), (7, .int .i64 x28.2), (9, .slice a54 x158.2.length c55), (12, .int .i64 x158.1), (79, .slice a189 x187.length c190), (80, .int .i64 aLeast_1)] (by kernel_rfl) ?_
  obtain ⟨x198, hx199, hm⟩ := bindE hm
  refine WL.call 46 #[.slice a189 x187.length c190, .int .i64 aLeast_1] rfl rfl (by kernel_rfl) (c_46 n x187 a189 c190 aLeast_1 w192 hx199 (SH.rd (SH.front 0 hS197)) (SH.le (SH.front 0 hS197)).1) ?_
  rintro _ w203 ⟨a200, c201, rfl, hE204, hR205⟩
  refine ⟨_, rfl, ?_⟩
  have hb206 : Ext w w203 := Ext.trans hb195 hE204
  have hL207 : w.heap.size ≤ w203.heap.size := Nat.le_trans hL196 hE204.size
  have hS208 : SH w203 w.heap.size [aOwn fInt 2 a200 c201 x198.1, aOwn fStr 9 a189 c190 x187, aOwn fInt 2 a54 c55 x158.2, aOwn fStr 9 a42 c43 x116.2, aOwn fStr 9 a95 c96 x93, aOwn fInt 2 a30 c31 x28.1, aOwn fStr 9 a19 c20 x17] := SH.add hS197 hE204 hL196 hR205
  refine WL.runk 5 [6, 7, 9, 12, 14, 15] [(6, .slice a30 x28.1.length c31), (7, .int .i64 x28.2), (9, .slice a54 x158.2.length c55), (12, .int .i64 x158.1), (14, .slice a200 x198.1.length c201), (15, .int .i64 x198.2)] (by kernel_rfl) ?_
  refine WL.nil ?_
  refine WQ.then_normal (hK186 _ _ _ ?_)
  refine WP.seq (fun K209 hK209 => ?_)
  refine WP.seq (fun K210 hK210 => ?_)
  obtain ⟨x220, hx221, hm⟩ := bindE hm
  refine WP.cut (fun env' w' => env' = [(9, .slice a54 x158.2.length c55), (12, .int .i64 x158.1), (92, .bool x220)] ∧ Ext w w' ∧ w.heap.size ≤ w'.heap.size ∧ SH w' w.heap.size [aOwn fInt 2 a200 c201 x198.1, aOwn fStr 9 a189 c190 x187, aOwn fInt 2 a54 c55 x158.2, aOwn fStr 9 a42 c43 x116.2, aOwn fStr 9 a95 c96 x93, aOwn fInt 2 a30 c31 x28.1, aOwn fStr 9 a19 c20 x17]) ?_ ?_
  · have hm := hx221; clear hx221
    refine WP.region ?_
    refine WL.runk 2 [7, 9, 12, 15, 84, 85] [(7, .int .i64 x28.2), (9, .slice a54 x158.2.length c55), (12, .int .i64 x158.1), (15, .int .i64 x198.2), (84, .slice a200 x198.1.length c201), (85, .slice a30 x28.1.length c31)] (by kernel_rfl) ?_
    obtain ⟨x222, hx223, hm⟩ := bindE hm
    refine WL.call 35 #[.slice a200 x198.1.length c201, .slice a30 x28.1.length c31] rfl rfl (by kernel_rfl) (c_35 n x198.1 a200 c201 x28.1 a30 c31 w203 hx223 (SH.rd (SH.front 0 hS208)) (SH.le (SH.front 0 hS208)).1 (SH.rd (SH.front 5 hS208)) (SH.le (SH.front 5 hS208)).1) ?_
    rintro _ w224 ⟨rfl, hE225⟩
    refine ⟨_, rfl, ?_⟩
    have hb227 : Ext w w224 := Ext.trans hb206 hE225
    have hL228 : w.heap.size ≤ w224.heap.size := Nat.le_trans hL207 hE225.size
    have hS229 : SH w224 w.heap.size [aOwn fInt 2 a200 c201 x198.1, aOwn fStr 9 a189 c190 x187, aOwn fInt 2 a54 c55 x158.2, aOwn fStr 9 a42 c43 x116.2, aOwn fStr 9 a95 c96 x93, aOwn fInt 2 a30 c31 x28.1, aOwn fStr 9 a19 c20 x17] := SH.ext hS208 hE225
    refine WL.runk 2 [7, 9, 12, 15, 88] [(7, .int .i64 x28.2), (9, .slice a54 x158.2.length c55), (12, .int .i64 x158.1), (15, .int .i64 x198.2), (88, .bool (!x222))] (by kernel_rfl) ?_
    refine WL.case (!x222) [88] ⟨rfl, trivial⟩ (fun hc230 => ?_) (fun hc230 => ?_)
    · have hm := iteT hm hc230
      refine WL.runk 4 [9, 12, 92] [(9, .slice a54 x158.2.length c55), (12, .int .i64 x158.1), (92, .bool true)] (by kernel_rfl) ?_
      refine WL.nil ?_
      obtain rfl := Option.some.inj hm
      exact WQ.post' ⟨rfl, hb227, hL228, hS229⟩ ⟨rfl, rfl, rfl, trivial⟩
    have hm := iteF hm hc230
    refine WL.runk 4 [9, 12, 92] [(9, .slice a54 x158.2.length c55), (12, .int .i64 x158.1), (92, .bool (x198.2 != x28.2))] (by kernel_rfl) ?_
    refine WL.nil ?_
    obtain rfl := Option.some.inj hm
    exact WQ.post' ⟨rfl, hb227, hL228, hS229⟩ ⟨rfl, rfl, rfl, trivial⟩
  clear hx221
  rintro _ w231 ⟨rfl, hb232, hL233, hS234⟩
  refine WQ.then_normal (hK210 _ _ _ ?_)
  refine WP.cond x220 rfl rfl (fun hc235 => ?_) (fun hc235 => ?_)
  · have hm := iteT hm hc235
    refine WP.seq (fun K236 hK236 => ?_)
    refine WP.region ?_
    refine WL.runk 1 [4] [(4, .bool false)] (by kernel_rfl) ?_
    refine WL.nil ?_
    refine WQ.then_normal (hK236 _ _ _ ?_)
    refine WP.ret ?_
    refine WQ.then_ret ?_
    obtain rfl := Option.some.inj hm
    exact WQ.ret1 _ rfl rfl ⟨rfl, hb232⟩
  have hm := iteF hm hc235
  refine WP.skip ?_
  refine WQ.then_normal (hK209 _ _ _ ?_)
  refine WP.seq (fun K237 hK237 => ?_)
  refine WP.region ?_
  refine WL.runk 1 [9, 12, 13] [(9, .slice a54 x158.2.length c55), (12, .int .i64 x158.1), (13, .int .i64 1)] (by kernel_rfl) ?_
  refine WL.nil ?_
  refine WQ.then_normal (hK237 _ _ _ ?_)
  refine WP.seq (fun K238 hK238 => ?_)
  refine WP.region ?_
  refine WL.runk 2 [12, 93, 94] [(12, .int .i64 x158.1), (93, .slice a54 x158.2.length c55), (94, .int .i64 1)] (by kernel_rfl) ?_
  obtain ⟨x239, hx240, hm⟩ := bindE hm
  refine WL.call 37 #[.slice a54 x158.2.length c55, .int .i64 1] rfl rfl (by kernel_rfl) (c_37 n x158.2 a54 c55 1 w231 hx240 (SH.rd (SH.front 2 hS234)) (SH.le (SH.front 2 hS234)).1) ?_
  rintro _ w241 ⟨rfl, hE242⟩
  refine ⟨_, rfl, ?_⟩
  have hb244 : Ext w w241 := Ext.trans hb232 hE242
  have hL245 : w.heap.size ≤ w241.heap.size := Nat.le_trans hL233 hE242.size
  have hS246 : SH w241 w.heap.size [aOwn fInt 2 a200 c201 x198.1, aOwn fStr 9 a189 c190 x187, aOwn fInt 2 a54 c55 x158.2, aOwn fStr 9 a42 c43 x116.2, aOwn fStr 9 a95 c96 x93, aOwn fInt 2 a30 c31 x28.1, aOwn fStr 9 a19 c20 x17] := SH.ext hS234 hE242
  refine WL.runk 1 [12, 13] [(12, .int .i64 x158.1), (13, .int .i64 x239)] (by kernel_rfl) ?_
  refine WL.nil ?_
  refine WQ.then_normal (hK238 _ _ _ ?_)
  refine WP.seq (fun K247 hK247 => ?_)
  refine WP.seq (fun K248 hK248 => ?_)
  refine WP.region ?_
  refine WL.runk 2 [12, 13, 97] [(12, .int .i64 x158.1), (13, .int .i64 x239), (97, .bool (decide (x239 < 0)))] (by kernel_rfl) ?_
  refine WL.nil ?_
  refine WQ.then_normal (hK248 _ _ _ ?_)
  refine WP.cond (decide (x239 < 0)) rfl rfl (fun hc249 => ?_) (fun hc249 => ?_)
  · have hm := iteT hm hc249
    refine WP.seq (fun K250 hK250 => ?_)
    refine WP.region ?_
    refine WL.runk 1 [4] [(4, .bool false)] (by kernel_rfl) ?_
    refine WL.nil ?_
    refine WQ.then_normal (hK250 _ _ _ ?_)
    refine WP.ret ?_
    refine WQ.then_ret ?_
    obtain rfl := Option.some.inj hm
    exact WQ.ret1 _ rfl rfl ⟨rfl, hb244⟩
  have hm := iteF hm hc249
  refine WP.skip ?_
  refine WQ.then_normal (hK247 _ _ _ ?_)
  refine WP.seq (fun K251 hK251 => ?_)
  refine WP.seq (fun K252 hK252 => ?_)
  refine WP.region ?_
  refine WL.runk 3 [100] [(100, .bool (x239 != x158.1))] (by kernel_rfl) ?_
  refine WL.nil ?_
  refine WQ.then_normal (hK252 _ _ _ ?_)
  refine WP.cond (x239 != x158.1) rfl rfl (fun hc253 => ?_) (fun hc253 => ?_)
  · have hm := iteT hm hc253
    refine WP.seq (fun K254 hK254 => ?_)
    refine WP.region ?_
    refine WL.runk 1 [4] [(4, .bool false)] (by kernel_rfl) ?_
    refine WL.nil ?_
    refine WQ.then_normal (hK254 _ _ _ ?_)
    refine WP.ret ?_
    refine WQ.then_ret ?_
    obtain rfl := Option.some.inj hm
    exact WQ.ret1 _ rfl rfl ⟨rfl, hb244⟩
  have hm := iteF hm hc253
  refine WP.skip ?_
  refine WQ.then_normal (hK251 _ _ _ ?_)
  refine WP.seq (fun K255 hK255 => ?_)
  refine WP.region ?_
  refine WL.runk 1 [4] [(4, .bool true)] (by kernel_rfl) ?_
  refine WL.nil ?_
  refine WQ.then_normal (hK255 _ _ _ ?_)
  refine WP.ret ?_
  obtain rfl := Option.some.inj hm
  exact WQ.ret1 _ rfl rfl ⟨rfl, hb244⟩

end Go.Proofs.Ytoljnpoiclklpaa
