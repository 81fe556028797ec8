/- Each call does what its Lean function says. -/
import Derived.Test.YtoljnpoiclklpaaTi
import Derived.Test.YtoljnpoiclklpaaEq
import Derived.Test.YtoljnpoiclklpaaMo
set_option maxRecDepth 20000
set_option maxHeartbeats 4000000
namespace Go.Proofs.Ytoljnpoiclklpaa
open Go Go.Gv Go.RowKit

theorem c_50 (n : Nat) (n_0 : Int) (low_1 : Int) (high_2 : Int) (w : World) {r : Bool} (hm : m_impl_within n n_0 low_1 high_2 = some r)  :
    CallV Try.prog 50 #[.int .i64 n_0, .int .i64 low_1, .int .i64 high_2] w (fun v w' => v = .bool r ∧ Ext w w') := by
  unfold m_impl_within at hm
  refine CallV.enter Try.func50 rfl (by kernel_rfl) Try.ntmps50 (env := [(0, .int .i64 n_0), (1, .int .i64 low_1), (2, .int .i64 high_2)]) ⟨rfl, rfl, rfl, trivial⟩ ?_
  refine WP.seq (fun K1 hK1 => ?_)
  refine WP.region ?_
  refine WL.runk 1 [0, 1, 2] [(0, .int .i64 n_0), (1, .int .i64 low_1), (2, .int .i64 high_2)] (by kernel_rfl) ?_
  refine WL.nil ?_
  refine WQ.then_normal (hK1 _ _ _ ?_)
  refine WP.seq (fun K2 hK2 => ?_)
  obtain ⟨x4, hx5, hm⟩ := bindE hm
  refine WP.cut (fun env' w' => env' = [(6, .bool x4)] ∧ Ext w w' ∧ w.heap.size ≤ w'.heap.size ∧ SH w' w.heap.size []) ?_ ?_
  rotate_left
  · clear hx5
    rintro _ w7 ⟨rfl, hb8, hL9, hS10⟩
    refine WQ.then_normal (hK2 _ _ _ ?_)
    refine WP.ret ?_
    obtain rfl := Option.some.inj hm
    exact WQ.ret1 _ rfl rfl ⟨rfl, hb8⟩
  have hm := hx5; clear hx5
  refine WP.region ?_
  refine WL.runk 4 [0, 2, 10] [(0, .int .i64 n_0), (2, .int .i64 high_2), (10, .bool (decide (n_0 ≥ low_1)))] (by kernel_rfl) ?_
  refine WL.case (decide (n_0 ≥ low_1)) [10] ⟨rfl, trivial⟩ (fun hc6 => ?_) (fun hc6 => ?_)
  · have hm := iteT hm hc6
    refine WL.runk 5 [6] [(6, .bool (decide (n_0 ≤ high_2)))] (by kernel_rfl) ?_
    refine WL.nil ?_
    obtain rfl := Option.some.inj hm
    exact WQ.post' ⟨rfl, (Ext.refl w), (Nat.le_refl _), (SH.nil _ _)⟩ ⟨rfl, trivial⟩
  have hm := iteF hm hc6
  refine WL.runk 5 [6] [(6, .bool false)] (by kernel_rfl) ?_
  refine WL.nil ?_
  obtain rfl := Option.some.inj hm
  exact WQ.post' ⟨rfl, (Ext.refl w), (Nat.le_refl _), (SH.nil _ _)⟩ ⟨rfl, trivial⟩

theorem c_18 (n : Nat) (rows_0 : List (List UInt8)) (a0' : Option Addr) (c0' : Nat) (w : World) {r : Bool} (hm : m_impl_ValidWear n rows_0 = some r) (h0 : Rd fStr.ty w a0' rows_0) (_hle0 : rows_0.length ≤ c0') :
    CallV Try.prog 18 #[.slice a0' rows_0.length c0'] w (fun v w' => v = .bool r ∧ Ext w w') := by
  unfold m_impl_ValidWear at hm
  refine CallV.enter Try.func18 rfl (by kernel_rfl) Try.ntmps18 (env := [(0, .slice a0' rows_0.length c0')]) ⟨rfl, trivial⟩ ?_
  refine WP.seq (fun K1 hK1 => ?_)
  refine WP.region ?_
  refine WL.runk 1 [0] [(0, .slice a0' rows_0.length c0')] (by kernel_rfl) ?_
  refine WL.nil ?_
  refine WQ.then_normal (hK1 _ _ _ ?_)
  refine WP.seq (fun K2 hK2 => ?_)
  refine WP.seq (fun K3 hK3 => ?_)
  obtain ⟨x23, hx24, hm⟩ := bindE hm
  refine WP.cut (fun env' w' => env' = [(0, .slice a0' rows_0.length c0'), (17, .bool x23)] ∧ Ext w w' ∧ w.heap.size ≤ w'.heap.size ∧ SH w' w.heap.size []) ?_ ?_
  · have hm := hx24; clear hx24
    refine WP.region ?_
    refine WL.runk 2 [0, 7] [(0, .slice a0' rows_0.length c0'), (7, .int .i64 (rows_0.length : Int))] (by kernel_rfl) ?_
    obtain ⟨x25, hx26, hm⟩ := bindE hm
    refine WL.call 50 #[.int .i64 (rows_0.length : Int), .int .i64 2, .int .i64 12] rfl rfl (by kernel_rfl) (c_50 n (rows_0.length : Int) 2 12 w hx26 ) ?_
    rintro _ w27 ⟨rfl, hE28⟩
    refine ⟨_, rfl, ?_⟩
    have hb30 : Ext w w27 := Ext.trans (Ext.refl w) hE28
    have hL31 : w.heap.size ≤ w27.heap.size := Nat.le_trans (Nat.le_refl _) hE28.size
    have hS32 : SH w27 w.heap.size [] := SH.ext (SH.nil _ _) hE28
    refine WL.runk 2 [0, 10] [(0, .slice a0' rows_0.length c0'), (10, .bool (!x25))] (by kernel_rfl) ?_
    refine WL.case (!x25) [10] ⟨rfl, trivial⟩ (fun hc33 => ?_) (fun hc33 => ?_)
    · have hm := iteT hm hc33
      refine WL.runk 7 [0, 17] [(0, .slice a0' rows_0.length c0'), (17, .bool true)] (by kernel_rfl) ?_
      refine WL.nil ?_
      obtain rfl := Option.some.inj hm
      exact WQ.post' ⟨rfl, hb30, hL31, hS32⟩ ⟨rfl, rfl, trivial⟩
    have hm := iteF hm hc33
    refine WL.runk 1 [0, 10, 11] [(0, .slice a0' rows_0.length c0'), (10, .bool false), (11, .slice a0' rows_0.length c0')] (by kernel_rfl) ?_
    obtain ⟨x34, hx35, hm⟩ := bindE hm
    refine WL.st (.pointer (some (at_ a0' (Int.toNat 0 * 1)))) (ST.index (T := fStr.ty) (xs := rows_0) (Rd.below h0 hb30) hx35 rfl rfl rfl Try.underlying22 (info9).1 (info9).2.1) rfl rfl rfl ?_
    refine WL.st (.string (bs x34)) (ST.load (cell_ext (Rd.flat (F := fStr) (Rd.below h0 hb30) hx35 0 rfl)) rfl rfl Try.underlying9 rfl) rfl rfl rfl ?_
    refine WL.runk 1 [0, 10, 14] [(0, .slice a0' rows_0.length c0'), (10, .bool false), (14, .int .i64 (x34.length : Int))] (by kernel_rfl) ?_
    obtain ⟨x36, hx37, hm⟩ := bindE hm
    refine WL.call 50 #[.int .i64 (x34.length : Int), .int .i64 2, .int .i64 8] rfl rfl (by kernel_rfl) (c_50 n (x34.length : Int) 2 8 w27 hx37 ) ?_
    rintro _ w38 ⟨rfl, hE39⟩
    refine ⟨_, rfl, ?_⟩
    have hb41 : Ext w w38 := Ext.trans hb30 hE39
    have hL42 : w.heap.size ≤ w38.heap.size := Nat.le_trans hL31 hE39.size
    have hS43 : SH w38 w.heap.size [] := SH.ext hS32 hE39
    refine WL.runk 2 [0, 17] [(0, .slice a0' rows_0.length c0'), (17, .bool (!x36))] (by kernel_rfl) ?_
    refine WL.nil ?_
    obtain rfl := Option.some.inj hm
    exact WQ.post' ⟨rfl, hb41, hL42, hS43⟩ ⟨rfl, rfl, trivial⟩
  clear hx24
  rintro _ w44 ⟨rfl, hb45, hL46, hS47⟩
  refine WQ.then_normal (hK3 _ _ _ ?_)
  refine WP.cond x23 rfl rfl (fun hc48 => ?_) (fun hc48 => ?_)
  · have hm := iteT hm hc48
    refine WP.seq (fun K49 hK49 => ?_)
    refine WP.region ?_
    refine WL.runk 1 [2] [(2, .bool false)] (by kernel_rfl) ?_
    refine WL.nil ?_
    refine WQ.then_normal (hK49 _ _ _ ?_)
    refine WP.ret ?_
    refine WQ.then_ret ?_
    obtain rfl := Option.some.inj hm
    exact WQ.ret1 _ rfl rfl ⟨rfl, hb45⟩
  have hm := iteF hm hc48
  refine WP.skip ?_
  refine WQ.then_normal (hK2 _ _ _ ?_)
  refine WP.seq (fun K50 hK50 => ?_)
  refine WP.seq (fun K51 hK51 => ?_)
  refine WP.region ?_
  refine WL.runk 3 [0, 18, 19, 20] [(0, .slice a0' rows_0.length c0'), (18, .slice a0' rows_0.length c0'), (19, .int .i64 (rows_0.length : Int)), (20, .int .i64 0)] (by kernel_rfl) ?_
  refine WL.nil ?_
  refine WQ.then_normal (hK51 _ _ _ ?_)
  refine WP.block ?_
  obtain ⟨t63, ht64, hm⟩ := bindE hm
  have hmo58 := hm; clear hm
  refine WP.sub [(0, .slice a0' rows_0.length c0'), (18, .slice a0' rows_0.length c0'), (19, .int .i64 (rows_0.length : Int)), (20, .int .i64 0)] ⟨rfl, rfl, rfl, rfl, trivial⟩ ?_
  refine WP.loop (fun n' env' w' => ∃ (st52 : Int) , env' = [(0, .slice a0' rows_0.length c0'), (18, .slice a0' rows_0.length c0'), (19, .int .i64 (rows_0.length : Int)), (20, .int .i64 st52)] ∧ Ext w w' ∧ w.heap.size ≤ w'.heap.size ∧ SH w' w.heap.size [] ∧ loopN (m_impl_ValidWear_l1 n rows_0) n' st52 = some t63) n ⟨0, rfl, hb45, hL46, hS47, ht64⟩ ?_
  rintro n60 _ w53 ⟨st52, rfl, hb54, hL55, hS56, hl57⟩ K59 hK59
  obtain ⟨n61, s62, rfl, hm, hl57⟩ := loopN_some hl57
  unfold m_impl_ValidWear_l1 at hm
  refine WP.seq (fun K65 hK65 => ?_)
  refine WP.region ?_
  refine WL.runk 1 [0, 18, 19, 20, 21] [(0, .slice a0' rows_0.length c0'), (18, .slice a0' rows_0.length c0'), (19, .int .i64 (rows_0.length : Int)), (20, .int .i64 st52), (21, .bool (decide (st52 < (rows_0.length : Int))))] (by kernel_rfl) ?_
  refine WL.nil ?_
  refine WQ.then_normal (hK65 _ _ _ ?_)
  refine WP.seq (fun K66 hK66 => ?_)
  refine WP.cond (decide (st52 < (rows_0.length : Int))) rfl rfl (fun hc67 => ?_) (fun hc67 => ?_)
  rotate_left
  · have hm := iteF hm hc67
    refine WP.exit ?_
    refine WQ.then_exit ?_
    refine WQ.then_exit ?_
    refine WQ.block_here ?_
    obtain rfl := Option.some.inj hm
    obtain rfl := afterN_done hl57
    have hm := hmo58
    refine WQ.then_normal (hK50 _ _ _ ?_)
    refine WP.seq (fun K117 hK117 => ?_)
    refine WP.region ?_
    refine WL.runk 1 [2] [(2, .bool true)] (by kernel_rfl) ?_
    refine WL.nil ?_
    refine WQ.then_normal (hK117 _ _ _ ?_)
    refine WP.ret ?_
    obtain rfl := Option.some.inj hm
    exact WQ.ret1 _ rfl rfl ⟨rfl, hb54⟩
  have hm := iteT hm hc67
  refine WP.skip ?_
  refine WQ.then_normal (hK66 _ _ _ ?_)
  refine WP.seq (fun K68 hK68 => ?_)
  refine WP.block ?_
  refine WP.seq (fun K69 hK69 => ?_)
  refine WP.region ?_
  obtain ⟨x70, hx71, hm⟩ := bindE hm
  refine WL.st (.pointer (some (at_ a0' (Int.toNat st52 * 1)))) (ST.index (T := fStr.ty) (xs := rows_0) (Rd.below h0 hb54) hx71 rfl rfl rfl Try.underlying22 (info9).1 (info9).2.1) rfl rfl rfl ?_
  refine WL.st (.string (bs x70)) (ST.load (cell_ext (Rd.flat (F := fStr) (Rd.below h0 hb54) hx71 0 rfl)) rfl rfl Try.underlying9 rfl) rfl rfl rfl ?_
  refine WL.runk 1 [0, 4, 18, 19, 20] [(0, .slice a0' rows_0.length c0'), (18, .slice a0' rows_0.length c0'), (19, .int .i64 (rows_0.length : Int)), (20, .int .i64 st52), (4, .string (bs x70))] (by kernel_rfl) ?_
  refine WL.nil ?_
  refine WQ.then_normal (hK69 _ _ _ ?_)
  refine WP.seq (fun K72 hK72 => ?_)
  refine WP.seq (fun K73 hK73 => ?_)
  refine WP.region ?_
  refine WL.runk 3 [0, 4, 18, 19, 20, 25, 26] [(0, .slice a0' rows_0.length c0'), (18, .slice a0' rows_0.length c0'), (19, .int .i64 (rows_0.length : Int)), (20, .int .i64 st52), (4, .string (bs x70)), (25, .int .i64 (x70.length : Int)), (26, .slice a0' rows_0.length c0')] (by kernel_rfl) ?_
  obtain ⟨x74, hx75, hm⟩ := bindE hm
  refine WL.st (.pointer (some (at_ a0' (Int.toNat 0 * 1)))) (ST.index (T := fStr.ty) (xs := rows_0) (Rd.below h0 hb54) hx75 rfl rfl rfl Try.underlying22 (info9).1 (info9).2.1) rfl rfl rfl ?_
  refine WL.st (.string (bs x74)) (ST.load (cell_ext (Rd.flat (F := fStr) (Rd.below h0 hb54) hx75 0 rfl)) rfl rfl Try.underlying9 rfl) rfl rfl rfl ?_
  refine WL.runk 2 [0, 4, 18, 19, 20, 30] [(0, .slice a0' rows_0.length c0'), (18, .slice a0' rows_0.length c0'), (19, .int .i64 (rows_0.length : Int)), (20, .int .i64 st52), (4, .string (bs x70)), (30, .bool ((x70.length : Int) != (x74.length : Int)))] (by kernel_rfl) ?_
  refine WL.nil ?_
  refine WQ.then_normal (hK73 _ _ _ ?_)
  refine WP.cond ((x70.length : Int) != (x74.length : Int)) rfl rfl (fun hc76 => ?_) (fun hc76 => ?_)
  · have hm := iteT hm hc76
    refine WP.seq (fun K77 hK77 => ?_)
    refine WP.region ?_
    refine WL.runk 1 [2] [(2, .bool false)] (by kernel_rfl) ?_
    refine WL.nil ?_
    refine WQ.then_normal (hK77 _ _ _ ?_)
    refine WP.ret ?_
    refine WQ.then_ret ?_
    refine WQ.block_ret ?_
    refine WQ.then_ret ?_
    refine WQ.then_ret ?_
    refine WQ.block_ret ?_
    refine WQ.then_ret ?_
    obtain rfl := Option.some.inj hm
    obtain rfl := afterN_done hl57
    have hm := hmo58
    obtain rfl := Option.some.inj hm
    exact WQ.ret1 _ rfl rfl ⟨rfl, hb54⟩
  have hm := iteF hm hc76
  refine WP.skip ?_
  refine WQ.then_normal (hK72 _ _ _ ?_)
  refine WP.seq (fun K78 hK78 => ?_)
  refine WP.region ?_
  refine WL.runk 3 [0, 4, 18, 19, 20, 32, 33] [(0, .slice a0' rows_0.length c0'), (18, .slice a0' rows_0.length c0'), (19, .int .i64 (rows_0.length : Int)), (20, .int .i64 st52), (4, .string (bs x70)), (32, .int .i64 (x70.length : Int)), (33, .int .i64 0)] (by kernel_rfl) ?_
  refine WL.nil ?_
  refine WQ.then_normal (hK78 _ _ _ ?_)
  refine WP.block ?_
  obtain ⟨t90, ht91, hm⟩ := bindE hm
  have hmo85 := hm; clear hm
  refine WP.sub [(0, .slice a0' rows_0.length c0'), (18, .slice a0' rows_0.length c0'), (19, .int .i64 (rows_0.length : Int)), (20, .int .i64 st52), (4, .string (bs x70)), (32, .int .i64 (x70.length : Int)), (33, .int .i64 0)] ⟨rfl, rfl, rfl, rfl, rfl, rfl, rfl, trivial⟩ ?_
  refine WP.loop (fun n' env' w' => ∃ (st79 : Int) , env' = [(0, .slice a0' rows_0.length c0'), (18, .slice a0' rows_0.length c0'), (19, .int .i64 (rows_0.length : Int)), (20, .int .i64 st52), (4, .string (bs x70)), (32, .int .i64 (x70.length : Int)), (33, .int .i64 st79)] ∧ Ext w w' ∧ w.heap.size ≤ w'.heap.size ∧ SH w' w.heap.size [] ∧ loopN (m_impl_ValidWear_l2 n x70) n' st79 = some t90) n ⟨0, rfl, hb54, hL55, hS56, ht91⟩ ?_
  rintro n87 _ w80 ⟨st79, rfl, hb81, hL82, hS83, hl84⟩ K86 hK86
  obtain ⟨n88, s89, rfl, hm, hl84⟩ := loopN_some hl84
  unfold m_impl_ValidWear_l2 at hm
  refine WP.seq (fun K92 hK92 => ?_)
  refine WP.region ?_
  refine WL.runk 1 [0, 4, 18, 19, 20, 32, 33, 34] [(0, .slice a0' rows_0.length c0'), (18, .slice a0' rows_0.length c0'), (19, .int .i64 (rows_0.length : Int)), (20, .int .i64 st52), (4, .string (bs x70)), (32, .int .i64 (x70.length : Int)), (33, .int .i64 st79), (34, .bool (decide (st79 < (x70.length : Int))))] (by kernel_rfl) ?_
  refine WL.nil ?_
  refine WQ.then_normal (hK92 _ _ _ ?_)
  refine WP.seq (fun K93 hK93 => ?_)
  refine WP.cond (decide (st79 < (x70.length : Int))) rfl rfl (fun hc94 => ?_) (fun hc94 => ?_)
  rotate_left
  · have hm := iteF hm hc94
    refine WP.exit ?_
    refine WQ.then_exit ?_
    refine WQ.then_exit ?_
    refine WQ.block_here ?_
    obtain rfl := Option.some.inj hm
    obtain rfl := afterN_done hl84
    have hm := hmo85
    refine WQ.block_normal ?_
    refine WQ.then_normal (hK68 _ _ _ ?_)
    refine WP.region ?_
    refine WL.runk 2 [0, 18, 19, 20] [(0, .slice a0' rows_0.length c0'), (18, .slice a0' rows_0.length c0'), (19, .int .i64 (rows_0.length : Int)), (20, .int .i64 (wI64 (st52 + 1)))] (by kernel_rfl) ?_
    refine WL.nil ?_
    obtain rfl := Option.some.inj hm
    exact WQ.round hK59 ⟨(wI64 (st52 + 1)), rfl, hb81, hL82, hS83, hl57⟩ (Nat.lt_succ_self _) ⟨rfl, rfl, rfl, rfl, trivial⟩
  have hm := iteT hm hc94
  refine WP.skip ?_
  refine WQ.then_normal (hK93 _ _ _ ?_)
  refine WP.seq (fun K95 hK95 => ?_)
  refine WP.block ?_
  refine WP.seq (fun K96 hK96 => ?_)
  refine WP.region ?_
  refine WL.runk 2 [0, 4, 5, 18, 19, 20, 32, 33] [(0, .slice a0' rows_0.length c0'), (18, .slice a0' rows_0.length c0'), (19, .int .i64 (rows_0.length : Int)), (20, .int .i64 st52), (4, .string (bs x70)), (32, .int .i64 (x70.length : Int)), (33, .int .i64 st79), (5, .int .i64 st79)] (by kernel_rfl) ?_
  refine WL.nil ?_
  refine WQ.then_normal (hK96 _ _ _ ?_)
  refine WP.seq (fun K97 hK97 => ?_)
  obtain ⟨x103, hx104, hm⟩ := bindE hm
  refine WP.cut (fun env' w' => env' = [(0, .slice a0' rows_0.length c0'), (18, .slice a0' rows_0.length c0'), (19, .int .i64 (rows_0.length : Int)), (20, .int .i64 st52), (4, .string (bs x70)), (32, .int .i64 (x70.length : Int)), (33, .int .i64 st79), (45, .bool x103)] ∧ Ext w w' ∧ w.heap.size ≤ w'.heap.size ∧ SH w' w.heap.size []) ?_ ?_
  · have hm := hx104; clear hx104
    refine WP.region ?_
    refine WL.runk 2 [0, 4, 5, 18, 19, 20, 32, 33, 36, 37] [(0, .slice a0' rows_0.length c0'), (18, .slice a0' rows_0.length c0'), (19, .int .i64 (rows_0.length : Int)), (20, .int .i64 st52), (4, .string (bs x70)), (32, .int .i64 (x70.length : Int)), (33, .int .i64 st79), (5, .int .i64 st79), (36, .string (bs x70)), (37, .int .i64 st79)] (by kernel_rfl) ?_
    obtain ⟨x105, hx106, hm⟩ := bindE hm
    refine WL.st (.int .u8 (x105.toNat : Int)) (ST.sindex hx106 rfl rfl rfl Try.underlying9) rfl rfl rfl ?_
    refine WL.runk 2 [0, 4, 5, 18, 19, 20, 32, 33, 40] [(0, .slice a0' rows_0.length c0'), (18, .slice a0' rows_0.length c0'), (19, .int .i64 (rows_0.length : Int)), (20, .int .i64 st52), (4, .string (bs x70)), (32, .int .i64 (x70.length : Int)), (33, .int .i64 st79), (5, .int .i64 st79), (40, .bool (decide ((x105.toNat : Int) < 48)))] (by kernel_rfl) ?_
    refine WL.case (decide ((x105.toNat : Int) < 48)) [40] ⟨rfl, trivial⟩ (fun hc107 => ?_) (fun hc107 => ?_)
    · have hm := iteT hm hc107
      refine WL.runk 5 [0, 4, 18, 19, 20, 32, 33, 45] [(0, .slice a0' rows_0.length c0'), (18, .slice a0' rows_0.length c0'), (19, .int .i64 (rows_0.length : Int)), (20, .int .i64 st52), (4, .string (bs x70)), (32, .int .i64 (x70.length : Int)), (33, .int .i64 st79), (45, .bool true)] (by kernel_rfl) ?_
      refine WL.nil ?_
      obtain rfl := Option.some.inj hm
      exact WQ.post' ⟨rfl, hb81, hL82, hS83⟩ ⟨rfl, rfl, rfl, rfl, rfl, rfl, rfl, rfl, trivial⟩
    have hm := iteF hm hc107
    refine WL.runk 2 [0, 4, 18, 19, 20, 32, 33, 40, 41, 42] [(0, .slice a0' rows_0.length c0'), (18, .slice a0' rows_0.length c0'), (19, .int .i64 (rows_0.length : Int)), (20, .int .i64 st52), (4, .string (bs x70)), (32, .int .i64 (x70.length : Int)), (33, .int .i64 st79), (40, .bool false), (41, .string (bs x70)), (42, .int .i64 st79)] (by kernel_rfl) ?_
    obtain ⟨x108, hx109, hm⟩ := bindE hm
    refine WL.st (.int .u8 (x108.toNat : Int)) (ST.sindex hx109 rfl rfl rfl Try.underlying9) rfl rfl rfl ?_
    refine WL.runk 2 [0, 4, 18, 19, 20, 32, 33, 45] [(0, .slice a0' rows_0.length c0'), (18, .slice a0' rows_0.length c0'), (19, .int .i64 (rows_0.length : Int)), (20, .int .i64 st52), (4, .string (bs x70)), (32, .int .i64 (x70.length : Int)), (33, .int .i64 st79), (45, .bool (decide ((x108.toNat : Int) > 57)))] (by kernel_rfl) ?_
    refine WL.nil ?_
    obtain rfl := Option.some.inj hm
    exact WQ.post' ⟨rfl, hb81, hL82, hS83⟩ ⟨rfl, rfl, rfl, rfl, rfl, rfl, rfl, rfl, trivial⟩
  clear hx104
  rintro _ w110 ⟨rfl, hb111, hL112, hS113⟩
  refine WQ.then_normal (hK97 _ _ _ ?_)
  refine WP.cond x103 rfl rfl (fun hc114 => ?_) (fun hc114 => ?_)
  rotate_left
  · have hm := iteF hm hc114
    refine WP.skip ?_
    refine WQ.block_normal ?_
    refine WQ.then_normal (hK95 _ _ _ ?_)
    refine WP.region ?_
    refine WL.runk 2 [0, 4, 18, 19, 20, 32, 33] [(0, .slice a0' rows_0.length c0'), (18, .slice a0' rows_0.length c0'), (19, .int .i64 (rows_0.length : Int)), (20, .int .i64 st52), (4, .string (bs x70)), (32, .int .i64 (x70.length : Int)), (33, .int .i64 (wI64 (st79 + 1)))] (by kernel_rfl) ?_
    refine WL.nil ?_
    obtain rfl := Option.some.inj hm
    exact WQ.round hK86 ⟨(wI64 (st79 + 1)), rfl, hb111, hL112, hS113, hl84⟩ (Nat.lt_succ_self _) ⟨rfl, rfl, rfl, rfl, rfl, rfl, rfl, trivial⟩
  have hm := iteT hm hc114
  refine WP.seq (fun K115 hK115 => ?_)
  refine WP.region ?_
  refine WL.runk 1 [2] [(2, .bool false)] (by kernel_rfl) ?_
  refine WL.nil ?_
  refine WQ.then_normal (hK115 _ _ _ ?_)
  refine WP.ret ?_
  refine WQ.block_ret ?_
  refine WQ.then_ret ?_
  refine WQ.then_ret ?_
  refine WQ.block_ret ?_
  refine WQ.block_ret ?_
  refine WQ.then_ret ?_
  refine WQ.then_ret ?_
  refine WQ.block_ret ?_
  refine WQ.then_ret ?_
  obtain rfl := Option.some.inj hm
  obtain rfl := afterN_done hl84
  have hm := hmo85
  obtain rfl := Option.some.inj hm
  obtain rfl := afterN_done hl57
  have hm := hmo58
  obtain rfl := Option.some.inj hm
  exact WQ.ret1 _ rfl rfl ⟨rfl, hb111⟩

theorem c_54 (n : Nat) (rows_0 : List (List UInt8)) (a0' : Option Addr) (c0' : Nat) (w : World) {r : List Int} (hm : m_impl_digits n rows_0 = some r) (h0 : Rd fStr.ty w a0' rows_0) (_hle0 : rows_0.length ≤ c0') :
    CallV Try.prog 54 #[.slice a0' rows_0.length c0'] w (fun v w' => ∃ (ra0 : Option Addr) (rc0 : Nat), v = .slice ra0 r.length rc0 ∧ Ext w w' ∧ SH w' w.heap.size [aOwn fInt 2 ra0 rc0 r]) := by
  unfold m_impl_digits at hm
  refine CallV.enter Try.func54 rfl (by kernel_rfl) Try.ntmps54 (env := [(0, .slice a0' rows_0.length c0')]) ⟨rfl, trivial⟩ ?_
  refine WP.seq (fun K1 hK1 => ?_)
  refine WP.region ?_
  refine WL.runk 1 [0] [(0, .slice a0' rows_0.length c0')] (by kernel_rfl) ?_
  refine WL.nil ?_
  refine WQ.then_normal (hK1 _ _ _ ?_)
  refine WP.seq (fun K2 hK2 => ?_)
  refine WP.region ?_
  refine WL.row fInt 2 ([] : List Int) 0 #[] 7 (by kernel_rfl) rfl rfl rfl rfl rfl rfl rfl ?_
  intro a3 c4 w5 hE6 hR7
  have hb9 : Ext w w5 := Ext.trans (Ext.refl w) hE6
  have hL10 : w.heap.size ≤ w5.heap.size := Nat.le_trans (Nat.le_refl _) hE6.size
  have hS11 : SH w5 w.heap.size [aOwn fInt 2 a3 c4 ([] : List Int)] := SH.add (SH.nil _ _) hE6 (Nat.le_refl _) hR7
  refine WL.runk 1 [0, 3] [(0, .slice a0' rows_0.length c0'), (3, .slice a3 (([] : List Int).length) c4)] (by kernel_rfl) ?_
  refine WL.nil ?_
  refine WQ.then_normal (hK2 _ _ _ ?_)
  refine WP.seq (fun K12 hK12 => ?_)
  refine WP.seq (fun K13 hK13 => ?_)
  refine WP.region ?_
  refine WL.runk 3 [3, 8, 9, 10] [(3, .slice a3 (([] : List Int).length) c4), (8, .slice a0' rows_0.length c0'), (9, .int .i64 (rows_0.length : Int)), (10, .int .i64 0)] (by kernel_rfl) ?_
  refine WL.nil ?_
  refine WQ.then_normal (hK13 _ _ _ ?_)
  refine WP.block ?_
  obtain ⟨t28, ht29, hm⟩ := bindE hm
  have hmo23 := hm; clear hm
  refine WP.sub [(3, .slice a3 (([] : List Int).length) c4), (8, .slice a0' rows_0.length c0'), (9, .int .i64 (rows_0.length : Int)), (10, .int .i64 0)] ⟨rfl, rfl, rfl, rfl, trivial⟩ ?_
  refine WP.loop (fun n' env' w' => ∃ (st14 : List Int × Int) (a15 : Option Addr) (c16 : Nat), env' = [(3, .slice a15 st14.1.length c16), (8, .slice a0' rows_0.length c0'), (9, .int .i64 (rows_0.length : Int)), (10, .int .i64 st14.2)] ∧ Ext w w' ∧ w.heap.size ≤ w'.heap.size ∧ SH w' w.heap.size [aOwn fInt 2 a15 c16 st14.1] ∧ loopN (m_impl_digits_l1 n rows_0) n' st14 = some t28) n ⟨(([] : List Int), 0), _, _, rfl, hb9, hL10, hS11, ht29⟩ ?_
  rintro n25 _ w18 ⟨st14, a15, c16, rfl, hb19, hL20, hS21, hl22⟩ K24 hK24
  obtain ⟨n26, s27, rfl, hm, hl22⟩ := loopN_some hl22
  unfold m_impl_digits_l1 at hm
  refine WP.seq (fun K30 hK30 => ?_)
  refine WP.region ?_
  refine WL.runk 1 [3, 8, 9, 10, 11] [(3, .slice a15 st14.1.length c16), (8, .slice a0' rows_0.length c0'), (9, .int .i64 (rows_0.length : Int)), (10, .int .i64 st14.2), (11, .bool (decide (st14.2 < (rows_0.length : Int))))] (by kernel_rfl) ?_
  refine WL.nil ?_
  refine WQ.then_normal (hK30 _ _ _ ?_)
  refine WP.seq (fun K31 hK31 => ?_)
  refine WP.cond (decide (st14.2 < (rows_0.length : Int))) rfl rfl (fun hc32 => ?_) (fun hc32 => ?_)
  rotate_left
  · have hm := iteF hm hc32
    refine WP.exit ?_
    refine WQ.then_exit ?_
    refine WQ.then_exit ?_
    refine WQ.block_here ?_
    obtain rfl := Option.some.inj hm
    obtain rfl := afterN_done hl22
    have hm := hmo23
    refine WQ.then_normal (hK12 _ _ _ ?_)
    refine WP.seq (fun K83 hK83 => ?_)
    refine WP.region ?_
    refine WL.runk 2 [2] [(2, .slice a15 st14.1.length c16)] (by kernel_rfl) ?_
    refine WL.nil ?_
    refine WQ.then_normal (hK83 _ _ _ ?_)
    refine WP.ret ?_
    obtain rfl := Option.some.inj hm
    exact WQ.ret1 _ rfl rfl ⟨_, _, rfl, hb19, hS21⟩
  have hm := iteT hm hc32
  refine WP.skip ?_
  refine WQ.then_normal (hK31 _ _ _ ?_)
  refine WP.seq (fun K33 hK33 => ?_)
  refine WP.block ?_
  refine WP.seq (fun K34 hK34 => ?_)
  refine WP.region ?_
  obtain ⟨x35, hx36, hm⟩ := bindE hm
  refine WL.st (.pointer (some (at_ a0' (Int.toNat st14.2 * 1)))) (ST.index (T := fStr.ty) (xs := rows_0) (Rd.below h0 hb19) hx36 rfl rfl rfl Try.underlying22 (info9).1 (info9).2.1) rfl rfl rfl ?_
  refine WL.st (.string (bs x35)) (ST.load (cell_ext (Rd.flat (F := fStr) (Rd.below h0 hb19) hx36 0 rfl)) rfl rfl Try.underlying9 rfl) rfl rfl rfl ?_
  refine WL.runk 1 [3, 5, 8, 9, 10] [(3, .slice a15 st14.1.length c16), (8, .slice a0' rows_0.length c0'), (9, .int .i64 (rows_0.length : Int)), (10, .int .i64 st14.2), (5, .string (bs x35))] (by kernel_rfl) ?_
  refine WL.nil ?_
  refine WQ.then_normal (hK34 _ _ _ ?_)
  refine WP.seq (fun K37 hK37 => ?_)
  refine WP.region ?_
  refine WL.runk 3 [3, 5, 8, 9, 10, 15, 16] [(3, .slice a15 st14.1.length c16), (8, .slice a0' rows_0.length c0'), (9, .int .i64 (rows_0.length : Int)), (10, .int .i64 st14.2), (5, .string (bs x35)), (15, .int .i64 (x35.length : Int)), (16, .int .i64 0)] (by kernel_rfl) ?_
  refine WL.nil ?_
  refine WQ.then_normal (hK37 _ _ _ ?_)
  refine WP.block ?_
  obtain ⟨t52, ht53, hm⟩ := bindE hm
  have hmo47 := hm; clear hm
  refine WP.sub [(3, .slice a15 st14.1.length c16), (8, .slice a0' rows_0.length c0'), (9, .int .i64 (rows_0.length : Int)), (10, .int .i64 st14.2), (5, .string (bs x35)), (15, .int .i64 (x35.length : Int)), (16, .int .i64 0)] ⟨rfl, rfl, rfl, rfl, rfl, rfl, rfl, trivial⟩ ?_
  refine WP.loop (fun n' env' w' => ∃ (st38 : List Int × Int) (a39 : Option Addr) (c40 : Nat), env' = [(3, .slice a39 st38.1.length c40), (8, .slice a0' rows_0.length c0'), (9, .int .i64 (rows_0.length : Int)), (10, .int .i64 st14.2), (5, .string (bs x35)), (15, .int .i64 (x35.length : Int)), (16, .int .i64 st38.2)] ∧ Ext w w' ∧ w.heap.size ≤ w'.heap.size ∧ SH w' w.heap.size [aOwn fInt 2 a39 c40 st38.1] ∧ loopN (m_impl_digits_l2 n x35) n' st38 = some t52) n ⟨(st14.1, 0), _, _, rfl, hb19, hL20, hS21, ht53⟩ ?_
  rintro n49 _ w42 ⟨st38, a39, c40, rfl, hb43, hL44, hS45, hl46⟩ K48 hK48
  obtain ⟨n50, s51, rfl, hm, hl46⟩ := loopN_some hl46
  unfold m_impl_digits_l2 at hm
  refine WP.seq (fun K54 hK54 => ?_)
  refine WP.region ?_
  refine WL.runk 1 [3, 5, 8, 9, 10, 15, 16, 17] [(3, .slice a39 st38.1.length c40), (8, .slice a0' rows_0.length c0'), (9, .int .i64 (rows_0.length : Int)), (10, .int .i64 st14.2), (5, .string (bs x35)), (15, .int .i64 (x35.length : Int)), (16, .int .i64 st38.2), (17, .bool (decide (st38.2 < (x35.length : Int))))] (by kernel_rfl) ?_
  refine WL.nil ?_
  refine WQ.then_normal (hK54 _ _ _ ?_)
  refine WP.seq (fun K55 hK55 => ?_)
  refine WP.cond (decide (st38.2 < (x35.length : Int))) rfl rfl (fun hc56 => ?_) (fun hc56 => ?_)
  rotate_left
  · have hm := iteF hm hc56
    refine WP.exit ?_
    refine WQ.then_exit ?_
    refine WQ.then_exit ?_
    refine WQ.block_here ?_
    obtain rfl := Option.some.inj hm
    obtain rfl := afterN_done hl46
    have hm := hmo47
    refine WQ.block_normal ?_
    refine WQ.then_normal (hK33 _ _ _ ?_)
    refine WP.region ?_
    refine WL.runk 2 [3, 8, 9, 10] [(3, .slice a39 st38.1.length c40), (8, .slice a0' rows_0.length c0'), (9, .int .i64 (rows_0.length : Int)), (10, .int .i64 (wI64 (st14.2 + 1)))] (by kernel_rfl) ?_
    refine WL.nil ?_
    obtain rfl := Option.some.inj hm
    exact WQ.round hK24 ⟨(st38.1, (wI64 (st14.2 + 1))), _, _, rfl, hb43, hL44, hS45, hl22⟩ (Nat.lt_succ_self _) ⟨rfl, rfl, rfl, rfl, trivial⟩
  have hm := iteT hm hc56
  refine WP.skip ?_
  refine WQ.then_normal (hK55 _ _ _ ?_)
  refine WP.seq (fun K57 hK57 => ?_)
  refine WP.block ?_
  refine WP.seq (fun K58 hK58 => ?_)
  refine WP.region ?_
  refine WL.runk 2 [3, 5, 6, 8, 9, 10, 15, 16] [(3, .slice a39 st38.1.length c40), (8, .slice a0' rows_0.length c0'), (9, .int .i64 (rows_0.length : Int)), (10, .int .i64 st14.2), (5, .string (bs x35)), (15, .int .i64 (x35.length : Int)), (16, .int .i64 st38.2), (6, .int .i64 st38.2)] (by kernel_rfl) ?_
  refine WL.nil ?_
  refine WQ.then_normal (hK58 _ _ _ ?_)
  refine WP.region ?_
  refine WL.runk 3 [5, 8, 9, 10, 15, 16, 19, 20, 21] [(8, .slice a0' rows_0.length c0'), (9, .int .i64 (rows_0.length : Int)), (10, .int .i64 st14.2), (5, .string (bs x35)), (15, .int .i64 (x35.length : Int)), (16, .int .i64 st38.2), (19, .slice a39 st38.1.length c40), (20, .string (bs x35)), (21, .int .i64 st38.2)] (by kernel_rfl) ?_
  obtain ⟨x59, hx60, hm⟩ := bindE hm
  refine WL.st (.int .u8 (x59.toNat : Int)) (ST.sindex hx60 rfl rfl rfl Try.underlying9) rfl rfl rfl ?_
  refine WL.runk 2 [5, 8, 9, 10, 15, 16, 19, 24] [(8, .slice a0' rows_0.length c0'), (9, .int .i64 (rows_0.length : Int)), (10, .int .i64 st14.2), (5, .string (bs x35)), (15, .int .i64 (x35.length : Int)), (16, .int .i64 st38.2), (19, .slice a39 st38.1.length c40), (24, .int .i64 (wI64 (IntKind.u8.wrap ((x59.toNat : Int) - 48))))] (by kernel_rfl) ?_
  refine WL.row fInt 2 ([(wI64 (IntKind.u8.wrap ((x59.toNat : Int) - 48)))] : List Int) 1 #[.int .i64 (wI64 (IntKind.u8.wrap ((x59.toNat : Int) - 48)))] 25 (by kernel_rfl) rfl rfl rfl rfl rfl rfl rfl ?_
  intro a61 c62 w63 hE64 hR65
  have hb67 : Ext w w63 := Ext.trans hb43 hE64
  have hL68 : w.heap.size ≤ w63.heap.size := Nat.le_trans hL44 hE64.size
  have hS69 : SH w63 w.heap.size [aOwn fInt 2 a61 c62 ([(wI64 (IntKind.u8.wrap ((x59.toNat : Int) - 48)))] : List Int), aOwn fInt 2 a39 c40 st38.1] := SH.add hS45 hE64 hL44 hR65
  obtain ⟨x70, hx71, hm⟩ := bindE hm
  refine WL.append (F := fInt) (xs := st38.1) (ys := ([(wI64 (IntKind.u8.wrap ((x59.toNat : Int) - 48)))] : List Int)) 26 (SH.front 1 hS69) hL68 (SH.rd (SH.front 0 hS69)) hx71 rfl rfl rfl Try.underlying40 (info2).1 (info2).2.2.1 (info2).2.1 (info2).2.2.2 rfl rfl rfl rfl rfl ?_
  intro a72 c73 w74 hB75 hS76
  have hb77 : Ext w w74 := Below.trans hb67 hB75
  have hL78 : w.heap.size ≤ w74.heap.size := Nat.le_trans hL68 hB75.size
  refine WL.runk 1 [3, 5, 8, 9, 10, 15, 16] [(8, .slice a0' rows_0.length c0'), (9, .int .i64 (rows_0.length : Int)), (10, .int .i64 st14.2), (5, .string (bs x35)), (15, .int .i64 (x35.length : Int)), (16, .int .i64 st38.2), (3, .slice a72 x70.length c73)] (by kernel_rfl) ?_
  refine WL.nil ?_
  refine WQ.block_normal ?_
  refine WQ.then_normal (hK57 _ _ _ ?_)
  refine WP.region ?_
  refine WL.runk 2 [3, 5, 8, 9, 10, 15, 16] [(8, .slice a0' rows_0.length c0'), (9, .int .i64 (rows_0.length : Int)), (10, .int .i64 st14.2), (5, .string (bs x35)), (15, .int .i64 (x35.length : Int)), (16, .int .i64 (wI64 (st38.2 + 1))), (3, .slice a72 x70.length c73)] (by kernel_rfl) ?_
  refine WL.nil ?_
  obtain rfl := Option.some.inj hm
  exact WQ.round hK48 ⟨(x70, (wI64 (st38.2 + 1))), _, _, rfl, hb77, hL78, (SH.take 1 hS76), hl46⟩ (Nat.lt_succ_self _) ⟨rfl, rfl, rfl, rfl, rfl, rfl, rfl, trivial⟩

theorem c_77 (n : Nat) (s_0 : List Int) (a0' : Option Addr) (c0' : Nat) (w : World) (w0 : World) (B : Nat) (L : List Asrt) {r : List Int} (hm : m_slices_Reverse_byte_byte n s_0 = some r) (_hE0 : Ext w0 w) (_hW : w0.heap.size ≤ B) (hL : B ≤ w.heap.size) (hS : SH w B (aFz 5 a0' c0' s_0 :: L)) :
    CallV Try.prog 77 #[.slice a0' s_0.length c0'] w (fun v w' => v = .tuple #[] ∧ Below B w w' ∧ SH w' B (aFz 5 a0' c0' r :: L) ∧ r.length = s_0.length) := by
  unfold m_slices_Reverse_byte_byte at hm
  refine CallV.enter Try.func77 rfl (by kernel_rfl) Try.ntmps77 (env := [(0, .slice a0' s_0.length c0')]) ⟨rfl, trivial⟩ ?_
  refine WP.seq (fun K1 hK1 => ?_)
  refine WP.region ?_
  refine WL.runk 5 [0, 2, 3] [(0, .slice a0' s_0.length c0'), (2, .int .i64 0), (3, .int .i64 (wI64 ((s_0.length : Int) - 1)))] (by kernel_rfl) ?_
  refine WL.nil ?_
  refine WQ.then_normal (hK1 _ _ _ ?_)
  refine WP.block ?_
  obtain ⟨t60, ht61, hm⟩ := bindE hm
  have hmo55 := hm; clear hm
  refine WP.sub [(0, .slice a0' s_0.length c0'), (2, .int .i64 0), (3, .int .i64 (wI64 ((s_0.length : Int) - 1)))] ⟨rfl, rfl, rfl, trivial⟩ ?_
  refine WP.loop (fun n' env' w' => ∃ (st49 : Int × Int × List Int) , env' = [(0, .slice a0' st49.2.2.length c0'), (2, .int .i64 st49.1), (3, .int .i64 st49.2.1)] ∧ Below B w w' ∧ B ≤ w'.heap.size ∧ SH w' B (aFz 5 a0' c0' st49.2.2 :: L) ∧ st49.2.2.length = s_0.length ∧ loopN (m_slices_Reverse_byte_byte_l1 n) n' st49 = some t60) n ⟨(0, (wI64 ((s_0.length : Int) - 1)), s_0), rfl, (Below.refl _ _), hL, hS, rfl, ht61⟩ ?_
  rintro n57 _ w50 ⟨st49, rfl, hb51, hL52, hS53, hn62, hl54⟩ K56 hK56
  obtain ⟨n58, s59, rfl, hm, hl54⟩ := loopN_some hl54
  unfold m_slices_Reverse_byte_byte_l1 at hm
  refine WP.seq (fun K63 hK63 => ?_)
  refine WP.seq (fun K64 hK64 => ?_)
  refine WP.region ?_
  refine WL.runk 3 [0, 2, 3, 9] [(0, .slice a0' st49.2.2.length c0'), (2, .int .i64 st49.1), (3, .int .i64 st49.2.1), (9, .bool (decide (st49.1 < st49.2.1)))] (by kernel_rfl) ?_
  refine WL.nil ?_
  refine WQ.then_normal (hK64 _ _ _ ?_)
  refine WP.cond (decide (st49.1 < st49.2.1)) rfl rfl (fun hc65 => ?_) (fun hc65 => ?_)
  rotate_left
  · have hm := iteF hm hc65
    refine WP.exit ?_
    refine WQ.then_exit ?_
    refine WQ.then_exit ?_
    refine WQ.block_here ?_
    obtain rfl := Option.some.inj hm
    obtain rfl := afterN_done hl54
    have hm := hmo55
    obtain rfl := Option.some.inj hm
    exact WQ.end0 rfl ⟨rfl, hb51, hS53, hn62⟩
  have hm := iteT hm hc65
  refine WP.skip ?_
  refine WQ.then_normal (hK63 _ _ _ ?_)
  refine WP.seq (fun K66 hK66 => ?_)
  refine WP.block ?_
  refine WP.open (n := 16) (by kernel_rfl) rfl (fun w67 hE68 => ?_)
  have hb69 : Below B w w67 := Below.trans hb51 (Below.mono hE68 hL52)
  have hL70 : B ≤ w67.heap.size := Nat.le_trans hL52 hE68.size
  have hS71 : SH w67 B (aFz 5 a0' c0' st49.2.2 :: L) := SH.ext hS53 hE68
  refine WA.pre (i := 2) (D' := [2]) [(0, .slice a0' st49.2.2.length c0'), (2, .int .i64 st49.1), (3, .int .i64 st49.2.1), (9, .bool (decide (st49.1 < st49.2.1))), (16, .slice a0' st49.2.2.length c0')] rfl (by kernel_rfl) rfl (fun _ => by kernel_rfl) rfl ?_
  refine WA.pre (i := 3) (D' := [2, 3]) [(0, .slice a0' st49.2.2.length c0'), (2, .int .i64 st49.1), (3, .int .i64 st49.2.1), (9, .bool (decide (st49.1 < st49.2.1))), (16, .slice a0' st49.2.2.length c0'), (17, .int .i64 st49.2.1)] rfl (by kernel_rfl) rfl (fun _ => by kernel_rfl) rfl ?_
  refine WA.quiet (f' := 3) (D' := [2, 3, 0, 1, 4, 5, 6, 7, 8, 9, 10, 11, 12]) [0, 1, 4, 5, 6, 7, 8, 9, 10, 11, 12] rfl rfl (by kernel_rfl) ?_
  refine QL.step1v 14 (.slice a0' st49.2.2.length c0') rfl (fun _ => by kernel_rfl) ?_
  refine QL.step1v 15 (.int .i64 st49.1) rfl (fun _ => by kernel_rfl) ?_
  refine QL.step1v 18 (.slice a0' st49.2.2.length c0') rfl (fun _ => by kernel_rfl) ?_
  refine QL.step1v 19 (.int .i64 st49.2.1) rfl (fun _ => by kernel_rfl) ?_
  refine QL.subk [0, 2, 3, 16, 17, 14, 15, 18, 19] [(0, .slice a0' st49.2.2.length c0'), (2, .int .i64 st49.1), (3, .int .i64 st49.2.1), (16, .slice a0' st49.2.2.length c0'), (17, .int .i64 st49.2.1), (14, .slice a0' st49.2.2.length c0'), (15, .int .i64 st49.1), (18, .slice a0' st49.2.2.length c0'), (19, .int .i64 st49.2.1)] (by kernel_rfl) ?_
  obtain ⟨x72, hx73, hm⟩ := bindE hm
  refine QL.st (.pointer (some (at_ a0' (Int.toNat st49.2.1 * 1)))) (ST.index (T := fU8.ty) (xs := st49.2.2) (SH.rdFz (SH.front 0 hS71)) hx73 rfl rfl rfl Try.underlying46 (info5).1 (info5).2.1) rfl rfl rfl ?_
  refine QL.st (.int .u8 x72) (ST.load (cell_ext (Rd.flat (F := fU8) (SH.rdFz (SH.front 0 hS71)) hx73 0 rfl)) rfl rfl Try.underlying5 rfl) rfl rfl rfl ?_
  refine QL.step1v 22 (.slice a0' st49.2.2.length c0') rfl (fun _ => by kernel_rfl) ?_
  refine QL.step1v 23 (.int .i64 st49.1) rfl (fun _ => by kernel_rfl) ?_
  refine QL.subk [0, 2, 3, 16, 17, 14, 15, 21, 22, 23] [(0, .slice a0' st49.2.2.length c0'), (2, .int .i64 st49.1), (3, .int .i64 st49.2.1), (16, .slice a0' st49.2.2.length c0'), (17, .int .i64 st49.2.1), (14, .slice a0' st49.2.2.length c0'), (15, .int .i64 st49.1), (21, .int .u8 x72), (22, .slice a0' st49.2.2.length c0'), (23, .int .i64 st49.1)] (by kernel_rfl) ?_
  obtain ⟨x74, hx75, hm⟩ := bindE hm
  refine QL.st (.pointer (some (at_ a0' (Int.toNat st49.1 * 1)))) (ST.index (T := fU8.ty) (xs := st49.2.2) (SH.rdFz (SH.front 0 hS71)) hx75 rfl rfl rfl Try.underlying46 (info5).1 (info5).2.1) rfl rfl rfl ?_
  refine QL.st (.int .u8 x74) (ST.load (cell_ext (Rd.flat (F := fU8) (SH.rdFz (SH.front 0 hS71)) hx75 0 rfl)) rfl rfl Try.underlying5 rfl) rfl rfl rfl ?_
  obtain ⟨x76, hx77, hm⟩ := bindE hm
  refine QL.st (.pointer (some (at_ a0' (Int.toNat st49.1 * 1)))) (ST.index (T := fU8.ty) (xs := st49.2.2) (SH.rdFz (SH.front 0 hS71)) hx77 rfl rfl rfl Try.underlying46 (info5).1 (info5).2.1) rfl rfl rfl ?_
  refine QL.subk [0, 2, 3, 16, 17, 21, 25, 26] [(0, .slice a0' st49.2.2.length c0'), (2, .int .i64 st49.1), (3, .int .i64 st49.2.1), (16, .slice a0' st49.2.2.length c0'), (17, .int .i64 st49.2.1), (21, .int .u8 x72), (25, .int .u8 x74), (26, .pointer (some (at_ a0' (Int.toNat st49.1 * 1))))] (by kernel_rfl) ?_
  refine QL.nil ?_
  intro w78 hE79
  have hb80 : Below B w w78 := Below.trans hb69 (Below.mono hE79 hL70)
  have hL81 : B ≤ w78.heap.size := Nat.le_trans hL70 hE79.size
  have hS82 : SH w78 B (aFz 5 a0' c0' st49.2.2 :: L) := SH.ext hS71 hE79
  refine WA.one (i := 13) (D' := [2, 3, 0, 1, 4, 5, 6, 7, 8, 9, 10, 11, 12, 13]) rfl rfl (by kernel_rfl) ?_
  refine WL.storeFz (SH.front 0 hS82) hL81 hx77 rfl rfl rfl (info5).1 (info5).2.1 rfl rfl rfl ?_
  intro w83 hB84 hS85
  have hb86 : Below B w w83 := Below.trans hb80 hB84
  have hL87 : B ≤ w83.heap.size := Nat.le_trans hL81 hB84.size
  refine WL.sub [(0, .slice a0' ((st49.2.2.set (Int.toNat st49.1) x72).length) c0'), (2, .int .i64 st49.1), (3, .int .i64 st49.2.1), (16, .slice a0' ((st49.2.2.set (Int.toNat st49.1) x72).length) c0'), (17, .int .i64 st49.2.1), (21, .int .u8 x72), (25, .int .u8 x74)] ⟨by first | (simp only [List.length_set]; done) | (simp only [List.length_set]; rfl), rfl, rfl, by first | (simp only [List.length_set]; done) | (simp only [List.length_set]; rfl), rfl, rfl, rfl, trivial⟩ ?_
  have hn88 : (st49.2.2.set (Int.toNat st49.1) x72).length = s_0.length := List.length_set.trans hn62
  refine WL.sub [(0, .slice a0' ((st49.2.2.set (Int.toNat st49.1) x72).length) c0'), (2, .int .i64 st49.1), (3, .int .i64 st49.2.1), (16, .slice a0' ((st49.2.2.set (Int.toNat st49.1) x72).length) c0'), (17, .int .i64 st49.2.1), (25, .int .u8 x74)] ⟨rfl, rfl, rfl, rfl, rfl, rfl, trivial⟩ ?_
  refine WL.nil ?_
  refine WA.one (i := 14) (D' := [2, 3, 0, 1, 4, 5, 6, 7, 8, 9, 10, 11, 12, 13, 14]) rfl rfl (by kernel_rfl) ?_
  obtain ⟨x89, hx90, hm⟩ := bindE hm
  refine WL.st (.pointer (some (at_ a0' (Int.toNat st49.2.1 * 1)))) (ST.index (T := fU8.ty) (xs := (st49.2.2.set (Int.toNat st49.1) x72)) (SH.rdFz (SH.front 0 hS85)) hx90 rfl rfl rfl Try.underlying46 (info5).1 (info5).2.1) rfl rfl rfl ?_
  refine WL.sub [(0, .slice a0' ((st49.2.2.set (Int.toNat st49.1) x72).length) c0'), (2, .int .i64 st49.1), (3, .int .i64 st49.2.1), (25, .int .u8 x74), (27, .pointer (some (at_ a0' (Int.toNat st49.2.1 * 1))))] ⟨rfl, rfl, rfl, rfl, rfl, trivial⟩ ?_
  refine WL.nil ?_
  refine WA.one (i := 15) (D' := [2, 3, 0, 1, 4, 5, 6, 7, 8, 9, 10, 11, 12, 13, 14, 15]) rfl rfl (by kernel_rfl) ?_
  refine WL.storeFz (SH.front 0 hS85) hL87 hx90 rfl rfl rfl (info5).1 (info5).2.1 rfl rfl rfl ?_
  intro w91 hB92 hS93
  have hb94 : Below B w w91 := Below.trans hb86 hB92
  have hL95 : B ≤ w91.heap.size := Nat.le_trans hL87 hB92.size
  refine WL.sub [(0, .slice a0' (((st49.2.2.set (Int.toNat st49.1) x72).set (Int.toNat st49.2.1) x74).length) c0'), (2, .int .i64 st49.1), (3, .int .i64 st49.2.1), (25, .int .u8 x74)] ⟨by first | (simp only [List.length_set]; done) | (simp only [List.length_set]; rfl), rfl, rfl, rfl, trivial⟩ ?_
  have hn96 : ((st49.2.2.set (Int.toNat st49.1) x72).set (Int.toNat st49.2.1) x74).length = s_0.length := List.length_set.trans hn88
  refine WL.sub [(0, .slice a0' (((st49.2.2.set (Int.toNat st49.1) x72).set (Int.toNat st49.2.1) x74).length) c0'), (2, .int .i64 st49.1), (3, .int .i64 st49.2.1)] ⟨rfl, rfl, rfl, trivial⟩ ?_
  refine WL.nil ?_
  refine WA.done (by kernel_rfl) ?_
  refine WQ.block_normal ?_
  refine WQ.then_normal (hK66 _ _ _ ?_)
  refine WP.region ?_
  refine WL.runk 6 [0, 2, 3] [(0, .slice a0' (((st49.2.2.set (Int.toNat st49.1) x72).set (Int.toNat st49.2.1) x74).length) c0'), (2, .int .i64 (wI64 (st49.1 + 1))), (3, .int .i64 (wI64 (st49.2.1 - 1)))] (by kernel_rfl) ?_
  refine WL.nil ?_
  obtain rfl := Option.some.inj hm
  exact WQ.round hK56 ⟨((wI64 (st49.1 + 1)), (wI64 (st49.2.1 - 1)), ((st49.2.2.set (Int.toNat st49.1) x72).set (Int.toNat st49.2.1) x74)), rfl, hb94, hL95, hS93, hn96, hl54⟩ (Nat.lt_succ_self _) ⟨rfl, rfl, rfl, trivial⟩

theorem c_56 (n : Nat) (rows_0 : List (List UInt8)) (a0' : Option Addr) (c0' : Nat) (w : World) {r : List (List UInt8)} (hm : m_impl_mirrorWear n rows_0 = some r) (h0 : Rd fStr.ty w a0' rows_0) (_hle0 : rows_0.length ≤ c0') :
    CallV Try.prog 56 #[.slice a0' rows_0.length c0'] w (fun v w' => ∃ (ra0 : Option Addr) (rc0 : Nat), v = .slice ra0 r.length rc0 ∧ Ext w w' ∧ SH w' w.heap.size [aOwn fStr 9 ra0 rc0 r]) := by
  unfold m_impl_mirrorWear at hm
  refine CallV.enter Try.func56 rfl (by kernel_rfl) Try.ntmps56 (env := [(0, .slice a0' rows_0.length c0')]) ⟨rfl, trivial⟩ ?_
  refine WP.seq (fun K1 hK1 => ?_)
  refine WP.region ?_
  refine WL.runk 1 [0] [(0, .slice a0' rows_0.length c0')] (by kernel_rfl) ?_
  refine WL.nil ?_
  refine WQ.then_normal (hK1 _ _ _ ?_)
  refine WP.seq (fun K2 hK2 => ?_)
  refine WP.region ?_
  refine WL.row fStr 9 ([] : List (List UInt8)) 0 #[] 7 (by kernel_rfl) rfl rfl rfl rfl rfl rfl rfl ?_
  intro a3 c4 w5 hE6 hR7
  have hb9 : Ext w w5 := Ext.trans (Ext.refl w) hE6
  have hL10 : w.heap.size ≤ w5.heap.size := Nat.le_trans (Nat.le_refl _) hE6.size
  have hS11 : SH w5 w.heap.size [aOwn fStr 9 a3 c4 ([] : List (List UInt8))] := SH.add (SH.nil _ _) hE6 (Nat.le_refl _) hR7
  refine WL.runk 1 [0, 3] [(0, .slice a0' rows_0.length c0'), (3, .slice a3 (([] : List (List UInt8)).length) c4)] (by kernel_rfl) ?_
  refine WL.nil ?_
  refine WQ.then_normal (hK2 _ _ _ ?_)
  refine WP.seq (fun K12 hK12 => ?_)
  refine WP.seq (fun K13 hK13 => ?_)
  refine WP.region ?_
  refine WL.runk 3 [3, 8, 9, 10] [(3, .slice a3 (([] : List (List UInt8)).length) c4), (8, .slice a0' rows_0.length c0'), (9, .int .i64 (rows_0.length : Int)), (10, .int .i64 0)] (by kernel_rfl) ?_
  refine WL.nil ?_
  refine WQ.then_normal (hK13 _ _ _ ?_)
  refine WP.block ?_
  obtain ⟨t28, ht29, hm⟩ := bindE hm
  have hmo23 := hm; clear hm
  refine WP.sub [(3, .slice a3 (([] : List (List UInt8)).length) c4), (8, .slice a0' rows_0.length c0'), (9, .int .i64 (rows_0.length : Int)), (10, .int .i64 0)] ⟨rfl, rfl, rfl, rfl, trivial⟩ ?_
  refine WP.loop (fun n' env' w' => ∃ (st14 : List (List UInt8) × Int) (a15 : Option Addr) (c16 : Nat), env' = [(3, .slice a15 st14.1.length c16), (8, .slice a0' rows_0.length c0'), (9, .int .i64 (rows_0.length : Int)), (10, .int .i64 st14.2)] ∧ Ext w w' ∧ w.heap.size ≤ w'.heap.size ∧ SH w' w.heap.size [aOwn fStr 9 a15 c16 st14.1] ∧ loopN (m_impl_mirrorWear_l1 n rows_0) n' st14 = some t28) n ⟨(([] : List (List UInt8)), 0), _, _, rfl, hb9, hL10, hS11, ht29⟩ ?_
  rintro n25 _ w18 ⟨st14, a15, c16, rfl, hb19, hL20, hS21, hl22⟩ K24 hK24
  obtain ⟨n26, s27, rfl, hm, hl22⟩ := loopN_some hl22
  unfold m_impl_mirrorWear_l1 at hm
  refine WP.seq (fun K30 hK30 => ?_)
  refine WP.region ?_
  refine WL.runk 1 [3, 8, 9, 10, 11] [(3, .slice a15 st14.1.length c16), (8, .slice a0' rows_0.length c0'), (9, .int .i64 (rows_0.length : Int)), (10, .int .i64 st14.2), (11, .bool (decide (st14.2 < (rows_0.length : Int))))] (by kernel_rfl) ?_
  refine WL.nil ?_
  refine WQ.then_normal (hK30 _ _ _ ?_)
  refine WP.seq (fun K31 hK31 => ?_)
  refine WP.cond (decide (st14.2 < (rows_0.length : Int))) rfl rfl (fun hc32 => ?_) (fun hc32 => ?_)
  rotate_left
  · have hm := iteF hm hc32
    refine WP.exit ?_
    refine WQ.then_exit ?_
    refine WQ.then_exit ?_
    refine WQ.block_here ?_
    obtain rfl := Option.some.inj hm
    obtain rfl := afterN_done hl22
    have hm := hmo23
    refine WQ.then_normal (hK12 _ _ _ ?_)
    refine WP.seq (fun K76 hK76 => ?_)
    refine WP.region ?_
    refine WL.runk 2 [2] [(2, .slice a15 st14.1.length c16)] (by kernel_rfl) ?_
    refine WL.nil ?_
    refine WQ.then_normal (hK76 _ _ _ ?_)
    refine WP.ret ?_
    obtain rfl := Option.some.inj hm
    exact WQ.ret1 _ rfl rfl ⟨_, _, rfl, hb19, hS21⟩
  have hm := iteT hm hc32
  refine WP.skip ?_
  refine WQ.then_normal (hK31 _ _ _ ?_)
  refine WP.seq (fun K33 hK33 => ?_)
  refine WP.block ?_
  refine WP.seq (fun K34 hK34 => ?_)
  refine WP.region ?_
  obtain ⟨x35, hx36, hm⟩ := bindE hm
  refine WL.st (.pointer (some (at_ a0' (Int.toNat st14.2 * 1)))) (ST.index (T := fStr.ty) (xs := rows_0) (Rd.below h0 hb19) hx36 rfl rfl rfl Try.underlying22 (info9).1 (info9).2.1) rfl rfl rfl ?_
  refine WL.st (.string (bs x35)) (ST.load (cell_ext (Rd.flat (F := fStr) (Rd.below h0 hb19) hx36 0 rfl)) rfl rfl Try.underlying9 rfl) rfl rfl rfl ?_
  refine WL.runk 1 [3, 5, 8, 9, 10] [(3, .slice a15 st14.1.length c16), (8, .slice a0' rows_0.length c0'), (9, .int .i64 (rows_0.length : Int)), (10, .int .i64 st14.2), (5, .string (bs x35))] (by kernel_rfl) ?_
  refine WL.nil ?_
  refine WQ.then_normal (hK34 _ _ _ ?_)
  refine WP.seq (fun K37 hK37 => ?_)
  refine WP.region ?_
  refine WL.runk 1 [3, 8, 9, 10, 14] [(3, .slice a15 st14.1.length c16), (8, .slice a0' rows_0.length c0'), (9, .int .i64 (rows_0.length : Int)), (10, .int .i64 st14.2), (14, .string (bs x35))] (by kernel_rfl) ?_
  refine WL.bytes 15 rfl rfl Try.underlying9 Try.underlying46 Try.underlying5 rfl rfl rfl rfl ?_
  intro a38 c39 w40 hE41 hR42
  have hb44 : Ext w w40 := Ext.trans hb19 hE41
  have hL45 : w.heap.size ≤ w40.heap.size := Nat.le_trans hL20 hE41.size
  have hS46 : SH w40 w.heap.size [aFz 5 a38 c39 (toBytes x35), aOwn fStr 9 a15 c16 st14.1] := SH.add hS21 hE41 hL20 hR42
  refine WL.runk 1 [3, 6, 8, 9, 10] [(3, .slice a15 st14.1.length c16), (8, .slice a0' rows_0.length c0'), (9, .int .i64 (rows_0.length : Int)), (10, .int .i64 st14.2), (6, .slice a38 ((toBytes x35).length) c39)] (by kernel_rfl) ?_
  refine WL.nil ?_
  refine WQ.then_normal (hK37 _ _ _ ?_)
  refine WP.seq (fun K47 hK47 => ?_)
  refine WP.region ?_
  refine WL.runk 1 [3, 6, 8, 9, 10, 16] [(3, .slice a15 st14.1.length c16), (8, .slice a0' rows_0.length c0'), (9, .int .i64 (rows_0.length : Int)), (10, .int .i64 st14.2), (6, .slice a38 ((toBytes x35).length) c39), (16, .slice a38 ((toBytes x35).length) c39)] (by kernel_rfl) ?_
  obtain ⟨x48, hx49, hm⟩ := bindE hm
  refine WL.call 77 #[.slice a38 ((toBytes x35).length) c39] rfl rfl (by kernel_rfl) (c_77 n (toBytes x35) a38 c39 w40 w w.heap.size [aOwn fStr 9 a15 c16 st14.1] hx49 hb44 (Nat.le_refl _) hL45  hS46) ?_
  rintro _ w50 ⟨rfl, hB54, hS53, hlen55⟩
  refine ⟨_, rfl, ?_⟩
  have hb56 : Ext w w50 := Below.trans hb44 hB54
  have hL57 : w.heap.size ≤ w50.heap.size := Nat.le_trans hL45 hB54.size
  refine WL.sub [(3, .slice a15 st14.1.length c16), (8, .slice a0' rows_0.length c0'), (9, .int .i64 (rows_0.length : Int)), (10, .int .i64 st14.2), (6, .slice a38 x48.length c39), (16, .slice a38 x48.length c39), (17, .tuple #[])] ⟨rfl, rfl, rfl, rfl, by rw [hlen55]; rfl, by rw [hlen55]; rfl, rfl, trivial⟩ ?_
  refine WL.sub [(3, .slice a15 st14.1.length c16), (8, .slice a0' rows_0.length c0'), (9, .int .i64 (rows_0.length : Int)), (10, .int .i64 st14.2), (6, .slice a38 x48.length c39)] ⟨rfl, rfl, rfl, rfl, rfl, trivial⟩ ?_
  refine WL.nil ?_
  refine WQ.then_normal (hK47 _ _ _ ?_)
  refine WP.region ?_
  refine WL.runk 2 [8, 9, 10, 18, 19] [(8, .slice a0' rows_0.length c0'), (9, .int .i64 (rows_0.length : Int)), (10, .int .i64 st14.2), (18, .slice a15 st14.1.length c16), (19, .slice a38 x48.length c39)] (by kernel_rfl) ?_
  refine WL.st (.string (bs (ofBytes x48))) (ST.b2s (SH.rdFz (SH.front 0 hS53)) (SH.leFz (SH.front 0 hS53)).2 rfl rfl Try.underlying46 Try.underlying9 Try.underlying5) rfl rfl rfl ?_
  refine WL.row fStr 9 ([(ofBytes x48)] : List (List UInt8)) 1 #[.string (bs (ofBytes x48))] 21 (by kernel_rfl) rfl rfl rfl rfl rfl rfl rfl ?_
  intro a58 c59 w60 hE61 hR62
  have hb64 : Ext w w60 := Ext.trans hb56 hE61
  have hL65 : w.heap.size ≤ w60.heap.size := Nat.le_trans hL57 hE61.size
  have hS66 : SH w60 w.heap.size [aOwn fStr 9 a58 c59 ([(ofBytes x48)] : List (List UInt8)), aFz 5 a38 c39 x48, aOwn fStr 9 a15 c16 st14.1] := SH.add hS53 hE61 hL57 hR62
  obtain ⟨x67, hx68, hm⟩ := bindE hm
  refine WL.append (F := fStr) (xs := st14.1) (ys := ([(ofBytes x48)] : List (List UInt8))) 22 (SH.front 2 hS66) hL65 (SH.rd (SH.front 0 hS66)) hx68 rfl rfl rfl Try.underlying22 (info9).1 (info9).2.2.1 (info9).2.1 (info9).2.2.2 rfl rfl rfl rfl rfl ?_
  intro a69 c70 w71 hB72 hS73
  have hb74 : Ext w w71 := Below.trans hb64 hB72
  have hL75 : w.heap.size ≤ w71.heap.size := Nat.le_trans hL65 hB72.size
  refine WL.runk 1 [3, 8, 9, 10] [(8, .slice a0' rows_0.length c0'), (9, .int .i64 (rows_0.length : Int)), (10, .int .i64 st14.2), (3, .slice a69 x67.length c70)] (by kernel_rfl) ?_
  refine WL.nil ?_
  refine WQ.block_normal ?_
  refine WQ.then_normal (hK33 _ _ _ ?_)
  refine WP.region ?_
  refine WL.runk 2 [3, 8, 9, 10] [(8, .slice a0' rows_0.length c0'), (9, .int .i64 (rows_0.length : Int)), (10, .int .i64 (wI64 (st14.2 + 1))), (3, .slice a69 x67.length c70)] (by kernel_rfl) ?_
  refine WL.nil ?_
  obtain rfl := Option.some.inj hm
  exact WQ.round hK24 ⟨(x67, (wI64 (st14.2 + 1))), _, _, rfl, hb74, hL75, (SH.take 1 hS73), hl22⟩ (Nat.lt_succ_self _) ⟨rfl, rfl, rfl, rfl, trivial⟩

theorem c_23 (n : Nat) (rows_0 : List (List UInt8)) (a0' : Option Addr) (c0' : Nat) (w : World) {r : List (List UInt8) × Int} (hm : m_impl_MirrorWear n rows_0 = some r) (h0 : Rd fStr.ty w a0' rows_0) (hle0 : rows_0.length ≤ c0') :
    CallV Try.prog 23 #[.slice a0' rows_0.length c0'] w (fun v w' => ∃ (ra0 : Option Addr) (rc0 : Nat), v = .tuple #[.slice ra0 r.1.length rc0, .int .i64 r.2] ∧ Ext w w' ∧ SH w' w.heap.size [aOwn fStr 9 ra0 rc0 r.1]) := by
  unfold m_impl_MirrorWear at hm
  refine CallV.enter Try.func23 rfl (by kernel_rfl) Try.ntmps23 (env := [(0, .slice a0' rows_0.length c0')]) ⟨rfl, trivial⟩ ?_
  refine WP.seq (fun K1 hK1 => ?_)
  refine WP.region ?_
  refine WL.runk 2 [0] [(0, .slice a0' rows_0.length c0')] (by kernel_rfl) ?_
  refine WL.nil ?_
  refine WQ.then_normal (hK1 _ _ _ ?_)
  refine WP.seq (fun K2 hK2 => ?_)
  refine WP.seq (fun K3 hK3 => ?_)
  refine WP.region ?_
  refine WL.runk 1 [0, 4] [(0, .slice a0' rows_0.length c0'), (4, .slice a0' rows_0.length c0')] (by kernel_rfl) ?_
  obtain ⟨x4, hx5, hm⟩ := bindE hm
  refine WL.call 18 #[.slice a0' rows_0.length c0'] rfl rfl (by kernel_rfl) (c_18 n rows_0 a0' c0' w hx5 (Rd.below h0 (Ext.refl w)) hle0) ?_
  rintro _ w6 ⟨rfl, hE7⟩
  refine ⟨_, rfl, ?_⟩
  have hb9 : Ext w w6 := Ext.trans (Ext.refl w) hE7
  have hL10 : w.heap.size ≤ w6.heap.size := Nat.le_trans (Nat.le_refl _) hE7.size
  have hS11 : SH w6 w.heap.size [] := SH.ext (SH.nil _ _) hE7
  refine WL.runk 1 [0, 6] [(0, .slice a0' rows_0.length c0'), (6, .bool (!x4))] (by kernel_rfl) ?_
  refine WL.nil ?_
  refine WQ.then_normal (hK3 _ _ _ ?_)
  refine WP.cond (!x4) rfl rfl (fun hc12 => ?_) (fun hc12 => ?_)
  · have hm := iteT hm hc12
    refine WP.seq (fun K13 hK13 => ?_)
    refine WP.region ?_
    refine WL.runk 2 [2, 3] [(2, .slice none 0 0), (3, .int .i64 1)] (by kernel_rfl) ?_
    refine WL.nil ?_
    refine WQ.then_normal (hK13 _ _ _ ?_)
    refine WP.ret ?_
    refine WQ.then_ret ?_
    obtain rfl := Option.some.inj hm
    have hS15 : SH w6 w.heap.size [aOwn fStr 9 none 0 ([] : List (List UInt8))] := SH.nilOwn hS11
    exact WQ.ret2 _ _ rfl rfl rfl ⟨_, _, rfl, hb9, hS15⟩
  have hm := iteF hm hc12
  refine WP.skip ?_
  refine WQ.then_normal (hK2 _ _ _ ?_)
  refine WP.seq (fun K16 hK16 => ?_)
  refine WP.region ?_
  refine WL.runk 1 [7] [(7, .slice a0' rows_0.length c0')] (by kernel_rfl) ?_
  obtain ⟨x17, hx18, hm⟩ := bindE hm
  refine WL.call 56 #[.slice a0' rows_0.length c0'] rfl rfl (by kernel_rfl) (c_56 n rows_0 a0' c0' w6 hx18 (Rd.below h0 hb9) hle0) ?_
  rintro _ w22 ⟨a19, c20, rfl, hE23, hR24⟩
  refine ⟨_, rfl, ?_⟩
  have hb25 : Ext w w22 := Ext.trans hb9 hE23
  have hL26 : w.heap.size ≤ w22.heap.size := Nat.le_trans hL10 hE23.size
  have hS27 : SH w22 w.heap.size [aOwn fStr 9 a19 c20 x17] := SH.add hS11 hE23 hL10 hR24
  refine WL.runk 2 [2, 3] [(2, .slice a19 x17.length c20), (3, .int .i64 0)] (by kernel_rfl) ?_
  refine WL.nil ?_
  refine WQ.then_normal (hK16 _ _ _ ?_)
  refine WP.ret ?_
  obtain rfl := Option.some.inj hm
  exact WQ.ret2 _ _ rfl rfl rfl ⟨_, _, rfl, hb25, hS27⟩

theorem c_60 (n : Nat) (a_0 : List (List UInt8)) (a0' : Option Addr) (c0' : Nat) (b_1 : List (List UInt8)) (a1' : Option Addr) (c1' : Nat) (w : World) {r : Int} (hm : m_impl_sameWear n a_0 b_1 = some r) (h0 : Rd fStr.ty w a0' a_0) (hle0 : a_0.length ≤ c0') (h1 : Rd fStr.ty w a1' b_1) (hle1 : b_1.length ≤ c1') :
    CallV Try.prog 60 #[.slice a0' a_0.length c0', .slice a1' b_1.length c1'] w (fun v w' => v = .int .i64 r ∧ Ext w w') := by
  unfold m_impl_sameWear at hm
  refine CallV.enter Try.func60 rfl (by kernel_rfl) Try.ntmps60 (env := [(0, .slice a0' a_0.length c0'), (1, .slice a1' b_1.length c1')]) ⟨rfl, rfl, trivial⟩ ?_
  refine WP.seq (fun K1 hK1 => ?_)
  refine WP.region ?_
  refine WL.runk 1 [0, 1] [(0, .slice a0' a_0.length c0'), (1, .slice a1' b_1.length c1')] (by kernel_rfl) ?_
  refine WL.nil ?_
  refine WQ.then_normal (hK1 _ _ _ ?_)
  refine WP.seq (fun K2 hK2 => ?_)
  refine WP.block ?_
  refine WP.seq (fun K3 hK3 => ?_)
  obtain ⟨x21, hx22, hm⟩ := bindE hm
  refine WP.cut (fun env' w' => env' = [(0, .slice a0' a_0.length c0'), (1, .slice a1' b_1.length c1'), (5, .bool x21)] ∧ Ext w w' ∧ w.heap.size ≤ w'.heap.size ∧ SH w' w.heap.size []) ?_ ?_
  · have hm := hx22; clear hx22
    refine WP.region ?_
    refine WL.runk 1 [0, 1, 6] [(0, .slice a0' a_0.length c0'), (1, .slice a1' b_1.length c1'), (6, .slice a0' a_0.length c0')] (by kernel_rfl) ?_
    obtain ⟨x23, hx24, hm⟩ := bindE hm
    refine WL.call 18 #[.slice a0' a_0.length c0'] rfl rfl (by kernel_rfl) (c_18 n a_0 a0' c0' w hx24 (Rd.below h0 (Ext.refl w)) hle0) ?_
    rintro _ w25 ⟨rfl, hE26⟩
    refine ⟨_, rfl, ?_⟩
    have hb28 : Ext w w25 := Ext.trans (Ext.refl w) hE26
    have hL29 : w.heap.size ≤ w25.heap.size := Nat.le_trans (Nat.le_refl _) hE26.size
    have hS30 : SH w25 w.heap.size [] := SH.ext (SH.nil _ _) hE26
    refine WL.runk 2 [0, 1, 9] [(0, .slice a0' a_0.length c0'), (1, .slice a1' b_1.length c1'), (9, .bool (!x23))] (by kernel_rfl) ?_
    refine WL.case (!x23) [9] ⟨rfl, trivial⟩ (fun hc31 => ?_) (fun hc31 => ?_)
    · have hm := iteT hm hc31
      refine WL.runk 5 [0, 1, 5] [(0, .slice a0' a_0.length c0'), (1, .slice a1' b_1.length c1'), (5, .bool true)] (by kernel_rfl) ?_
      refine WL.nil ?_
      obtain rfl := Option.some.inj hm
      exact WQ.post' ⟨rfl, hb28, hL29, hS30⟩ ⟨rfl, rfl, rfl, trivial⟩
    have hm := iteF hm hc31
    refine WL.runk 1 [0, 1, 9, 10] [(0, .slice a0' a_0.length c0'), (1, .slice a1' b_1.length c1'), (9, .bool false), (10, .slice a1' b_1.length c1')] (by kernel_rfl) ?_
    obtain ⟨x32, hx33, hm⟩ := bindE hm
    refine WL.call 18 #[.slice a1' b_1.length c1'] rfl rfl (by kernel_rfl) (c_18 n b_1 a1' c1' w25 hx33 (Rd.below h1 hb28) hle1) ?_
    rintro _ w34 ⟨rfl, hE35⟩
    refine ⟨_, rfl, ?_⟩
    have hb37 : Ext w w34 := Ext.trans hb28 hE35
    have hL38 : w.heap.size ≤ w34.heap.size := Nat.le_trans hL29 hE35.size
    have hS39 : SH w34 w.heap.size [] := SH.ext hS30 hE35
    refine WL.runk 3 [0, 1, 5] [(0, .slice a0' a_0.length c0'), (1, .slice a1' b_1.length c1'), (5, .bool (!x32))] (by kernel_rfl) ?_
    refine WL.nil ?_
    obtain rfl := Option.some.inj hm
    exact WQ.post' ⟨rfl, hb37, hL38, hS39⟩ ⟨rfl, rfl, rfl, trivial⟩
  clear hx22
  rintro _ w40 ⟨rfl, hb41, hL42, hS43⟩
  refine WQ.then_normal (hK3 _ _ _ ?_)
  refine WP.cond x21 rfl rfl (fun hc44 => ?_) (fun hc44 => ?_)
  · have hm := iteT hm hc44
    refine WP.seq (fun K45 hK45 => ?_)
    refine WP.region ?_
    refine WL.runk 1 [4] [(4, .int .i64 1)] (by kernel_rfl) ?_
    refine WL.nil ?_
    refine WQ.then_normal (hK45 _ _ _ ?_)
    refine WP.ret ?_
    refine WQ.block_ret ?_
    refine WQ.then_ret ?_
    obtain rfl := Option.some.inj hm
    exact WQ.ret1 _ rfl rfl ⟨rfl, hb41⟩
  have hm := iteF hm hc44
  refine WP.seq (fun K46 hK46 => ?_)
  obtain ⟨x62, hx63, hm⟩ := bindE hm
  refine WP.cut (fun env' w' => env' = [(14, .bool x62)] ∧ Ext w w' ∧ w.heap.size ≤ w'.heap.size ∧ SH w' w.heap.size []) ?_ ?_
  rotate_left
  · clear hx63
    rintro _ w79 ⟨rfl, hb80, hL81, hS82⟩
    refine WQ.then_normal (hK46 _ _ _ ?_)
    refine WP.cond x62 rfl rfl (fun hc83 => ?_) (fun hc83 => ?_)
    · have hm := iteT hm hc83
      refine WP.seq (fun K84 hK84 => ?_)
      refine WP.region ?_
      refine WL.runk 1 [4] [(4, .int .i64 9)] (by kernel_rfl) ?_
      refine WL.nil ?_
      refine WQ.then_normal (hK84 _ _ _ ?_)
      refine WP.ret ?_
      refine WQ.block_ret ?_
      refine WQ.then_ret ?_
      obtain rfl := Option.some.inj hm
      exact WQ.ret1 _ rfl rfl ⟨rfl, hb80⟩
    have hm := iteF hm hc83
    refine WP.skip ?_
    refine WQ.block_normal ?_
    refine WQ.then_normal (hK2 _ _ _ ?_)
    refine WP.seq (fun K85 hK85 => ?_)
    refine WP.region ?_
    refine WL.runk 1 [4] [(4, .int .i64 0)] (by kernel_rfl) ?_
    refine WL.nil ?_
    refine WQ.then_normal (hK85 _ _ _ ?_)
    refine WP.ret ?_
    obtain rfl := Option.some.inj hm
    exact WQ.ret1 _ rfl rfl ⟨rfl, hb80⟩
  have hm := hx63; clear hx63
  refine WP.quiet (by kernel_rfl) (by kernel_rfl) ?_
  refine QL.step1v 15 (.slice a0' a_0.length c0') rfl (fun _ => by kernel_rfl) ?_
  refine QL.step1v 16 (.int .i64 (a_0.length : Int)) rfl (fun _ => by kernel_rfl) ?_
  refine QL.step1v 17 (.slice a1' b_1.length c1') rfl (fun _ => by kernel_rfl) ?_
  refine QL.step1v 18 (.int .i64 (b_1.length : Int)) rfl (fun _ => by kernel_rfl) ?_
  refine QL.step1v 19 (.bool ((a_0.length : Int) != (b_1.length : Int))) rfl (fun _ => by kernel_rfl) ?_
  refine QL.step1v 20 (.bool ((a_0.length : Int) != (b_1.length : Int))) rfl (fun _ => by kernel_rfl) ?_
  refine QL.subk [0, 1, 20] [(0, .slice a0' a_0.length c0'), (1, .slice a1' b_1.length c1'), (20, .bool ((a_0.length : Int) != (b_1.length : Int)))] (by kernel_rfl) ?_
  refine QL.case ((a_0.length : Int) != (b_1.length : Int)) [20] ⟨rfl, trivial⟩ (fun hc64 => ?_) (fun hc64 => ?_)
  · have hm := iteT hm hc64
    refine QL.step1v 21 undef rfl (fun _ => by kernel_rfl) ?_
    refine QL.step1v 22 undef rfl (fun _ => by kernel_rfl) ?_
    refine QL.step1v 23 undef rfl (fun _ => by kernel_rfl) ?_
    refine QL.step1v 24 undef rfl (fun _ => by kernel_rfl) ?_
    refine QL.step1v 25 undef rfl (fun _ => by kernel_rfl) ?_
    refine QL.step1v 26 undef rfl (fun _ => by kernel_rfl) ?_
    refine QL.step1v 27 undef rfl (fun _ => by kernel_rfl) ?_
    refine QL.step1v 28 undef rfl (fun _ => by kernel_rfl) ?_
    refine QL.step1v 29 undef rfl (fun _ => by kernel_rfl) ?_
    refine QL.step1v 30 (.bool true) rfl (fun _ => by kernel_rfl) ?_
    refine QL.step1v 14 (.bool true) rfl (fun _ => by kernel_rfl) ?_
    refine QL.subk [14] [(14, .bool true)] (by kernel_rfl) ?_
    refine QL.nil ?_
    intro w65 hE66
    have hb67 : Ext w w65 := Ext.trans hb41 hE66
    have hL68 : w.heap.size ≤ w65.heap.size := Nat.le_trans hL42 hE66.size
    have hS69 : SH w65 w.heap.size [] := SH.ext hS43 hE66
    obtain rfl := Option.some.inj hm
    exact WQ.post' ⟨rfl, hb67, hL68, hS69⟩ ⟨rfl, trivial⟩
  have hm := iteF hm hc64
  refine QL.step1v 21 (.slice a0' a_0.length c0') rfl (fun _ => by kernel_rfl) ?_
  refine QL.subk [1, 20, 21] [(1, .slice a1' b_1.length c1'), (20, .bool false), (21, .slice a0' a_0.length c0')] (by kernel_rfl) ?_
  obtain ⟨x70, hx71, hm⟩ := bindE hm
  refine QL.st (.pointer (some (at_ a0' (Int.toNat 0 * 1)))) (ST.index (T := fStr.ty) (xs := a_0) (Rd.below h0 hb41) hx71 rfl rfl rfl Try.underlying22 (info9).1 (info9).2.1) rfl rfl rfl ?_
  refine QL.st (.string (bs x70)) (ST.load (cell_ext (Rd.flat (F := fStr) (Rd.below h0 hb41) hx71 0 rfl)) rfl rfl Try.underlying9 rfl) rfl rfl rfl ?_
  refine QL.step1v 24 (.int .i64 (x70.length : Int)) rfl (fun _ => by kernel_rfl) ?_
  refine QL.step1v 25 (.slice a1' b_1.length c1') rfl (fun _ => by kernel_rfl) ?_
  refine QL.subk [20, 24, 25] [(20, .bool false), (24, .int .i64 (x70.length : Int)), (25, .slice a1' b_1.length c1')] (by kernel_rfl) ?_
  obtain ⟨x72, hx73, hm⟩ := bindE hm
  refine QL.st (.pointer (some (at_ a1' (Int.toNat 0 * 1)))) (ST.index (T := fStr.ty) (xs := b_1) (Rd.below h1 hb41) hx73 rfl rfl rfl Try.underlying22 (info9).1 (info9).2.1) rfl rfl rfl ?_
  refine QL.st (.string (bs x72)) (ST.load (cell_ext (Rd.flat (F := fStr) (Rd.below h1 hb41) hx73 0 rfl)) rfl rfl Try.underlying9 rfl) rfl rfl rfl ?_
  refine QL.step1v 28 (.int .i64 (x72.length : Int)) rfl (fun _ => by kernel_rfl) ?_
  refine QL.step1v 29 (.bool ((x70.length : Int) != (x72.length : Int))) rfl (fun _ => by kernel_rfl) ?_
  refine QL.step1v 30 (.bool ((x70.length : Int) != (x72.length : Int))) rfl (fun _ => by kernel_rfl) ?_
  refine QL.step1v 14 (.bool ((x70.length : Int) != (x72.length : Int))) rfl (fun _ => by kernel_rfl) ?_
  refine QL.subk [14] [(14, .bool ((x70.length : Int) != (x72.length : Int)))] (by kernel_rfl) ?_
  refine QL.nil ?_
  intro w74 hE75
  have hb76 : Ext w w74 := Ext.trans hb41 hE75
  have hL77 : w.heap.size ≤ w74.heap.size := Nat.le_trans hL42 hE75.size
  have hS78 : SH w74 w.heap.size [] := SH.ext hS43 hE75
  obtain rfl := Option.some.inj hm
  exact WQ.post' ⟨rfl, hb76, hL77, hS78⟩ ⟨rfl, trivial⟩

theorem c_79 (n : Nat) (a_0 : Int) (b_1 : Int) (w : World) {r : Int} (hm : m_impl_gcd n a_0 b_1 = some r)  :
    CallV Try.prog 79 #[.int .i64 a_0, .int .i64 b_1] w (fun v w' => v = .int .i64 r ∧ Ext w w') := by
  unfold m_impl_gcd at hm
  refine CallV.enter Try.func79 rfl (by kernel_rfl) Try.ntmps79 (env := [(0, .int .i64 a_0), (1, .int .i64 b_1)]) ⟨rfl, rfl, trivial⟩ ?_
  refine WP.seq (fun K1 hK1 => ?_)
  refine WP.region ?_
  refine WL.runk 1 [0, 1] [(0, .int .i64 a_0), (1, .int .i64 b_1)] (by kernel_rfl) ?_
  refine WL.nil ?_
  refine WQ.then_normal (hK1 _ _ _ ?_)
  refine WP.seq (fun K2 hK2 => ?_)
  refine WP.block ?_
  obtain ⟨t14, ht15, hm⟩ := bindE hm
  have hmo9 := hm; clear hm
  refine WP.sub [(0, .int .i64 a_0), (1, .int .i64 b_1)] ⟨rfl, rfl, trivial⟩ ?_
  refine WP.loop (fun n' env' w' => ∃ (st3 : Int × Int) , env' = [(0, .int .i64 st3.1), (1, .int .i64 st3.2)] ∧ Ext w w' ∧ w.heap.size ≤ w'.heap.size ∧ SH w' w.heap.size [] ∧ loopN (m_impl_gcd_l1 n) n' st3 = some t14) n ⟨(a_0, b_1), rfl, (Ext.refl w), (Nat.le_refl _), (SH.nil _ _), ht15⟩ ?_
  rintro n11 _ w4 ⟨st3, rfl, hb5, hL6, hS7, hl8⟩ K10 hK10
  obtain ⟨n12, s13, rfl, hm, hl8⟩ := loopN_some hl8
  unfold m_impl_gcd_l1 at hm
  refine WP.seq (fun K16 hK16 => ?_)
  refine WP.seq (fun K17 hK17 => ?_)
  refine WP.region ?_
  refine WL.runk 2 [0, 1, 6] [(0, .int .i64 st3.1), (1, .int .i64 st3.2), (6, .bool (st3.2 != 0))] (by kernel_rfl) ?_
  refine WL.nil ?_
  refine WQ.then_normal (hK17 _ _ _ ?_)
  refine WP.cond (st3.2 != 0) rfl rfl (fun hc18 => ?_) (fun hc18 => ?_)
  rotate_left
  · have hm := iteF hm hc18
    refine WP.exit ?_
    refine WQ.then_exit ?_
    refine WQ.then_exit ?_
    refine WQ.block_here ?_
    obtain rfl := Option.some.inj hm
    obtain rfl := afterN_done hl8
    have hm := hmo9
    refine WQ.then_normal (hK2 _ _ _ ?_)
    refine WP.seq (fun K26 hK26 => ?_)
    refine WP.region ?_
    refine WL.runk 5 [4] [(4, .int .i64 (imax st3.1 (wI64 (0 - st3.1))))] (by kernel_rfl) ?_
    refine WL.nil ?_
    refine WQ.then_normal (hK26 _ _ _ ?_)
    refine WP.ret ?_
    obtain rfl := Option.some.inj hm
    exact WQ.ret1 _ rfl rfl ⟨rfl, hb5⟩
  have hm := iteT hm hc18
  refine WP.skip ?_
  refine WQ.then_normal (hK16 _ _ _ ?_)
  refine WP.block ?_
  refine WP.quiet (by kernel_rfl) (by kernel_rfl) ?_
  refine QL.step1v 7 (.int .i64 st3.2) rfl (fun _ => by kernel_rfl) ?_
  refine QL.step1v 8 (.int .i64 st3.1) rfl (fun _ => by kernel_rfl) ?_
  refine QL.step1v 9 (.int .i64 st3.2) rfl (fun _ => by kernel_rfl) ?_
  refine QL.subk [7, 8, 9] [(7, .int .i64 st3.2), (8, .int .i64 st3.1), (9, .int .i64 st3.2)] (by kernel_rfl) ?_
  obtain ⟨x19, hx20, hm⟩ := bindE hm
  refine QL.st (.int .i64 x19) (ST.rem (k := .i64) hx20 rfl rfl rfl) rfl rfl rfl ?_
  refine QL.step1v 0 (.int .i64 st3.2) rfl (fun _ => by kernel_rfl) ?_
  refine QL.step1v 1 (.int .i64 x19) rfl (fun _ => by kernel_rfl) ?_
  refine QL.subk [0, 1] [(0, .int .i64 st3.2), (1, .int .i64 x19)] (by kernel_rfl) ?_
  refine QL.nil ?_
  intro w21 hE22
  have hb23 : Ext w w21 := Ext.trans hb5 hE22
  have hL24 : w.heap.size ≤ w21.heap.size := Nat.le_trans hL6 hE22.size
  have hS25 : SH w21 w.heap.size [] := SH.ext hS7 hE22
  refine WQ.block_normal ?_
  obtain rfl := Option.some.inj hm
  exact WQ.round hK10 ⟨(st3.2, x19), rfl, hb23, hL24, hS25, hl8⟩ (Nat.lt_succ_self _) ⟨rfl, rfl, trivial⟩

theorem c_62 (n : Nat) (num_0 : Int) (den_1 : Int) (w : World) {r : SFraction} (hm : m_impl_lowest n num_0 den_1 = some r)  :
    CallV Try.prog 62 #[.int .i64 num_0, .int .i64 den_1] w (fun v w' => v = .agg #[.int .i64 r.Num, .int .i64 r.Den] ∧ Ext w w') := by
  unfold m_impl_lowest at hm
  refine CallV.enter Try.func62 rfl (by kernel_rfl) Try.ntmps62 (env := [(0, .int .i64 num_0), (1, .int .i64 den_1)]) ⟨rfl, rfl, trivial⟩ ?_
  refine WP.seq (fun K1 hK1 => ?_)
  refine WP.region ?_
  refine WL.box 34 [.int .i64 0, .int .i64 0] 4 (by kernel_rfl) rfl rfl rfl rfl ?_
  intro b2 w3 hE4 hR5
  have hb7 : Ext w w3 := Ext.trans (Ext.refl w) hE4
  have hL8 : w.heap.size ≤ w3.heap.size := Nat.le_trans (Nat.le_refl _) hE4.size
  have hS9 : SH w3 w.heap.size [aBox 34 b2 [.int .i64 0, .int .i64 0]] := SH.add (SH.nil _ _) hE4 (Nat.le_refl _) hR5
  refine WL.sub [(0, .int .i64 num_0), (1, .int .i64 den_1), (4, .pointer (some ⟨b2, 0, none⟩))] ⟨rfl, rfl, rfl, trivial⟩ ?_
  refine WL.nil ?_
  refine WQ.then_normal (hK1 _ _ _ ?_)
  refine WP.seq (fun K10 hK10 => ?_)
  refine WP.seq (fun K11 hK11 => ?_)
  refine WP.region ?_
  refine WL.runk 2 [0, 1, 4, 7] [(0, .int .i64 num_0), (1, .int .i64 den_1), (4, .pointer (some ⟨b2, 0, none⟩)), (7, .bool (decide (den_1 < 0)))] (by kernel_rfl) ?_
  refine WL.nil ?_
  refine WQ.then_normal (hK11 _ _ _ ?_)
  obtain ⟨x13, hx14, hm⟩ := bindE hm
  refine WP.cut (fun env' w' => env' = [(0, .int .i64 x13.1), (1, .int .i64 x13.2), (4, .pointer (some ⟨b2, 0, none⟩))] ∧ Ext w w' ∧ w.heap.size ≤ w'.heap.size ∧ SH w' w.heap.size [aBox 34 b2 [.int .i64 0, .int .i64 0]]) ?_ ?_
  · have hm := hx14; clear hx14
    refine WP.cond (decide (den_1 < 0)) rfl rfl (fun hc12 => ?_) (fun hc12 => ?_)
    rotate_left
    · have hm := iteF hm hc12
      refine WP.skip ?_
      obtain rfl := Option.some.inj hm
      exact WQ.post' ⟨rfl, hb7, hL8, hS9⟩ ⟨rfl, rfl, rfl, trivial⟩
    have hm := iteT hm hc12
    refine WP.region ?_
    refine WL.runk 6 [0, 1, 4] [(0, .int .i64 (wI64 (0 - num_0))), (1, .int .i64 (wI64 (0 - den_1))), (4, .pointer (some ⟨b2, 0, none⟩))] (by kernel_rfl) ?_
    refine WL.nil ?_
    obtain rfl := Option.some.inj hm
    exact WQ.post' ⟨rfl, hb7, hL8, hS9⟩ ⟨rfl, rfl, rfl, trivial⟩
  clear hx14
  rintro _ w15 ⟨rfl, hb16, hL17, hS18⟩
  refine WQ.then_normal (hK10 _ _ _ ?_)
  refine WP.seq (fun K19 hK19 => ?_)
  refine WP.region ?_
  refine WL.runk 2 [0, 1, 4, 12, 13] [(0, .int .i64 x13.1), (1, .int .i64 x13.2), (4, .pointer (some ⟨b2, 0, none⟩)), (12, .int .i64 x13.1), (13, .int .i64 x13.2)] (by kernel_rfl) ?_
  obtain ⟨x20, hx21, hm⟩ := bindE hm
  refine WL.call 79 #[.int .i64 x13.1, .int .i64 x13.2] rfl rfl (by kernel_rfl) (c_79 n x13.1 x13.2 w15 hx21 ) ?_
  rintro _ w22 ⟨rfl, hE23⟩
  refine ⟨_, rfl, ?_⟩
  have hb25 : Ext w w22 := Ext.trans hb16 hE23
  have hL26 : w.heap.size ≤ w22.heap.size := Nat.le_trans hL17 hE23.size
  have hS27 : SH w22 w.heap.size [aBox 34 b2 [.int .i64 0, .int .i64 0]] := SH.ext hS18 hE23
  refine WL.runk 1 [0, 1, 4, 5] [(0, .int .i64 x13.1), (1, .int .i64 x13.2), (4, .pointer (some ⟨b2, 0, none⟩)), (5, .int .i64 x20)] (by kernel_rfl) ?_
  refine WL.nil ?_
  refine WQ.then_normal (hK19 _ _ _ ?_)
  refine WP.seq (fun K28 hK28 => ?_)
  refine WP.open (n := 8) (by kernel_rfl) rfl (fun w29 hE30 => ?_)
  have hb31 : Ext w w29 := Ext.trans hb25 hE30
  have hL32 : w.heap.size ≤ w29.heap.size := Nat.le_trans hL26 hE30.size
  have hS33 : SH w29 w.heap.size [aBox 34 b2 [.int .i64 0, .int .i64 0]] := SH.ext hS27 hE30
  refine WA.quiet (f' := 1) (D' := [0, 1, 2, 3, 4, 5, 6]) [0, 1, 2, 3, 4, 5, 6] rfl rfl (by kernel_rfl) ?_
  refine QL.step1v 15 (.int .i64 x13.1) rfl (fun _ => by kernel_rfl) ?_
  refine QL.step1v 16 (.int .i64 x20) rfl (fun _ => by kernel_rfl) ?_
  refine QL.subk [1, 4, 5, 15, 16] [(1, .int .i64 x13.2), (4, .pointer (some ⟨b2, 0, none⟩)), (5, .int .i64 x20), (15, .int .i64 x13.1), (16, .int .i64 x20)] (by kernel_rfl) ?_
  obtain ⟨x34, hx35, hm⟩ := bindE hm
  refine QL.st (.int .i64 x34) (ST.quo (k := .i64) hx35 rfl rfl rfl) rfl rfl rfl ?_
  refine QL.step1v 18 (.int .i64 x13.2) rfl (fun _ => by kernel_rfl) ?_
  refine QL.step1v 19 (.int .i64 x20) rfl (fun _ => by kernel_rfl) ?_
  refine QL.subk [4, 17, 18, 19] [(4, .pointer (some ⟨b2, 0, none⟩)), (17, .int .i64 x34), (18, .int .i64 x13.2), (19, .int .i64 x20)] (by kernel_rfl) ?_
  obtain ⟨x36, hx37, hm⟩ := bindE hm
  refine QL.st (.int .i64 x36) (ST.quo (k := .i64) hx37 rfl rfl rfl) rfl rfl rfl ?_
  refine QL.step1v 21 (.agg #[.int .i64 x34, .int .i64 x36]) rfl (fun _ => by kernel_rfl) ?_
  refine QL.subk [4, 21] [(4, .pointer (some ⟨b2, 0, none⟩)), (21, .agg #[.int .i64 x34, .int .i64 x36])] (by kernel_rfl) ?_
  refine QL.nil ?_
  intro w38 hE39
  have hb40 : Ext w w38 := Ext.trans hb31 hE39
  have hL41 : w.heap.size ≤ w38.heap.size := Nat.le_trans hL32 hE39.size
  have hS42 : SH w38 w.heap.size [aBox 34 b2 [.int .i64 0, .int .i64 0]] := SH.ext hS33 hE39
  refine WA.one (i := 7) (D' := [0, 1, 2, 3, 4, 5, 6, 7]) rfl rfl (by kernel_rfl) ?_
  refine WL.boxStore 0 [.int .i64 x34, .int .i64 x36] [.int .i64 x34, .int .i64 x36] (SH.front 0 hS42) hL41 rfl rfl rfl rfl rfl rfl rfl (info34).1 (info34).2.1 rfl rfl rfl ?_
  intro w43 hB44 hS45
  have hb46 : Ext w w43 := Below.trans hb40 hB44
  have hL47 : w.heap.size ≤ w43.heap.size := Nat.le_trans hL41 hB44.size
  refine WL.sub [(4, .pointer (some ⟨b2, 0, none⟩))] ⟨rfl, trivial⟩ ?_
  refine WL.nil ?_
  refine WA.done (by kernel_rfl) ?_
  refine WQ.then_normal (hK28 _ _ _ ?_)
  refine WP.ret ?_
  obtain rfl := Option.some.inj hm
  exact WQ.retv1 _ rfl (RVal.box (SH.front 0 hS45) rfl Try.underlying34 rfl (info34).1 (info34).2.1) ⟨rfl, hb46⟩

theorem c_29 (n : Nat) (rows_0 : List (List UInt8)) (a0' : Option Addr) (c0' : Nat) (w : World) {r : SFraction × SFraction × Int} (hm : m_impl_CentreOfWear n rows_0 = some r) (h0 : Rd fStr.ty w a0' rows_0) (hle0 : rows_0.length ≤ c0') :
    CallV Try.prog 29 #[.slice a0' rows_0.length c0'] w (fun v w' => v = .tuple #[.agg #[.int .i64 r.1.Num, .int .i64 r.1.Den], .agg #[.int .i64 r.2.1.Num, .int .i64 r.2.1.Den], .int .i64 r.2.2] ∧ Ext w w') := by
  unfold m_impl_CentreOfWear at hm
  refine CallV.enter Try.func29 rfl (by kernel_rfl) Try.ntmps29 (env := [(0, .slice a0' rows_0.length c0')]) ⟨rfl, trivial⟩ ?_
  refine WP.seq (fun K1 hK1 => ?_)
  refine WP.region ?_
  refine WL.box 34 [.int .i64 0, .int .i64 0] 2 (by kernel_rfl) rfl rfl rfl rfl ?_
  intro b2 w3 hE4 hR5
  have hb7 : Ext w w3 := Ext.trans (Ext.refl w) hE4
  have hL8 : w.heap.size ≤ w3.heap.size := Nat.le_trans (Nat.le_refl _) hE4.size
  have hS9 : SH w3 w.heap.size [aBox 34 b2 [.int .i64 0, .int .i64 0]] := SH.add (SH.nil _ _) hE4 (Nat.le_refl _) hR5
  refine WL.box 34 [.int .i64 0, .int .i64 0] 3 (by kernel_rfl) rfl rfl rfl rfl ?_
  intro b10 w11 hE12 hR13
  have hb15 : Ext w w11 := Ext.trans hb7 hE12
  have hL16 : w.heap.size ≤ w11.heap.size := Nat.le_trans hL8 hE12.size
  have hS17 : SH w11 w.heap.size [aBox 34 b10 [.int .i64 0, .int .i64 0], aBox 34 b2 [.int .i64 0, .int .i64 0]] := SH.add hS9 hE12 hL8 hR13
  refine WL.runk 1 [0, 2, 3] [(0, .slice a0' rows_0.length c0'), (2, .pointer (some ⟨b2, 0, none⟩)), (3, .pointer (some ⟨b10, 0, none⟩))] (by kernel_rfl) ?_
  refine WL.nil ?_
  refine WQ.then_normal (hK1 _ _ _ ?_)
  refine WP.seq (fun K18 hK18 => ?_)
  refine WP.seq (fun K19 hK19 => ?_)
  refine WP.region ?_
  refine WL.runk 1 [0, 2, 3, 11] [(0, .slice a0' rows_0.length c0'), (2, .pointer (some ⟨b2, 0, none⟩)), (3, .pointer (some ⟨b10, 0, none⟩)), (11, .slice a0' rows_0.length c0')] (by kernel_rfl) ?_
  obtain ⟨x20, hx21, hm⟩ := bindE hm
  refine WL.call 18 #[.slice a0' rows_0.length c0'] rfl rfl (by kernel_rfl) (c_18 n rows_0 a0' c0' w11 hx21 (Rd.below h0 hb15) hle0) ?_
  rintro _ w22 ⟨rfl, hE23⟩
  refine ⟨_, rfl, ?_⟩
  have hb25 : Ext w w22 := Ext.trans hb15 hE23
  have hL26 : w.heap.size ≤ w22.heap.size := Nat.le_trans hL16 hE23.size
  have hS27 : SH w22 w.heap.size [aBox 34 b10 [.int .i64 0, .int .i64 0], aBox 34 b2 [.int .i64 0, .int .i64 0]] := SH.ext hS17 hE23
  refine WL.runk 1 [0, 2, 3, 13] [(0, .slice a0' rows_0.length c0'), (2, .pointer (some ⟨b2, 0, none⟩)), (3, .pointer (some ⟨b10, 0, none⟩)), (13, .bool (!x20))] (by kernel_rfl) ?_
  refine WL.nil ?_
  refine WQ.then_normal (hK19 _ _ _ ?_)
  refine WP.cond (!x20) rfl rfl (fun hc28 => ?_) (fun hc28 => ?_)
  · have hm := iteT hm hc28
    refine WP.seq (fun K29 hK29 => ?_)
    refine WP.region ?_
    refine WL.runk 2 [2, 3, 14, 15] [(2, .pointer (some ⟨b2, 0, none⟩)), (3, .pointer (some ⟨b10, 0, none⟩)), (14, .agg #[.int .i64 0, .int .i64 0]), (15, .agg #[.int .i64 0, .int .i64 0])] (by kernel_rfl) ?_
    refine WL.boxStore 0 [.int .i64 0, .int .i64 0] [.int .i64 0, .int .i64 0] (SH.front 1 hS27) hL26 rfl rfl rfl rfl rfl rfl rfl (info34).1 (info34).2.1 rfl rfl rfl ?_
    intro w30 hB31 hS32
    have hb33 : Ext w w30 := Below.trans hb25 hB31
    have hL34 : w.heap.size ≤ w30.heap.size := Nat.le_trans hL26 hB31.size
    refine WL.boxStore 0 [.int .i64 0, .int .i64 0] [.int .i64 0, .int .i64 0] (SH.front 1 hS32) hL34 rfl rfl rfl rfl rfl rfl rfl (info34).1 (info34).2.1 rfl rfl rfl ?_
    intro w35 hB36 hS37
    have hb38 : Ext w w35 := Below.trans hb33 hB36
    have hL39 : w.heap.size ≤ w35.heap.size := Nat.le_trans hL34 hB36.size
    refine WL.runk 1 [2, 3, 4] [(2, .pointer (some ⟨b2, 0, none⟩)), (3, .pointer (some ⟨b10, 0, none⟩)), (4, .int .i64 1)] (by kernel_rfl) ?_
    refine WL.nil ?_
    refine WQ.then_normal (hK29 _ _ _ ?_)
    refine WP.ret ?_
    refine WQ.then_ret ?_
    obtain rfl := Option.some.inj hm
    exact WQ.retv3 _ _ _ rfl (RVal.box (SH.front 1 hS37) rfl Try.underlying34 rfl (info34).1 (info34).2.1) (RVal.box (SH.front 0 hS37) rfl Try.underlying34 rfl (info34).1 (info34).2.1) (RVal.tmp rfl) ⟨rfl, hb38⟩
  have hm := iteF hm hc28
  refine WP.skip ?_
  refine WQ.then_normal (hK18 _ _ _ ?_)
  refine WP.seq (fun K40 hK40 => ?_)
  refine WP.region ?_
  refine WL.runk 1 [0, 2, 3, 16] [(0, .slice a0' rows_0.length c0'), (2, .pointer (some ⟨b2, 0, none⟩)), (3, .pointer (some ⟨b10, 0, none⟩)), (16, .slice a0' rows_0.length c0')] (by kernel_rfl) ?_
  obtain ⟨x41, hx42, hm⟩ := bindE hm
  refine WL.st (.pointer (some (at_ a0' (Int.toNat 0 * 1)))) (ST.index (T := fStr.ty) (xs := rows_0) (Rd.below h0 hb25) hx42 rfl rfl rfl Try.underlying22 (info9).1 (info9).2.1) rfl rfl rfl ?_
  refine WL.st (.string (bs x41)) (ST.load (cell_ext (Rd.flat (F := fStr) (Rd.below h0 hb25) hx42 0 rfl)) rfl rfl Try.underlying9 rfl) rfl rfl rfl ?_
  refine WL.runk 5 [0, 2, 3, 5, 6, 7, 8] [(0, .slice a0' rows_0.length c0'), (2, .pointer (some ⟨b2, 0, none⟩)), (3, .pointer (some ⟨b10, 0, none⟩)), (5, .int .i64 (x41.length : Int)), (6, .int .i64 0), (7, .int .i64 0), (8, .int .i64 0)] (by kernel_rfl) ?_
  refine WL.nil ?_
  refine WQ.then_normal (hK40 _ _ _ ?_)
  refine WP.seq (fun K43 hK43 => ?_)
  refine WP.seq (fun K44 hK44 => ?_)
  refine WP.region ?_
  refine WL.runk 1 [2, 3, 5, 6, 7, 8, 20] [(2, .pointer (some ⟨b2, 0, none⟩)), (3, .pointer (some ⟨b10, 0, none⟩)), (5, .int .i64 (x41.length : Int)), (6, .int .i64 0), (7, .int .i64 0), (8, .int .i64 0), (20, .slice a0' rows_0.length c0')] (by kernel_rfl) ?_
  obtain ⟨x45, hx46, hm⟩ := bindE hm
  refine WL.call 54 #[.slice a0' rows_0.length c0'] rfl rfl (by kernel_rfl) (c_54 n rows_0 a0' c0' w22 hx46 (Rd.below h0 hb25) hle0) ?_
  rintro _ w50 ⟨a47, c48, rfl, hE51, hR52⟩
  refine ⟨_, rfl, ?_⟩
  have hb53 : Ext w w50 := Ext.trans hb25 hE51
  have hL54 : w.heap.size ≤ w50.heap.size := Nat.le_trans hL26 hE51.size
  have hS55 : SH w50 w.heap.size [aOwn fInt 2 a47 c48 x45, aBox 34 b10 [.int .i64 0, .int .i64 0], aBox 34 b2 [.int .i64 0, .int .i64 0]] := SH.add hS27 hE51 hL26 hR52
  refine WL.runk 2 [2, 3, 5, 6, 7, 8, 21, 22, 23] [(2, .pointer (some ⟨b2, 0, none⟩)), (3, .pointer (some ⟨b10, 0, none⟩)), (5, .int .i64 (x41.length : Int)), (6, .int .i64 0), (7, .int .i64 0), (8, .int .i64 0), (21, .slice a47 x45.length c48), (22, .int .i64 (x45.length : Int)), (23, .int .i64 0)] (by kernel_rfl) ?_
  refine WL.nil ?_
  refine WQ.then_normal (hK44 _ _ _ ?_)
  refine WP.block ?_
  obtain ⟨t67, ht68, hm⟩ := bindE hm
  have hmo62 := hm; clear hm
  refine WP.sub [(2, .pointer (some ⟨b2, 0, none⟩)), (3, .pointer (some ⟨b10, 0, none⟩)), (5, .int .i64 (x41.length : Int)), (6, .int .i64 0), (7, .int .i64 0), (8, .int .i64 0), (21, .slice a47 x45.length c48), (22, .int .i64 (x45.length : Int)), (23, .int .i64 0)] ⟨rfl, rfl, rfl, rfl, rfl, rfl, rfl, rfl, rfl, trivial⟩ ?_
  refine WP.loop (fun n' env' w' => ∃ (st56 : Int × Int × Int × Int) , env' = [(2, .pointer (some ⟨b2, 0, none⟩)), (3, .pointer (some ⟨b10, 0, none⟩)), (5, .int .i64 (x41.length : Int)), (6, .int .i64 st56.1), (7, .int .i64 st56.2.1), (8, .int .i64 st56.2.2.1), (21, .slice a47 x45.length c48), (22, .int .i64 (x45.length : Int)), (23, .int .i64 st56.2.2.2)] ∧ Ext w w' ∧ w.heap.size ≤ w'.heap.size ∧ SH w' w.heap.size [aOwn fInt 2 a47 c48 x45, aBox 34 b10 [.int .i64 0, .int .i64 0], aBox 34 b2 [.int .i64 0, .int .i64 0]] ∧ loopN (m_impl_CentreOfWear_l1 n x41 x45) n' st56 = some t67) n ⟨(0, 0, 0, 0), rfl, hb53, hL54, hS55, ht68⟩ ?_
  rintro n64 _ w57 ⟨st56, rfl, hb58, hL59, hS60, hl61⟩ K63 hK63
  obtain ⟨n65, s66, rfl, hm, hl61⟩ := loopN_some hl61
  unfold m_impl_CentreOfWear_l1 at hm
  refine WP.seq (fun K69 hK69 => ?_)
  refine WP.region ?_
  refine WL.runk 1 [2, 3, 5, 6, 7, 8, 21, 22, 23, 24] [(2, .pointer (some ⟨b2, 0, none⟩)), (3, .pointer (some ⟨b10, 0, none⟩)), (5, .int .i64 (x41.length : Int)), (6, .int .i64 st56.1), (7, .int .i64 st56.2.1), (8, .int .i64 st56.2.2.1), (21, .slice a47 x45.length c48), (22, .int .i64 (x45.length : Int)), (23, .int .i64 st56.2.2.2), (24, .bool (decide (st56.2.2.2 < (x45.length : Int))))] (by kernel_rfl) ?_
  refine WL.nil ?_
  refine WQ.then_normal (hK69 _ _ _ ?_)
  refine WP.seq (fun K70 hK70 => ?_)
  refine WP.cond (decide (st56.2.2.2 < (x45.length : Int))) rfl rfl (fun hc71 => ?_) (fun hc71 => ?_)
  · have hm := iteT hm hc71
    refine WP.skip ?_
    refine WQ.then_normal (hK70 _ _ _ ?_)
    refine WP.seq (fun K72 hK72 => ?_)
    refine WP.block ?_
    refine WP.seq (fun K73 hK73 => ?_)
    refine WP.region ?_
    refine WL.runk 1 [2, 3, 5, 6, 7, 8, 21, 22, 23, 25] [(2, .pointer (some ⟨b2, 0, none⟩)), (3, .pointer (some ⟨b10, 0, none⟩)), (5, .int .i64 (x41.length : Int)), (6, .int .i64 st56.1), (7, .int .i64 st56.2.1), (8, .int .i64 st56.2.2.1), (21, .slice a47 x45.length c48), (22, .int .i64 (x45.length : Int)), (23, .int .i64 st56.2.2.2), (25, .int .i64 st56.2.2.2)] (by kernel_rfl) ?_
    obtain ⟨x74, hx75, hm⟩ := bindE hm
    refine WL.st (.pointer (some (at_ a47 (Int.toNat st56.2.2.2 * 1)))) (ST.index (T := fInt.ty) (xs := x45) (SH.rd (SH.front 0 hS60)) hx75 rfl rfl rfl Try.underlying40 (info2).1 (info2).2.1) rfl rfl rfl ?_
    refine WL.st (.int .i64 x74) (ST.load (cell_ext (Rd.flat (F := fInt) (SH.rd (SH.front 0 hS60)) hx75 0 rfl)) rfl rfl Try.underlying2 rfl) rfl rfl rfl ?_
    refine WL.runk 2 [2, 3, 5, 6, 7, 8, 9, 10, 21, 22, 23] [(2, .pointer (some ⟨b2, 0, none⟩)), (3, .pointer (some ⟨b10, 0, none⟩)), (5, .int .i64 (x41.length : Int)), (6, .int .i64 st56.1), (7, .int .i64 st56.2.1), (8, .int .i64 st56.2.2.1), (21, .slice a47 x45.length c48), (22, .int .i64 (x45.length : Int)), (23, .int .i64 st56.2.2.2), (9, .int .i64 st56.2.2.2), (10, .int .i64 x74)] (by kernel_rfl) ?_
    refine WL.nil ?_
    refine WQ.then_normal (hK73 _ _ _ ?_)
    refine WP.seq (fun K76 hK76 => ?_)
    refine WP.region ?_
    refine WL.runk 4 [2, 3, 5, 6, 7, 8, 9, 10, 21, 22, 23] [(2, .pointer (some ⟨b2, 0, none⟩)), (3, .pointer (some ⟨b10, 0, none⟩)), (5, .int .i64 (x41.length : Int)), (6, .int .i64 (wI64 (st56.1 + x74))), (7, .int .i64 st56.2.1), (8, .int .i64 st56.2.2.1), (21, .slice a47 x45.length c48), (22, .int .i64 (x45.length : Int)), (23, .int .i64 st56.2.2.2), (9, .int .i64 st56.2.2.2), (10, .int .i64 x74)] (by kernel_rfl) ?_
    refine WL.nil ?_
    refine WQ.then_normal (hK76 _ _ _ ?_)
    refine WP.seq (fun K77 hK77 => ?_)
    refine WP.region ?_
    refine WL.runk 4 [2, 3, 5, 6, 8, 9, 10, 21, 22, 23, 31, 32, 33, 34] [(2, .pointer (some ⟨b2, 0, none⟩)), (3, .pointer (some ⟨b10, 0, none⟩)), (5, .int .i64 (x41.length : Int)), (6, .int .i64 (wI64 (st56.1 + x74))), (8, .int .i64 st56.2.2.1), (21, .slice a47 x45.length c48), (22, .int .i64 (x45.length : Int)), (23, .int .i64 st56.2.2.2), (9, .int .i64 st56.2.2.2), (10, .int .i64 x74), (31, .int .i64 st56.2.1), (32, .int .i64 x74), (33, .int .i64 st56.2.2.2), (34, .int .i64 (x41.length : Int))] (by kernel_rfl) ?_
    obtain ⟨x78, hx79, hm⟩ := bindE hm
    refine WL.st (.int .i64 x78) (ST.quo (k := .i64) hx79 rfl rfl rfl) rfl rfl rfl ?_
    refine WL.runk 3 [2, 3, 5, 6, 7, 8, 9, 10, 21, 22, 23] [(2, .pointer (some ⟨b2, 0, none⟩)), (3, .pointer (some ⟨b10, 0, none⟩)), (5, .int .i64 (x41.length : Int)), (6, .int .i64 (wI64 (st56.1 + x74))), (8, .int .i64 st56.2.2.1), (21, .slice a47 x45.length c48), (22, .int .i64 (x45.length : Int)), (23, .int .i64 st56.2.2.2), (9, .int .i64 st56.2.2.2), (10, .int .i64 x74), (7, .int .i64 (wI64 (st56.2.1 + (wI64 (x74 * x78)))))] (by kernel_rfl) ?_
    refine WL.nil ?_
    refine WQ.then_normal (hK77 _ _ _ ?_)
    refine WP.region ?_
    refine WL.runk 4 [2, 3, 5, 6, 7, 21, 22, 23, 38, 39, 40, 41] [(2, .pointer (some ⟨b2, 0, none⟩)), (3, .pointer (some ⟨b10, 0, none⟩)), (5, .int .i64 (x41.length : Int)), (6, .int .i64 (wI64 (st56.1 + x74))), (21, .slice a47 x45.length c48), (22, .int .i64 (x45.length : Int)), (23, .int .i64 st56.2.2.2), (7, .int .i64 (wI64 (st56.2.1 + (wI64 (x74 * x78))))), (38, .int .i64 st56.2.2.1), (39, .int .i64 x74), (40, .int .i64 st56.2.2.2), (41, .int .i64 (x41.length : Int))] (by kernel_rfl) ?_
    obtain ⟨x80, hx81, hm⟩ := bindE hm
    refine WL.st (.int .i64 x80) (ST.rem (k := .i64) hx81 rfl rfl rfl) rfl rfl rfl ?_
    refine WL.runk 3 [2, 3, 5, 6, 7, 8, 21, 22, 23] [(2, .pointer (some ⟨b2, 0, none⟩)), (3, .pointer (some ⟨b10, 0, none⟩)), (5, .int .i64 (x41.length : Int)), (6, .int .i64 (wI64 (st56.1 + x74))), (21, .slice a47 x45.length c48), (22, .int .i64 (x45.length : Int)), (23, .int .i64 st56.2.2.2), (7, .int .i64 (wI64 (st56.2.1 + (wI64 (x74 * x78))))), (8, .int .i64 (wI64 (st56.2.2.1 + (wI64 (x74 * x80)))))] (by kernel_rfl) ?_
    refine WL.nil ?_
    refine WQ.block_normal ?_
    refine WQ.then_normal (hK72 _ _ _ ?_)
    refine WP.region ?_
    refine WL.runk 2 [2, 3, 5, 6, 7, 8, 21, 22, 23] [(2, .pointer (some ⟨b2, 0, none⟩)), (3, .pointer (some ⟨b10, 0, none⟩)), (5, .int .i64 (x41.length : Int)), (6, .int .i64 (wI64 (st56.1 + x74))), (21, .slice a47 x45.length c48), (22, .int .i64 (x45.length : Int)), (23, .int .i64 (wI64 (st56.2.2.2 + 1))), (7, .int .i64 (wI64 (st56.2.1 + (wI64 (x74 * x78))))), (8, .int .i64 (wI64 (st56.2.2.1 + (wI64 (x74 * x80)))))] (by kernel_rfl) ?_
    refine WL.nil ?_
    obtain rfl := Option.some.inj hm
    exact WQ.round hK63 ⟨((wI64 (st56.1 + x74)), (wI64 (st56.2.1 + (wI64 (x74 * x78)))), (wI64 (st56.2.2.1 + (wI64 (x74 * x80)))), (wI64 (st56.2.2.2 + 1))), rfl, hb58, hL59, hS60, hl61⟩ (Nat.lt_succ_self _) ⟨rfl, rfl, rfl, rfl, rfl, rfl, rfl, rfl, rfl, trivial⟩
  have hm := iteF hm hc71
  refine WP.exit ?_
  refine WQ.then_exit ?_
  refine WQ.then_exit ?_
  refine WQ.block_here ?_
  obtain rfl := Option.some.inj hm
  obtain rfl := afterN_done hl61
  have hm := hmo62
  refine WQ.then_normal (hK43 _ _ _ ?_)
  refine WP.seq (fun K82 hK82 => ?_)
  refine WP.seq (fun K83 hK83 => ?_)
  refine WP.region ?_
  refine WL.runk 2 [2, 3, 6, 7, 8, 47] [(2, .pointer (some ⟨b2, 0, none⟩)), (3, .pointer (some ⟨b10, 0, none⟩)), (6, .int .i64 st56.1), (7, .int .i64 st56.2.1), (8, .int .i64 st56.2.2.1), (47, .bool (st56.1 == 0))] (by kernel_rfl) ?_
  refine WL.nil ?_
  refine WQ.then_normal (hK83 _ _ _ ?_)
  refine WP.cond (st56.1 == 0) rfl rfl (fun hc84 => ?_) (fun hc84 => ?_)
  · have hm := iteT hm hc84
    refine WP.seq (fun K85 hK85 => ?_)
    refine WP.region ?_
    refine WL.runk 2 [2, 3, 48, 49] [(2, .pointer (some ⟨b2, 0, none⟩)), (3, .pointer (some ⟨b10, 0, none⟩)), (48, .agg #[.int .i64 0, .int .i64 0]), (49, .agg #[.int .i64 0, .int .i64 0])] (by kernel_rfl) ?_
    refine WL.boxStore 0 [.int .i64 0, .int .i64 0] [.int .i64 0, .int .i64 0] (SH.front 2 hS60) hL59 rfl rfl rfl rfl rfl rfl rfl (info34).1 (info34).2.1 rfl rfl rfl ?_
    intro w86 hB87 hS88
    have hb89 : Ext w w86 := Below.trans hb58 hB87
    have hL90 : w.heap.size ≤ w86.heap.size := Nat.le_trans hL59 hB87.size
    refine WL.boxStore 0 [.int .i64 0, .int .i64 0] [.int .i64 0, .int .i64 0] (SH.front 2 hS88) hL90 rfl rfl rfl rfl rfl rfl rfl (info34).1 (info34).2.1 rfl rfl rfl ?_
    intro w91 hB92 hS93
    have hb94 : Ext w w91 := Below.trans hb89 hB92
    have hL95 : w.heap.size ≤ w91.heap.size := Nat.le_trans hL90 hB92.size
    refine WL.runk 1 [2, 3, 4] [(2, .pointer (some ⟨b2, 0, none⟩)), (3, .pointer (some ⟨b10, 0, none⟩)), (4, .int .i64 3)] (by kernel_rfl) ?_
    refine WL.nil ?_
    refine WQ.then_normal (hK85 _ _ _ ?_)
    refine WP.ret ?_
    refine WQ.then_ret ?_
    obtain rfl := Option.some.inj hm
    exact WQ.retv3 _ _ _ rfl (RVal.box (SH.front 1 hS93) rfl Try.underlying34 rfl (info34).1 (info34).2.1) (RVal.box (SH.front 0 hS93) rfl Try.underlying34 rfl (info34).1 (info34).2.1) (RVal.tmp rfl) ⟨rfl, hb94⟩
  have hm := iteF hm hc84
  refine WP.skip ?_
  refine WQ.then_normal (hK82 _ _ _ ?_)
  refine WP.seq (fun K96 hK96 => ?_)
  refine WP.region ?_
  refine WL.runk 2 [2, 3, 6, 8, 50, 51] [(2, .pointer (some ⟨b2, 0, none⟩)), (3, .pointer (some ⟨b10, 0, none⟩)), (6, .int .i64 st56.1), (8, .int .i64 st56.2.2.1), (50, .int .i64 st56.2.1), (51, .int .i64 st56.1)] (by kernel_rfl) ?_
  obtain ⟨x97, hx98, hm⟩ := bindE hm
  refine WL.call 62 #[.int .i64 st56.2.1, .int .i64 st56.1] rfl rfl (by kernel_rfl) (c_62 n st56.2.1 st56.1 w57 hx98 ) ?_
  rintro _ w99 ⟨rfl, hE100⟩
  refine ⟨_, rfl, ?_⟩
  have hb102 : Ext w w99 := Ext.trans hb58 hE100
  have hL103 : w.heap.size ≤ w99.heap.size := Nat.le_trans hL59 hE100.size
  have hS104 : SH w99 w.heap.size [aOwn fInt 2 a47 c48 x45, aBox 34 b10 [.int .i64 0, .int .i64 0], aBox 34 b2 [.int .i64 0, .int .i64 0]] := SH.ext hS60 hE100
  refine WL.runk 2 [2, 3, 52, 53, 54] [(2, .pointer (some ⟨b2, 0, none⟩)), (3, .pointer (some ⟨b10, 0, none⟩)), (52, .agg #[.int .i64 x97.Num, .int .i64 x97.Den]), (53, .int .i64 st56.2.2.1), (54, .int .i64 st56.1)] (by kernel_rfl) ?_
  obtain ⟨x105, hx106, hm⟩ := bindE hm
  refine WL.call 62 #[.int .i64 st56.2.2.1, .int .i64 st56.1] rfl rfl (by kernel_rfl) (c_62 n st56.2.2.1 st56.1 w99 hx106 ) ?_
  rintro _ w107 ⟨rfl, hE108⟩
  refine ⟨_, rfl, ?_⟩
  have hb110 : Ext w w107 := Ext.trans hb102 hE108
  have hL111 : w.heap.size ≤ w107.heap.size := Nat.le_trans hL103 hE108.size
  have hS112 : SH w107 w.heap.size [aOwn fInt 2 a47 c48 x45, aBox 34 b10 [.int .i64 0, .int .i64 0], aBox 34 b2 [.int .i64 0, .int .i64 0]] := SH.ext hS104 hE108
  refine WL.boxStore 0 [.int .i64 x97.Num, .int .i64 x97.Den] [.int .i64 x97.Num, .int .i64 x97.Den] (SH.front 2 hS112) hL111 rfl rfl rfl rfl rfl rfl rfl (info34).1 (info34).2.1 rfl rfl rfl ?_
  intro w113 hB114 hS115
  have hb116 : Ext w w113 := Below.trans hb110 hB114
  have hL117 : w.heap.size ≤ w113.heap.size := Nat.le_trans hL111 hB114.size
  refine WL.boxStore 0 [.int .i64 x105.Num, .int .i64 x105.Den] [.int .i64 x105.Num, .int .i64 x105.Den] (SH.front 2 hS115) hL117 rfl rfl rfl rfl rfl rfl rfl (info34).1 (info34).2.1 rfl rfl rfl ?_
  intro w118 hB119 hS120
  have hb121 : Ext w w118 := Below.trans hb116 hB119
  have hL122 : w.heap.size ≤ w118.heap.size := Nat.le_trans hL117 hB119.size
  refine WL.runk 1 [2, 3, 4] [(2, .pointer (some ⟨b2, 0, none⟩)), (3, .pointer (some ⟨b10, 0, none⟩)), (4, .int .i64 0)] (by kernel_rfl) ?_
  refine WL.nil ?_
  refine WQ.then_normal (hK96 _ _ _ ?_)
  refine WP.ret ?_
  obtain rfl := Option.some.inj hm
  exact WQ.retv3 _ _ _ rfl (RVal.box (SH.front 1 hS120) rfl Try.underlying34 rfl (info34).1 (info34).2.1) (RVal.box (SH.front 0 hS120) rfl Try.underlying34 rfl (info34).1 (info34).2.1) (RVal.tmp rfl) ⟨rfl, hb121⟩

theorem c_81 (n : Nat) (place_0 : Int) (count_1 : Int) (w : World) {r : Int} (hm : m_impl_half n place_0 count_1 = some r)  :
    CallV Try.prog 81 #[.int .i64 place_0, .int .i64 count_1] w (fun v w' => v = .int .i64 r ∧ Ext w w') := by
  unfold m_impl_half at hm
  refine CallV.enter Try.func81 rfl (by kernel_rfl) Try.ntmps81 (env := [(0, .int .i64 place_0), (1, .int .i64 count_1)]) ⟨rfl, rfl, trivial⟩ ?_
  refine WP.seq (fun K1 hK1 => ?_)
  refine WP.region ?_
  refine WL.runk 1 [0, 1] [(0, .int .i64 place_0), (1, .int .i64 count_1)] (by kernel_rfl) ?_
  refine WL.nil ?_
  refine WQ.then_normal (hK1 _ _ _ ?_)
  refine WP.seq (fun K2 hK2 => ?_)
  refine WP.block ?_
  refine WP.seq (fun K3 hK3 => ?_)
  refine WP.region ?_
  refine WL.runk 5 [0, 1, 5] [(0, .int .i64 place_0), (1, .int .i64 count_1), (5, .bool (decide (place_0 < (wI64 (Int.tdiv count_1 2)))))] (by kernel_rfl) ?_
  refine WL.nil ?_
  refine WQ.then_normal (hK3 _ _ _ ?_)
  refine WP.cond (decide (place_0 < (wI64 (Int.tdiv count_1 2)))) rfl rfl (fun hc4 => ?_) (fun hc4 => ?_)
  · have hm := iteT hm hc4
    refine WP.seq (fun K5 hK5 => ?_)
    refine WP.region ?_
    refine WL.runk 1 [4] [(4, .int .i64 0)] (by kernel_rfl) ?_
    refine WL.nil ?_
    refine WQ.then_normal (hK5 _ _ _ ?_)
    refine WP.ret ?_
    refine WQ.block_ret ?_
    refine WQ.then_ret ?_
    obtain rfl := Option.some.inj hm
    exact WQ.ret1 _ rfl rfl ⟨rfl, (Ext.refl w)⟩
  have hm := iteF hm hc4
  refine WP.seq (fun K6 hK6 => ?_)
  refine WP.region ?_
  refine WL.runk 7 [10] [(10, .bool (decide (place_0 ≥ (wI64 (count_1 - (wI64 (Int.tdiv count_1 2)))))))] (by kernel_rfl) ?_
  refine WL.nil ?_
  refine WQ.then_normal (hK6 _ _ _ ?_)
  refine WP.cond (decide (place_0 ≥ (wI64 (count_1 - (wI64 (Int.tdiv count_1 2)))))) rfl rfl (fun hc7 => ?_) (fun hc7 => ?_)
  · have hm := iteT hm hc7
    refine WP.seq (fun K8 hK8 => ?_)
    refine WP.region ?_
    refine WL.runk 1 [4] [(4, .int .i64 1)] (by kernel_rfl) ?_
    refine WL.nil ?_
    refine WQ.then_normal (hK8 _ _ _ ?_)
    refine WP.ret ?_
    refine WQ.block_ret ?_
    refine WQ.then_ret ?_
    obtain rfl := Option.some.inj hm
    exact WQ.ret1 _ rfl rfl ⟨rfl, (Ext.refl w)⟩
  have hm := iteF hm hc7
  refine WP.skip ?_
  refine WQ.block_normal ?_
  refine WQ.then_normal (hK2 _ _ _ ?_)
  refine WP.seq (fun K9 hK9 => ?_)
  refine WP.region ?_
  refine WL.runk 1 [4] [(4, .int .i64 (-1))] (by kernel_rfl) ?_
  refine WL.nil ?_
  refine WQ.then_normal (hK9 _ _ _ ?_)
  refine WP.ret ?_
  obtain rfl := Option.some.inj hm
  exact WQ.ret1 _ rfl rfl ⟨rfl, (Ext.refl w)⟩

theorem c_65 (n : Nat) (rows_0 : List (List UInt8)) (a0' : Option Addr) (c0' : Nat) (w : World) {r : List Int} (hm : m_impl_quarterSums n rows_0 = some r) (h0 : Rd fStr.ty w a0' rows_0) (hle0 : rows_0.length ≤ c0') :
    CallV Try.prog 65 #[.slice a0' rows_0.length c0'] w (fun v w' => ∃ (ra0 : Option Addr) (rc0 : Nat), v = .slice ra0 r.length rc0 ∧ Ext w w' ∧ SH w' w.heap.size [aOwn fInt 2 ra0 rc0 r]) := by
  unfold m_impl_quarterSums at hm
  refine CallV.enter Try.func65 rfl (by kernel_rfl) Try.ntmps65 (env := [(0, .slice a0' rows_0.length c0')]) ⟨rfl, trivial⟩ ?_
  refine WP.seq (fun K1 hK1 => ?_)
  refine WP.region ?_
  refine WL.runk 1 [0] [(0, .slice a0' rows_0.length c0')] (by kernel_rfl) ?_
  refine WL.nil ?_
  refine WQ.then_normal (hK1 _ _ _ ?_)
  refine WP.seq (fun K2 hK2 => ?_)
  refine WP.open (n := 7) (by kernel_rfl) rfl (fun w3 hE4 => ?_)
  have hb5 : Ext w w3 := Ext.trans (Ext.refl w) hE4
  have hL6 : w.heap.size ≤ w3.heap.size := Nat.le_trans (Nat.le_refl _) hE4.size
  have hS7 : SH w3 w.heap.size [] := SH.ext (SH.nil _ _) hE4
  obtain ⟨x13, hx14, hm⟩ := bindE hm
  refine WA.float (Φ := fun v w' => ∃ (a15 : Option Addr) (c16 : Nat), v = .slice a15 x13.length c16 ∧ SH w' w3.heap.size [aOwn fInt 2 a15 c16 x13]) (f := 0) (f' := 2) (D1 := [1, 2, 3, 4]) (D' := [1, 2, 3, 4, 0]) [1, 2, 3, 4] [5] (fun _ _ _ ⟨a15, c16, e, h⟩ hE => ⟨a15, c16, e, SH.ext h hE⟩) rfl rfl rfl rfl (by kernel_rfl) ?_
  refine QL.step1v 10 (.slice a0' rows_0.length c0') rfl (fun _ => by kernel_rfl) ?_
  refine QL.subk [0, 10] [(0, .slice a0' rows_0.length c0'), (10, .slice a0' rows_0.length c0')] (by kernel_rfl) ?_
  obtain ⟨x25, hx26, hm⟩ := bindE hm
  refine QL.st (.pointer (some (at_ a0' (Int.toNat 0 * 1)))) (ST.index (T := fStr.ty) (xs := rows_0) (Rd.below h0 hb5) hx26 rfl rfl rfl Try.underlying22 (info9).1 (info9).2.1) rfl rfl rfl ?_
  refine QL.st (.string (bs x25)) (ST.load (cell_ext (Rd.flat (F := fStr) (Rd.below h0 hb5) hx26 0 rfl)) rfl rfl Try.underlying9 rfl) rfl rfl rfl ?_
  refine QL.step1v 13 (.int .i64 (x25.length : Int)) rfl (fun _ => by kernel_rfl) ?_
  refine QL.subk [0, 13] [(0, .slice a0' rows_0.length c0'), (13, .int .i64 (x25.length : Int))] (by kernel_rfl) ?_
  refine QL.nil ?_
  intro w27 hE28
  refine QF.make (f' := 1) (hs := [1, 2, 3, 4]) (D' := [1, 2, 3, 4, 0]) (ex := [5]) (pre := [0]) (D'' := [1, 2, 3, 4, 0, 5]) 9 (fun w8 hE9 => ?_) (fun v29 => ⟨[(0, .slice a0' rows_0.length c0'), (13, .int .i64 (x25.length : Int)), (9, v29), (3, v29)], (runP_cons [(0, .slice a0' rows_0.length c0'), (13, .int .i64 (x25.length : Int)), (9, v29), (3, v29)] rfl (fun _ => by kernel_rfl) rfl runP_nil), fun w30 hE31 hR32 => ?_⟩) rfl rfl rfl rfl rfl (by kernel_rfl)
  · have hb10 : Ext w w8 := Ext.trans hb5 hE9
    have hL11 : w.heap.size ≤ w8.heap.size := Nat.le_trans hL6 hE9.size
    have hS12 : SH w8 w.heap.size [] := SH.ext hS7 hE9
    refine WL.make fInt 9 hx14 rfl rfl rfl Try.underlying40 (info2).1 (info2).2.2.1 (info2).2.1 (info2).2.2.2 rfl rfl rfl rfl rfl ?_
    intro a15 c16 w17 hE18 hR19
    have hb21 : Ext w w17 := Ext.trans hb10 hE18
    have hL22 : w.heap.size ≤ w17.heap.size := Nat.le_trans hL11 hE18.size
    have hS23 : SH w17 w.heap.size [aOwn fInt 2 a15 c16 x13] := SH.add hS12 hE18 hL11 hR19
    have hx24 := hE18
    refine WL.nil ?_
    exact QΦ.intro (v := .slice a15 x13.length c16) rfl hx24 ⟨a15, c16, rfl, SH.low hR19 hE9.size⟩
  · obtain ⟨a15, c16, rfl, hR32⟩ := hR32
    have hb33 : Ext w w30 := Ext.trans hb5 hE31
    have hL34 : w.heap.size ≤ w30.heap.size := Nat.le_trans hL6 hE31.size
    have hS35 : SH w30 w.heap.size [aOwn fInt 2 a15 c16 x13] := SH.add hS7 hE31 hL6 hR32
    refine WA.one (i := 6) (D' := [1, 2, 3, 4, 0, 5, 6]) rfl rfl (by kernel_rfl) ?_
    refine WL.runk 1 [0, 3, 4] [(0, .slice a0' rows_0.length c0'), (3, .slice a15 x13.length c16), (4, .int .i64 (x25.length : Int))] (by kernel_rfl) ?_
    refine WL.nil ?_
    refine WA.done (by kernel_rfl) ?_
    refine WQ.then_normal (hK2 _ _ _ ?_)
    refine WP.seq (fun K36 hK36 => ?_)
    refine WP.seq (fun K37 hK37 => ?_)
    refine WP.region ?_
    refine WL.runk 1 [0, 3, 4, 14] [(0, .slice a0' rows_0.length c0'), (3, .slice a15 x13.length c16), (4, .int .i64 (x25.length : Int)), (14, .slice a0' rows_0.length c0')] (by kernel_rfl) ?_
    obtain ⟨x38, hx39, hm⟩ := bindE hm
    refine WL.call 54 #[.slice a0' rows_0.length c0'] rfl rfl (by kernel_rfl) (c_54 n rows_0 a0' c0' w30 hx39 (Rd.below h0 hb33) hle0) ?_
    rintro _ w43 ⟨a40, c41, rfl, hE44, hR45⟩
    refine ⟨_, rfl, ?_⟩
    have hb46 : Ext w w43 := Ext.trans hb33 hE44
    have hL47 : w.heap.size ≤ w43.heap.size := Nat.le_trans hL34 hE44.size
    have hS48 : SH w43 w.heap.size [aOwn fInt 2 a40 c41 x38, aOwn fInt 2 a15 c16 x13] := SH.add hS35 hE44 hL34 hR45
    refine WL.runk 2 [0, 3, 4, 15, 16, 17] [(0, .slice a0' rows_0.length c0'), (3, .slice a15 x13.length c16), (4, .int .i64 (x25.length : Int)), (15, .slice a40 x38.length c41), (16, .int .i64 (x38.length : Int)), (17, .int .i64 0)] (by kernel_rfl) ?_
    refine WL.nil ?_
    refine WQ.then_normal (hK37 _ _ _ ?_)
    refine WP.block ?_
    obtain ⟨t153, ht154, hm⟩ := bindE hm
    have hmo148 := hm; clear hm
    refine WP.sub [(0, .slice a0' rows_0.length c0'), (3, .slice a15 x13.length c16), (4, .int .i64 (x25.length : Int)), (15, .slice a40 x38.length c41), (16, .int .i64 (x38.length : Int)), (17, .int .i64 0)] ⟨rfl, rfl, rfl, rfl, rfl, rfl, trivial⟩ ?_
    refine WP.loop (fun n' env' w' => ∃ (st142 : Int × List Int) , env' = [(0, .slice a0' rows_0.length c0'), (3, .slice a15 st142.2.length c16), (4, .int .i64 (x25.length : Int)), (15, .slice a40 x38.length c41), (16, .int .i64 (x38.length : Int)), (17, .int .i64 st142.1)] ∧ Ext w w' ∧ w.heap.size ≤ w'.heap.size ∧ SH w' w.heap.size [aOwn fInt 2 a40 c41 x38, aOwn fInt 2 a15 c16 st142.2] ∧ loopN (m_impl_quarterSums_l1 n rows_0 x25 x38) n' st142 = some t153) n ⟨(0, x13), rfl, hb46, hL47, hS48, ht154⟩ ?_
    rintro n150 _ w143 ⟨st142, rfl, hb144, hL145, hS146, hl147⟩ K149 hK149
    obtain ⟨n151, s152, rfl, hm, hl147⟩ := loopN_some hl147
    unfold m_impl_quarterSums_l1 at hm
    refine WP.seq (fun K155 hK155 => ?_)
    refine WP.region ?_
    refine WL.runk 1 [0, 3, 4, 15, 16, 17, 18] [(0, .slice a0' rows_0.length c0'), (3, .slice a15 st142.2.length c16), (4, .int .i64 (x25.length : Int)), (15, .slice a40 x38.length c41), (16, .int .i64 (x38.length : Int)), (17, .int .i64 st142.1), (18, .bool (decide (st142.1 < (x38.length : Int))))] (by kernel_rfl) ?_
    refine WL.nil ?_
    refine WQ.then_normal (hK155 _ _ _ ?_)
    refine WP.seq (fun K156 hK156 => ?_)
    refine WP.cond (decide (st142.1 < (x38.length : Int))) rfl rfl (fun hc157 => ?_) (fun hc157 => ?_)
    rotate_left
    · have hm := iteF hm hc157
      refine WP.exit ?_
      refine WQ.then_exit ?_
      refine WQ.then_exit ?_
      refine WQ.block_here ?_
      obtain rfl := Option.some.inj hm
      obtain rfl := afterN_done hl147
      have hm := hmo148
      refine WQ.then_normal (hK36 _ _ _ ?_)
      refine WP.seq (fun K234 hK234 => ?_)
      refine WP.region ?_
      refine WL.runk 2 [2] [(2, .slice a15 st142.2.length c16)] (by kernel_rfl) ?_
      refine WL.nil ?_
      refine WQ.then_normal (hK234 _ _ _ ?_)
      refine WP.ret ?_
      obtain rfl := Option.some.inj hm
      exact WQ.ret1 _ rfl rfl ⟨_, _, rfl, hb144, (SH.take 1 (SH.front 1 hS146))⟩
    have hm := iteT hm hc157
    refine WP.skip ?_
    refine WQ.then_normal (hK156 _ _ _ ?_)
    refine WP.seq (fun K158 hK158 => ?_)
    refine WP.block ?_
    refine WP.seq (fun K159 hK159 => ?_)
    refine WP.region ?_
    refine WL.runk 1 [0, 3, 4, 15, 16, 17, 19] [(0, .slice a0' rows_0.length c0'), (3, .slice a15 st142.2.length c16), (4, .int .i64 (x25.length : Int)), (15, .slice a40 x38.length c41), (16, .int .i64 (x38.length : Int)), (17, .int .i64 st142.1), (19, .int .i64 st142.1)] (by kernel_rfl) ?_
    obtain ⟨x160, hx161, hm⟩ := bindE hm
    refine WL.st (.pointer (some (at_ a40 (Int.toNat st142.1 * 1)))) (ST.index (T := fInt.ty) (xs := x38) (SH.rd (SH.front 0 hS146)) hx161 rfl rfl rfl Try.underlying40 (info2).1 (info2).2.1) rfl rfl rfl ?_
    refine WL.st (.int .i64 x160) (ST.load (cell_ext (Rd.flat (F := fInt) (SH.rd (SH.front 0 hS146)) hx161 0 rfl)) rfl rfl Try.underlying2 rfl) rfl rfl rfl ?_
    refine WL.runk 2 [0, 3, 4, 5, 6, 15, 16, 17] [(0, .slice a0' rows_0.length c0'), (3, .slice a15 st142.2.length c16), (4, .int .i64 (x25.length : Int)), (15, .slice a40 x38.length c41), (16, .int .i64 (x38.length : Int)), (17, .int .i64 st142.1), (5, .int .i64 st142.1), (6, .int .i64 x160)] (by kernel_rfl) ?_
    refine WL.nil ?_
    refine WQ.then_normal (hK159 _ _ _ ?_)
    refine WP.seq (fun K162 hK162 => ?_)
    refine WP.quiet (by kernel_rfl) (by kernel_rfl) ?_
    refine QL.step1v 22 (.int .i64 st142.1) rfl (fun _ => by kernel_rfl) ?_
    refine QL.step1v 23 (.int .i64 (x25.length : Int)) rfl (fun _ => by kernel_rfl) ?_
    refine QL.subk [0, 3, 4, 15, 16, 17, 5, 6, 22, 23] [(0, .slice a0' rows_0.length c0'), (3, .slice a15 st142.2.length c16), (4, .int .i64 (x25.length : Int)), (15, .slice a40 x38.length c41), (16, .int .i64 (x38.length : Int)), (17, .int .i64 st142.1), (5, .int .i64 st142.1), (6, .int .i64 x160), (22, .int .i64 st142.1), (23, .int .i64 (x25.length : Int))] (by kernel_rfl) ?_
    obtain ⟨x163, hx164, hm⟩ := bindE hm
    refine QL.st (.int .i64 x163) (ST.quo (k := .i64) hx164 rfl rfl rfl) rfl rfl rfl ?_
    refine QL.step1v 25 (.slice a0' rows_0.length c0') rfl (fun _ => by kernel_rfl) ?_
    refine QL.step1v 26 (.int .i64 (rows_0.length : Int)) rfl (fun _ => by kernel_rfl) ?_
    refine QL.subk [0, 3, 4, 15, 16, 17, 5, 6, 24, 26] [(0, .slice a0' rows_0.length c0'), (3, .slice a15 st142.2.length c16), (4, .int .i64 (x25.length : Int)), (15, .slice a40 x38.length c41), (16, .int .i64 (x38.length : Int)), (17, .int .i64 st142.1), (5, .int .i64 st142.1), (6, .int .i64 x160), (24, .int .i64 x163), (26, .int .i64 (rows_0.length : Int))] (by kernel_rfl) ?_
    obtain ⟨x165, hx166, hm⟩ := bindE hm
    refine QL.call 81 #[.int .i64 x163, .int .i64 (rows_0.length : Int)] (.int .i64 x165) (fun _ => by kernel_rfl) (fun w167 hE168 => c_81 n x163 (rows_0.length : Int) w167 hx166 ) rfl rfl rfl ?_
    refine QL.step1v 28 (.int .i64 st142.1) rfl (fun _ => by kernel_rfl) ?_
    refine QL.step1v 29 (.int .i64 (x25.length : Int)) rfl (fun _ => by kernel_rfl) ?_
    refine QL.subk [0, 3, 4, 15, 16, 17, 6, 27, 28, 29] [(0, .slice a0' rows_0.length c0'), (3, .slice a15 st142.2.length c16), (4, .int .i64 (x25.length : Int)), (15, .slice a40 x38.length c41), (16, .int .i64 (x38.length : Int)), (17, .int .i64 st142.1), (6, .int .i64 x160), (27, .int .i64 x165), (28, .int .i64 st142.1), (29, .int .i64 (x25.length : Int))] (by kernel_rfl) ?_
    obtain ⟨x169, hx170, hm⟩ := bindE hm
    refine QL.st (.int .i64 x169) (ST.rem (k := .i64) hx170 rfl rfl rfl) rfl rfl rfl ?_
    refine QL.step1v 31 (.int .i64 (x25.length : Int)) rfl (fun _ => by kernel_rfl) ?_
    refine QL.subk [0, 3, 4, 15, 16, 17, 6, 27, 30, 31] [(0, .slice a0' rows_0.length c0'), (3, .slice a15 st142.2.length c16), (4, .int .i64 (x25.length : Int)), (15, .slice a40 x38.length c41), (16, .int .i64 (x38.length : Int)), (17, .int .i64 st142.1), (6, .int .i64 x160), (27, .int .i64 x165), (30, .int .i64 x169), (31, .int .i64 (x25.length : Int))] (by kernel_rfl) ?_
    obtain ⟨x171, hx172, hm⟩ := bindE hm
    refine QL.call 81 #[.int .i64 x169, .int .i64 (x25.length : Int)] (.int .i64 x171) (fun _ => by kernel_rfl) (fun w173 hE174 => c_81 n x169 (x25.length : Int) w173 hx172 ) rfl rfl rfl ?_
    refine QL.step1v 7 (.int .i64 x165) rfl (fun _ => by kernel_rfl) ?_
    refine QL.step1v 8 (.int .i64 x171) rfl (fun _ => by kernel_rfl) ?_
    refine QL.subk [0, 3, 4, 15, 16, 17, 6, 7, 8] [(0, .slice a0' rows_0.length c0'), (3, .slice a15 st142.2.length c16), (4, .int .i64 (x25.length : Int)), (15, .slice a40 x38.length c41), (16, .int .i64 (x38.length : Int)), (17, .int .i64 st142.1), (6, .int .i64 x160), (7, .int .i64 x165), (8, .int .i64 x171)] (by kernel_rfl) ?_
    refine QL.nil ?_
    intro w175 hE176
    have hb177 : Ext w w175 := Ext.trans hb144 hE176
    have hL178 : w.heap.size ≤ w175.heap.size := Nat.le_trans hL145 hE176.size
    have hS179 : SH w175 w.heap.size [aOwn fInt 2 a40 c41 x38, aOwn fInt 2 a15 c16 st142.2] := SH.ext hS146 hE176
    refine WQ.then_normal (hK162 _ _ _ ?_)
    refine WP.seq (fun K180 hK180 => ?_)
    obtain ⟨x182, hx183, hm⟩ := bindE hm
    refine WP.cut (fun env' w' => env' = [(0, .slice a0' rows_0.length c0'), (3, .slice a15 st142.2.length c16), (4, .int .i64 (x25.length : Int)), (15, .slice a40 x38.length c41), (16, .int .i64 (x38.length : Int)), (17, .int .i64 st142.1), (6, .int .i64 x160), (7, .int .i64 x165), (8, .int .i64 x171), (38, .bool x182)] ∧ Ext w w' ∧ w.heap.size ≤ w'.heap.size ∧ SH w' w.heap.size [aOwn fInt 2 a40 c41 x38, aOwn fInt 2 a15 c16 st142.2]) ?_ ?_
    · have hm := hx183; clear hx183
      refine WP.region ?_
      refine WL.runk 3 [0, 3, 4, 6, 7, 8, 15, 16, 17, 35] [(0, .slice a0' rows_0.length c0'), (3, .slice a15 st142.2.length c16), (4, .int .i64 (x25.length : Int)), (15, .slice a40 x38.length c41), (16, .int .i64 (x38.length : Int)), (17, .int .i64 st142.1), (6, .int .i64 x160), (7, .int .i64 x165), (8, .int .i64 x171), (35, .bool (decide (x165 ≥ 0)))] (by kernel_rfl) ?_
      refine WL.case (decide (x165 ≥ 0)) [35] ⟨rfl, trivial⟩ (fun hc184 => ?_) (fun hc184 => ?_)
      · have hm := iteT hm hc184
        refine WL.runk 3 [0, 3, 4, 6, 7, 8, 15, 16, 17, 38] [(0, .slice a0' rows_0.length c0'), (3, .slice a15 st142.2.length c16), (4, .int .i64 (x25.length : Int)), (15, .slice a40 x38.length c41), (16, .int .i64 (x38.length : Int)), (17, .int .i64 st142.1), (6, .int .i64 x160), (7, .int .i64 x165), (8, .int .i64 x171), (38, .bool (decide (x171 ≥ 0)))] (by kernel_rfl) ?_
        refine WL.nil ?_
        obtain rfl := Option.some.inj hm
        exact WQ.post' ⟨rfl, hb177, hL178, hS179⟩ ⟨rfl, rfl, rfl, rfl, rfl, rfl, rfl, rfl, rfl, rfl, trivial⟩
      have hm := iteF hm hc184
      refine WL.runk 3 [0, 3, 4, 6, 7, 8, 15, 16, 17, 38] [(0, .slice a0' rows_0.length c0'), (3, .slice a15 st142.2.length c16), (4, .int .i64 (x25.length : Int)), (15, .slice a40 x38.length c41), (16, .int .i64 (x38.length : Int)), (17, .int .i64 st142.1), (6, .int .i64 x160), (7, .int .i64 x165), (8, .int .i64 x171), (38, .bool false)] (by kernel_rfl) ?_
      refine WL.nil ?_
      obtain rfl := Option.some.inj hm
      exact WQ.post' ⟨rfl, hb177, hL178, hS179⟩ ⟨rfl, rfl, rfl, rfl, rfl, rfl, rfl, rfl, rfl, rfl, trivial⟩
    clear hx183
    rintro _ w185 ⟨rfl, hb186, hL187, hS188⟩
    refine WQ.then_normal (hK180 _ _ _ ?_)
    obtain ⟨x219, hx220, hm⟩ := bindE hm
    refine WP.cut (fun env' w' => env' = [(0, .slice a0' rows_0.length c0'), (3, .slice a15 x219.length c16), (4, .int .i64 (x25.length : Int)), (15, .slice a40 x38.length c41), (16, .int .i64 (x38.length : Int)), (17, .int .i64 st142.1)] ∧ Ext w w' ∧ w.heap.size ≤ w'.heap.size ∧ SH w' w.heap.size [aOwn fInt 2 a40 c41 x38, aOwn fInt 2 a15 c16 x219]) ?_ ?_
    rotate_left
    · clear hx220
      rintro _ w230 ⟨rfl, hb231, hL232, hS233⟩
      refine WQ.block_normal ?_
      refine WQ.then_normal (hK158 _ _ _ ?_)
      refine WP.region ?_
      refine WL.runk 2 [0, 3, 4, 15, 16, 17] [(0, .slice a0' rows_0.length c0'), (3, .slice a15 x219.length c16), (4, .int .i64 (x25.length : Int)), (15, .slice a40 x38.length c41), (16, .int .i64 (x38.length : Int)), (17, .int .i64 (wI64 (st142.1 + 1)))] (by kernel_rfl) ?_
      refine WL.nil ?_
      obtain rfl := Option.some.inj hm
      exact WQ.round hK149 ⟨((wI64 (st142.1 + 1)), x219), rfl, hb231, hL232, hS233, hl147⟩ (Nat.lt_succ_self _) ⟨rfl, rfl, rfl, rfl, rfl, rfl, trivial⟩
    have hm := hx220; clear hx220
    refine WP.cond x182 rfl rfl (fun hc189 => ?_) (fun hc189 => ?_)
    rotate_left
    · have hm := iteF hm hc189
      refine WP.skip ?_
      obtain rfl := Option.some.inj hm
      exact WQ.post' ⟨rfl, hb186, hL187, hS188⟩ ⟨rfl, rfl, rfl, rfl, rfl, rfl, trivial⟩
    have hm := iteT hm hc189
    refine WP.region ?_
    refine WL.runk 5 [0, 3, 4, 6, 15, 16, 17, 39, 43] [(0, .slice a0' rows_0.length c0'), (3, .slice a15 st142.2.length c16), (4, .int .i64 (x25.length : Int)), (15, .slice a40 x38.length c41), (16, .int .i64 (x38.length : Int)), (17, .int .i64 st142.1), (6, .int .i64 x160), (39, .slice a15 st142.2.length c16), (43, .int .i64 (wI64 ((wI64 (2 * x165)) + x171)))] (by kernel_rfl) ?_
    obtain ⟨x221, hx222, hm⟩ := bindE hm
    refine WL.st (.pointer (some (at_ a15 (Int.toNat (wI64 ((wI64 (2 * x165)) + x171)) * 1)))) (ST.index (T := fInt.ty) (xs := st142.2) (SH.rd (SH.front 1 hS188)) hx222 rfl rfl rfl Try.underlying40 (info2).1 (info2).2.1) rfl rfl rfl ?_
    refine WL.st (.int .i64 x221) (ST.load (cell_ext (Rd.flat (F := fInt) (SH.rd (SH.front 1 hS188)) hx222 0 rfl)) rfl rfl Try.underlying2 rfl) rfl rfl rfl ?_
    refine WL.runk 2 [0, 3, 4, 15, 16, 17, 39, 43, 47] [(0, .slice a0' rows_0.length c0'), (3, .slice a15 st142.2.length c16), (4, .int .i64 (x25.length : Int)), (15, .slice a40 x38.length c41), (16, .int .i64 (x38.length : Int)), (17, .int .i64 st142.1), (39, .slice a15 st142.2.length c16), (43, .int .i64 (wI64 ((wI64 (2 * x165)) + x171))), (47, .int .i64 (wI64 (x221 + x160)))] (by kernel_rfl) ?_
    obtain ⟨x223, hx224, hm⟩ := bindE hm
    refine WL.st (.pointer (some (at_ a15 (Int.toNat (wI64 ((wI64 (2 * x165)) + x171)) * 1)))) (ST.index (T := fInt.ty) (xs := st142.2) (SH.rd (SH.front 1 hS188)) hx224 rfl rfl rfl Try.underlying40 (info2).1 (info2).2.1) rfl rfl rfl ?_
    refine WL.store (F := fInt) (wI64 (x221 + x160)) 0 [.int .i64 (wI64 (x221 + x160))] (SH.front 1 hS188) hL187 hx224 rfl rfl rfl rfl rfl rfl rfl (info2).1 (info2).2.1 rfl rfl rfl ?_
    intro w225 hB226 hS227
    have hb228 : Ext w w225 := Below.trans hb186 hB226
    have hL229 : w.heap.size ≤ w225.heap.size := Nat.le_trans hL187 hB226.size
    refine WL.sub [(0, .slice a0' rows_0.length c0'), (3, .slice a15 ((st142.2.set (Int.toNat (wI64 ((wI64 (2 * x165)) + x171))) (wI64 (x221 + x160))).length) c16), (4, .int .i64 (x25.length : Int)), (15, .slice a40 x38.length c41), (16, .int .i64 (x38.length : Int)), (17, .int .i64 st142.1), (39, .slice a15 ((st142.2.set (Int.toNat (wI64 ((wI64 (2 * x165)) + x171))) (wI64 (x221 + x160))).length) c16), (43, .int .i64 (wI64 ((wI64 (2 * x165)) + x171))), (47, .int .i64 (wI64 (x221 + x160)))] ⟨rfl, by first | (simp only [List.length_set]; done) | (simp only [List.length_set]; rfl), rfl, rfl, rfl, rfl, by first | (simp only [List.length_set]; done) | (simp only [List.length_set]; rfl), rfl, rfl, trivial⟩ ?_
    refine WL.sub [(0, .slice a0' rows_0.length c0'), (3, .slice a15 ((st142.2.set (Int.toNat (wI64 ((wI64 (2 * x165)) + x171))) (wI64 (x221 + x160))).length) c16), (4, .int .i64 (x25.length : Int)), (15, .slice a40 x38.length c41), (16, .int .i64 (x38.length : Int)), (17, .int .i64 st142.1)] ⟨rfl, rfl, rfl, rfl, rfl, rfl, trivial⟩ ?_
    refine WL.nil ?_
    obtain rfl := Option.some.inj hm
    exact WQ.post' ⟨rfl, hb228, hL229, (SH.front 1 hS227)⟩ ⟨rfl, rfl, rfl, rfl, rfl, rfl, trivial⟩

theorem c_66 (n : Nat) (list_0 : List Int) (a0' : Option Addr) (c0' : Nat) (w : World) {r : Int} (hm : m_impl_sumOf n list_0 = some r) (h0 : Rd fInt.ty w a0' list_0) (_hle0 : list_0.length ≤ c0') :
    CallV Try.prog 66 #[.slice a0' list_0.length c0'] w (fun v w' => v = .int .i64 r ∧ Ext w w') := by
  unfold m_impl_sumOf at hm
  refine CallV.enter Try.func66 rfl (by kernel_rfl) Try.ntmps66 (env := [(0, .slice a0' list_0.length c0')]) ⟨rfl, trivial⟩ ?_
  refine WP.seq (fun K1 hK1 => ?_)
  refine WP.region ?_
  refine WL.runk 1 [0] [(0, .slice a0' list_0.length c0')] (by kernel_rfl) ?_
  refine WL.nil ?_
  refine WQ.then_normal (hK1 _ _ _ ?_)
  refine WP.seq (fun K2 hK2 => ?_)
  refine WP.region ?_
  refine WL.runk 1 [0, 3] [(0, .slice a0' list_0.length c0'), (3, .int .i64 0)] (by kernel_rfl) ?_
  refine WL.nil ?_
  refine WQ.then_normal (hK2 _ _ _ ?_)
  refine WP.seq (fun K3 hK3 => ?_)
  refine WP.seq (fun K4 hK4 => ?_)
  refine WP.region ?_
  refine WL.runk 3 [3, 6, 7, 8] [(3, .int .i64 0), (6, .slice a0' list_0.length c0'), (7, .int .i64 (list_0.length : Int)), (8, .int .i64 0)] (by kernel_rfl) ?_
  refine WL.nil ?_
  refine WQ.then_normal (hK4 _ _ _ ?_)
  refine WP.block ?_
  obtain ⟨t16, ht17, hm⟩ := bindE hm
  have hmo11 := hm; clear hm
  refine WP.sub [(3, .int .i64 0), (6, .slice a0' list_0.length c0'), (7, .int .i64 (list_0.length : Int)), (8, .int .i64 0)] ⟨rfl, rfl, rfl, rfl, trivial⟩ ?_
  refine WP.loop (fun n' env' w' => ∃ (st5 : Int × Int) , env' = [(3, .int .i64 st5.1), (6, .slice a0' list_0.length c0'), (7, .int .i64 (list_0.length : Int)), (8, .int .i64 st5.2)] ∧ Ext w w' ∧ w.heap.size ≤ w'.heap.size ∧ SH w' w.heap.size [] ∧ loopN (m_impl_sumOf_l1 n list_0) n' st5 = some t16) n ⟨(0, 0), rfl, (Ext.refl w), (Nat.le_refl _), (SH.nil _ _), ht17⟩ ?_
  rintro n13 _ w6 ⟨st5, rfl, hb7, hL8, hS9, hl10⟩ K12 hK12
  obtain ⟨n14, s15, rfl, hm, hl10⟩ := loopN_some hl10
  unfold m_impl_sumOf_l1 at hm
  refine WP.seq (fun K18 hK18 => ?_)
  refine WP.region ?_
  refine WL.runk 1 [3, 6, 7, 8, 9] [(3, .int .i64 st5.1), (6, .slice a0' list_0.length c0'), (7, .int .i64 (list_0.length : Int)), (8, .int .i64 st5.2), (9, .bool (decide (st5.2 < (list_0.length : Int))))] (by kernel_rfl) ?_
  refine WL.nil ?_
  refine WQ.then_normal (hK18 _ _ _ ?_)
  refine WP.seq (fun K19 hK19 => ?_)
  refine WP.cond (decide (st5.2 < (list_0.length : Int))) rfl rfl (fun hc20 => ?_) (fun hc20 => ?_)
  rotate_left
  · have hm := iteF hm hc20
    refine WP.exit ?_
    refine WQ.then_exit ?_
    refine WQ.then_exit ?_
    refine WQ.block_here ?_
    obtain rfl := Option.some.inj hm
    obtain rfl := afterN_done hl10
    have hm := hmo11
    refine WQ.then_normal (hK3 _ _ _ ?_)
    refine WP.seq (fun K25 hK25 => ?_)
    refine WP.region ?_
    refine WL.runk 2 [2] [(2, .int .i64 st5.1)] (by kernel_rfl) ?_
    refine WL.nil ?_
    refine WQ.then_normal (hK25 _ _ _ ?_)
    refine WP.ret ?_
    obtain rfl := Option.some.inj hm
    exact WQ.ret1 _ rfl rfl ⟨rfl, hb7⟩
  have hm := iteT hm hc20
  refine WP.skip ?_
  refine WQ.then_normal (hK19 _ _ _ ?_)
  refine WP.seq (fun K21 hK21 => ?_)
  refine WP.block ?_
  refine WP.seq (fun K22 hK22 => ?_)
  refine WP.region ?_
  obtain ⟨x23, hx24, hm⟩ := bindE hm
  refine WL.st (.pointer (some (at_ a0' (Int.toNat st5.2 * 1)))) (ST.index (T := fInt.ty) (xs := list_0) (Rd.below h0 hb7) hx24 rfl rfl rfl Try.underlying40 (info2).1 (info2).2.1) rfl rfl rfl ?_
  refine WL.st (.int .i64 x23) (ST.load (cell_ext (Rd.flat (F := fInt) (Rd.below h0 hb7) hx24 0 rfl)) rfl rfl Try.underlying2 rfl) rfl rfl rfl ?_
  refine WL.runk 1 [3, 5, 6, 7, 8] [(3, .int .i64 st5.1), (6, .slice a0' list_0.length c0'), (7, .int .i64 (list_0.length : Int)), (8, .int .i64 st5.2), (5, .int .i64 x23)] (by kernel_rfl) ?_
  refine WL.nil ?_
  refine WQ.then_normal (hK22 _ _ _ ?_)
  refine WP.region ?_
  refine WL.runk 4 [3, 6, 7, 8] [(3, .int .i64 (wI64 (st5.1 + x23))), (6, .slice a0' list_0.length c0'), (7, .int .i64 (list_0.length : Int)), (8, .int .i64 st5.2)] (by kernel_rfl) ?_
  refine WL.nil ?_
  refine WQ.block_normal ?_
  refine WQ.then_normal (hK21 _ _ _ ?_)
  refine WP.region ?_
  refine WL.runk 2 [3, 6, 7, 8] [(3, .int .i64 (wI64 (st5.1 + x23))), (6, .slice a0' list_0.length c0'), (7, .int .i64 (list_0.length : Int)), (8, .int .i64 (wI64 (st5.2 + 1)))] (by kernel_rfl) ?_
  refine WL.nil ?_
  obtain rfl := Option.some.inj hm
  exact WQ.round hK12 ⟨((wI64 (st5.1 + x23)), (wI64 (st5.2 + 1))), rfl, hb7, hL8, hS9, hl10⟩ (Nat.lt_succ_self _) ⟨rfl, rfl, rfl, rfl, trivial⟩

theorem c_32 (n : Nat) (rows_0 : List (List UInt8)) (a0' : Option Addr) (c0' : Nat) (w : World) {r : List UInt8 × Int} (hm : m_impl_DiagnoseWear n rows_0 = some r) (h0 : Rd fStr.ty w a0' rows_0) (hle0 : rows_0.length ≤ c0') :
    CallV Try.prog 32 #[.slice a0' rows_0.length c0'] w (fun v w' => v = .tuple #[.string (bs r.1), .int .i64 r.2] ∧ Ext w w') := by
  unfold m_impl_DiagnoseWear at hm
  refine CallV.enter Try.func32 rfl (by kernel_rfl) Try.ntmps32 (env := [(0, .slice a0' rows_0.length c0')]) ⟨rfl, trivial⟩ ?_
  refine WP.seq (fun K1 hK1 => ?_)
  refine WP.region ?_
  refine WL.runk 2 [0] [(0, .slice a0' rows_0.length c0')] (by kernel_rfl) ?_
  refine WL.nil ?_
  refine WQ.then_normal (hK1 _ _ _ ?_)
  refine WP.seq (fun K2 hK2 => ?_)
  refine WP.seq (fun K3 hK3 => ?_)
  refine WP.region ?_
  refine WL.runk 1 [0, 7] [(0, .slice a0' rows_0.length c0'), (7, .slice a0' rows_0.length c0')] (by kernel_rfl) ?_
  obtain ⟨x4, hx5, hm⟩ := bindE hm
  refine WL.call 18 #[.slice a0' rows_0.length c0'] rfl rfl (by kernel_rfl) (c_18 n rows_0 a0' c0' w hx5 (Rd.below h0 (Ext.refl w)) hle0) ?_
  rintro _ w6 ⟨rfl, hE7⟩
  refine ⟨_, rfl, ?_⟩
  have hb9 : Ext w w6 := Ext.trans (Ext.refl w) hE7
  have hL10 : w.heap.size ≤ w6.heap.size := Nat.le_trans (Nat.le_refl _) hE7.size
  have hS11 : SH w6 w.heap.size [] := SH.ext (SH.nil _ _) hE7
  refine WL.runk 1 [0, 9] [(0, .slice a0' rows_0.length c0'), (9, .bool (!x4))] (by kernel_rfl) ?_
  refine WL.nil ?_
  refine WQ.then_normal (hK3 _ _ _ ?_)
  refine WP.cond (!x4) rfl rfl (fun hc12 => ?_) (fun hc12 => ?_)
  · have hm := iteT hm hc12
    refine WP.seq (fun K13 hK13 => ?_)
    refine WP.region ?_
    refine WL.runk 2 [2, 3] [(2, .string (bs [])), (3, .int .i64 1)] (by kernel_rfl) ?_
    refine WL.nil ?_
    refine WQ.then_normal (hK13 _ _ _ ?_)
    refine WP.ret ?_
    refine WQ.then_ret ?_
    obtain rfl := Option.some.inj hm
    exact WQ.ret2 _ _ rfl rfl rfl ⟨rfl, hb9⟩
  have hm := iteF hm hc12
  refine WP.skip ?_
  refine WQ.then_normal (hK2 _ _ _ ?_)
  refine WP.seq (fun K14 hK14 => ?_)
  refine WP.region ?_
  refine WL.runk 1 [10] [(10, .slice a0' rows_0.length c0')] (by kernel_rfl) ?_
  obtain ⟨x15, hx16, hm⟩ := bindE hm
  refine WL.call 65 #[.slice a0' rows_0.length c0'] rfl rfl (by kernel_rfl) (c_65 n rows_0 a0' c0' w6 hx16 (Rd.below h0 hb9) hle0) ?_
  rintro _ w20 ⟨a17, c18, rfl, hE21, hR22⟩
  refine ⟨_, rfl, ?_⟩
  have hb23 : Ext w w20 := Ext.trans hb9 hE21
  have hL24 : w.heap.size ≤ w20.heap.size := Nat.le_trans hL10 hE21.size
  have hS25 : SH w20 w.heap.size [aOwn fInt 2 a17 c18 x15] := SH.add hS11 hE21 hL10 hR22
  refine WL.runk 1 [4] [(4, .slice a17 x15.length c18)] (by kernel_rfl) ?_
  refine WL.nil ?_
  refine WQ.then_normal (hK14 _ _ _ ?_)
  refine WP.seq (fun K26 hK26 => ?_)
  refine WP.seq (fun K27 hK27 => ?_)
  refine WP.region ?_
  refine WL.runk 2 [4, 12, 13] [(4, .slice a17 x15.length c18), (12, .agg #[.string (bs [105, 110, 110, 101, 114, 45, 116, 111, 101]), .string (bs [111, 117, 116, 101, 114, 45, 116, 111, 101]), .string (bs [105, 110, 110, 101, 114, 45, 104, 101, 101, 108]), .string (bs [111, 117, 116, 101, 114, 45, 104, 101, 101, 108])]), (13, .int .i64 0)] (by kernel_rfl) ?_
  refine WL.nil ?_
  refine WQ.then_normal (hK27 _ _ _ ?_)
  refine WP.block ?_
  obtain ⟨t39, ht40, hm⟩ := bindE hm
  have hmo34 := hm; clear hm
  refine WP.sub [(4, .slice a17 x15.length c18), (12, .agg #[.string (bs [105, 110, 110, 101, 114, 45, 116, 111, 101]), .string (bs [111, 117, 116, 101, 114, 45, 116, 111, 101]), .string (bs [105, 110, 110, 101, 114, 45, 104, 101, 101, 108]), .string (bs [111, 117, 116, 101, 114, 45, 104, 101, 101, 108])]), (13, .int .i64 0)] ⟨rfl, rfl, rfl, trivial⟩ ?_
  refine WP.loop (fun n' env' w' => ∃ (st28 : Int) , env' = [(4, .slice a17 x15.length c18), (12, .agg #[.string (bs [105, 110, 110, 101, 114, 45, 116, 111, 101]), .string (bs [111, 117, 116, 101, 114, 45, 116, 111, 101]), .string (bs [105, 110, 110, 101, 114, 45, 104, 101, 101, 108]), .string (bs [111, 117, 116, 101, 114, 45, 104, 101, 101, 108])]), (13, .int .i64 st28)] ∧ Ext w w' ∧ w.heap.size ≤ w'.heap.size ∧ SH w' w.heap.size [aOwn fInt 2 a17 c18 x15] ∧ loopN (m_impl_DiagnoseWear_l1 n x15) n' st28 = some t39) n ⟨0, rfl, hb23, hL24, hS25, ht40⟩ ?_
  rintro n36 _ w29 ⟨st28, rfl, hb30, hL31, hS32, hl33⟩ K35 hK35
  obtain ⟨n37, s38, rfl, hm, hl33⟩ := loopN_some hl33
  unfold m_impl_DiagnoseWear_l1 at hm
  refine WP.seq (fun K41 hK41 => ?_)
  refine WP.region ?_
  refine WL.runk 1 [4, 12, 13, 14] [(4, .slice a17 x15.length c18), (12, .agg #[.string (bs [105, 110, 110, 101, 114, 45, 116, 111, 101]), .string (bs [111, 117, 116, 101, 114, 45, 116, 111, 101]), .string (bs [105, 110, 110, 101, 114, 45, 104, 101, 101, 108]), .string (bs [111, 117, 116, 101, 114, 45, 104, 101, 101, 108])]), (13, .int .i64 st28), (14, .bool (decide (st28 < 4)))] (by kernel_rfl) ?_
  refine WL.nil ?_
  refine WQ.then_normal (hK41 _ _ _ ?_)
  refine WP.seq (fun K42 hK42 => ?_)
  refine WP.cond (decide (st28 < 4)) rfl rfl (fun hc43 => ?_) (fun hc43 => ?_)
  rotate_left
  · have hm := iteF hm hc43
    refine WP.exit ?_
    refine WQ.then_exit ?_
    refine WQ.then_exit ?_
    refine WQ.block_here ?_
    obtain rfl := Option.some.inj hm
    obtain rfl := afterN_done hl33
    have hm := hmo34
    refine WQ.then_normal (hK26 _ _ _ ?_)
    refine WP.seq (fun K62 hK62 => ?_)
    refine WP.region ?_
    refine WL.runk 2 [2, 3] [(2, .string (bs [101, 118, 101, 110])), (3, .int .i64 0)] (by kernel_rfl) ?_
    refine WL.nil ?_
    refine WQ.then_normal (hK62 _ _ _ ?_)
    refine WP.ret ?_
    obtain rfl := Option.some.inj hm
    exact WQ.ret2 _ _ rfl rfl rfl ⟨rfl, hb30⟩
  have hm := iteT hm hc43
  refine WP.skip ?_
  refine WQ.then_normal (hK42 _ _ _ ?_)
  refine WP.seq (fun K44 hK44 => ?_)
  refine WP.block ?_
  refine WP.seq (fun K45 hK45 => ?_)
  refine WP.region ?_
  refine WL.runk 1 [4, 12, 13, 15] [(4, .slice a17 x15.length c18), (12, .agg #[.string (bs [105, 110, 110, 101, 114, 45, 116, 111, 101]), .string (bs [111, 117, 116, 101, 114, 45, 116, 111, 101]), .string (bs [105, 110, 110, 101, 114, 45, 104, 101, 101, 108]), .string (bs [111, 117, 116, 101, 114, 45, 104, 101, 101, 108])]), (13, .int .i64 st28), (15, .int .i64 st28)] (by kernel_rfl) ?_
  obtain ⟨x46, hx47, hm⟩ := bindE hm
  refine WL.st (.string (bs x46)) (ST.aindex (F := fStr) (xs := ([[105, 110, 110, 101, 114, 45, 116, 111, 101], [111, 117, 116, 101, 114, 45, 116, 111, 101], [105, 110, 110, 101, 114, 45, 104, 101, 101, 108], [111, 117, 116, 101, 114, 45, 104, 101, 101, 108]] : List (List UInt8))) rfl hx47 rfl rfl rfl Try.underlying63 rfl Try.underlying9 rfl (info9).1 (info9).2.1 _ rfl) rfl rfl rfl ?_
  refine WL.runk 2 [4, 5, 6, 12, 13] [(4, .slice a17 x15.length c18), (12, .agg #[.string (bs [105, 110, 110, 101, 114, 45, 116, 111, 101]), .string (bs [111, 117, 116, 101, 114, 45, 116, 111, 101]), .string (bs [105, 110, 110, 101, 114, 45, 104, 101, 101, 108]), .string (bs [111, 117, 116, 101, 114, 45, 104, 101, 101, 108])]), (13, .int .i64 st28), (5, .int .i64 st28), (6, .string (bs x46))] (by kernel_rfl) ?_
  refine WL.nil ?_
  refine WQ.then_normal (hK45 _ _ _ ?_)
  refine WP.seq (fun K48 hK48 => ?_)
  refine WP.quiet (by kernel_rfl) (by kernel_rfl) ?_
  refine QL.step1v 17 (.slice a17 x15.length c18) rfl (fun _ => by kernel_rfl) ?_
  refine QL.step1v 18 (.int .i64 st28) rfl (fun _ => by kernel_rfl) ?_
  refine QL.subk [4, 12, 13, 6, 17, 18] [(4, .slice a17 x15.length c18), (12, .agg #[.string (bs [105, 110, 110, 101, 114, 45, 116, 111, 101]), .string (bs [111, 117, 116, 101, 114, 45, 116, 111, 101]), .string (bs [105, 110, 110, 101, 114, 45, 104, 101, 101, 108]), .string (bs [111, 117, 116, 101, 114, 45, 104, 101, 101, 108])]), (13, .int .i64 st28), (6, .string (bs x46)), (17, .slice a17 x15.length c18), (18, .int .i64 st28)] (by kernel_rfl) ?_
  obtain ⟨x49, hx50, hm⟩ := bindE hm
  refine QL.st (.pointer (some (at_ a17 (Int.toNat st28 * 1)))) (ST.index (T := fInt.ty) (xs := x15) (SH.rd (SH.front 0 hS32)) hx50 rfl rfl rfl Try.underlying40 (info2).1 (info2).2.1) rfl rfl rfl ?_
  refine QL.st (.int .i64 x49) (ST.load (cell_ext (Rd.flat (F := fInt) (SH.rd (SH.front 0 hS32)) hx50 0 rfl)) rfl rfl Try.underlying2 rfl) rfl rfl rfl ?_
  refine QL.step1v 21 (.int .i64 (wI64 (2 * x49))) rfl (fun _ => by kernel_rfl) ?_
  refine QL.step1v 22 (.slice a17 x15.length c18) rfl (fun _ => by kernel_rfl) ?_
  refine QL.subk [4, 12, 13, 6, 21, 22] [(4, .slice a17 x15.length c18), (12, .agg #[.string (bs [105, 110, 110, 101, 114, 45, 116, 111, 101]), .string (bs [111, 117, 116, 101, 114, 45, 116, 111, 101]), .string (bs [105, 110, 110, 101, 114, 45, 104, 101, 101, 108]), .string (bs [111, 117, 116, 101, 114, 45, 104, 101, 101, 108])]), (13, .int .i64 st28), (6, .string (bs x46)), (21, .int .i64 (wI64 (2 * x49))), (22, .slice a17 x15.length c18)] (by kernel_rfl) ?_
  obtain ⟨x51, hx52, hm⟩ := bindE hm
  refine QL.call 66 #[.slice a17 x15.length c18] (.int .i64 x51) (fun _ => by kernel_rfl) (fun w53 hE54 => c_66 n x15 a17 c18 w53 hx52 (Rd.below (SH.rd (SH.front 0 hS32)) hE54) (SH.le (SH.front 0 hS32)).1) rfl rfl rfl ?_
  refine QL.step1v 24 (.bool (decide ((wI64 (2 * x49)) > x51))) rfl (fun _ => by kernel_rfl) ?_
  refine QL.subk [4, 12, 13, 6, 24] [(4, .slice a17 x15.length c18), (12, .agg #[.string (bs [105, 110, 110, 101, 114, 45, 116, 111, 101]), .string (bs [111, 117, 116, 101, 114, 45, 116, 111, 101]), .string (bs [105, 110, 110, 101, 114, 45, 104, 101, 101, 108]), .string (bs [111, 117, 116, 101, 114, 45, 104, 101, 101, 108])]), (13, .int .i64 st28), (6, .string (bs x46)), (24, .bool (decide ((wI64 (2 * x49)) > x51)))] (by kernel_rfl) ?_
  refine QL.nil ?_
  intro w55 hE56
  have hb57 : Ext w w55 := Ext.trans hb30 hE56
  have hL58 : w.heap.size ≤ w55.heap.size := Nat.le_trans hL31 hE56.size
  have hS59 : SH w55 w.heap.size [aOwn fInt 2 a17 c18 x15] := SH.ext hS32 hE56
  refine WQ.then_normal (hK48 _ _ _ ?_)
  refine WP.cond (decide ((wI64 (2 * x49)) > x51)) rfl rfl (fun hc60 => ?_) (fun hc60 => ?_)
  rotate_left
  · have hm := iteF hm hc60
    refine WP.skip ?_
    refine WQ.block_normal ?_
    refine WQ.then_normal (hK44 _ _ _ ?_)
    refine WP.region ?_
    refine WL.runk 2 [4, 12, 13] [(4, .slice a17 x15.length c18), (12, .agg #[.string (bs [105, 110, 110, 101, 114, 45, 116, 111, 101]), .string (bs [111, 117, 116, 101, 114, 45, 116, 111, 101]), .string (bs [105, 110, 110, 101, 114, 45, 104, 101, 101, 108]), .string (bs [111, 117, 116, 101, 114, 45, 104, 101, 101, 108])]), (13, .int .i64 (wI64 (st28 + 1)))] (by kernel_rfl) ?_
    refine WL.nil ?_
    obtain rfl := Option.some.inj hm
    exact WQ.round hK35 ⟨(wI64 (st28 + 1)), rfl, hb57, hL58, hS59, hl33⟩ (Nat.lt_succ_self _) ⟨rfl, rfl, rfl, trivial⟩
  have hm := iteT hm hc60
  refine WP.seq (fun K61 hK61 => ?_)
  refine WP.region ?_
  refine WL.runk 3 [2, 3] [(2, .string (bs x46)), (3, .int .i64 0)] (by kernel_rfl) ?_
  refine WL.nil ?_
  refine WQ.then_normal (hK61 _ _ _ ?_)
  refine WP.ret ?_
  refine WQ.block_ret ?_
  refine WQ.then_ret ?_
  refine WQ.then_ret ?_
  refine WQ.block_ret ?_
  refine WQ.then_ret ?_
  obtain rfl := Option.some.inj hm
  obtain rfl := afterN_done hl33
  have hm := hmo34
  obtain rfl := Option.some.inj hm
  exact WQ.ret2 _ _ rfl rfl rfl ⟨rfl, hb57⟩

theorem c_34 (n : Nat) (rows_0 : List (List UInt8)) (a0' : Option Addr) (c0' : Nat) (w : World) {r : List Int × Int} (hm : m_impl_QuarterSums n rows_0 = some r) (h0 : Rd fStr.ty w a0' rows_0) (hle0 : rows_0.length ≤ c0') :
    CallV Try.prog 34 #[.slice a0' rows_0.length c0'] w (fun v w' => ∃ (ra0 : Option Addr) (rc0 : Nat), v = .tuple #[.slice ra0 r.1.length rc0, .int .i64 r.2] ∧ Ext w w' ∧ SH w' w.heap.size [aOwn fInt 2 ra0 rc0 r.1]) := by
  unfold m_impl_QuarterSums at hm
  refine CallV.enter Try.func34 rfl (by kernel_rfl) Try.ntmps34 (env := [(0, .slice a0' rows_0.length c0')]) ⟨rfl, trivial⟩ ?_
  refine WP.seq (fun K1 hK1 => ?_)
  refine WP.region ?_
  refine WL.runk 2 [0] [(0, .slice a0' rows_0.length c0')] (by kernel_rfl) ?_
  refine WL.nil ?_
  refine WQ.then_normal (hK1 _ _ _ ?_)
  refine WP.seq (fun K2 hK2 => ?_)
  refine WP.seq (fun K3 hK3 => ?_)
  refine WP.region ?_
  refine WL.runk 1 [0, 4] [(0, .slice a0' rows_0.length c0'), (4, .slice a0' rows_0.length c0')] (by kernel_rfl) ?_
  obtain ⟨x4, hx5, hm⟩ := bindE hm
  refine WL.call 18 #[.slice a0' rows_0.length c0'] rfl rfl (by kernel_rfl) (c_18 n rows_0 a0' c0' w hx5 (Rd.below h0 (Ext.refl w)) hle0) ?_
  rintro _ w6 ⟨rfl, hE7⟩
  refine ⟨_, rfl, ?_⟩
  have hb9 : Ext w w6 := Ext.trans (Ext.refl w) hE7
  have hL10 : w.heap.size ≤ w6.heap.size := Nat.le_trans (Nat.le_refl _) hE7.size
  have hS11 : SH w6 w.heap.size [] := SH.ext (SH.nil _ _) hE7
  refine WL.runk 1 [0, 6] [(0, .slice a0' rows_0.length c0'), (6, .bool (!x4))] (by kernel_rfl) ?_
  refine WL.nil ?_
  refine WQ.then_normal (hK3 _ _ _ ?_)
  refine WP.cond (!x4) rfl rfl (fun hc12 => ?_) (fun hc12 => ?_)
  · have hm := iteT hm hc12
    refine WP.seq (fun K13 hK13 => ?_)
    refine WP.region ?_
    refine WL.runk 2 [2, 3] [(2, .slice none 0 0), (3, .int .i64 1)] (by kernel_rfl) ?_
    refine WL.nil ?_
    refine WQ.then_normal (hK13 _ _ _ ?_)
    refine WP.ret ?_
    refine WQ.then_ret ?_
    obtain rfl := Option.some.inj hm
    have hS15 : SH w6 w.heap.size [aOwn fInt 2 none 0 ([] : List Int)] := SH.nilOwn hS11
    exact WQ.ret2 _ _ rfl rfl rfl ⟨_, _, rfl, hb9, hS15⟩
  have hm := iteF hm hc12
  refine WP.skip ?_
  refine WQ.then_normal (hK2 _ _ _ ?_)
  refine WP.seq (fun K16 hK16 => ?_)
  refine WP.region ?_
  refine WL.runk 1 [7] [(7, .slice a0' rows_0.length c0')] (by kernel_rfl) ?_
  obtain ⟨x17, hx18, hm⟩ := bindE hm
  refine WL.call 65 #[.slice a0' rows_0.length c0'] rfl rfl (by kernel_rfl) (c_65 n rows_0 a0' c0' w6 hx18 (Rd.below h0 hb9) hle0) ?_
  rintro _ w22 ⟨a19, c20, rfl, hE23, hR24⟩
  refine ⟨_, rfl, ?_⟩
  have hb25 : Ext w w22 := Ext.trans hb9 hE23
  have hL26 : w.heap.size ≤ w22.heap.size := Nat.le_trans hL10 hE23.size
  have hS27 : SH w22 w.heap.size [aOwn fInt 2 a19 c20 x17] := SH.add hS11 hE23 hL10 hR24
  refine WL.runk 2 [2, 3] [(2, .slice a19 x17.length c20), (3, .int .i64 0)] (by kernel_rfl) ?_
  refine WL.nil ?_
  refine WQ.then_normal (hK16 _ _ _ ?_)
  refine WP.ret ?_
  obtain rfl := Option.some.inj hm
  exact WQ.ret2 _ _ rfl rfl rfl ⟨_, _, rfl, hb25, hS27⟩

theorem c_40 (n : Nat) (code_0 : List Int) (a0' : Option Addr) (c0' : Nat) (more_1 : List Int) (a1' : Option Addr) (c1' : Nat) (w : World) {r : Bool} (hm : m_laws_a2Long n code_0 more_1 = some r) (_h0 : Rd fU8.ty w a0' code_0) (_hle0 : code_0.length ≤ c0') (_h1 : Rd fU8.ty w a1' more_1) (_hle1 : more_1.length ≤ c1') :
    CallV Try.prog 40 #[.slice a0' code_0.length c0', .slice a1' more_1.length c1'] w (fun v w' => v = .bool r ∧ Ext w w') := by
  unfold m_laws_a2Long at hm
  refine CallV.enter Try.func40 rfl (by kernel_rfl) Try.ntmps40 (env := [(0, .slice a0' code_0.length c0'), (1, .slice a1' more_1.length c1')]) ⟨rfl, rfl, trivial⟩ ?_
  refine WP.seq (fun K1 hK1 => ?_)
  refine WP.region ?_
  refine WL.runk 1 [0, 1] [(0, .slice a0' code_0.length c0'), (1, .slice a1' more_1.length c1')] (by kernel_rfl) ?_
  refine WL.nil ?_
  refine WQ.then_normal (hK1 _ _ _ ?_)
  refine WP.seq (fun K2 hK2 => ?_)
  obtain ⟨x4, hx5, hm⟩ := bindE hm
  refine WP.cut (fun env' w' => env' = [(4, .bool x4)] ∧ Ext w w' ∧ w.heap.size ≤ w'.heap.size ∧ SH w' w.heap.size []) ?_ ?_
  rotate_left
  · clear hx5
    rintro _ w7 ⟨rfl, hb8, hL9, hS10⟩
    refine WQ.then_normal (hK2 _ _ _ ?_)
    refine WP.ret ?_
    obtain rfl := Option.some.inj hm
    exact WQ.ret1 _ rfl rfl ⟨rfl, hb8⟩
  have hm := hx5; clear hx5
  refine WP.region ?_
  refine WL.runk 4 [1, 8] [(1, .slice a1' more_1.length c1'), (8, .bool (decide ((code_0.length : Int) > 3000)))] (by kernel_rfl) ?_
  refine WL.case (decide ((code_0.length : Int) > 3000)) [8] ⟨rfl, trivial⟩ (fun hc6 => ?_) (fun hc6 => ?_)
  · have hm := iteT hm hc6
    refine WL.runk 5 [4] [(4, .bool true)] (by kernel_rfl) ?_
    refine WL.nil ?_
    obtain rfl := Option.some.inj hm
    exact WQ.post' ⟨rfl, (Ext.refl w), (Nat.le_refl _), (SH.nil _ _)⟩ ⟨rfl, trivial⟩
  have hm := iteF hm hc6
  refine WL.runk 5 [4] [(4, .bool (decide ((more_1.length : Int) > 3000)))] (by kernel_rfl) ?_
  refine WL.nil ?_
  obtain rfl := Option.some.inj hm
  exact WQ.post' ⟨rfl, (Ext.refl w), (Nat.le_refl _), (SH.nil _ _)⟩ ⟨rfl, trivial⟩

theorem c_84 (n : Nat) (s_0_code : List Int) (a0_code' : Option Addr) (c0_code' : Nat) (s_0_at_ : Int) (s_0_seed : Int) (b0' : Nat) (w : World) (w0 : World) (B : Nat) (L : List Asrt) {r : Int × Int × Int} (hm : m_spec_l00Src_next n s_0_code s_0_at_ s_0_seed = some r) (hE0 : Ext w0 w) (hW : w0.heap.size ≤ B) (hL : B ≤ w.heap.size) (h0_code : Rd fU8.ty w0 a0_code' s_0_code) (_hle0_code : s_0_code.length ≤ c0_code') (hS : SH w B (aBox 77 b0' [.slice a0_code' s_0_code.length c0_code', .int .i64 s_0_at_, .int .u64 s_0_seed] :: L)) :
    CallV Try.prog 84 #[.pointer (some ⟨b0', 0, none⟩)] w (fun v w' => v = .int .i64 r.1 ∧ Below B w w' ∧ SH w' B (aBox 77 b0' [.slice a0_code' s_0_code.length c0_code', .int .i64 r.2.1, .int .u64 r.2.2] :: L)) := by
  unfold m_spec_l00Src_next at hm
  refine CallV.enter Try.func84 rfl (by kernel_rfl) Try.ntmps84 (env := [(0, .pointer (some ⟨b0', 0, none⟩))]) ⟨rfl, trivial⟩ ?_
  refine WP.seq (fun K1 hK1 => ?_)
  refine WP.region ?_
  refine WL.runk 1 [0] [(0, .pointer (some ⟨b0', 0, none⟩))] (by kernel_rfl) ?_
  refine WL.nil ?_
  refine WQ.then_normal (hK1 _ _ _ ?_)
  refine WP.seq (fun K2 hK2 => ?_)
  refine WP.region ?_
  refine WL.runk 1 [0, 3] [(0, .pointer (some ⟨b0', 0, none⟩)), (3, .int .i64 0)] (by kernel_rfl) ?_
  refine WL.nil ?_
  refine WQ.then_normal (hK2 _ _ _ ?_)
  refine WP.seq (fun K3 hK3 => ?_)
  refine WP.seq (fun K4 hK4 => ?_)
  refine WP.quiet (by kernel_rfl) (by kernel_rfl) ?_
  refine QL.step1v 4 (.pointer (some ⟨b0', 0, none⟩)) rfl (fun _ => by kernel_rfl) ?_
  refine QL.step1v 5 (.pointer (some ⟨b0', 0, none⟩)) rfl (fun _ => by kernel_rfl) ?_
  refine QL.step1v 6 (.pointer (some ⟨b0', 1, none⟩)) rfl (fun _ => by kernel_rfl) ?_
  refine QL.subk [0, 3, 6] [(0, .pointer (some ⟨b0', 0, none⟩)), (3, .int .i64 0), (6, .pointer (some ⟨b0', 1, none⟩))] (by kernel_rfl) ?_
  refine QL.st (.int .i64 s_0_at_) (ST.load (cell_ext (SH.boxAt (SH.front 0 hS) 1 _ rfl)) rfl rfl Try.underlying3 rfl) rfl rfl rfl ?_
  refine QL.step1v 8 (.pointer (some ⟨b0', 0, none⟩)) rfl (fun _ => by kernel_rfl) ?_
  refine QL.step1v 9 (.pointer (some ⟨b0', 0, none⟩)) rfl (fun _ => by kernel_rfl) ?_
  refine QL.step1v 10 (.pointer (some ⟨b0', 0, none⟩)) rfl (fun _ => by kernel_rfl) ?_
  refine QL.subk [0, 3, 7, 10] [(0, .pointer (some ⟨b0', 0, none⟩)), (3, .int .i64 0), (7, .int .i64 s_0_at_), (10, .pointer (some ⟨b0', 0, none⟩))] (by kernel_rfl) ?_
  refine QL.st (.slice a0_code' s_0_code.length c0_code') (ST.load (cell_ext (SH.boxAt (SH.front 0 hS) 0 _ rfl)) rfl rfl Try.underlying46 rfl) rfl rfl rfl ?_
  refine QL.step1v 12 (.int .i64 (s_0_code.length : Int)) rfl (fun _ => by kernel_rfl) ?_
  refine QL.step1v 13 (.bool (decide (s_0_at_ < (s_0_code.length : Int)))) rfl (fun _ => by kernel_rfl) ?_
  refine QL.subk [0, 3, 13] [(0, .pointer (some ⟨b0', 0, none⟩)), (3, .int .i64 0), (13, .bool (decide (s_0_at_ < (s_0_code.length : Int))))] (by kernel_rfl) ?_
  refine QL.nil ?_
  intro w5 hE6
  have hb7 : Below B w w5 := Below.trans (Below.refl _ _) (Below.mono hE6 hL)
  have hL8 : B ≤ w5.heap.size := Nat.le_trans hL hE6.size
  have hS9 : SH w5 B (aBox 77 b0' [.slice a0_code' s_0_code.length c0_code', .int .i64 s_0_at_, .int .u64 s_0_seed] :: L) := SH.ext hS hE6
  refine WQ.then_normal (hK4 _ _ _ ?_)
  obtain ⟨x18, hx19, hm⟩ := bindE hm
  refine WP.cut (fun env' w' => env' = [(0, .pointer (some ⟨b0', 0, none⟩)), (3, .int .i64 x18)] ∧ Below B w w' ∧ B ≤ w'.heap.size ∧ SH w' B (aBox 77 b0' [.slice a0_code' s_0_code.length c0_code', .int .i64 s_0_at_, .int .u64 s_0_seed] :: L)) ?_ ?_
  · have hm := hx19; clear hx19
    refine WP.cond (decide (s_0_at_ < (s_0_code.length : Int))) rfl rfl (fun hc10 => ?_) (fun hc10 => ?_)
    rotate_left
    · have hm := iteF hm hc10
      refine WP.skip ?_
      obtain rfl := Option.some.inj hm
      exact WQ.post' ⟨rfl, hb7, hL8, hS9⟩ ⟨rfl, rfl, trivial⟩
    have hm := iteT hm hc10
    refine WP.quiet (by kernel_rfl) (by kernel_rfl) ?_
    refine QL.step1v 14 (.pointer (some ⟨b0', 0, none⟩)) rfl (fun _ => by kernel_rfl) ?_
    refine QL.step1v 15 (.pointer (some ⟨b0', 0, none⟩)) rfl (fun _ => by kernel_rfl) ?_
    refine QL.step1v 16 (.pointer (some ⟨b0', 0, none⟩)) rfl (fun _ => by kernel_rfl) ?_
    refine QL.subk [0, 16] [(0, .pointer (some ⟨b0', 0, none⟩)), (16, .pointer (some ⟨b0', 0, none⟩))] (by kernel_rfl) ?_
    refine QL.st (.slice a0_code' s_0_code.length c0_code') (ST.load (cell_ext (SH.boxAt (SH.front 0 hS9) 0 _ rfl)) rfl rfl Try.underlying46 rfl) rfl rfl rfl ?_
    refine QL.step1v 18 (.pointer (some ⟨b0', 0, none⟩)) rfl (fun _ => by kernel_rfl) ?_
    refine QL.step1v 19 (.pointer (some ⟨b0', 0, none⟩)) rfl (fun _ => by kernel_rfl) ?_
    refine QL.step1v 20 (.pointer (some ⟨b0', 1, none⟩)) rfl (fun _ => by kernel_rfl) ?_
    refine QL.subk [0, 17, 20] [(0, .pointer (some ⟨b0', 0, none⟩)), (17, .slice a0_code' s_0_code.length c0_code'), (20, .pointer (some ⟨b0', 1, none⟩))] (by kernel_rfl) ?_
    refine QL.st (.int .i64 s_0_at_) (ST.load (cell_ext (SH.boxAt (SH.front 0 hS9) 1 _ rfl)) rfl rfl Try.underlying3 rfl) rfl rfl rfl ?_
    obtain ⟨x20, hx21, hm⟩ := bindE hm
    refine QL.st (.pointer (some (at_ a0_code' (Int.toNat s_0_at_ * 1)))) (ST.index (T := fU8.ty) (xs := s_0_code) (Rd.below h0_code (Below.trans hE0 (Below.mono hb7 hW))) hx21 rfl rfl rfl Try.underlying46 (info5).1 (info5).2.1) rfl rfl rfl ?_
    refine QL.st (.int .u8 x20) (ST.load (cell_ext (Rd.flat (F := fU8) (Rd.below h0_code (Below.trans hE0 (Below.mono hb7 hW))) hx21 0 rfl)) rfl rfl Try.underlying5 rfl) rfl rfl rfl ?_
    refine QL.step1v 24 (.int .i64 (wI64 x20)) rfl (fun _ => by kernel_rfl) ?_
    refine QL.step1v 3 (.int .i64 (wI64 x20)) rfl (fun _ => by kernel_rfl) ?_
    refine QL.subk [0, 3] [(0, .pointer (some ⟨b0', 0, none⟩)), (3, .int .i64 (wI64 x20))] (by kernel_rfl) ?_
    refine QL.nil ?_
    intro w22 hE23
    have hb24 : Below B w w22 := Below.trans hb7 (Below.mono hE23 hL8)
    have hL25 : B ≤ w22.heap.size := Nat.le_trans hL8 hE23.size
    have hS26 : SH w22 B (aBox 77 b0' [.slice a0_code' s_0_code.length c0_code', .int .i64 s_0_at_, .int .u64 s_0_seed] :: L) := SH.ext hS9 hE23
    obtain rfl := Option.some.inj hm
    exact WQ.post' ⟨rfl, hb24, hL25, hS26⟩ ⟨rfl, rfl, trivial⟩
  clear hx19
  rintro _ w27 ⟨rfl, hb28, hL29, hS30⟩
  refine WQ.then_normal (hK3 _ _ _ ?_)
  refine WP.seq (fun K31 hK31 => ?_)
  refine WP.region ?_
  refine WL.runk 3 [0, 3, 25, 27] [(0, .pointer (some ⟨b0', 0, none⟩)), (3, .int .i64 x18), (25, .pointer (some ⟨b0', 0, none⟩)), (27, .pointer (some ⟨b0', 1, none⟩))] (by kernel_rfl) ?_
  refine WL.st (.int .i64 s_0_at_) (ST.load (cell_ext (SH.boxAt (SH.front 0 hS30) 1 _ rfl)) rfl rfl Try.underlying3 rfl) rfl rfl rfl ?_
  refine WL.runk 3 [0, 3, 29, 31] [(0, .pointer (some ⟨b0', 0, none⟩)), (3, .int .i64 x18), (29, .int .i64 (wI64 (s_0_at_ + 1))), (31, .pointer (some ⟨b0', 1, none⟩))] (by kernel_rfl) ?_
  refine WL.boxStore 1 [.int .i64 (wI64 (s_0_at_ + 1))] [.slice a0_code' s_0_code.length c0_code', .int .i64 (wI64 (s_0_at_ + 1)), .int .u64 s_0_seed] (SH.front 0 hS30) hL29 rfl rfl rfl rfl rfl rfl rfl (info3).1 (info3).2.1 rfl rfl rfl ?_
  intro w32 hB33 hS34
  have hb35 : Below B w w32 := Below.trans hb28 hB33
  have hL36 : B ≤ w32.heap.size := Nat.le_trans hL29 hB33.size
  refine WL.sub [(0, .pointer (some ⟨b0', 0, none⟩)), (3, .int .i64 x18)] ⟨rfl, rfl, trivial⟩ ?_
  refine WL.nil ?_
  refine WQ.then_normal (hK31 _ _ _ ?_)
  refine WP.seq (fun K37 hK37 => ?_)
  refine WP.region ?_
  refine WL.runk 4 [0, 3, 32, 35] [(0, .pointer (some ⟨b0', 0, none⟩)), (3, .int .i64 x18), (32, .pointer (some ⟨b0', 0, none⟩)), (35, .pointer (some ⟨b0', 2, none⟩))] (by kernel_rfl) ?_
  refine WL.st (.int .u64 s_0_seed) (ST.load (cell_ext (SH.boxAt (SH.front 0 hS34) 2 _ rfl)) rfl rfl Try.underlying75 rfl) rfl rfl rfl ?_
  refine WL.runk 7 [0, 3, 41, 43] [(0, .pointer (some ⟨b0', 0, none⟩)), (3, .int .i64 x18), (41, .int .u64 (IntKind.u64.wrap ((IntKind.u64.wrap ((IntKind.u64.wrap (s_0_seed * 6364136223846793005)) + (IntKind.u64.wrap x18))) + 1442695040888963407))), (43, .pointer (some ⟨b0', 2, none⟩))] (by kernel_rfl) ?_
  refine WL.boxStore 2 [.int .u64 (IntKind.u64.wrap ((IntKind.u64.wrap ((IntKind.u64.wrap (s_0_seed * 6364136223846793005)) + (IntKind.u64.wrap x18))) + 1442695040888963407))] [.slice a0_code' s_0_code.length c0_code', .int .i64 (wI64 (s_0_at_ + 1)), .int .u64 (IntKind.u64.wrap ((IntKind.u64.wrap ((IntKind.u64.wrap (s_0_seed * 6364136223846793005)) + (IntKind.u64.wrap x18))) + 1442695040888963407))] (SH.front 0 hS34) hL36 rfl rfl rfl rfl rfl rfl rfl (info75).1 (info75).2.1 rfl rfl rfl ?_
  intro w38 hB39 hS40
  have hb41 : Below B w w38 := Below.trans hb35 hB39
  have hL42 : B ≤ w38.heap.size := Nat.le_trans hL36 hB39.size
  refine WL.sub [(0, .pointer (some ⟨b0', 0, none⟩)), (3, .int .i64 x18)] ⟨rfl, rfl, trivial⟩ ?_
  refine WL.nil ?_
  refine WQ.then_normal (hK37 _ _ _ ?_)
  refine WP.seq (fun K43 hK43 => ?_)
  refine WP.seq (fun K44 hK44 => ?_)
  refine WP.quiet (by kernel_rfl) (by kernel_rfl) ?_
  refine QL.step1v 44 (.pointer (some ⟨b0', 0, none⟩)) rfl (fun _ => by kernel_rfl) ?_
  refine QL.step1v 45 (.pointer (some ⟨b0', 0, none⟩)) rfl (fun _ => by kernel_rfl) ?_
  refine QL.step1v 46 (.pointer (some ⟨b0', 1, none⟩)) rfl (fun _ => by kernel_rfl) ?_
  refine QL.subk [0, 3, 46] [(0, .pointer (some ⟨b0', 0, none⟩)), (3, .int .i64 x18), (46, .pointer (some ⟨b0', 1, none⟩))] (by kernel_rfl) ?_
  refine QL.st (.int .i64 (wI64 (s_0_at_ + 1))) (ST.load (cell_ext (SH.boxAt (SH.front 0 hS40) 1 _ rfl)) rfl rfl Try.underlying3 rfl) rfl rfl rfl ?_
  refine QL.step1v 48 (.pointer (some ⟨b0', 0, none⟩)) rfl (fun _ => by kernel_rfl) ?_
  refine QL.step1v 49 (.pointer (some ⟨b0', 0, none⟩)) rfl (fun _ => by kernel_rfl) ?_
  refine QL.step1v 50 (.pointer (some ⟨b0', 0, none⟩)) rfl (fun _ => by kernel_rfl) ?_
  refine QL.subk [0, 3, 47, 50] [(0, .pointer (some ⟨b0', 0, none⟩)), (3, .int .i64 x18), (47, .int .i64 (wI64 (s_0_at_ + 1))), (50, .pointer (some ⟨b0', 0, none⟩))] (by kernel_rfl) ?_
  refine QL.st (.slice a0_code' s_0_code.length c0_code') (ST.load (cell_ext (SH.boxAt (SH.front 0 hS40) 0 _ rfl)) rfl rfl Try.underlying46 rfl) rfl rfl rfl ?_
  refine QL.step1v 52 (.int .i64 (s_0_code.length : Int)) rfl (fun _ => by kernel_rfl) ?_
  refine QL.step1v 53 (.bool (decide ((wI64 (s_0_at_ + 1)) ≤ (s_0_code.length : Int)))) rfl (fun _ => by kernel_rfl) ?_
  refine QL.subk [0, 3, 53] [(0, .pointer (some ⟨b0', 0, none⟩)), (3, .int .i64 x18), (53, .bool (decide ((wI64 (s_0_at_ + 1)) ≤ (s_0_code.length : Int))))] (by kernel_rfl) ?_
  refine QL.nil ?_
  intro w45 hE46
  have hb47 : Below B w w45 := Below.trans hb41 (Below.mono hE46 hL42)
  have hL48 : B ≤ w45.heap.size := Nat.le_trans hL42 hE46.size
  have hS49 : SH w45 B (aBox 77 b0' [.slice a0_code' s_0_code.length c0_code', .int .i64 (wI64 (s_0_at_ + 1)), .int .u64 (IntKind.u64.wrap ((IntKind.u64.wrap ((IntKind.u64.wrap (s_0_seed * 6364136223846793005)) + (IntKind.u64.wrap x18))) + 1442695040888963407))] :: L) := SH.ext hS40 hE46
  refine WQ.then_normal (hK44 _ _ _ ?_)
  refine WP.cond (decide ((wI64 (s_0_at_ + 1)) ≤ (s_0_code.length : Int))) rfl rfl (fun hc50 => ?_) (fun hc50 => ?_)
  · have hm := iteT hm hc50
    refine WP.seq (fun K51 hK51 => ?_)
    refine WP.region ?_
    refine WL.runk 2 [2] [(2, .int .i64 x18)] (by kernel_rfl) ?_
    refine WL.nil ?_
    refine WQ.then_normal (hK51 _ _ _ ?_)
    refine WP.ret ?_
    refine WQ.then_ret ?_
    obtain rfl := Option.some.inj hm
    exact WQ.ret1 _ rfl rfl ⟨rfl, hb47, hS49⟩
  have hm := iteF hm hc50
  refine WP.skip ?_
  refine WQ.then_normal (hK43 _ _ _ ?_)
  refine WP.seq (fun K52 hK52 => ?_)
  refine WP.region ?_
  refine WL.runk 3 [57] [(57, .pointer (some ⟨b0', 2, none⟩))] (by kernel_rfl) ?_
  refine WL.st (.int .u64 (IntKind.u64.wrap ((IntKind.u64.wrap ((IntKind.u64.wrap (s_0_seed * 6364136223846793005)) + (IntKind.u64.wrap x18))) + 1442695040888963407))) (ST.load (cell_ext (SH.boxAt (SH.front 0 hS49) 2 _ rfl)) rfl rfl Try.underlying75 rfl) rfl rfl rfl ?_
  obtain ⟨x53, hx54, hm⟩ := bindE hm
  refine WL.st (.int .u64 x53) (ST.shr (k := .u64) hx54 rfl rfl rfl) rfl rfl rfl ?_
  refine WL.runk 3 [2] [(2, .int .i64 (wI64 (iand .u64 x53 255)))] (by kernel_rfl) ?_
  refine WL.nil ?_
  refine WQ.then_normal (hK52 _ _ _ ?_)
  refine WP.ret ?_
  obtain rfl := Option.some.inj hm
  exact WQ.ret1 _ rfl rfl ⟨rfl, hb47, hS49⟩

theorem c_82 (n : Nat) (s_0_code : List Int) (a0_code' : Option Addr) (c0_code' : Nat) (s_0_at_ : Int) (s_0_seed : Int) (b0' : Nat) (n_1 : Int) (w : World) (w0 : World) (B : Nat) (L : List Asrt) {r : Int × Int × Int} (hm : m_spec_l00Src_pick n s_0_code s_0_at_ s_0_seed n_1 = some r) (hE0 : Ext w0 w) (hW : w0.heap.size ≤ B) (hL : B ≤ w.heap.size) (h0_code : Rd fU8.ty w0 a0_code' s_0_code) (hle0_code : s_0_code.length ≤ c0_code') (hS : SH w B (aBox 77 b0' [.slice a0_code' s_0_code.length c0_code', .int .i64 s_0_at_, .int .u64 s_0_seed] :: L)) :
    CallV Try.prog 82 #[.pointer (some ⟨b0', 0, none⟩), .int .i64 n_1] w (fun v w' => v = .int .i64 r.1 ∧ Below B w w' ∧ SH w' B (aBox 77 b0' [.slice a0_code' s_0_code.length c0_code', .int .i64 r.2.1, .int .u64 r.2.2] :: L)) := by
  unfold m_spec_l00Src_pick at hm
  refine CallV.enter Try.func82 rfl (by kernel_rfl) Try.ntmps82 (env := [(0, .pointer (some ⟨b0', 0, none⟩)), (1, .int .i64 n_1)]) ⟨rfl, rfl, trivial⟩ ?_
  refine WP.seq (fun K1 hK1 => ?_)
  refine WP.region ?_
  refine WL.runk 1 [0, 1] [(0, .pointer (some ⟨b0', 0, none⟩)), (1, .int .i64 n_1)] (by kernel_rfl) ?_
  refine WL.nil ?_
  refine WQ.then_normal (hK1 _ _ _ ?_)
  refine WP.seq (fun K2 hK2 => ?_)
  refine WP.seq (fun K3 hK3 => ?_)
  refine WP.region ?_
  refine WL.runk 2 [0, 1, 7] [(0, .pointer (some ⟨b0', 0, none⟩)), (1, .int .i64 n_1), (7, .bool (decide (n_1 ≤ 1)))] (by kernel_rfl) ?_
  refine WL.nil ?_
  refine WQ.then_normal (hK3 _ _ _ ?_)
  refine WP.cond (decide (n_1 ≤ 1)) rfl rfl (fun hc4 => ?_) (fun hc4 => ?_)
  · have hm := iteT hm hc4
    refine WP.seq (fun K5 hK5 => ?_)
    refine WP.region ?_
    refine WL.runk 1 [4] [(4, .int .i64 0)] (by kernel_rfl) ?_
    refine WL.nil ?_
    refine WQ.then_normal (hK5 _ _ _ ?_)
    refine WP.ret ?_
    refine WQ.then_ret ?_
    obtain rfl := Option.some.inj hm
    exact WQ.ret1 _ rfl rfl ⟨rfl, (Below.refl _ _), hS⟩
  have hm := iteF hm hc4
  refine WP.skip ?_
  refine WQ.then_normal (hK2 _ _ _ ?_)
  refine WP.seq (fun K6 hK6 => ?_)
  refine WP.region ?_
  refine WL.runk 1 [0, 1, 8] [(0, .pointer (some ⟨b0', 0, none⟩)), (1, .int .i64 n_1), (8, .pointer (some ⟨b0', 0, none⟩))] (by kernel_rfl) ?_
  obtain ⟨x7, hx8, hm⟩ := bindE hm
  refine WL.call 84 #[.pointer (some ⟨b0', 0, none⟩)] rfl rfl (by kernel_rfl) (c_84 n s_0_code a0_code' c0_code' s_0_at_ s_0_seed b0' w w0 B (L) hx8 (Below.trans hE0 (Below.mono (Below.refl _ _) hW)) hW hL h0_code hle0_code hS) ?_
  rintro _ w9 ⟨rfl, hB13, hS12⟩
  refine ⟨_, rfl, ?_⟩
  have hb14 : Below B w w9 := Below.trans (Below.refl _ _) hB13
  have hL15 : B ≤ w9.heap.size := Nat.le_trans hL hB13.size
  refine WL.runk 1 [0, 1, 5] [(0, .pointer (some ⟨b0', 0, none⟩)), (1, .int .i64 n_1), (5, .int .i64 x7.1)] (by kernel_rfl) ?_
  refine WL.nil ?_
  refine WQ.then_normal (hK6 _ _ _ ?_)
  refine WP.seq (fun K16 hK16 => ?_)
  refine WP.seq (fun K17 hK17 => ?_)
  refine WP.region ?_
  refine WL.runk 2 [0, 1, 5, 11] [(0, .pointer (some ⟨b0', 0, none⟩)), (1, .int .i64 n_1), (5, .int .i64 x7.1), (11, .bool (decide (n_1 > 200)))] (by kernel_rfl) ?_
  refine WL.nil ?_
  refine WQ.then_normal (hK17 _ _ _ ?_)
  obtain ⟨x48, hx49, hm⟩ := bindE hm
  refine WP.cut (fun env' w' => env' = [(1, .int .i64 n_1), (5, .int .i64 x48.1)] ∧ Below B w w' ∧ B ≤ w'.heap.size ∧ SH w' B (aBox 77 b0' [.slice a0_code' s_0_code.length c0_code', .int .i64 x48.2.1, .int .u64 x48.2.2] :: L)) ?_ ?_
  rotate_left
  · clear hx49
    rintro _ w59 ⟨rfl, hb60, hL61, hS62⟩
    refine WQ.then_normal (hK16 _ _ _ ?_)
    refine WP.seq (fun K63 hK63 => ?_)
    refine WP.region ?_
    refine WL.runk 2 [17, 18] [(17, .int .i64 x48.1), (18, .int .i64 n_1)] (by kernel_rfl) ?_
    obtain ⟨x64, hx65, hm⟩ := bindE hm
    refine WL.st (.int .i64 x64) (ST.rem (k := .i64) hx65 rfl rfl rfl) rfl rfl rfl ?_
    refine WL.runk 1 [4] [(4, .int .i64 x64)] (by kernel_rfl) ?_
    refine WL.nil ?_
    refine WQ.then_normal (hK63 _ _ _ ?_)
    refine WP.ret ?_
    obtain rfl := Option.some.inj hm
    exact WQ.ret1 _ rfl rfl ⟨rfl, hb60, hS62⟩
  have hm := hx49; clear hx49
  refine WP.cond (decide (n_1 > 200)) rfl rfl (fun hc18 => ?_) (fun hc18 => ?_)
  rotate_left
  · have hm := iteF hm hc18
    refine WP.skip ?_
    obtain rfl := Option.some.inj hm
    exact WQ.post' ⟨rfl, hb14, hL15, hS12⟩ ⟨rfl, rfl, trivial⟩
  have hm := iteT hm hc18
  refine WP.region ?_
  refine WL.runk 3 [1, 13, 14] [(1, .int .i64 n_1), (13, .int .i64 (wI64 (x7.1 * 256))), (14, .pointer (some ⟨b0', 0, none⟩))] (by kernel_rfl) ?_
  obtain ⟨x50, hx51, hm⟩ := bindE hm
  refine WL.call 84 #[.pointer (some ⟨b0', 0, none⟩)] rfl rfl (by kernel_rfl) (c_84 n s_0_code a0_code' c0_code' x7.2.1 x7.2.2 b0' w9 w0 B (L) hx51 (Below.trans hE0 (Below.mono hb14 hW)) hW hL15 h0_code hle0_code hS12) ?_
  rintro _ w52 ⟨rfl, hB56, hS55⟩
  refine ⟨_, rfl, ?_⟩
  have hb57 : Below B w w52 := Below.trans hb14 hB56
  have hL58 : B ≤ w52.heap.size := Nat.le_trans hL15 hB56.size
  refine WL.runk 2 [1, 5] [(1, .int .i64 n_1), (5, .int .i64 (wI64 ((wI64 (x7.1 * 256)) + x50.1)))] (by kernel_rfl) ?_
  refine WL.nil ?_
  obtain rfl := Option.some.inj hm
  exact WQ.post' ⟨rfl, hb57, hL58, hS55⟩ ⟨rfl, rfl, trivial⟩

theorem c_83 (n : Nat) (s_0_code : List Int) (a0_code' : Option Addr) (c0_code' : Nat) (s_0_at_ : Int) (s_0_seed : Int) (b0' : Nat) (n_1 : Int) (w : World) (w0 : World) (B : Nat) (L : List Asrt) {r : Bool × Int × Int} (hm : m_spec_l00Src_one n s_0_code s_0_at_ s_0_seed n_1 = some r) (hE0 : Ext w0 w) (hW : w0.heap.size ≤ B) (hL : B ≤ w.heap.size) (h0_code : Rd fU8.ty w0 a0_code' s_0_code) (hle0_code : s_0_code.length ≤ c0_code') (hS : SH w B (aBox 77 b0' [.slice a0_code' s_0_code.length c0_code', .int .i64 s_0_at_, .int .u64 s_0_seed] :: L)) :
    CallV Try.prog 83 #[.pointer (some ⟨b0', 0, none⟩), .int .i64 n_1] w (fun v w' => v = .bool r.1 ∧ Below B w w' ∧ SH w' B (aBox 77 b0' [.slice a0_code' s_0_code.length c0_code', .int .i64 r.2.1, .int .u64 r.2.2] :: L)) := by
  unfold m_spec_l00Src_one at hm
  refine CallV.enter Try.func83 rfl (by kernel_rfl) Try.ntmps83 (env := [(0, .pointer (some ⟨b0', 0, none⟩)), (1, .int .i64 n_1)]) ⟨rfl, rfl, trivial⟩ ?_
  refine WP.seq (fun K1 hK1 => ?_)
  refine WP.region ?_
  refine WL.runk 1 [0, 1] [(0, .pointer (some ⟨b0', 0, none⟩)), (1, .int .i64 n_1)] (by kernel_rfl) ?_
  refine WL.nil ?_
  refine WQ.then_normal (hK1 _ _ _ ?_)
  refine WP.seq (fun K2 hK2 => ?_)
  refine WP.region ?_
  refine WL.runk 2 [5, 6] [(5, .pointer (some ⟨b0', 0, none⟩)), (6, .int .i64 n_1)] (by kernel_rfl) ?_
  obtain ⟨x3, hx4, hm⟩ := bindE hm
  refine WL.call 82 #[.pointer (some ⟨b0', 0, none⟩), .int .i64 n_1] rfl rfl (by kernel_rfl) (c_82 n s_0_code a0_code' c0_code' s_0_at_ s_0_seed b0' n_1 w w0 B (L) hx4 (Below.trans hE0 (Below.mono (Below.refl _ _) hW)) hW hL h0_code hle0_code hS) ?_
  rintro _ w5 ⟨rfl, hB9, hS8⟩
  refine ⟨_, rfl, ?_⟩
  have hb10 : Below B w w5 := Below.trans (Below.refl _ _) hB9
  have hL11 : B ≤ w5.heap.size := Nat.le_trans hL hB9.size
  refine WL.runk 2 [4] [(4, .bool (x3.1 == 0))] (by kernel_rfl) ?_
  refine WL.nil ?_
  refine WQ.then_normal (hK2 _ _ _ ?_)
  refine WP.ret ?_
  obtain rfl := Option.some.inj hm
  exact WQ.ret1 _ rfl rfl ⟨rfl, hb10, hS8⟩

theorem c_75 (n : Nat) (s_0_code : List Int) (a0_code' : Option Addr) (c0_code' : Nat) (s_0_at_ : Int) (s_0_seed : Int) (b0' : Nat) (rows_1 : Int) (columns_2 : Int) (w : World) (w0 : World) (B : Nat) (L : List Asrt) {r : List (List UInt8) × Int × Int} (hm : m_spec_l20Draw n s_0_code s_0_at_ s_0_seed rows_1 columns_2 = some r) (hE0 : Ext w0 w) (hW : w0.heap.size ≤ B) (hL : B ≤ w.heap.size) (h0_code : Rd fU8.ty w0 a0_code' s_0_code) (hle0_code : s_0_code.length ≤ c0_code') (hS : SH w B (aBox 77 b0' [.slice a0_code' s_0_code.length c0_code', .int .i64 s_0_at_, .int .u64 s_0_seed] :: L)) :
    CallV Try.prog 75 #[.pointer (some ⟨b0', 0, none⟩), .int .i64 rows_1, .int .i64 columns_2] w (fun v w' => ∃ (ra0 : Option Addr) (rc0 : Nat), v = .slice ra0 r.1.length rc0 ∧ Below B w w' ∧ SH w' B (aOwn fStr 9 ra0 rc0 r.1 :: aBox 77 b0' [.slice a0_code' s_0_code.length c0_code', .int .i64 r.2.1, .int .u64 r.2.2] :: L)) := by
  unfold m_spec_l20Draw at hm
  refine CallV.enter Try.func75 rfl (by kernel_rfl) Try.ntmps75 (env := [(0, .pointer (some ⟨b0', 0, none⟩)), (1, .int .i64 rows_1), (2, .int .i64 columns_2)]) ⟨rfl, rfl, rfl, trivial⟩ ?_
  refine WP.seq (fun K1 hK1 => ?_)
  refine WP.region ?_
  refine WL.runk 1 [0, 1, 2] [(0, .pointer (some ⟨b0', 0, none⟩)), (1, .int .i64 rows_1), (2, .int .i64 columns_2)] (by kernel_rfl) ?_
  refine WL.nil ?_
  refine WQ.then_normal (hK1 _ _ _ ?_)
  refine WP.seq (fun K2 hK2 => ?_)
  refine WP.region ?_
  refine WL.row fStr 9 ([] : List (List UInt8)) 0 #[] 13 (by kernel_rfl) rfl rfl rfl rfl rfl rfl rfl ?_
  intro a3 c4 w5 hE6 hR7
  have hb9 : Below B w w5 := Below.trans (Below.refl _ _) (Below.mono hE6 hL)
  have hL10 : B ≤ w5.heap.size := Nat.le_trans hL hE6.size
  have hS11 : SH w5 B (aOwn fStr 9 a3 c4 ([] : List (List UInt8)) :: aBox 77 b0' [.slice a0_code' s_0_code.length c0_code', .int .i64 s_0_at_, .int .u64 s_0_seed] :: L) := SH.add hS hE6 hL hR7
  refine WL.runk 1 [0, 1, 2, 7] [(0, .pointer (some ⟨b0', 0, none⟩)), (1, .int .i64 rows_1), (2, .int .i64 columns_2), (7, .slice a3 (([] : List (List UInt8)).length) c4)] (by kernel_rfl) ?_
  refine WL.nil ?_
  refine WQ.then_normal (hK2 _ _ _ ?_)
  refine WP.seq (fun K12 hK12 => ?_)
  refine WP.region ?_
  refine WL.runk 1 [0, 1, 2, 7, 14] [(0, .pointer (some ⟨b0', 0, none⟩)), (1, .int .i64 rows_1), (2, .int .i64 columns_2), (7, .slice a3 (([] : List (List UInt8)).length) c4), (14, .pointer (some ⟨b0', 0, none⟩))] (by kernel_rfl) ?_
  obtain ⟨x13, hx14, hm⟩ := bindE hm
  refine WL.call 83 #[.pointer (some ⟨b0', 0, none⟩), .int .i64 6] rfl rfl (by kernel_rfl) (c_83 n s_0_code a0_code' c0_code' s_0_at_ s_0_seed b0' 6 w5 w0 B (aOwn fStr 9 a3 c4 ([] : List (List UInt8)) :: L) hx14 (Below.trans hE0 (Below.mono hb9 hW)) hW hL10 h0_code hle0_code (SH.front 1 hS11)) ?_
  rintro _ w15 ⟨rfl, hB19, hS18⟩
  refine ⟨_, rfl, ?_⟩
  have hb20 : Below B w w15 := Below.trans hb9 hB19
  have hL21 : B ≤ w15.heap.size := Nat.le_trans hL10 hB19.size
  refine WL.runk 1 [0, 1, 2, 7, 8] [(0, .pointer (some ⟨b0', 0, none⟩)), (1, .int .i64 rows_1), (2, .int .i64 columns_2), (7, .slice a3 (([] : List (List UInt8)).length) c4), (8, .bool x13.1)] (by kernel_rfl) ?_
  refine WL.nil ?_
  refine WQ.then_normal (hK12 _ _ _ ?_)
  refine WP.seq (fun K22 hK22 => ?_)
  refine WP.seq (fun K23 hK23 => ?_)
  refine WP.region ?_
  refine WL.runk 1 [0, 1, 2, 7, 8, 9] [(0, .pointer (some ⟨b0', 0, none⟩)), (1, .int .i64 rows_1), (2, .int .i64 columns_2), (7, .slice a3 (([] : List (List UInt8)).length) c4), (8, .bool x13.1), (9, .int .i64 0)] (by kernel_rfl) ?_
  refine WL.nil ?_
  refine WQ.then_normal (hK23 _ _ _ ?_)
  refine WP.block ?_
  obtain ⟨t397, ht398, hm⟩ := bindE hm
  have hmo392 := hm; clear hm
  refine WP.sub [(0, .pointer (some ⟨b0', 0, none⟩)), (1, .int .i64 rows_1), (2, .int .i64 columns_2), (7, .slice a3 (([] : List (List UInt8)).length) c4), (8, .bool x13.1), (9, .int .i64 0)] ⟨rfl, rfl, rfl, rfl, rfl, rfl, trivial⟩ ?_
  refine WP.loop (fun n' env' w' => ∃ (st383 : List (List UInt8) × Int × Int × Int) (a384 : Option Addr) (c385 : Nat), env' = [(0, .pointer (some ⟨b0', 0, none⟩)), (1, .int .i64 rows_1), (2, .int .i64 columns_2), (7, .slice a384 st383.1.length c385), (8, .bool x13.1), (9, .int .i64 st383.2.1)] ∧ Below B w w' ∧ B ≤ w'.heap.size ∧ SH w' B (aOwn fStr 9 a384 c385 st383.1 :: aBox 77 b0' [.slice a0_code' s_0_code.length c0_code', .int .i64 st383.2.2.1, .int .u64 st383.2.2.2] :: L) ∧ loopN (m_spec_l20Draw_l1 n s_0_code rows_1 columns_2 x13) n' st383 = some t397) n ⟨(([] : List (List UInt8)), 0, x13.2.1, x13.2.2), _, _, rfl, hb20, hL21, (SH.front 1 hS18), ht398⟩ ?_
  rintro n394 _ w387 ⟨st383, a384, c385, rfl, hb388, hL389, hS390, hl391⟩ K393 hK393
  obtain ⟨n395, s396, rfl, hm, hl391⟩ := loopN_some hl391
  unfold m_spec_l20Draw_l1 at hm
  refine WP.seq (fun K399 hK399 => ?_)
  refine WP.seq (fun K400 hK400 => ?_)
  refine WP.region ?_
  refine WL.runk 3 [0, 1, 2, 7, 8, 9, 18] [(0, .pointer (some ⟨b0', 0, none⟩)), (1, .int .i64 rows_1), (2, .int .i64 columns_2), (7, .slice a384 st383.1.length c385), (8, .bool x13.1), (9, .int .i64 st383.2.1), (18, .bool (decide (st383.2.1 < rows_1)))] (by kernel_rfl) ?_
  refine WL.nil ?_
  refine WQ.then_normal (hK400 _ _ _ ?_)
  refine WP.cond (decide (st383.2.1 < rows_1)) rfl rfl (fun hc401 => ?_) (fun hc401 => ?_)
  rotate_left
  · have hm := iteF hm hc401
    refine WP.exit ?_
    refine WQ.then_exit ?_
    refine WQ.then_exit ?_
    refine WQ.block_here ?_
    obtain rfl := Option.some.inj hm
    obtain rfl := afterN_done hl391
    have hm := hmo392
    refine WQ.then_normal (hK22 _ _ _ ?_)
    refine WP.seq (fun K741 hK741 => ?_)
    refine WP.region ?_
    refine WL.runk 2 [6] [(6, .slice a384 st383.1.length c385)] (by kernel_rfl) ?_
    refine WL.nil ?_
    refine WQ.then_normal (hK741 _ _ _ ?_)
    refine WP.ret ?_
    obtain rfl := Option.some.inj hm
    exact WQ.ret1 _ rfl rfl ⟨_, _, rfl, hb388, hS390⟩
  have hm := iteT hm hc401
  refine WP.skip ?_
  refine WQ.then_normal (hK399 _ _ _ ?_)
  refine WP.seq (fun K402 hK402 => ?_)
  refine WP.block ?_
  refine WP.seq (fun K403 hK403 => ?_)
  refine WP.region ?_
  refine WL.row fU8 5 ([] : List Int) 0 #[] 21 (by kernel_rfl) rfl rfl rfl rfl rfl rfl rfl ?_
  intro a404 c405 w406 hE407 hR408
  have hb410 : Below B w w406 := Below.trans hb388 (Below.mono hE407 hL389)
  have hL411 : B ≤ w406.heap.size := Nat.le_trans hL389 hE407.size
  have hS412 : SH w406 B (aOwn fU8 5 a404 c405 ([] : List Int) :: aOwn fStr 9 a384 c385 st383.1 :: aBox 77 b0' [.slice a0_code' s_0_code.length c0_code', .int .i64 st383.2.2.1, .int .u64 st383.2.2.2] :: L) := SH.add hS390 hE407 hL389 hR408
  refine WL.runk 1 [0, 1, 2, 7, 8, 9, 10] [(0, .pointer (some ⟨b0', 0, none⟩)), (1, .int .i64 rows_1), (2, .int .i64 columns_2), (7, .slice a384 st383.1.length c385), (8, .bool x13.1), (9, .int .i64 st383.2.1), (10, .slice a404 (([] : List Int).length) c405)] (by kernel_rfl) ?_
  refine WL.nil ?_
  refine WQ.then_normal (hK403 _ _ _ ?_)
  refine WP.seq (fun K413 hK413 => ?_)
  refine WP.seq (fun K414 hK414 => ?_)
  refine WP.region ?_
  refine WL.runk 1 [0, 1, 2, 7, 8, 9, 10, 11] [(0, .pointer (some ⟨b0', 0, none⟩)), (1, .int .i64 rows_1), (2, .int .i64 columns_2), (7, .slice a384 st383.1.length c385), (8, .bool x13.1), (9, .int .i64 st383.2.1), (10, .slice a404 (([] : List Int).length) c405), (11, .int .i64 0)] (by kernel_rfl) ?_
  refine WL.nil ?_
  refine WQ.then_normal (hK414 _ _ _ ?_)
  refine WP.block ?_
  obtain ⟨t581, ht582, hm⟩ := bindE hm
  have hmo576 := hm; clear hm
  refine WP.sub [(0, .pointer (some ⟨b0', 0, none⟩)), (1, .int .i64 rows_1), (2, .int .i64 columns_2), (7, .slice a384 st383.1.length c385), (8, .bool x13.1), (9, .int .i64 st383.2.1), (10, .slice a404 (([] : List Int).length) c405), (11, .int .i64 0)] ⟨rfl, rfl, rfl, rfl, rfl, rfl, rfl, rfl, trivial⟩ ?_
  refine WP.loop (fun n' env' w' => ∃ (st567 : List Int × Int × Int × Int) (a568 : Option Addr) (c569 : Nat), env' = [(0, .pointer (some ⟨b0', 0, none⟩)), (1, .int .i64 rows_1), (2, .int .i64 columns_2), (7, .slice a384 st383.1.length c385), (8, .bool x13.1), (9, .int .i64 st383.2.1), (10, .slice a568 st567.1.length c569), (11, .int .i64 st567.2.1)] ∧ Below B w w' ∧ B ≤ w'.heap.size ∧ SH w' B (aOwn fU8 5 a568 c569 st567.1 :: aOwn fStr 9 a384 c385 st383.1 :: aBox 77 b0' [.slice a0_code' s_0_code.length c0_code', .int .i64 st567.2.2.1, .int .u64 st567.2.2.2] :: L) ∧ loopN (m_spec_l20Draw_l3 n s_0_code columns_2 x13) n' st567 = some t581) n ⟨(([] : List Int), 0, st383.2.2.1, st383.2.2.2), _, _, rfl, hb410, hL411, hS412, ht582⟩ ?_
  rintro n578 _ w571 ⟨st567, a568, c569, rfl, hb572, hL573, hS574, hl575⟩ K577 hK577
  obtain ⟨n579, s580, rfl, hm, hl575⟩ := loopN_some hl575
  unfold m_spec_l20Draw_l3 at hm
  refine WP.seq (fun K583 hK583 => ?_)
  refine WP.seq (fun K584 hK584 => ?_)
  refine WP.region ?_
  refine WL.runk 3 [0, 1, 2, 7, 8, 9, 10, 11, 24] [(0, .pointer (some ⟨b0', 0, none⟩)), (1, .int .i64 rows_1), (2, .int .i64 columns_2), (7, .slice a384 st383.1.length c385), (8, .bool x13.1), (9, .int .i64 st383.2.1), (10, .slice a568 st567.1.length c569), (11, .int .i64 st567.2.1), (24, .bool (decide (st567.2.1 < columns_2)))] (by kernel_rfl) ?_
  refine WL.nil ?_
  refine WQ.then_normal (hK584 _ _ _ ?_)
  refine WP.cond (decide (st567.2.1 < columns_2)) rfl rfl (fun hc585 => ?_) (fun hc585 => ?_)
  rotate_left
  · have hm := iteF hm hc585
    refine WP.exit ?_
    refine WQ.then_exit ?_
    refine WQ.then_exit ?_
    refine WQ.block_here ?_
    obtain rfl := Option.some.inj hm
    obtain rfl := afterN_done hl575
    have hm := hmo576
    refine WQ.then_normal (hK413 _ _ _ ?_)
    refine WP.region ?_
    refine WL.runk 2 [0, 1, 2, 8, 9, 42, 43] [(0, .pointer (some ⟨b0', 0, none⟩)), (1, .int .i64 rows_1), (2, .int .i64 columns_2), (8, .bool x13.1), (9, .int .i64 st383.2.1), (42, .slice a384 st383.1.length c385), (43, .slice a568 st567.1.length c569)] (by kernel_rfl) ?_
    refine WL.st (.string (bs (ofBytes st567.1))) (ST.b2s (SH.rd (SH.front 0 hS574)) (SH.le (SH.front 0 hS574)).2 rfl rfl Try.underlying46 Try.underlying9 Try.underlying5) rfl rfl rfl ?_
    refine WL.row fStr 9 ([(ofBytes st567.1)] : List (List UInt8)) 1 #[.string (bs (ofBytes st567.1))] 45 (by kernel_rfl) rfl rfl rfl rfl rfl rfl rfl ?_
    intro a701 c702 w703 hE704 hR705
    have hb707 : Below B w w703 := Below.trans hb572 (Below.mono hE704 hL573)
    have hL708 : B ≤ w703.heap.size := Nat.le_trans hL573 hE704.size
    have hS709 : SH w703 B (aOwn fStr 9 a701 c702 ([(ofBytes st567.1)] : List (List UInt8)) :: aOwn fU8 5 a568 c569 st567.1 :: aOwn fStr 9 a384 c385 st383.1 :: aBox 77 b0' [.slice a0_code' s_0_code.length c0_code', .int .i64 st567.2.2.1, .int .u64 st567.2.2.2] :: L) := SH.add hS574 hE704 hL573 hR705
    obtain ⟨x710, hx711, hm⟩ := bindE hm
    refine WL.append (F := fStr) (xs := st383.1) (ys := ([(ofBytes st567.1)] : List (List UInt8))) 46 (SH.front 2 hS709) hL708 (SH.rd (SH.front 0 hS709)) hx711 rfl rfl rfl Try.underlying22 (info9).1 (info9).2.2.1 (info9).2.1 (info9).2.2.2 rfl rfl rfl rfl rfl ?_
    intro a712 c713 w714 hB715 hS716
    have hb717 : Below B w w714 := Below.trans hb707 hB715
    have hL718 : B ≤ w714.heap.size := Nat.le_trans hL708 hB715.size
    refine WL.runk 1 [0, 1, 2, 7, 8, 9] [(0, .pointer (some ⟨b0', 0, none⟩)), (1, .int .i64 rows_1), (2, .int .i64 columns_2), (8, .bool x13.1), (9, .int .i64 st383.2.1), (7, .slice a712 x710.length c713)] (by kernel_rfl) ?_
    refine WL.nil ?_
    refine WQ.block_normal ?_
    refine WQ.then_normal (hK402 _ _ _ ?_)
    refine WP.region ?_
    refine WL.runk 3 [0, 1, 2, 7, 8, 9] [(0, .pointer (some ⟨b0', 0, none⟩)), (1, .int .i64 rows_1), (2, .int .i64 columns_2), (8, .bool x13.1), (9, .int .i64 (wI64 (st383.2.1 + 1))), (7, .slice a712 x710.length c713)] (by kernel_rfl) ?_
    refine WL.nil ?_
    obtain rfl := Option.some.inj hm
    exact WQ.round hK393 ⟨(x710, (wI64 (st383.2.1 + 1)), st567.2.2.1, st567.2.2.2), _, _, rfl, hb717, hL718, (SH.cutOut 2 2 (SH.front 1 (SH.front 3 hS716))), hl391⟩ (Nat.lt_succ_self _) ⟨rfl, rfl, rfl, rfl, rfl, rfl, trivial⟩
  have hm := iteT hm hc585
  refine WP.skip ?_
  refine WQ.then_normal (hK583 _ _ _ ?_)
  refine WP.seq (fun K586 hK586 => ?_)
  refine WP.block ?_
  refine WP.seq (fun K587 hK587 => ?_)
  refine WP.region ?_
  refine WL.runk 1 [0, 1, 2, 7, 8, 9, 10, 11, 12] [(0, .pointer (some ⟨b0', 0, none⟩)), (1, .int .i64 rows_1), (2, .int .i64 columns_2), (7, .slice a384 st383.1.length c385), (8, .bool x13.1), (9, .int .i64 st383.2.1), (10, .slice a568 st567.1.length c569), (11, .int .i64 st567.2.1), (12, .int .i64 0)] (by kernel_rfl) ?_
  refine WL.nil ?_
  refine WQ.then_normal (hK587 _ _ _ ?_)
  refine WP.seq (fun K588 hK588 => ?_)
  refine WP.seq (fun K589 hK589 => ?_)
  obtain ⟨x622, hx623, hm⟩ := bindE hm
  refine WP.cut (fun env' w' => env' = [(0, .pointer (some ⟨b0', 0, none⟩)), (1, .int .i64 rows_1), (2, .int .i64 columns_2), (7, .slice a384 st383.1.length c385), (8, .bool x13.1), (9, .int .i64 st383.2.1), (10, .slice a568 st567.1.length c569), (11, .int .i64 st567.2.1), (12, .int .i64 0), (33, .bool x622.1)] ∧ Below B w w' ∧ B ≤ w'.heap.size ∧ SH w' B (aOwn fU8 5 a568 c569 st567.1 :: aOwn fStr 9 a384 c385 st383.1 :: aBox 77 b0' [.slice a0_code' s_0_code.length c0_code', .int .i64 x622.2.1, .int .u64 x622.2.2] :: L)) ?_ ?_
  · have hm := hx623; clear hx623
    refine WP.region ?_
    refine WL.runk 3 [0, 1, 2, 7, 8, 9, 10, 11, 12, 29] [(0, .pointer (some ⟨b0', 0, none⟩)), (1, .int .i64 rows_1), (2, .int .i64 columns_2), (7, .slice a384 st383.1.length c385), (8, .bool x13.1), (9, .int .i64 st383.2.1), (10, .slice a568 st567.1.length c569), (11, .int .i64 st567.2.1), (12, .int .i64 0), (29, .bool (!x13.1))] (by kernel_rfl) ?_
    refine WL.case (!x13.1) [29] ⟨rfl, trivial⟩ (fun hc624 => ?_) (fun hc624 => ?_)
    rotate_left
    · have hm := iteF hm hc624
      refine WL.runk 4 [0, 1, 2, 7, 8, 9, 10, 11, 12, 33] [(0, .pointer (some ⟨b0', 0, none⟩)), (1, .int .i64 rows_1), (2, .int .i64 columns_2), (7, .slice a384 st383.1.length c385), (8, .bool x13.1), (9, .int .i64 st383.2.1), (10, .slice a568 st567.1.length c569), (11, .int .i64 st567.2.1), (12, .int .i64 0), (33, .bool false)] (by kernel_rfl) ?_
      refine WL.nil ?_
      obtain rfl := Option.some.inj hm
      exact WQ.post' ⟨rfl, hb572, hL573, hS574⟩ ⟨rfl, rfl, rfl, rfl, rfl, rfl, rfl, rfl, rfl, rfl, trivial⟩
    have hm := iteT hm hc624
    refine WL.runk 1 [0, 1, 2, 7, 8, 9, 10, 11, 12, 29, 30] [(0, .pointer (some ⟨b0', 0, none⟩)), (1, .int .i64 rows_1), (2, .int .i64 columns_2), (7, .slice a384 st383.1.length c385), (8, .bool x13.1), (9, .int .i64 st383.2.1), (10, .slice a568 st567.1.length c569), (11, .int .i64 st567.2.1), (12, .int .i64 0), (29, .bool true), (30, .pointer (some ⟨b0', 0, none⟩))] (by kernel_rfl) ?_
    obtain ⟨x625, hx626, hm⟩ := bindE hm
    refine WL.call 83 #[.pointer (some ⟨b0', 0, none⟩), .int .i64 2] rfl rfl (by kernel_rfl) (c_83 n s_0_code a0_code' c0_code' st567.2.2.1 st567.2.2.2 b0' 2 w571 w0 B (aOwn fU8 5 a568 c569 st567.1 :: aOwn fStr 9 a384 c385 st383.1 :: L) hx626 (Below.trans hE0 (Below.mono hb572 hW)) hW hL573 h0_code hle0_code (SH.front 2 (SH.front 1 (SH.front 1 hS574)))) ?_
    rintro _ w627 ⟨rfl, hB631, hS630⟩
    refine ⟨_, rfl, ?_⟩
    have hb632 : Below B w w627 := Below.trans hb572 hB631
    have hL633 : B ≤ w627.heap.size := Nat.le_trans hL573 hB631.size
    refine WL.runk 2 [0, 1, 2, 7, 8, 9, 10, 11, 12, 33] [(0, .pointer (some ⟨b0', 0, none⟩)), (1, .int .i64 rows_1), (2, .int .i64 columns_2), (7, .slice a384 st383.1.length c385), (8, .bool x13.1), (9, .int .i64 st383.2.1), (10, .slice a568 st567.1.length c569), (11, .int .i64 st567.2.1), (12, .int .i64 0), (33, .bool (!x625.1))] (by kernel_rfl) ?_
    refine WL.nil ?_
    obtain rfl := Option.some.inj hm
    exact WQ.post' ⟨rfl, hb632, hL633, (SH.front 2 (SH.front 2 hS630))⟩ ⟨rfl, rfl, rfl, rfl, rfl, rfl, rfl, rfl, rfl, rfl, trivial⟩
  clear hx623
  rintro _ w634 ⟨rfl, hb635, hL636, hS637⟩
  refine WQ.then_normal (hK589 _ _ _ ?_)
  obtain ⟨x668, hx669, hm⟩ := bindE hm
  refine WP.cut (fun env' w' => env' = [(0, .pointer (some ⟨b0', 0, none⟩)), (1, .int .i64 rows_1), (2, .int .i64 columns_2), (7, .slice a384 st383.1.length c385), (8, .bool x13.1), (9, .int .i64 st383.2.1), (10, .slice a568 st567.1.length c569), (11, .int .i64 st567.2.1), (12, .int .i64 x668.1)] ∧ Below B w w' ∧ B ≤ w'.heap.size ∧ SH w' B (aOwn fU8 5 a568 c569 st567.1 :: aOwn fStr 9 a384 c385 st383.1 :: aBox 77 b0' [.slice a0_code' s_0_code.length c0_code', .int .i64 x668.2.1, .int .u64 x668.2.2] :: L)) ?_ ?_
  · have hm := hx669; clear hx669
    refine WP.cond x622.1 rfl rfl (fun hc638 => ?_) (fun hc638 => ?_)
    rotate_left
    · have hm := iteF hm hc638
      refine WP.skip ?_
      obtain rfl := Option.some.inj hm
      exact WQ.post' ⟨rfl, hb635, hL636, hS637⟩ ⟨rfl, rfl, rfl, rfl, rfl, rfl, rfl, rfl, rfl, trivial⟩
    have hm := iteT hm hc638
    refine WP.region ?_
    refine WL.runk 1 [0, 1, 2, 7, 8, 9, 10, 11, 34] [(0, .pointer (some ⟨b0', 0, none⟩)), (1, .int .i64 rows_1), (2, .int .i64 columns_2), (7, .slice a384 st383.1.length c385), (8, .bool x13.1), (9, .int .i64 st383.2.1), (10, .slice a568 st567.1.length c569), (11, .int .i64 st567.2.1), (34, .pointer (some ⟨b0', 0, none⟩))] (by kernel_rfl) ?_
    obtain ⟨x670, hx671, hm⟩ := bindE hm
    refine WL.call 82 #[.pointer (some ⟨b0', 0, none⟩), .int .i64 10] rfl rfl (by kernel_rfl) (c_82 n s_0_code a0_code' c0_code' x622.2.1 x622.2.2 b0' 10 w634 w0 B (aOwn fU8 5 a568 c569 st567.1 :: aOwn fStr 9 a384 c385 st383.1 :: L) hx671 (Below.trans hE0 (Below.mono hb635 hW)) hW hL636 h0_code hle0_code (SH.front 2 (SH.front 1 (SH.front 1 hS637)))) ?_
    rintro _ w672 ⟨rfl, hB676, hS675⟩
    refine ⟨_, rfl, ?_⟩
    have hb677 : Below B w w672 := Below.trans hb635 hB676
    have hL678 : B ≤ w672.heap.size := Nat.le_trans hL636 hB676.size
    refine WL.runk 1 [0, 1, 2, 7, 8, 9, 10, 11, 12] [(0, .pointer (some ⟨b0', 0, none⟩)), (1, .int .i64 rows_1), (2, .int .i64 columns_2), (7, .slice a384 st383.1.length c385), (8, .bool x13.1), (9, .int .i64 st383.2.1), (10, .slice a568 st567.1.length c569), (11, .int .i64 st567.2.1), (12, .int .i64 x670.1)] (by kernel_rfl) ?_
    refine WL.nil ?_
    obtain rfl := Option.some.inj hm
    exact WQ.post' ⟨rfl, hb677, hL678, (SH.front 2 (SH.front 2 hS675))⟩ ⟨rfl, rfl, rfl, rfl, rfl, rfl, rfl, rfl, rfl, trivial⟩
  clear hx669
  rintro _ w679 ⟨rfl, hb680, hL681, hS682⟩
  refine WQ.then_normal (hK588 _ _ _ ?_)
  refine WP.region ?_
  refine WL.runk 4 [0, 1, 2, 7, 8, 9, 11, 36, 39] [(0, .pointer (some ⟨b0', 0, none⟩)), (1, .int .i64 rows_1), (2, .int .i64 columns_2), (7, .slice a384 st383.1.length c385), (8, .bool x13.1), (9, .int .i64 st383.2.1), (11, .int .i64 st567.2.1), (36, .slice a568 st567.1.length c569), (39, .int .u8 (IntKind.u8.wrap (wI64 (48 + x668.1))))] (by kernel_rfl) ?_
  refine WL.row fU8 5 ([(IntKind.u8.wrap (wI64 (48 + x668.1)))] : List Int) 1 #[.int .u8 (IntKind.u8.wrap (wI64 (48 + x668.1)))] 40 (by kernel_rfl) rfl rfl rfl rfl rfl rfl rfl ?_
  intro a683 c684 w685 hE686 hR687
  have hb689 : Below B w w685 := Below.trans hb680 (Below.mono hE686 hL681)
  have hL690 : B ≤ w685.heap.size := Nat.le_trans hL681 hE686.size
  have hS691 : SH w685 B (aOwn fU8 5 a683 c684 ([(IntKind.u8.wrap (wI64 (48 + x668.1)))] : List Int) :: aOwn fU8 5 a568 c569 st567.1 :: aOwn fStr 9 a384 c385 st383.1 :: aBox 77 b0' [.slice a0_code' s_0_code.length c0_code', .int .i64 x668.2.1, .int .u64 x668.2.2] :: L) := SH.add hS682 hE686 hL681 hR687
  obtain ⟨x692, hx693, hm⟩ := bindE hm
  refine WL.append (F := fU8) (xs := st567.1) (ys := ([(IntKind.u8.wrap (wI64 (48 + x668.1)))] : List Int)) 41 (SH.front 1 hS691) hL690 (SH.rd (SH.front 0 hS691)) hx693 rfl rfl rfl Try.underlying46 (info5).1 (info5).2.2.1 (info5).2.1 (info5).2.2.2 rfl rfl rfl rfl rfl ?_
  intro a694 c695 w696 hB697 hS698
  have hb699 : Below B w w696 := Below.trans hb689 hB697
  have hL700 : B ≤ w696.heap.size := Nat.le_trans hL690 hB697.size
  refine WL.runk 1 [0, 1, 2, 7, 8, 9, 10, 11] [(0, .pointer (some ⟨b0', 0, none⟩)), (1, .int .i64 rows_1), (2, .int .i64 columns_2), (7, .slice a384 st383.1.length c385), (8, .bool x13.1), (9, .int .i64 st383.2.1), (11, .int .i64 st567.2.1), (10, .slice a694 x692.length c695)] (by kernel_rfl) ?_
  refine WL.nil ?_
  refine WQ.block_normal ?_
  refine WQ.then_normal (hK586 _ _ _ ?_)
  refine WP.region ?_
  refine WL.runk 3 [0, 1, 2, 7, 8, 9, 10, 11] [(0, .pointer (some ⟨b0', 0, none⟩)), (1, .int .i64 rows_1), (2, .int .i64 columns_2), (7, .slice a384 st383.1.length c385), (8, .bool x13.1), (9, .int .i64 st383.2.1), (11, .int .i64 (wI64 (st567.2.1 + 1))), (10, .slice a694 x692.length c695)] (by kernel_rfl) ?_
  refine WL.nil ?_
  obtain rfl := Option.some.inj hm
  exact WQ.round hK577 ⟨(x692, (wI64 (st567.2.1 + 1)), x668.2.1, x668.2.2), _, _, rfl, hb699, hL700, (SH.cutOut 3 1 (SH.front 2 (SH.front 3 (SH.front 3 hS698)))), hl575⟩ (Nat.lt_succ_self _) ⟨rfl, rfl, rfl, rfl, rfl, rfl, rfl, rfl, trivial⟩

theorem c_68 (n : Nat) (s_0_code : List Int) (a0_code' : Option Addr) (c0_code' : Nat) (s_0_at_ : Int) (s_0_seed : Int) (b0' : Nat) (w : World) (w0 : World) (B : Nat) (L : List Asrt) {r : List (List UInt8) × Int × Int} (hm : m_spec_l20New n s_0_code s_0_at_ s_0_seed = some r) (hE0 : Ext w0 w) (hW : w0.heap.size ≤ B) (hL : B ≤ w.heap.size) (h0_code : Rd fU8.ty w0 a0_code' s_0_code) (hle0_code : s_0_code.length ≤ c0_code') (hS : SH w B (aBox 77 b0' [.slice a0_code' s_0_code.length c0_code', .int .i64 s_0_at_, .int .u64 s_0_seed] :: L)) :
    CallV Try.prog 68 #[.pointer (some ⟨b0', 0, none⟩)] w (fun v w' => ∃ (ra0 : Option Addr) (rc0 : Nat), v = .slice ra0 r.1.length rc0 ∧ Below B w w' ∧ SH w' B (aOwn fStr 9 ra0 rc0 r.1 :: aBox 77 b0' [.slice a0_code' s_0_code.length c0_code', .int .i64 r.2.1, .int .u64 r.2.2] :: L)) := by
  unfold m_spec_l20New at hm
  refine CallV.enter Try.func68 rfl (by kernel_rfl) Try.ntmps68 (env := [(0, .pointer (some ⟨b0', 0, none⟩))]) ⟨rfl, trivial⟩ ?_
  refine WP.seq (fun K1 hK1 => ?_)
  refine WP.region ?_
  refine WL.runk 1 [0] [(0, .pointer (some ⟨b0', 0, none⟩))] (by kernel_rfl) ?_
  refine WL.nil ?_
  refine WQ.then_normal (hK1 _ _ _ ?_)
  refine WP.seq (fun K2 hK2 => ?_)
  refine WP.region ?_
  refine WL.runk 1 [0, 5] [(0, .pointer (some ⟨b0', 0, none⟩)), (5, .pointer (some ⟨b0', 0, none⟩))] (by kernel_rfl) ?_
  obtain ⟨x3, hx4, hm⟩ := bindE hm
  refine WL.call 82 #[.pointer (some ⟨b0', 0, none⟩), .int .i64 6] rfl rfl (by kernel_rfl) (c_82 n s_0_code a0_code' c0_code' s_0_at_ s_0_seed b0' 6 w w0 B (L) hx4 (Below.trans hE0 (Below.mono (Below.refl _ _) hW)) hW hL h0_code hle0_code hS) ?_
  rintro _ w5 ⟨rfl, hB9, hS8⟩
  refine ⟨_, rfl, ?_⟩
  have hb10 : Below B w w5 := Below.trans (Below.refl _ _) hB9
  have hL11 : B ≤ w5.heap.size := Nat.le_trans hL hB9.size
  refine WL.runk 2 [0, 3] [(0, .pointer (some ⟨b0', 0, none⟩)), (3, .int .i64 (wI64 (2 + x3.1)))] (by kernel_rfl) ?_
  refine WL.nil ?_
  refine WQ.then_normal (hK2 _ _ _ ?_)
  refine WP.seq (fun K12 hK12 => ?_)
  refine WP.region ?_
  refine WL.runk 1 [0, 3, 8] [(0, .pointer (some ⟨b0', 0, none⟩)), (3, .int .i64 (wI64 (2 + x3.1))), (8, .pointer (some ⟨b0', 0, none⟩))] (by kernel_rfl) ?_
  obtain ⟨x13, hx14, hm⟩ := bindE hm
  refine WL.call 82 #[.pointer (some ⟨b0', 0, none⟩), .int .i64 5] rfl rfl (by kernel_rfl) (c_82 n s_0_code a0_code' c0_code' x3.2.1 x3.2.2 b0' 5 w5 w0 B (L) hx14 (Below.trans hE0 (Below.mono hb10 hW)) hW hL11 h0_code hle0_code hS8) ?_
  rintro _ w15 ⟨rfl, hB19, hS18⟩
  refine ⟨_, rfl, ?_⟩
  have hb20 : Below B w w15 := Below.trans hb10 hB19
  have hL21 : B ≤ w15.heap.size := Nat.le_trans hL11 hB19.size
  refine WL.runk 2 [0, 3, 4] [(0, .pointer (some ⟨b0', 0, none⟩)), (3, .int .i64 (wI64 (2 + x3.1))), (4, .int .i64 (wI64 (2 + x13.1)))] (by kernel_rfl) ?_
  refine WL.nil ?_
  refine WQ.then_normal (hK12 _ _ _ ?_)
  refine WP.seq (fun K22 hK22 => ?_)
  refine WP.region ?_
  refine WL.runk 3 [11, 12, 13] [(11, .pointer (some ⟨b0', 0, none⟩)), (12, .int .i64 (wI64 (2 + x3.1))), (13, .int .i64 (wI64 (2 + x13.1)))] (by kernel_rfl) ?_
  obtain ⟨x23, hx24, hm⟩ := bindE hm
  refine WL.call 75 #[.pointer (some ⟨b0', 0, none⟩), .int .i64 (wI64 (2 + x3.1)), .int .i64 (wI64 (2 + x13.1))] rfl rfl (by kernel_rfl) (c_75 n s_0_code a0_code' c0_code' x13.2.1 x13.2.2 b0' (wI64 (2 + x3.1)) (wI64 (2 + x13.1)) w15 w0 B (L) hx24 (Below.trans hE0 (Below.mono hb20 hW)) hW hL21 h0_code hle0_code hS18) ?_
  rintro _ w28 ⟨a25, c26, rfl, hB32, hS31⟩
  refine ⟨_, rfl, ?_⟩
  have hb33 : Below B w w28 := Below.trans hb20 hB32
  have hL34 : B ≤ w28.heap.size := Nat.le_trans hL21 hB32.size
  refine WL.runk 1 [2] [(2, .slice a25 x23.1.length c26)] (by kernel_rfl) ?_
  refine WL.nil ?_
  refine WQ.then_normal (hK22 _ _ _ ?_)
  refine WP.ret ?_
  obtain rfl := Option.some.inj hm
  exact WQ.ret1 _ rfl rfl ⟨_, _, rfl, hb33, hS31⟩

theorem c_69 (n : Nat) (code_0 : List Int) (a0' : Option Addr) (c0' : Nat) (w : World) {r : (Int × Int)} (hm : m_spec_l00From n code_0 = some r) (_h0 : Rd fU8.ty w a0' code_0) (_hle0 : code_0.length ≤ c0') :
    CallV Try.prog 69 #[.slice a0' code_0.length c0'] w (fun v w' => ∃ (rb0 : Nat), v = .pointer (some ⟨rb0, 0, none⟩) ∧ Ext w w' ∧ SH w' w.heap.size [aBox 77 rb0 [.slice a0' code_0.length c0', .int .i64 r.1, .int .u64 r.2]]) := by
  unfold m_spec_l00From at hm
  refine CallV.enter Try.func69 rfl (by kernel_rfl) Try.ntmps69 (env := [(0, .slice a0' code_0.length c0')]) ⟨rfl, trivial⟩ ?_
  refine WP.seq (fun K1 hK1 => ?_)
  refine WP.region ?_
  refine WL.runk 1 [0] [(0, .slice a0' code_0.length c0')] (by kernel_rfl) ?_
  refine WL.nil ?_
  refine WQ.then_normal (hK1 _ _ _ ?_)
  refine WP.seq (fun K2 hK2 => ?_)
  refine WP.region ?_
  refine WL.runk 2 [4] [(4, .agg #[.slice a0' code_0.length c0', .int .i64 0, .int .u64 0])] (by kernel_rfl) ?_
  refine WL.box 77 [.slice a0' code_0.length c0', .int .i64 0, .int .u64 0] 5 (by kernel_rfl) rfl rfl rfl rfl ?_
  intro b3 w4 hE5 hR6
  have hb8 : Ext w w4 := Ext.trans (Ext.refl w) hE5
  have hL9 : w.heap.size ≤ w4.heap.size := Nat.le_trans (Nat.le_refl _) hE5.size
  have hS10 : SH w4 w.heap.size [aBox 77 b3 [.slice a0' code_0.length c0', .int .i64 0, .int .u64 0]] := SH.add (SH.nil _ _) hE5 (Nat.le_refl _) hR6
  refine WL.runk 1 [2] [(2, .pointer (some ⟨b3, 0, none⟩))] (by kernel_rfl) ?_
  refine WL.nil ?_
  refine WQ.then_normal (hK2 _ _ _ ?_)
  refine WP.ret ?_
  obtain rfl := Option.some.inj hm
  exact WQ.ret1 _ rfl rfl ⟨_, rfl, hb8, hS10⟩

theorem c_41 (n : Nat) (code_0 : List Int) (a0' : Option Addr) (c0' : Nat) (w : World) {r : List (List UInt8)} (hm : m_spec_A2Wear n code_0 = some r) (h0 : Rd fU8.ty w a0' code_0) (hle0 : code_0.length ≤ c0') :
    CallV Try.prog 41 #[.slice a0' code_0.length c0'] w (fun v w' => ∃ (ra0 : Option Addr) (rc0 : Nat), v = .slice ra0 r.length rc0 ∧ Ext w w' ∧ SH w' w.heap.size [aOwn fStr 9 ra0 rc0 r]) := by
  unfold m_spec_A2Wear at hm
  refine CallV.enter Try.func41 rfl (by kernel_rfl) Try.ntmps41 (env := [(0, .slice a0' code_0.length c0')]) ⟨rfl, trivial⟩ ?_
  refine WP.seq (fun K1 hK1 => ?_)
  refine WP.region ?_
  refine WL.runk 1 [0] [(0, .slice a0' code_0.length c0')] (by kernel_rfl) ?_
  refine WL.nil ?_
  refine WQ.then_normal (hK1 _ _ _ ?_)
  refine WP.seq (fun K2 hK2 => ?_)
  refine WP.region ?_
  refine WL.runk 1 [3] [(3, .slice a0' code_0.length c0')] (by kernel_rfl) ?_
  obtain ⟨x3, hx4, hm⟩ := bindE hm
  refine WL.call 69 #[.slice a0' code_0.length c0'] rfl rfl (by kernel_rfl) (c_69 n code_0 a0' c0' w hx4 (Rd.below h0 (Ext.refl w)) hle0) ?_
  rintro _ w7 ⟨b5, rfl, hE8, hR9⟩
  refine ⟨_, rfl, ?_⟩
  have hb10 : Ext w w7 := Ext.trans (Ext.refl w) hE8
  have hL11 : w.heap.size ≤ w7.heap.size := Nat.le_trans (Nat.le_refl _) hE8.size
  have hS12 : SH w7 w.heap.size [aBox 77 b5 [.slice a0' code_0.length c0', .int .i64 x3.1, .int .u64 x3.2]] := SH.add (SH.nil _ _) hE8 (Nat.le_refl _) hR9
  obtain ⟨x13, hx14, hm⟩ := bindE hm
  refine WL.call 68 #[.pointer (some ⟨b5, 0, none⟩)] rfl rfl (by kernel_rfl) (c_68 n code_0 a0' c0' x3.1 x3.2 b5 w7 w w.heap.size [] hx14 hb10 (Nat.le_refl _) hL11 h0 hle0 hS12) ?_
  rintro _ w18 ⟨a15, c16, rfl, hB22, hS21⟩
  refine ⟨_, rfl, ?_⟩
  have hb23 : Ext w w18 := Below.trans hb10 hB22
  have hL24 : w.heap.size ≤ w18.heap.size := Nat.le_trans hL11 hB22.size
  refine WL.runk 1 [2] [(2, .slice a15 x13.1.length c16)] (by kernel_rfl) ?_
  refine WL.nil ?_
  refine WQ.then_normal (hK2 _ _ _ ?_)
  refine WP.ret ?_
  obtain rfl := Option.some.inj hm
  exact WQ.ret1 _ rfl rfl ⟨_, _, rfl, hb23, (SH.take 1 hS21)⟩

theorem c_70 (n : Nat) (a_0 : Int) (b_1 : Int) (w : World) {r : Int} (hm : m_impl_apart n a_0 b_1 = some r)  :
    CallV Try.prog 70 #[.int .i64 a_0, .int .i64 b_1] w (fun v w' => v = .int .i64 r ∧ Ext w w') := by
  unfold m_impl_apart at hm
  refine CallV.enter Try.func70 rfl (by kernel_rfl) Try.ntmps70 (env := [(0, .int .i64 a_0), (1, .int .i64 b_1)]) ⟨rfl, rfl, trivial⟩ ?_
  refine WP.seq (fun K1 hK1 => ?_)
  refine WP.region ?_
  refine WL.runk 1 [0, 1] [(0, .int .i64 a_0), (1, .int .i64 b_1)] (by kernel_rfl) ?_
  refine WL.nil ?_
  refine WQ.then_normal (hK1 _ _ _ ?_)
  refine WP.seq (fun K2 hK2 => ?_)
  refine WP.region ?_
  refine WL.runk 8 [4] [(4, .int .i64 (imax (wI64 (a_0 - b_1)) (wI64 (b_1 - a_0))))] (by kernel_rfl) ?_
  refine WL.nil ?_
  refine WQ.then_normal (hK2 _ _ _ ?_)
  refine WP.ret ?_
  obtain rfl := Option.some.inj hm
  exact WQ.ret1 _ rfl rfl ⟨rfl, (Ext.refl w)⟩

theorem c_42 (n : Nat) (left_0 : List (List UInt8)) (a0' : Option Addr) (c0' : Nat) (right_1 : List (List UInt8)) (a1' : Option Addr) (c1' : Nat) (most_2 : Int) (w : World) {r : List Int × Int} (hm : m_impl_StrangeFields n left_0 right_1 most_2 = some r) (h0 : Rd fStr.ty w a0' left_0) (hle0 : left_0.length ≤ c0') (h1 : Rd fStr.ty w a1' right_1) (hle1 : right_1.length ≤ c1') :
    CallV Try.prog 42 #[.slice a0' left_0.length c0', .slice a1' right_1.length c1', .int .i64 most_2] w (fun v w' => ∃ (ra0 : Option Addr) (rc0 : Nat), v = .tuple #[.slice ra0 r.1.length rc0, .int .i64 r.2] ∧ Ext w w' ∧ SH w' w.heap.size [aOwn fInt 2 ra0 rc0 r.1]) := by
  unfold m_impl_StrangeFields at hm
  refine CallV.enter Try.func42 rfl (by kernel_rfl) Try.ntmps42 (env := [(0, .slice a0' left_0.length c0'), (1, .slice a1' right_1.length c1'), (2, .int .i64 most_2)]) ⟨rfl, rfl, rfl, trivial⟩ ?_
  refine WP.seq (fun K1 hK1 => ?_)
  refine WP.region ?_
  refine WL.runk 2 [0, 1, 2] [(0, .slice a0' left_0.length c0'), (1, .slice a1' right_1.length c1'), (2, .int .i64 most_2)] (by kernel_rfl) ?_
  refine WL.nil ?_
  refine WQ.then_normal (hK1 _ _ _ ?_)
  refine WP.seq (fun K2 hK2 => ?_)
  refine WP.block ?_
  refine WP.seq (fun K3 hK3 => ?_)
  obtain ⟨x21, hx22, hm⟩ := bindE hm
  refine WP.cut (fun env' w' => env' = [(0, .slice a0' left_0.length c0'), (1, .slice a1' right_1.length c1'), (2, .int .i64 most_2), (12, .bool x21)] ∧ Ext w w' ∧ w.heap.size ≤ w'.heap.size ∧ SH w' w.heap.size []) ?_ ?_
  · have hm := hx22; clear hx22
    refine WP.region ?_
    refine WL.runk 1 [0, 1, 2, 13] [(0, .slice a0' left_0.length c0'), (1, .slice a1' right_1.length c1'), (2, .int .i64 most_2), (13, .slice a0' left_0.length c0')] (by kernel_rfl) ?_
    obtain ⟨x23, hx24, hm⟩ := bindE hm
    refine WL.call 18 #[.slice a0' left_0.length c0'] rfl rfl (by kernel_rfl) (c_18 n left_0 a0' c0' w hx24 (Rd.below h0 (Ext.refl w)) hle0) ?_
    rintro _ w25 ⟨rfl, hE26⟩
    refine ⟨_, rfl, ?_⟩
    have hb28 : Ext w w25 := Ext.trans (Ext.refl w) hE26
    have hL29 : w.heap.size ≤ w25.heap.size := Nat.le_trans (Nat.le_refl _) hE26.size
    have hS30 : SH w25 w.heap.size [] := SH.ext (SH.nil _ _) hE26
    refine WL.runk 2 [0, 1, 2, 16] [(0, .slice a0' left_0.length c0'), (1, .slice a1' right_1.length c1'), (2, .int .i64 most_2), (16, .bool (!x23))] (by kernel_rfl) ?_
    refine WL.case (!x23) [16] ⟨rfl, trivial⟩ (fun hc31 => ?_) (fun hc31 => ?_)
    · have hm := iteT hm hc31
      refine WL.runk 5 [0, 1, 2, 12] [(0, .slice a0' left_0.length c0'), (1, .slice a1' right_1.length c1'), (2, .int .i64 most_2), (12, .bool true)] (by kernel_rfl) ?_
      refine WL.nil ?_
      obtain rfl := Option.some.inj hm
      exact WQ.post' ⟨rfl, hb28, hL29, hS30⟩ ⟨rfl, rfl, rfl, rfl, trivial⟩
    have hm := iteF hm hc31
    refine WL.runk 1 [0, 1, 2, 16, 17] [(0, .slice a0' left_0.length c0'), (1, .slice a1' right_1.length c1'), (2, .int .i64 most_2), (16, .bool false), (17, .slice a1' right_1.length c1')] (by kernel_rfl) ?_
    obtain ⟨x32, hx33, hm⟩ := bindE hm
    refine WL.call 18 #[.slice a1' right_1.length c1'] rfl rfl (by kernel_rfl) (c_18 n right_1 a1' c1' w25 hx33 (Rd.below h1 hb28) hle1) ?_
    rintro _ w34 ⟨rfl, hE35⟩
    refine ⟨_, rfl, ?_⟩
    have hb37 : Ext w w34 := Ext.trans hb28 hE35
    have hL38 : w.heap.size ≤ w34.heap.size := Nat.le_trans hL29 hE35.size
    have hS39 : SH w34 w.heap.size [] := SH.ext hS30 hE35
    refine WL.runk 3 [0, 1, 2, 12] [(0, .slice a0' left_0.length c0'), (1, .slice a1' right_1.length c1'), (2, .int .i64 most_2), (12, .bool (!x32))] (by kernel_rfl) ?_
    refine WL.nil ?_
    obtain rfl := Option.some.inj hm
    exact WQ.post' ⟨rfl, hb37, hL38, hS39⟩ ⟨rfl, rfl, rfl, rfl, trivial⟩
  clear hx22
  rintro _ w40 ⟨rfl, hb41, hL42, hS43⟩
  refine WQ.then_normal (hK3 _ _ _ ?_)
  refine WP.cond x21 rfl rfl (fun hc44 => ?_) (fun hc44 => ?_)
  · have hm := iteT hm hc44
    refine WP.seq (fun K45 hK45 => ?_)
    refine WP.region ?_
    refine WL.runk 2 [6, 7] [(6, .slice none 0 0), (7, .int .i64 1)] (by kernel_rfl) ?_
    refine WL.nil ?_
    refine WQ.then_normal (hK45 _ _ _ ?_)
    refine WP.ret ?_
    refine WQ.block_ret ?_
    refine WQ.then_ret ?_
    obtain rfl := Option.some.inj hm
    have hS47 : SH w40 w.heap.size [aOwn fInt 2 none 0 ([] : List Int)] := SH.nilOwn hS43
    exact WQ.ret2 _ _ rfl rfl rfl ⟨_, _, rfl, hb41, hS47⟩
  have hm := iteF hm hc44
  refine WP.seq (fun K48 hK48 => ?_)
  refine WP.region ?_
  refine WL.runk 1 [0, 1, 2, 22] [(0, .slice a0' left_0.length c0'), (1, .slice a1' right_1.length c1'), (2, .int .i64 most_2), (22, .int .i64 most_2)] (by kernel_rfl) ?_
  obtain ⟨x49, hx50, hm⟩ := bindE hm
  refine WL.call 50 #[.int .i64 most_2, .int .i64 0, .int .i64 9] rfl rfl (by kernel_rfl) (c_50 n most_2 0 9 w40 hx50 ) ?_
  rintro _ w51 ⟨rfl, hE52⟩
  refine ⟨_, rfl, ?_⟩
  have hb54 : Ext w w51 := Ext.trans hb41 hE52
  have hL55 : w.heap.size ≤ w51.heap.size := Nat.le_trans hL42 hE52.size
  have hS56 : SH w51 w.heap.size [] := SH.ext hS43 hE52
  refine WL.runk 2 [0, 1, 2, 21] [(0, .slice a0' left_0.length c0'), (1, .slice a1' right_1.length c1'), (2, .int .i64 most_2), (21, .bool (!x49))] (by kernel_rfl) ?_
  refine WL.nil ?_
  refine WQ.then_normal (hK48 _ _ _ ?_)
  refine WP.cond (!x49) rfl rfl (fun hc57 => ?_) (fun hc57 => ?_)
  · have hm := iteT hm hc57
    refine WP.seq (fun K58 hK58 => ?_)
    refine WP.region ?_
    refine WL.runk 2 [6, 7] [(6, .slice none 0 0), (7, .int .i64 2)] (by kernel_rfl) ?_
    refine WL.nil ?_
    refine WQ.then_normal (hK58 _ _ _ ?_)
    refine WP.ret ?_
    refine WQ.block_ret ?_
    refine WQ.then_ret ?_
    obtain rfl := Option.some.inj hm
    have hS60 : SH w51 w.heap.size [aOwn fInt 2 none 0 ([] : List Int)] := SH.nilOwn hS56
    exact WQ.ret2 _ _ rfl rfl rfl ⟨_, _, rfl, hb54, hS60⟩
  have hm := iteF hm hc57
  refine WP.seq (fun K61 hK61 => ?_)
  refine WP.region ?_
  refine WL.runk 2 [0, 1, 2, 26, 27] [(0, .slice a0' left_0.length c0'), (1, .slice a1' right_1.length c1'), (2, .int .i64 most_2), (26, .slice a0' left_0.length c0'), (27, .slice a1' right_1.length c1')] (by kernel_rfl) ?_
  obtain ⟨x62, hx63, hm⟩ := bindE hm
  refine WL.call 60 #[.slice a0' left_0.length c0', .slice a1' right_1.length c1'] rfl rfl (by kernel_rfl) (c_60 n left_0 a0' c0' right_1 a1' c1' w51 hx63 (Rd.below h0 hb54) hle0 (Rd.below h1 hb54) hle1) ?_
  rintro _ w64 ⟨rfl, hE65⟩
  refine ⟨_, rfl, ?_⟩
  have hb67 : Ext w w64 := Ext.trans hb54 hE65
  have hL68 : w.heap.size ≤ w64.heap.size := Nat.le_trans hL55 hE65.size
  have hS69 : SH w64 w.heap.size [] := SH.ext hS56 hE65
  refine WL.runk 2 [0, 1, 2, 25] [(0, .slice a0' left_0.length c0'), (1, .slice a1' right_1.length c1'), (2, .int .i64 most_2), (25, .bool (x62 != 0))] (by kernel_rfl) ?_
  refine WL.nil ?_
  refine WQ.then_normal (hK61 _ _ _ ?_)
  refine WP.cond (x62 != 0) rfl rfl (fun hc70 => ?_) (fun hc70 => ?_)
  · have hm := iteT hm hc70
    refine WP.seq (fun K71 hK71 => ?_)
    refine WP.region ?_
    refine WL.runk 2 [6, 7] [(6, .slice none 0 0), (7, .int .i64 9)] (by kernel_rfl) ?_
    refine WL.nil ?_
    refine WQ.then_normal (hK71 _ _ _ ?_)
    refine WP.ret ?_
    refine WQ.block_ret ?_
    refine WQ.then_ret ?_
    obtain rfl := Option.some.inj hm
    have hS73 : SH w64 w.heap.size [aOwn fInt 2 none 0 ([] : List Int)] := SH.nilOwn hS69
    exact WQ.ret2 _ _ rfl rfl rfl ⟨_, _, rfl, hb67, hS73⟩
  have hm := iteF hm hc70
  refine WP.skip ?_
  refine WQ.block_normal ?_
  refine WQ.then_normal (hK2 _ _ _ ?_)
  refine WP.seq (fun K74 hK74 => ?_)
  refine WP.region ?_
  refine WL.row fInt 2 ([] : List Int) 0 #[] 30 (by kernel_rfl) rfl rfl rfl rfl rfl rfl rfl ?_
  intro a75 c76 w77 hE78 hR79
  have hb81 : Ext w w77 := Ext.trans hb67 hE78
  have hL82 : w.heap.size ≤ w77.heap.size := Nat.le_trans hL68 hE78.size
  have hS83 : SH w77 w.heap.size [aOwn fInt 2 a75 c76 ([] : List Int)] := SH.add hS69 hE78 hL68 hR79
  refine WL.runk 1 [0, 2, 30, 31] [(0, .slice a0' left_0.length c0'), (2, .int .i64 most_2), (30, .slice a75 (([] : List Int).length) c76), (31, .slice a1' right_1.length c1')] (by kernel_rfl) ?_
  obtain ⟨x84, hx85, hm⟩ := bindE hm
  refine WL.call 56 #[.slice a1' right_1.length c1'] rfl rfl (by kernel_rfl) (c_56 n right_1 a1' c1' w77 hx85 (Rd.below h1 hb81) hle1) ?_
  rintro _ w89 ⟨a86, c87, rfl, hE90, hR91⟩
  refine ⟨_, rfl, ?_⟩
  have hb92 : Ext w w89 := Ext.trans hb81 hE90
  have hL93 : w.heap.size ≤ w89.heap.size := Nat.le_trans hL82 hE90.size
  have hS94 : SH w89 w.heap.size [aOwn fStr 9 a86 c87 x84, aOwn fInt 2 a75 c76 ([] : List Int)] := SH.add hS83 hE90 hL82 hR91
  obtain ⟨x95, hx96, hm⟩ := bindE hm
  refine WL.call 54 #[.slice a86 x84.length c87] rfl rfl (by kernel_rfl) (c_54 n x84 a86 c87 w89 hx96 (SH.rd (SH.front 0 hS94)) (SH.le (SH.front 0 hS94)).1) ?_
  rintro _ w100 ⟨a97, c98, rfl, hE101, hR102⟩
  refine ⟨_, rfl, ?_⟩
  have hb103 : Ext w w100 := Ext.trans hb92 hE101
  have hL104 : w.heap.size ≤ w100.heap.size := Nat.le_trans hL93 hE101.size
  have hS105 : SH w100 w.heap.size [aOwn fInt 2 a97 c98 x95, aOwn fStr 9 a86 c87 x84, aOwn fInt 2 a75 c76 ([] : List Int)] := SH.add hS94 hE101 hL93 hR102
  refine WL.runk 2 [0, 2, 8, 9] [(0, .slice a0' left_0.length c0'), (2, .int .i64 most_2), (8, .slice a75 (([] : List Int).length) c76), (9, .slice a97 x95.length c98)] (by kernel_rfl) ?_
  refine WL.nil ?_
  refine WQ.then_normal (hK74 _ _ _ ?_)
  refine WP.seq (fun K106 hK106 => ?_)
  refine WP.seq (fun K107 hK107 => ?_)
  refine WP.region ?_
  refine WL.runk 1 [2, 8, 9, 34] [(2, .int .i64 most_2), (8, .slice a75 (([] : List Int).length) c76), (9, .slice a97 x95.length c98), (34, .slice a0' left_0.length c0')] (by kernel_rfl) ?_
  obtain ⟨x108, hx109, hm⟩ := bindE hm
  refine WL.call 54 #[.slice a0' left_0.length c0'] rfl rfl (by kernel_rfl) (c_54 n left_0 a0' c0' w100 hx109 (Rd.below h0 hb103) hle0) ?_
  rintro _ w113 ⟨a110, c111, rfl, hE114, hR115⟩
  refine ⟨_, rfl, ?_⟩
  have hb116 : Ext w w113 := Ext.trans hb103 hE114
  have hL117 : w.heap.size ≤ w113.heap.size := Nat.le_trans hL104 hE114.size
  have hS118 : SH w113 w.heap.size [aOwn fInt 2 a110 c111 x108, aOwn fInt 2 a97 c98 x95, aOwn fStr 9 a86 c87 x84, aOwn fInt 2 a75 c76 ([] : List Int)] := SH.add hS105 hE114 hL104 hR115
  refine WL.runk 2 [2, 8, 9, 35, 36, 37] [(2, .int .i64 most_2), (8, .slice a75 (([] : List Int).length) c76), (9, .slice a97 x95.length c98), (35, .slice a110 x108.length c111), (36, .int .i64 (x108.length : Int)), (37, .int .i64 0)] (by kernel_rfl) ?_
  refine WL.nil ?_
  refine WQ.then_normal (hK107 _ _ _ ?_)
  refine WP.block ?_
  obtain ⟨t133, ht134, hm⟩ := bindE hm
  have hmo128 := hm; clear hm
  refine WP.sub [(2, .int .i64 most_2), (8, .slice a75 (([] : List Int).length) c76), (9, .slice a97 x95.length c98), (35, .slice a110 x108.length c111), (36, .int .i64 (x108.length : Int)), (37, .int .i64 0)] ⟨rfl, rfl, rfl, rfl, rfl, rfl, trivial⟩ ?_
  refine WP.loop (fun n' env' w' => ∃ (st119 : List Int × Int) (a120 : Option Addr) (c121 : Nat), env' = [(2, .int .i64 most_2), (8, .slice a120 st119.1.length c121), (9, .slice a97 x95.length c98), (35, .slice a110 x108.length c111), (36, .int .i64 (x108.length : Int)), (37, .int .i64 st119.2)] ∧ Ext w w' ∧ w.heap.size ≤ w'.heap.size ∧ SH w' w.heap.size [aOwn fInt 2 a120 c121 st119.1, aOwn fInt 2 a110 c111 x108, aOwn fInt 2 a97 c98 x95, aOwn fStr 9 a86 c87 x84] ∧ loopN (m_impl_StrangeFields_l1 n most_2 x95 x108) n' st119 = some t133) n ⟨(([] : List Int), 0), _, _, rfl, hb116, hL117, (SH.front 3 (SH.front 2 (SH.front 2 (SH.front 2 hS118)))), ht134⟩ ?_
  rintro n130 _ w123 ⟨st119, a120, c121, rfl, hb124, hL125, hS126, hl127⟩ K129 hK129
  obtain ⟨n131, s132, rfl, hm, hl127⟩ := loopN_some hl127
  unfold m_impl_StrangeFields_l1 at hm
  refine WP.seq (fun K135 hK135 => ?_)
  refine WP.region ?_
  refine WL.runk 1 [2, 8, 9, 35, 36, 37, 38] [(2, .int .i64 most_2), (8, .slice a120 st119.1.length c121), (9, .slice a97 x95.length c98), (35, .slice a110 x108.length c111), (36, .int .i64 (x108.length : Int)), (37, .int .i64 st119.2), (38, .bool (decide (st119.2 < (x108.length : Int))))] (by kernel_rfl) ?_
  refine WL.nil ?_
  refine WQ.then_normal (hK135 _ _ _ ?_)
  refine WP.seq (fun K136 hK136 => ?_)
  refine WP.cond (decide (st119.2 < (x108.length : Int))) rfl rfl (fun hc137 => ?_) (fun hc137 => ?_)
  rotate_left
  · have hm := iteF hm hc137
    refine WP.exit ?_
    refine WQ.then_exit ?_
    refine WQ.then_exit ?_
    refine WQ.block_here ?_
    obtain rfl := Option.some.inj hm
    obtain rfl := afterN_done hl127
    have hm := hmo128
    refine WQ.then_normal (hK106 _ _ _ ?_)
    refine WP.seq (fun K199 hK199 => ?_)
    refine WP.region ?_
    refine WL.runk 3 [6, 7] [(6, .slice a120 st119.1.length c121), (7, .int .i64 0)] (by kernel_rfl) ?_
    refine WL.nil ?_
    refine WQ.then_normal (hK199 _ _ _ ?_)
    refine WP.ret ?_
    obtain rfl := Option.some.inj hm
    exact WQ.ret2 _ _ rfl rfl rfl ⟨_, _, rfl, hb124, (SH.take 1 hS126)⟩
  have hm := iteT hm hc137
  refine WP.skip ?_
  refine WQ.then_normal (hK136 _ _ _ ?_)
  refine WP.seq (fun K138 hK138 => ?_)
  refine WP.block ?_
  refine WP.seq (fun K139 hK139 => ?_)
  refine WP.region ?_
  refine WL.runk 1 [2, 8, 9, 35, 36, 37, 39] [(2, .int .i64 most_2), (8, .slice a120 st119.1.length c121), (9, .slice a97 x95.length c98), (35, .slice a110 x108.length c111), (36, .int .i64 (x108.length : Int)), (37, .int .i64 st119.2), (39, .int .i64 st119.2)] (by kernel_rfl) ?_
  obtain ⟨x140, hx141, hm⟩ := bindE hm
  refine WL.st (.pointer (some (at_ a110 (Int.toNat st119.2 * 1)))) (ST.index (T := fInt.ty) (xs := x108) (SH.rd (SH.front 1 hS126)) hx141 rfl rfl rfl Try.underlying40 (info2).1 (info2).2.1) rfl rfl rfl ?_
  refine WL.st (.int .i64 x140) (ST.load (cell_ext (Rd.flat (F := fInt) (SH.rd (SH.front 1 hS126)) hx141 0 rfl)) rfl rfl Try.underlying2 rfl) rfl rfl rfl ?_
  refine WL.runk 2 [2, 8, 9, 10, 11, 35, 36, 37] [(2, .int .i64 most_2), (8, .slice a120 st119.1.length c121), (9, .slice a97 x95.length c98), (35, .slice a110 x108.length c111), (36, .int .i64 (x108.length : Int)), (37, .int .i64 st119.2), (10, .int .i64 st119.2), (11, .int .i64 x140)] (by kernel_rfl) ?_
  refine WL.nil ?_
  refine WQ.then_normal (hK139 _ _ _ ?_)
  refine WP.seq (fun K142 hK142 => ?_)
  refine WP.region ?_
  refine WL.runk 3 [2, 8, 9, 10, 35, 36, 37, 42, 43, 44] [(2, .int .i64 most_2), (8, .slice a120 st119.1.length c121), (9, .slice a97 x95.length c98), (35, .slice a110 x108.length c111), (36, .int .i64 (x108.length : Int)), (37, .int .i64 st119.2), (10, .int .i64 st119.2), (42, .int .i64 x140), (43, .slice a97 x95.length c98), (44, .int .i64 st119.2)] (by kernel_rfl) ?_
  obtain ⟨x143, hx144, hm⟩ := bindE hm
  refine WL.st (.pointer (some (at_ a97 (Int.toNat st119.2 * 1)))) (ST.index (T := fInt.ty) (xs := x95) (SH.rd (SH.front 2 hS126)) hx144 rfl rfl rfl Try.underlying40 (info2).1 (info2).2.1) rfl rfl rfl ?_
  refine WL.st (.int .i64 x143) (ST.load (cell_ext (Rd.flat (F := fInt) (SH.rd (SH.front 2 hS126)) hx144 0 rfl)) rfl rfl Try.underlying2 rfl) rfl rfl rfl ?_
  obtain ⟨x145, hx146, hm⟩ := bindE hm
  refine WL.call 70 #[.int .i64 x140, .int .i64 x143] rfl rfl (by kernel_rfl) (c_70 n x140 x143 w123 hx146 ) ?_
  rintro _ w147 ⟨rfl, hE148⟩
  refine ⟨_, rfl, ?_⟩
  have hb150 : Ext w w147 := Ext.trans hb124 hE148
  have hL151 : w.heap.size ≤ w147.heap.size := Nat.le_trans hL125 hE148.size
  have hS152 : SH w147 w.heap.size [aOwn fInt 2 a120 c121 st119.1, aOwn fInt 2 a110 c111 x108, aOwn fInt 2 a97 c98 x95, aOwn fStr 9 a86 c87 x84] := SH.ext hS126 hE148
  refine WL.runk 2 [2, 8, 9, 10, 35, 36, 37, 49] [(2, .int .i64 most_2), (8, .slice a120 st119.1.length c121), (9, .slice a97 x95.length c98), (35, .slice a110 x108.length c111), (36, .int .i64 (x108.length : Int)), (37, .int .i64 st119.2), (10, .int .i64 st119.2), (49, .bool (decide (x145 > most_2)))] (by kernel_rfl) ?_
  refine WL.nil ?_
  refine WQ.then_normal (hK142 _ _ _ ?_)
  obtain ⟨x172, hx173, hm⟩ := bindE hm
  refine WP.cut (fun env' w' => ∃ (a174 : Option Addr) (c175 : Nat), env' = [(2, .int .i64 most_2), (8, .slice a174 x172.length c175), (9, .slice a97 x95.length c98), (35, .slice a110 x108.length c111), (36, .int .i64 (x108.length : Int)), (37, .int .i64 st119.2)] ∧ Ext w w' ∧ w.heap.size ≤ w'.heap.size ∧ SH w' w.heap.size [aOwn fInt 2 a174 c175 x172, aOwn fInt 2 a110 c111 x108, aOwn fInt 2 a97 c98 x95, aOwn fStr 9 a86 c87 x84]) ?_ ?_
  rotate_left
  · clear hx173
    rintro _ w195 ⟨a174, c175, rfl, hb196, hL197, hS198⟩
    refine WQ.block_normal ?_
    refine WQ.then_normal (hK138 _ _ _ ?_)
    refine WP.region ?_
    refine WL.runk 2 [2, 8, 9, 35, 36, 37] [(2, .int .i64 most_2), (8, .slice a174 x172.length c175), (9, .slice a97 x95.length c98), (35, .slice a110 x108.length c111), (36, .int .i64 (x108.length : Int)), (37, .int .i64 (wI64 (st119.2 + 1)))] (by kernel_rfl) ?_
    refine WL.nil ?_
    obtain rfl := Option.some.inj hm
    exact WQ.round hK129 ⟨(x172, (wI64 (st119.2 + 1))), _, _, rfl, hb196, hL197, hS198, hl127⟩ (Nat.lt_succ_self _) ⟨rfl, rfl, rfl, rfl, rfl, rfl, trivial⟩
  have hm := hx173; clear hx173
  refine WP.cond (decide (x145 > most_2)) rfl rfl (fun hc153 => ?_) (fun hc153 => ?_)
  rotate_left
  · have hm := iteF hm hc153
    refine WP.skip ?_
    obtain rfl := Option.some.inj hm
    exact WQ.post' ⟨_, _, rfl, hb150, hL151, hS152⟩ ⟨rfl, rfl, rfl, rfl, rfl, rfl, trivial⟩
  have hm := iteT hm hc153
  refine WP.region ?_
  refine WL.runk 2 [2, 9, 35, 36, 37, 50, 51] [(2, .int .i64 most_2), (9, .slice a97 x95.length c98), (35, .slice a110 x108.length c111), (36, .int .i64 (x108.length : Int)), (37, .int .i64 st119.2), (50, .slice a120 st119.1.length c121), (51, .int .i64 st119.2)] (by kernel_rfl) ?_
  refine WL.row fInt 2 ([st119.2] : List Int) 1 #[.int .i64 st119.2] 52 (by kernel_rfl) rfl rfl rfl rfl rfl rfl rfl ?_
  intro a177 c178 w179 hE180 hR181
  have hb183 : Ext w w179 := Ext.trans hb150 hE180
  have hL184 : w.heap.size ≤ w179.heap.size := Nat.le_trans hL151 hE180.size
  have hS185 : SH w179 w.heap.size [aOwn fInt 2 a177 c178 ([st119.2] : List Int), aOwn fInt 2 a120 c121 st119.1, aOwn fInt 2 a110 c111 x108, aOwn fInt 2 a97 c98 x95, aOwn fStr 9 a86 c87 x84] := SH.add hS152 hE180 hL151 hR181
  obtain ⟨x186, hx187, hm⟩ := bindE hm
  refine WL.append (F := fInt) (xs := st119.1) (ys := ([st119.2] : List Int)) 53 (SH.front 1 hS185) hL184 (SH.rd (SH.front 0 hS185)) hx187 rfl rfl rfl Try.underlying40 (info2).1 (info2).2.2.1 (info2).2.1 (info2).2.2.2 rfl rfl rfl rfl rfl ?_
  intro a188 c189 w190 hB191 hS192
  have hb193 : Ext w w190 := Below.trans hb183 hB191
  have hL194 : w.heap.size ≤ w190.heap.size := Nat.le_trans hL184 hB191.size
  refine WL.runk 1 [2, 8, 9, 35, 36, 37] [(2, .int .i64 most_2), (9, .slice a97 x95.length c98), (35, .slice a110 x108.length c111), (36, .int .i64 (x108.length : Int)), (37, .int .i64 st119.2), (8, .slice a188 x186.length c189)] (by kernel_rfl) ?_
  refine WL.nil ?_
  obtain rfl := Option.some.inj hm
  exact WQ.post' ⟨_, _, rfl, hb193, hL194, (SH.take 4 (SH.front 3 (SH.front 4 (SH.front 4 (SH.front 4 hS192)))))⟩ ⟨rfl, rfl, rfl, rfl, rfl, rfl, trivial⟩

theorem c_43 (n : Nat) (list_0 : List Int) (a0' : Option Addr) (c0' : Nat) (w : World) {r : Int} (hm : m_laws_a2Sum n list_0 = some r) (h0 : Rd fInt.ty w a0' list_0) (_hle0 : list_0.length ≤ c0') :
    CallV Try.prog 43 #[.slice a0' list_0.length c0'] w (fun v w' => v = .int .i64 r ∧ Ext w w') := by
  unfold m_laws_a2Sum at hm
  refine CallV.enter Try.func43 rfl (by kernel_rfl) Try.ntmps43 (env := [(0, .slice a0' list_0.length c0')]) ⟨rfl, trivial⟩ ?_
  refine WP.seq (fun K1 hK1 => ?_)
  refine WP.region ?_
  refine WL.runk 1 [0] [(0, .slice a0' list_0.length c0')] (by kernel_rfl) ?_
  refine WL.nil ?_
  refine WQ.then_normal (hK1 _ _ _ ?_)
  refine WP.seq (fun K2 hK2 => ?_)
  refine WP.region ?_
  refine WL.runk 1 [0, 3] [(0, .slice a0' list_0.length c0'), (3, .int .i64 0)] (by kernel_rfl) ?_
  refine WL.nil ?_
  refine WQ.then_normal (hK2 _ _ _ ?_)
  refine WP.seq (fun K3 hK3 => ?_)
  refine WP.seq (fun K4 hK4 => ?_)
  refine WP.region ?_
  refine WL.runk 1 [0, 3, 4] [(0, .slice a0' list_0.length c0'), (3, .int .i64 0), (4, .int .i64 0)] (by kernel_rfl) ?_
  refine WL.nil ?_
  refine WQ.then_normal (hK4 _ _ _ ?_)
  refine WP.block ?_
  obtain ⟨t16, ht17, hm⟩ := bindE hm
  have hmo11 := hm; clear hm
  refine WP.sub [(0, .slice a0' list_0.length c0'), (3, .int .i64 0), (4, .int .i64 0)] ⟨rfl, rfl, rfl, trivial⟩ ?_
  refine WP.loop (fun n' env' w' => ∃ (st5 : Int × Int) , env' = [(0, .slice a0' list_0.length c0'), (3, .int .i64 st5.1), (4, .int .i64 st5.2)] ∧ Ext w w' ∧ w.heap.size ≤ w'.heap.size ∧ SH w' w.heap.size [] ∧ loopN (m_laws_a2Sum_l1 n list_0) n' st5 = some t16) n ⟨(0, 0), rfl, (Ext.refl w), (Nat.le_refl _), (SH.nil _ _), ht17⟩ ?_
  rintro n13 _ w6 ⟨st5, rfl, hb7, hL8, hS9, hl10⟩ K12 hK12
  obtain ⟨n14, s15, rfl, hm, hl10⟩ := loopN_some hl10
  unfold m_laws_a2Sum_l1 at hm
  refine WP.seq (fun K18 hK18 => ?_)
  refine WP.seq (fun K19 hK19 => ?_)
  refine WP.region ?_
  refine WL.runk 4 [0, 3, 4, 8] [(0, .slice a0' list_0.length c0'), (3, .int .i64 st5.1), (4, .int .i64 st5.2), (8, .bool (decide (st5.2 < (list_0.length : Int))))] (by kernel_rfl) ?_
  refine WL.nil ?_
  refine WQ.then_normal (hK19 _ _ _ ?_)
  refine WP.cond (decide (st5.2 < (list_0.length : Int))) rfl rfl (fun hc20 => ?_) (fun hc20 => ?_)
  rotate_left
  · have hm := iteF hm hc20
    refine WP.exit ?_
    refine WQ.then_exit ?_
    refine WQ.then_exit ?_
    refine WQ.block_here ?_
    obtain rfl := Option.some.inj hm
    obtain rfl := afterN_done hl10
    have hm := hmo11
    refine WQ.then_normal (hK3 _ _ _ ?_)
    refine WP.seq (fun K24 hK24 => ?_)
    refine WP.region ?_
    refine WL.runk 2 [2] [(2, .int .i64 st5.1)] (by kernel_rfl) ?_
    refine WL.nil ?_
    refine WQ.then_normal (hK24 _ _ _ ?_)
    refine WP.ret ?_
    obtain rfl := Option.some.inj hm
    exact WQ.ret1 _ rfl rfl ⟨rfl, hb7⟩
  have hm := iteT hm hc20
  refine WP.skip ?_
  refine WQ.then_normal (hK18 _ _ _ ?_)
  refine WP.seq (fun K21 hK21 => ?_)
  refine WP.block ?_
  refine WP.region ?_
  refine WL.runk 3 [0, 4, 11, 12, 13] [(0, .slice a0' list_0.length c0'), (4, .int .i64 st5.2), (11, .int .i64 st5.1), (12, .slice a0' list_0.length c0'), (13, .int .i64 st5.2)] (by kernel_rfl) ?_
  obtain ⟨x22, hx23, hm⟩ := bindE hm
  refine WL.st (.pointer (some (at_ a0' (Int.toNat st5.2 * 1)))) (ST.index (T := fInt.ty) (xs := list_0) (Rd.below h0 hb7) hx23 rfl rfl rfl Try.underlying40 (info2).1 (info2).2.1) rfl rfl rfl ?_
  refine WL.st (.int .i64 x22) (ST.load (cell_ext (Rd.flat (F := fInt) (Rd.below h0 hb7) hx23 0 rfl)) rfl rfl Try.underlying2 rfl) rfl rfl rfl ?_
  refine WL.runk 2 [0, 3, 4] [(0, .slice a0' list_0.length c0'), (4, .int .i64 st5.2), (3, .int .i64 (wI64 (st5.1 + x22)))] (by kernel_rfl) ?_
  refine WL.nil ?_
  refine WQ.block_normal ?_
  refine WQ.then_normal (hK21 _ _ _ ?_)
  refine WP.region ?_
  refine WL.runk 3 [0, 3, 4] [(0, .slice a0' list_0.length c0'), (4, .int .i64 (wI64 (st5.2 + 1))), (3, .int .i64 (wI64 (st5.1 + x22)))] (by kernel_rfl) ?_
  refine WL.nil ?_
  obtain rfl := Option.some.inj hm
  exact WQ.round hK12 ⟨((wI64 (st5.1 + x22)), (wI64 (st5.2 + 1))), rfl, hb7, hL8, hS9, hl10⟩ (Nat.lt_succ_self _) ⟨rfl, rfl, rfl, trivial⟩

end Go.Proofs.Ytoljnpoiclklpaa
