/- Each call does what its Lean function says. -/
import Derived.Test.YtoljnpoiclklpaaTi
import Derived.Test.YtoljnpoiclklpaaEq
import Derived.Test.YtoljnpoiclklpaaMo
set_option maxRecDepth 20000
set_option maxHeartbeats 4000000
namespace Go.Proofs.Ytoljnpoiclklpaa
open Go Go.Gv Go.RowKit

theorem c_15 (n : Nat) (a_0 : List (List UInt8)) (a0' : Option Addr) (c0' : Nat) (left_1 : Int) (w : World) {r : Int} (hm : m_laws_szStringS n a_0 left_1 = some r) (h0 : Rd fStr.ty w a0' a_0) (hle0 : a_0.length ≤ c0') :
    CallV Try.prog 15 #[.slice a0' a_0.length c0', .int .i64 left_1] w (fun v w' => v = .int .i64 r ∧ Ext w w') := by
  unfold m_laws_szStringS at hm
  refine CallV.enter Try.func15 rfl (by kernel_rfl) Try.ntmps15 (env := [(0, .slice a0' a_0.length c0'), (1, .int .i64 left_1)]) ⟨rfl, rfl, trivial⟩ ?_
  refine WP.seq (fun K1 hK1 => ?_)
  refine WP.region ?_
  refine WL.runk 1 [0, 1] [(0, .slice a0' a_0.length c0'), (1, .int .i64 left_1)] (by kernel_rfl) ?_
  refine WL.nil ?_
  refine WQ.then_normal (hK1 _ _ _ ?_)
  refine WP.seq (fun K2 hK2 => ?_)
  refine WP.region ?_
  refine WL.runk 5 [0, 1] [(0, .slice a0' a_0.length c0'), (1, .int .i64 (wI64 (left_1 - (a_0.length : Int))))] (by kernel_rfl) ?_
  refine WL.nil ?_
  refine WQ.then_normal (hK2 _ _ _ ?_)
  refine WP.seq (fun K3 hK3 => ?_)
  refine WP.seq (fun K4 hK4 => ?_)
  refine WP.region ?_
  refine WL.runk 2 [0, 1, 11] [(0, .slice a0' a_0.length c0'), (1, .int .i64 (wI64 (left_1 - (a_0.length : Int)))), (11, .bool (decide ((wI64 (left_1 - (a_0.length : Int))) < 0)))] (by kernel_rfl) ?_
  refine WL.nil ?_
  refine WQ.then_normal (hK4 _ _ _ ?_)
  refine WP.cond (decide ((wI64 (left_1 - (a_0.length : Int))) < 0)) rfl rfl (fun hc5 => ?_) (fun hc5 => ?_)
  · have hm := iteT hm hc5
    refine WP.seq (fun K6 hK6 => ?_)
    refine WP.region ?_
    refine WL.runk 1 [4] [(4, .int .i64 (-1))] (by kernel_rfl) ?_
    refine WL.nil ?_
    refine WQ.then_normal (hK6 _ _ _ ?_)
    refine WP.ret ?_
    refine WQ.then_ret ?_
    obtain rfl := Option.some.inj hm
    exact WQ.ret1 _ rfl rfl ⟨rfl, (Ext.refl w)⟩
  · have hm := iteF hm hc5
    refine WP.skip ?_
    refine WQ.then_normal (hK3 _ _ _ ?_)
    refine WP.seq (fun K7 hK7 => ?_)
    refine WP.seq (fun K8 hK8 => ?_)
    refine WP.region ?_
    refine WL.runk 1 [0, 1, 5] [(0, .slice a0' a_0.length c0'), (1, .int .i64 (wI64 (left_1 - (a_0.length : Int)))), (5, .int .i64 0)] (by kernel_rfl) ?_
    refine WL.nil ?_
    refine WQ.then_normal (hK8 _ _ _ ?_)
    refine WP.block ?_
    obtain ⟨t20, ht21, hm⟩ := bindE hm
    have hmo15 := hm; clear hm
    refine WP.sub [(0, .slice a0' a_0.length c0'), (1, .int .i64 (wI64 (left_1 - (a_0.length : Int)))), (5, .int .i64 0)] ⟨rfl, rfl, rfl, trivial⟩ ?_
    refine WP.loop (fun n' env' w' => ∃ (st9 : Int × Int) , env' = [(0, .slice a0' a_0.length c0'), (1, .int .i64 st9.1), (5, .int .i64 st9.2)] ∧ Ext w w' ∧ w.heap.size ≤ w'.heap.size ∧ SH w' w.heap.size [] ∧ loopN (m_laws_szStringS_l1 n a_0) n' st9 = some t20) n ⟨((wI64 (left_1 - (a_0.length : Int))), 0), rfl, (Ext.refl w), (Nat.le_refl _), (SH.nil _ _), ht21⟩ ?_
    rintro n17 _ w10 ⟨st9, rfl, hb11, hL12, hS13, hl14⟩ K16 hK16
    obtain ⟨n18, s19, rfl, hm, hl14⟩ := loopN_some hl14
    unfold m_laws_szStringS_l1 at hm
    refine WP.seq (fun K22 hK22 => ?_)
    refine WP.seq (fun K23 hK23 => ?_)
    refine WP.region ?_
    refine WL.runk 4 [0, 1, 5, 15] [(0, .slice a0' a_0.length c0'), (1, .int .i64 st9.1), (5, .int .i64 st9.2), (15, .bool (decide (st9.2 < (a_0.length : Int))))] (by kernel_rfl) ?_
    refine WL.nil ?_
    refine WQ.then_normal (hK23 _ _ _ ?_)
    refine WP.cond (decide (st9.2 < (a_0.length : Int))) rfl rfl (fun hc24 => ?_) (fun hc24 => ?_)
    · have hm := iteT hm hc24
      refine WP.skip ?_
      refine WQ.then_normal (hK22 _ _ _ ?_)
      refine WP.seq (fun K25 hK25 => ?_)
      refine WP.block ?_
      refine WP.seq (fun K26 hK26 => ?_)
      refine WP.region ?_
      refine WL.runk 3 [0, 5, 18, 19, 20] [(0, .slice a0' a_0.length c0'), (5, .int .i64 st9.2), (18, .int .i64 st9.1), (19, .slice a0' a_0.length c0'), (20, .int .i64 st9.2)] (by kernel_rfl) ?_
      obtain ⟨x27, hx28, hm⟩ := bindE hm
      refine WL.st (.pointer (some (at_ a0' (Int.toNat st9.2 * 1)))) (ST.index (T := fStr.ty) (xs := a_0) (Rd.below h0 hb11) hx28 rfl rfl rfl Try.underlying22 (info9).1 (info9).2.1) rfl rfl rfl ?_
      refine WL.st (.string (bs x27)) (ST.load (cell_ext (Rd.flat (F := fStr) (Rd.below h0 hb11) hx28 0 rfl)) rfl rfl Try.underlying9 rfl) rfl rfl rfl ?_
      refine WL.runk 3 [0, 1, 5] [(0, .slice a0' a_0.length c0'), (5, .int .i64 st9.2), (1, .int .i64 (wI64 (st9.1 - (x27.length : Int))))] (by kernel_rfl) ?_
      refine WL.nil ?_
      refine WQ.then_normal (hK26 _ _ _ ?_)
      refine WP.seq (fun K29 hK29 => ?_)
      refine WP.region ?_
      refine WL.runk 2 [0, 1, 5, 26] [(0, .slice a0' a_0.length c0'), (5, .int .i64 st9.2), (1, .int .i64 (wI64 (st9.1 - (x27.length : Int)))), (26, .bool (decide ((wI64 (st9.1 - (x27.length : Int))) < 0)))] (by kernel_rfl) ?_
      refine WL.nil ?_
      refine WQ.then_normal (hK29 _ _ _ ?_)
      refine WP.cond (decide ((wI64 (st9.1 - (x27.length : Int))) < 0)) rfl rfl (fun hc30 => ?_) (fun hc30 => ?_)
      · have hm := iteT hm hc30
        refine WP.seq (fun K31 hK31 => ?_)
        refine WP.region ?_
        refine WL.runk 1 [4] [(4, .int .i64 (-1))] (by kernel_rfl) ?_
        refine WL.nil ?_
        refine WQ.then_normal (hK31 _ _ _ ?_)
        refine WP.ret ?_
        refine WQ.block_ret ?_
        refine WQ.then_ret ?_
        refine WQ.then_ret ?_
        refine WQ.block_ret ?_
        refine WQ.then_ret ?_
        obtain rfl := Option.some.inj hm
        obtain rfl := afterN_done hl14
        have hm := hmo15
        obtain rfl := Option.some.inj hm
        exact WQ.ret1 _ rfl rfl ⟨rfl, hb11⟩
      · have hm := iteF hm hc30
        refine WP.skip ?_
        refine WQ.block_normal ?_
        refine WQ.then_normal (hK25 _ _ _ ?_)
        refine WP.region ?_
        refine WL.runk 3 [0, 1, 5] [(0, .slice a0' a_0.length c0'), (5, .int .i64 (wI64 (st9.2 + 1))), (1, .int .i64 (wI64 (st9.1 - (x27.length : Int))))] (by kernel_rfl) ?_
        refine WL.nil ?_
        obtain rfl := Option.some.inj hm
        exact WQ.round hK16 ⟨((wI64 (st9.1 - (x27.length : Int))), (wI64 (st9.2 + 1))), rfl, hb11, hL12, hS13, hl14⟩ (Nat.lt_succ_self _) ⟨rfl, rfl, rfl, trivial⟩
    · have hm := iteF hm hc24
      refine WP.exit ?_
      refine WQ.then_exit ?_
      refine WQ.then_exit ?_
      refine WQ.block_here ?_
      obtain rfl := Option.some.inj hm
      obtain rfl := afterN_done hl14
      have hm := hmo15
      refine WQ.then_normal (hK7 _ _ _ ?_)
      refine WP.seq (fun K32 hK32 => ?_)
      refine WP.region ?_
      refine WL.runk 2 [4] [(4, .int .i64 st9.1)] (by kernel_rfl) ?_
      refine WL.nil ?_
      refine WQ.then_normal (hK32 _ _ _ ?_)
      refine WP.ret ?_
      obtain rfl := Option.some.inj hm
      exact WQ.ret1 _ rfl rfl ⟨rfl, hb11⟩

theorem c_71 (n : Nat) (n_0 : Int) (low_1 : Int) (high_2 : Int) (w : World) {r : Bool} (hm : m_spec_l00In n n_0 low_1 high_2 = some r)  :
    CallV Try.prog 71 #[.int .i64 n_0, .int .i64 low_1, .int .i64 high_2] w (fun v w' => v = .bool r ∧ Ext w w') := by
  unfold m_spec_l00In at hm
  refine CallV.enter Try.func71 rfl (by kernel_rfl) Try.ntmps71 (env := [(0, .int .i64 n_0), (1, .int .i64 low_1), (2, .int .i64 high_2)]) ⟨rfl, rfl, rfl, trivial⟩ ?_
  refine WP.seq (fun K1 hK1 => ?_)
  refine WP.region ?_
  refine WL.runk 1 [0, 1, 2] [(0, .int .i64 n_0), (1, .int .i64 low_1), (2, .int .i64 high_2)] (by kernel_rfl) ?_
  refine WL.nil ?_
  refine WQ.then_normal (hK1 _ _ _ ?_)
  refine WP.seq (fun K2 hK2 => ?_)
  obtain ⟨x4, hx5, hm⟩ := bindE hm
  refine WP.cut (fun env' w' => env' = [(6, .bool x4)] ∧ Ext w w' ∧ w.heap.size ≤ w'.heap.size ∧ SH w' w.heap.size []) ?_ ?_
  · have hm := hx5; clear hx5
    refine WP.region ?_
    refine WL.runk 4 [0, 2, 10] [(0, .int .i64 n_0), (2, .int .i64 high_2), (10, .bool (decide (n_0 ≥ low_1)))] (by kernel_rfl) ?_
    refine WL.case (decide (n_0 ≥ low_1)) [10] ⟨rfl, trivial⟩ (fun hc6 => ?_) (fun hc6 => ?_)
    · have hm := iteT hm hc6
      refine WL.runk 5 [6] [(6, .bool (decide (n_0 ≤ high_2)))] (by kernel_rfl) ?_
      refine WL.nil ?_
      obtain rfl := Option.some.inj hm
      exact WQ.post' ⟨rfl, (Ext.refl w), (Nat.le_refl _), (SH.nil _ _)⟩ ⟨rfl, trivial⟩
    · have hm := iteF hm hc6
      refine WL.runk 5 [6] [(6, .bool false)] (by kernel_rfl) ?_
      refine WL.nil ?_
      obtain rfl := Option.some.inj hm
      exact WQ.post' ⟨rfl, (Ext.refl w), (Nat.le_refl _), (SH.nil _ _)⟩ ⟨rfl, trivial⟩
  · clear hx5
    rintro _ w7 ⟨rfl, hb8, hL9, hS10⟩
    refine WQ.then_normal (hK2 _ _ _ ?_)
    refine WP.ret ?_
    obtain rfl := Option.some.inj hm
    exact WQ.ret1 _ rfl rfl ⟨rfl, hb8⟩

theorem c_76 (n : Nat) (c_0 : Int) (w : World) {r : Bool} (hm : m_spec_l01Digit n c_0 = some r)  :
    CallV Try.prog 76 #[.int .u8 c_0] w (fun v w' => v = .bool r ∧ Ext w w') := by
  unfold m_spec_l01Digit at hm
  refine CallV.enter Try.func76 rfl (by kernel_rfl) Try.ntmps76 (env := [(0, .int .u8 c_0)]) ⟨rfl, trivial⟩ ?_
  refine WP.seq (fun K1 hK1 => ?_)
  refine WP.region ?_
  refine WL.runk 1 [0] [(0, .int .u8 c_0)] (by kernel_rfl) ?_
  refine WL.nil ?_
  refine WQ.then_normal (hK1 _ _ _ ?_)
  refine WP.seq (fun K2 hK2 => ?_)
  obtain ⟨x4, hx5, hm⟩ := bindE hm
  refine WP.cut (fun env' w' => env' = [(2, .bool x4)] ∧ Ext w w' ∧ w.heap.size ≤ w'.heap.size ∧ SH w' w.heap.size []) ?_ ?_
  · have hm := hx5; clear hx5
    refine WP.region ?_
    refine WL.runk 3 [0, 5] [(0, .int .u8 c_0), (5, .bool (decide (c_0 ≥ 48)))] (by kernel_rfl) ?_
    refine WL.case (decide (c_0 ≥ 48)) [5] ⟨rfl, trivial⟩ (fun hc6 => ?_) (fun hc6 => ?_)
    · have hm := iteT hm hc6
      refine WL.runk 4 [2] [(2, .bool (decide (c_0 ≤ 57)))] (by kernel_rfl) ?_
      refine WL.nil ?_
      obtain rfl := Option.some.inj hm
      exact WQ.post' ⟨rfl, (Ext.refl w), (Nat.le_refl _), (SH.nil _ _)⟩ ⟨rfl, trivial⟩
    · have hm := iteF hm hc6
      refine WL.runk 4 [2] [(2, .bool false)] (by kernel_rfl) ?_
      refine WL.nil ?_
      obtain rfl := Option.some.inj hm
      exact WQ.post' ⟨rfl, (Ext.refl w), (Nat.le_refl _), (SH.nil _ _)⟩ ⟨rfl, trivial⟩
  · clear hx5
    rintro _ w7 ⟨rfl, hb8, hL9, hS10⟩
    refine WQ.then_normal (hK2 _ _ _ ?_)
    refine WP.ret ?_
    obtain rfl := Option.some.inj hm
    exact WQ.ret1 _ rfl rfl ⟨rfl, hb8⟩

theorem c_49 (n : Nat) (rows_0 : List (List UInt8)) (a0' : Option Addr) (c0' : Nat) (w : World) {r : Bool} (hm : m_spec_l20Ok n rows_0 = some r) (h0 : Rd fStr.ty w a0' rows_0) (hle0 : rows_0.length ≤ c0') :
    CallV Try.prog 49 #[.slice a0' rows_0.length c0'] w (fun v w' => v = .bool r ∧ Ext w w') := by
  unfold m_spec_l20Ok at hm
  refine CallV.enter Try.func49 rfl (by kernel_rfl) Try.ntmps49 (env := [(0, .slice a0' rows_0.length c0')]) ⟨rfl, trivial⟩ ?_
  refine WP.seq (fun K1 hK1 => ?_)
  refine WP.region ?_
  refine WL.runk 1 [0] [(0, .slice a0' rows_0.length c0')] (by kernel_rfl) ?_
  refine WL.nil ?_
  refine WQ.then_normal (hK1 _ _ _ ?_)
  refine WP.seq (fun K2 hK2 => ?_)
  refine WP.seq (fun K3 hK3 => ?_)
  refine WP.region ?_
  refine WL.runk 1 [0, 3] [(0, .slice a0' rows_0.length c0'), (3, .int .i64 0)] (by kernel_rfl) ?_
  refine WL.nil ?_
  refine WQ.then_normal (hK3 _ _ _ ?_)
  refine WP.block ?_
  obtain ⟨t15, ht16, hm⟩ := bindE hm
  have hmo10 := hm; clear hm
  refine WP.sub [(0, .slice a0' rows_0.length c0'), (3, .int .i64 0)] ⟨rfl, rfl, trivial⟩ ?_
  refine WP.loop (fun n' env' w' => ∃ (st4 : Int) , env' = [(0, .slice a0' rows_0.length c0'), (3, .int .i64 st4)] ∧ Ext w w' ∧ w.heap.size ≤ w'.heap.size ∧ SH w' w.heap.size [] ∧ loopN (m_spec_l20Ok_l1 n rows_0) n' st4 = some t15) n ⟨0, rfl, (Ext.refl w), (Nat.le_refl _), (SH.nil _ _), ht16⟩ ?_
  rintro n12 _ w5 ⟨st4, rfl, hb6, hL7, hS8, hl9⟩ K11 hK11
  obtain ⟨n13, s14, rfl, hm, hl9⟩ := loopN_some hl9
  unfold m_spec_l20Ok_l1 at hm
  refine WP.seq (fun K17 hK17 => ?_)
  refine WP.seq (fun K18 hK18 => ?_)
  refine WP.region ?_
  refine WL.runk 4 [0, 3, 8] [(0, .slice a0' rows_0.length c0'), (3, .int .i64 st4), (8, .bool (decide (st4 < (rows_0.length : Int))))] (by kernel_rfl) ?_
  refine WL.nil ?_
  refine WQ.then_normal (hK18 _ _ _ ?_)
  refine WP.cond (decide (st4 < (rows_0.length : Int))) rfl rfl (fun hc19 => ?_) (fun hc19 => ?_)
  · have hm := iteT hm hc19
    refine WP.skip ?_
    refine WQ.then_normal (hK17 _ _ _ ?_)
    refine WP.seq (fun K20 hK20 => ?_)
    refine WP.block ?_
    refine WP.seq (fun K21 hK21 => ?_)
    refine WP.seq (fun K22 hK22 => ?_)
    obtain ⟨x44, hx45, hm⟩ := bindE hm
    refine WP.cut (fun env' w' => env' = [(0, .slice a0' rows_0.length c0'), (3, .int .i64 st4), (29, .bool x44)] ∧ Ext w w' ∧ w.heap.size ≤ w'.heap.size ∧ SH w' w.heap.size []) ?_ ?_
    · have hm := hx45; clear hx45
      refine WP.quiet (by kernel_rfl) (by kernel_rfl) ?_
      refine QL.step1 rfl (env' := [(0, .slice a0' rows_0.length c0'), (3, .int .i64 st4), (8, .bool (decide (st4 < (rows_0.length : Int)))), (11, .slice a0' rows_0.length c0')]) (fun _ => by kernel_rfl) ?_
      refine QL.sub [(0, .slice a0' rows_0.length c0'), (3, .int .i64 st4), (11, .slice a0' rows_0.length c0')] ⟨rfl, rfl, rfl, trivial⟩ ?_
      refine QL.step1 rfl (env' := [(0, .slice a0' rows_0.length c0'), (3, .int .i64 st4), (11, .slice a0' rows_0.length c0'), (12, .int .i64 st4)]) (fun _ => by kernel_rfl) ?_
      obtain ⟨x46, hx47, hm⟩ := bindE hm
      refine QL.st (.pointer (some (at_ a0' (Int.toNat st4 * 1)))) (ST.index (T := fStr.ty) (xs := rows_0) (Rd.below h0 hb6) hx47 rfl rfl rfl Try.underlying22 (info9).1 (info9).2.1) rfl rfl rfl ?_
      refine QL.st (.string (bs x46)) (ST.load (cell_ext (Rd.flat (F := fStr) (Rd.below h0 hb6) hx47 0 rfl)) rfl rfl Try.underlying9 rfl) rfl rfl rfl ?_
      refine QL.step1 rfl (env' := [(0, .slice a0' rows_0.length c0'), (3, .int .i64 st4), (11, .slice a0' rows_0.length c0'), (12, .int .i64 st4), (13, .pointer (some (at_ a0' (Int.toNat st4 * 1)))), (14, .string (bs x46)), (15, .int .i64 (x46.length : Int))]) (fun _ => by kernel_rfl) ?_
      refine QL.sub [(0, .slice a0' rows_0.length c0'), (3, .int .i64 st4), (15, .int .i64 (x46.length : Int))] ⟨rfl, rfl, rfl, trivial⟩ ?_
      refine QL.step1 rfl (env' := [(0, .slice a0' rows_0.length c0'), (3, .int .i64 st4), (15, .int .i64 (x46.length : Int)), (16, .slice a0' rows_0.length c0')]) (fun _ => by kernel_rfl) ?_
      obtain ⟨x48, hx49, hm⟩ := bindE hm
      refine QL.st (.pointer (some (at_ a0' (Int.toNat 0 * 1)))) (ST.index (T := fStr.ty) (xs := rows_0) (Rd.below h0 hb6) hx49 rfl rfl rfl Try.underlying22 (info9).1 (info9).2.1) rfl rfl rfl ?_
      refine QL.st (.string (bs x48)) (ST.load (cell_ext (Rd.flat (F := fStr) (Rd.below h0 hb6) hx49 0 rfl)) rfl rfl Try.underlying9 rfl) rfl rfl rfl ?_
      refine QL.step1 rfl (env' := [(0, .slice a0' rows_0.length c0'), (3, .int .i64 st4), (15, .int .i64 (x46.length : Int)), (16, .slice a0' rows_0.length c0'), (17, .pointer (some (at_ a0' (Int.toNat 0 * 1)))), (18, .string (bs x48)), (19, .int .i64 (x48.length : Int))]) (fun _ => by kernel_rfl) ?_
      refine QL.sub [(0, .slice a0' rows_0.length c0'), (3, .int .i64 st4), (15, .int .i64 (x46.length : Int)), (19, .int .i64 (x48.length : Int))] ⟨rfl, rfl, rfl, rfl, trivial⟩ ?_
      refine QL.step1 rfl (env' := [(0, .slice a0' rows_0.length c0'), (3, .int .i64 st4), (15, .int .i64 (x46.length : Int)), (19, .int .i64 (x48.length : Int)), (20, .bool ((x46.length : Int) != (x48.length : Int)))]) (fun _ => by kernel_rfl) ?_
      refine QL.sub [(0, .slice a0' rows_0.length c0'), (3, .int .i64 st4), (20, .bool ((x46.length : Int) != (x48.length : Int)))] ⟨rfl, rfl, rfl, trivial⟩ ?_
      refine QL.step1 rfl (env' := [(0, .slice a0' rows_0.length c0'), (3, .int .i64 st4), (20, .bool ((x46.length : Int) != (x48.length : Int))), (21, .bool ((x46.length : Int) != (x48.length : Int)))]) (fun _ => by kernel_rfl) ?_
      refine QL.sub [(0, .slice a0' rows_0.length c0'), (3, .int .i64 st4), (21, .bool ((x46.length : Int) != (x48.length : Int)))] ⟨rfl, rfl, rfl, trivial⟩ ?_
      refine QL.case ((x46.length : Int) != (x48.length : Int)) [21] ⟨rfl, trivial⟩ (fun hc50 => ?_) (fun hc50 => ?_)
      · have hm := iteT hm hc50
        refine QL.step1 rfl (env' := [(0, .slice a0' rows_0.length c0'), (3, .int .i64 st4), (21, .bool true), (22, undef)]) (fun _ => by kernel_rfl) ?_
        refine QL.step1 rfl (env' := [(0, .slice a0' rows_0.length c0'), (3, .int .i64 st4), (21, .bool true), (22, undef), (23, undef)]) (fun _ => by kernel_rfl) ?_
        refine QL.step1 rfl (env' := [(0, .slice a0' rows_0.length c0'), (3, .int .i64 st4), (21, .bool true), (22, undef), (23, undef), (24, undef)]) (fun _ => by kernel_rfl) ?_
        refine QL.step1 rfl (env' := [(0, .slice a0' rows_0.length c0'), (3, .int .i64 st4), (21, .bool true), (22, undef), (23, undef), (24, undef), (25, undef)]) (fun _ => by kernel_rfl) ?_
        refine QL.step1 rfl (env' := [(0, .slice a0' rows_0.length c0'), (3, .int .i64 st4), (21, .bool true), (22, undef), (23, undef), (24, undef), (25, undef), (26, undef)]) (fun _ => by kernel_rfl) ?_
        refine QL.step1 rfl (env' := [(0, .slice a0' rows_0.length c0'), (3, .int .i64 st4), (21, .bool true), (22, undef), (23, undef), (24, undef), (25, undef), (26, undef), (27, undef)]) (fun _ => by kernel_rfl) ?_
        refine QL.step1 rfl (env' := [(0, .slice a0' rows_0.length c0'), (3, .int .i64 st4), (21, .bool true), (22, undef), (23, undef), (24, undef), (25, undef), (26, undef), (27, undef), (28, undef)]) (fun _ => by kernel_rfl) ?_
        refine QL.step1 rfl (env' := [(0, .slice a0' rows_0.length c0'), (3, .int .i64 st4), (21, .bool true), (22, undef), (23, undef), (24, undef), (25, undef), (26, undef), (27, undef), (28, undef), (29, .bool true)]) (fun _ => by kernel_rfl) ?_
        refine QL.sub [(0, .slice a0' rows_0.length c0'), (3, .int .i64 st4), (29, .bool true)] ⟨rfl, rfl, rfl, trivial⟩ ?_
        refine QL.sub [(0, .slice a0' rows_0.length c0'), (3, .int .i64 st4), (29, .bool true)] ⟨rfl, rfl, rfl, trivial⟩ ?_
        refine QL.nil ?_
        intro w51 hE52
        have hb53 : Ext w w51 := Ext.trans hb6 hE52
        have hL54 : w.heap.size ≤ w51.heap.size := Nat.le_trans hL7 hE52.size
        have hS55 : SH w51 w.heap.size [] := SH.ext hS8 hE52
        obtain rfl := Option.some.inj hm
        exact WQ.post' ⟨rfl, hb53, hL54, hS55⟩ ⟨rfl, rfl, rfl, trivial⟩
      · have hm := iteF hm hc50
        refine QL.step1 rfl (env' := [(0, .slice a0' rows_0.length c0'), (3, .int .i64 st4), (21, .bool false), (22, .slice a0' rows_0.length c0')]) (fun _ => by kernel_rfl) ?_
        refine QL.step1 rfl (env' := [(0, .slice a0' rows_0.length c0'), (3, .int .i64 st4), (21, .bool false), (22, .slice a0' rows_0.length c0'), (23, .int .i64 st4)]) (fun _ => by kernel_rfl) ?_
        obtain ⟨x56, hx57, hm⟩ := bindE hm
        refine QL.st (.pointer (some (at_ a0' (Int.toNat st4 * 1)))) (ST.index (T := fStr.ty) (xs := rows_0) (Rd.below h0 hb6) hx57 rfl rfl rfl Try.underlying22 (info9).1 (info9).2.1) rfl rfl rfl ?_
        refine QL.st (.string (bs x56)) (ST.load (cell_ext (Rd.flat (F := fStr) (Rd.below h0 hb6) hx57 0 rfl)) rfl rfl Try.underlying9 rfl) rfl rfl rfl ?_
        refine QL.step1 rfl (env' := [(0, .slice a0' rows_0.length c0'), (3, .int .i64 st4), (21, .bool false), (22, .slice a0' rows_0.length c0'), (23, .int .i64 st4), (24, .pointer (some (at_ a0' (Int.toNat st4 * 1)))), (25, .string (bs x56)), (26, .int .i64 (x56.length : Int))]) (fun _ => by kernel_rfl) ?_
        refine QL.sub [(0, .slice a0' rows_0.length c0'), (3, .int .i64 st4), (21, .bool false), (26, .int .i64 (x56.length : Int))] ⟨rfl, rfl, rfl, rfl, trivial⟩ ?_
        obtain ⟨x58, hx59, hm⟩ := bindE hm
        refine QL.call 71 #[.int .i64 (x56.length : Int), .int .i64 2, .int .i64 8] (.bool x58) (fun _ => by kernel_rfl) (fun w60 hE61 => c_71 n (x56.length : Int) 2 8 w60 hx59 ) rfl rfl rfl ?_
        refine QL.step1 rfl (env' := [(0, .slice a0' rows_0.length c0'), (3, .int .i64 st4), (21, .bool false), (26, .int .i64 (x56.length : Int)), (27, .bool x58), (28, .bool (!x58))]) (fun _ => by kernel_rfl) ?_
        refine QL.sub [(0, .slice a0' rows_0.length c0'), (3, .int .i64 st4), (21, .bool false), (28, .bool (!x58))] ⟨rfl, rfl, rfl, rfl, trivial⟩ ?_
        refine QL.step1 rfl (env' := [(0, .slice a0' rows_0.length c0'), (3, .int .i64 st4), (21, .bool false), (28, .bool (!x58)), (29, .bool (!x58))]) (fun _ => by kernel_rfl) ?_
        refine QL.sub [(0, .slice a0' rows_0.length c0'), (3, .int .i64 st4), (29, .bool (!x58))] ⟨rfl, rfl, rfl, trivial⟩ ?_
        refine QL.sub [(0, .slice a0' rows_0.length c0'), (3, .int .i64 st4), (29, .bool (!x58))] ⟨rfl, rfl, rfl, trivial⟩ ?_
        refine QL.nil ?_
        intro w62 hE63
        have hb64 : Ext w w62 := Ext.trans hb6 hE63
        have hL65 : w.heap.size ≤ w62.heap.size := Nat.le_trans hL7 hE63.size
        have hS66 : SH w62 w.heap.size [] := SH.ext hS8 hE63
        obtain rfl := Option.some.inj hm
        exact WQ.post' ⟨rfl, hb64, hL65, hS66⟩ ⟨rfl, rfl, rfl, trivial⟩
    · clear hx45
      rintro _ w67 ⟨rfl, hb68, hL69, hS70⟩
      refine WQ.then_normal (hK22 _ _ _ ?_)
      refine WP.cond x44 rfl rfl (fun hc71 => ?_) (fun hc71 => ?_)
      · have hm := iteT hm hc71
        refine WP.seq (fun K72 hK72 => ?_)
        refine WP.region ?_
        refine WL.runk 1 [2] [(2, .bool false)] (by kernel_rfl) ?_
        refine WL.nil ?_
        refine WQ.then_normal (hK72 _ _ _ ?_)
        refine WP.ret ?_
        refine WQ.then_ret ?_
        refine WQ.block_ret ?_
        refine WQ.then_ret ?_
        refine WQ.then_ret ?_
        refine WQ.block_ret ?_
        refine WQ.then_ret ?_
        obtain rfl := Option.some.inj hm
        obtain rfl := afterN_done hl9
        have hm := hmo10
        obtain rfl := Option.some.inj hm
        exact WQ.ret1 _ rfl rfl ⟨rfl, hb68⟩
      · have hm := iteF hm hc71
        refine WP.skip ?_
        refine WQ.then_normal (hK21 _ _ _ ?_)
        refine WP.seq (fun K73 hK73 => ?_)
        refine WP.region ?_
        refine WL.runk 1 [0, 3, 4] [(0, .slice a0' rows_0.length c0'), (3, .int .i64 st4), (4, .int .i64 0)] (by kernel_rfl) ?_
        refine WL.nil ?_
        refine WQ.then_normal (hK73 _ _ _ ?_)
        refine WP.block ?_
        obtain ⟨t85, ht86, hm⟩ := bindE hm
        have hmo80 := hm; clear hm
        refine WP.sub [(0, .slice a0' rows_0.length c0'), (3, .int .i64 st4), (4, .int .i64 0)] ⟨rfl, rfl, rfl, trivial⟩ ?_
        refine WP.loop (fun n' env' w' => ∃ (st74 : Int) , env' = [(0, .slice a0' rows_0.length c0'), (3, .int .i64 st4), (4, .int .i64 st74)] ∧ Ext w w' ∧ w.heap.size ≤ w'.heap.size ∧ SH w' w.heap.size [] ∧ loopN (m_spec_l20Ok_l2 n rows_0 st4) n' st74 = some t85) n ⟨0, rfl, hb68, hL69, hS70, ht86⟩ ?_
        rintro n82 _ w75 ⟨st74, rfl, hb76, hL77, hS78, hl79⟩ K81 hK81
        obtain ⟨n83, s84, rfl, hm, hl79⟩ := loopN_some hl79
        unfold m_spec_l20Ok_l2 at hm
        refine WP.seq (fun K87 hK87 => ?_)
        refine WP.seq (fun K88 hK88 => ?_)
        refine WP.region ?_
        refine WL.runk 3 [0, 3, 4, 30, 31, 32] [(0, .slice a0' rows_0.length c0'), (3, .int .i64 st4), (4, .int .i64 st74), (30, .int .i64 st74), (31, .slice a0' rows_0.length c0'), (32, .int .i64 st4)] (by kernel_rfl) ?_
        obtain ⟨x89, hx90, hm⟩ := bindE hm
        refine WL.st (.pointer (some (at_ a0' (Int.toNat st4 * 1)))) (ST.index (T := fStr.ty) (xs := rows_0) (Rd.below h0 hb76) hx90 rfl rfl rfl Try.underlying22 (info9).1 (info9).2.1) rfl rfl rfl ?_
        refine WL.st (.string (bs x89)) (ST.load (cell_ext (Rd.flat (F := fStr) (Rd.below h0 hb76) hx90 0 rfl)) rfl rfl Try.underlying9 rfl) rfl rfl rfl ?_
        refine WL.runk 2 [0, 3, 4, 36] [(0, .slice a0' rows_0.length c0'), (3, .int .i64 st4), (4, .int .i64 st74), (36, .bool (decide (st74 < (x89.length : Int))))] (by kernel_rfl) ?_
        refine WL.nil ?_
        refine WQ.then_normal (hK88 _ _ _ ?_)
        refine WP.cond (decide (st74 < (x89.length : Int))) rfl rfl (fun hc91 => ?_) (fun hc91 => ?_)
        · have hm := iteT hm hc91
          refine WP.skip ?_
          refine WQ.then_normal (hK87 _ _ _ ?_)
          refine WP.seq (fun K92 hK92 => ?_)
          refine WP.block ?_
          refine WP.seq (fun K93 hK93 => ?_)
          refine WP.region ?_
          refine WL.runk 2 [0, 3, 4, 39, 40] [(0, .slice a0' rows_0.length c0'), (3, .int .i64 st4), (4, .int .i64 st74), (39, .slice a0' rows_0.length c0'), (40, .int .i64 st4)] (by kernel_rfl) ?_
          obtain ⟨x94, hx95, hm⟩ := bindE hm
          refine WL.st (.pointer (some (at_ a0' (Int.toNat st4 * 1)))) (ST.index (T := fStr.ty) (xs := rows_0) (Rd.below h0 hb76) hx95 rfl rfl rfl Try.underlying22 (info9).1 (info9).2.1) rfl rfl rfl ?_
          refine WL.st (.string (bs x94)) (ST.load (cell_ext (Rd.flat (F := fStr) (Rd.below h0 hb76) hx95 0 rfl)) rfl rfl Try.underlying9 rfl) rfl rfl rfl ?_
          refine WL.runk 1 [0, 3, 4, 42, 43] [(0, .slice a0' rows_0.length c0'), (3, .int .i64 st4), (4, .int .i64 st74), (42, .string (bs x94)), (43, .int .i64 st74)] (by kernel_rfl) ?_
          obtain ⟨x96, hx97, hm⟩ := bindE hm
          refine WL.st (.int .u8 (x96.toNat : Int)) (ST.sindex hx97 rfl rfl rfl Try.underlying9) rfl rfl rfl ?_
          obtain ⟨x98, hx99, hm⟩ := bindE hm
          refine WL.call 76 #[.int .u8 (x96.toNat : Int)] rfl rfl (by kernel_rfl) (c_76 n (x96.toNat : Int) w75 hx99 ) ?_
          rintro _ w100 ⟨rfl, hE101⟩
          refine ⟨_, rfl, ?_⟩
          have hb103 : Ext w w100 := Ext.trans hb76 hE101
          have hL104 : w.heap.size ≤ w100.heap.size := Nat.le_trans hL77 hE101.size
          have hS105 : SH w100 w.heap.size [] := SH.ext hS78 hE101
          refine WL.runk 1 [0, 3, 4, 46] [(0, .slice a0' rows_0.length c0'), (3, .int .i64 st4), (4, .int .i64 st74), (46, .bool (!x98))] (by kernel_rfl) ?_
          refine WL.nil ?_
          refine WQ.then_normal (hK93 _ _ _ ?_)
          refine WP.cond (!x98) rfl rfl (fun hc106 => ?_) (fun hc106 => ?_)
          · have hm := iteT hm hc106
            refine WP.seq (fun K107 hK107 => ?_)
            refine WP.region ?_
            refine WL.runk 1 [2] [(2, .bool false)] (by kernel_rfl) ?_
            refine WL.nil ?_
            refine WQ.then_normal (hK107 _ _ _ ?_)
            refine WP.ret ?_
            refine WQ.block_ret ?_
            refine WQ.then_ret ?_
            refine WQ.then_ret ?_
            refine WQ.block_ret ?_
            refine WQ.block_ret ?_
            refine WQ.then_ret ?_
            refine WQ.then_ret ?_
            refine WQ.block_ret ?_
            refine WQ.then_ret ?_
            obtain rfl := Option.some.inj hm
            obtain rfl := afterN_done hl79
            have hm := hmo80
            obtain rfl := Option.some.inj hm
            obtain rfl := afterN_done hl9
            have hm := hmo10
            obtain rfl := Option.some.inj hm
            exact WQ.ret1 _ rfl rfl ⟨rfl, hb103⟩
          · have hm := iteF hm hc106
            refine WP.skip ?_
            refine WQ.block_normal ?_
            refine WQ.then_normal (hK92 _ _ _ ?_)
            refine WP.region ?_
            refine WL.runk 3 [0, 3, 4] [(0, .slice a0' rows_0.length c0'), (3, .int .i64 st4), (4, .int .i64 (wI64 (st74 + 1)))] (by kernel_rfl) ?_
            refine WL.nil ?_
            obtain rfl := Option.some.inj hm
            exact WQ.round hK81 ⟨(wI64 (st74 + 1)), rfl, hb103, hL104, hS105, hl79⟩ (Nat.lt_succ_self _) ⟨rfl, rfl, rfl, trivial⟩
        · have hm := iteF hm hc91
          refine WP.exit ?_
          refine WQ.then_exit ?_
          refine WQ.then_exit ?_
          refine WQ.block_here ?_
          obtain rfl := Option.some.inj hm
          obtain rfl := afterN_done hl79
          have hm := hmo80
          refine WQ.block_normal ?_
          refine WQ.then_normal (hK20 _ _ _ ?_)
          refine WP.region ?_
          refine WL.runk 3 [0, 3] [(0, .slice a0' rows_0.length c0'), (3, .int .i64 (wI64 (st4 + 1)))] (by kernel_rfl) ?_
          refine WL.nil ?_
          obtain rfl := Option.some.inj hm
          exact WQ.round hK11 ⟨(wI64 (st4 + 1)), rfl, hb76, hL77, hS78, hl9⟩ (Nat.lt_succ_self _) ⟨rfl, rfl, trivial⟩
  · have hm := iteF hm hc19
    refine WP.exit ?_
    refine WQ.then_exit ?_
    refine WQ.then_exit ?_
    refine WQ.block_here ?_
    obtain rfl := Option.some.inj hm
    obtain rfl := afterN_done hl9
    have hm := hmo10
    refine WQ.then_normal (hK2 _ _ _ ?_)
    refine WP.seq (fun K109 hK109 => ?_)
    refine WP.region ?_
    refine WL.runk 2 [48] [(48, .int .i64 (rows_0.length : Int))] (by kernel_rfl) ?_
    obtain ⟨x110, hx111, hm⟩ := bindE hm
    refine WL.call 71 #[.int .i64 (rows_0.length : Int), .int .i64 2, .int .i64 12] rfl rfl (by kernel_rfl) (c_71 n (rows_0.length : Int) 2 12 w5 hx111 ) ?_
    rintro _ w112 ⟨rfl, hE113⟩
    refine ⟨_, rfl, ?_⟩
    have hb115 : Ext w w112 := Ext.trans hb6 hE113
    have hL116 : w.heap.size ≤ w112.heap.size := Nat.le_trans hL7 hE113.size
    have hS117 : SH w112 w.heap.size [] := SH.ext hS8 hE113
    refine WL.runk 1 [2] [(2, .bool x110)] (by kernel_rfl) ?_
    refine WL.nil ?_
    refine WQ.then_normal (hK109 _ _ _ ?_)
    refine WP.ret ?_
    obtain rfl := Option.some.inj hm
    exact WQ.ret1 _ rfl rfl ⟨rfl, hb115⟩

theorem c_16 (n : Nat) (rows_0 : List (List UInt8)) (a0' : Option Addr) (c0' : Nat) (w : World) {r : Bool} (hm : m_spec_ValidWear n rows_0 = some r) (h0 : Rd fStr.ty w a0' rows_0) (hle0 : rows_0.length ≤ c0') :
    CallV Try.prog 16 #[.slice a0' rows_0.length c0'] w (fun v w' => v = .bool r ∧ Ext w w') := by
  unfold m_spec_ValidWear at hm
  refine CallV.enter Try.func16 rfl (by kernel_rfl) Try.ntmps16 (env := [(0, .slice a0' rows_0.length c0')]) ⟨rfl, trivial⟩ ?_
  refine WP.seq (fun K1 hK1 => ?_)
  refine WP.region ?_
  refine WL.runk 1 [0] [(0, .slice a0' rows_0.length c0')] (by kernel_rfl) ?_
  refine WL.nil ?_
  refine WQ.then_normal (hK1 _ _ _ ?_)
  refine WP.seq (fun K2 hK2 => ?_)
  refine WP.region ?_
  refine WL.runk 1 [3] [(3, .slice a0' rows_0.length c0')] (by kernel_rfl) ?_
  obtain ⟨x3, hx4, hm⟩ := bindE hm
  refine WL.call 49 #[.slice a0' rows_0.length c0'] rfl rfl (by kernel_rfl) (c_49 n rows_0 a0' c0' w hx4 (Rd.below h0 (Ext.refl w)) hle0) ?_
  rintro _ w5 ⟨rfl, hE6⟩
  refine ⟨_, rfl, ?_⟩
  have hb8 : Ext w w5 := Ext.trans (Ext.refl w) hE6
  have hL9 : w.heap.size ≤ w5.heap.size := Nat.le_trans (Nat.le_refl _) hE6.size
  have hS10 : SH w5 w.heap.size [] := SH.ext (SH.nil _ _) hE6
  refine WL.runk 1 [2] [(2, .bool x3)] (by kernel_rfl) ?_
  refine WL.nil ?_
  refine WQ.then_normal (hK2 _ _ _ ?_)
  refine WP.ret ?_
  obtain rfl := Option.some.inj hm
  exact WQ.ret1 _ rfl rfl ⟨rfl, hb8⟩

theorem c_17 (n : Nat) (a_0 : List (List UInt8)) (a0' : Option Addr) (c0' : Nat) (w : World) {r : List (List UInt8)} (hm : m_laws_toStringS n a_0 = some r) (h0 : Rd fStr.ty w a0' a_0) (hle0 : a_0.length ≤ c0') :
    CallV Try.prog 17 #[.slice a0' a_0.length c0'] w (fun v w' => ∃ (ra0 : Option Addr) (rc0 : Nat), v = .slice ra0 r.length rc0 ∧ Ext w w' ∧ SH w' w.heap.size [aOwn fStr 9 ra0 rc0 r]) := by
  unfold m_laws_toStringS at hm
  refine CallV.enter Try.func17 rfl (by kernel_rfl) Try.ntmps17 (env := [(0, .slice a0' a_0.length c0')]) ⟨rfl, trivial⟩ ?_
  refine WP.seq (fun K1 hK1 => ?_)
  refine WP.region ?_
  refine WL.runk 1 [0] [(0, .slice a0' a_0.length c0')] (by kernel_rfl) ?_
  refine WL.nil ?_
  refine WQ.then_normal (hK1 _ _ _ ?_)
  refine WP.seq (fun K2 hK2 => ?_)
  refine WP.region ?_
  refine WL.runk 2 [0, 6] [(0, .slice a0' a_0.length c0'), (6, .int .i64 (a_0.length : Int))] (by kernel_rfl) ?_
  obtain ⟨x3, hx4, hm⟩ := bindE hm
  refine WL.make fStr 7 hx4 rfl rfl rfl Try.underlying22 (info9).1 (info9).2.2.1 (info9).2.1 (info9).2.2.2 rfl rfl rfl rfl rfl ?_
  intro a5 c6 w7 hE8 hR9
  have hb11 : Ext w w7 := Ext.trans (Ext.refl w) hE8
  have hL12 : w.heap.size ≤ w7.heap.size := Nat.le_trans (Nat.le_refl _) hE8.size
  have hS13 : SH w7 w.heap.size [aOwn fStr 9 a5 c6 x3] := SH.add (SH.nil _ _) hE8 (Nat.le_refl _) hR9
  refine WL.runk 1 [0, 3] [(0, .slice a0' a_0.length c0'), (3, .slice a5 x3.length c6)] (by kernel_rfl) ?_
  refine WL.nil ?_
  refine WQ.then_normal (hK2 _ _ _ ?_)
  refine WP.seq (fun K14 hK14 => ?_)
  refine WP.seq (fun K15 hK15 => ?_)
  refine WP.region ?_
  refine WL.runk 1 [0, 3, 4] [(0, .slice a0' a_0.length c0'), (3, .slice a5 x3.length c6), (4, .int .i64 0)] (by kernel_rfl) ?_
  refine WL.nil ?_
  refine WQ.then_normal (hK15 _ _ _ ?_)
  refine WP.block ?_
  obtain ⟨t54, ht55, hm⟩ := bindE hm
  have hmo49 := hm; clear hm
  refine WP.sub [(0, .slice a0' a_0.length c0'), (3, .slice a5 x3.length c6), (4, .int .i64 0)] ⟨rfl, rfl, rfl, trivial⟩ ?_
  refine WP.loop (fun n' env' w' => ∃ (st43 : Int × List (List UInt8)) , env' = [(0, .slice a0' a_0.length c0'), (3, .slice a5 st43.2.length c6), (4, .int .i64 st43.1)] ∧ Ext w w' ∧ w.heap.size ≤ w'.heap.size ∧ SH w' w.heap.size [aOwn fStr 9 a5 c6 st43.2] ∧ loopN (m_laws_toStringS_l1 n a_0) n' st43 = some t54) n ⟨(0, x3), rfl, hb11, hL12, hS13, ht55⟩ ?_
  rintro n51 _ w44 ⟨st43, rfl, hb45, hL46, hS47, hl48⟩ K50 hK50
  obtain ⟨n52, s53, rfl, hm, hl48⟩ := loopN_some hl48
  unfold m_laws_toStringS_l1 at hm
  refine WP.seq (fun K56 hK56 => ?_)
  refine WP.seq (fun K57 hK57 => ?_)
  refine WP.region ?_
  refine WL.runk 4 [0, 3, 4, 11] [(0, .slice a0' a_0.length c0'), (3, .slice a5 st43.2.length c6), (4, .int .i64 st43.1), (11, .bool (decide (st43.1 < (a_0.length : Int))))] (by kernel_rfl) ?_
  refine WL.nil ?_
  refine WQ.then_normal (hK57 _ _ _ ?_)
  refine WP.cond (decide (st43.1 < (a_0.length : Int))) rfl rfl (fun hc58 => ?_) (fun hc58 => ?_)
  · have hm := iteT hm hc58
    refine WP.skip ?_
    refine WQ.then_normal (hK56 _ _ _ ?_)
    refine WP.seq (fun K59 hK59 => ?_)
    refine WP.block ?_
    refine WP.region ?_
    refine WL.runk 4 [0, 3, 4, 14, 15, 16, 17] [(0, .slice a0' a_0.length c0'), (3, .slice a5 st43.2.length c6), (4, .int .i64 st43.1), (14, .slice a5 st43.2.length c6), (15, .int .i64 st43.1), (16, .slice a0' a_0.length c0'), (17, .int .i64 st43.1)] (by kernel_rfl) ?_
    obtain ⟨x60, hx61, hm⟩ := bindE hm
    refine WL.st (.pointer (some (at_ a0' (Int.toNat st43.1 * 1)))) (ST.index (T := fStr.ty) (xs := a_0) (Rd.below h0 hb45) hx61 rfl rfl rfl Try.underlying22 (info9).1 (info9).2.1) rfl rfl rfl ?_
    refine WL.st (.string (bs x60)) (ST.load (cell_ext (Rd.flat (F := fStr) (Rd.below h0 hb45) hx61 0 rfl)) rfl rfl Try.underlying9 rfl) rfl rfl rfl ?_
    obtain ⟨x62, hx63, hm⟩ := bindE hm
    refine WL.st (.pointer (some (at_ a5 (Int.toNat st43.1 * 1)))) (ST.index (T := fStr.ty) (xs := st43.2) (SH.rd (SH.front 0 hS47)) hx63 rfl rfl rfl Try.underlying22 (info9).1 (info9).2.1) rfl rfl rfl ?_
    refine WL.store (F := fStr) x60 0 [.string (bs x60)] (SH.front 0 hS47) hL46 hx63 rfl rfl rfl rfl rfl rfl rfl (info9).1 (info9).2.1 rfl rfl rfl ?_
    intro w64 hB65 hS66
    have hb67 : Ext w w64 := Below.trans hb45 hB65
    have hL68 : w.heap.size ≤ w64.heap.size := Nat.le_trans hL46 hB65.size
    refine WL.sub [(0, .slice a0' a_0.length c0'), (3, .slice a5 ((st43.2.set (Int.toNat st43.1) x60).length) c6), (4, .int .i64 st43.1), (14, .slice a5 ((st43.2.set (Int.toNat st43.1) x60).length) c6), (15, .int .i64 st43.1), (16, .slice a0' a_0.length c0'), (17, .int .i64 st43.1), (18, .pointer (some (at_ a0' (Int.toNat st43.1 * 1)))), (19, .string (bs x60))] ⟨rfl, by first | (simp only [List.length_set]; done) | (simp only [List.length_set]; rfl), rfl, by first | (simp only [List.length_set]; done) | (simp only [List.length_set]; rfl), rfl, rfl, rfl, rfl, rfl, trivial⟩ ?_
    refine WL.sub [(0, .slice a0' a_0.length c0'), (3, .slice a5 ((st43.2.set (Int.toNat st43.1) x60).length) c6), (4, .int .i64 st43.1)] ⟨rfl, rfl, rfl, trivial⟩ ?_
    refine WL.nil ?_
    refine WQ.block_normal ?_
    refine WQ.then_normal (hK59 _ _ _ ?_)
    refine WP.region ?_
    refine WL.runk 3 [0, 3, 4] [(0, .slice a0' a_0.length c0'), (3, .slice a5 ((st43.2.set (Int.toNat st43.1) x60).length) c6), (4, .int .i64 (wI64 (st43.1 + 1)))] (by kernel_rfl) ?_
    refine WL.nil ?_
    obtain rfl := Option.some.inj hm
    exact WQ.round hK50 ⟨((wI64 (st43.1 + 1)), (st43.2.set (Int.toNat st43.1) x60)), rfl, hb67, hL68, hS66, hl48⟩ (Nat.lt_succ_self _) ⟨rfl, rfl, rfl, trivial⟩
  · have hm := iteF hm hc58
    refine WP.exit ?_
    refine WQ.then_exit ?_
    refine WQ.then_exit ?_
    refine WQ.block_here ?_
    obtain rfl := Option.some.inj hm
    obtain rfl := afterN_done hl48
    have hm := hmo49
    refine WQ.then_normal (hK14 _ _ _ ?_)
    refine WP.seq (fun K69 hK69 => ?_)
    refine WP.region ?_
    refine WL.runk 2 [2] [(2, .slice a5 st43.2.length c6)] (by kernel_rfl) ?_
    refine WL.nil ?_
    refine WQ.then_normal (hK69 _ _ _ ?_)
    refine WP.ret ?_
    obtain rfl := Option.some.inj hm
    exact WQ.ret1 _ rfl rfl ⟨_, _, rfl, hb45, hS47⟩

theorem c_50 (n : Nat) (n_0 : Int) (low_1 : Int) (high_2 : Int) (w : World) {r : Bool} (hm : m_impl_within n n_0 low_1 high_2 = some r)  :
    CallV Try.prog 50 #[.int .i64 n_0, .int .i64 low_1, .int .i64 high_2] w (fun v w' => v = .bool r ∧ Ext w w') := by
  unfold m_impl_within at hm
  refine CallV.enter Try.func50 rfl (by kernel_rfl) Try.ntmps50 (env := [(0, .int .i64 n_0), (1, .int .i64 low_1), (2, .int .i64 high_2)]) ⟨rfl, rfl, rfl, trivial⟩ ?_
  refine WP.seq (fun K1 hK1 => ?_)
  refine WP.region ?_
  refine WL.runk 1 [0, 1, 2] [(0, .int .i64 n_0), (1, .int .i64 low_1), (2, .int .i64 high_2)] (by kernel_rfl) ?_
  refine WL.nil ?_
  refine WQ.then_normal (hK1 _ _ _ ?_)
  refine WP.seq (fun K2 hK2 => ?_)
  obtain ⟨x4, hx5, hm⟩ := bindE hm
  refine WP.cut (fun env' w' => env' = [(6, .bool x4)] ∧ Ext w w' ∧ w.heap.size ≤ w'.heap.size ∧ SH w' w.heap.size []) ?_ ?_
  · have hm := hx5; clear hx5
    refine WP.region ?_
    refine WL.runk 4 [0, 2, 10] [(0, .int .i64 n_0), (2, .int .i64 high_2), (10, .bool (decide (n_0 ≥ low_1)))] (by kernel_rfl) ?_
    refine WL.case (decide (n_0 ≥ low_1)) [10] ⟨rfl, trivial⟩ (fun hc6 => ?_) (fun hc6 => ?_)
    · have hm := iteT hm hc6
      refine WL.runk 5 [6] [(6, .bool (decide (n_0 ≤ high_2)))] (by kernel_rfl) ?_
      refine WL.nil ?_
      obtain rfl := Option.some.inj hm
      exact WQ.post' ⟨rfl, (Ext.refl w), (Nat.le_refl _), (SH.nil _ _)⟩ ⟨rfl, trivial⟩
    · have hm := iteF hm hc6
      refine WL.runk 5 [6] [(6, .bool false)] (by kernel_rfl) ?_
      refine WL.nil ?_
      obtain rfl := Option.some.inj hm
      exact WQ.post' ⟨rfl, (Ext.refl w), (Nat.le_refl _), (SH.nil _ _)⟩ ⟨rfl, trivial⟩
  · clear hx5
    rintro _ w7 ⟨rfl, hb8, hL9, hS10⟩
    refine WQ.then_normal (hK2 _ _ _ ?_)
    refine WP.ret ?_
    obtain rfl := Option.some.inj hm
    exact WQ.ret1 _ rfl rfl ⟨rfl, hb8⟩

theorem c_18 (n : Nat) (rows_0 : List (List UInt8)) (a0' : Option Addr) (c0' : Nat) (w : World) {r : Bool} (hm : m_impl_ValidWear n rows_0 = some r) (h0 : Rd fStr.ty w a0' rows_0) (hle0 : rows_0.length ≤ c0') :
    CallV Try.prog 18 #[.slice a0' rows_0.length c0'] w (fun v w' => v = .bool r ∧ Ext w w') := by
  unfold m_impl_ValidWear at hm
  refine CallV.enter Try.func18 rfl (by kernel_rfl) Try.ntmps18 (env := [(0, .slice a0' rows_0.length c0')]) ⟨rfl, trivial⟩ ?_
  refine WP.seq (fun K1 hK1 => ?_)
  refine WP.region ?_
  refine WL.runk 1 [0] [(0, .slice a0' rows_0.length c0')] (by kernel_rfl) ?_
  refine WL.nil ?_
  refine WQ.then_normal (hK1 _ _ _ ?_)
  refine WP.seq (fun K2 hK2 => ?_)
  refine WP.seq (fun K3 hK3 => ?_)
  obtain ⟨x23, hx24, hm⟩ := bindE hm
  refine WP.cut (fun env' w' => env' = [(0, .slice a0' rows_0.length c0'), (17, .bool x23)] ∧ Ext w w' ∧ w.heap.size ≤ w'.heap.size ∧ SH w' w.heap.size []) ?_ ?_
  · have hm := hx24; clear hx24
    refine WP.region ?_
    refine WL.runk 2 [0, 7] [(0, .slice a0' rows_0.length c0'), (7, .int .i64 (rows_0.length : Int))] (by kernel_rfl) ?_
    obtain ⟨x25, hx26, hm⟩ := bindE hm
    refine WL.call 50 #[.int .i64 (rows_0.length : Int), .int .i64 2, .int .i64 12] rfl rfl (by kernel_rfl) (c_50 n (rows_0.length : Int) 2 12 w hx26 ) ?_
    rintro _ w27 ⟨rfl, hE28⟩
    refine ⟨_, rfl, ?_⟩
    have hb30 : Ext w w27 := Ext.trans (Ext.refl w) hE28
    have hL31 : w.heap.size ≤ w27.heap.size := Nat.le_trans (Nat.le_refl _) hE28.size
    have hS32 : SH w27 w.heap.size [] := SH.ext (SH.nil _ _) hE28
    refine WL.runk 2 [0, 10] [(0, .slice a0' rows_0.length c0'), (10, .bool (!x25))] (by kernel_rfl) ?_
    refine WL.case (!x25) [10] ⟨rfl, trivial⟩ (fun hc33 => ?_) (fun hc33 => ?_)
    · have hm := iteT hm hc33
      refine WL.runk 7 [0, 17] [(0, .slice a0' rows_0.length c0'), (17, .bool true)] (by kernel_rfl) ?_
      refine WL.nil ?_
      obtain rfl := Option.some.inj hm
      exact WQ.post' ⟨rfl, hb30, hL31, hS32⟩ ⟨rfl, rfl, trivial⟩
    · have hm := iteF hm hc33
      refine WL.runk 1 [0, 10, 11] [(0, .slice a0' rows_0.length c0'), (10, .bool false), (11, .slice a0' rows_0.length c0')] (by kernel_rfl) ?_
      obtain ⟨x34, hx35, hm⟩ := bindE hm
      refine WL.st (.pointer (some (at_ a0' (Int.toNat 0 * 1)))) (ST.index (T := fStr.ty) (xs := rows_0) (Rd.below h0 hb30) hx35 rfl rfl rfl Try.underlying22 (info9).1 (info9).2.1) rfl rfl rfl ?_
      refine WL.st (.string (bs x34)) (ST.load (cell_ext (Rd.flat (F := fStr) (Rd.below h0 hb30) hx35 0 rfl)) rfl rfl Try.underlying9 rfl) rfl rfl rfl ?_
      refine WL.runk 1 [0, 10, 14] [(0, .slice a0' rows_0.length c0'), (10, .bool false), (14, .int .i64 (x34.length : Int))] (by kernel_rfl) ?_
      obtain ⟨x36, hx37, hm⟩ := bindE hm
      refine WL.call 50 #[.int .i64 (x34.length : Int), .int .i64 2, .int .i64 8] rfl rfl (by kernel_rfl) (c_50 n (x34.length : Int) 2 8 w27 hx37 ) ?_
      rintro _ w38 ⟨rfl, hE39⟩
      refine ⟨_, rfl, ?_⟩
      have hb41 : Ext w w38 := Ext.trans hb30 hE39
      have hL42 : w.heap.size ≤ w38.heap.size := Nat.le_trans hL31 hE39.size
      have hS43 : SH w38 w.heap.size [] := SH.ext hS32 hE39
      refine WL.runk 2 [0, 17] [(0, .slice a0' rows_0.length c0'), (17, .bool (!x36))] (by kernel_rfl) ?_
      refine WL.nil ?_
      obtain rfl := Option.some.inj hm
      exact WQ.post' ⟨rfl, hb41, hL42, hS43⟩ ⟨rfl, rfl, trivial⟩
  · clear hx24
    rintro _ w44 ⟨rfl, hb45, hL46, hS47⟩
    refine WQ.then_normal (hK3 _ _ _ ?_)
    refine WP.cond x23 rfl rfl (fun hc48 => ?_) (fun hc48 => ?_)
    · have hm := iteT hm hc48
      refine WP.seq (fun K49 hK49 => ?_)
      refine WP.region ?_
      refine WL.runk 1 [2] [(2, .bool false)] (by kernel_rfl) ?_
      refine WL.nil ?_
      refine WQ.then_normal (hK49 _ _ _ ?_)
      refine WP.ret ?_
      refine WQ.then_ret ?_
      obtain rfl := Option.some.inj hm
      exact WQ.ret1 _ rfl rfl ⟨rfl, hb45⟩
    · have hm := iteF hm hc48
      refine WP.skip ?_
      refine WQ.then_normal (hK2 _ _ _ ?_)
      refine WP.seq (fun K50 hK50 => ?_)
      refine WP.seq (fun K51 hK51 => ?_)
      refine WP.region ?_
      refine WL.runk 3 [0, 18, 19, 20] [(0, .slice a0' rows_0.length c0'), (18, .slice a0' rows_0.length c0'), (19, .int .i64 (rows_0.length : Int)), (20, .int .i64 0)] (by kernel_rfl) ?_
      refine WL.nil ?_
      refine WQ.then_normal (hK51 _ _ _ ?_)
      refine WP.block ?_
      obtain ⟨t63, ht64, hm⟩ := bindE hm
      have hmo58 := hm; clear hm
      refine WP.sub [(0, .slice a0' rows_0.length c0'), (18, .slice a0' rows_0.length c0'), (19, .int .i64 (rows_0.length : Int)), (20, .int .i64 0)] ⟨rfl, rfl, rfl, rfl, trivial⟩ ?_
      refine WP.loop (fun n' env' w' => ∃ (st52 : Int) , env' = [(0, .slice a0' rows_0.length c0'), (18, .slice a0' rows_0.length c0'), (19, .int .i64 (rows_0.length : Int)), (20, .int .i64 st52)] ∧ Ext w w' ∧ w.heap.size ≤ w'.heap.size ∧ SH w' w.heap.size [] ∧ loopN (m_impl_ValidWear_l1 n rows_0) n' st52 = some t63) n ⟨0, rfl, hb45, hL46, hS47, ht64⟩ ?_
      rintro n60 _ w53 ⟨st52, rfl, hb54, hL55, hS56, hl57⟩ K59 hK59
      obtain ⟨n61, s62, rfl, hm, hl57⟩ := loopN_some hl57
      unfold m_impl_ValidWear_l1 at hm
      refine WP.seq (fun K65 hK65 => ?_)
      refine WP.region ?_
      refine WL.runk 1 [0, 18, 19, 20, 21] [(0, .slice a0' rows_0.length c0'), (18, .slice a0' rows_0.length c0'), (19, .int .i64 (rows_0.length : Int)), (20, .int .i64 st52), (21, .bool (decide (st52 < (rows_0.length : Int))))] (by kernel_rfl) ?_
      refine WL.nil ?_
      refine WQ.then_normal (hK65 _ _ _ ?_)
      refine WP.seq (fun K66 hK66 => ?_)
      refine WP.cond (decide (st52 < (rows_0.length : Int))) rfl rfl (fun hc67 => ?_) (fun hc67 => ?_)
      · have hm := iteT hm hc67
        refine WP.skip ?_
        refine WQ.then_normal (hK66 _ _ _ ?_)
        refine WP.seq (fun K68 hK68 => ?_)
        refine WP.block ?_
        refine WP.seq (fun K69 hK69 => ?_)
        refine WP.region ?_
        obtain ⟨x70, hx71, hm⟩ := bindE hm
        refine WL.st (.pointer (some (at_ a0' (Int.toNat st52 * 1)))) (ST.index (T := fStr.ty) (xs := rows_0) (Rd.below h0 hb54) hx71 rfl rfl rfl Try.underlying22 (info9).1 (info9).2.1) rfl rfl rfl ?_
        refine WL.st (.string (bs x70)) (ST.load (cell_ext (Rd.flat (F := fStr) (Rd.below h0 hb54) hx71 0 rfl)) rfl rfl Try.underlying9 rfl) rfl rfl rfl ?_
        refine WL.runk 1 [0, 4, 18, 19, 20] [(0, .slice a0' rows_0.length c0'), (18, .slice a0' rows_0.length c0'), (19, .int .i64 (rows_0.length : Int)), (20, .int .i64 st52), (4, .string (bs x70))] (by kernel_rfl) ?_
        refine WL.nil ?_
        refine WQ.then_normal (hK69 _ _ _ ?_)
        refine WP.seq (fun K72 hK72 => ?_)
        refine WP.seq (fun K73 hK73 => ?_)
        refine WP.region ?_
        refine WL.runk 3 [0, 4, 18, 19, 20, 25, 26] [(0, .slice a0' rows_0.length c0'), (18, .slice a0' rows_0.length c0'), (19, .int .i64 (rows_0.length : Int)), (20, .int .i64 st52), (4, .string (bs x70)), (25, .int .i64 (x70.length : Int)), (26, .slice a0' rows_0.length c0')] (by kernel_rfl) ?_
        obtain ⟨x74, hx75, hm⟩ := bindE hm
        refine WL.st (.pointer (some (at_ a0' (Int.toNat 0 * 1)))) (ST.index (T := fStr.ty) (xs := rows_0) (Rd.below h0 hb54) hx75 rfl rfl rfl Try.underlying22 (info9).1 (info9).2.1) rfl rfl rfl ?_
        refine WL.st (.string (bs x74)) (ST.load (cell_ext (Rd.flat (F := fStr) (Rd.below h0 hb54) hx75 0 rfl)) rfl rfl Try.underlying9 rfl) rfl rfl rfl ?_
        refine WL.runk 2 [0, 4, 18, 19, 20, 30] [(0, .slice a0' rows_0.length c0'), (18, .slice a0' rows_0.length c0'), (19, .int .i64 (rows_0.length : Int)), (20, .int .i64 st52), (4, .string (bs x70)), (30, .bool ((x70.length : Int) != (x74.length : Int)))] (by kernel_rfl) ?_
        refine WL.nil ?_
        refine WQ.then_normal (hK73 _ _ _ ?_)
        refine WP.cond ((x70.length : Int) != (x74.length : Int)) rfl rfl (fun hc76 => ?_) (fun hc76 => ?_)
        · have hm := iteT hm hc76
          refine WP.seq (fun K77 hK77 => ?_)
          refine WP.region ?_
          refine WL.runk 1 [2] [(2, .bool false)] (by kernel_rfl) ?_
          refine WL.nil ?_
          refine WQ.then_normal (hK77 _ _ _ ?_)
          refine WP.ret ?_
          refine WQ.then_ret ?_
          refine WQ.block_ret ?_
          refine WQ.then_ret ?_
          refine WQ.then_ret ?_
          refine WQ.block_ret ?_
          refine WQ.then_ret ?_
          obtain rfl := Option.some.inj hm
          obtain rfl := afterN_done hl57
          have hm := hmo58
          obtain rfl := Option.some.inj hm
          exact WQ.ret1 _ rfl rfl ⟨rfl, hb54⟩
        · have hm := iteF hm hc76
          refine WP.skip ?_
          refine WQ.then_normal (hK72 _ _ _ ?_)
          refine WP.seq (fun K78 hK78 => ?_)
          refine WP.region ?_
          refine WL.runk 3 [0, 4, 18, 19, 20, 32, 33] [(0, .slice a0' rows_0.length c0'), (18, .slice a0' rows_0.length c0'), (19, .int .i64 (rows_0.length : Int)), (20, .int .i64 st52), (4, .string (bs x70)), (32, .int .i64 (x70.length : Int)), (33, .int .i64 0)] (by kernel_rfl) ?_
          refine WL.nil ?_
          refine WQ.then_normal (hK78 _ _ _ ?_)
          refine WP.block ?_
          obtain ⟨t90, ht91, hm⟩ := bindE hm
          have hmo85 := hm; clear hm
          refine WP.sub [(0, .slice a0' rows_0.length c0'), (18, .slice a0' rows_0.length c0'), (19, .int .i64 (rows_0.length : Int)), (20, .int .i64 st52), (4, .string (bs x70)), (32, .int .i64 (x70.length : Int)), (33, .int .i64 0)] ⟨rfl, rfl, rfl, rfl, rfl, rfl, rfl, trivial⟩ ?_
          refine WP.loop (fun n' env' w' => ∃ (st79 : Int) , env' = [(0, .slice a0' rows_0.length c0'), (18, .slice a0' rows_0.length c0'), (19, .int .i64 (rows_0.length : Int)), (20, .int .i64 st52), (4, .string (bs x70)), (32, .int .i64 (x70.length : Int)), (33, .int .i64 st79)] ∧ Ext w w' ∧ w.heap.size ≤ w'.heap.size ∧ SH w' w.heap.size [] ∧ loopN (m_impl_ValidWear_l2 n x70) n' st79 = some t90) n ⟨0, rfl, hb54, hL55, hS56, ht91⟩ ?_
          rintro n87 _ w80 ⟨st79, rfl, hb81, hL82, hS83, hl84⟩ K86 hK86
          obtain ⟨n88, s89, rfl, hm, hl84⟩ := loopN_some hl84
          unfold m_impl_ValidWear_l2 at hm
          refine WP.seq (fun K92 hK92 => ?_)
          refine WP.region ?_
          refine WL.runk 1 [0, 4, 18, 19, 20, 32, 33, 34] [(0, .slice a0' rows_0.length c0'), (18, .slice a0' rows_0.length c0'), (19, .int .i64 (rows_0.length : Int)), (20, .int .i64 st52), (4, .string (bs x70)), (32, .int .i64 (x70.length : Int)), (33, .int .i64 st79), (34, .bool (decide (st79 < (x70.length : Int))))] (by kernel_rfl) ?_
          refine WL.nil ?_
          refine WQ.then_normal (hK92 _ _ _ ?_)
          refine WP.seq (fun K93 hK93 => ?_)
          refine WP.cond (decide (st79 < (x70.length : Int))) rfl rfl (fun hc94 => ?_) (fun hc94 => ?_)
          · have hm := iteT hm hc94
            refine WP.skip ?_
            refine WQ.then_normal (hK93 _ _ _ ?_)
            refine WP.seq (fun K95 hK95 => ?_)
            refine WP.block ?_
            refine WP.seq (fun K96 hK96 => ?_)
            refine WP.region ?_
            refine WL.runk 2 [0, 4, 5, 18, 19, 20, 32, 33] [(0, .slice a0' rows_0.length c0'), (18, .slice a0' rows_0.length c0'), (19, .int .i64 (rows_0.length : Int)), (20, .int .i64 st52), (4, .string (bs x70)), (32, .int .i64 (x70.length : Int)), (33, .int .i64 st79), (5, .int .i64 st79)] (by kernel_rfl) ?_
            refine WL.nil ?_
            refine WQ.then_normal (hK96 _ _ _ ?_)
            refine WP.seq (fun K97 hK97 => ?_)
            obtain ⟨x103, hx104, hm⟩ := bindE hm
            refine WP.cut (fun env' w' => env' = [(0, .slice a0' rows_0.length c0'), (18, .slice a0' rows_0.length c0'), (19, .int .i64 (rows_0.length : Int)), (20, .int .i64 st52), (4, .string (bs x70)), (32, .int .i64 (x70.length : Int)), (33, .int .i64 st79), (45, .bool x103)] ∧ Ext w w' ∧ w.heap.size ≤ w'.heap.size ∧ SH w' w.heap.size []) ?_ ?_
            · have hm := hx104; clear hx104
              refine WP.region ?_
              refine WL.runk 2 [0, 4, 5, 18, 19, 20, 32, 33, 36, 37] [(0, .slice a0' rows_0.length c0'), (18, .slice a0' rows_0.length c0'), (19, .int .i64 (rows_0.length : Int)), (20, .int .i64 st52), (4, .string (bs x70)), (32, .int .i64 (x70.length : Int)), (33, .int .i64 st79), (5, .int .i64 st79), (36, .string (bs x70)), (37, .int .i64 st79)] (by kernel_rfl) ?_
              obtain ⟨x105, hx106, hm⟩ := bindE hm
              refine WL.st (.int .u8 (x105.toNat : Int)) (ST.sindex hx106 rfl rfl rfl Try.underlying9) rfl rfl rfl ?_
              refine WL.runk 2 [0, 4, 5, 18, 19, 20, 32, 33, 40] [(0, .slice a0' rows_0.length c0'), (18, .slice a0' rows_0.length c0'), (19, .int .i64 (rows_0.length : Int)), (20, .int .i64 st52), (4, .string (bs x70)), (32, .int .i64 (x70.length : Int)), (33, .int .i64 st79), (5, .int .i64 st79), (40, .bool (decide ((x105.toNat : Int) < 48)))] (by kernel_rfl) ?_
              refine WL.case (decide ((x105.toNat : Int) < 48)) [40] ⟨rfl, trivial⟩ (fun hc107 => ?_) (fun hc107 => ?_)
              · have hm := iteT hm hc107
                refine WL.runk 5 [0, 4, 18, 19, 20, 32, 33, 45] [(0, .slice a0' rows_0.length c0'), (18, .slice a0' rows_0.length c0'), (19, .int .i64 (rows_0.length : Int)), (20, .int .i64 st52), (4, .string (bs x70)), (32, .int .i64 (x70.length : Int)), (33, .int .i64 st79), (45, .bool true)] (by kernel_rfl) ?_
                refine WL.nil ?_
                obtain rfl := Option.some.inj hm
                exact WQ.post' ⟨rfl, hb81, hL82, hS83⟩ ⟨rfl, rfl, rfl, rfl, rfl, rfl, rfl, rfl, trivial⟩
              · have hm := iteF hm hc107
                refine WL.runk 2 [0, 4, 18, 19, 20, 32, 33, 40, 41, 42] [(0, .slice a0' rows_0.length c0'), (18, .slice a0' rows_0.length c0'), (19, .int .i64 (rows_0.length : Int)), (20, .int .i64 st52), (4, .string (bs x70)), (32, .int .i64 (x70.length : Int)), (33, .int .i64 st79), (40, .bool false), (41, .string (bs x70)), (42, .int .i64 st79)] (by kernel_rfl) ?_
                obtain ⟨x108, hx109, hm⟩ := bindE hm
                refine WL.st (.int .u8 (x108.toNat : Int)) (ST.sindex hx109 rfl rfl rfl Try.underlying9) rfl rfl rfl ?_
                refine WL.runk 2 [0, 4, 18, 19, 20, 32, 33, 45] [(0, .slice a0' rows_0.length c0'), (18, .slice a0' rows_0.length c0'), (19, .int .i64 (rows_0.length : Int)), (20, .int .i64 st52), (4, .string (bs x70)), (32, .int .i64 (x70.length : Int)), (33, .int .i64 st79), (45, .bool (decide ((x108.toNat : Int) > 57)))] (by kernel_rfl) ?_
                refine WL.nil ?_
                obtain rfl := Option.some.inj hm
                exact WQ.post' ⟨rfl, hb81, hL82, hS83⟩ ⟨rfl, rfl, rfl, rfl, rfl, rfl, rfl, rfl, trivial⟩
            · clear hx104
              rintro _ w110 ⟨rfl, hb111, hL112, hS113⟩
              refine WQ.then_normal (hK97 _ _ _ ?_)
              refine WP.cond x103 rfl rfl (fun hc114 => ?_) (fun hc114 => ?_)
              · have hm := iteT hm hc114
                refine WP.seq (fun K115 hK115 => ?_)
                refine WP.region ?_
                refine WL.runk 1 [2] [(2, .bool false)] (by kernel_rfl) ?_
                refine WL.nil ?_
                refine WQ.then_normal (hK115 _ _ _ ?_)
                refine WP.ret ?_
                refine WQ.block_ret ?_
                refine WQ.then_ret ?_
                refine WQ.then_ret ?_
                refine WQ.block_ret ?_
                refine WQ.block_ret ?_
                refine WQ.then_ret ?_
                refine WQ.then_ret ?_
                refine WQ.block_ret ?_
                refine WQ.then_ret ?_
                obtain rfl := Option.some.inj hm
                obtain rfl := afterN_done hl84
                have hm := hmo85
                obtain rfl := Option.some.inj hm
                obtain rfl := afterN_done hl57
                have hm := hmo58
                obtain rfl := Option.some.inj hm
                exact WQ.ret1 _ rfl rfl ⟨rfl, hb111⟩
              · have hm := iteF hm hc114
                refine WP.skip ?_
                refine WQ.block_normal ?_
                refine WQ.then_normal (hK95 _ _ _ ?_)
                refine WP.region ?_
                refine WL.runk 2 [0, 4, 18, 19, 20, 32, 33] [(0, .slice a0' rows_0.length c0'), (18, .slice a0' rows_0.length c0'), (19, .int .i64 (rows_0.length : Int)), (20, .int .i64 st52), (4, .string (bs x70)), (32, .int .i64 (x70.length : Int)), (33, .int .i64 (wI64 (st79 + 1)))] (by kernel_rfl) ?_
                refine WL.nil ?_
                obtain rfl := Option.some.inj hm
                exact WQ.round hK86 ⟨(wI64 (st79 + 1)), rfl, hb111, hL112, hS113, hl84⟩ (Nat.lt_succ_self _) ⟨rfl, rfl, rfl, rfl, rfl, rfl, rfl, trivial⟩
          · have hm := iteF hm hc94
            refine WP.exit ?_
            refine WQ.then_exit ?_
            refine WQ.then_exit ?_
            refine WQ.block_here ?_
            obtain rfl := Option.some.inj hm
            obtain rfl := afterN_done hl84
            have hm := hmo85
            refine WQ.block_normal ?_
            refine WQ.then_normal (hK68 _ _ _ ?_)
            refine WP.region ?_
            refine WL.runk 2 [0, 18, 19, 20] [(0, .slice a0' rows_0.length c0'), (18, .slice a0' rows_0.length c0'), (19, .int .i64 (rows_0.length : Int)), (20, .int .i64 (wI64 (st52 + 1)))] (by kernel_rfl) ?_
            refine WL.nil ?_
            obtain rfl := Option.some.inj hm
            exact WQ.round hK59 ⟨(wI64 (st52 + 1)), rfl, hb81, hL82, hS83, hl57⟩ (Nat.lt_succ_self _) ⟨rfl, rfl, rfl, rfl, trivial⟩
      · have hm := iteF hm hc67
        refine WP.exit ?_
        refine WQ.then_exit ?_
        refine WQ.then_exit ?_
        refine WQ.block_here ?_
        obtain rfl := Option.some.inj hm
        obtain rfl := afterN_done hl57
        have hm := hmo58
        refine WQ.then_normal (hK50 _ _ _ ?_)
        refine WP.seq (fun K117 hK117 => ?_)
        refine WP.region ?_
        refine WL.runk 1 [2] [(2, .bool true)] (by kernel_rfl) ?_
        refine WL.nil ?_
        refine WQ.then_normal (hK117 _ _ _ ?_)
        refine WP.ret ?_
        obtain rfl := Option.some.inj hm
        exact WQ.ret1 _ rfl rfl ⟨rfl, hb54⟩

end Go.Proofs.Ytoljnpoiclklpaa
