/- Each call does what its Lean function says. -/
import Derived.Test.YtoljnpoiclklpaaTi
import Derived.Test.YtoljnpoiclklpaaMo
set_option maxRecDepth 20000
namespace Go.Proofs.Ytoljnpoiclklpaa
open Go Go.Gv Go.RowKit

theorem c_15 (n : Nat) (a_0 : List (List UInt8)) (a0' : Option Addr) (c0' : Nat) (left_1 : Int) (w : World) {r : Int} (hm : m_laws_szStringS n a_0 left_1 = some r) (h0 : Rd fStr.ty w a0' a_0) (hle0 : a_0.length ≤ c0') :
    CallV Try.prog 15 #[.slice a0' a_0.length c0', .int .i64 left_1] w (fun v w' => v = .int .i64 r ∧ Ext w w') := by
  unfold m_laws_szStringS at hm
  refine CallV.enter Try.func15 rfl (by kernel_rfl) Try.ntmps15 (env := [(0, .slice a0' a_0.length c0'), (1, .int .i64 left_1)]) ⟨rfl, rfl, trivial⟩ ?_
  refine WP.seq (fun K1 hK1 => ?_)
  refine WP.region ?_
  refine WL.runk 1 [0, 1] [(0, .slice a0' a_0.length c0'), (1, .int .i64 left_1)] (by kernel_rfl) ?_
  refine WL.nil ?_
  refine WQ.then_normal (hK1 _ _ _ ?_)
  refine WP.seq (fun K2 hK2 => ?_)
  refine WP.region ?_
  refine WL.runk 5 [0, 1] [(0, .slice a0' a_0.length c0'), (1, .int .i64 (wI64 (left_1 - (a_0.length : Int))))] (by kernel_rfl) ?_
  refine WL.nil ?_
  refine WQ.then_normal (hK2 _ _ _ ?_)
  refine WP.seq (fun K3 hK3 => ?_)
  refine WP.seq (fun K4 hK4 => ?_)
  refine WP.region ?_
  refine WL.runk 2 [0, 1, 11] [(0, .slice a0' a_0.length c0'), (1, .int .i64 (wI64 (left_1 - (a_0.length : Int)))), (11, .bool (decide ((wI64 (left_1 - (a_0.length : Int))) < 0)))] (by kernel_rfl) ?_
  refine WL.nil ?_
  refine WQ.then_normal (hK4 _ _ _ ?_)
  refine WP.cond (decide ((wI64 (left_1 - (a_0.length : Int))) < 0)) rfl rfl (fun hc5 => ?_) (fun hc5 => ?_)
  · have hm := iteT hm hc5
    refine WP.seq (fun K6 hK6 => ?_)
    refine WP.region ?_
    refine WL.runk 1 [4] [(4, .int .i64 (-1))] (by kernel_rfl) ?_
    refine WL.nil ?_
    refine WQ.then_normal (hK6 _ _ _ ?_)
    refine WP.ret ?_
    refine WQ.then_ret ?_
    obtain rfl := Option.some.inj hm
    exact WQ.ret1 _ rfl rfl ⟨rfl, (Ext.refl w)⟩
  · have hm := iteF hm hc5
    refine WP.skip ?_
    refine WQ.then_normal (hK3 _ _ _ ?_)
    refine WP.seq (fun K7 hK7 => ?_)
    refine WP.seq (fun K8 hK8 => ?_)
    refine WP.region ?_
    refine WL.runk 1 [0, 1, 5] [(0, .slice a0' a_0.length c0'), (1, .int .i64 (wI64 (left_1 - (a_0.length : Int)))), (5, .int .i64 0)] (by kernel_rfl) ?_
    refine WL.nil ?_
    refine WQ.then_normal (hK8 _ _ _ ?_)
    refine WP.block ?_
    obtain ⟨t20, ht21, hm⟩ := bindE hm
    have hmo15 := hm; clear hm
    refine WP.sub [(0, .slice a0' a_0.length c0'), (1, .int .i64 (wI64 (left_1 - (a_0.length : Int)))), (5, .int .i64 0)] ⟨rfl, rfl, rfl, trivial⟩ ?_
    refine WP.loop (fun n' env' w' => ∃ (st9 : Int × Int) , env' = [(0, .slice a0' a_0.length c0'), (1, .int .i64 st9.1), (5, .int .i64 st9.2)] ∧ Ext w w' ∧ w.heap.size ≤ w'.heap.size ∧ SH w' w.heap.size [] ∧ loopN (m_laws_szStringS_l1 n a_0) n' st9 = some t20) n ⟨((wI64 (left_1 - (a_0.length : Int))), 0), rfl, (Ext.refl w), (Nat.le_refl _), (SH.nil _ _), ht21⟩ ?_
    rintro n17 _ w10 ⟨st9, rfl, hb11, hL12, hS13, hl14⟩ K16 hK16
    obtain ⟨n18, s19, rfl, hm, hl14⟩ := loopN_some hl14
    unfold m_laws_szStringS_l1 at hm
    refine WP.seq (fun K22 hK22 => ?_)
    refine WP.seq (fun K23 hK23 => ?_)
    refine WP.region ?_
    refine WL.runk 4 [0, 1, 5, 15] [(0, .slice a0' a_0.length c0'), (1, .int .i64 st9.1), (5, .int .i64 st9.2), (15, .bool (decide (st9.2 < (a_0.length : Int))))] (by kernel_rfl) ?_
    refine WL.nil ?_
    refine WQ.then_normal (hK23 _ _ _ ?_)
    refine WP.cond (decide (st9.2 < (a_0.length : Int))) rfl rfl (fun hc24 => ?_) (fun hc24 => ?_)
    · have hm := iteT hm hc24
      refine WP.skip ?_
      refine WQ.then_normal (hK22 _ _ _ ?_)
      refine WP.seq (fun K25 hK25 => ?_)
      refine WP.block ?_
      refine WP.seq (fun K26 hK26 => ?_)
      refine WP.region ?_
      refine WL.runk 3 [0, 5, 18, 19, 20] [(0, .slice a0' a_0.length c0'), (5, .int .i64 st9.2), (18, .int .i64 st9.1), (19, .slice a0' a_0.length c0'), (20, .int .i64 st9.2)] (by kernel_rfl) ?_
      obtain ⟨x27, hx28, hm⟩ := bindE hm
      refine WL.st (.pointer (some (at_ a0' (Int.toNat st9.2 * 1)))) (ST.index (T := fStr.ty) (xs := a_0) (Rd.below h0 hb11) hx28 rfl rfl rfl Try.underlying22 (info9).1 (info9).2.1) rfl rfl rfl ?_
      refine WL.st (.string (bs x27)) (ST.load (cell_ext (Rd.flat (F := fStr) (Rd.below h0 hb11) hx28 0 rfl)) rfl rfl Try.underlying9 rfl) rfl rfl rfl ?_
      refine WL.runk 3 [0, 1, 5] [(0, .slice a0' a_0.length c0'), (5, .int .i64 st9.2), (1, .int .i64 (wI64 (st9.1 - (x27.length : Int))))] (by kernel_rfl) ?_
      refine WL.nil ?_
      refine WQ.then_normal (hK26 _ _ _ ?_)
      refine WP.seq (fun K29 hK29 => ?_)
      refine WP.region ?_
      refine WL.runk 2 [0, 1, 5, 26] [(0, .slice a0' a_0.length c0'), (5, .int .i64 st9.2), (1, .int .i64 (wI64 (st9.1 - (x27.length : Int)))), (26, .bool (decide ((wI64 (st9.1 - (x27.length : Int))) < 0)))] (by kernel_rfl) ?_
      refine WL.nil ?_
      refine WQ.then_normal (hK29 _ _ _ ?_)
      refine WP.cond (decide ((wI64 (st9.1 - (x27.length : Int))) < 0)) rfl rfl (fun hc30 => ?_) (fun hc30 => ?_)
      · have hm := iteT hm hc30
        refine WP.seq (fun K31 hK31 => ?_)
        refine WP.region ?_
        refine WL.runk 1 [4] [(4, .int .i64 (-1))] (by kernel_rfl) ?_
        refine WL.nil ?_
        refine WQ.then_normal (hK31 _ _ _ ?_)
        refine WP.ret ?_
        refine WQ.block_ret ?_
        refine WQ.then_ret ?_
        refine WQ.then_ret ?_
        refine WQ.block_ret ?_
        refine WQ.then_ret ?_
        obtain rfl := Option.some.inj hm
        obtain rfl := afterN_done hl14
        have hm := hmo15
        obtain rfl := Option.some.inj hm
        exact WQ.ret1 _ rfl rfl ⟨rfl, hb11⟩
      · have hm := iteF hm hc30
        refine WP.skip ?_
        refine WQ.block_normal ?_
        refine WQ.then_normal (hK25 _ _ _ ?_)
        refine WP.region ?_
        refine WL.runk 3 [0, 1, 5] [(0, .slice a0' a_0.length c0'), (5, .int .i64 (wI64 (st9.2 + 1))), (1, .int .i64 (wI64 (st9.1 - (x27.length : Int))))] (by kernel_rfl) ?_
        refine WL.nil ?_
        obtain rfl := Option.some.inj hm
        exact WQ.round hK16 ⟨((wI64 (st9.1 - (x27.length : Int))), (wI64 (st9.2 + 1))), rfl, hb11, hL12, hS13, hl14⟩ (Nat.lt_succ_self _) ⟨rfl, rfl, rfl, trivial⟩
    · have hm := iteF hm hc24
      refine WP.exit ?_
      refine WQ.then_exit ?_
      refine WQ.then_exit ?_
      refine WQ.block_here ?_
      obtain rfl := Option.some.inj hm
      obtain rfl := afterN_done hl14
      have hm := hmo15
      refine WQ.then_normal (hK7 _ _ _ ?_)
      refine WP.seq (fun K32 hK32 => ?_)
      refine WP.region ?_
      refine WL.runk 2 [4] [(4, .int .i64 st9.1)] (by kernel_rfl) ?_
      refine WL.nil ?_
      refine WQ.then_normal (hK32 _ _ _ ?_)
      refine WP.ret ?_
      obtain rfl := Option.some.inj hm
      exact WQ.ret1 _ rfl rfl ⟨rfl, hb11⟩

theorem c_71 (n : Nat) (n_0 : Int) (low_1 : Int) (high_2 : Int) (w : World) {r : Bool} (hm : m_spec_l00In n n_0 low_1 high_2 = some r)  :
    CallV Try.prog 71 #[.int .i64 n_0, .int .i64 low_1, .int .i64 high_2] w (fun v w' => v = .bool r ∧ Ext w w') := by
  unfold m_spec_l00In at hm
  refine CallV.enter Try.func71 rfl (by kernel_rfl) Try.ntmps71 (env := [(0, .int .i64 n_0), (1, .int .i64 low_1), (2, .int .i64 high_2)]) ⟨rfl, rfl, rfl, trivial⟩ ?_
  refine WP.seq (fun K1 hK1 => ?_)
  refine WP.region ?_
  refine WL.runk 1 [0, 1, 2] [(0, .int .i64 n_0), (1, .int .i64 low_1), (2, .int .i64 high_2)] (by kernel_rfl) ?_
  refine WL.nil ?_
  refine WQ.then_normal (hK1 _ _ _ ?_)
  refine WP.seq (fun K2 hK2 => ?_)
  obtain ⟨x4, hx5, hm⟩ := bindE hm
  refine WP.cut (fun env' w' => env' = [(6, .bool x4)] ∧ Ext w w' ∧ w.heap.size ≤ w'.heap.size ∧ SH w' w.heap.size []) ?_ ?_
  · have hm := hx5; clear hx5
    refine WP.region ?_
    refine WL.runk 4 [0, 2, 10] [(0, .int .i64 n_0), (2, .int .i64 high_2), (10, .bool (decide (n_0 ≥ low_1)))] (by kernel_rfl) ?_
    refine WL.case (decide (n_0 ≥ low_1)) [10] ⟨rfl, trivial⟩ (fun hc3 => ?_) (fun hc3 => ?_)
    · have hm := iteT hm hc3
      refine WL.runk 5 [6] [(6, .bool (decide (n_0 ≤ high_2)))] (by kernel_rfl) ?_
      refine WL.nil ?_
      obtain rfl := Option.some.inj hm
      exact WQ.post' ⟨rfl, (Ext.refl w), (Nat.le_refl _), (SH.nil _ _)⟩ ⟨rfl, trivial⟩
    · have hm := iteF hm hc3
      refine WL.runk 5 [6] [(6, .bool false)] (by kernel_rfl) ?_
      refine WL.nil ?_
      obtain rfl := Option.some.inj hm
      exact WQ.post' ⟨rfl, (Ext.refl w), (Nat.le_refl _), (SH.nil _ _)⟩ ⟨rfl, trivial⟩
  · clear hx5
    rintro _ w6 ⟨rfl, hb7, hL8, hS9⟩
    refine WQ.then_normal (hK2 _ _ _ ?_)
    refine WP.ret ?_
    obtain rfl := Option.some.inj hm
    exact WQ.ret1 _ rfl rfl ⟨rfl, hb7⟩

theorem c_76 (n : Nat) (c_0 : Int) (w : World) {r : Bool} (hm : m_spec_l01Digit n c_0 = some r)  :
    CallV Try.prog 76 #[.int .u8 c_0] w (fun v w' => v = .bool r ∧ Ext w w') := by
  unfold m_spec_l01Digit at hm
  refine CallV.enter Try.func76 rfl (by kernel_rfl) Try.ntmps76 (env := [(0, .int .u8 c_0)]) ⟨rfl, trivial⟩ ?_
  refine WP.seq (fun K1 hK1 => ?_)
  refine WP.region ?_
  refine WL.runk 1 [0] [(0, .int .u8 c_0)] (by kernel_rfl) ?_
  refine WL.nil ?_
  refine WQ.then_normal (hK1 _ _ _ ?_)
  refine WP.seq (fun K2 hK2 => ?_)
  obtain ⟨x4, hx5, hm⟩ := bindE hm
  refine WP.cut (fun env' w' => env' = [(2, .bool x4)] ∧ Ext w w' ∧ w.heap.size ≤ w'.heap.size ∧ SH w' w.heap.size []) ?_ ?_
  · have hm := hx5; clear hx5
    refine WP.region ?_
    refine WL.runk 3 [0, 5] [(0, .int .u8 c_0), (5, .bool (decide (c_0 ≥ 48)))] (by kernel_rfl) ?_
    refine WL.case (decide (c_0 ≥ 48)) [5] ⟨rfl, trivial⟩ (fun hc3 => ?_) (fun hc3 => ?_)
    · have hm := iteT hm hc3
      refine WL.runk 4 [2] [(2, .bool (decide (c_0 ≤ 57)))] (by kernel_rfl) ?_
      refine WL.nil ?_
      obtain rfl := Option.some.inj hm
      exact WQ.post' ⟨rfl, (Ext.refl w), (Nat.le_refl _), (SH.nil _ _)⟩ ⟨rfl, trivial⟩
    · have hm := iteF hm hc3
      refine WL.runk 4 [2] [(2, .bool false)] (by kernel_rfl) ?_
      refine WL.nil ?_
      obtain rfl := Option.some.inj hm
      exact WQ.post' ⟨rfl, (Ext.refl w), (Nat.le_refl _), (SH.nil _ _)⟩ ⟨rfl, trivial⟩
  · clear hx5
    rintro _ w6 ⟨rfl, hb7, hL8, hS9⟩
    refine WQ.then_normal (hK2 _ _ _ ?_)
    refine WP.ret ?_
    obtain rfl := Option.some.inj hm
    exact WQ.ret1 _ rfl rfl ⟨rfl, hb7⟩

theorem c_49 (n : Nat) (rows_0 : List (List UInt8)) (a0' : Option Addr) (c0' : Nat) (w : World) {r : Bool} (hm : m_spec_l20Ok n rows_0 = some r) (h0 : Rd fStr.ty w a0' rows_0) (hle0 : rows_0.length ≤ c0') :
    CallV Try.prog 49 #[.slice a0' rows_0.length c0'] w (fun v w' => v = .bool r ∧ Ext w w') := by
  unfold m_spec_l20Ok at hm
  refine CallV.enter Try.func49 rfl (by kernel_rfl) Try.ntmps49 (env := [(0, .slice a0' rows_0.length c0')]) ⟨rfl, trivial⟩ ?_
  refine WP.seq (fun K1 hK1 => ?_)
  refine WP.region ?_
  refine WL.runk 1 [0] [(0, .slice a0' rows_0.length c0')] (by kernel_rfl) ?_
  refine WL.nil ?_
  refine WQ.then_normal (hK1 _ _ _ ?_)
  refine WP.seq (fun K2 hK2 => ?_)
  refine WP.seq (fun K3 hK3 => ?_)
  refine WP.region ?_
  refine WL.runk 1 [0, 3] [(0, .slice a0' rows_0.length c0'), (3, .int .i64 0)] (by kernel_rfl) ?_
  refine WL.nil ?_
  refine WQ.then_normal (hK3 _ _ _ ?_)
  refine WP.block ?_
  obtain ⟨t15, ht16, hm⟩ := bindE hm
  have hmo10 := hm; clear hm
  refine WP.sub [(0, .slice a0' rows_0.length c0'), (3, .int .i64 0)] ⟨rfl, rfl, trivial⟩ ?_
  refine WP.loop (fun n' env' w' => ∃ (st4 : Int) , env' = [(0, .slice a0' rows_0.length c0'), (3, .int .i64 st4)] ∧ Ext w w' ∧ w.heap.size ≤ w'.heap.size ∧ SH w' w.heap.size [] ∧ loopN (m_spec_l20Ok_l1 n rows_0) n' st4 = some t15) n ⟨0, rfl, (Ext.refl w), (Nat.le_refl _), (SH.nil _ _), ht16⟩ ?_
  rintro n12 _ w5 ⟨st4, rfl, hb6, hL7, hS8, hl9⟩ K11 hK11
  obtain ⟨n13, s14, rfl, hm, hl9⟩ := loopN_some hl9
  unfold m_spec_l20Ok_l1 at hm
  refine WP.seq (fun K17 hK17 => ?_)
  refine WP.seq (fun K18 hK18 => ?_)
  refine WP.region ?_
  refine WL.runk 4 [0, 3, 8] [(0, .slice a0' rows_0.length c0'), (3, .int .i64 st4), (8, .bool (decide (st4 < (rows_0.length : Int))))] (by kernel_rfl) ?_
  refine WL.nil ?_
  refine WQ.then_normal (hK18 _ _ _ ?_)
  refine WP.cond (decide (st4 < (rows_0.length : Int))) rfl rfl (fun hc19 => ?_) (fun hc19 => ?_)
  · have hm := iteT hm hc19
    refine WP.skip ?_
    refine WQ.then_normal (hK17 _ _ _ ?_)
    refine WP.seq (fun K20 hK20 => ?_)
    refine WP.block ?_
    refine WP.seq (fun K21 hK21 => ?_)
    refine WP.seq (fun K22 hK22 => ?_)
    obtain ⟨x44, hx45, hm⟩ := bindE hm
    refine WP.cut (fun env' w' => env' = [(0, .slice a0' rows_0.length c0'), (3, .int .i64 st4), (29, .bool x44)] ∧ Ext w w' ∧ w.heap.size ≤ w'.heap.size ∧ SH w' w.heap.size []) ?_ ?_
    · have hm := hx45; clear hx45
      refine WP.quiet (by kernel_rfl) (by kernel_rfl) ?_
      refine QL.step1 rfl (env' := [(0, .slice a0' rows_0.length c0'), (3, .int .i64 st4), (8, .bool (decide (st4 < (rows_0.length : Int)))), (11, .slice a0' rows_0.length c0')]) (fun _ => by kernel_rfl) ?_
      refine QL.sub [(0, .slice a0' rows_0.length c0'), (3, .int .i64 st4), (11, .slice a0' rows_0.length c0')] ⟨rfl, rfl, rfl, trivial⟩ ?_
      refine QL.step1 rfl (env' := [(0, .slice a0' rows_0.length c0'), (3, .int .i64 st4), (11, .slice a0' rows_0.length c0'), (12, .int .i64 st4)]) (fun _ => by kernel_rfl) ?_
      obtain ⟨x23, hx24, hm⟩ := bindE hm
      refine QL.st (.pointer (some (at_ a0' (Int.toNat st4 * 1)))) (ST.index (T := fStr.ty) (xs := rows_0) (Rd.below h0 hb6) hx24 rfl rfl rfl Try.underlying22 (info9).1 (info9).2.1) rfl rfl rfl ?_
      refine QL.st (.string (bs x23)) (ST.load (cell_ext (Rd.flat (F := fStr) (Rd.below h0 hb6) hx24 0 rfl)) rfl rfl Try.underlying9 rfl) rfl rfl rfl ?_
      refine QL.step1 rfl (env' := [(0, .slice a0' rows_0.length c0'), (3, .int .i64 st4), (11, .slice a0' rows_0.length c0'), (12, .int .i64 st4), (13, .pointer (some (at_ a0' (Int.toNat st4 * 1)))), (14, .string (bs x23)), (15, .int .i64 (x23.length : Int))]) (fun _ => by kernel_rfl) ?_
      refine QL.sub [(0, .slice a0' rows_0.length c0'), (3, .int .i64 st4), (15, .int .i64 (x23.length : Int))] ⟨rfl, rfl, rfl, trivial⟩ ?_
      refine QL.step1 rfl (env' := [(0, .slice a0' rows_0.length c0'), (3, .int .i64 st4), (15, .int .i64 (x23.length : Int)), (16, .slice a0' rows_0.length c0')]) (fun _ => by kernel_rfl) ?_
      obtain ⟨x25, hx26, hm⟩ := bindE hm
      refine QL.st (.pointer (some (at_ a0' (Int.toNat 0 * 1)))) (ST.index (T := fStr.ty) (xs := rows_0) (Rd.below h0 hb6) hx26 rfl rfl rfl Try.underlying22 (info9).1 (info9).2.1) rfl rfl rfl ?_
      refine QL.st (.string (bs x25)) (ST.load (cell_ext (Rd.flat (F := fStr) (Rd.below h0 hb6) hx26 0 rfl)) rfl rfl Try.underlying9 rfl) rfl rfl rfl ?_
      refine QL.step1 rfl (env' := [(0, .slice a0' rows_0.length c0'), (3, .int .i64 st4), (15, .int .i64 (x23.length : Int)), (16, .slice a0' rows_0.length c0'), (17, .pointer (some (at_ a0' (Int.toNat 0 * 1)))), (18, .string (bs x25)), (19, .int .i64 (x25.length : Int))]) (fun _ => by kernel_rfl) ?_
      refine QL.sub [(0, .slice a0' rows_0.length c0'), (3, .int .i64 st4), (15, .int .i64 (x23.length : Int)), (19, .int .i64 (x25.length : Int))] ⟨rfl, rfl, rfl, rfl, trivial⟩ ?_
      refine QL.step1 rfl (env' := [(0, .slice a0' rows_0.length c0'), (3, .int .i64 st4), (15, .int .i64 (x23.length : Int)), (19, .int .i64 (x25.length : Int)), (20, .bool ((x23.length : Int) != (x25.length : Int)))]) (fun _ => by kernel_rfl) ?_
      refine QL.sub [(0, .slice a0' rows_0.length c0'), (3, .int .i64 st4), (20, .bool ((x23.length : Int) != (x25.length : Int)))] ⟨rfl, rfl, rfl, trivial⟩ ?_
      refine QL.step1 rfl (env' := [(0, .slice a0' rows_0.length c0'), (3, .int .i64 st4), (20, .bool ((x23.length : Int) != (x25.length : Int))), (21, .bool ((x23.length : Int) != (x25.length : Int)))]) (fun _ => by kernel_rfl) ?_
      refine QL.sub [(0, .slice a0' rows_0.length c0'), (3, .int .i64 st4), (21, .bool ((x23.length : Int) != (x25.length : Int)))] ⟨rfl, rfl, rfl, trivial⟩ ?_
      refine QL.case ((x23.length : Int) != (x25.length : Int)) [21] ⟨rfl, trivial⟩ (fun hc27 => ?_) (fun hc27 => ?_)
      · have hm := iteT hm hc27
        refine QL.step1 rfl (env' := [(0, .slice a0' rows_0.length c0'), (3, .int .i64 st4), (21, .bool true), (22, undef)]) (fun _ => by kernel_rfl) ?_
        refine QL.step1 rfl (env' := [(0, .slice a0' rows_0.length c0'), (3, .int .i64 st4), (21, .bool true), (22, undef), (23, undef)]) (fun _ => by kernel_rfl) ?_
        refine QL.step1 rfl (env' := [(0, .slice a0' rows_0.length c0'), (3, .int .i64 st4), (21, .bool true), (22, undef), (23, undef), (24, undef)]) (fun _ => by kernel_rfl) ?_
        refine QL.step1 rfl (env' := [(0, .slice a0' rows_0.length c0'), (3, .int .i64 st4), (21, .bool true), (22, undef), (23, undef), (24, undef), (25, undef)]) (fun _ => by kernel_rfl) ?_
        refine QL.step1 rfl (env' := [(0, .slice a0' rows_0.length c0'), (3, .int .i64 st4), (21, .bool true), (22, undef), (23, undef), (24, undef), (25, undef), (26, undef)]) (fun _ => by kernel_rfl) ?_
        refine QL.step1 rfl (env' := [(0, .slice a0' rows_0.length c0'), (3, .int .i64 st4), (21, .bool true), (22, undef), (23, undef), (24, undef), (25, undef), (26, undef), (27, undef)]) (fun _ => by kernel_rfl) ?_
        refine QL.step1 rfl (env' := [(0, .slice a0' rows_0.length c0'), (3, .int .i64 st4), (21, .bool true), (22, undef), (23, undef), (24, undef), (25, undef), (26, undef), (27, undef), (28, undef)]) (fun _ => by kernel_rfl) ?_
        refine QL.step1 rfl (env' := [(0, .slice a0' rows_0.length c0'), (3, .int .i64 st4), (21, .bool true), (22, undef), (23, undef), (24, undef), (25, undef), (26, undef), (27, undef), (28, undef), (29, .bool true)]) (fun _ => by kernel_rfl) ?_
        refine QL.sub [(0, .slice a0' rows_0.length c0'), (3, .int .i64 st4), (29, .bool true)] ⟨rfl, rfl, rfl, trivial⟩ ?_
        refine QL.sub [(0, .slice a0' rows_0.length c0'), (3, .int .i64 st4), (29, .bool true)] ⟨rfl, rfl, rfl, trivial⟩ ?_
        refine QL.nil ?_
        intro w28 hE29
        have hb30 : Ext w w28 := Ext.trans hb6 hE29
        have hL31 : w.heap.size ≤ w28.heap.size := Nat.le_trans hL7 hE29.size
        have hS32 : SH w28 w.heap.size [] := SH.ext hS8 hE29
        obtain rfl := Option.some.inj hm
        exact WQ.post' ⟨rfl, hb30, hL31, hS32⟩ ⟨rfl, rfl, rfl, trivial⟩
      · have hm := iteF hm hc27
        refine QL.step1 rfl (env' := [(0, .slice a0' rows_0.length c0'), (3, .int .i64 st4), (21, .bool false), (22, .slice a0' rows_0.length c0')]) (fun _ => by kernel_rfl) ?_
        refine QL.step1 rfl (env' := [(0, .slice a0' rows_0.length c0'), (3, .int .i64 st4), (21, .bool false), (22, .slice a0' rows_0.length c0'), (23, .int .i64 st4)]) (fun _ => by kernel_rfl) ?_
        obtain ⟨x33, hx34, hm⟩ := bindE hm
        refine QL.st (.pointer (some (at_ a0' (Int.toNat st4 * 1)))) (ST.index (T := fStr.ty) (xs := rows_0) (Rd.below h0 hb6) hx34 rfl rfl rfl Try.underlying22 (info9).1 (info9).2.1) rfl rfl rfl ?_
        refine QL.st (.string (bs x33)) (ST.load (cell_ext (Rd.flat (F := fStr) (Rd.below h0 hb6) hx34 0 rfl)) rfl rfl Try.underlying9 rfl) rfl rfl rfl ?_
        refine QL.step1 rfl (env' := [(0, .slice a0' rows_0.length c0'), (3, .int .i64 st4), (21, .bool false), (22, .slice a0' rows_0.length c0'), (23, .int .i64 st4), (24, .pointer (some (at_ a0' (Int.toNat st4 * 1)))), (25, .string (bs x33)), (26, .int .i64 (x33.length : Int))]) (fun _ => by kernel_rfl) ?_
        refine QL.sub [(0, .slice a0' rows_0.length c0'), (3, .int .i64 st4), (21, .bool false), (26, .int .i64 (x33.length : Int))] ⟨rfl, rfl, rfl, rfl, trivial⟩ ?_
        obtain ⟨x35, hx36, hm⟩ := bindE hm
        refine QL.call 71 #[.int .i64 (x33.length : Int), .int .i64 2, .int .i64 8] (.bool x35) (fun _ => by kernel_rfl) (fun w37 hE38 => c_71 n (x33.length : Int) 2 8 w37 hx36 ) rfl rfl rfl ?_
        refine QL.step1 rfl (env' := [(0, .slice a0' rows_0.length c0'), (3, .int .i64 st4), (21, .bool false), (26, .int .i64 (x33.length : Int)), (27, .bool x35), (28, .bool (!x35))]) (fun _ => by kernel_rfl) ?_
        refine QL.sub [(0, .slice a0' rows_0.length c0'), (3, .int .i64 st4), (21, .bool false), (28, .bool (!x35))] ⟨rfl, rfl, rfl, rfl, trivial⟩ ?_
        refine QL.step1 rfl (env' := [(0, .slice a0' rows_0.length c0'), (3, .int .i64 st4), (21, .bool false), (28, .bool (!x35)), (29, .bool (!x35))]) (fun _ => by kernel_rfl) ?_
        refine QL.sub [(0, .slice a0' rows_0.length c0'), (3, .int .i64 st4), (29, .bool (!x35))] ⟨rfl, rfl, rfl, trivial⟩ ?_
        refine QL.sub [(0, .slice a0' rows_0.length c0'), (3, .int .i64 st4), (29, .bool (!x35))] ⟨rfl, rfl, rfl, trivial⟩ ?_
        refine QL.nil ?_
        intro w39 hE40
        have hb41 : Ext w w39 := Ext.trans hb6 hE40
        have hL42 : w.heap.size ≤ w39.heap.size := Nat.le_trans hL7 hE40.size
        have hS43 : SH w39 w.heap.size [] := SH.ext hS8 hE40
        obtain rfl := Option.some.inj hm
        exact WQ.post' ⟨rfl, hb41, hL42, hS43⟩ ⟨rfl, rfl, rfl, trivial⟩
    · clear hx45
      rintro _ w46 ⟨rfl, hb47, hL48, hS49⟩
      refine WQ.then_normal (hK22 _ _ _ ?_)
      refine WP.cond x44 rfl rfl (fun hc50 => ?_) (fun hc50 => ?_)
      · have hm := iteT hm hc50
        refine WP.seq (fun K51 hK51 => ?_)
        refine WP.region ?_
        refine WL.runk 1 [2] [(2, .bool false)] (by kernel_rfl) ?_
        refine WL.nil ?_
        refine WQ.then_normal (hK51 _ _ _ ?_)
        refine WP.ret ?_
        refine WQ.then_ret ?_
        refine WQ.block_ret ?_
        refine WQ.then_ret ?_
        refine WQ.then_ret ?_
        refine WQ.block_ret ?_
        refine WQ.then_ret ?_
        obtain rfl := Option.some.inj hm
        obtain rfl := afterN_done hl9
        have hm := hmo10
        obtain rfl := Option.some.inj hm
        exact WQ.ret1 _ rfl rfl ⟨rfl, hb47⟩
      · have hm := iteF hm hc50
        refine WP.skip ?_
        refine WQ.then_normal (hK21 _ _ _ ?_)
        refine WP.seq (fun K52 hK52 => ?_)
        refine WP.region ?_
        refine WL.runk 1 [0, 3, 4] [(0, .slice a0' rows_0.length c0'), (3, .int .i64 st4), (4, .int .i64 0)] (by kernel_rfl) ?_
        refine WL.nil ?_
        refine WQ.then_normal (hK52 _ _ _ ?_)
        refine WP.block ?_
        obtain ⟨t64, ht65, hm⟩ := bindE hm
        have hmo59 := hm; clear hm
        refine WP.sub [(0, .slice a0' rows_0.length c0'), (3, .int .i64 st4), (4, .int .i64 0)] ⟨rfl, rfl, rfl, trivial⟩ ?_
        refine WP.loop (fun n' env' w' => ∃ (st53 : Int) , env' = [(0, .slice a0' rows_0.length c0'), (3, .int .i64 st4), (4, .int .i64 st53)] ∧ Ext w w' ∧ w.heap.size ≤ w'.heap.size ∧ SH w' w.heap.size [] ∧ loopN (m_spec_l20Ok_l2 n rows_0 st4) n' st53 = some t64) n ⟨0, rfl, hb47, hL48, hS49, ht65⟩ ?_
        rintro n61 _ w54 ⟨st53, rfl, hb55, hL56, hS57, hl58⟩ K60 hK60
        obtain ⟨n62, s63, rfl, hm, hl58⟩ := loopN_some hl58
        unfold m_spec_l20Ok_l2 at hm
        refine WP.seq (fun K66 hK66 => ?_)
        refine WP.seq (fun K67 hK67 => ?_)
        refine WP.region ?_
        refine WL.runk 3 [0, 3, 4, 30, 31, 32] [(0, .slice a0' rows_0.length c0'), (3, .int .i64 st4), (4, .int .i64 st53), (30, .int .i64 st53), (31, .slice a0' rows_0.length c0'), (32, .int .i64 st4)] (by kernel_rfl) ?_
        obtain ⟨x68, hx69, hm⟩ := bindE hm
        refine WL.st (.pointer (some (at_ a0' (Int.toNat st4 * 1)))) (ST.index (T := fStr.ty) (xs := rows_0) (Rd.below h0 hb55) hx69 rfl rfl rfl Try.underlying22 (info9).1 (info9).2.1) rfl rfl rfl ?_
        refine WL.st (.string (bs x68)) (ST.load (cell_ext (Rd.flat (F := fStr) (Rd.below h0 hb55) hx69 0 rfl)) rfl rfl Try.underlying9 rfl) rfl rfl rfl ?_
        refine WL.runk 2 [0, 3, 4, 36] [(0, .slice a0' rows_0.length c0'), (3, .int .i64 st4), (4, .int .i64 st53), (36, .bool (decide (st53 < (x68.length : Int))))] (by kernel_rfl) ?_
        refine WL.nil ?_
        refine WQ.then_normal (hK67 _ _ _ ?_)
        refine WP.cond (decide (st53 < (x68.length : Int))) rfl rfl (fun hc70 => ?_) (fun hc70 => ?_)
        · have hm := iteT hm hc70
          refine WP.skip ?_
          refine WQ.then_normal (hK66 _ _ _ ?_)
          refine WP.seq (fun K71 hK71 => ?_)
          refine WP.block ?_
          refine WP.seq (fun K72 hK72 => ?_)
          refine WP.region ?_
          refine WL.runk 2 [0, 3, 4, 39, 40] [(0, .slice a0' rows_0.length c0'), (3, .int .i64 st4), (4, .int .i64 st53), (39, .slice a0' rows_0.length c0'), (40, .int .i64 st4)] (by kernel_rfl) ?_
          obtain ⟨x73, hx74, hm⟩ := bindE hm
          refine WL.st (.pointer (some (at_ a0' (Int.toNat st4 * 1)))) (ST.index (T := fStr.ty) (xs := rows_0) (Rd.below h0 hb55) hx74 rfl rfl rfl Try.underlying22 (info9).1 (info9).2.1) rfl rfl rfl ?_
          refine WL.st (.string (bs x73)) (ST.load (cell_ext (Rd.flat (F := fStr) (Rd.below h0 hb55) hx74 0 rfl)) rfl rfl Try.underlying9 rfl) rfl rfl rfl ?_
          refine WL.runk 1 [0, 3, 4, 42, 43] [(0, .slice a0' rows_0.length c0'), (3, .int .i64 st4), (4, .int .i64 st53), (42, .string (bs x73)), (43, .int .i64 st53)] (by kernel_rfl) ?_
          obtain ⟨x75, hx76, hm⟩ := bindE hm
          refine WL.st (.int .u8 (x75.toNat : Int)) (ST.sindex hx76 rfl rfl rfl Try.underlying9) rfl rfl rfl ?_
          obtain ⟨x77, hx78, hm⟩ := bindE hm
          refine WL.call 76 #[.int .u8 (x75.toNat : Int)] rfl rfl (by kernel_rfl) (c_76 n (x75.toNat : Int) w54 hx78 ) ?_
          rintro _ w79 ⟨rfl, hE80⟩
          refine ⟨_, rfl, ?_⟩
          have hb82 : Ext w w79 := Ext.trans hb55 hE80
          have hL83 : w.heap.size ≤ w79.heap.size := Nat.le_trans hL56 hE80.size
          have hS84 : SH w79 w.heap.size [] := SH.ext hS57 hE80
          refine WL.runk 1 [0, 3, 4, 46] [(0, .slice a0' rows_0.length c0'), (3, .int .i64 st4), (4, .int .i64 st53), (46, .bool (!x77))] (by kernel_rfl) ?_
          refine WL.nil ?_
          refine WQ.then_normal (hK72 _ _ _ ?_)
          refine WP.cond (!x77) rfl rfl (fun hc85 => ?_) (fun hc85 => ?_)
          · have hm := iteT hm hc85
            refine WP.seq (fun K86 hK86 => ?_)
            refine WP.region ?_
            refine WL.runk 1 [2] [(2, .bool false)] (by kernel_rfl) ?_
            refine WL.nil ?_
            refine WQ.then_normal (hK86 _ _ _ ?_)
            refine WP.ret ?_
            refine WQ.block_ret ?_
            refine WQ.then_ret ?_
            refine WQ.then_ret ?_
            refine WQ.block_ret ?_
            refine WQ.block_ret ?_
            refine WQ.then_ret ?_
            refine WQ.then_ret ?_
            refine WQ.block_ret ?_
            refine WQ.then_ret ?_
            obtain rfl := Option.some.inj hm
            obtain rfl := afterN_done hl58
            have hm := hmo59
            obtain rfl := Option.some.inj hm
            obtain rfl := afterN_done hl9
            have hm := hmo10
            obtain rfl := Option.some.inj hm
            exact WQ.ret1 _ rfl rfl ⟨rfl, hb82⟩
          · have hm := iteF hm hc85
            refine WP.skip ?_
            refine WQ.block_normal ?_
            refine WQ.then_normal (hK71 _ _ _ ?_)
            refine WP.region ?_
            refine WL.runk 3 [0, 3, 4] [(0, .slice a0' rows_0.length c0'), (3, .int .i64 st4), (4, .int .i64 (wI64 (st53 + 1)))] (by kernel_rfl) ?_
            refine WL.nil ?_
            obtain rfl := Option.some.inj hm
            exact WQ.round hK60 ⟨(wI64 (st53 + 1)), rfl, hb82, hL83, hS84, hl58⟩ (Nat.lt_succ_self _) ⟨rfl, rfl, rfl, trivial⟩
        · have hm := iteF hm hc70
          refine WP.exit ?_
          refine WQ.then_exit ?_
          refine WQ.then_exit ?_
          refine WQ.block_here ?_
          obtain rfl := Option.some.inj hm
          obtain rfl := afterN_done hl58
          have hm := hmo59
          refine WQ.block_normal ?_
          refine WQ.then_normal (hK20 _ _ _ ?_)
          refine WP.region ?_
          refine WL.runk 3 [0, 3] [(0, .slice a0' rows_0.length c0'), (3, .int .i64 (wI64 (st4 + 1)))] (by kernel_rfl) ?_
          refine WL.nil ?_
          obtain rfl := Option.some.inj hm
          exact WQ.round hK11 ⟨(wI64 (st4 + 1)), rfl, hb55, hL56, hS57, hl9⟩ (Nat.lt_succ_self _) ⟨rfl, rfl, trivial⟩
  · have hm := iteF hm hc19
    refine WP.exit ?_
    refine WQ.then_exit ?_
    refine WQ.then_exit ?_
    refine WQ.block_here ?_
    obtain rfl := Option.some.inj hm
    obtain rfl := afterN_done hl9
    have hm := hmo10
    refine WQ.then_normal (hK2 _ _ _ ?_)
    refine WP.seq (fun K88 hK88 => ?_)
    refine WP.region ?_
    refine WL.runk 2 [48] [(48, .int .i64 (rows_0.length : Int))] (by kernel_rfl) ?_
    obtain ⟨x89, hx90, hm⟩ := bindE hm
    refine WL.call 71 #[.int .i64 (rows_0.length : Int), .int .i64 2, .int .i64 12] rfl rfl (by kernel_rfl) (c_71 n (rows_0.length : Int) 2 12 w5 hx90 ) ?_
    rintro _ w91 ⟨rfl, hE92⟩
    refine ⟨_, rfl, ?_⟩
    have hb94 : Ext w w91 := Ext.trans hb6 hE92
    have hL95 : w.heap.size ≤ w91.heap.size := Nat.le_trans hL7 hE92.size
    have hS96 : SH w91 w.heap.size [] := SH.ext hS8 hE92
    refine WL.runk 1 [2] [(2, .bool x89)] (by kernel_rfl) ?_
    refine WL.nil ?_
    refine WQ.then_normal (hK88 _ _ _ ?_)
    refine WP.ret ?_
    obtain rfl := Option.some.inj hm
    exact WQ.ret1 _ rfl rfl ⟨rfl, hb94⟩

theorem c_16 (n : Nat) (rows_0 : List (List UInt8)) (a0' : Option Addr) (c0' : Nat) (w : World) {r : Bool} (hm : m_spec_ValidWear n rows_0 = some r) (h0 : Rd fStr.ty w a0' rows_0) (hle0 : rows_0.length ≤ c0') :
    CallV Try.prog 16 #[.slice a0' rows_0.length c0'] w (fun v w' => v = .bool r ∧ Ext w w') := by
  unfold m_spec_ValidWear at hm
  refine CallV.enter Try.func16 rfl (by kernel_rfl) Try.ntmps16 (env := [(0, .slice a0' rows_0.length c0')]) ⟨rfl, trivial⟩ ?_
  refine WP.seq (fun K1 hK1 => ?_)
  refine WP.region ?_
  refine WL.runk 1 [0] [(0, .slice a0' rows_0.length c0')] (by kernel_rfl) ?_
  refine WL.nil ?_
  refine WQ.then_normal (hK1 _ _ _ ?_)
  refine WP.seq (fun K2 hK2 => ?_)
  refine WP.region ?_
  refine WL.runk 1 [3] [(3, .slice a0' rows_0.length c0')] (by kernel_rfl) ?_
  obtain ⟨x3, hx4, hm⟩ := bindE hm
  refine WL.call 49 #[.slice a0' rows_0.length c0'] rfl rfl (by kernel_rfl) (c_49 n rows_0 a0' c0' w hx4 (Rd.below h0 (Ext.refl w)) hle0) ?_
  rintro _ w5 ⟨rfl, hE6⟩
  refine ⟨_, rfl, ?_⟩
  have hb8 : Ext w w5 := Ext.trans (Ext.refl w) hE6
  have hL9 : w.heap.size ≤ w5.heap.size := Nat.le_trans (Nat.le_refl _) hE6.size
  have hS10 : SH w5 w.heap.size [] := SH.ext (SH.nil _ _) hE6
  refine WL.runk 1 [2] [(2, .bool x3)] (by kernel_rfl) ?_
  refine WL.nil ?_
  refine WQ.then_normal (hK2 _ _ _ ?_)
  refine WP.ret ?_
  obtain rfl := Option.some.inj hm
  exact WQ.ret1 _ rfl rfl ⟨rfl, hb8⟩

theorem c_17 (n : Nat) (a_0 : List (List UInt8)) (a0' : Option Addr) (c0' : Nat) (w : World) {r : List (List UInt8)} (hm : m_laws_toStringS n a_0 = some r) (h0 : Rd fStr.ty w a0' a_0) (hle0 : a_0.length ≤ c0') :
    CallV Try.prog 17 #[.slice a0' a_0.length c0'] w (fun v w' => ∃ (ra0 : Option Addr) (rc0 : Nat), v = .slice ra0 r.length rc0 ∧ Ext w w' ∧ SH w' w.heap.size [aOwn fStr 9 ra0 rc0 r]) := by
  unfold m_laws_toStringS at hm
  refine CallV.enter Try.func17 rfl (by kernel_rfl) Try.ntmps17 (env := [(0, .slice a0' a_0.length c0')]) ⟨rfl, trivial⟩ ?_
  refine WP.seq (fun K1 hK1 => ?_)
  refine WP.region ?_
  refine WL.runk 1 [0] [(0, .slice a0' a_0.length c0')] (by kernel_rfl) ?_
  refine WL.nil ?_
  refine WQ.then_normal (hK1 _ _ _ ?_)
  refine WP.seq (fun K2 hK2 => ?_)
  refine WP.region ?_
  refine WL.runk 2 [0, 6] [(0, .slice a0' a_0.length c0'), (6, .int .i64 (a_0.length : Int))] (by kernel_rfl) ?_
  obtain ⟨x3, hx4, hm⟩ := bindE hm
  refine WL.make fStr 7 hx4 rfl rfl rfl Try.underlying22 (info9).1 (info9).2.2.1 (info9).2.1 (info9).2.2.2 rfl rfl rfl rfl rfl ?_
  intro a5 c6 w7 hE8 hR9
  have hb11 : Ext w w7 := Ext.trans (Ext.refl w) hE8
  have hL12 : w.heap.size ≤ w7.heap.size := Nat.le_trans (Nat.le_refl _) hE8.size
  have hS13 : SH w7 w.heap.size [aOwn fStr 9 a5 c6 x3] := SH.add (SH.nil _ _) hE8 (Nat.le_refl _) hR9
  refine WL.runk 1 [0, 3] [(0, .slice a0' a_0.length c0'), (3, .slice a5 x3.length c6)] (by kernel_rfl) ?_
  refine WL.nil ?_
  refine WQ.then_normal (hK2 _ _ _ ?_)
  refine WP.seq (fun K14 hK14 => ?_)
  refine WP.seq (fun K15 hK15 => ?_)
  refine WP.region ?_
  refine WL.runk 1 [0, 3, 4] [(0, .slice a0' a_0.length c0'), (3, .slice a5 x3.length c6), (4, .int .i64 0)] (by kernel_rfl) ?_
  refine WL.nil ?_
  refine WQ.then_normal (hK15 _ _ _ ?_)
  refine WP.block ?_
  obtain ⟨t54, ht55, hm⟩ := bindE hm
  have hmo49 := hm; clear hm
  refine WP.sub [(0, .slice a0' a_0.length c0'), (3, .slice a5 x3.length c6), (4, .int .i64 0)] ⟨rfl, rfl, rfl, trivial⟩ ?_
  refine WP.loop (fun n' env' w' => ∃ (st43 : Int × List (List UInt8)) , env' = [(0, .slice a0' a_0.length c0'), (3, .slice a5 st43.2.length c6), (4, .int .i64 st43.1)] ∧ Ext w w' ∧ w.heap.size ≤ w'.heap.size ∧ SH w' w.heap.size [aOwn fStr 9 a5 c6 st43.2] ∧ loopN (m_laws_toStringS_l1 n a_0) n' st43 = some t54) n ⟨(0, x3), rfl, hb11, hL12, hS13, ht55⟩ ?_
  rintro n51 _ w44 ⟨st43, rfl, hb45, hL46, hS47, hl48⟩ K50 hK50
  obtain ⟨n52, s53, rfl, hm, hl48⟩ := loopN_some hl48
  unfold m_laws_toStringS_l1 at hm
  refine WP.seq (fun K56 hK56 => ?_)
  refine WP.seq (fun K57 hK57 => ?_)
  refine WP.region ?_
  refine WL.runk 4 [0, 3, 4, 11] [(0, .slice a0' a_0.length c0'), (3, .slice a5 st43.2.length c6), (4, .int .i64 st43.1), (11, .bool (decide (st43.1 < (a_0.length : Int))))] (by kernel_rfl) ?_
  refine WL.nil ?_
  refine WQ.then_normal (hK57 _ _ _ ?_)
  refine WP.cond (decide (st43.1 < (a_0.length : Int))) rfl rfl (fun hc58 => ?_) (fun hc58 => ?_)
  · have hm := iteT hm hc58
    refine WP.skip ?_
    refine WQ.then_normal (hK56 _ _ _ ?_)
    refine WP.seq (fun K59 hK59 => ?_)
    refine WP.block ?_
    refine WP.region ?_
    refine WL.runk 4 [0, 3, 4, 14, 15, 16, 17] [(0, .slice a0' a_0.length c0'), (3, .slice a5 st43.2.length c6), (4, .int .i64 st43.1), (14, .slice a5 st43.2.length c6), (15, .int .i64 st43.1), (16, .slice a0' a_0.length c0'), (17, .int .i64 st43.1)] (by kernel_rfl) ?_
    obtain ⟨x60, hx61, hm⟩ := bindE hm
    refine WL.st (.pointer (some (at_ a0' (Int.toNat st43.1 * 1)))) (ST.index (T := fStr.ty) (xs := a_0) (Rd.below h0 hb45) hx61 rfl rfl rfl Try.underlying22 (info9).1 (info9).2.1) rfl rfl rfl ?_
    refine WL.st (.string (bs x60)) (ST.load (cell_ext (Rd.flat (F := fStr) (Rd.below h0 hb45) hx61 0 rfl)) rfl rfl Try.underlying9 rfl) rfl rfl rfl ?_
    obtain ⟨x62, hx63, hm⟩ := bindE hm
    refine WL.st (.pointer (some (at_ a5 (Int.toNat st43.1 * 1)))) (ST.index (T := fStr.ty) (xs := st43.2) (SH.rd (SH.front 0 hS47)) hx63 rfl rfl rfl Try.underlying22 (info9).1 (info9).2.1) rfl rfl rfl ?_
    refine WL.store (F := fStr) x60 0 [.string (bs x60)] (SH.front 0 hS47) hL46 hx63 rfl rfl rfl rfl rfl rfl rfl (info9).1 (info9).2.1 rfl rfl rfl ?_
    intro w64 hB65 hS66
    have hb67 : Ext w w64 := Below.trans hb45 hB65
    have hL68 : w.heap.size ≤ w64.heap.size := Nat.le_trans hL46 hB65.size
    refine WL.sub [(0, .slice a0' a_0.length c0'), (3, .slice a5 ((st43.2.set (Int.toNat st43.1) x60).length) c6), (4, .int .i64 st43.1), (14, .slice a5 ((st43.2.set (Int.toNat st43.1) x60).length) c6), (15, .int .i64 st43.1), (16, .slice a0' a_0.length c0'), (17, .int .i64 st43.1), (18, .pointer (some (at_ a0' (Int.toNat st43.1 * 1)))), (19, .string (bs x60))] ⟨rfl, by rw [List.length_set]; rfl, rfl, by rw [List.length_set]; rfl, rfl, rfl, rfl, rfl, rfl, trivial⟩ ?_
    refine WL.sub [(0, .slice a0' a_0.length c0'), (3, .slice a5 ((st43.2.set (Int.toNat st43.1) x60).length) c6), (4, .int .i64 st43.1)] ⟨rfl, rfl, rfl, trivial⟩ ?_
    refine WL.nil ?_
    refine WQ.block_normal ?_
    refine WQ.then_normal (hK59 _ _ _ ?_)
    refine WP.region ?_
    refine WL.runk 3 [0, 3, 4] [(0, .slice a0' a_0.length c0'), (3, .slice a5 ((st43.2.set (Int.toNat st43.1) x60).length) c6), (4, .int .i64 (wI64 (st43.1 + 1)))] (by kernel_rfl) ?_
    refine WL.nil ?_
    obtain rfl := Option.some.inj hm
    exact WQ.round hK50 ⟨((wI64 (st43.1 + 1)), (st43.2.set (Int.toNat st43.1) x60)), rfl, hb67, hL68, hS66, hl48⟩ (Nat.lt_succ_self _) ⟨rfl, rfl, rfl, trivial⟩
  · have hm := iteF hm hc58
    refine WP.exit ?_
    refine WQ.then_exit ?_
    refine WQ.then_exit ?_
    refine WQ.block_here ?_
    obtain rfl := Option.some.inj hm
    obtain rfl := afterN_done hl48
    have hm := hmo49
    refine WQ.then_normal (hK14 _ _ _ ?_)
    refine WP.seq (fun K69 hK69 => ?_)
    refine WP.region ?_
    refine WL.runk 2 [2] [(2, .slice a5 st43.2.length c6)] (by kernel_rfl) ?_
    refine WL.nil ?_
    refine WQ.then_normal (hK69 _ _ _ ?_)
    refine WP.ret ?_
    obtain rfl := Option.some.inj hm
    exact WQ.ret1 _ rfl rfl ⟨_, _, rfl, hb45, hS47⟩

theorem c_50 (n : Nat) (n_0 : Int) (low_1 : Int) (high_2 : Int) (w : World) {r : Bool} (hm : m_impl_within n n_0 low_1 high_2 = some r)  :
    CallV Try.prog 50 #[.int .i64 n_0, .int .i64 low_1, .int .i64 high_2] w (fun v w' => v = .bool r ∧ Ext w w') := by
  unfold m_impl_within at hm
  refine CallV.enter Try.func50 rfl (by kernel_rfl) Try.ntmps50 (env := [(0, .int .i64 n_0), (1, .int .i64 low_1), (2, .int .i64 high_2)]) ⟨rfl, rfl, rfl, trivial⟩ ?_
  refine WP.seq (fun K1 hK1 => ?_)
  refine WP.region ?_
  refine WL.runk 1 [0, 1, 2] [(0, .int .i64 n_0), (1, .int .i64 low_1), (2, .int .i64 high_2)] (by kernel_rfl) ?_
  refine WL.nil ?_
  refine WQ.then_normal (hK1 _ _ _ ?_)
  refine WP.seq (fun K2 hK2 => ?_)
  obtain ⟨x4, hx5, hm⟩ := bindE hm
  refine WP.cut (fun env' w' => env' = [(6, .bool x4)] ∧ Ext w w' ∧ w.heap.size ≤ w'.heap.size ∧ SH w' w.heap.size []) ?_ ?_
  · have hm := hx5; clear hx5
    refine WP.region ?_
    refine WL.runk 4 [0, 2, 10] [(0, .int .i64 n_0), (2, .int .i64 high_2), (10, .bool (decide (n_0 ≥ low_1)))] (by kernel_rfl) ?_
    refine WL.case (decide (n_0 ≥ low_1)) [10] ⟨rfl, trivial⟩ (fun hc3 => ?_) (fun hc3 => ?_)
    · have hm := iteT hm hc3
      refine WL.runk 5 [6] [(6, .bool (decide (n_0 ≤ high_2)))] (by kernel_rfl) ?_
      refine WL.nil ?_
      obtain rfl := Option.some.inj hm
      exact WQ.post' ⟨rfl, (Ext.refl w), (Nat.le_refl _), (SH.nil _ _)⟩ ⟨rfl, trivial⟩
    · have hm := iteF hm hc3
      refine WL.runk 5 [6] [(6, .bool false)] (by kernel_rfl) ?_
      refine WL.nil ?_
      obtain rfl := Option.some.inj hm
      exact WQ.post' ⟨rfl, (Ext.refl w), (Nat.le_refl _), (SH.nil _ _)⟩ ⟨rfl, trivial⟩
  · clear hx5
    rintro _ w6 ⟨rfl, hb7, hL8, hS9⟩
    refine WQ.then_normal (hK2 _ _ _ ?_)
    refine WP.ret ?_
    obtain rfl := Option.some.inj hm
    exact WQ.ret1 _ rfl rfl ⟨rfl, hb7⟩

theorem c_18 (n : Nat) (rows_0 : List (List UInt8)) (a0' : Option Addr) (c0' : Nat) (w : World) {r : Bool} (hm : m_impl_ValidWear n rows_0 = some r) (h0 : Rd fStr.ty w a0' rows_0) (hle0 : rows_0.length ≤ c0') :
    CallV Try.prog 18 #[.slice a0' rows_0.length c0'] w (fun v w' => v = .bool r ∧ Ext w w') := by
  unfold m_impl_ValidWear at hm
  refine CallV.enter Try.func18 rfl (by kernel_rfl) Try.ntmps18 (env := [(0, .slice a0' rows_0.length c0')]) ⟨rfl, trivial⟩ ?_
  refine WP.seq (fun K1 hK1 => ?_)
  refine WP.region ?_
  refine WL.runk 1 [0] [(0, .slice a0' rows_0.length c0')] (by kernel_rfl) ?_
  refine WL.nil ?_
  refine WQ.then_normal (hK1 _ _ _ ?_)
  refine WP.seq (fun K2 hK2 => ?_)
  refine WP.seq (fun K3 hK3 => ?_)
  obtain ⟨x23, hx24, hm⟩ := bindE hm
  refine WP.cut (fun env' w' => env' = [(0, .slice a0' rows_0.length c0'), (17, .bool x23)] ∧ Ext w w' ∧ w.heap.size ≤ w'.heap.size ∧ SH w' w.heap.size []) ?_ ?_
  · have hm := hx24; clear hx24
    refine WP.region ?_
    refine WL.runk 2 [0, 7] [(0, .slice a0' rows_0.length c0'), (7, .int .i64 (rows_0.length : Int))] (by kernel_rfl) ?_
    obtain ⟨x4, hx5, hm⟩ := bindE hm
    refine WL.call 50 #[.int .i64 (rows_0.length : Int), .int .i64 2, .int .i64 12] rfl rfl (by kernel_rfl) (c_50 n (rows_0.length : Int) 2 12 w hx5 ) ?_
    rintro _ w6 ⟨rfl, hE7⟩
    refine ⟨_, rfl, ?_⟩
    have hb9 : Ext w w6 := Ext.trans (Ext.refl w) hE7
    have hL10 : w.heap.size ≤ w6.heap.size := Nat.le_trans (Nat.le_refl _) hE7.size
    have hS11 : SH w6 w.heap.size [] := SH.ext (SH.nil _ _) hE7
    refine WL.runk 2 [0, 10] [(0, .slice a0' rows_0.length c0'), (10, .bool (!x4))] (by kernel_rfl) ?_
    refine WL.case (!x4) [10] ⟨rfl, trivial⟩ (fun hc12 => ?_) (fun hc12 => ?_)
    · have hm := iteT hm hc12
      refine WL.runk 7 [0, 17] [(0, .slice a0' rows_0.length c0'), (17, .bool true)] (by kernel_rfl) ?_
      refine WL.nil ?_
      obtain rfl := Option.some.inj hm
      exact WQ.post' ⟨rfl, hb9, hL10, hS11⟩ ⟨rfl, rfl, trivial⟩
    · have hm := iteF hm hc12
      refine WL.runk 1 [0, 10, 11] [(0, .slice a0' rows_0.length c0'), (10, .bool false), (11, .slice a0' rows_0.length c0')] (by kernel_rfl) ?_
      obtain ⟨x13, hx14, hm⟩ := bindE hm
      refine WL.st (.pointer (some (at_ a0' (Int.toNat 0 * 1)))) (ST.index (T := fStr.ty) (xs := rows_0) (Rd.below h0 hb9) hx14 rfl rfl rfl Try.underlying22 (info9).1 (info9).2.1) rfl rfl rfl ?_
      refine WL.st (.string (bs x13)) (ST.load (cell_ext (Rd.flat (F := fStr) (Rd.below h0 hb9) hx14 0 rfl)) rfl rfl Try.underlying9 rfl) rfl rfl rfl ?_
      refine WL.runk 1 [0, 10, 14] [(0, .slice a0' rows_0.length c0'), (10, .bool false), (14, .int .i64 (x13.length : Int))] (by kernel_rfl) ?_
      obtain ⟨x15, hx16, hm⟩ := bindE hm
      refine WL.call 50 #[.int .i64 (x13.length : Int), .int .i64 2, .int .i64 8] rfl rfl (by kernel_rfl) (c_50 n (x13.length : Int) 2 8 w6 hx16 ) ?_
      rintro _ w17 ⟨rfl, hE18⟩
      refine ⟨_, rfl, ?_⟩
      have hb20 : Ext w w17 := Ext.trans hb9 hE18
      have hL21 : w.heap.size ≤ w17.heap.size := Nat.le_trans hL10 hE18.size
      have hS22 : SH w17 w.heap.size [] := SH.ext hS11 hE18
      refine WL.runk 2 [0, 17] [(0, .slice a0' rows_0.length c0'), (17, .bool (!x15))] (by kernel_rfl) ?_
      refine WL.nil ?_
      obtain rfl := Option.some.inj hm
      exact WQ.post' ⟨rfl, hb20, hL21, hS22⟩ ⟨rfl, rfl, trivial⟩
  · clear hx24
    rintro _ w25 ⟨rfl, hb26, hL27, hS28⟩
    refine WQ.then_normal (hK3 _ _ _ ?_)
    refine WP.cond x23 rfl rfl (fun hc29 => ?_) (fun hc29 => ?_)
    · have hm := iteT hm hc29
      refine WP.seq (fun K30 hK30 => ?_)
      refine WP.region ?_
      refine WL.runk 1 [2] [(2, .bool false)] (by kernel_rfl) ?_
      refine WL.nil ?_
      refine WQ.then_normal (hK30 _ _ _ ?_)
      refine WP.ret ?_
      refine WQ.then_ret ?_
      obtain rfl := Option.some.inj hm
      exact WQ.ret1 _ rfl rfl ⟨rfl, hb26⟩
    · have hm := iteF hm hc29
      refine WP.skip ?_
      refine WQ.then_normal (hK2 _ _ _ ?_)
      refine WP.seq (fun K31 hK31 => ?_)
      refine WP.seq (fun K32 hK32 => ?_)
      refine WP.region ?_
      refine WL.runk 3 [0, 18, 19, 20] [(0, .slice a0' rows_0.length c0'), (18, .slice a0' rows_0.length c0'), (19, .int .i64 (rows_0.length : Int)), (20, .int .i64 0)] (by kernel_rfl) ?_
      refine WL.nil ?_
      refine WQ.then_normal (hK32 _ _ _ ?_)
      refine WP.block ?_
      obtain ⟨t44, ht45, hm⟩ := bindE hm
      have hmo39 := hm; clear hm
      refine WP.sub [(0, .slice a0' rows_0.length c0'), (18, .slice a0' rows_0.length c0'), (19, .int .i64 (rows_0.length : Int)), (20, .int .i64 0)] ⟨rfl, rfl, rfl, rfl, trivial⟩ ?_
      refine WP.loop (fun n' env' w' => ∃ (st33 : Int) , env' = [(0, .slice a0' rows_0.length c0'), (18, .slice a0' rows_0.length c0'), (19, .int .i64 (rows_0.length : Int)), (20, .int .i64 st33)] ∧ Ext w w' ∧ w.heap.size ≤ w'.heap.size ∧ SH w' w.heap.size [] ∧ loopN (m_impl_ValidWear_l1 n rows_0) n' st33 = some t44) n ⟨0, rfl, hb26, hL27, hS28, ht45⟩ ?_
      rintro n41 _ w34 ⟨st33, rfl, hb35, hL36, hS37, hl38⟩ K40 hK40
      obtain ⟨n42, s43, rfl, hm, hl38⟩ := loopN_some hl38
      unfold m_impl_ValidWear_l1 at hm
      refine WP.seq (fun K46 hK46 => ?_)
      refine WP.region ?_
      refine WL.runk 1 [0, 18, 19, 20, 21] [(0, .slice a0' rows_0.length c0'), (18, .slice a0' rows_0.length c0'), (19, .int .i64 (rows_0.length : Int)), (20, .int .i64 st33), (21, .bool (decide (st33 < (rows_0.length : Int))))] (by kernel_rfl) ?_
      refine WL.nil ?_
      refine WQ.then_normal (hK46 _ _ _ ?_)
      refine WP.seq (fun K47 hK47 => ?_)
      refine WP.cond (decide (st33 < (rows_0.length : Int))) rfl rfl (fun hc48 => ?_) (fun hc48 => ?_)
      · have hm := iteT hm hc48
        refine WP.skip ?_
        refine WQ.then_normal (hK47 _ _ _ ?_)
        refine WP.seq (fun K49 hK49 => ?_)
        refine WP.block ?_
        refine WP.seq (fun K50 hK50 => ?_)
        refine WP.region ?_
        obtain ⟨x51, hx52, hm⟩ := bindE hm
        refine WL.st (.pointer (some (at_ a0' (Int.toNat st33 * 1)))) (ST.index (T := fStr.ty) (xs := rows_0) (Rd.below h0 hb35) hx52 rfl rfl rfl Try.underlying22 (info9).1 (info9).2.1) rfl rfl rfl ?_
        refine WL.st (.string (bs x51)) (ST.load (cell_ext (Rd.flat (F := fStr) (Rd.below h0 hb35) hx52 0 rfl)) rfl rfl Try.underlying9 rfl) rfl rfl rfl ?_
        refine WL.runk 1 [0, 4, 18, 19, 20] [(0, .slice a0' rows_0.length c0'), (18, .slice a0' rows_0.length c0'), (19, .int .i64 (rows_0.length : Int)), (20, .int .i64 st33), (4, .string (bs x51))] (by kernel_rfl) ?_
        refine WL.nil ?_
        refine WQ.then_normal (hK50 _ _ _ ?_)
        refine WP.seq (fun K53 hK53 => ?_)
        refine WP.seq (fun K54 hK54 => ?_)
        refine WP.region ?_
        refine WL.runk 3 [0, 4, 18, 19, 20, 25, 26] [(0, .slice a0' rows_0.length c0'), (18, .slice a0' rows_0.length c0'), (19, .int .i64 (rows_0.length : Int)), (20, .int .i64 st33), (4, .string (bs x51)), (25, .int .i64 (x51.length : Int)), (26, .slice a0' rows_0.length c0')] (by kernel_rfl) ?_
        obtain ⟨x55, hx56, hm⟩ := bindE hm
        refine WL.st (.pointer (some (at_ a0' (Int.toNat 0 * 1)))) (ST.index (T := fStr.ty) (xs := rows_0) (Rd.below h0 hb35) hx56 rfl rfl rfl Try.underlying22 (info9).1 (info9).2.1) rfl rfl rfl ?_
        refine WL.st (.string (bs x55)) (ST.load (cell_ext (Rd.flat (F := fStr) (Rd.below h0 hb35) hx56 0 rfl)) rfl rfl Try.underlying9 rfl) rfl rfl rfl ?_
        refine WL.runk 2 [0, 4, 18, 19, 20, 30] [(0, .slice a0' rows_0.length c0'), (18, .slice a0' rows_0.length c0'), (19, .int .i64 (rows_0.length : Int)), (20, .int .i64 st33), (4, .string (bs x51)), (30, .bool ((x51.length : Int) != (x55.length : Int)))] (by kernel_rfl) ?_
        refine WL.nil ?_
        refine WQ.then_normal (hK54 _ _ _ ?_)
        refine WP.cond ((x51.length : Int) != (x55.length : Int)) rfl rfl (fun hc57 => ?_) (fun hc57 => ?_)
        · have hm := iteT hm hc57
          refine WP.seq (fun K58 hK58 => ?_)
          refine WP.region ?_
          refine WL.runk 1 [2] [(2, .bool false)] (by kernel_rfl) ?_
          refine WL.nil ?_
          refine WQ.then_normal (hK58 _ _ _ ?_)
          refine WP.ret ?_
          refine WQ.then_ret ?_
          refine WQ.block_ret ?_
          refine WQ.then_ret ?_
          refine WQ.then_ret ?_
          refine WQ.block_ret ?_
          refine WQ.then_ret ?_
          obtain rfl := Option.some.inj hm
          obtain rfl := afterN_done hl38
          have hm := hmo39
          obtain rfl := Option.some.inj hm
          exact WQ.ret1 _ rfl rfl ⟨rfl, hb35⟩
        · have hm := iteF hm hc57
          refine WP.skip ?_
          refine WQ.then_normal (hK53 _ _ _ ?_)
          refine WP.seq (fun K59 hK59 => ?_)
          refine WP.region ?_
          refine WL.runk 3 [0, 4, 18, 19, 20, 32, 33] [(0, .slice a0' rows_0.length c0'), (18, .slice a0' rows_0.length c0'), (19, .int .i64 (rows_0.length : Int)), (20, .int .i64 st33), (4, .string (bs x51)), (32, .int .i64 (x51.length : Int)), (33, .int .i64 0)] (by kernel_rfl) ?_
          refine WL.nil ?_
          refine WQ.then_normal (hK59 _ _ _ ?_)
          refine WP.block ?_
          obtain ⟨t71, ht72, hm⟩ := bindE hm
          have hmo66 := hm; clear hm
          refine WP.sub [(0, .slice a0' rows_0.length c0'), (18, .slice a0' rows_0.length c0'), (19, .int .i64 (rows_0.length : Int)), (20, .int .i64 st33), (4, .string (bs x51)), (32, .int .i64 (x51.length : Int)), (33, .int .i64 0)] ⟨rfl, rfl, rfl, rfl, rfl, rfl, rfl, trivial⟩ ?_
          refine WP.loop (fun n' env' w' => ∃ (st60 : Int) , env' = [(0, .slice a0' rows_0.length c0'), (18, .slice a0' rows_0.length c0'), (19, .int .i64 (rows_0.length : Int)), (20, .int .i64 st33), (4, .string (bs x51)), (32, .int .i64 (x51.length : Int)), (33, .int .i64 st60)] ∧ Ext w w' ∧ w.heap.size ≤ w'.heap.size ∧ SH w' w.heap.size [] ∧ loopN (m_impl_ValidWear_l2 n x51) n' st60 = some t71) n ⟨0, rfl, hb35, hL36, hS37, ht72⟩ ?_
          rintro n68 _ w61 ⟨st60, rfl, hb62, hL63, hS64, hl65⟩ K67 hK67
          obtain ⟨n69, s70, rfl, hm, hl65⟩ := loopN_some hl65
          unfold m_impl_ValidWear_l2 at hm
          refine WP.seq (fun K73 hK73 => ?_)
          refine WP.region ?_
          refine WL.runk 1 [0, 4, 18, 19, 20, 32, 33, 34] [(0, .slice a0' rows_0.length c0'), (18, .slice a0' rows_0.length c0'), (19, .int .i64 (rows_0.length : Int)), (20, .int .i64 st33), (4, .string (bs x51)), (32, .int .i64 (x51.length : Int)), (33, .int .i64 st60), (34, .bool (decide (st60 < (x51.length : Int))))] (by kernel_rfl) ?_
          refine WL.nil ?_
          refine WQ.then_normal (hK73 _ _ _ ?_)
          refine WP.seq (fun K74 hK74 => ?_)
          refine WP.cond (decide (st60 < (x51.length : Int))) rfl rfl (fun hc75 => ?_) (fun hc75 => ?_)
          · have hm := iteT hm hc75
            refine WP.skip ?_
            refine WQ.then_normal (hK74 _ _ _ ?_)
            refine WP.seq (fun K76 hK76 => ?_)
            refine WP.block ?_
            refine WP.seq (fun K77 hK77 => ?_)
            refine WP.region ?_
            refine WL.runk 2 [0, 4, 5, 18, 19, 20, 32, 33] [(0, .slice a0' rows_0.length c0'), (18, .slice a0' rows_0.length c0'), (19, .int .i64 (rows_0.length : Int)), (20, .int .i64 st33), (4, .string (bs x51)), (32, .int .i64 (x51.length : Int)), (33, .int .i64 st60), (5, .int .i64 st60)] (by kernel_rfl) ?_
            refine WL.nil ?_
            refine WQ.then_normal (hK77 _ _ _ ?_)
            refine WP.seq (fun K78 hK78 => ?_)
            obtain ⟨x84, hx85, hm⟩ := bindE hm
            refine WP.cut (fun env' w' => env' = [(0, .slice a0' rows_0.length c0'), (18, .slice a0' rows_0.length c0'), (19, .int .i64 (rows_0.length : Int)), (20, .int .i64 st33), (4, .string (bs x51)), (32, .int .i64 (x51.length : Int)), (33, .int .i64 st60), (45, .bool x84)] ∧ Ext w w' ∧ w.heap.size ≤ w'.heap.size ∧ SH w' w.heap.size []) ?_ ?_
            · have hm := hx85; clear hx85
              refine WP.region ?_
              refine WL.runk 2 [0, 4, 5, 18, 19, 20, 32, 33, 36, 37] [(0, .slice a0' rows_0.length c0'), (18, .slice a0' rows_0.length c0'), (19, .int .i64 (rows_0.length : Int)), (20, .int .i64 st33), (4, .string (bs x51)), (32, .int .i64 (x51.length : Int)), (33, .int .i64 st60), (5, .int .i64 st60), (36, .string (bs x51)), (37, .int .i64 st60)] (by kernel_rfl) ?_
              obtain ⟨x79, hx80, hm⟩ := bindE hm
              refine WL.st (.int .u8 (x79.toNat : Int)) (ST.sindex hx80 rfl rfl rfl Try.underlying9) rfl rfl rfl ?_
              refine WL.runk 2 [0, 4, 5, 18, 19, 20, 32, 33, 40] [(0, .slice a0' rows_0.length c0'), (18, .slice a0' rows_0.length c0'), (19, .int .i64 (rows_0.length : Int)), (20, .int .i64 st33), (4, .string (bs x51)), (32, .int .i64 (x51.length : Int)), (33, .int .i64 st60), (5, .int .i64 st60), (40, .bool (decide ((x79.toNat : Int) < 48)))] (by kernel_rfl) ?_
              refine WL.case (decide ((x79.toNat : Int) < 48)) [40] ⟨rfl, trivial⟩ (fun hc81 => ?_) (fun hc81 => ?_)
              · have hm := iteT hm hc81
                refine WL.runk 5 [0, 4, 18, 19, 20, 32, 33, 45] [(0, .slice a0' rows_0.length c0'), (18, .slice a0' rows_0.length c0'), (19, .int .i64 (rows_0.length : Int)), (20, .int .i64 st33), (4, .string (bs x51)), (32, .int .i64 (x51.length : Int)), (33, .int .i64 st60), (45, .bool true)] (by kernel_rfl) ?_
                refine WL.nil ?_
                obtain rfl := Option.some.inj hm
                exact WQ.post' ⟨rfl, hb62, hL63, hS64⟩ ⟨rfl, rfl, rfl, rfl, rfl, rfl, rfl, rfl, trivial⟩
              · have hm := iteF hm hc81
                refine WL.runk 2 [0, 4, 18, 19, 20, 32, 33, 40, 41, 42] [(0, .slice a0' rows_0.length c0'), (18, .slice a0' rows_0.length c0'), (19, .int .i64 (rows_0.length : Int)), (20, .int .i64 st33), (4, .string (bs x51)), (32, .int .i64 (x51.length : Int)), (33, .int .i64 st60), (40, .bool false), (41, .string (bs x51)), (42, .int .i64 st60)] (by kernel_rfl) ?_
                obtain ⟨x82, hx83, hm⟩ := bindE hm
                refine WL.st (.int .u8 (x82.toNat : Int)) (ST.sindex hx83 rfl rfl rfl Try.underlying9) rfl rfl rfl ?_
                refine WL.runk 2 [0, 4, 18, 19, 20, 32, 33, 45] [(0, .slice a0' rows_0.length c0'), (18, .slice a0' rows_0.length c0'), (19, .int .i64 (rows_0.length : Int)), (20, .int .i64 st33), (4, .string (bs x51)), (32, .int .i64 (x51.length : Int)), (33, .int .i64 st60), (45, .bool (decide ((x82.toNat : Int) > 57)))] (by kernel_rfl) ?_
                refine WL.nil ?_
                obtain rfl := Option.some.inj hm
                exact WQ.post' ⟨rfl, hb62, hL63, hS64⟩ ⟨rfl, rfl, rfl, rfl, rfl, rfl, rfl, rfl, trivial⟩
            · clear hx85
              rintro _ w86 ⟨rfl, hb87, hL88, hS89⟩
              refine WQ.then_normal (hK78 _ _ _ ?_)
              refine WP.cond x84 rfl rfl (fun hc90 => ?_) (fun hc90 => ?_)
              · have hm := iteT hm hc90
                refine WP.seq (fun K91 hK91 => ?_)
                refine WP.region ?_
                refine WL.runk 1 [2] [(2, .bool false)] (by kernel_rfl) ?_
                refine WL.nil ?_
                refine WQ.then_normal (hK91 _ _ _ ?_)
                refine WP.ret ?_
                refine WQ.block_ret ?_
                refine WQ.then_ret ?_
                refine WQ.then_ret ?_
                refine WQ.block_ret ?_
                refine WQ.block_ret ?_
                refine WQ.then_ret ?_
                refine WQ.then_ret ?_
                refine WQ.block_ret ?_
                refine WQ.then_ret ?_
                obtain rfl := Option.some.inj hm
                obtain rfl := afterN_done hl65
                have hm := hmo66
                obtain rfl := Option.some.inj hm
                obtain rfl := afterN_done hl38
                have hm := hmo39
                obtain rfl := Option.some.inj hm
                exact WQ.ret1 _ rfl rfl ⟨rfl, hb87⟩
              · have hm := iteF hm hc90
                refine WP.skip ?_
                refine WQ.block_normal ?_
                refine WQ.then_normal (hK76 _ _ _ ?_)
                refine WP.region ?_
                refine WL.runk 2 [0, 4, 18, 19, 20, 32, 33] [(0, .slice a0' rows_0.length c0'), (18, .slice a0' rows_0.length c0'), (19, .int .i64 (rows_0.length : Int)), (20, .int .i64 st33), (4, .string (bs x51)), (32, .int .i64 (x51.length : Int)), (33, .int .i64 (wI64 (st60 + 1)))] (by kernel_rfl) ?_
                refine WL.nil ?_
                obtain rfl := Option.some.inj hm
                exact WQ.round hK67 ⟨(wI64 (st60 + 1)), rfl, hb87, hL88, hS89, hl65⟩ (Nat.lt_succ_self _) ⟨rfl, rfl, rfl, rfl, rfl, rfl, rfl, trivial⟩
          · have hm := iteF hm hc75
            refine WP.exit ?_
            refine WQ.then_exit ?_
            refine WQ.then_exit ?_
            refine WQ.block_here ?_
            obtain rfl := Option.some.inj hm
            obtain rfl := afterN_done hl65
            have hm := hmo66
            refine WQ.block_normal ?_
            refine WQ.then_normal (hK49 _ _ _ ?_)
            refine WP.region ?_
            refine WL.runk 2 [0, 18, 19, 20] [(0, .slice a0' rows_0.length c0'), (18, .slice a0' rows_0.length c0'), (19, .int .i64 (rows_0.length : Int)), (20, .int .i64 (wI64 (st33 + 1)))] (by kernel_rfl) ?_
            refine WL.nil ?_
            obtain rfl := Option.some.inj hm
            exact WQ.round hK40 ⟨(wI64 (st33 + 1)), rfl, hb62, hL63, hS64, hl38⟩ (Nat.lt_succ_self _) ⟨rfl, rfl, rfl, rfl, trivial⟩
      · have hm := iteF hm hc48
        refine WP.exit ?_
        refine WQ.then_exit ?_
        refine WQ.then_exit ?_
        refine WQ.block_here ?_
        obtain rfl := Option.some.inj hm
        obtain rfl := afterN_done hl38
        have hm := hmo39
        refine WQ.then_normal (hK31 _ _ _ ?_)
        refine WP.seq (fun K93 hK93 => ?_)
        refine WP.region ?_
        refine WL.runk 1 [2] [(2, .bool true)] (by kernel_rfl) ?_
        refine WL.nil ?_
        refine WQ.then_normal (hK93 _ _ _ ?_)
        refine WP.ret ?_
        obtain rfl := Option.some.inj hm
        exact WQ.ret1 _ rfl rfl ⟨rfl, hb35⟩

end Go.Proofs.Ytoljnpoiclklpaa
