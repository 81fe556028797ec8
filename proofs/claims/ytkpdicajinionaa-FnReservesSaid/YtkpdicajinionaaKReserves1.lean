/- Each call does what its Lean function says. -/
import Derived.Test.YtkpdicajinionaaTi
import Derived.Test.YtkpdicajinionaaEq
import Derived.Test.YtkpdicajinionaaMo
set_option maxRecDepth 20000
set_option maxHeartbeats 40000000
namespace Go.Proofs.Ytkpdicajinionaa
open Go Go.Gv Go.RowKit

theorem c_14 (n : Nat) (a_0 : List SGood) (a0' : Option Addr) (c0' : Nat) (b_1 : List SGood) (a1' : Option Addr) (c1' : Nat) (w : World) {r : Bool} (hm : m_spec_SameGoods n a_0 b_1 = some r) (h0 : Rd fGood.ty w a0' a_0) (_hle0 : a_0.length ≤ c0') (h1 : Rd fGood.ty w a1' b_1) (_hle1 : b_1.length ≤ c1') :
    CallV Try.prog 14 #[.slice a0' a_0.length c0', .slice a1' b_1.length c1'] w (fun v w' => v = .bool r ∧ Ext w w') := by
  unfold m_spec_SameGoods at hm
  refine CallV.enter Try.func14 rfl (by kernel_rfl) Try.ntmps14 (env := [(0, .slice a0' a_0.length c0'), (1, .slice a1' b_1.length c1')]) ⟨rfl, rfl, trivial⟩ ?_
  refine WP.seq (fun K1 hK1 => ?_)
  refine WP.region ?_
  refine WL.runk 1 [0, 1] [(0, .slice a0' a_0.length c0'), (1, .slice a1' b_1.length c1')] (by kernel_rfl) ?_
  refine WL.nil ?_
  refine WQ.then_normal (hK1 _ _ _ ?_)
  refine WP.seq (fun K2 hK2 => ?_)
  refine WP.seq (fun K3 hK3 => ?_)
  refine WP.region ?_
  refine WL.runk 5 [0, 1, 10] [(0, .slice a0' a_0.length c0'), (1, .slice a1' b_1.length c1'), (10, .bool ((a_0.length : Int) != (b_1.length : Int)))] (by kernel_rfl) ?_
  refine WL.nil ?_
  refine WQ.then_normal (hK3 _ _ _ ?_)
  refine WP.cond ((a_0.length : Int) != (b_1.length : Int)) rfl rfl (fun hc4 => ?_) (fun hc4 => ?_)
  · have hm := iteT hm hc4
    refine WP.seq (fun K5 hK5 => ?_)
    refine WP.region ?_
    refine WL.runk 1 [4] [(4, .bool false)] (by kernel_rfl) ?_
    refine WL.nil ?_
    refine WQ.then_normal (hK5 _ _ _ ?_)
    refine WP.ret ?_
    refine WQ.then_ret ?_
    obtain rfl := Option.some.inj hm
    exact WQ.ret1 _ rfl rfl ⟨rfl, (Ext.refl w)⟩
  have hm := iteF hm hc4
  refine WP.skip ?_
  refine WQ.then_normal (hK2 _ _ _ ?_)
  refine WP.seq (fun K6 hK6 => ?_)
  refine WP.seq (fun K7 hK7 => ?_)
  refine WP.region ?_
  refine WL.runk 1 [0, 1, 5] [(0, .slice a0' a_0.length c0'), (1, .slice a1' b_1.length c1'), (5, .int .i64 0)] (by kernel_rfl) ?_
  refine WL.nil ?_
  refine WQ.then_normal (hK7 _ _ _ ?_)
  refine WP.block ?_
  obtain ⟨t19, ht20, hm⟩ := bindE hm
  have hmo14 := hm; clear hm
  refine WP.sub [(0, .slice a0' a_0.length c0'), (1, .slice a1' b_1.length c1'), (5, .int .i64 0)] ⟨rfl, rfl, rfl, trivial⟩ ?_
  refine WP.loop (fun n' env' w' => ∃ (st8 : Int) , env' = [(0, .slice a0' a_0.length c0'), (1, .slice a1' b_1.length c1'), (5, .int .i64 st8)] ∧ Ext w w' ∧ w.heap.size ≤ w'.heap.size ∧ SH w' w.heap.size [] ∧ loopN (m_spec_SameGoods_l1 n a_0 b_1) n' st8 = some t19) n ⟨0, rfl, (Ext.refl w), (Nat.le_refl _), (SH.nil _ _), ht20⟩ ?_
  rintro n16 _ w9 ⟨st8, rfl, hb10, hL11, hS12, hl13⟩ K15 hK15
  obtain ⟨n17, s18, rfl, hm, hl13⟩ := loopN_some hl13
  unfold m_spec_SameGoods_l1 at hm
  refine WP.seq (fun K21 hK21 => ?_)
  refine WP.seq (fun K22 hK22 => ?_)
  refine WP.region ?_
  refine WL.runk 4 [0, 1, 5, 14] [(0, .slice a0' a_0.length c0'), (1, .slice a1' b_1.length c1'), (5, .int .i64 st8), (14, .bool (decide (st8 < (a_0.length : Int))))] (by kernel_rfl) ?_
  refine WL.nil ?_
  refine WQ.then_normal (hK22 _ _ _ ?_)
  refine WP.cond (decide (st8 < (a_0.length : Int))) rfl rfl (fun hc23 => ?_) (fun hc23 => ?_)
  rotate_left
  · have hm := iteF hm hc23
    refine WP.exit ?_
    refine WQ.then_exit ?_
    refine WQ.then_exit ?_
    refine WQ.block_here ?_
    obtain rfl := Option.some.inj hm
    obtain rfl := afterN_done hl13
    have hm := hmo14
    refine WQ.then_normal (hK6 _ _ _ ?_)
    refine WP.seq (fun K37 hK37 => ?_)
    refine WP.region ?_
    refine WL.runk 1 [4] [(4, .bool true)] (by kernel_rfl) ?_
    refine WL.nil ?_
    refine WQ.then_normal (hK37 _ _ _ ?_)
    refine WP.ret ?_
    obtain rfl := Option.some.inj hm
    exact WQ.ret1 _ rfl rfl ⟨rfl, hb10⟩
  have hm := iteT hm hc23
  refine WP.skip ?_
  refine WQ.then_normal (hK21 _ _ _ ?_)
  refine WP.seq (fun K24 hK24 => ?_)
  refine WP.block ?_
  refine WP.seq (fun K25 hK25 => ?_)
  refine WP.quiet (by kernel_rfl) (by kernel_rfl) ?_
  refine QL.step1v 17 (.slice a0' a_0.length c0') rfl (fun _ => by kernel_rfl) ?_
  refine QL.step1v 18 (.int .i64 st8) rfl (fun _ => by kernel_rfl) ?_
  refine QL.subk [0, 1, 5, 17, 18] [(0, .slice a0' a_0.length c0'), (1, .slice a1' b_1.length c1'), (5, .int .i64 st8), (17, .slice a0' a_0.length c0'), (18, .int .i64 st8)] (by kernel_rfl) ?_
  obtain ⟨x26, hx27, hm⟩ := bindE hm
  refine QL.st (.pointer (some (at_ a0' (Int.toNat st8 * 4)))) (ST.index (T := fGood.ty) (xs := a_0) (Rd.below h0 hb10) hx27 rfl rfl rfl Try.underlying25 (info56).1 (info56).2.1) rfl rfl rfl ?_
  refine QL.st (.agg #[.string (bs x26.Name), .int .i64 x26.OnHand, .int .i64 x26.Reserved, .int .i64 x26.Least]) (ST.loadAgg (vs := fGood.leaf x26) (fun j v hv => Rd.flatA (F := fGood) (Rd.below h0 hb10) hx27 j hv) rfl rfl rfl Try.underlying56 rfl (info56).1 (info56).2.1) rfl rfl rfl ?_
  refine QL.step1v 21 (.slice a1' b_1.length c1') rfl (fun _ => by kernel_rfl) ?_
  refine QL.step1v 22 (.int .i64 st8) rfl (fun _ => by kernel_rfl) ?_
  refine QL.subk [0, 1, 5, 20, 21, 22] [(0, .slice a0' a_0.length c0'), (1, .slice a1' b_1.length c1'), (5, .int .i64 st8), (20, .agg #[.string (bs x26.Name), .int .i64 x26.OnHand, .int .i64 x26.Reserved, .int .i64 x26.Least]), (21, .slice a1' b_1.length c1'), (22, .int .i64 st8)] (by kernel_rfl) ?_
  obtain ⟨x28, hx29, hm⟩ := bindE hm
  refine QL.st (.pointer (some (at_ a1' (Int.toNat st8 * 4)))) (ST.index (T := fGood.ty) (xs := b_1) (Rd.below h1 hb10) hx29 rfl rfl rfl Try.underlying25 (info56).1 (info56).2.1) rfl rfl rfl ?_
  refine QL.st (.agg #[.string (bs x28.Name), .int .i64 x28.OnHand, .int .i64 x28.Reserved, .int .i64 x28.Least]) (ST.loadAgg (vs := fGood.leaf x28) (fun j v hv => Rd.flatA (F := fGood) (Rd.below h1 hb10) hx29 j hv) rfl rfl rfl Try.underlying56 rfl (info56).1 (info56).2.1) rfl rfl rfl ?_
  refine QL.st (.bool (!(decide (x26 = x28)))) (ST.aggne (F := fGood) (x := x26) (y := x28) (eqs_56 x26 x28) (by kernel_rfl) rfl rfl rfl) rfl rfl rfl ?_
  refine QL.subk [0, 1, 5, 25] [(0, .slice a0' a_0.length c0'), (1, .slice a1' b_1.length c1'), (5, .int .i64 st8), (25, .bool (!(decide (x26 = x28))))] (by kernel_rfl) ?_
  refine QL.nil ?_
  intro w30 hE31
  have hb32 : Ext w w30 := Ext.trans hb10 hE31
  have hL33 : w.heap.size ≤ w30.heap.size := Nat.le_trans hL11 hE31.size
  have hS34 : SH w30 w.heap.size [] := SH.ext hS12 hE31
  refine WQ.then_normal (hK25 _ _ _ ?_)
  refine WP.cond (!(decide (x26 = x28))) rfl rfl (fun hc35 => ?_) (fun hc35 => ?_)
  rotate_left
  · have hm := iteF hm hc35
    refine WP.skip ?_
    refine WQ.block_normal ?_
    refine WQ.then_normal (hK24 _ _ _ ?_)
    refine WP.region ?_
    refine WL.runk 3 [0, 1, 5] [(0, .slice a0' a_0.length c0'), (1, .slice a1' b_1.length c1'), (5, .int .i64 (wI64 (st8 + 1)))] (by kernel_rfl) ?_
    refine WL.nil ?_
    obtain rfl := Option.some.inj hm
    exact WQ.round hK15 ⟨(wI64 (st8 + 1)), rfl, hb32, hL33, hS34, hl13⟩ (Nat.lt_succ_self _) ⟨rfl, rfl, rfl, trivial⟩
  have hm := iteT hm hc35
  refine WP.seq (fun K36 hK36 => ?_)
  refine WP.region ?_
  refine WL.runk 1 [4] [(4, .bool false)] (by kernel_rfl) ?_
  refine WL.nil ?_
  refine WQ.then_normal (hK36 _ _ _ ?_)
  refine WP.ret ?_
  refine WQ.block_ret ?_
  refine WQ.then_ret ?_
  refine WQ.then_ret ?_
  refine WQ.block_ret ?_
  refine WQ.then_ret ?_
  obtain rfl := Option.some.inj hm
  obtain rfl := afterN_done hl13
  have hm := hmo14
  obtain rfl := Option.some.inj hm
  exact WQ.ret1 _ rfl rfl ⟨rfl, hb32⟩

theorem c_80 (n : Nat) (n_0 : Int) (low_1 : Int) (high_2 : Int) (w : World) {r : Bool} (hm : m_spec_l00In n n_0 low_1 high_2 = some r)  :
    CallV Try.prog 80 #[.int .i64 n_0, .int .i64 low_1, .int .i64 high_2] w (fun v w' => v = .bool r ∧ Ext w w') := by
  unfold m_spec_l00In at hm
  refine CallV.enter Try.func80 rfl (by kernel_rfl) Try.ntmps80 (env := [(0, .int .i64 n_0), (1, .int .i64 low_1), (2, .int .i64 high_2)]) ⟨rfl, rfl, rfl, trivial⟩ ?_
  refine WP.seq (fun K1 hK1 => ?_)
  refine WP.region ?_
  refine WL.runk 1 [0, 1, 2] [(0, .int .i64 n_0), (1, .int .i64 low_1), (2, .int .i64 high_2)] (by kernel_rfl) ?_
  refine WL.nil ?_
  refine WQ.then_normal (hK1 _ _ _ ?_)
  refine WP.seq (fun K2 hK2 => ?_)
  obtain ⟨x4, hx5, hm⟩ := bindE hm
  refine WP.cut (fun env' w' => env' = [(6, .bool x4)] ∧ Ext w w' ∧ w.heap.size ≤ w'.heap.size ∧ SH w' w.heap.size []) ?_ ?_
  rotate_left
  · clear hx5
    rintro _ w7 ⟨rfl, hb8, hL9, hS10⟩
    refine WQ.then_normal (hK2 _ _ _ ?_)
    refine WP.ret ?_
    obtain rfl := Option.some.inj hm
    exact WQ.ret1 _ rfl rfl ⟨rfl, hb8⟩
  have hm := hx5; clear hx5
  refine WP.region ?_
  refine WL.runk 4 [0, 2, 10] [(0, .int .i64 n_0), (2, .int .i64 high_2), (10, .bool (decide (n_0 ≥ low_1)))] (by kernel_rfl) ?_
  refine WL.case (decide (n_0 ≥ low_1)) [10] ⟨rfl, trivial⟩ (fun hc6 => ?_) (fun hc6 => ?_)
  · have hm := iteT hm hc6
    refine WL.runk 5 [6] [(6, .bool (decide (n_0 ≤ high_2)))] (by kernel_rfl) ?_
    refine WL.nil ?_
    obtain rfl := Option.some.inj hm
    exact WQ.post' ⟨rfl, (Ext.refl w), (Nat.le_refl _), (SH.nil _ _)⟩ ⟨rfl, trivial⟩
  have hm := iteF hm hc6
  refine WL.runk 5 [6] [(6, .bool false)] (by kernel_rfl) ?_
  refine WL.nil ?_
  obtain rfl := Option.some.inj hm
  exact WQ.post' ⟨rfl, (Ext.refl w), (Nat.le_refl _), (SH.nil _ _)⟩ ⟨rfl, trivial⟩

theorem c_81 (n : Nat) (n_0 : Int) (w : World) {r : Bool} (hm : m_spec_l23Many n n_0 = some r)  :
    CallV Try.prog 81 #[.int .i64 n_0] w (fun v w' => v = .bool r ∧ Ext w w') := by
  unfold m_spec_l23Many at hm
  refine CallV.enter Try.func81 rfl (by kernel_rfl) Try.ntmps81 (env := [(0, .int .i64 n_0)]) ⟨rfl, trivial⟩ ?_
  refine WP.seq (fun K1 hK1 => ?_)
  refine WP.region ?_
  refine WL.runk 1 [0] [(0, .int .i64 n_0)] (by kernel_rfl) ?_
  refine WL.nil ?_
  refine WQ.then_normal (hK1 _ _ _ ?_)
  refine WP.seq (fun K2 hK2 => ?_)
  refine WP.region ?_
  refine WL.runk 1 [3] [(3, .int .i64 n_0)] (by kernel_rfl) ?_
  obtain ⟨x3, hx4, hm⟩ := bindE hm
  refine WL.call 80 #[.int .i64 n_0, .int .i64 0, .int .i64 1000000] rfl rfl (by kernel_rfl) (c_80 n n_0 0 1000000 w hx4 ) ?_
  rintro _ w5 ⟨rfl, hE6⟩
  refine ⟨_, rfl, ?_⟩
  have hb8 : Ext w w5 := Ext.trans (Ext.refl w) hE6
  have hL9 : w.heap.size ≤ w5.heap.size := Nat.le_trans (Nat.le_refl _) hE6.size
  have hS10 : SH w5 w.heap.size [] := SH.ext (SH.nil _ _) hE6
  refine WL.runk 1 [2] [(2, .bool x3)] (by kernel_rfl) ?_
  refine WL.nil ?_
  refine WQ.then_normal (hK2 _ _ _ ?_)
  refine WP.ret ?_
  obtain rfl := Option.some.inj hm
  exact WQ.ret1 _ rfl rfl ⟨rfl, hb8⟩

theorem c_95 (n : Nat) (c_0 : Int) (w : World) {r : Bool} (hm : m_spec_l01Small n c_0 = some r)  :
    CallV Try.prog 95 #[.int .u8 c_0] w (fun v w' => v = .bool r ∧ Ext w w') := by
  unfold m_spec_l01Small at hm
  refine CallV.enter Try.func95 rfl (by kernel_rfl) Try.ntmps95 (env := [(0, .int .u8 c_0)]) ⟨rfl, trivial⟩ ?_
  refine WP.seq (fun K1 hK1 => ?_)
  refine WP.region ?_
  refine WL.runk 1 [0] [(0, .int .u8 c_0)] (by kernel_rfl) ?_
  refine WL.nil ?_
  refine WQ.then_normal (hK1 _ _ _ ?_)
  refine WP.seq (fun K2 hK2 => ?_)
  obtain ⟨x4, hx5, hm⟩ := bindE hm
  refine WP.cut (fun env' w' => env' = [(2, .bool x4)] ∧ Ext w w' ∧ w.heap.size ≤ w'.heap.size ∧ SH w' w.heap.size []) ?_ ?_
  rotate_left
  · clear hx5
    rintro _ w7 ⟨rfl, hb8, hL9, hS10⟩
    refine WQ.then_normal (hK2 _ _ _ ?_)
    refine WP.ret ?_
    obtain rfl := Option.some.inj hm
    exact WQ.ret1 _ rfl rfl ⟨rfl, hb8⟩
  have hm := hx5; clear hx5
  refine WP.region ?_
  refine WL.runk 3 [0, 5] [(0, .int .u8 c_0), (5, .bool (decide (c_0 ≥ 97)))] (by kernel_rfl) ?_
  refine WL.case (decide (c_0 ≥ 97)) [5] ⟨rfl, trivial⟩ (fun hc6 => ?_) (fun hc6 => ?_)
  · have hm := iteT hm hc6
    refine WL.runk 4 [2] [(2, .bool (decide (c_0 ≤ 122)))] (by kernel_rfl) ?_
    refine WL.nil ?_
    obtain rfl := Option.some.inj hm
    exact WQ.post' ⟨rfl, (Ext.refl w), (Nat.le_refl _), (SH.nil _ _)⟩ ⟨rfl, trivial⟩
  have hm := iteF hm hc6
  refine WL.runk 4 [2] [(2, .bool false)] (by kernel_rfl) ?_
  refine WL.nil ?_
  obtain rfl := Option.some.inj hm
  exact WQ.post' ⟨rfl, (Ext.refl w), (Nat.le_refl _), (SH.nil _ _)⟩ ⟨rfl, trivial⟩

theorem c_96 (n : Nat) (c_0 : Int) (w : World) {r : Bool} (hm : m_spec_l01Digit n c_0 = some r)  :
    CallV Try.prog 96 #[.int .u8 c_0] w (fun v w' => v = .bool r ∧ Ext w w') := by
  unfold m_spec_l01Digit at hm
  refine CallV.enter Try.func96 rfl (by kernel_rfl) Try.ntmps96 (env := [(0, .int .u8 c_0)]) ⟨rfl, trivial⟩ ?_
  refine WP.seq (fun K1 hK1 => ?_)
  refine WP.region ?_
  refine WL.runk 1 [0] [(0, .int .u8 c_0)] (by kernel_rfl) ?_
  refine WL.nil ?_
  refine WQ.then_normal (hK1 _ _ _ ?_)
  refine WP.seq (fun K2 hK2 => ?_)
  obtain ⟨x4, hx5, hm⟩ := bindE hm
  refine WP.cut (fun env' w' => env' = [(2, .bool x4)] ∧ Ext w w' ∧ w.heap.size ≤ w'.heap.size ∧ SH w' w.heap.size []) ?_ ?_
  rotate_left
  · clear hx5
    rintro _ w7 ⟨rfl, hb8, hL9, hS10⟩
    refine WQ.then_normal (hK2 _ _ _ ?_)
    refine WP.ret ?_
    obtain rfl := Option.some.inj hm
    exact WQ.ret1 _ rfl rfl ⟨rfl, hb8⟩
  have hm := hx5; clear hx5
  refine WP.region ?_
  refine WL.runk 3 [0, 5] [(0, .int .u8 c_0), (5, .bool (decide (c_0 ≥ 48)))] (by kernel_rfl) ?_
  refine WL.case (decide (c_0 ≥ 48)) [5] ⟨rfl, trivial⟩ (fun hc6 => ?_) (fun hc6 => ?_)
  · have hm := iteT hm hc6
    refine WL.runk 4 [2] [(2, .bool (decide (c_0 ≤ 57)))] (by kernel_rfl) ?_
    refine WL.nil ?_
    obtain rfl := Option.some.inj hm
    exact WQ.post' ⟨rfl, (Ext.refl w), (Nat.le_refl _), (SH.nil _ _)⟩ ⟨rfl, trivial⟩
  have hm := iteF hm hc6
  refine WL.runk 4 [2] [(2, .bool false)] (by kernel_rfl) ?_
  refine WL.nil ?_
  obtain rfl := Option.some.inj hm
  exact WQ.post' ⟨rfl, (Ext.refl w), (Nat.le_refl _), (SH.nil _ _)⟩ ⟨rfl, trivial⟩

theorem c_86 (n : Nat) (s_0 : List UInt8) (w : World) {r : Bool} (hm : m_spec_IsName n s_0 = some r)  :
    CallV Try.prog 86 #[.string (bs s_0)] w (fun v w' => v = .bool r ∧ Ext w w') := by
  unfold m_spec_IsName at hm
  refine CallV.enter Try.func86 rfl (by kernel_rfl) Try.ntmps86 (env := [(0, .string (bs s_0))]) ⟨rfl, trivial⟩ ?_
  refine WP.seq (fun K1 hK1 => ?_)
  refine WP.region ?_
  refine WL.runk 1 [0] [(0, .string (bs s_0))] (by kernel_rfl) ?_
  refine WL.nil ?_
  refine WQ.then_normal (hK1 _ _ _ ?_)
  refine WP.seq (fun K2 hK2 => ?_)
  refine WP.seq (fun K3 hK3 => ?_)
  obtain ⟨x16, hx17, hm⟩ := bindE hm
  refine WP.cut (fun env' w' => env' = [(0, .string (bs s_0)), (16, .bool x16)] ∧ Ext w w' ∧ w.heap.size ≤ w'.heap.size ∧ SH w' w.heap.size []) ?_ ?_
  · have hm := hx17; clear hx17
    refine WP.region ?_
    refine WL.runk 1 [0, 4] [(0, .string (bs s_0)), (4, .string (bs s_0))] (by kernel_rfl) ?_
    refine WL.st (.bool (s_0 == [])) (ST.streq (x := s_0) (y := []) rfl rfl rfl) rfl rfl rfl ?_
    refine WL.runk 1 [0, 6] [(0, .string (bs s_0)), (6, .bool (s_0 == []))] (by kernel_rfl) ?_
    refine WL.case (s_0 == []) [6] ⟨rfl, trivial⟩ (fun hc18 => ?_) (fun hc18 => ?_)
    · have hm := iteT hm hc18
      refine WL.runk 10 [0, 16] [(0, .string (bs s_0)), (16, .bool true)] (by kernel_rfl) ?_
      refine WL.nil ?_
      obtain rfl := Option.some.inj hm
      exact WQ.post' ⟨rfl, (Ext.refl w), (Nat.le_refl _), (SH.nil _ _)⟩ ⟨rfl, rfl, trivial⟩
    have hm := iteF hm hc18
    refine WL.runk 5 [0, 11] [(0, .string (bs s_0)), (11, .bool (decide ((s_0.length : Int) > 12)))] (by kernel_rfl) ?_
    refine WL.case (decide ((s_0.length : Int) > 12)) [11] ⟨rfl, trivial⟩ (fun hc19 => ?_) (fun hc19 => ?_)
    · have hm := iteT hm hc19
      refine WL.runk 5 [0, 16] [(0, .string (bs s_0)), (16, .bool true)] (by kernel_rfl) ?_
      refine WL.nil ?_
      obtain rfl := Option.some.inj hm
      exact WQ.post' ⟨rfl, (Ext.refl w), (Nat.le_refl _), (SH.nil _ _)⟩ ⟨rfl, rfl, trivial⟩
    have hm := iteF hm hc19
    refine WL.runk 1 [0, 11, 12] [(0, .string (bs s_0)), (11, .bool false), (12, .string (bs s_0))] (by kernel_rfl) ?_
    obtain ⟨x20, hx21, hm⟩ := bindE hm
    refine WL.st (.int .u8 (x20.toNat : Int)) (ST.sindex hx21 rfl rfl rfl Try.underlying9) rfl rfl rfl ?_
    obtain ⟨x22, hx23, hm⟩ := bindE hm
    refine WL.call 95 #[.int .u8 (x20.toNat : Int)] rfl rfl (by kernel_rfl) (c_95 n (x20.toNat : Int) w hx23 ) ?_
    rintro _ w24 ⟨rfl, hE25⟩
    refine ⟨_, rfl, ?_⟩
    have hb27 : Ext w w24 := Ext.trans (Ext.refl w) hE25
    have hL28 : w.heap.size ≤ w24.heap.size := Nat.le_trans (Nat.le_refl _) hE25.size
    have hS29 : SH w24 w.heap.size [] := SH.ext (SH.nil _ _) hE25
    refine WL.runk 2 [0, 16] [(0, .string (bs s_0)), (16, .bool (!x22))] (by kernel_rfl) ?_
    refine WL.nil ?_
    obtain rfl := Option.some.inj hm
    exact WQ.post' ⟨rfl, hb27, hL28, hS29⟩ ⟨rfl, rfl, trivial⟩
  clear hx17
  rintro _ w30 ⟨rfl, hb31, hL32, hS33⟩
  refine WQ.then_normal (hK3 _ _ _ ?_)
  refine WP.cond x16 rfl rfl (fun hc34 => ?_) (fun hc34 => ?_)
  · have hm := iteT hm hc34
    refine WP.seq (fun K35 hK35 => ?_)
    refine WP.region ?_
    refine WL.runk 1 [2] [(2, .bool false)] (by kernel_rfl) ?_
    refine WL.nil ?_
    refine WQ.then_normal (hK35 _ _ _ ?_)
    refine WP.ret ?_
    refine WQ.then_ret ?_
    obtain rfl := Option.some.inj hm
    exact WQ.ret1 _ rfl rfl ⟨rfl, hb31⟩
  have hm := iteF hm hc34
  refine WP.skip ?_
  refine WQ.then_normal (hK2 _ _ _ ?_)
  refine WP.seq (fun K36 hK36 => ?_)
  refine WP.seq (fun K37 hK37 => ?_)
  refine WP.region ?_
  refine WL.runk 1 [0, 3] [(0, .string (bs s_0)), (3, .int .i64 0)] (by kernel_rfl) ?_
  refine WL.nil ?_
  refine WQ.then_normal (hK37 _ _ _ ?_)
  refine WP.block ?_
  obtain ⟨t49, ht50, hm⟩ := bindE hm
  have hmo44 := hm; clear hm
  refine WP.sub [(0, .string (bs s_0)), (3, .int .i64 0)] ⟨rfl, rfl, trivial⟩ ?_
  refine WP.loop (fun n' env' w' => ∃ (st38 : Int) , env' = [(0, .string (bs s_0)), (3, .int .i64 st38)] ∧ Ext w w' ∧ w.heap.size ≤ w'.heap.size ∧ SH w' w.heap.size [] ∧ loopN (m_spec_IsName_l1 n s_0) n' st38 = some t49) n ⟨0, rfl, hb31, hL32, hS33, ht50⟩ ?_
  rintro n46 _ w39 ⟨st38, rfl, hb40, hL41, hS42, hl43⟩ K45 hK45
  obtain ⟨n47, s48, rfl, hm, hl43⟩ := loopN_some hl43
  unfold m_spec_IsName_l1 at hm
  refine WP.seq (fun K51 hK51 => ?_)
  refine WP.seq (fun K52 hK52 => ?_)
  refine WP.region ?_
  refine WL.runk 4 [0, 3, 20] [(0, .string (bs s_0)), (3, .int .i64 st38), (20, .bool (decide (st38 < (s_0.length : Int))))] (by kernel_rfl) ?_
  refine WL.nil ?_
  refine WQ.then_normal (hK52 _ _ _ ?_)
  refine WP.cond (decide (st38 < (s_0.length : Int))) rfl rfl (fun hc53 => ?_) (fun hc53 => ?_)
  rotate_left
  · have hm := iteF hm hc53
    refine WP.exit ?_
    refine WQ.then_exit ?_
    refine WQ.then_exit ?_
    refine WQ.block_here ?_
    obtain rfl := Option.some.inj hm
    obtain rfl := afterN_done hl43
    have hm := hmo44
    refine WQ.then_normal (hK36 _ _ _ ?_)
    refine WP.seq (fun K112 hK112 => ?_)
    refine WP.region ?_
    refine WL.runk 1 [2] [(2, .bool true)] (by kernel_rfl) ?_
    refine WL.nil ?_
    refine WQ.then_normal (hK112 _ _ _ ?_)
    refine WP.ret ?_
    obtain rfl := Option.some.inj hm
    exact WQ.ret1 _ rfl rfl ⟨rfl, hb40⟩
  have hm := iteT hm hc53
  refine WP.skip ?_
  refine WQ.then_normal (hK51 _ _ _ ?_)
  refine WP.seq (fun K54 hK54 => ?_)
  refine WP.block ?_
  refine WP.seq (fun K55 hK55 => ?_)
  obtain ⟨x80, hx81, hm⟩ := bindE hm
  refine WP.cut (fun env' w' => env' = [(0, .string (bs s_0)), (3, .int .i64 st38), (40, .bool x80)] ∧ Ext w w' ∧ w.heap.size ≤ w'.heap.size ∧ SH w' w.heap.size []) ?_ ?_
  rotate_left
  · clear hx81
    rintro _ w106 ⟨rfl, hb107, hL108, hS109⟩
    refine WQ.then_normal (hK55 _ _ _ ?_)
    refine WP.cond x80 rfl rfl (fun hc110 => ?_) (fun hc110 => ?_)
    rotate_left
    · have hm := iteF hm hc110
      refine WP.skip ?_
      refine WQ.block_normal ?_
      refine WQ.then_normal (hK54 _ _ _ ?_)
      refine WP.region ?_
      refine WL.runk 3 [0, 3] [(0, .string (bs s_0)), (3, .int .i64 (wI64 (st38 + 1)))] (by kernel_rfl) ?_
      refine WL.nil ?_
      obtain rfl := Option.some.inj hm
      exact WQ.round hK45 ⟨(wI64 (st38 + 1)), rfl, hb107, hL108, hS109, hl43⟩ (Nat.lt_succ_self _) ⟨rfl, rfl, trivial⟩
    have hm := iteT hm hc110
    refine WP.seq (fun K111 hK111 => ?_)
    refine WP.region ?_
    refine WL.runk 1 [2] [(2, .bool false)] (by kernel_rfl) ?_
    refine WL.nil ?_
    refine WQ.then_normal (hK111 _ _ _ ?_)
    refine WP.ret ?_
    refine WQ.block_ret ?_
    refine WQ.then_ret ?_
    refine WQ.then_ret ?_
    refine WQ.block_ret ?_
    refine WQ.then_ret ?_
    obtain rfl := Option.some.inj hm
    obtain rfl := afterN_done hl43
    have hm := hmo44
    obtain rfl := Option.some.inj hm
    exact WQ.ret1 _ rfl rfl ⟨rfl, hb107⟩
  have hm := hx81; clear hx81
  refine WP.region ?_
  refine WL.runk 2 [0, 3, 23, 24] [(0, .string (bs s_0)), (3, .int .i64 st38), (23, .string (bs s_0)), (24, .int .i64 st38)] (by kernel_rfl) ?_
  obtain ⟨x82, hx83, hm⟩ := bindE hm
  refine WL.st (.int .u8 (x82.toNat : Int)) (ST.sindex hx83 rfl rfl rfl Try.underlying9) rfl rfl rfl ?_
  obtain ⟨x84, hx85, hm⟩ := bindE hm
  refine WL.call 95 #[.int .u8 (x82.toNat : Int)] rfl rfl (by kernel_rfl) (c_95 n (x82.toNat : Int) w39 hx85 ) ?_
  rintro _ w86 ⟨rfl, hE87⟩
  refine ⟨_, rfl, ?_⟩
  have hb89 : Ext w w86 := Ext.trans hb40 hE87
  have hL90 : w.heap.size ≤ w86.heap.size := Nat.le_trans hL41 hE87.size
  have hS91 : SH w86 w.heap.size [] := SH.ext hS42 hE87
  refine WL.runk 2 [0, 3, 28] [(0, .string (bs s_0)), (3, .int .i64 st38), (28, .bool (!x84))] (by kernel_rfl) ?_
  refine WL.case (!x84) [28] ⟨rfl, trivial⟩ (fun hc92 => ?_) (fun hc92 => ?_)
  rotate_left
  · have hm := iteF hm hc92
    refine WL.runk 12 [0, 3, 40] [(0, .string (bs s_0)), (3, .int .i64 st38), (40, .bool false)] (by kernel_rfl) ?_
    refine WL.nil ?_
    obtain rfl := Option.some.inj hm
    exact WQ.post' ⟨rfl, hb89, hL90, hS91⟩ ⟨rfl, rfl, rfl, trivial⟩
  have hm := iteT hm hc92
  refine WL.runk 2 [0, 3, 28, 29, 30] [(0, .string (bs s_0)), (3, .int .i64 st38), (28, .bool true), (29, .string (bs s_0)), (30, .int .i64 st38)] (by kernel_rfl) ?_
  obtain ⟨x93, hx94, hm⟩ := bindE hm
  refine WL.st (.int .u8 (x93.toNat : Int)) (ST.sindex hx94 rfl rfl rfl Try.underlying9) rfl rfl rfl ?_
  obtain ⟨x95, hx96, hm⟩ := bindE hm
  refine WL.call 96 #[.int .u8 (x93.toNat : Int)] rfl rfl (by kernel_rfl) (c_96 n (x93.toNat : Int) w86 hx96 ) ?_
  rintro _ w97 ⟨rfl, hE98⟩
  refine ⟨_, rfl, ?_⟩
  have hb100 : Ext w w97 := Ext.trans hb89 hE98
  have hL101 : w.heap.size ≤ w97.heap.size := Nat.le_trans hL90 hE98.size
  have hS102 : SH w97 w.heap.size [] := SH.ext hS91 hE98
  refine WL.runk 3 [0, 3, 35] [(0, .string (bs s_0)), (3, .int .i64 st38), (35, .bool (!x95))] (by kernel_rfl) ?_
  refine WL.case (!x95) [35] ⟨rfl, trivial⟩ (fun hc103 => ?_) (fun hc103 => ?_)
  rotate_left
  · have hm := iteF hm hc103
    refine WL.runk 5 [0, 3, 40] [(0, .string (bs s_0)), (3, .int .i64 st38), (40, .bool false)] (by kernel_rfl) ?_
    refine WL.nil ?_
    obtain rfl := Option.some.inj hm
    exact WQ.post' ⟨rfl, hb100, hL101, hS102⟩ ⟨rfl, rfl, rfl, trivial⟩
  have hm := iteT hm hc103
  refine WL.runk 2 [0, 3, 35, 36, 37] [(0, .string (bs s_0)), (3, .int .i64 st38), (35, .bool true), (36, .string (bs s_0)), (37, .int .i64 st38)] (by kernel_rfl) ?_
  obtain ⟨x104, hx105, hm⟩ := bindE hm
  refine WL.st (.int .u8 (x104.toNat : Int)) (ST.sindex hx105 rfl rfl rfl Try.underlying9) rfl rfl rfl ?_
  refine WL.runk 2 [0, 3, 40] [(0, .string (bs s_0)), (3, .int .i64 st38), (40, .bool ((x104.toNat : Int) != 45))] (by kernel_rfl) ?_
  refine WL.nil ?_
  obtain rfl := Option.some.inj hm
  exact WQ.post' ⟨rfl, hb100, hL101, hS102⟩ ⟨rfl, rfl, rfl, trivial⟩

theorem c_69 (n : Nat) (g_0 : SGood) (b0' o0' : Nat) (w : World) {r : Bool} (hm : m_spec_l23One n g_0 = some r) (h0 : RdB w b0' o0' [.string (bs g_0.Name), .int .i64 g_0.OnHand, .int .i64 g_0.Reserved, .int .i64 g_0.Least]) :
    CallV Try.prog 69 #[.pointer (some ⟨b0', o0', none⟩)] w (fun v w' => v = .bool r ∧ Ext w w') := by
  unfold m_spec_l23One at hm
  refine CallV.enter Try.func69 rfl (by kernel_rfl) Try.ntmps69 (env := [(0, .pointer (some ⟨b0', o0', none⟩))]) ⟨rfl, trivial⟩ ?_
  refine WP.seq (fun K1 hK1 => ?_)
  refine WP.region ?_
  refine WL.runk 1 [0] [(0, .pointer (some ⟨b0', o0', none⟩))] (by kernel_rfl) ?_
  refine WL.nil ?_
  refine WQ.then_normal (hK1 _ _ _ ?_)
  refine WP.seq (fun K2 hK2 => ?_)
  obtain ⟨x42, hx43, hm⟩ := bindE hm
  refine WP.cut (fun env' w' => env' = [(2, .bool x42)] ∧ Ext w w' ∧ w.heap.size ≤ w'.heap.size ∧ SH w' w.heap.size []) ?_ ?_
  rotate_left
  · clear hx43
    rintro _ w83 ⟨rfl, hb84, hL85, hS86⟩
    refine WQ.then_normal (hK2 _ _ _ ?_)
    refine WP.ret ?_
    obtain rfl := Option.some.inj hm
    exact WQ.ret1 _ rfl rfl ⟨rfl, hb84⟩
  have hm := hx43; clear hx43
  refine WP.quiet (by kernel_rfl) (by kernel_rfl) ?_
  refine QL.step1v 3 (.pointer (some ⟨b0', o0', none⟩)) rfl (fun _ => by kernel_rfl) ?_
  refine QL.step1v 4 (.pointer (some ⟨b0', o0', none⟩)) rfl (fun _ => by kernel_rfl) ?_
  refine QL.step1v 5 (.pointer (some ⟨b0', o0', none⟩)) rfl (fun _ => by kernel_rfl) ?_
  refine QL.subk [0, 5] [(0, .pointer (some ⟨b0', o0', none⟩)), (5, .pointer (some ⟨b0', o0', none⟩))] (by kernel_rfl) ?_
  refine QL.st (.string (bs g_0.Name)) (ST.load (cell_ext (RdB.at (RdB.below h0 (Ext.refl w)) 0 _ rfl)) rfl rfl Try.underlying9 rfl) rfl rfl rfl ?_
  obtain ⟨x44, hx45, hm⟩ := bindE hm
  refine QL.call 86 #[.string (bs g_0.Name)] (.bool x44) (fun _ => by kernel_rfl) (fun w46 hE47 => c_86 n g_0.Name w46 hx45 ) rfl rfl rfl ?_
  refine QL.step1v 8 (.bool x44) rfl (fun _ => by kernel_rfl) ?_
  refine QL.subk [0, 8] [(0, .pointer (some ⟨b0', o0', none⟩)), (8, .bool x44)] (by kernel_rfl) ?_
  refine QL.case x44 [8] ⟨rfl, trivial⟩ (fun hc48 => ?_) (fun hc48 => ?_)
  rotate_left
  · have hm := iteF hm hc48
    refine QL.step1v 9 undef rfl (fun _ => by kernel_rfl) ?_
    refine QL.step1v 10 undef rfl (fun _ => by kernel_rfl) ?_
    refine QL.step1v 11 undef rfl (fun _ => by kernel_rfl) ?_
    refine QL.step1v 12 undef rfl (fun _ => by kernel_rfl) ?_
    refine QL.step1v 13 undef rfl (fun _ => by kernel_rfl) ?_
    refine QL.step1v 14 (.bool false) rfl (fun _ => by kernel_rfl) ?_
    refine QL.step1v 15 (.bool false) rfl (fun _ => by kernel_rfl) ?_
    refine QL.step1v 16 undef rfl (fun _ => by kernel_rfl) ?_
    refine QL.step1v 17 undef rfl (fun _ => by kernel_rfl) ?_
    refine QL.step1v 18 undef rfl (fun _ => by kernel_rfl) ?_
    refine QL.step1v 19 undef rfl (fun _ => by kernel_rfl) ?_
    refine QL.step1v 20 undef rfl (fun _ => by kernel_rfl) ?_
    refine QL.step1v 21 undef rfl (fun _ => by kernel_rfl) ?_
    refine QL.step1v 22 undef rfl (fun _ => by kernel_rfl) ?_
    refine QL.step1v 23 undef rfl (fun _ => by kernel_rfl) ?_
    refine QL.step1v 24 undef rfl (fun _ => by kernel_rfl) ?_
    refine QL.step1v 25 (.bool false) rfl (fun _ => by kernel_rfl) ?_
    refine QL.step1v 26 (.bool false) rfl (fun _ => by kernel_rfl) ?_
    refine QL.step1v 27 undef rfl (fun _ => by kernel_rfl) ?_
    refine QL.step1v 28 undef rfl (fun _ => by kernel_rfl) ?_
    refine QL.step1v 29 undef rfl (fun _ => by kernel_rfl) ?_
    refine QL.step1v 30 undef rfl (fun _ => by kernel_rfl) ?_
    refine QL.step1v 31 undef rfl (fun _ => by kernel_rfl) ?_
    refine QL.step1v 32 (.bool false) rfl (fun _ => by kernel_rfl) ?_
    refine QL.step1v 2 (.bool false) rfl (fun _ => by kernel_rfl) ?_
    refine QL.subk [2] [(2, .bool false)] (by kernel_rfl) ?_
    refine QL.nil ?_
    intro w78 hE79
    have hb80 : Ext w w78 := Ext.trans (Ext.refl w) hE79
    have hL81 : w.heap.size ≤ w78.heap.size := Nat.le_trans (Nat.le_refl _) hE79.size
    have hS82 : SH w78 w.heap.size [] := SH.ext (SH.nil _ _) hE79
    obtain rfl := Option.some.inj hm
    exact WQ.post' ⟨rfl, hb80, hL81, hS82⟩ ⟨rfl, trivial⟩
  have hm := iteT hm hc48
  refine QL.step1v 9 (.pointer (some ⟨b0', o0', none⟩)) rfl (fun _ => by kernel_rfl) ?_
  refine QL.step1v 10 (.pointer (some ⟨b0', o0', none⟩)) rfl (fun _ => by kernel_rfl) ?_
  refine QL.step1v 11 (.pointer (some ⟨b0', o0' + 1, none⟩)) rfl (fun _ => by kernel_rfl) ?_
  refine QL.subk [0, 8, 11] [(0, .pointer (some ⟨b0', o0', none⟩)), (8, .bool true), (11, .pointer (some ⟨b0', o0' + 1, none⟩))] (by kernel_rfl) ?_
  refine QL.st (.int .i64 g_0.OnHand) (ST.load (cell_ext (RdB.at (RdB.below h0 (Ext.refl w)) 1 _ rfl)) rfl rfl Try.underlying2 rfl) rfl rfl rfl ?_
  obtain ⟨x49, hx50, hm⟩ := bindE hm
  refine QL.call 81 #[.int .i64 g_0.OnHand] (.bool x49) (fun _ => by kernel_rfl) (fun w51 hE52 => c_81 n g_0.OnHand w51 hx50 ) rfl rfl rfl ?_
  refine QL.step1v 14 (.bool x49) rfl (fun _ => by kernel_rfl) ?_
  refine QL.step1v 15 (.bool x49) rfl (fun _ => by kernel_rfl) ?_
  refine QL.subk [0, 15] [(0, .pointer (some ⟨b0', o0', none⟩)), (15, .bool x49)] (by kernel_rfl) ?_
  refine QL.case x49 [15] ⟨rfl, trivial⟩ (fun hc53 => ?_) (fun hc53 => ?_)
  rotate_left
  · have hm := iteF hm hc53
    refine QL.step1v 16 undef rfl (fun _ => by kernel_rfl) ?_
    refine QL.step1v 17 undef rfl (fun _ => by kernel_rfl) ?_
    refine QL.step1v 18 undef rfl (fun _ => by kernel_rfl) ?_
    refine QL.step1v 19 undef rfl (fun _ => by kernel_rfl) ?_
    refine QL.step1v 20 undef rfl (fun _ => by kernel_rfl) ?_
    refine QL.step1v 21 undef rfl (fun _ => by kernel_rfl) ?_
    refine QL.step1v 22 undef rfl (fun _ => by kernel_rfl) ?_
    refine QL.step1v 23 undef rfl (fun _ => by kernel_rfl) ?_
    refine QL.step1v 24 undef rfl (fun _ => by kernel_rfl) ?_
    refine QL.step1v 25 (.bool false) rfl (fun _ => by kernel_rfl) ?_
    refine QL.step1v 26 (.bool false) rfl (fun _ => by kernel_rfl) ?_
    refine QL.step1v 27 undef rfl (fun _ => by kernel_rfl) ?_
    refine QL.step1v 28 undef rfl (fun _ => by kernel_rfl) ?_
    refine QL.step1v 29 undef rfl (fun _ => by kernel_rfl) ?_
    refine QL.step1v 30 undef rfl (fun _ => by kernel_rfl) ?_
    refine QL.step1v 31 undef rfl (fun _ => by kernel_rfl) ?_
    refine QL.step1v 32 (.bool false) rfl (fun _ => by kernel_rfl) ?_
    refine QL.step1v 2 (.bool false) rfl (fun _ => by kernel_rfl) ?_
    refine QL.subk [2] [(2, .bool false)] (by kernel_rfl) ?_
    refine QL.nil ?_
    intro w73 hE74
    have hb75 : Ext w w73 := Ext.trans (Ext.refl w) hE74
    have hL76 : w.heap.size ≤ w73.heap.size := Nat.le_trans (Nat.le_refl _) hE74.size
    have hS77 : SH w73 w.heap.size [] := SH.ext (SH.nil _ _) hE74
    obtain rfl := Option.some.inj hm
    exact WQ.post' ⟨rfl, hb75, hL76, hS77⟩ ⟨rfl, trivial⟩
  have hm := iteT hm hc53
  refine QL.step1v 16 (.pointer (some ⟨b0', o0', none⟩)) rfl (fun _ => by kernel_rfl) ?_
  refine QL.step1v 17 (.pointer (some ⟨b0', o0', none⟩)) rfl (fun _ => by kernel_rfl) ?_
  refine QL.step1v 18 (.pointer (some ⟨b0', o0' + 2, none⟩)) rfl (fun _ => by kernel_rfl) ?_
  refine QL.subk [0, 15, 18] [(0, .pointer (some ⟨b0', o0', none⟩)), (15, .bool true), (18, .pointer (some ⟨b0', o0' + 2, none⟩))] (by kernel_rfl) ?_
  refine QL.st (.int .i64 g_0.Reserved) (ST.load (cell_ext (RdB.at (RdB.below h0 (Ext.refl w)) 2 _ rfl)) rfl rfl Try.underlying2 rfl) rfl rfl rfl ?_
  refine QL.step1v 20 (.pointer (some ⟨b0', o0', none⟩)) rfl (fun _ => by kernel_rfl) ?_
  refine QL.step1v 21 (.pointer (some ⟨b0', o0', none⟩)) rfl (fun _ => by kernel_rfl) ?_
  refine QL.step1v 22 (.pointer (some ⟨b0', o0' + 1, none⟩)) rfl (fun _ => by kernel_rfl) ?_
  refine QL.subk [0, 15, 19, 22] [(0, .pointer (some ⟨b0', o0', none⟩)), (15, .bool true), (19, .int .i64 g_0.Reserved), (22, .pointer (some ⟨b0', o0' + 1, none⟩))] (by kernel_rfl) ?_
  refine QL.st (.int .i64 g_0.OnHand) (ST.load (cell_ext (RdB.at (RdB.below h0 (Ext.refl w)) 1 _ rfl)) rfl rfl Try.underlying2 rfl) rfl rfl rfl ?_
  obtain ⟨x54, hx55, hm⟩ := bindE hm
  refine QL.call 80 #[.int .i64 g_0.Reserved, .int .i64 0, .int .i64 g_0.OnHand] (.bool x54) (fun _ => by kernel_rfl) (fun w56 hE57 => c_80 n g_0.Reserved 0 g_0.OnHand w56 hx55 ) rfl rfl rfl ?_
  refine QL.step1v 25 (.bool x54) rfl (fun _ => by kernel_rfl) ?_
  refine QL.step1v 26 (.bool x54) rfl (fun _ => by kernel_rfl) ?_
  refine QL.subk [0, 26] [(0, .pointer (some ⟨b0', o0', none⟩)), (26, .bool x54)] (by kernel_rfl) ?_
  refine QL.case x54 [26] ⟨rfl, trivial⟩ (fun hc58 => ?_) (fun hc58 => ?_)
  rotate_left
  · have hm := iteF hm hc58
    refine QL.step1v 27 undef rfl (fun _ => by kernel_rfl) ?_
    refine QL.step1v 28 undef rfl (fun _ => by kernel_rfl) ?_
    refine QL.step1v 29 undef rfl (fun _ => by kernel_rfl) ?_
    refine QL.step1v 30 undef rfl (fun _ => by kernel_rfl) ?_
    refine QL.step1v 31 undef rfl (fun _ => by kernel_rfl) ?_
    refine QL.step1v 32 (.bool false) rfl (fun _ => by kernel_rfl) ?_
    refine QL.step1v 2 (.bool false) rfl (fun _ => by kernel_rfl) ?_
    refine QL.subk [2] [(2, .bool false)] (by kernel_rfl) ?_
    refine QL.nil ?_
    intro w68 hE69
    have hb70 : Ext w w68 := Ext.trans (Ext.refl w) hE69
    have hL71 : w.heap.size ≤ w68.heap.size := Nat.le_trans (Nat.le_refl _) hE69.size
    have hS72 : SH w68 w.heap.size [] := SH.ext (SH.nil _ _) hE69
    obtain rfl := Option.some.inj hm
    exact WQ.post' ⟨rfl, hb70, hL71, hS72⟩ ⟨rfl, trivial⟩
  have hm := iteT hm hc58
  refine QL.step1v 27 (.pointer (some ⟨b0', o0', none⟩)) rfl (fun _ => by kernel_rfl) ?_
  refine QL.step1v 28 (.pointer (some ⟨b0', o0', none⟩)) rfl (fun _ => by kernel_rfl) ?_
  refine QL.step1v 29 (.pointer (some ⟨b0', o0' + 3, none⟩)) rfl (fun _ => by kernel_rfl) ?_
  refine QL.subk [26, 29] [(26, .bool true), (29, .pointer (some ⟨b0', o0' + 3, none⟩))] (by kernel_rfl) ?_
  refine QL.st (.int .i64 g_0.Least) (ST.load (cell_ext (RdB.at (RdB.below h0 (Ext.refl w)) 3 _ rfl)) rfl rfl Try.underlying2 rfl) rfl rfl rfl ?_
  obtain ⟨x59, hx60, hm⟩ := bindE hm
  refine QL.call 81 #[.int .i64 g_0.Least] (.bool x59) (fun _ => by kernel_rfl) (fun w61 hE62 => c_81 n g_0.Least w61 hx60 ) rfl rfl rfl ?_
  refine QL.step1v 32 (.bool x59) rfl (fun _ => by kernel_rfl) ?_
  refine QL.step1v 2 (.bool x59) rfl (fun _ => by kernel_rfl) ?_
  refine QL.subk [2] [(2, .bool x59)] (by kernel_rfl) ?_
  refine QL.nil ?_
  intro w63 hE64
  have hb65 : Ext w w63 := Ext.trans (Ext.refl w) hE64
  have hL66 : w.heap.size ≤ w63.heap.size := Nat.le_trans (Nat.le_refl _) hE64.size
  have hS67 : SH w63 w.heap.size [] := SH.ext (SH.nil _ _) hE64
  obtain rfl := Option.some.inj hm
  exact WQ.post' ⟨rfl, hb65, hL66, hS67⟩ ⟨rfl, trivial⟩

theorem c_52 (n : Nat) (list_0 : List SGood) (a0' : Option Addr) (c0' : Nat) (w : World) {r : Bool} (hm : m_spec_l23Ok n list_0 = some r) (h0 : Rd fGood.ty w a0' list_0) (_hle0 : list_0.length ≤ c0') :
    CallV Try.prog 52 #[.slice a0' list_0.length c0'] w (fun v w' => v = .bool r ∧ Ext w w') := by
  unfold m_spec_l23Ok at hm
  refine CallV.enter Try.func52 rfl (by kernel_rfl) Try.ntmps52 (env := [(0, .slice a0' list_0.length c0')]) ⟨rfl, trivial⟩ ?_
  refine WP.seq (fun K1 hK1 => ?_)
  refine WP.region ?_
  refine WL.runk 1 [0] [(0, .slice a0' list_0.length c0')] (by kernel_rfl) ?_
  refine WL.nil ?_
  refine WQ.then_normal (hK1 _ _ _ ?_)
  refine WP.seq (fun K2 hK2 => ?_)
  refine WP.seq (fun K3 hK3 => ?_)
  refine WP.region ?_
  refine WL.runk 1 [0, 3] [(0, .slice a0' list_0.length c0'), (3, .int .i64 0)] (by kernel_rfl) ?_
  refine WL.nil ?_
  refine WQ.then_normal (hK3 _ _ _ ?_)
  refine WP.block ?_
  obtain ⟨t15, ht16, hm⟩ := bindE hm
  have hmo10 := hm; clear hm
  refine WP.sub [(0, .slice a0' list_0.length c0'), (3, .int .i64 0)] ⟨rfl, rfl, trivial⟩ ?_
  refine WP.loop (fun n' env' w' => ∃ (st4 : Int) , env' = [(0, .slice a0' list_0.length c0'), (3, .int .i64 st4)] ∧ Ext w w' ∧ w.heap.size ≤ w'.heap.size ∧ SH w' w.heap.size [] ∧ loopN (m_spec_l23Ok_l1 n list_0) n' st4 = some t15) n ⟨0, rfl, (Ext.refl w), (Nat.le_refl _), (SH.nil _ _), ht16⟩ ?_
  rintro n12 _ w5 ⟨st4, rfl, hb6, hL7, hS8, hl9⟩ K11 hK11
  obtain ⟨n13, s14, rfl, hm, hl9⟩ := loopN_some hl9
  unfold m_spec_l23Ok_l1 at hm
  refine WP.seq (fun K17 hK17 => ?_)
  refine WP.seq (fun K18 hK18 => ?_)
  refine WP.region ?_
  refine WL.runk 4 [0, 3, 7] [(0, .slice a0' list_0.length c0'), (3, .int .i64 st4), (7, .bool (decide (st4 < (list_0.length : Int))))] (by kernel_rfl) ?_
  refine WL.nil ?_
  refine WQ.then_normal (hK18 _ _ _ ?_)
  refine WP.cond (decide (st4 < (list_0.length : Int))) rfl rfl (fun hc19 => ?_) (fun hc19 => ?_)
  rotate_left
  · have hm := iteF hm hc19
    refine WP.exit ?_
    refine WQ.then_exit ?_
    refine WQ.then_exit ?_
    refine WQ.block_here ?_
    obtain rfl := Option.some.inj hm
    obtain rfl := afterN_done hl9
    have hm := hmo10
    refine WQ.then_normal (hK2 _ _ _ ?_)
    refine WP.seq (fun K84 hK84 => ?_)
    refine WP.region ?_
    refine WL.runk 4 [2] [(2, .bool (decide ((list_0.length : Int) ≤ 40)))] (by kernel_rfl) ?_
    refine WL.nil ?_
    refine WQ.then_normal (hK84 _ _ _ ?_)
    refine WP.ret ?_
    obtain rfl := Option.some.inj hm
    exact WQ.ret1 _ rfl rfl ⟨rfl, hb6⟩
  have hm := iteT hm hc19
  refine WP.skip ?_
  refine WQ.then_normal (hK17 _ _ _ ?_)
  refine WP.seq (fun K20 hK20 => ?_)
  refine WP.block ?_
  refine WP.seq (fun K21 hK21 => ?_)
  obtain ⟨x49, hx50, hm⟩ := bindE hm
  refine WP.cut (fun env' w' => env' = [(0, .slice a0' list_0.length c0'), (3, .int .i64 st4), (32, .bool x49)] ∧ Ext w w' ∧ w.heap.size ≤ w'.heap.size ∧ SH w' w.heap.size []) ?_ ?_
  rotate_left
  · clear hx50
    rintro _ w78 ⟨rfl, hb79, hL80, hS81⟩
    refine WQ.then_normal (hK21 _ _ _ ?_)
    refine WP.cond x49 rfl rfl (fun hc82 => ?_) (fun hc82 => ?_)
    rotate_left
    · have hm := iteF hm hc82
      refine WP.skip ?_
      refine WQ.block_normal ?_
      refine WQ.then_normal (hK20 _ _ _ ?_)
      refine WP.region ?_
      refine WL.runk 3 [0, 3] [(0, .slice a0' list_0.length c0'), (3, .int .i64 (wI64 (st4 + 1)))] (by kernel_rfl) ?_
      refine WL.nil ?_
      obtain rfl := Option.some.inj hm
      exact WQ.round hK11 ⟨(wI64 (st4 + 1)), rfl, hb79, hL80, hS81, hl9⟩ (Nat.lt_succ_self _) ⟨rfl, rfl, trivial⟩
    have hm := iteT hm hc82
    refine WP.seq (fun K83 hK83 => ?_)
    refine WP.region ?_
    refine WL.runk 1 [2] [(2, .bool false)] (by kernel_rfl) ?_
    refine WL.nil ?_
    refine WQ.then_normal (hK83 _ _ _ ?_)
    refine WP.ret ?_
    refine WQ.block_ret ?_
    refine WQ.then_ret ?_
    refine WQ.then_ret ?_
    refine WQ.block_ret ?_
    refine WQ.then_ret ?_
    obtain rfl := Option.some.inj hm
    obtain rfl := afterN_done hl9
    have hm := hmo10
    obtain rfl := Option.some.inj hm
    exact WQ.ret1 _ rfl rfl ⟨rfl, hb79⟩
  have hm := hx50; clear hx50
  refine WP.quiet (by kernel_rfl) (by kernel_rfl) ?_
  refine QL.step1v 10 (.slice a0' list_0.length c0') rfl (fun _ => by kernel_rfl) ?_
  refine QL.step1v 11 (.int .i64 st4) rfl (fun _ => by kernel_rfl) ?_
  refine QL.subk [0, 3, 10, 11] [(0, .slice a0' list_0.length c0'), (3, .int .i64 st4), (10, .slice a0' list_0.length c0'), (11, .int .i64 st4)] (by kernel_rfl) ?_
  obtain ⟨x51, hx52, hm⟩ := bindE hm
  refine QL.st (.pointer (some (at_ a0' (Int.toNat st4 * 4)))) (ST.index (T := fGood.ty) (xs := list_0) (Rd.below h0 hb6) hx52 rfl rfl rfl Try.underlying25 (info56).1 (info56).2.1) rfl rfl rfl ?_
  obtain ⟨x53, hx54, hm⟩ := bindE hm
  refine QL.call 69 #[.pointer (some (at_ a0' (Int.toNat st4 * 4)))] (.bool x53) (fun _ => by kernel_rfl) (fun w55 hE56 => c_69 n x51 ((ba a0').block) ((ba a0').off + Int.toNat st4 * 4) w55 hx54 (RdB.below (RdB.ofRd (F := fGood) (Rd.below h0 hb6) hx52) hE56)) rfl rfl rfl ?_
  refine QL.step1v 14 (.bool (!x53)) rfl (fun _ => by kernel_rfl) ?_
  refine QL.step1v 15 (.bool (!x53)) rfl (fun _ => by kernel_rfl) ?_
  refine QL.subk [0, 3, 15] [(0, .slice a0' list_0.length c0'), (3, .int .i64 st4), (15, .bool (!x53))] (by kernel_rfl) ?_
  refine QL.case (!x53) [15] ⟨rfl, trivial⟩ (fun hc57 => ?_) (fun hc57 => ?_)
  · have hm := iteT hm hc57
    refine QL.step1v 16 undef rfl (fun _ => by kernel_rfl) ?_
    refine QL.step1v 17 undef rfl (fun _ => by kernel_rfl) ?_
    refine QL.step1v 18 undef rfl (fun _ => by kernel_rfl) ?_
    refine QL.step1v 19 undef rfl (fun _ => by kernel_rfl) ?_
    refine QL.step1v 20 undef rfl (fun _ => by kernel_rfl) ?_
    refine QL.step1v 21 undef rfl (fun _ => by kernel_rfl) ?_
    refine QL.step1v 22 undef rfl (fun _ => by kernel_rfl) ?_
    refine QL.step1v 23 undef rfl (fun _ => by kernel_rfl) ?_
    refine QL.step1v 24 undef rfl (fun _ => by kernel_rfl) ?_
    refine QL.step1v 25 undef rfl (fun _ => by kernel_rfl) ?_
    refine QL.step1v 26 undef rfl (fun _ => by kernel_rfl) ?_
    refine QL.step1v 27 undef rfl (fun _ => by kernel_rfl) ?_
    refine QL.step1v 28 undef rfl (fun _ => by kernel_rfl) ?_
    refine QL.step1v 29 undef rfl (fun _ => by kernel_rfl) ?_
    refine QL.step1v 30 undef rfl (fun _ => by kernel_rfl) ?_
    refine QL.step1v 31 undef rfl (fun _ => by kernel_rfl) ?_
    refine QL.step1v 32 (.bool true) rfl (fun _ => by kernel_rfl) ?_
    refine QL.subk [0, 3, 32] [(0, .slice a0' list_0.length c0'), (3, .int .i64 st4), (32, .bool true)] (by kernel_rfl) ?_
    refine QL.nil ?_
    intro w58 hE59
    have hb60 : Ext w w58 := Ext.trans hb6 hE59
    have hL61 : w.heap.size ≤ w58.heap.size := Nat.le_trans hL7 hE59.size
    have hS62 : SH w58 w.heap.size [] := SH.ext hS8 hE59
    obtain rfl := Option.some.inj hm
    exact WQ.post' ⟨rfl, hb60, hL61, hS62⟩ ⟨rfl, rfl, rfl, trivial⟩
  have hm := iteF hm hc57
  refine QL.step1v 16 (.int .i64 st4) rfl (fun _ => by kernel_rfl) ?_
  refine QL.step1v 17 (.bool (decide (st4 > 0))) rfl (fun _ => by kernel_rfl) ?_
  refine QL.step1v 18 (.bool (decide (st4 > 0))) rfl (fun _ => by kernel_rfl) ?_
  refine QL.subk [0, 3, 15, 18] [(0, .slice a0' list_0.length c0'), (3, .int .i64 st4), (15, .bool false), (18, .bool (decide (st4 > 0)))] (by kernel_rfl) ?_
  refine QL.case (decide (st4 > 0)) [18] ⟨rfl, trivial⟩ (fun hc63 => ?_) (fun hc63 => ?_)
  rotate_left
  · have hm := iteF hm hc63
    refine QL.step1v 19 undef rfl (fun _ => by kernel_rfl) ?_
    refine QL.step1v 20 undef rfl (fun _ => by kernel_rfl) ?_
    refine QL.step1v 21 undef rfl (fun _ => by kernel_rfl) ?_
    refine QL.step1v 22 undef rfl (fun _ => by kernel_rfl) ?_
    refine QL.step1v 23 undef rfl (fun _ => by kernel_rfl) ?_
    refine QL.step1v 24 undef rfl (fun _ => by kernel_rfl) ?_
    refine QL.step1v 25 undef rfl (fun _ => by kernel_rfl) ?_
    refine QL.step1v 26 undef rfl (fun _ => by kernel_rfl) ?_
    refine QL.step1v 27 undef rfl (fun _ => by kernel_rfl) ?_
    refine QL.step1v 28 undef rfl (fun _ => by kernel_rfl) ?_
    refine QL.step1v 29 undef rfl (fun _ => by kernel_rfl) ?_
    refine QL.step1v 30 undef rfl (fun _ => by kernel_rfl) ?_
    refine QL.step1v 31 (.bool false) rfl (fun _ => by kernel_rfl) ?_
    refine QL.step1v 32 (.bool false) rfl (fun _ => by kernel_rfl) ?_
    refine QL.subk [0, 3, 32] [(0, .slice a0' list_0.length c0'), (3, .int .i64 st4), (32, .bool false)] (by kernel_rfl) ?_
    refine QL.nil ?_
    intro w73 hE74
    have hb75 : Ext w w73 := Ext.trans hb6 hE74
    have hL76 : w.heap.size ≤ w73.heap.size := Nat.le_trans hL7 hE74.size
    have hS77 : SH w73 w.heap.size [] := SH.ext hS8 hE74
    obtain rfl := Option.some.inj hm
    exact WQ.post' ⟨rfl, hb75, hL76, hS77⟩ ⟨rfl, rfl, rfl, trivial⟩
  have hm := iteT hm hc63
  refine QL.step1v 19 (.slice a0' list_0.length c0') rfl (fun _ => by kernel_rfl) ?_
  refine QL.step1v 20 (.int .i64 st4) rfl (fun _ => by kernel_rfl) ?_
  refine QL.step1v 21 (.int .i64 (wI64 (st4 - 1))) rfl (fun _ => by kernel_rfl) ?_
  refine QL.subk [0, 3, 15, 18, 19, 21] [(0, .slice a0' list_0.length c0'), (3, .int .i64 st4), (15, .bool false), (18, .bool true), (19, .slice a0' list_0.length c0'), (21, .int .i64 (wI64 (st4 - 1)))] (by kernel_rfl) ?_
  obtain ⟨x64, hx65, hm⟩ := bindE hm
  refine QL.st (.pointer (some (at_ a0' (Int.toNat (wI64 (st4 - 1)) * 4)))) (ST.index (T := fGood.ty) (xs := list_0) (Rd.below h0 hb6) hx65 rfl rfl rfl Try.underlying25 (info56).1 (info56).2.1) rfl rfl rfl ?_
  refine QL.step1v 23 (.pointer (some (at_ a0' (Int.toNat (wI64 (st4 - 1)) * 4)))) rfl (fun _ => by kernel_rfl) ?_
  refine QL.subk [0, 3, 15, 18, 23] [(0, .slice a0' list_0.length c0'), (3, .int .i64 st4), (15, .bool false), (18, .bool true), (23, .pointer (some (at_ a0' (Int.toNat (wI64 (st4 - 1)) * 4))))] (by kernel_rfl) ?_
  refine QL.st (.string (bs x64.Name)) (ST.load (cell_ext (Rd.flat (F := fGood) (Rd.below h0 hb6) hx65 0 rfl)) rfl rfl Try.underlying9 rfl) rfl rfl rfl ?_
  refine QL.step1v 25 (.slice a0' list_0.length c0') rfl (fun _ => by kernel_rfl) ?_
  refine QL.step1v 26 (.int .i64 st4) rfl (fun _ => by kernel_rfl) ?_
  refine QL.subk [0, 3, 15, 18, 24, 25, 26] [(0, .slice a0' list_0.length c0'), (3, .int .i64 st4), (15, .bool false), (18, .bool true), (24, .string (bs x64.Name)), (25, .slice a0' list_0.length c0'), (26, .int .i64 st4)] (by kernel_rfl) ?_
  obtain ⟨x66, hx67, hm⟩ := bindE hm
  refine QL.st (.pointer (some (at_ a0' (Int.toNat st4 * 4)))) (ST.index (T := fGood.ty) (xs := list_0) (Rd.below h0 hb6) hx67 rfl rfl rfl Try.underlying25 (info56).1 (info56).2.1) rfl rfl rfl ?_
  refine QL.step1v 28 (.pointer (some (at_ a0' (Int.toNat st4 * 4)))) rfl (fun _ => by kernel_rfl) ?_
  refine QL.subk [0, 3, 15, 18, 24, 28] [(0, .slice a0' list_0.length c0'), (3, .int .i64 st4), (15, .bool false), (18, .bool true), (24, .string (bs x64.Name)), (28, .pointer (some (at_ a0' (Int.toNat st4 * 4))))] (by kernel_rfl) ?_
  refine QL.st (.string (bs x66.Name)) (ST.load (cell_ext (Rd.flat (F := fGood) (Rd.below h0 hb6) hx67 0 rfl)) rfl rfl Try.underlying9 rfl) rfl rfl rfl ?_
  refine QL.st (.bool (!strLt x64.Name x66.Name)) (ST.strge (x := x64.Name) (y := x66.Name) rfl rfl rfl) rfl rfl rfl ?_
  refine QL.step1v 31 (.bool (!strLt x64.Name x66.Name)) rfl (fun _ => by kernel_rfl) ?_
  refine QL.step1v 32 (.bool (!strLt x64.Name x66.Name)) rfl (fun _ => by kernel_rfl) ?_
  refine QL.subk [0, 3, 32] [(0, .slice a0' list_0.length c0'), (3, .int .i64 st4), (32, .bool (!strLt x64.Name x66.Name))] (by kernel_rfl) ?_
  refine QL.nil ?_
  intro w68 hE69
  have hb70 : Ext w w68 := Ext.trans hb6 hE69
  have hL71 : w.heap.size ≤ w68.heap.size := Nat.le_trans hL7 hE69.size
  have hS72 : SH w68 w.heap.size [] := SH.ext hS8 hE69
  obtain rfl := Option.some.inj hm
  exact WQ.post' ⟨rfl, hb70, hL71, hS72⟩ ⟨rfl, rfl, rfl, trivial⟩

theorem c_67 (n : Nat) (n_0 : Int) (low_1 : Int) (high_2 : Int) (w : World) {r : Bool} (hm : m_impl_within n n_0 low_1 high_2 = some r)  :
    CallV Try.prog 67 #[.int .i64 n_0, .int .i64 low_1, .int .i64 high_2] w (fun v w' => v = .bool r ∧ Ext w w') := by
  unfold m_impl_within at hm
  refine CallV.enter Try.func67 rfl (by kernel_rfl) Try.ntmps67 (env := [(0, .int .i64 n_0), (1, .int .i64 low_1), (2, .int .i64 high_2)]) ⟨rfl, rfl, rfl, trivial⟩ ?_
  refine WP.seq (fun K1 hK1 => ?_)
  refine WP.region ?_
  refine WL.runk 1 [0, 1, 2] [(0, .int .i64 n_0), (1, .int .i64 low_1), (2, .int .i64 high_2)] (by kernel_rfl) ?_
  refine WL.nil ?_
  refine WQ.then_normal (hK1 _ _ _ ?_)
  refine WP.seq (fun K2 hK2 => ?_)
  obtain ⟨x4, hx5, hm⟩ := bindE hm
  refine WP.cut (fun env' w' => env' = [(6, .bool x4)] ∧ Ext w w' ∧ w.heap.size ≤ w'.heap.size ∧ SH w' w.heap.size []) ?_ ?_
  rotate_left
  · clear hx5
    rintro _ w7 ⟨rfl, hb8, hL9, hS10⟩
    refine WQ.then_normal (hK2 _ _ _ ?_)
    refine WP.ret ?_
    obtain rfl := Option.some.inj hm
    exact WQ.ret1 _ rfl rfl ⟨rfl, hb8⟩
  have hm := hx5; clear hx5
  refine WP.region ?_
  refine WL.runk 4 [0, 2, 10] [(0, .int .i64 n_0), (2, .int .i64 high_2), (10, .bool (decide (n_0 ≥ low_1)))] (by kernel_rfl) ?_
  refine WL.case (decide (n_0 ≥ low_1)) [10] ⟨rfl, trivial⟩ (fun hc6 => ?_) (fun hc6 => ?_)
  · have hm := iteT hm hc6
    refine WL.runk 5 [6] [(6, .bool (decide (n_0 ≤ high_2)))] (by kernel_rfl) ?_
    refine WL.nil ?_
    obtain rfl := Option.some.inj hm
    exact WQ.post' ⟨rfl, (Ext.refl w), (Nat.le_refl _), (SH.nil _ _)⟩ ⟨rfl, trivial⟩
  have hm := iteF hm hc6
  refine WL.runk 5 [6] [(6, .bool false)] (by kernel_rfl) ?_
  refine WL.nil ?_
  obtain rfl := Option.some.inj hm
  exact WQ.post' ⟨rfl, (Ext.refl w), (Nat.le_refl _), (SH.nil _ _)⟩ ⟨rfl, trivial⟩

theorem c_79 (n : Nat) (s_0 : List UInt8) (w : World) {r : Bool} (hm : m_impl_IsName n s_0 = some r)  :
    CallV Try.prog 79 #[.string (bs s_0)] w (fun v w' => v = .bool r ∧ Ext w w') := by
  unfold m_impl_IsName at hm
  refine CallV.enter Try.func79 rfl (by kernel_rfl) Try.ntmps79 (env := [(0, .string (bs s_0))]) ⟨rfl, trivial⟩ ?_
  refine WP.seq (fun K1 hK1 => ?_)
  refine WP.region ?_
  refine WL.runk 1 [0] [(0, .string (bs s_0))] (by kernel_rfl) ?_
  refine WL.nil ?_
  refine WQ.then_normal (hK1 _ _ _ ?_)
  refine WP.seq (fun K2 hK2 => ?_)
  refine WP.seq (fun K3 hK3 => ?_)
  obtain ⟨x11, hx12, hm⟩ := bindE hm
  refine WP.cut (fun env' w' => env' = [(0, .string (bs s_0)), (21, .bool x11)] ∧ Ext w w' ∧ w.heap.size ≤ w'.heap.size ∧ SH w' w.heap.size []) ?_ ?_
  · have hm := hx12; clear hx12
    refine WP.region ?_
    refine WL.runk 4 [0, 7] [(0, .string (bs s_0)), (7, .bool (decide ((s_0.length : Int) < 1)))] (by kernel_rfl) ?_
    refine WL.case (decide ((s_0.length : Int) < 1)) [7] ⟨rfl, trivial⟩ (fun hc13 => ?_) (fun hc13 => ?_)
    · have hm := iteT hm hc13
      refine WL.runk 14 [0, 21] [(0, .string (bs s_0)), (21, .bool true)] (by kernel_rfl) ?_
      refine WL.nil ?_
      obtain rfl := Option.some.inj hm
      exact WQ.post' ⟨rfl, (Ext.refl w), (Nat.le_refl _), (SH.nil _ _)⟩ ⟨rfl, rfl, trivial⟩
    have hm := iteF hm hc13
    refine WL.runk 5 [0, 12] [(0, .string (bs s_0)), (12, .bool (decide ((s_0.length : Int) > 12)))] (by kernel_rfl) ?_
    refine WL.case (decide ((s_0.length : Int) > 12)) [12] ⟨rfl, trivial⟩ (fun hc14 => ?_) (fun hc14 => ?_)
    · have hm := iteT hm hc14
      refine WL.runk 9 [0, 21] [(0, .string (bs s_0)), (21, .bool true)] (by kernel_rfl) ?_
      refine WL.nil ?_
      obtain rfl := Option.some.inj hm
      exact WQ.post' ⟨rfl, (Ext.refl w), (Nat.le_refl _), (SH.nil _ _)⟩ ⟨rfl, rfl, trivial⟩
    have hm := iteF hm hc14
    refine WL.runk 1 [0, 12, 13] [(0, .string (bs s_0)), (12, .bool false), (13, .string (bs s_0))] (by kernel_rfl) ?_
    obtain ⟨x15, hx16, hm⟩ := bindE hm
    refine WL.st (.int .u8 (x15.toNat : Int)) (ST.sindex hx16 rfl rfl rfl Try.underlying9) rfl rfl rfl ?_
    refine WL.runk 3 [0, 17] [(0, .string (bs s_0)), (17, .bool (decide ((x15.toNat : Int) < 97)))] (by kernel_rfl) ?_
    refine WL.case (decide ((x15.toNat : Int) < 97)) [17] ⟨rfl, trivial⟩ (fun hc17 => ?_) (fun hc17 => ?_)
    · have hm := iteT hm hc17
      refine WL.runk 4 [0, 21] [(0, .string (bs s_0)), (21, .bool true)] (by kernel_rfl) ?_
      refine WL.nil ?_
      obtain rfl := Option.some.inj hm
      exact WQ.post' ⟨rfl, (Ext.refl w), (Nat.le_refl _), (SH.nil _ _)⟩ ⟨rfl, rfl, trivial⟩
    have hm := iteF hm hc17
    refine WL.runk 1 [0, 17, 18] [(0, .string (bs s_0)), (17, .bool false), (18, .string (bs s_0))] (by kernel_rfl) ?_
    obtain ⟨x18, hx19, hm⟩ := bindE hm
    refine WL.st (.int .u8 (x18.toNat : Int)) (ST.sindex hx19 rfl rfl rfl Try.underlying9) rfl rfl rfl ?_
    refine WL.runk 2 [0, 21] [(0, .string (bs s_0)), (21, .bool (decide ((x18.toNat : Int) > 122)))] (by kernel_rfl) ?_
    refine WL.nil ?_
    obtain rfl := Option.some.inj hm
    exact WQ.post' ⟨rfl, (Ext.refl w), (Nat.le_refl _), (SH.nil _ _)⟩ ⟨rfl, rfl, trivial⟩
  clear hx12
  rintro _ w20 ⟨rfl, hb21, hL22, hS23⟩
  refine WQ.then_normal (hK3 _ _ _ ?_)
  refine WP.cond x11 rfl rfl (fun hc24 => ?_) (fun hc24 => ?_)
  · have hm := iteT hm hc24
    refine WP.seq (fun K25 hK25 => ?_)
    refine WP.region ?_
    refine WL.runk 1 [2] [(2, .bool false)] (by kernel_rfl) ?_
    refine WL.nil ?_
    refine WQ.then_normal (hK25 _ _ _ ?_)
    refine WP.ret ?_
    refine WQ.then_ret ?_
    obtain rfl := Option.some.inj hm
    exact WQ.ret1 _ rfl rfl ⟨rfl, hb21⟩
  have hm := iteF hm hc24
  refine WP.skip ?_
  refine WQ.then_normal (hK2 _ _ _ ?_)
  refine WP.seq (fun K26 hK26 => ?_)
  refine WP.seq (fun K27 hK27 => ?_)
  refine WP.region ?_
  refine WL.runk 1 [0, 3] [(0, .string (bs s_0)), (3, .int .i64 1)] (by kernel_rfl) ?_
  refine WL.nil ?_
  refine WQ.then_normal (hK27 _ _ _ ?_)
  refine WP.block ?_
  obtain ⟨t39, ht40, hm⟩ := bindE hm
  have hmo34 := hm; clear hm
  refine WP.sub [(0, .string (bs s_0)), (3, .int .i64 1)] ⟨rfl, rfl, trivial⟩ ?_
  refine WP.loop (fun n' env' w' => ∃ (st28 : Int) , env' = [(0, .string (bs s_0)), (3, .int .i64 st28)] ∧ Ext w w' ∧ w.heap.size ≤ w'.heap.size ∧ SH w' w.heap.size [] ∧ loopN (m_impl_IsName_l1 n s_0) n' st28 = some t39) n ⟨1, rfl, hb21, hL22, hS23, ht40⟩ ?_
  rintro n36 _ w29 ⟨st28, rfl, hb30, hL31, hS32, hl33⟩ K35 hK35
  obtain ⟨n37, s38, rfl, hm, hl33⟩ := loopN_some hl33
  unfold m_impl_IsName_l1 at hm
  refine WP.seq (fun K41 hK41 => ?_)
  refine WP.seq (fun K42 hK42 => ?_)
  refine WP.region ?_
  refine WL.runk 4 [0, 3, 25] [(0, .string (bs s_0)), (3, .int .i64 st28), (25, .bool (decide (st28 < (s_0.length : Int))))] (by kernel_rfl) ?_
  refine WL.nil ?_
  refine WQ.then_normal (hK42 _ _ _ ?_)
  refine WP.cond (decide (st28 < (s_0.length : Int))) rfl rfl (fun hc43 => ?_) (fun hc43 => ?_)
  rotate_left
  · have hm := iteF hm hc43
    refine WP.exit ?_
    refine WQ.then_exit ?_
    refine WQ.then_exit ?_
    refine WQ.block_here ?_
    obtain rfl := Option.some.inj hm
    obtain rfl := afterN_done hl33
    have hm := hmo34
    refine WQ.then_normal (hK26 _ _ _ ?_)
    refine WP.seq (fun K106 hK106 => ?_)
    refine WP.region ?_
    refine WL.runk 1 [2] [(2, .bool true)] (by kernel_rfl) ?_
    refine WL.nil ?_
    refine WQ.then_normal (hK106 _ _ _ ?_)
    refine WP.ret ?_
    obtain rfl := Option.some.inj hm
    exact WQ.ret1 _ rfl rfl ⟨rfl, hb30⟩
  have hm := iteT hm hc43
  refine WP.skip ?_
  refine WQ.then_normal (hK41 _ _ _ ?_)
  refine WP.seq (fun K44 hK44 => ?_)
  refine WP.block ?_
  refine WP.seq (fun K45 hK45 => ?_)
  obtain ⟨x72, hx73, hm⟩ := bindE hm
  refine WP.cut (fun env' w' => env' = [(0, .string (bs s_0)), (3, .int .i64 st28), (55, .bool x72)] ∧ Ext w w' ∧ w.heap.size ≤ w'.heap.size ∧ SH w' w.heap.size []) ?_ ?_
  rotate_left
  · clear hx73
    rintro _ w100 ⟨rfl, hb101, hL102, hS103⟩
    refine WQ.then_normal (hK45 _ _ _ ?_)
    refine WP.cond x72 rfl rfl (fun hc104 => ?_) (fun hc104 => ?_)
    rotate_left
    · have hm := iteF hm hc104
      refine WP.skip ?_
      refine WQ.block_normal ?_
      refine WQ.then_normal (hK44 _ _ _ ?_)
      refine WP.region ?_
      refine WL.runk 3 [0, 3] [(0, .string (bs s_0)), (3, .int .i64 (wI64 (st28 + 1)))] (by kernel_rfl) ?_
      refine WL.nil ?_
      obtain rfl := Option.some.inj hm
      exact WQ.round hK35 ⟨(wI64 (st28 + 1)), rfl, hb101, hL102, hS103, hl33⟩ (Nat.lt_succ_self _) ⟨rfl, rfl, trivial⟩
    have hm := iteT hm hc104
    refine WP.seq (fun K105 hK105 => ?_)
    refine WP.region ?_
    refine WL.runk 1 [2] [(2, .bool false)] (by kernel_rfl) ?_
    refine WL.nil ?_
    refine WQ.then_normal (hK105 _ _ _ ?_)
    refine WP.ret ?_
    refine WQ.block_ret ?_
    refine WQ.then_ret ?_
    refine WQ.then_ret ?_
    refine WQ.block_ret ?_
    refine WQ.then_ret ?_
    obtain rfl := Option.some.inj hm
    obtain rfl := afterN_done hl33
    have hm := hmo34
    obtain rfl := Option.some.inj hm
    exact WQ.ret1 _ rfl rfl ⟨rfl, hb101⟩
  have hm := hx73; clear hx73
  refine WP.region ?_
  refine WL.runk 2 [0, 3, 28, 29] [(0, .string (bs s_0)), (3, .int .i64 st28), (28, .string (bs s_0)), (29, .int .i64 st28)] (by kernel_rfl) ?_
  obtain ⟨x74, hx75, hm⟩ := bindE hm
  refine WL.st (.int .u8 (x74.toNat : Int)) (ST.sindex hx75 rfl rfl rfl Try.underlying9) rfl rfl rfl ?_
  refine WL.runk 2 [0, 3, 32] [(0, .string (bs s_0)), (3, .int .i64 st28), (32, .bool (decide ((x74.toNat : Int) < 97)))] (by kernel_rfl) ?_
  refine WL.case (decide ((x74.toNat : Int) < 97)) [32] ⟨rfl, trivial⟩ (fun hc76 => ?_) (fun hc76 => ?_)
  · have hm := iteT hm hc76
    refine WL.runk 8 [0, 3, 38, 39, 40] [(0, .string (bs s_0)), (3, .int .i64 st28), (38, .bool true), (39, .string (bs s_0)), (40, .int .i64 st28)] (by kernel_rfl) ?_
    obtain ⟨x77, hx78, hm⟩ := bindE hm
    refine WL.st (.int .u8 (x77.toNat : Int)) (ST.sindex hx78 rfl rfl rfl Try.underlying9) rfl rfl rfl ?_
    refine WL.runk 2 [0, 3, 38, 43] [(0, .string (bs s_0)), (3, .int .i64 st28), (38, .bool true), (43, .bool (decide ((x77.toNat : Int) < 48)))] (by kernel_rfl) ?_
    refine WL.case (decide ((x77.toNat : Int) < 48)) [43] ⟨rfl, trivial⟩ (fun hc79 => ?_) (fun hc79 => ?_)
    · have hm := iteT hm hc79
      refine WL.runk 9 [0, 3, 50, 51, 52] [(0, .string (bs s_0)), (3, .int .i64 st28), (50, .bool true), (51, .string (bs s_0)), (52, .int .i64 st28)] (by kernel_rfl) ?_
      obtain ⟨x80, hx81, hm⟩ := bindE hm
      refine WL.st (.int .u8 (x80.toNat : Int)) (ST.sindex hx81 rfl rfl rfl Try.underlying9) rfl rfl rfl ?_
      refine WL.runk 2 [0, 3, 55] [(0, .string (bs s_0)), (3, .int .i64 st28), (55, .bool ((x80.toNat : Int) != 45))] (by kernel_rfl) ?_
      refine WL.nil ?_
      obtain rfl := Option.some.inj hm
      exact WQ.post' ⟨rfl, hb30, hL31, hS32⟩ ⟨rfl, rfl, rfl, trivial⟩
    have hm := iteF hm hc79
    refine WL.runk 2 [0, 3, 38, 43, 44, 45] [(0, .string (bs s_0)), (3, .int .i64 st28), (38, .bool true), (43, .bool false), (44, .string (bs s_0)), (45, .int .i64 st28)] (by kernel_rfl) ?_
    obtain ⟨x82, hx83, hm⟩ := bindE hm
    refine WL.st (.int .u8 (x82.toNat : Int)) (ST.sindex hx83 rfl rfl rfl Try.underlying9) rfl rfl rfl ?_
    refine WL.runk 4 [0, 3, 50] [(0, .string (bs s_0)), (3, .int .i64 st28), (50, .bool (decide ((x82.toNat : Int) > 57)))] (by kernel_rfl) ?_
    refine WL.case (decide ((x82.toNat : Int) > 57)) [50] ⟨rfl, trivial⟩ (fun hc84 => ?_) (fun hc84 => ?_)
    rotate_left
    · have hm := iteF hm hc84
      refine WL.runk 5 [0, 3, 55] [(0, .string (bs s_0)), (3, .int .i64 st28), (55, .bool false)] (by kernel_rfl) ?_
      refine WL.nil ?_
      obtain rfl := Option.some.inj hm
      exact WQ.post' ⟨rfl, hb30, hL31, hS32⟩ ⟨rfl, rfl, rfl, trivial⟩
    have hm := iteT hm hc84
    refine WL.runk 2 [0, 3, 50, 51, 52] [(0, .string (bs s_0)), (3, .int .i64 st28), (50, .bool true), (51, .string (bs s_0)), (52, .int .i64 st28)] (by kernel_rfl) ?_
    obtain ⟨x85, hx86, hm⟩ := bindE hm
    refine WL.st (.int .u8 (x85.toNat : Int)) (ST.sindex hx86 rfl rfl rfl Try.underlying9) rfl rfl rfl ?_
    refine WL.runk 2 [0, 3, 55] [(0, .string (bs s_0)), (3, .int .i64 st28), (55, .bool ((x85.toNat : Int) != 45))] (by kernel_rfl) ?_
    refine WL.nil ?_
    obtain rfl := Option.some.inj hm
    exact WQ.post' ⟨rfl, hb30, hL31, hS32⟩ ⟨rfl, rfl, rfl, trivial⟩
  have hm := iteF hm hc76
  refine WL.runk 2 [0, 3, 32, 33, 34] [(0, .string (bs s_0)), (3, .int .i64 st28), (32, .bool false), (33, .string (bs s_0)), (34, .int .i64 st28)] (by kernel_rfl) ?_
  obtain ⟨x87, hx88, hm⟩ := bindE hm
  refine WL.st (.int .u8 (x87.toNat : Int)) (ST.sindex hx88 rfl rfl rfl Try.underlying9) rfl rfl rfl ?_
  refine WL.runk 3 [0, 3, 38] [(0, .string (bs s_0)), (3, .int .i64 st28), (38, .bool (decide ((x87.toNat : Int) > 122)))] (by kernel_rfl) ?_
  refine WL.case (decide ((x87.toNat : Int) > 122)) [38] ⟨rfl, trivial⟩ (fun hc89 => ?_) (fun hc89 => ?_)
  rotate_left
  · have hm := iteF hm hc89
    refine WL.runk 17 [0, 3, 55] [(0, .string (bs s_0)), (3, .int .i64 st28), (55, .bool false)] (by kernel_rfl) ?_
    refine WL.nil ?_
    obtain rfl := Option.some.inj hm
    exact WQ.post' ⟨rfl, hb30, hL31, hS32⟩ ⟨rfl, rfl, rfl, trivial⟩
  have hm := iteT hm hc89
  refine WL.runk 2 [0, 3, 38, 39, 40] [(0, .string (bs s_0)), (3, .int .i64 st28), (38, .bool true), (39, .string (bs s_0)), (40, .int .i64 st28)] (by kernel_rfl) ?_
  obtain ⟨x90, hx91, hm⟩ := bindE hm
  refine WL.st (.int .u8 (x90.toNat : Int)) (ST.sindex hx91 rfl rfl rfl Try.underlying9) rfl rfl rfl ?_
  refine WL.runk 2 [0, 3, 38, 43] [(0, .string (bs s_0)), (3, .int .i64 st28), (38, .bool true), (43, .bool (decide ((x90.toNat : Int) < 48)))] (by kernel_rfl) ?_
  refine WL.case (decide ((x90.toNat : Int) < 48)) [43] ⟨rfl, trivial⟩ (fun hc92 => ?_) (fun hc92 => ?_)
  · have hm := iteT hm hc92
    refine WL.runk 9 [0, 3, 50, 51, 52] [(0, .string (bs s_0)), (3, .int .i64 st28), (50, .bool true), (51, .string (bs s_0)), (52, .int .i64 st28)] (by kernel_rfl) ?_
    obtain ⟨x93, hx94, hm⟩ := bindE hm
    refine WL.st (.int .u8 (x93.toNat : Int)) (ST.sindex hx94 rfl rfl rfl Try.underlying9) rfl rfl rfl ?_
    refine WL.runk 2 [0, 3, 55] [(0, .string (bs s_0)), (3, .int .i64 st28), (55, .bool ((x93.toNat : Int) != 45))] (by kernel_rfl) ?_
    refine WL.nil ?_
    obtain rfl := Option.some.inj hm
    exact WQ.post' ⟨rfl, hb30, hL31, hS32⟩ ⟨rfl, rfl, rfl, trivial⟩
  have hm := iteF hm hc92
  refine WL.runk 2 [0, 3, 38, 43, 44, 45] [(0, .string (bs s_0)), (3, .int .i64 st28), (38, .bool true), (43, .bool false), (44, .string (bs s_0)), (45, .int .i64 st28)] (by kernel_rfl) ?_
  obtain ⟨x95, hx96, hm⟩ := bindE hm
  refine WL.st (.int .u8 (x95.toNat : Int)) (ST.sindex hx96 rfl rfl rfl Try.underlying9) rfl rfl rfl ?_
  refine WL.runk 4 [0, 3, 50] [(0, .string (bs s_0)), (3, .int .i64 st28), (50, .bool (decide ((x95.toNat : Int) > 57)))] (by kernel_rfl) ?_
  refine WL.case (decide ((x95.toNat : Int) > 57)) [50] ⟨rfl, trivial⟩ (fun hc97 => ?_) (fun hc97 => ?_)
  rotate_left
  · have hm := iteF hm hc97
    refine WL.runk 5 [0, 3, 55] [(0, .string (bs s_0)), (3, .int .i64 st28), (55, .bool false)] (by kernel_rfl) ?_
    refine WL.nil ?_
    obtain rfl := Option.some.inj hm
    exact WQ.post' ⟨rfl, hb30, hL31, hS32⟩ ⟨rfl, rfl, rfl, trivial⟩
  have hm := iteT hm hc97
  refine WL.runk 2 [0, 3, 50, 51, 52] [(0, .string (bs s_0)), (3, .int .i64 st28), (50, .bool true), (51, .string (bs s_0)), (52, .int .i64 st28)] (by kernel_rfl) ?_
  obtain ⟨x98, hx99, hm⟩ := bindE hm
  refine WL.st (.int .u8 (x98.toNat : Int)) (ST.sindex hx99 rfl rfl rfl Try.underlying9) rfl rfl rfl ?_
  refine WL.runk 2 [0, 3, 55] [(0, .string (bs s_0)), (3, .int .i64 st28), (55, .bool ((x98.toNat : Int) != 45))] (by kernel_rfl) ?_
  refine WL.nil ?_
  obtain rfl := Option.some.inj hm
  exact WQ.post' ⟨rfl, hb30, hL31, hS32⟩ ⟨rfl, rfl, rfl, trivial⟩

theorem c_53 (n : Nat) (g_0 : SGood) (w : World) {r : Bool} (hm : m_impl_validGood n g_0 = some r)  :
    CallV Try.prog 53 #[.agg #[.string (bs g_0.Name), .int .i64 g_0.OnHand, .int .i64 g_0.Reserved, .int .i64 g_0.Least]] w (fun v w' => v = .bool r ∧ Ext w w') := by
  unfold m_impl_validGood at hm
  refine CallV.enter Try.func53 rfl (by kernel_rfl) Try.ntmps53 (env := [(0, .agg #[.string (bs g_0.Name), .int .i64 g_0.OnHand, .int .i64 g_0.Reserved, .int .i64 g_0.Least])]) ⟨rfl, trivial⟩ ?_
  refine WP.seq (fun K1 hK1 => ?_)
  refine WP.region ?_
  refine WL.box 56 [.string (bs g_0.Name), .int .i64 g_0.OnHand, .int .i64 g_0.Reserved, .int .i64 g_0.Least] 1 (by kernel_rfl) rfl rfl rfl rfl ?_
  intro b2 w3 hE4 hR5
  have hb7 : Ext w w3 := Ext.trans (Ext.refl w) hE4
  have hL8 : w.heap.size ≤ w3.heap.size := Nat.le_trans (Nat.le_refl _) hE4.size
  have hS9 : SH w3 w.heap.size [aBox 56 b2 [.string (bs g_0.Name), .int .i64 g_0.OnHand, .int .i64 g_0.Reserved, .int .i64 g_0.Least]] := SH.add (SH.nil _ _) hE4 (Nat.le_refl _) hR5
  refine WL.runk 1 [1] [(1, .pointer (some ⟨b2, 0, none⟩))] (by kernel_rfl) ?_
  refine WL.nil ?_
  refine WQ.then_normal (hK1 _ _ _ ?_)
  refine WP.seq (fun K10 hK10 => ?_)
  obtain ⟨x46, hx47, hm⟩ := bindE hm
  refine WP.cut (fun env' w' => env' = [(2, .bool x46)] ∧ Ext w w' ∧ w.heap.size ≤ w'.heap.size ∧ SH w' w.heap.size [aBox 56 b2 [.string (bs g_0.Name), .int .i64 g_0.OnHand, .int .i64 g_0.Reserved, .int .i64 g_0.Least]]) ?_ ?_
  rotate_left
  · clear hx47
    rintro _ w83 ⟨rfl, hb84, hL85, hS86⟩
    refine WQ.then_normal (hK10 _ _ _ ?_)
    refine WP.ret ?_
    obtain rfl := Option.some.inj hm
    exact WQ.ret1 _ rfl rfl ⟨rfl, hb84⟩
  have hm := hx47; clear hx47
  refine WP.region ?_
  refine WL.runk 1 [1, 3] [(1, .pointer (some ⟨b2, 0, none⟩)), (3, .pointer (some ⟨b2, 0, none⟩))] (by kernel_rfl) ?_
  refine WL.st (.string (bs g_0.Name)) (ST.load (cell_ext (SH.boxAt (SH.front 0 hS9) 0 _ rfl)) rfl rfl Try.underlying9 rfl) rfl rfl rfl ?_
  obtain ⟨x48, hx49, hm⟩ := bindE hm
  refine WL.call 79 #[.string (bs g_0.Name)] rfl rfl (by kernel_rfl) (c_79 n g_0.Name w3 hx49 ) ?_
  rintro _ w50 ⟨rfl, hE51⟩
  refine ⟨_, rfl, ?_⟩
  have hb53 : Ext w w50 := Ext.trans hb7 hE51
  have hL54 : w.heap.size ≤ w50.heap.size := Nat.le_trans hL8 hE51.size
  have hS55 : SH w50 w.heap.size [aBox 56 b2 [.string (bs g_0.Name), .int .i64 g_0.OnHand, .int .i64 g_0.Reserved, .int .i64 g_0.Least]] := SH.ext hS9 hE51
  refine WL.runk 1 [1, 6] [(1, .pointer (some ⟨b2, 0, none⟩)), (6, .bool x48)] (by kernel_rfl) ?_
  refine WL.case x48 [6] ⟨rfl, trivial⟩ (fun hc56 => ?_) (fun hc56 => ?_)
  rotate_left
  · have hm := iteF hm hc56
    refine WL.runk 17 [2] [(2, .bool false)] (by kernel_rfl) ?_
    refine WL.nil ?_
    obtain rfl := Option.some.inj hm
    exact WQ.post' ⟨rfl, hb53, hL54, hS55⟩ ⟨rfl, trivial⟩
  have hm := iteT hm hc56
  refine WL.runk 1 [1, 6, 7] [(1, .pointer (some ⟨b2, 0, none⟩)), (6, .bool true), (7, .pointer (some ⟨b2, 1, none⟩))] (by kernel_rfl) ?_
  refine WL.st (.int .i64 g_0.OnHand) (ST.load (cell_ext (SH.boxAt (SH.front 0 hS55) 1 _ rfl)) rfl rfl Try.underlying2 rfl) rfl rfl rfl ?_
  obtain ⟨x57, hx58, hm⟩ := bindE hm
  refine WL.call 67 #[.int .i64 g_0.OnHand, .int .i64 0, .int .i64 1000000] rfl rfl (by kernel_rfl) (c_67 n g_0.OnHand 0 1000000 w50 hx58 ) ?_
  rintro _ w59 ⟨rfl, hE60⟩
  refine ⟨_, rfl, ?_⟩
  have hb62 : Ext w w59 := Ext.trans hb53 hE60
  have hL63 : w.heap.size ≤ w59.heap.size := Nat.le_trans hL54 hE60.size
  have hS64 : SH w59 w.heap.size [aBox 56 b2 [.string (bs g_0.Name), .int .i64 g_0.OnHand, .int .i64 g_0.Reserved, .int .i64 g_0.Least]] := SH.ext hS55 hE60
  refine WL.runk 2 [1, 11] [(1, .pointer (some ⟨b2, 0, none⟩)), (11, .bool x57)] (by kernel_rfl) ?_
  refine WL.case x57 [11] ⟨rfl, trivial⟩ (fun hc65 => ?_) (fun hc65 => ?_)
  rotate_left
  · have hm := iteF hm hc65
    refine WL.runk 12 [2] [(2, .bool false)] (by kernel_rfl) ?_
    refine WL.nil ?_
    obtain rfl := Option.some.inj hm
    exact WQ.post' ⟨rfl, hb62, hL63, hS64⟩ ⟨rfl, trivial⟩
  have hm := iteT hm hc65
  refine WL.runk 1 [1, 11, 12] [(1, .pointer (some ⟨b2, 0, none⟩)), (11, .bool true), (12, .pointer (some ⟨b2, 2, none⟩))] (by kernel_rfl) ?_
  refine WL.st (.int .i64 g_0.Reserved) (ST.load (cell_ext (SH.boxAt (SH.front 0 hS64) 2 _ rfl)) rfl rfl Try.underlying2 rfl) rfl rfl rfl ?_
  refine WL.runk 1 [1, 11, 13, 14] [(1, .pointer (some ⟨b2, 0, none⟩)), (11, .bool true), (13, .int .i64 g_0.Reserved), (14, .pointer (some ⟨b2, 1, none⟩))] (by kernel_rfl) ?_
  refine WL.st (.int .i64 g_0.OnHand) (ST.load (cell_ext (SH.boxAt (SH.front 0 hS64) 1 _ rfl)) rfl rfl Try.underlying2 rfl) rfl rfl rfl ?_
  obtain ⟨x66, hx67, hm⟩ := bindE hm
  refine WL.call 67 #[.int .i64 g_0.Reserved, .int .i64 0, .int .i64 g_0.OnHand] rfl rfl (by kernel_rfl) (c_67 n g_0.Reserved 0 g_0.OnHand w59 hx67 ) ?_
  rintro _ w68 ⟨rfl, hE69⟩
  refine ⟨_, rfl, ?_⟩
  have hb71 : Ext w w68 := Ext.trans hb62 hE69
  have hL72 : w.heap.size ≤ w68.heap.size := Nat.le_trans hL63 hE69.size
  have hS73 : SH w68 w.heap.size [aBox 56 b2 [.string (bs g_0.Name), .int .i64 g_0.OnHand, .int .i64 g_0.Reserved, .int .i64 g_0.Least]] := SH.ext hS64 hE69
  refine WL.runk 2 [1, 18] [(1, .pointer (some ⟨b2, 0, none⟩)), (18, .bool x66)] (by kernel_rfl) ?_
  refine WL.case x66 [18] ⟨rfl, trivial⟩ (fun hc74 => ?_) (fun hc74 => ?_)
  rotate_left
  · have hm := iteF hm hc74
    refine WL.runk 5 [2] [(2, .bool false)] (by kernel_rfl) ?_
    refine WL.nil ?_
    obtain rfl := Option.some.inj hm
    exact WQ.post' ⟨rfl, hb71, hL72, hS73⟩ ⟨rfl, trivial⟩
  have hm := iteT hm hc74
  refine WL.runk 1 [18, 19] [(18, .bool true), (19, .pointer (some ⟨b2, 3, none⟩))] (by kernel_rfl) ?_
  refine WL.st (.int .i64 g_0.Least) (ST.load (cell_ext (SH.boxAt (SH.front 0 hS73) 3 _ rfl)) rfl rfl Try.underlying2 rfl) rfl rfl rfl ?_
  obtain ⟨x75, hx76, hm⟩ := bindE hm
  refine WL.call 67 #[.int .i64 g_0.Least, .int .i64 0, .int .i64 1000000] rfl rfl (by kernel_rfl) (c_67 n g_0.Least 0 1000000 w68 hx76 ) ?_
  rintro _ w77 ⟨rfl, hE78⟩
  refine ⟨_, rfl, ?_⟩
  have hb80 : Ext w w77 := Ext.trans hb71 hE78
  have hL81 : w.heap.size ≤ w77.heap.size := Nat.le_trans hL72 hE78.size
  have hS82 : SH w77 w.heap.size [aBox 56 b2 [.string (bs g_0.Name), .int .i64 g_0.OnHand, .int .i64 g_0.Reserved, .int .i64 g_0.Least]] := SH.ext hS73 hE78
  refine WL.runk 2 [2] [(2, .bool x75)] (by kernel_rfl) ?_
  refine WL.nil ?_
  obtain rfl := Option.some.inj hm
  exact WQ.post' ⟨rfl, hb80, hL81, hS82⟩ ⟨rfl, trivial⟩

theorem c_19 (n : Nat) (list_0 : List SGood) (a0' : Option Addr) (c0' : Nat) (w : World) {r : Bool} (hm : m_impl_ValidGoods n list_0 = some r) (h0 : Rd fGood.ty w a0' list_0) (_hle0 : list_0.length ≤ c0') :
    CallV Try.prog 19 #[.slice a0' list_0.length c0'] w (fun v w' => v = .bool r ∧ Ext w w') := by
  unfold m_impl_ValidGoods at hm
  refine CallV.enter Try.func19 rfl (by kernel_rfl) Try.ntmps19 (env := [(0, .slice a0' list_0.length c0')]) ⟨rfl, trivial⟩ ?_
  refine WP.seq (fun K1 hK1 => ?_)
  refine WP.region ?_
  refine WL.runk 1 [0] [(0, .slice a0' list_0.length c0')] (by kernel_rfl) ?_
  refine WL.nil ?_
  refine WQ.then_normal (hK1 _ _ _ ?_)
  refine WP.seq (fun K2 hK2 => ?_)
  refine WP.seq (fun K3 hK3 => ?_)
  refine WP.region ?_
  refine WL.runk 3 [0, 5, 6, 7] [(0, .slice a0' list_0.length c0'), (5, .slice a0' list_0.length c0'), (6, .int .i64 (list_0.length : Int)), (7, .int .i64 0)] (by kernel_rfl) ?_
  refine WL.nil ?_
  refine WQ.then_normal (hK3 _ _ _ ?_)
  refine WP.block ?_
  obtain ⟨t15, ht16, hm⟩ := bindE hm
  have hmo10 := hm; clear hm
  refine WP.sub [(0, .slice a0' list_0.length c0'), (5, .slice a0' list_0.length c0'), (6, .int .i64 (list_0.length : Int)), (7, .int .i64 0)] ⟨rfl, rfl, rfl, rfl, trivial⟩ ?_
  refine WP.loop (fun n' env' w' => ∃ (st4 : Int) , env' = [(0, .slice a0' list_0.length c0'), (5, .slice a0' list_0.length c0'), (6, .int .i64 (list_0.length : Int)), (7, .int .i64 st4)] ∧ Ext w w' ∧ w.heap.size ≤ w'.heap.size ∧ SH w' w.heap.size [] ∧ loopN (m_impl_ValidGoods_l1 n list_0) n' st4 = some t15) n ⟨0, rfl, (Ext.refl w), (Nat.le_refl _), (SH.nil _ _), ht16⟩ ?_
  rintro n12 _ w5 ⟨st4, rfl, hb6, hL7, hS8, hl9⟩ K11 hK11
  obtain ⟨n13, s14, rfl, hm, hl9⟩ := loopN_some hl9
  unfold m_impl_ValidGoods_l1 at hm
  refine WP.seq (fun K17 hK17 => ?_)
  refine WP.region ?_
  refine WL.runk 1 [0, 5, 6, 7, 8] [(0, .slice a0' list_0.length c0'), (5, .slice a0' list_0.length c0'), (6, .int .i64 (list_0.length : Int)), (7, .int .i64 st4), (8, .bool (decide (st4 < (list_0.length : Int))))] (by kernel_rfl) ?_
  refine WL.nil ?_
  refine WQ.then_normal (hK17 _ _ _ ?_)
  refine WP.seq (fun K18 hK18 => ?_)
  refine WP.cond (decide (st4 < (list_0.length : Int))) rfl rfl (fun hc19 => ?_) (fun hc19 => ?_)
  rotate_left
  · have hm := iteF hm hc19
    refine WP.exit ?_
    refine WQ.then_exit ?_
    refine WQ.then_exit ?_
    refine WQ.block_here ?_
    obtain rfl := Option.some.inj hm
    obtain rfl := afterN_done hl9
    have hm := hmo10
    refine WQ.then_normal (hK2 _ _ _ ?_)
    refine WP.seq (fun K92 hK92 => ?_)
    refine WP.region ?_
    refine WL.runk 4 [2] [(2, .bool (decide ((list_0.length : Int) ≤ 40)))] (by kernel_rfl) ?_
    refine WL.nil ?_
    refine WQ.then_normal (hK92 _ _ _ ?_)
    refine WP.ret ?_
    obtain rfl := Option.some.inj hm
    exact WQ.ret1 _ rfl rfl ⟨rfl, hb6⟩
  have hm := iteT hm hc19
  refine WP.skip ?_
  refine WQ.then_normal (hK18 _ _ _ ?_)
  refine WP.seq (fun K20 hK20 => ?_)
  refine WP.block ?_
  refine WP.seq (fun K21 hK21 => ?_)
  refine WP.region ?_
  refine WL.runk 1 [0, 5, 6, 7, 9] [(0, .slice a0' list_0.length c0'), (5, .slice a0' list_0.length c0'), (6, .int .i64 (list_0.length : Int)), (7, .int .i64 st4), (9, .int .i64 st4)] (by kernel_rfl) ?_
  obtain ⟨x22, hx23, hm⟩ := bindE hm
  refine WL.st (.pointer (some (at_ a0' (Int.toNat st4 * 4)))) (ST.index (T := fGood.ty) (xs := list_0) (Rd.below h0 hb6) hx23 rfl rfl rfl Try.underlying25 (info56).1 (info56).2.1) rfl rfl rfl ?_
  refine WL.st (.agg #[.string (bs x22.Name), .int .i64 x22.OnHand, .int .i64 x22.Reserved, .int .i64 x22.Least]) (ST.loadAgg (vs := fGood.leaf x22) (fun j v hv => Rd.flatA (F := fGood) (Rd.below h0 hb6) hx23 j hv) rfl rfl rfl Try.underlying56 rfl (info56).1 (info56).2.1) rfl rfl rfl ?_
  refine WL.box 56 [.string (bs []), .int .i64 0, .int .i64 0, .int .i64 0] 4 (by kernel_rfl) rfl rfl rfl rfl ?_
  intro b24 w25 hE26 hR27
  have hb29 : Ext w w25 := Ext.trans hb6 hE26
  have hL30 : w.heap.size ≤ w25.heap.size := Nat.le_trans hL7 hE26.size
  have hS31 : SH w25 w.heap.size [aBox 56 b24 [.string (bs []), .int .i64 0, .int .i64 0, .int .i64 0]] := SH.add hS8 hE26 hL7 hR27
  refine WL.runk 1 [0, 3, 4, 5, 6, 7, 11] [(0, .slice a0' list_0.length c0'), (5, .slice a0' list_0.length c0'), (6, .int .i64 (list_0.length : Int)), (7, .int .i64 st4), (11, .agg #[.string (bs x22.Name), .int .i64 x22.OnHand, .int .i64 x22.Reserved, .int .i64 x22.Least]), (4, .pointer (some ⟨b24, 0, none⟩)), (3, .int .i64 st4)] (by kernel_rfl) ?_
  refine WL.boxStore 0 [.string (bs x22.Name), .int .i64 x22.OnHand, .int .i64 x22.Reserved, .int .i64 x22.Least] [.string (bs x22.Name), .int .i64 x22.OnHand, .int .i64 x22.Reserved, .int .i64 x22.Least] (SH.front 0 hS31) hL30 rfl rfl rfl rfl rfl rfl rfl (info56).1 (info56).2.1 rfl rfl rfl ?_
  intro w32 hB33 hS34
  have hb35 : Ext w w32 := Below.trans hb29 hB33
  have hL36 : w.heap.size ≤ w32.heap.size := Nat.le_trans hL30 hB33.size
  refine WL.sub [(0, .slice a0' list_0.length c0'), (5, .slice a0' list_0.length c0'), (6, .int .i64 (list_0.length : Int)), (7, .int .i64 st4), (4, .pointer (some ⟨b24, 0, none⟩)), (3, .int .i64 st4)] ⟨rfl, rfl, rfl, rfl, rfl, rfl, trivial⟩ ?_
  refine WL.nil ?_
  refine WQ.then_normal (hK21 _ _ _ ?_)
  refine WP.seq (fun K37 hK37 => ?_)
  obtain ⟨x61, hx62, hm⟩ := bindE hm
  refine WP.cut (fun env' w' => env' = [(0, .slice a0' list_0.length c0'), (5, .slice a0' list_0.length c0'), (6, .int .i64 (list_0.length : Int)), (7, .int .i64 st4), (29, .bool x61)] ∧ Ext w w' ∧ w.heap.size ≤ w'.heap.size ∧ SH w' w.heap.size [aBox 56 b24 [.string (bs x22.Name), .int .i64 x22.OnHand, .int .i64 x22.Reserved, .int .i64 x22.Least]]) ?_ ?_
  rotate_left
  · clear hx62
    rintro _ w86 ⟨rfl, hb87, hL88, hS89⟩
    refine WQ.then_normal (hK37 _ _ _ ?_)
    refine WP.cond x61 rfl rfl (fun hc90 => ?_) (fun hc90 => ?_)
    rotate_left
    · have hm := iteF hm hc90
      refine WP.skip ?_
      refine WQ.block_normal ?_
      refine WQ.then_normal (hK20 _ _ _ ?_)
      refine WP.region ?_
      refine WL.runk 2 [0, 5, 6, 7] [(0, .slice a0' list_0.length c0'), (5, .slice a0' list_0.length c0'), (6, .int .i64 (list_0.length : Int)), (7, .int .i64 (wI64 (st4 + 1)))] (by kernel_rfl) ?_
      refine WL.nil ?_
      obtain rfl := Option.some.inj hm
      exact WQ.round hK11 ⟨(wI64 (st4 + 1)), rfl, hb87, hL88, (SH.take 0 hS89), hl9⟩ (Nat.lt_succ_self _) ⟨rfl, rfl, rfl, rfl, trivial⟩
    have hm := iteT hm hc90
    refine WP.seq (fun K91 hK91 => ?_)
    refine WP.region ?_
    refine WL.runk 1 [2] [(2, .bool false)] (by kernel_rfl) ?_
    refine WL.nil ?_
    refine WQ.then_normal (hK91 _ _ _ ?_)
    refine WP.ret ?_
    refine WQ.block_ret ?_
    refine WQ.then_ret ?_
    refine WQ.then_ret ?_
    refine WQ.block_ret ?_
    refine WQ.then_ret ?_
    obtain rfl := Option.some.inj hm
    obtain rfl := afterN_done hl9
    have hm := hmo10
    obtain rfl := Option.some.inj hm
    exact WQ.ret1 _ rfl rfl ⟨rfl, hb87⟩
  have hm := hx62; clear hx62
  refine WP.quiet (by kernel_rfl) (by kernel_rfl) ?_
  refine QL.st (.agg #[.string (bs x22.Name), .int .i64 x22.OnHand, .int .i64 x22.Reserved, .int .i64 x22.Least]) (ST.loadAgg (vs := [.string (bs x22.Name), .int .i64 x22.OnHand, .int .i64 x22.Reserved, .int .i64 x22.Least]) (fun j v hv => SH.boxPart (us := [.string (bs x22.Name), .int .i64 x22.OnHand, .int .i64 x22.Reserved, .int .i64 x22.Least]) (SH.front 0 hS34) 0 rfl j v hv) rfl rfl rfl Try.underlying56 rfl (info56).1 (info56).2.1) rfl rfl rfl ?_
  obtain ⟨x63, hx64, hm⟩ := bindE hm
  refine QL.call 53 #[.agg #[.string (bs x22.Name), .int .i64 x22.OnHand, .int .i64 x22.Reserved, .int .i64 x22.Least]] (.bool x63) (fun _ => by kernel_rfl) (fun w65 hE66 => c_53 n x22 w65 hx64 ) rfl rfl rfl ?_
  refine QL.step1v 14 (.bool (!x63)) rfl (fun _ => by kernel_rfl) ?_
  refine QL.step1v 15 (.bool (!x63)) rfl (fun _ => by kernel_rfl) ?_
  refine QL.subk [0, 5, 6, 7, 4, 3, 15] [(0, .slice a0' list_0.length c0'), (5, .slice a0' list_0.length c0'), (6, .int .i64 (list_0.length : Int)), (7, .int .i64 st4), (4, .pointer (some ⟨b24, 0, none⟩)), (3, .int .i64 st4), (15, .bool (!x63))] (by kernel_rfl) ?_
  refine QL.case (!x63) [15] ⟨rfl, trivial⟩ (fun hc67 => ?_) (fun hc67 => ?_)
  · have hm := iteT hm hc67
    refine QL.step1v 16 undef rfl (fun _ => by kernel_rfl) ?_
    refine QL.step1v 17 undef rfl (fun _ => by kernel_rfl) ?_
    refine QL.step1v 18 undef rfl (fun _ => by kernel_rfl) ?_
    refine QL.step1v 19 undef rfl (fun _ => by kernel_rfl) ?_
    refine QL.step1v 20 undef rfl (fun _ => by kernel_rfl) ?_
    refine QL.step1v 21 undef rfl (fun _ => by kernel_rfl) ?_
    refine QL.step1v 22 undef rfl (fun _ => by kernel_rfl) ?_
    refine QL.step1v 23 undef rfl (fun _ => by kernel_rfl) ?_
    refine QL.step1v 24 undef rfl (fun _ => by kernel_rfl) ?_
    refine QL.step1v 25 undef rfl (fun _ => by kernel_rfl) ?_
    refine QL.step1v 26 undef rfl (fun _ => by kernel_rfl) ?_
    refine QL.step1v 27 undef rfl (fun _ => by kernel_rfl) ?_
    refine QL.step1v 28 undef rfl (fun _ => by kernel_rfl) ?_
    refine QL.step1v 29 (.bool true) rfl (fun _ => by kernel_rfl) ?_
    refine QL.subk [0, 5, 6, 7, 29] [(0, .slice a0' list_0.length c0'), (5, .slice a0' list_0.length c0'), (6, .int .i64 (list_0.length : Int)), (7, .int .i64 st4), (29, .bool true)] (by kernel_rfl) ?_
    refine QL.nil ?_
    intro w68 hE69
    have hb70 : Ext w w68 := Ext.trans hb35 hE69
    have hL71 : w.heap.size ≤ w68.heap.size := Nat.le_trans hL36 hE69.size
    have hS72 : SH w68 w.heap.size [aBox 56 b24 [.string (bs x22.Name), .int .i64 x22.OnHand, .int .i64 x22.Reserved, .int .i64 x22.Least]] := SH.ext hS34 hE69
    obtain rfl := Option.some.inj hm
    exact WQ.post' ⟨rfl, hb70, hL71, hS72⟩ ⟨rfl, rfl, rfl, rfl, rfl, trivial⟩
  have hm := iteF hm hc67
  refine QL.step1v 16 (.int .i64 st4) rfl (fun _ => by kernel_rfl) ?_
  refine QL.step1v 17 (.bool (decide (st4 > 0))) rfl (fun _ => by kernel_rfl) ?_
  refine QL.step1v 18 (.bool (decide (st4 > 0))) rfl (fun _ => by kernel_rfl) ?_
  refine QL.subk [0, 5, 6, 7, 4, 3, 15, 18] [(0, .slice a0' list_0.length c0'), (5, .slice a0' list_0.length c0'), (6, .int .i64 (list_0.length : Int)), (7, .int .i64 st4), (4, .pointer (some ⟨b24, 0, none⟩)), (3, .int .i64 st4), (15, .bool false), (18, .bool (decide (st4 > 0)))] (by kernel_rfl) ?_
  refine QL.case (decide (st4 > 0)) [18] ⟨rfl, trivial⟩ (fun hc73 => ?_) (fun hc73 => ?_)
  rotate_left
  · have hm := iteF hm hc73
    refine QL.step1v 19 undef rfl (fun _ => by kernel_rfl) ?_
    refine QL.step1v 20 undef rfl (fun _ => by kernel_rfl) ?_
    refine QL.step1v 21 undef rfl (fun _ => by kernel_rfl) ?_
    refine QL.step1v 22 undef rfl (fun _ => by kernel_rfl) ?_
    refine QL.step1v 23 undef rfl (fun _ => by kernel_rfl) ?_
    refine QL.step1v 24 undef rfl (fun _ => by kernel_rfl) ?_
    refine QL.step1v 25 undef rfl (fun _ => by kernel_rfl) ?_
    refine QL.step1v 26 undef rfl (fun _ => by kernel_rfl) ?_
    refine QL.step1v 27 undef rfl (fun _ => by kernel_rfl) ?_
    refine QL.step1v 28 (.bool false) rfl (fun _ => by kernel_rfl) ?_
    refine QL.step1v 29 (.bool false) rfl (fun _ => by kernel_rfl) ?_
    refine QL.subk [0, 5, 6, 7, 29] [(0, .slice a0' list_0.length c0'), (5, .slice a0' list_0.length c0'), (6, .int .i64 (list_0.length : Int)), (7, .int .i64 st4), (29, .bool false)] (by kernel_rfl) ?_
    refine QL.nil ?_
    intro w81 hE82
    have hb83 : Ext w w81 := Ext.trans hb35 hE82
    have hL84 : w.heap.size ≤ w81.heap.size := Nat.le_trans hL36 hE82.size
    have hS85 : SH w81 w.heap.size [aBox 56 b24 [.string (bs x22.Name), .int .i64 x22.OnHand, .int .i64 x22.Reserved, .int .i64 x22.Least]] := SH.ext hS34 hE82
    obtain rfl := Option.some.inj hm
    exact WQ.post' ⟨rfl, hb83, hL84, hS85⟩ ⟨rfl, rfl, rfl, rfl, rfl, trivial⟩
  have hm := iteT hm hc73
  refine QL.step1v 19 (.slice a0' list_0.length c0') rfl (fun _ => by kernel_rfl) ?_
  refine QL.step1v 20 (.int .i64 st4) rfl (fun _ => by kernel_rfl) ?_
  refine QL.step1v 21 (.int .i64 (wI64 (st4 - 1))) rfl (fun _ => by kernel_rfl) ?_
  refine QL.subk [0, 5, 6, 7, 4, 15, 18, 19, 21] [(0, .slice a0' list_0.length c0'), (5, .slice a0' list_0.length c0'), (6, .int .i64 (list_0.length : Int)), (7, .int .i64 st4), (4, .pointer (some ⟨b24, 0, none⟩)), (15, .bool false), (18, .bool true), (19, .slice a0' list_0.length c0'), (21, .int .i64 (wI64 (st4 - 1)))] (by kernel_rfl) ?_
  obtain ⟨x74, hx75, hm⟩ := bindE hm
  refine QL.st (.pointer (some (at_ a0' (Int.toNat (wI64 (st4 - 1)) * 4)))) (ST.index (T := fGood.ty) (xs := list_0) (Rd.below h0 hb35) hx75 rfl rfl rfl Try.underlying25 (info56).1 (info56).2.1) rfl rfl rfl ?_
  refine QL.step1v 23 (.pointer (some (at_ a0' (Int.toNat (wI64 (st4 - 1)) * 4)))) rfl (fun _ => by kernel_rfl) ?_
  refine QL.subk [0, 5, 6, 7, 4, 15, 18, 23] [(0, .slice a0' list_0.length c0'), (5, .slice a0' list_0.length c0'), (6, .int .i64 (list_0.length : Int)), (7, .int .i64 st4), (4, .pointer (some ⟨b24, 0, none⟩)), (15, .bool false), (18, .bool true), (23, .pointer (some (at_ a0' (Int.toNat (wI64 (st4 - 1)) * 4))))] (by kernel_rfl) ?_
  refine QL.st (.string (bs x74.Name)) (ST.load (cell_ext (Rd.flat (F := fGood) (Rd.below h0 hb35) hx75 0 rfl)) rfl rfl Try.underlying9 rfl) rfl rfl rfl ?_
  refine QL.step1v 25 (.pointer (some ⟨b24, 0, none⟩)) rfl (fun _ => by kernel_rfl) ?_
  refine QL.subk [0, 5, 6, 7, 15, 18, 24, 25] [(0, .slice a0' list_0.length c0'), (5, .slice a0' list_0.length c0'), (6, .int .i64 (list_0.length : Int)), (7, .int .i64 st4), (15, .bool false), (18, .bool true), (24, .string (bs x74.Name)), (25, .pointer (some ⟨b24, 0, none⟩))] (by kernel_rfl) ?_
  refine QL.st (.string (bs x22.Name)) (ST.load (cell_ext (SH.boxAt (SH.front 0 hS34) 0 _ rfl)) rfl rfl Try.underlying9 rfl) rfl rfl rfl ?_
  refine QL.st (.bool (!strLt x74.Name x22.Name)) (ST.strge (x := x74.Name) (y := x22.Name) rfl rfl rfl) rfl rfl rfl ?_
  refine QL.step1v 28 (.bool (!strLt x74.Name x22.Name)) rfl (fun _ => by kernel_rfl) ?_
  refine QL.step1v 29 (.bool (!strLt x74.Name x22.Name)) rfl (fun _ => by kernel_rfl) ?_
  refine QL.subk [0, 5, 6, 7, 29] [(0, .slice a0' list_0.length c0'), (5, .slice a0' list_0.length c0'), (6, .int .i64 (list_0.length : Int)), (7, .int .i64 st4), (29, .bool (!strLt x74.Name x22.Name))] (by kernel_rfl) ?_
  refine QL.nil ?_
  intro w76 hE77
  have hb78 : Ext w w76 := Ext.trans hb35 hE77
  have hL79 : w.heap.size ≤ w76.heap.size := Nat.le_trans hL36 hE77.size
  have hS80 : SH w76 w.heap.size [aBox 56 b24 [.string (bs x22.Name), .int .i64 x22.OnHand, .int .i64 x22.Reserved, .int .i64 x22.Least]] := SH.ext hS34 hE77
  obtain rfl := Option.some.inj hm
  exact WQ.post' ⟨rfl, hb78, hL79, hS80⟩ ⟨rfl, rfl, rfl, rfl, rfl, trivial⟩

theorem c_20 (n : Nat) (list_0 : List SGood) (a0' : Option Addr) (c0' : Nat) (w : World) {r : List STake × Int} (hm : m_spec_ShortGoods n list_0 = some r) (h0 : Rd fGood.ty w a0' list_0) (hle0 : list_0.length ≤ c0') :
    CallV Try.prog 20 #[.slice a0' list_0.length c0'] w (fun v w' => ∃ (ra0 : Option Addr) (rc0 : Nat), v = .tuple #[.slice ra0 r.1.length rc0, .int .i64 r.2] ∧ Ext w w' ∧ SH w' w.heap.size [aOwn fTake 43 ra0 rc0 r.1]) := by
  unfold m_spec_ShortGoods at hm
  refine CallV.enter Try.func20 rfl (by kernel_rfl) Try.ntmps20 (env := [(0, .slice a0' list_0.length c0')]) ⟨rfl, trivial⟩ ?_
  refine WP.seq (fun K1 hK1 => ?_)
  refine WP.region ?_
  refine WL.runk 2 [0] [(0, .slice a0' list_0.length c0')] (by kernel_rfl) ?_
  refine WL.nil ?_
  refine WQ.then_normal (hK1 _ _ _ ?_)
  refine WP.seq (fun K2 hK2 => ?_)
  refine WP.seq (fun K3 hK3 => ?_)
  refine WP.region ?_
  refine WL.runk 1 [0, 7] [(0, .slice a0' list_0.length c0'), (7, .slice a0' list_0.length c0')] (by kernel_rfl) ?_
  obtain ⟨x4, hx5, hm⟩ := bindE hm
  refine WL.call 52 #[.slice a0' list_0.length c0'] rfl rfl (by kernel_rfl) (c_52 n list_0 a0' c0' w hx5 (Rd.below h0 (Ext.refl w)) hle0) ?_
  rintro _ w6 ⟨rfl, hE7⟩
  refine ⟨_, rfl, ?_⟩
  have hb9 : Ext w w6 := Ext.trans (Ext.refl w) hE7
  have hL10 : w.heap.size ≤ w6.heap.size := Nat.le_trans (Nat.le_refl _) hE7.size
  have hS11 : SH w6 w.heap.size [] := SH.ext (SH.nil _ _) hE7
  refine WL.runk 1 [0, 9] [(0, .slice a0' list_0.length c0'), (9, .bool (!x4))] (by kernel_rfl) ?_
  refine WL.nil ?_
  refine WQ.then_normal (hK3 _ _ _ ?_)
  refine WP.cond (!x4) rfl rfl (fun hc12 => ?_) (fun hc12 => ?_)
  · have hm := iteT hm hc12
    refine WP.seq (fun K13 hK13 => ?_)
    refine WP.region ?_
    refine WL.runk 2 [2, 3] [(2, .slice none 0 0), (3, .int .i64 1)] (by kernel_rfl) ?_
    refine WL.nil ?_
    refine WQ.then_normal (hK13 _ _ _ ?_)
    refine WP.ret ?_
    refine WQ.then_ret ?_
    obtain rfl := Option.some.inj hm
    have hS15 : SH w6 w.heap.size [aOwn fTake 43 none 0 ([] : List STake)] := SH.nilOwn hS11
    exact WQ.ret2 _ _ rfl rfl rfl ⟨_, _, rfl, hb9, hS15⟩
  have hm := iteF hm hc12
  refine WP.skip ?_
  refine WQ.then_normal (hK2 _ _ _ ?_)
  refine WP.seq (fun K16 hK16 => ?_)
  refine WP.region ?_
  refine WL.row fTake 43 ([] : List STake) 0 #[] 10 (by kernel_rfl) rfl rfl rfl rfl rfl rfl rfl ?_
  intro a17 c18 w19 hE20 hR21
  have hb23 : Ext w w19 := Ext.trans hb9 hE20
  have hL24 : w.heap.size ≤ w19.heap.size := Nat.le_trans hL10 hE20.size
  have hS25 : SH w19 w.heap.size [aOwn fTake 43 a17 c18 ([] : List STake)] := SH.add hS11 hE20 hL10 hR21
  refine WL.runk 1 [0, 4] [(0, .slice a0' list_0.length c0'), (4, .slice a17 (([] : List STake).length) c18)] (by kernel_rfl) ?_
  refine WL.nil ?_
  refine WQ.then_normal (hK16 _ _ _ ?_)
  refine WP.seq (fun K26 hK26 => ?_)
  refine WP.seq (fun K27 hK27 => ?_)
  refine WP.region ?_
  refine WL.runk 1 [0, 4, 5] [(0, .slice a0' list_0.length c0'), (4, .slice a17 (([] : List STake).length) c18), (5, .int .i64 0)] (by kernel_rfl) ?_
  refine WL.nil ?_
  refine WQ.then_normal (hK27 _ _ _ ?_)
  refine WP.block ?_
  obtain ⟨t42, ht43, hm⟩ := bindE hm
  have hmo37 := hm; clear hm
  refine WP.sub [(0, .slice a0' list_0.length c0'), (4, .slice a17 (([] : List STake).length) c18), (5, .int .i64 0)] ⟨rfl, rfl, rfl, trivial⟩ ?_
  refine WP.loop (fun n' env' w' => ∃ (st28 : List STake × Int) (a29 : Option Addr) (c30 : Nat), env' = [(0, .slice a0' list_0.length c0'), (4, .slice a29 st28.1.length c30), (5, .int .i64 st28.2)] ∧ Ext w w' ∧ w.heap.size ≤ w'.heap.size ∧ SH w' w.heap.size [aOwn fTake 43 a29 c30 st28.1] ∧ loopN (m_spec_ShortGoods_l1 n list_0) n' st28 = some t42) n ⟨(([] : List STake), 0), _, _, rfl, hb23, hL24, hS25, ht43⟩ ?_
  rintro n39 _ w32 ⟨st28, a29, c30, rfl, hb33, hL34, hS35, hl36⟩ K38 hK38
  obtain ⟨n40, s41, rfl, hm, hl36⟩ := loopN_some hl36
  unfold m_spec_ShortGoods_l1 at hm
  refine WP.seq (fun K44 hK44 => ?_)
  refine WP.seq (fun K45 hK45 => ?_)
  refine WP.region ?_
  refine WL.runk 4 [0, 4, 5, 14] [(0, .slice a0' list_0.length c0'), (4, .slice a29 st28.1.length c30), (5, .int .i64 st28.2), (14, .bool (decide (st28.2 < (list_0.length : Int))))] (by kernel_rfl) ?_
  refine WL.nil ?_
  refine WQ.then_normal (hK45 _ _ _ ?_)
  refine WP.cond (decide (st28.2 < (list_0.length : Int))) rfl rfl (fun hc46 => ?_) (fun hc46 => ?_)
  rotate_left
  · have hm := iteF hm hc46
    refine WP.exit ?_
    refine WQ.then_exit ?_
    refine WQ.then_exit ?_
    refine WQ.block_here ?_
    obtain rfl := Option.some.inj hm
    obtain rfl := afterN_done hl36
    have hm := hmo37
    refine WQ.then_normal (hK26 _ _ _ ?_)
    refine WP.seq (fun K135 hK135 => ?_)
    refine WP.region ?_
    refine WL.runk 3 [2, 3] [(2, .slice a29 st28.1.length c30), (3, .int .i64 0)] (by kernel_rfl) ?_
    refine WL.nil ?_
    refine WQ.then_normal (hK135 _ _ _ ?_)
    refine WP.ret ?_
    obtain rfl := Option.some.inj hm
    exact WQ.ret2 _ _ rfl rfl rfl ⟨_, _, rfl, hb33, hS35⟩
  have hm := iteT hm hc46
  refine WP.skip ?_
  refine WQ.then_normal (hK44 _ _ _ ?_)
  refine WP.seq (fun K47 hK47 => ?_)
  refine WP.block ?_
  refine WP.seq (fun K48 hK48 => ?_)
  refine WP.quiet (by kernel_rfl) (by kernel_rfl) ?_
  refine QL.step1v 17 (.slice a0' list_0.length c0') rfl (fun _ => by kernel_rfl) ?_
  refine QL.step1v 18 (.int .i64 st28.2) rfl (fun _ => by kernel_rfl) ?_
  refine QL.subk [0, 4, 5, 17, 18] [(0, .slice a0' list_0.length c0'), (4, .slice a29 st28.1.length c30), (5, .int .i64 st28.2), (17, .slice a0' list_0.length c0'), (18, .int .i64 st28.2)] (by kernel_rfl) ?_
  obtain ⟨x49, hx50, hm⟩ := bindE hm
  refine QL.st (.pointer (some (at_ a0' (Int.toNat st28.2 * 4)))) (ST.index (T := fGood.ty) (xs := list_0) (Rd.below h0 hb33) hx50 rfl rfl rfl Try.underlying25 (info56).1 (info56).2.1) rfl rfl rfl ?_
  refine QL.step1v 20 (.pointer (some (at_ a0' (Int.toNat st28.2 * 4 + 1)))) rfl (fun _ => by kernel_rfl) ?_
  refine QL.subk [0, 4, 5, 20] [(0, .slice a0' list_0.length c0'), (4, .slice a29 st28.1.length c30), (5, .int .i64 st28.2), (20, .pointer (some (at_ a0' (Int.toNat st28.2 * 4 + 1))))] (by kernel_rfl) ?_
  refine QL.st (.int .i64 x49.OnHand) (ST.load (cell_ext (Rd.flat (F := fGood) (Rd.below h0 hb33) hx50 1 rfl)) rfl rfl Try.underlying2 rfl) rfl rfl rfl ?_
  refine QL.step1v 22 (.slice a0' list_0.length c0') rfl (fun _ => by kernel_rfl) ?_
  refine QL.step1v 23 (.int .i64 st28.2) rfl (fun _ => by kernel_rfl) ?_
  refine QL.subk [0, 4, 5, 21, 22, 23] [(0, .slice a0' list_0.length c0'), (4, .slice a29 st28.1.length c30), (5, .int .i64 st28.2), (21, .int .i64 x49.OnHand), (22, .slice a0' list_0.length c0'), (23, .int .i64 st28.2)] (by kernel_rfl) ?_
  obtain ⟨x51, hx52, hm⟩ := bindE hm
  refine QL.st (.pointer (some (at_ a0' (Int.toNat st28.2 * 4)))) (ST.index (T := fGood.ty) (xs := list_0) (Rd.below h0 hb33) hx52 rfl rfl rfl Try.underlying25 (info56).1 (info56).2.1) rfl rfl rfl ?_
  refine QL.step1v 25 (.pointer (some (at_ a0' (Int.toNat st28.2 * 4 + 2)))) rfl (fun _ => by kernel_rfl) ?_
  refine QL.subk [0, 4, 5, 21, 25] [(0, .slice a0' list_0.length c0'), (4, .slice a29 st28.1.length c30), (5, .int .i64 st28.2), (21, .int .i64 x49.OnHand), (25, .pointer (some (at_ a0' (Int.toNat st28.2 * 4 + 2))))] (by kernel_rfl) ?_
  refine QL.st (.int .i64 x51.Reserved) (ST.load (cell_ext (Rd.flat (F := fGood) (Rd.below h0 hb33) hx52 2 rfl)) rfl rfl Try.underlying2 rfl) rfl rfl rfl ?_
  refine QL.step1v 27 (.int .i64 (wI64 (x49.OnHand - x51.Reserved))) rfl (fun _ => by kernel_rfl) ?_
  refine QL.step1v 6 (.int .i64 (wI64 (x49.OnHand - x51.Reserved))) rfl (fun _ => by kernel_rfl) ?_
  refine QL.subk [0, 4, 5, 6] [(0, .slice a0' list_0.length c0'), (4, .slice a29 st28.1.length c30), (5, .int .i64 st28.2), (6, .int .i64 (wI64 (x49.OnHand - x51.Reserved)))] (by kernel_rfl) ?_
  refine QL.nil ?_
  intro w53 hE54
  have hb55 : Ext w w53 := Ext.trans hb33 hE54
  have hL56 : w.heap.size ≤ w53.heap.size := Nat.le_trans hL34 hE54.size
  have hS57 : SH w53 w.heap.size [aOwn fTake 43 a29 c30 st28.1] := SH.ext hS35 hE54
  refine WQ.then_normal (hK48 _ _ _ ?_)
  refine WP.seq (fun K58 hK58 => ?_)
  refine WP.region ?_
  refine WL.runk 3 [0, 4, 5, 6, 28, 29, 30] [(0, .slice a0' list_0.length c0'), (4, .slice a29 st28.1.length c30), (5, .int .i64 st28.2), (6, .int .i64 (wI64 (x49.OnHand - x51.Reserved))), (28, .int .i64 (wI64 (x49.OnHand - x51.Reserved))), (29, .slice a0' list_0.length c0'), (30, .int .i64 st28.2)] (by kernel_rfl) ?_
  obtain ⟨x59, hx60, hm⟩ := bindE hm
  refine WL.st (.pointer (some (at_ a0' (Int.toNat st28.2 * 4)))) (ST.index (T := fGood.ty) (xs := list_0) (Rd.below h0 hb55) hx60 rfl rfl rfl Try.underlying25 (info56).1 (info56).2.1) rfl rfl rfl ?_
  refine WL.runk 1 [0, 4, 5, 6, 28, 32] [(0, .slice a0' list_0.length c0'), (4, .slice a29 st28.1.length c30), (5, .int .i64 st28.2), (6, .int .i64 (wI64 (x49.OnHand - x51.Reserved))), (28, .int .i64 (wI64 (x49.OnHand - x51.Reserved))), (32, .pointer (some (at_ a0' (Int.toNat st28.2 * 4 + 3))))] (by kernel_rfl) ?_
  refine WL.st (.int .i64 x59.Least) (ST.load (cell_ext (Rd.flat (F := fGood) (Rd.below h0 hb55) hx60 3 rfl)) rfl rfl Try.underlying2 rfl) rfl rfl rfl ?_
  refine WL.runk 1 [0, 4, 5, 6, 34] [(0, .slice a0' list_0.length c0'), (4, .slice a29 st28.1.length c30), (5, .int .i64 st28.2), (6, .int .i64 (wI64 (x49.OnHand - x51.Reserved))), (34, .bool (decide ((wI64 (x49.OnHand - x51.Reserved)) < x59.Least)))] (by kernel_rfl) ?_
  refine WL.nil ?_
  refine WQ.then_normal (hK58 _ _ _ ?_)
  obtain ⟨x94, hx95, hm⟩ := bindE hm
  refine WP.cut (fun env' w' => ∃ (a96 : Option Addr) (c97 : Nat), env' = [(0, .slice a0' list_0.length c0'), (4, .slice a96 x94.length c97), (5, .int .i64 st28.2)] ∧ Ext w w' ∧ w.heap.size ≤ w'.heap.size ∧ SH w' w.heap.size [aOwn fTake 43 a96 c97 x94]) ?_ ?_
  rotate_left
  · clear hx95
    rintro _ w131 ⟨a96, c97, rfl, hb132, hL133, hS134⟩
    refine WQ.block_normal ?_
    refine WQ.then_normal (hK47 _ _ _ ?_)
    refine WP.region ?_
    refine WL.runk 3 [0, 4, 5] [(0, .slice a0' list_0.length c0'), (4, .slice a96 x94.length c97), (5, .int .i64 (wI64 (st28.2 + 1)))] (by kernel_rfl) ?_
    refine WL.nil ?_
    obtain rfl := Option.some.inj hm
    exact WQ.round hK38 ⟨(x94, (wI64 (st28.2 + 1))), _, _, rfl, hb132, hL133, hS134, hl36⟩ (Nat.lt_succ_self _) ⟨rfl, rfl, rfl, trivial⟩
  have hm := hx95; clear hx95
  refine WP.cond (decide ((wI64 (x49.OnHand - x51.Reserved)) < x59.Least)) rfl rfl (fun hc61 => ?_) (fun hc61 => ?_)
  rotate_left
  · have hm := iteF hm hc61
    refine WP.skip ?_
    obtain rfl := Option.some.inj hm
    exact WQ.post' ⟨_, _, rfl, hb55, hL56, hS57⟩ ⟨rfl, rfl, rfl, trivial⟩
  have hm := iteT hm hc61
  refine WP.open (n := 17) (by kernel_rfl) rfl (fun w99 hE100 => ?_)
  have hb101 : Ext w w99 := Ext.trans hb55 hE100
  have hL102 : w.heap.size ≤ w99.heap.size := Nat.le_trans hL56 hE100.size
  have hS103 : SH w99 w.heap.size [aOwn fTake 43 a29 c30 st28.1] := SH.ext hS57 hE100
  refine WA.pre (i := 0) (D' := [0]) [(0, .slice a0' list_0.length c0'), (4, .slice a29 st28.1.length c30), (5, .int .i64 st28.2), (6, .int .i64 (wI64 (x49.OnHand - x51.Reserved))), (34, .bool (decide ((wI64 (x49.OnHand - x51.Reserved)) < x59.Least))), (35, .slice a29 st28.1.length c30)] rfl (by kernel_rfl) rfl (fun _ => by kernel_rfl) rfl ?_
  refine WA.quiet (f' := 3) (D' := [0, 1, 2, 3, 4, 5, 6, 7, 8, 9, 10, 11, 12, 13]) [1, 2, 3, 4, 5, 6, 7, 8, 9, 10, 11, 12, 13] rfl rfl (by kernel_rfl) ?_
  refine QL.step1v 36 (.slice a0' list_0.length c0') rfl (fun _ => by kernel_rfl) ?_
  refine QL.step1v 37 (.int .i64 st28.2) rfl (fun _ => by kernel_rfl) ?_
  refine QL.subk [0, 4, 5, 6, 35, 36, 37] [(0, .slice a0' list_0.length c0'), (4, .slice a29 st28.1.length c30), (5, .int .i64 st28.2), (6, .int .i64 (wI64 (x49.OnHand - x51.Reserved))), (35, .slice a29 st28.1.length c30), (36, .slice a0' list_0.length c0'), (37, .int .i64 st28.2)] (by kernel_rfl) ?_
  obtain ⟨x104, hx105, hm⟩ := bindE hm
  refine QL.st (.pointer (some (at_ a0' (Int.toNat st28.2 * 4)))) (ST.index (T := fGood.ty) (xs := list_0) (Rd.below h0 hb101) hx105 rfl rfl rfl Try.underlying25 (info56).1 (info56).2.1) rfl rfl rfl ?_
  refine QL.step1v 39 (.pointer (some (at_ a0' (Int.toNat st28.2 * 4)))) rfl (fun _ => by kernel_rfl) ?_
  refine QL.subk [0, 4, 5, 6, 35, 39] [(0, .slice a0' list_0.length c0'), (4, .slice a29 st28.1.length c30), (5, .int .i64 st28.2), (6, .int .i64 (wI64 (x49.OnHand - x51.Reserved))), (35, .slice a29 st28.1.length c30), (39, .pointer (some (at_ a0' (Int.toNat st28.2 * 4))))] (by kernel_rfl) ?_
  refine QL.st (.string (bs x104.Name)) (ST.load (cell_ext (Rd.flat (F := fGood) (Rd.below h0 hb101) hx105 0 rfl)) rfl rfl Try.underlying9 rfl) rfl rfl rfl ?_
  refine QL.step1v 41 (.slice a0' list_0.length c0') rfl (fun _ => by kernel_rfl) ?_
  refine QL.step1v 42 (.int .i64 st28.2) rfl (fun _ => by kernel_rfl) ?_
  refine QL.subk [0, 4, 5, 6, 35, 40, 41, 42] [(0, .slice a0' list_0.length c0'), (4, .slice a29 st28.1.length c30), (5, .int .i64 st28.2), (6, .int .i64 (wI64 (x49.OnHand - x51.Reserved))), (35, .slice a29 st28.1.length c30), (40, .string (bs x104.Name)), (41, .slice a0' list_0.length c0'), (42, .int .i64 st28.2)] (by kernel_rfl) ?_
  obtain ⟨x106, hx107, hm⟩ := bindE hm
  refine QL.st (.pointer (some (at_ a0' (Int.toNat st28.2 * 4)))) (ST.index (T := fGood.ty) (xs := list_0) (Rd.below h0 hb101) hx107 rfl rfl rfl Try.underlying25 (info56).1 (info56).2.1) rfl rfl rfl ?_
  refine QL.step1v 44 (.pointer (some (at_ a0' (Int.toNat st28.2 * 4 + 3)))) rfl (fun _ => by kernel_rfl) ?_
  refine QL.subk [0, 4, 5, 6, 35, 40, 44] [(0, .slice a0' list_0.length c0'), (4, .slice a29 st28.1.length c30), (5, .int .i64 st28.2), (6, .int .i64 (wI64 (x49.OnHand - x51.Reserved))), (35, .slice a29 st28.1.length c30), (40, .string (bs x104.Name)), (44, .pointer (some (at_ a0' (Int.toNat st28.2 * 4 + 3))))] (by kernel_rfl) ?_
  refine QL.st (.int .i64 x106.Least) (ST.load (cell_ext (Rd.flat (F := fGood) (Rd.below h0 hb101) hx107 3 rfl)) rfl rfl Try.underlying2 rfl) rfl rfl rfl ?_
  refine QL.step1v 46 (.int .i64 (wI64 (x49.OnHand - x51.Reserved))) rfl (fun _ => by kernel_rfl) ?_
  refine QL.step1v 47 (.int .i64 (wI64 (x106.Least - (wI64 (x49.OnHand - x51.Reserved))))) rfl (fun _ => by kernel_rfl) ?_
  refine QL.step1v 48 (.agg #[.string (bs x104.Name), .int .i64 (wI64 (x106.Least - (wI64 (x49.OnHand - x51.Reserved))))]) rfl (fun _ => by kernel_rfl) ?_
  refine QL.subk [0, 4, 5, 35, 48] [(0, .slice a0' list_0.length c0'), (4, .slice a29 st28.1.length c30), (5, .int .i64 st28.2), (35, .slice a29 st28.1.length c30), (48, .agg #[.string (bs x104.Name), .int .i64 (wI64 (x106.Least - (wI64 (x49.OnHand - x51.Reserved))))])] (by kernel_rfl) ?_
  refine QL.nil ?_
  intro w108 hE109
  have hb110 : Ext w w108 := Ext.trans hb101 hE109
  have hL111 : w.heap.size ≤ w108.heap.size := Nat.le_trans hL102 hE109.size
  have hS112 : SH w108 w.heap.size [aOwn fTake 43 a29 c30 st28.1] := SH.ext hS103 hE109
  refine WA.one (i := 14) (D' := [0, 1, 2, 3, 4, 5, 6, 7, 8, 9, 10, 11, 12, 13, 14]) rfl rfl (by kernel_rfl) ?_
  refine WL.row fTake 43 ([(STake.mk x104.Name (wI64 (x106.Least - (wI64 (x49.OnHand - x51.Reserved)))))] : List STake) 1 #[.string (bs x104.Name), .int .i64 (wI64 (x106.Least - (wI64 (x49.OnHand - x51.Reserved))))] 49 (by kernel_rfl) rfl rfl rfl rfl rfl rfl rfl ?_
  intro a113 c114 w115 hE116 hR117
  have hb119 : Ext w w115 := Ext.trans hb110 hE116
  have hL120 : w.heap.size ≤ w115.heap.size := Nat.le_trans hL111 hE116.size
  have hS121 : SH w115 w.heap.size [aOwn fTake 43 a113 c114 ([(STake.mk x104.Name (wI64 (x106.Least - (wI64 (x49.OnHand - x51.Reserved)))))] : List STake), aOwn fTake 43 a29 c30 st28.1] := SH.add hS112 hE116 hL111 hR117
  refine WL.sub [(0, .slice a0' list_0.length c0'), (4, .slice a29 st28.1.length c30), (5, .int .i64 st28.2), (35, .slice a29 st28.1.length c30), (49, .slice a113 (([(STake.mk x104.Name (wI64 (x106.Least - (wI64 (x49.OnHand - x51.Reserved)))))] : List STake).length) c114)] ⟨rfl, rfl, rfl, rfl, rfl, trivial⟩ ?_
  refine WL.nil ?_
  refine WA.one (i := 15) (D' := [0, 1, 2, 3, 4, 5, 6, 7, 8, 9, 10, 11, 12, 13, 14, 15]) rfl rfl (by kernel_rfl) ?_
  obtain ⟨x122, hx123, hm⟩ := bindE hm
  refine WL.append (F := fTake) (xs := st28.1) (ys := ([(STake.mk x104.Name (wI64 (x106.Least - (wI64 (x49.OnHand - x51.Reserved)))))] : List STake)) 50 (SH.front 1 hS121) hL120 (SH.rd (SH.front 0 hS121)) hx123 rfl rfl rfl Try.underlying30 (info43).1 (info43).2.2.1 (info43).2.1 (info43).2.2.2 rfl rfl rfl rfl rfl ?_
  intro a124 c125 w126 hB127 hS128
  have hb129 : Ext w w126 := Below.trans hb119 hB127
  have hL130 : w.heap.size ≤ w126.heap.size := Nat.le_trans hL120 hB127.size
  refine WL.sub [(0, .slice a0' list_0.length c0'), (4, .slice a29 st28.1.length c30), (5, .int .i64 st28.2), (50, .slice a124 x122.length c125)] ⟨rfl, rfl, rfl, rfl, trivial⟩ ?_
  refine WL.nil ?_
  refine WA.one (i := 16) (D' := [0, 1, 2, 3, 4, 5, 6, 7, 8, 9, 10, 11, 12, 13, 14, 15, 16]) rfl rfl (by kernel_rfl) ?_
  refine WL.runk 1 [0, 4, 5] [(0, .slice a0' list_0.length c0'), (4, .slice a124 x122.length c125), (5, .int .i64 st28.2)] (by kernel_rfl) ?_
  refine WL.nil ?_
  refine WA.done (by kernel_rfl) ?_
  obtain rfl := Option.some.inj hm
  exact WQ.post' ⟨_, _, rfl, hb129, hL130, (SH.take 1 hS128)⟩ ⟨rfl, rfl, rfl, trivial⟩

theorem c_21 (n : Nat) (list_0 : List SGood) (a0' : Option Addr) (c0' : Nat) (w : World) {r : List STake × Int} (hm : m_impl_ShortGoods n list_0 = some r) (h0 : Rd fGood.ty w a0' list_0) (hle0 : list_0.length ≤ c0') :
    CallV Try.prog 21 #[.slice a0' list_0.length c0'] w (fun v w' => ∃ (ra0 : Option Addr) (rc0 : Nat), v = .tuple #[.slice ra0 r.1.length rc0, .int .i64 r.2] ∧ Ext w w' ∧ SH w' w.heap.size [aOwn fTake 43 ra0 rc0 r.1]) := by
  unfold m_impl_ShortGoods at hm
  refine CallV.enter Try.func21 rfl (by kernel_rfl) Try.ntmps21 (env := [(0, .slice a0' list_0.length c0')]) ⟨rfl, trivial⟩ ?_
  refine WP.seq (fun K1 hK1 => ?_)
  refine WP.region ?_
  refine WL.runk 2 [0] [(0, .slice a0' list_0.length c0')] (by kernel_rfl) ?_
  refine WL.nil ?_
  refine WQ.then_normal (hK1 _ _ _ ?_)
  refine WP.seq (fun K2 hK2 => ?_)
  refine WP.seq (fun K3 hK3 => ?_)
  refine WP.region ?_
  refine WL.runk 1 [0, 8] [(0, .slice a0' list_0.length c0'), (8, .slice a0' list_0.length c0')] (by kernel_rfl) ?_
  obtain ⟨x4, hx5, hm⟩ := bindE hm
  refine WL.call 19 #[.slice a0' list_0.length c0'] rfl rfl (by kernel_rfl) (c_19 n list_0 a0' c0' w hx5 (Rd.below h0 (Ext.refl w)) hle0) ?_
  rintro _ w6 ⟨rfl, hE7⟩
  refine ⟨_, rfl, ?_⟩
  have hb9 : Ext w w6 := Ext.trans (Ext.refl w) hE7
  have hL10 : w.heap.size ≤ w6.heap.size := Nat.le_trans (Nat.le_refl _) hE7.size
  have hS11 : SH w6 w.heap.size [] := SH.ext (SH.nil _ _) hE7
  refine WL.runk 1 [0, 10] [(0, .slice a0' list_0.length c0'), (10, .bool (!x4))] (by kernel_rfl) ?_
  refine WL.nil ?_
  refine WQ.then_normal (hK3 _ _ _ ?_)
  refine WP.cond (!x4) rfl rfl (fun hc12 => ?_) (fun hc12 => ?_)
  · have hm := iteT hm hc12
    refine WP.seq (fun K13 hK13 => ?_)
    refine WP.region ?_
    refine WL.runk 2 [2, 3] [(2, .slice none 0 0), (3, .int .i64 1)] (by kernel_rfl) ?_
    refine WL.nil ?_
    refine WQ.then_normal (hK13 _ _ _ ?_)
    refine WP.ret ?_
    refine WQ.then_ret ?_
    obtain rfl := Option.some.inj hm
    have hS15 : SH w6 w.heap.size [aOwn fTake 43 none 0 ([] : List STake)] := SH.nilOwn hS11
    exact WQ.ret2 _ _ rfl rfl rfl ⟨_, _, rfl, hb9, hS15⟩
  have hm := iteF hm hc12
  refine WP.skip ?_
  refine WQ.then_normal (hK2 _ _ _ ?_)
  refine WP.seq (fun K16 hK16 => ?_)
  refine WP.region ?_
  refine WL.row fTake 43 ([] : List STake) 0 #[] 11 (by kernel_rfl) rfl rfl rfl rfl rfl rfl rfl ?_
  intro a17 c18 w19 hE20 hR21
  have hb23 : Ext w w19 := Ext.trans hb9 hE20
  have hL24 : w.heap.size ≤ w19.heap.size := Nat.le_trans hL10 hE20.size
  have hS25 : SH w19 w.heap.size [aOwn fTake 43 a17 c18 ([] : List STake)] := SH.add hS11 hE20 hL10 hR21
  refine WL.runk 1 [0, 4] [(0, .slice a0' list_0.length c0'), (4, .slice a17 (([] : List STake).length) c18)] (by kernel_rfl) ?_
  refine WL.nil ?_
  refine WQ.then_normal (hK16 _ _ _ ?_)
  refine WP.seq (fun K26 hK26 => ?_)
  refine WP.seq (fun K27 hK27 => ?_)
  refine WP.region ?_
  refine WL.runk 3 [4, 12, 13, 14] [(4, .slice a17 (([] : List STake).length) c18), (12, .slice a0' list_0.length c0'), (13, .int .i64 (list_0.length : Int)), (14, .int .i64 0)] (by kernel_rfl) ?_
  refine WL.nil ?_
  refine WQ.then_normal (hK27 _ _ _ ?_)
  refine WP.block ?_
  obtain ⟨t42, ht43, hm⟩ := bindE hm
  have hmo37 := hm; clear hm
  refine WP.sub [(4, .slice a17 (([] : List STake).length) c18), (12, .slice a0' list_0.length c0'), (13, .int .i64 (list_0.length : Int)), (14, .int .i64 0)] ⟨rfl, rfl, rfl, rfl, trivial⟩ ?_
  refine WP.loop (fun n' env' w' => ∃ (st28 : List STake × Int) (a29 : Option Addr) (c30 : Nat), env' = [(4, .slice a29 st28.1.length c30), (12, .slice a0' list_0.length c0'), (13, .int .i64 (list_0.length : Int)), (14, .int .i64 st28.2)] ∧ Ext w w' ∧ w.heap.size ≤ w'.heap.size ∧ SH w' w.heap.size [aOwn fTake 43 a29 c30 st28.1] ∧ loopN (m_impl_ShortGoods_l1 n list_0) n' st28 = some t42) n ⟨(([] : List STake), 0), _, _, rfl, hb23, hL24, hS25, ht43⟩ ?_
  rintro n39 _ w32 ⟨st28, a29, c30, rfl, hb33, hL34, hS35, hl36⟩ K38 hK38
  obtain ⟨n40, s41, rfl, hm, hl36⟩ := loopN_some hl36
  unfold m_impl_ShortGoods_l1 at hm
  refine WP.seq (fun K44 hK44 => ?_)
  refine WP.region ?_
  refine WL.runk 1 [4, 12, 13, 14, 15] [(4, .slice a29 st28.1.length c30), (12, .slice a0' list_0.length c0'), (13, .int .i64 (list_0.length : Int)), (14, .int .i64 st28.2), (15, .bool (decide (st28.2 < (list_0.length : Int))))] (by kernel_rfl) ?_
  refine WL.nil ?_
  refine WQ.then_normal (hK44 _ _ _ ?_)
  refine WP.seq (fun K45 hK45 => ?_)
  refine WP.cond (decide (st28.2 < (list_0.length : Int))) rfl rfl (fun hc46 => ?_) (fun hc46 => ?_)
  rotate_left
  · have hm := iteF hm hc46
    refine WP.exit ?_
    refine WQ.then_exit ?_
    refine WQ.then_exit ?_
    refine WQ.block_here ?_
    obtain rfl := Option.some.inj hm
    obtain rfl := afterN_done hl36
    have hm := hmo37
    refine WQ.then_normal (hK26 _ _ _ ?_)
    refine WP.seq (fun K112 hK112 => ?_)
    refine WP.region ?_
    refine WL.runk 3 [2, 3] [(2, .slice a29 st28.1.length c30), (3, .int .i64 0)] (by kernel_rfl) ?_
    refine WL.nil ?_
    refine WQ.then_normal (hK112 _ _ _ ?_)
    refine WP.ret ?_
    obtain rfl := Option.some.inj hm
    exact WQ.ret2 _ _ rfl rfl rfl ⟨_, _, rfl, hb33, hS35⟩
  have hm := iteT hm hc46
  refine WP.skip ?_
  refine WQ.then_normal (hK45 _ _ _ ?_)
  refine WP.seq (fun K47 hK47 => ?_)
  refine WP.block ?_
  refine WP.seq (fun K48 hK48 => ?_)
  refine WP.region ?_
  obtain ⟨x49, hx50, hm⟩ := bindE hm
  refine WL.st (.pointer (some (at_ a0' (Int.toNat st28.2 * 4)))) (ST.index (T := fGood.ty) (xs := list_0) (Rd.below h0 hb33) hx50 rfl rfl rfl Try.underlying25 (info56).1 (info56).2.1) rfl rfl rfl ?_
  refine WL.st (.agg #[.string (bs x49.Name), .int .i64 x49.OnHand, .int .i64 x49.Reserved, .int .i64 x49.Least]) (ST.loadAgg (vs := fGood.leaf x49) (fun j v hv => Rd.flatA (F := fGood) (Rd.below h0 hb33) hx50 j hv) rfl rfl rfl Try.underlying56 rfl (info56).1 (info56).2.1) rfl rfl rfl ?_
  refine WL.box 56 [.string (bs []), .int .i64 0, .int .i64 0, .int .i64 0] 6 (by kernel_rfl) rfl rfl rfl rfl ?_
  intro b51 w52 hE53 hR54
  have hb56 : Ext w w52 := Ext.trans hb33 hE53
  have hL57 : w.heap.size ≤ w52.heap.size := Nat.le_trans hL34 hE53.size
  have hS58 : SH w52 w.heap.size [aBox 56 b51 [.string (bs []), .int .i64 0, .int .i64 0, .int .i64 0], aOwn fTake 43 a29 c30 st28.1] := SH.add hS35 hE53 hL34 hR54
  refine WL.boxStore 0 [.string (bs x49.Name), .int .i64 x49.OnHand, .int .i64 x49.Reserved, .int .i64 x49.Least] [.string (bs x49.Name), .int .i64 x49.OnHand, .int .i64 x49.Reserved, .int .i64 x49.Least] (SH.front 0 hS58) hL57 rfl rfl rfl rfl rfl rfl rfl (info56).1 (info56).2.1 rfl rfl rfl ?_
  intro w59 hB60 hS61
  have hb62 : Ext w w59 := Below.trans hb56 hB60
  have hL63 : w.heap.size ≤ w59.heap.size := Nat.le_trans hL57 hB60.size
  refine WL.sub [(4, .slice a29 st28.1.length c30), (12, .slice a0' list_0.length c0'), (13, .int .i64 (list_0.length : Int)), (14, .int .i64 st28.2), (6, .pointer (some ⟨b51, 0, none⟩))] ⟨rfl, rfl, rfl, rfl, rfl, trivial⟩ ?_
  refine WL.nil ?_
  refine WQ.then_normal (hK48 _ _ _ ?_)
  refine WP.seq (fun K64 hK64 => ?_)
  refine WP.region ?_
  refine WL.runk 1 [4, 6, 12, 13, 14, 18] [(4, .slice a29 st28.1.length c30), (12, .slice a0' list_0.length c0'), (13, .int .i64 (list_0.length : Int)), (14, .int .i64 st28.2), (6, .pointer (some ⟨b51, 0, none⟩)), (18, .pointer (some ⟨b51, 3, none⟩))] (by kernel_rfl) ?_
  refine WL.st (.int .i64 x49.Least) (ST.load (cell_ext (SH.boxAt (SH.front 0 hS61) 3 _ rfl)) rfl rfl Try.underlying2 rfl) rfl rfl rfl ?_
  refine WL.runk 1 [4, 6, 12, 13, 14, 19, 20] [(4, .slice a29 st28.1.length c30), (12, .slice a0' list_0.length c0'), (13, .int .i64 (list_0.length : Int)), (14, .int .i64 st28.2), (6, .pointer (some ⟨b51, 0, none⟩)), (19, .int .i64 x49.Least), (20, .pointer (some ⟨b51, 1, none⟩))] (by kernel_rfl) ?_
  refine WL.st (.int .i64 x49.OnHand) (ST.load (cell_ext (SH.boxAt (SH.front 0 hS61) 1 _ rfl)) rfl rfl Try.underlying2 rfl) rfl rfl rfl ?_
  refine WL.runk 1 [4, 6, 12, 13, 14, 19, 21, 22] [(4, .slice a29 st28.1.length c30), (12, .slice a0' list_0.length c0'), (13, .int .i64 (list_0.length : Int)), (14, .int .i64 st28.2), (6, .pointer (some ⟨b51, 0, none⟩)), (19, .int .i64 x49.Least), (21, .int .i64 x49.OnHand), (22, .pointer (some ⟨b51, 2, none⟩))] (by kernel_rfl) ?_
  refine WL.st (.int .i64 x49.Reserved) (ST.load (cell_ext (SH.boxAt (SH.front 0 hS61) 2 _ rfl)) rfl rfl Try.underlying2 rfl) rfl rfl rfl ?_
  refine WL.runk 3 [4, 6, 7, 12, 13, 14] [(4, .slice a29 st28.1.length c30), (12, .slice a0' list_0.length c0'), (13, .int .i64 (list_0.length : Int)), (14, .int .i64 st28.2), (6, .pointer (some ⟨b51, 0, none⟩)), (7, .int .i64 (wI64 (x49.Least - (wI64 (x49.OnHand - x49.Reserved)))))] (by kernel_rfl) ?_
  refine WL.nil ?_
  refine WQ.then_normal (hK64 _ _ _ ?_)
  refine WP.seq (fun K65 hK65 => ?_)
  refine WP.region ?_
  refine WL.runk 2 [4, 6, 7, 12, 13, 14, 27] [(4, .slice a29 st28.1.length c30), (12, .slice a0' list_0.length c0'), (13, .int .i64 (list_0.length : Int)), (14, .int .i64 st28.2), (6, .pointer (some ⟨b51, 0, none⟩)), (7, .int .i64 (wI64 (x49.Least - (wI64 (x49.OnHand - x49.Reserved))))), (27, .bool (decide ((wI64 (x49.Least - (wI64 (x49.OnHand - x49.Reserved)))) > 0)))] (by kernel_rfl) ?_
  refine WL.nil ?_
  refine WQ.then_normal (hK65 _ _ _ ?_)
  obtain ⟨x85, hx86, hm⟩ := bindE hm
  refine WP.cut (fun env' w' => ∃ (a87 : Option Addr) (c88 : Nat), env' = [(4, .slice a87 x85.length c88), (12, .slice a0' list_0.length c0'), (13, .int .i64 (list_0.length : Int)), (14, .int .i64 st28.2)] ∧ Ext w w' ∧ w.heap.size ≤ w'.heap.size ∧ SH w' w.heap.size [aOwn fTake 43 a87 c88 x85, aBox 56 b51 [.string (bs x49.Name), .int .i64 x49.OnHand, .int .i64 x49.Reserved, .int .i64 x49.Least]]) ?_ ?_
  rotate_left
  · clear hx86
    rintro _ w108 ⟨a87, c88, rfl, hb109, hL110, hS111⟩
    refine WQ.block_normal ?_
    refine WQ.then_normal (hK47 _ _ _ ?_)
    refine WP.region ?_
    refine WL.runk 2 [4, 12, 13, 14] [(4, .slice a87 x85.length c88), (12, .slice a0' list_0.length c0'), (13, .int .i64 (list_0.length : Int)), (14, .int .i64 (wI64 (st28.2 + 1)))] (by kernel_rfl) ?_
    refine WL.nil ?_
    obtain rfl := Option.some.inj hm
    exact WQ.round hK38 ⟨(x85, (wI64 (st28.2 + 1))), _, _, rfl, hb109, hL110, (SH.take 1 hS111), hl36⟩ (Nat.lt_succ_self _) ⟨rfl, rfl, rfl, rfl, trivial⟩
  have hm := hx86; clear hx86
  refine WP.cond (decide ((wI64 (x49.Least - (wI64 (x49.OnHand - x49.Reserved)))) > 0)) rfl rfl (fun hc66 => ?_) (fun hc66 => ?_)
  rotate_left
  · have hm := iteF hm hc66
    refine WP.skip ?_
    obtain rfl := Option.some.inj hm
    exact WQ.post' ⟨_, _, rfl, hb62, hL63, (SH.front 1 hS61)⟩ ⟨rfl, rfl, rfl, rfl, trivial⟩
  have hm := iteT hm hc66
  refine WP.region ?_
  refine WL.runk 2 [7, 12, 13, 14, 28, 29] [(12, .slice a0' list_0.length c0'), (13, .int .i64 (list_0.length : Int)), (14, .int .i64 st28.2), (7, .int .i64 (wI64 (x49.Least - (wI64 (x49.OnHand - x49.Reserved))))), (28, .slice a29 st28.1.length c30), (29, .pointer (some ⟨b51, 0, none⟩))] (by kernel_rfl) ?_
  refine WL.st (.string (bs x49.Name)) (ST.load (cell_ext (SH.boxAt (SH.front 0 hS61) 0 _ rfl)) rfl rfl Try.underlying9 rfl) rfl rfl rfl ?_
  refine WL.runk 2 [12, 13, 14, 28, 32] [(12, .slice a0' list_0.length c0'), (13, .int .i64 (list_0.length : Int)), (14, .int .i64 st28.2), (28, .slice a29 st28.1.length c30), (32, .agg #[.string (bs x49.Name), .int .i64 (wI64 (x49.Least - (wI64 (x49.OnHand - x49.Reserved))))])] (by kernel_rfl) ?_
  refine WL.row fTake 43 ([(STake.mk x49.Name (wI64 (x49.Least - (wI64 (x49.OnHand - x49.Reserved)))))] : List STake) 1 #[.string (bs x49.Name), .int .i64 (wI64 (x49.Least - (wI64 (x49.OnHand - x49.Reserved))))] 33 (by kernel_rfl) rfl rfl rfl rfl rfl rfl rfl ?_
  intro a90 c91 w92 hE93 hR94
  have hb96 : Ext w w92 := Ext.trans hb62 hE93
  have hL97 : w.heap.size ≤ w92.heap.size := Nat.le_trans hL63 hE93.size
  have hS98 : SH w92 w.heap.size [aOwn fTake 43 a90 c91 ([(STake.mk x49.Name (wI64 (x49.Least - (wI64 (x49.OnHand - x49.Reserved)))))] : List STake), aBox 56 b51 [.string (bs x49.Name), .int .i64 x49.OnHand, .int .i64 x49.Reserved, .int .i64 x49.Least], aOwn fTake 43 a29 c30 st28.1] := SH.add hS61 hE93 hL63 hR94
  obtain ⟨x99, hx100, hm⟩ := bindE hm
  refine WL.append (F := fTake) (xs := st28.1) (ys := ([(STake.mk x49.Name (wI64 (x49.Least - (wI64 (x49.OnHand - x49.Reserved)))))] : List STake)) 34 (SH.front 2 hS98) hL97 (SH.rd (SH.front 0 hS98)) hx100 rfl rfl rfl Try.underlying30 (info43).1 (info43).2.2.1 (info43).2.1 (info43).2.2.2 rfl rfl rfl rfl rfl ?_
  intro a101 c102 w103 hB104 hS105
  have hb106 : Ext w w103 := Below.trans hb96 hB104
  have hL107 : w.heap.size ≤ w103.heap.size := Nat.le_trans hL97 hB104.size
  refine WL.runk 1 [4, 12, 13, 14] [(12, .slice a0' list_0.length c0'), (13, .int .i64 (list_0.length : Int)), (14, .int .i64 st28.2), (4, .slice a101 x99.length c102)] (by kernel_rfl) ?_
  refine WL.nil ?_
  obtain rfl := Option.some.inj hm
  exact WQ.post' ⟨_, _, rfl, hb106, hL107, (SH.take 2 (SH.front 1 (SH.front 2 hS105)))⟩ ⟨rfl, rfl, rfl, rfl, trivial⟩

theorem c_64 (n : Nat) (list_0 : List SGood) (a0' : Option Addr) (c0' : Nat) (name_1 : List UInt8) (w : World) {r : Int} (hm : m_spec_l23Find n list_0 name_1 = some r) (h0 : Rd fGood.ty w a0' list_0) (_hle0 : list_0.length ≤ c0') :
    CallV Try.prog 64 #[.slice a0' list_0.length c0', .string (bs name_1)] w (fun v w' => v = .int .i64 r ∧ Ext w w') := by
  unfold m_spec_l23Find at hm
  refine CallV.enter Try.func64 rfl (by kernel_rfl) Try.ntmps64 (env := [(0, .slice a0' list_0.length c0'), (1, .string (bs name_1))]) ⟨rfl, rfl, trivial⟩ ?_
  refine WP.seq (fun K1 hK1 => ?_)
  refine WP.region ?_
  refine WL.runk 1 [0, 1] [(0, .slice a0' list_0.length c0'), (1, .string (bs name_1))] (by kernel_rfl) ?_
  refine WL.nil ?_
  refine WQ.then_normal (hK1 _ _ _ ?_)
  refine WP.seq (fun K2 hK2 => ?_)
  refine WP.seq (fun K3 hK3 => ?_)
  refine WP.region ?_
  refine WL.runk 1 [0, 1, 5] [(0, .slice a0' list_0.length c0'), (1, .string (bs name_1)), (5, .int .i64 0)] (by kernel_rfl) ?_
  refine WL.nil ?_
  refine WQ.then_normal (hK3 _ _ _ ?_)
  refine WP.block ?_
  obtain ⟨t15, ht16, hm⟩ := bindE hm
  have hmo10 := hm; clear hm
  refine WP.sub [(0, .slice a0' list_0.length c0'), (1, .string (bs name_1)), (5, .int .i64 0)] ⟨rfl, rfl, rfl, trivial⟩ ?_
  refine WP.loop (fun n' env' w' => ∃ (st4 : Int) , env' = [(0, .slice a0' list_0.length c0'), (1, .string (bs name_1)), (5, .int .i64 st4)] ∧ Ext w w' ∧ w.heap.size ≤ w'.heap.size ∧ SH w' w.heap.size [] ∧ loopN (m_spec_l23Find_l1 n list_0 name_1) n' st4 = some t15) n ⟨0, rfl, (Ext.refl w), (Nat.le_refl _), (SH.nil _ _), ht16⟩ ?_
  rintro n12 _ w5 ⟨st4, rfl, hb6, hL7, hS8, hl9⟩ K11 hK11
  obtain ⟨n13, s14, rfl, hm, hl9⟩ := loopN_some hl9
  unfold m_spec_l23Find_l1 at hm
  refine WP.seq (fun K17 hK17 => ?_)
  refine WP.seq (fun K18 hK18 => ?_)
  refine WP.region ?_
  refine WL.runk 4 [0, 1, 5, 9] [(0, .slice a0' list_0.length c0'), (1, .string (bs name_1)), (5, .int .i64 st4), (9, .bool (decide (st4 < (list_0.length : Int))))] (by kernel_rfl) ?_
  refine WL.nil ?_
  refine WQ.then_normal (hK18 _ _ _ ?_)
  refine WP.cond (decide (st4 < (list_0.length : Int))) rfl rfl (fun hc19 => ?_) (fun hc19 => ?_)
  rotate_left
  · have hm := iteF hm hc19
    refine WP.exit ?_
    refine WQ.then_exit ?_
    refine WQ.then_exit ?_
    refine WQ.block_here ?_
    obtain rfl := Option.some.inj hm
    obtain rfl := afterN_done hl9
    have hm := hmo10
    refine WQ.then_normal (hK2 _ _ _ ?_)
    refine WP.seq (fun K26 hK26 => ?_)
    refine WP.region ?_
    refine WL.runk 1 [4] [(4, .int .i64 (-1))] (by kernel_rfl) ?_
    refine WL.nil ?_
    refine WQ.then_normal (hK26 _ _ _ ?_)
    refine WP.ret ?_
    obtain rfl := Option.some.inj hm
    exact WQ.ret1 _ rfl rfl ⟨rfl, hb6⟩
  have hm := iteT hm hc19
  refine WP.skip ?_
  refine WQ.then_normal (hK17 _ _ _ ?_)
  refine WP.seq (fun K20 hK20 => ?_)
  refine WP.block ?_
  refine WP.seq (fun K21 hK21 => ?_)
  refine WP.region ?_
  refine WL.runk 2 [0, 1, 5, 12, 13] [(0, .slice a0' list_0.length c0'), (1, .string (bs name_1)), (5, .int .i64 st4), (12, .slice a0' list_0.length c0'), (13, .int .i64 st4)] (by kernel_rfl) ?_
  obtain ⟨x22, hx23, hm⟩ := bindE hm
  refine WL.st (.pointer (some (at_ a0' (Int.toNat st4 * 4)))) (ST.index (T := fGood.ty) (xs := list_0) (Rd.below h0 hb6) hx23 rfl rfl rfl Try.underlying25 (info56).1 (info56).2.1) rfl rfl rfl ?_
  refine WL.runk 1 [0, 1, 5, 15] [(0, .slice a0' list_0.length c0'), (1, .string (bs name_1)), (5, .int .i64 st4), (15, .pointer (some (at_ a0' (Int.toNat st4 * 4))))] (by kernel_rfl) ?_
  refine WL.st (.string (bs x22.Name)) (ST.load (cell_ext (Rd.flat (F := fGood) (Rd.below h0 hb6) hx23 0 rfl)) rfl rfl Try.underlying9 rfl) rfl rfl rfl ?_
  refine WL.runk 1 [0, 1, 5, 16, 17] [(0, .slice a0' list_0.length c0'), (1, .string (bs name_1)), (5, .int .i64 st4), (16, .string (bs x22.Name)), (17, .string (bs name_1))] (by kernel_rfl) ?_
  refine WL.st (.bool (x22.Name == name_1)) (ST.streq (x := x22.Name) (y := name_1) rfl rfl rfl) rfl rfl rfl ?_
  refine WL.sub [(0, .slice a0' list_0.length c0'), (1, .string (bs name_1)), (5, .int .i64 st4), (18, .bool (x22.Name == name_1))] ⟨rfl, rfl, rfl, rfl, trivial⟩ ?_
  refine WL.nil ?_
  refine WQ.then_normal (hK21 _ _ _ ?_)
  refine WP.cond (x22.Name == name_1) rfl rfl (fun hc24 => ?_) (fun hc24 => ?_)
  rotate_left
  · have hm := iteF hm hc24
    refine WP.skip ?_
    refine WQ.block_normal ?_
    refine WQ.then_normal (hK20 _ _ _ ?_)
    refine WP.region ?_
    refine WL.runk 3 [0, 1, 5] [(0, .slice a0' list_0.length c0'), (1, .string (bs name_1)), (5, .int .i64 (wI64 (st4 + 1)))] (by kernel_rfl) ?_
    refine WL.nil ?_
    obtain rfl := Option.some.inj hm
    exact WQ.round hK11 ⟨(wI64 (st4 + 1)), rfl, hb6, hL7, hS8, hl9⟩ (Nat.lt_succ_self _) ⟨rfl, rfl, rfl, trivial⟩
  have hm := iteT hm hc24
  refine WP.seq (fun K25 hK25 => ?_)
  refine WP.region ?_
  refine WL.runk 2 [4] [(4, .int .i64 st4)] (by kernel_rfl) ?_
  refine WL.nil ?_
  refine WQ.then_normal (hK25 _ _ _ ?_)
  refine WP.ret ?_
  refine WQ.block_ret ?_
  refine WQ.then_ret ?_
  refine WQ.then_ret ?_
  refine WQ.block_ret ?_
  refine WQ.then_ret ?_
  obtain rfl := Option.some.inj hm
  obtain rfl := afterN_done hl9
  have hm := hmo10
  obtain rfl := Option.some.inj hm
  exact WQ.ret1 _ rfl rfl ⟨rfl, hb6⟩

theorem c_56 (n : Nat) (list_0 : List SGood) (a0' : Option Addr) (c0' : Nat) (name_1 : List UInt8) (many_2 : Int) (w : World) {r : Int × Int} (hm : m_spec_l23Named n list_0 name_1 many_2 = some r) (h0 : Rd fGood.ty w a0' list_0) (hle0 : list_0.length ≤ c0') :
    CallV Try.prog 56 #[.slice a0' list_0.length c0', .string (bs name_1), .int .i64 many_2] w (fun v w' => v = .tuple #[.int .i64 r.1, .int .i64 r.2] ∧ Ext w w') := by
  unfold m_spec_l23Named at hm
  refine CallV.enter Try.func56 rfl (by kernel_rfl) Try.ntmps56 (env := [(0, .slice a0' list_0.length c0'), (1, .string (bs name_1)), (2, .int .i64 many_2)]) ⟨rfl, rfl, rfl, trivial⟩ ?_
  refine WP.seq (fun K1 hK1 => ?_)
  refine WP.region ?_
  refine WL.runk 2 [0, 1, 2] [(0, .slice a0' list_0.length c0'), (1, .string (bs name_1)), (2, .int .i64 many_2)] (by kernel_rfl) ?_
  refine WL.nil ?_
  refine WQ.then_normal (hK1 _ _ _ ?_)
  refine WP.seq (fun K2 hK2 => ?_)
  refine WP.seq (fun K3 hK3 => ?_)
  refine WP.region ?_
  refine WL.runk 1 [0, 1, 2, 9] [(0, .slice a0' list_0.length c0'), (1, .string (bs name_1)), (2, .int .i64 many_2), (9, .slice a0' list_0.length c0')] (by kernel_rfl) ?_
  obtain ⟨x4, hx5, hm⟩ := bindE hm
  refine WL.call 52 #[.slice a0' list_0.length c0'] rfl rfl (by kernel_rfl) (c_52 n list_0 a0' c0' w hx5 (Rd.below h0 (Ext.refl w)) hle0) ?_
  rintro _ w6 ⟨rfl, hE7⟩
  refine ⟨_, rfl, ?_⟩
  have hb9 : Ext w w6 := Ext.trans (Ext.refl w) hE7
  have hL10 : w.heap.size ≤ w6.heap.size := Nat.le_trans (Nat.le_refl _) hE7.size
  have hS11 : SH w6 w.heap.size [] := SH.ext (SH.nil _ _) hE7
  refine WL.runk 1 [0, 1, 2, 11] [(0, .slice a0' list_0.length c0'), (1, .string (bs name_1)), (2, .int .i64 many_2), (11, .bool (!x4))] (by kernel_rfl) ?_
  refine WL.nil ?_
  refine WQ.then_normal (hK3 _ _ _ ?_)
  refine WP.cond (!x4) rfl rfl (fun hc12 => ?_) (fun hc12 => ?_)
  · have hm := iteT hm hc12
    refine WP.seq (fun K13 hK13 => ?_)
    refine WP.region ?_
    refine WL.runk 2 [6, 7] [(6, .int .i64 0), (7, .int .i64 1)] (by kernel_rfl) ?_
    refine WL.nil ?_
    refine WQ.then_normal (hK13 _ _ _ ?_)
    refine WP.ret ?_
    refine WQ.then_ret ?_
    obtain rfl := Option.some.inj hm
    exact WQ.ret2 _ _ rfl rfl rfl ⟨rfl, hb9⟩
  have hm := iteF hm hc12
  refine WP.skip ?_
  refine WQ.then_normal (hK2 _ _ _ ?_)
  refine WP.seq (fun K14 hK14 => ?_)
  refine WP.seq (fun K15 hK15 => ?_)
  refine WP.region ?_
  refine WL.runk 1 [0, 1, 12] [(0, .slice a0' list_0.length c0'), (1, .string (bs name_1)), (12, .int .i64 many_2)] (by kernel_rfl) ?_
  obtain ⟨x16, hx17, hm⟩ := bindE hm
  refine WL.call 80 #[.int .i64 many_2, .int .i64 1, .int .i64 1000000] rfl rfl (by kernel_rfl) (c_80 n many_2 1 1000000 w6 hx17 ) ?_
  rintro _ w18 ⟨rfl, hE19⟩
  refine ⟨_, rfl, ?_⟩
  have hb21 : Ext w w18 := Ext.trans hb9 hE19
  have hL22 : w.heap.size ≤ w18.heap.size := Nat.le_trans hL10 hE19.size
  have hS23 : SH w18 w.heap.size [] := SH.ext hS11 hE19
  refine WL.runk 1 [0, 1, 14] [(0, .slice a0' list_0.length c0'), (1, .string (bs name_1)), (14, .bool (!x16))] (by kernel_rfl) ?_
  refine WL.nil ?_
  refine WQ.then_normal (hK15 _ _ _ ?_)
  refine WP.cond (!x16) rfl rfl (fun hc24 => ?_) (fun hc24 => ?_)
  · have hm := iteT hm hc24
    refine WP.seq (fun K25 hK25 => ?_)
    refine WP.region ?_
    refine WL.runk 2 [6, 7] [(6, .int .i64 0), (7, .int .i64 2)] (by kernel_rfl) ?_
    refine WL.nil ?_
    refine WQ.then_normal (hK25 _ _ _ ?_)
    refine WP.ret ?_
    refine WQ.then_ret ?_
    obtain rfl := Option.some.inj hm
    exact WQ.ret2 _ _ rfl rfl rfl ⟨rfl, hb21⟩
  have hm := iteF hm hc24
  refine WP.skip ?_
  refine WQ.then_normal (hK14 _ _ _ ?_)
  refine WP.seq (fun K26 hK26 => ?_)
  refine WP.region ?_
  refine WL.runk 2 [15, 16] [(15, .slice a0' list_0.length c0'), (16, .string (bs name_1))] (by kernel_rfl) ?_
  obtain ⟨x27, hx28, hm⟩ := bindE hm
  refine WL.call 64 #[.slice a0' list_0.length c0', .string (bs name_1)] rfl rfl (by kernel_rfl) (c_64 n list_0 a0' c0' name_1 w18 hx28 (Rd.below h0 hb21) hle0) ?_
  rintro _ w29 ⟨rfl, hE30⟩
  refine ⟨_, rfl, ?_⟩
  have hb32 : Ext w w29 := Ext.trans hb21 hE30
  have hL33 : w.heap.size ≤ w29.heap.size := Nat.le_trans hL22 hE30.size
  have hS34 : SH w29 w.heap.size [] := SH.ext hS23 hE30
  refine WL.runk 1 [8] [(8, .int .i64 x27)] (by kernel_rfl) ?_
  refine WL.nil ?_
  refine WQ.then_normal (hK26 _ _ _ ?_)
  refine WP.seq (fun K35 hK35 => ?_)
  refine WP.seq (fun K36 hK36 => ?_)
  refine WP.region ?_
  refine WL.runk 2 [8, 19] [(8, .int .i64 x27), (19, .bool (decide (x27 < 0)))] (by kernel_rfl) ?_
  refine WL.nil ?_
  refine WQ.then_normal (hK36 _ _ _ ?_)
  refine WP.cond (decide (x27 < 0)) rfl rfl (fun hc37 => ?_) (fun hc37 => ?_)
  · have hm := iteT hm hc37
    refine WP.seq (fun K38 hK38 => ?_)
    refine WP.region ?_
    refine WL.runk 2 [6, 7] [(6, .int .i64 0), (7, .int .i64 3)] (by kernel_rfl) ?_
    refine WL.nil ?_
    refine WQ.then_normal (hK38 _ _ _ ?_)
    refine WP.ret ?_
    refine WQ.then_ret ?_
    obtain rfl := Option.some.inj hm
    exact WQ.ret2 _ _ rfl rfl rfl ⟨rfl, hb32⟩
  have hm := iteF hm hc37
  refine WP.skip ?_
  refine WQ.then_normal (hK35 _ _ _ ?_)
  refine WP.seq (fun K39 hK39 => ?_)
  refine WP.region ?_
  refine WL.runk 3 [6, 7] [(6, .int .i64 x27), (7, .int .i64 0)] (by kernel_rfl) ?_
  refine WL.nil ?_
  refine WQ.then_normal (hK39 _ _ _ ?_)
  refine WP.ret ?_
  obtain rfl := Option.some.inj hm
  exact WQ.ret2 _ _ rfl rfl rfl ⟨rfl, hb32⟩

theorem c_26 (n : Nat) (list_0 : List SGood) (a0' : Option Addr) (c0' : Nat) (name_1 : List UInt8) (many_2 : Int) (w : World) {r : List SGood × Int} (hm : m_spec_ReserveGood n list_0 name_1 many_2 = some r) (h0 : Rd fGood.ty w a0' list_0) (hle0 : list_0.length ≤ c0') :
    CallV Try.prog 26 #[.slice a0' list_0.length c0', .string (bs name_1), .int .i64 many_2] w (fun v w' => ∃ (ra0 : Option Addr) (rc0 : Nat), v = .tuple #[.slice ra0 r.1.length rc0, .int .i64 r.2] ∧ Ext w w' ∧ SH w' w.heap.size [aOwn fGood 56 ra0 rc0 r.1]) := by
  unfold m_spec_ReserveGood at hm
  refine CallV.enter Try.func26 rfl (by kernel_rfl) Try.ntmps26 (env := [(0, .slice a0' list_0.length c0'), (1, .string (bs name_1)), (2, .int .i64 many_2)]) ⟨rfl, rfl, rfl, trivial⟩ ?_
  refine WP.seq (fun K1 hK1 => ?_)
  refine WP.region ?_
  refine WL.runk 2 [0, 1, 2] [(0, .slice a0' list_0.length c0'), (1, .string (bs name_1)), (2, .int .i64 many_2)] (by kernel_rfl) ?_
  refine WL.nil ?_
  refine WQ.then_normal (hK1 _ _ _ ?_)
  refine WP.seq (fun K2 hK2 => ?_)
  refine WP.region ?_
  refine WL.runk 3 [0, 2, 13, 14, 15] [(0, .slice a0' list_0.length c0'), (2, .int .i64 many_2), (13, .slice a0' list_0.length c0'), (14, .string (bs name_1)), (15, .int .i64 many_2)] (by kernel_rfl) ?_
  obtain ⟨x3, hx4, hm⟩ := bindE hm
  refine WL.call 56 #[.slice a0' list_0.length c0', .string (bs name_1), .int .i64 many_2] rfl rfl (by kernel_rfl) (c_56 n list_0 a0' c0' name_1 many_2 w hx4 (Rd.below h0 (Ext.refl w)) hle0) ?_
  rintro _ w5 ⟨rfl, hE6⟩
  refine ⟨_, rfl, ?_⟩
  have hb8 : Ext w w5 := Ext.trans (Ext.refl w) hE6
  have hL9 : w.heap.size ≤ w5.heap.size := Nat.le_trans (Nat.le_refl _) hE6.size
  have hS10 : SH w5 w.heap.size [] := SH.ext (SH.nil _ _) hE6
  refine WL.runk 5 [0, 2, 8, 9] [(0, .slice a0' list_0.length c0'), (2, .int .i64 many_2), (8, .int .i64 x3.1), (9, .int .i64 x3.2)] (by kernel_rfl) ?_
  refine WL.nil ?_
  refine WQ.then_normal (hK2 _ _ _ ?_)
  refine WP.seq (fun K11 hK11 => ?_)
  refine WP.seq (fun K12 hK12 => ?_)
  obtain ⟨x28, hx29, hm⟩ := bindE hm
  refine WP.cut (fun env' w' => env' = [(0, .slice a0' list_0.length c0'), (2, .int .i64 many_2), (8, .int .i64 x3.1), (9, .int .i64 x3.2), (35, .bool x28)] ∧ Ext w w' ∧ w.heap.size ≤ w'.heap.size ∧ SH w' w.heap.size []) ?_ ?_
  · have hm := hx29; clear hx29
    refine WP.quiet (by kernel_rfl) (by kernel_rfl) ?_
    refine QL.step1v 19 (.int .i64 x3.2) rfl (fun _ => by kernel_rfl) ?_
    refine QL.step1v 20 (.bool (x3.2 == 0)) rfl (fun _ => by kernel_rfl) ?_
    refine QL.step1v 21 (.bool (x3.2 == 0)) rfl (fun _ => by kernel_rfl) ?_
    refine QL.subk [0, 2, 8, 9, 21] [(0, .slice a0' list_0.length c0'), (2, .int .i64 many_2), (8, .int .i64 x3.1), (9, .int .i64 x3.2), (21, .bool (x3.2 == 0))] (by kernel_rfl) ?_
    refine QL.case (x3.2 == 0) [21] ⟨rfl, trivial⟩ (fun hc30 => ?_) (fun hc30 => ?_)
    rotate_left
    · have hm := iteF hm hc30
      refine QL.step1v 22 undef rfl (fun _ => by kernel_rfl) ?_
      refine QL.step1v 23 undef rfl (fun _ => by kernel_rfl) ?_
      refine QL.step1v 24 undef rfl (fun _ => by kernel_rfl) ?_
      refine QL.step1v 25 undef rfl (fun _ => by kernel_rfl) ?_
      refine QL.step1v 26 undef rfl (fun _ => by kernel_rfl) ?_
      refine QL.step1v 27 undef rfl (fun _ => by kernel_rfl) ?_
      refine QL.step1v 28 undef rfl (fun _ => by kernel_rfl) ?_
      refine QL.step1v 29 undef rfl (fun _ => by kernel_rfl) ?_
      refine QL.step1v 30 undef rfl (fun _ => by kernel_rfl) ?_
      refine QL.step1v 31 undef rfl (fun _ => by kernel_rfl) ?_
      refine QL.step1v 32 undef rfl (fun _ => by kernel_rfl) ?_
      refine QL.step1v 33 undef rfl (fun _ => by kernel_rfl) ?_
      refine QL.step1v 34 undef rfl (fun _ => by kernel_rfl) ?_
      refine QL.step1v 35 (.bool false) rfl (fun _ => by kernel_rfl) ?_
      refine QL.subk [0, 2, 8, 9, 35] [(0, .slice a0' list_0.length c0'), (2, .int .i64 many_2), (8, .int .i64 x3.1), (9, .int .i64 x3.2), (35, .bool false)] (by kernel_rfl) ?_
      refine QL.nil ?_
      intro w40 hE41
      have hb42 : Ext w w40 := Ext.trans hb8 hE41
      have hL43 : w.heap.size ≤ w40.heap.size := Nat.le_trans hL9 hE41.size
      have hS44 : SH w40 w.heap.size [] := SH.ext hS10 hE41
      obtain rfl := Option.some.inj hm
      exact WQ.post' ⟨rfl, hb42, hL43, hS44⟩ ⟨rfl, rfl, rfl, rfl, rfl, trivial⟩
    have hm := iteT hm hc30
    refine QL.step1v 22 (.slice a0' list_0.length c0') rfl (fun _ => by kernel_rfl) ?_
    refine QL.step1v 23 (.int .i64 x3.1) rfl (fun _ => by kernel_rfl) ?_
    refine QL.subk [0, 2, 8, 9, 21, 22, 23] [(0, .slice a0' list_0.length c0'), (2, .int .i64 many_2), (8, .int .i64 x3.1), (9, .int .i64 x3.2), (21, .bool true), (22, .slice a0' list_0.length c0'), (23, .int .i64 x3.1)] (by kernel_rfl) ?_
    obtain ⟨x31, hx32, hm⟩ := bindE hm
    refine QL.st (.pointer (some (at_ a0' (Int.toNat x3.1 * 4)))) (ST.index (T := fGood.ty) (xs := list_0) (Rd.below h0 hb8) hx32 rfl rfl rfl Try.underlying25 (info56).1 (info56).2.1) rfl rfl rfl ?_
    refine QL.step1v 25 (.pointer (some (at_ a0' (Int.toNat x3.1 * 4 + 2)))) rfl (fun _ => by kernel_rfl) ?_
    refine QL.subk [0, 2, 8, 9, 21, 25] [(0, .slice a0' list_0.length c0'), (2, .int .i64 many_2), (8, .int .i64 x3.1), (9, .int .i64 x3.2), (21, .bool true), (25, .pointer (some (at_ a0' (Int.toNat x3.1 * 4 + 2))))] (by kernel_rfl) ?_
    refine QL.st (.int .i64 x31.Reserved) (ST.load (cell_ext (Rd.flat (F := fGood) (Rd.below h0 hb8) hx32 2 rfl)) rfl rfl Try.underlying2 rfl) rfl rfl rfl ?_
    refine QL.step1v 27 (.int .i64 many_2) rfl (fun _ => by kernel_rfl) ?_
    refine QL.step1v 28 (.int .i64 (wI64 (x31.Reserved + many_2))) rfl (fun _ => by kernel_rfl) ?_
    refine QL.step1v 29 (.slice a0' list_0.length c0') rfl (fun _ => by kernel_rfl) ?_
    refine QL.step1v 30 (.int .i64 x3.1) rfl (fun _ => by kernel_rfl) ?_
    refine QL.subk [0, 2, 8, 9, 21, 28, 29, 30] [(0, .slice a0' list_0.length c0'), (2, .int .i64 many_2), (8, .int .i64 x3.1), (9, .int .i64 x3.2), (21, .bool true), (28, .int .i64 (wI64 (x31.Reserved + many_2))), (29, .slice a0' list_0.length c0'), (30, .int .i64 x3.1)] (by kernel_rfl) ?_
    obtain ⟨x33, hx34, hm⟩ := bindE hm
    refine QL.st (.pointer (some (at_ a0' (Int.toNat x3.1 * 4)))) (ST.index (T := fGood.ty) (xs := list_0) (Rd.below h0 hb8) hx34 rfl rfl rfl Try.underlying25 (info56).1 (info56).2.1) rfl rfl rfl ?_
    refine QL.step1v 32 (.pointer (some (at_ a0' (Int.toNat x3.1 * 4 + 1)))) rfl (fun _ => by kernel_rfl) ?_
    refine QL.subk [0, 2, 8, 9, 21, 28, 32] [(0, .slice a0' list_0.length c0'), (2, .int .i64 many_2), (8, .int .i64 x3.1), (9, .int .i64 x3.2), (21, .bool true), (28, .int .i64 (wI64 (x31.Reserved + many_2))), (32, .pointer (some (at_ a0' (Int.toNat x3.1 * 4 + 1))))] (by kernel_rfl) ?_
    refine QL.st (.int .i64 x33.OnHand) (ST.load (cell_ext (Rd.flat (F := fGood) (Rd.below h0 hb8) hx34 1 rfl)) rfl rfl Try.underlying2 rfl) rfl rfl rfl ?_
    refine QL.step1v 34 (.bool (decide ((wI64 (x31.Reserved + many_2)) > x33.OnHand))) rfl (fun _ => by kernel_rfl) ?_
    refine QL.step1v 35 (.bool (decide ((wI64 (x31.Reserved + many_2)) > x33.OnHand))) rfl (fun _ => by kernel_rfl) ?_
    refine QL.subk [0, 2, 8, 9, 35] [(0, .slice a0' list_0.length c0'), (2, .int .i64 many_2), (8, .int .i64 x3.1), (9, .int .i64 x3.2), (35, .bool (decide ((wI64 (x31.Reserved + many_2)) > x33.OnHand)))] (by kernel_rfl) ?_
    refine QL.nil ?_
    intro w35 hE36
    have hb37 : Ext w w35 := Ext.trans hb8 hE36
    have hL38 : w.heap.size ≤ w35.heap.size := Nat.le_trans hL9 hE36.size
    have hS39 : SH w35 w.heap.size [] := SH.ext hS10 hE36
    obtain rfl := Option.some.inj hm
    exact WQ.post' ⟨rfl, hb37, hL38, hS39⟩ ⟨rfl, rfl, rfl, rfl, rfl, trivial⟩
  clear hx29
  rintro _ w45 ⟨rfl, hb46, hL47, hS48⟩
  refine WQ.then_normal (hK12 _ _ _ ?_)
  obtain ⟨x50, hx51, hm⟩ := bindE hm
  refine WP.cut (fun env' w' => env' = [(0, .slice a0' list_0.length c0'), (2, .int .i64 many_2), (8, .int .i64 x3.1), (9, .int .i64 x50)] ∧ Ext w w' ∧ w.heap.size ≤ w'.heap.size ∧ SH w' w.heap.size []) ?_ ?_
  · have hm := hx51; clear hx51
    refine WP.cond x28 rfl rfl (fun hc49 => ?_) (fun hc49 => ?_)
    rotate_left
    · have hm := iteF hm hc49
      refine WP.skip ?_
      obtain rfl := Option.some.inj hm
      exact WQ.post' ⟨rfl, hb46, hL47, hS48⟩ ⟨rfl, rfl, rfl, rfl, trivial⟩
    have hm := iteT hm hc49
    refine WP.region ?_
    refine WL.runk 1 [0, 2, 8, 9] [(0, .slice a0' list_0.length c0'), (2, .int .i64 many_2), (8, .int .i64 x3.1), (9, .int .i64 10)] (by kernel_rfl) ?_
    refine WL.nil ?_
    obtain rfl := Option.some.inj hm
    exact WQ.post' ⟨rfl, hb46, hL47, hS48⟩ ⟨rfl, rfl, rfl, rfl, trivial⟩
  clear hx51
  rintro _ w52 ⟨rfl, hb53, hL54, hS55⟩
  refine WQ.then_normal (hK11 _ _ _ ?_)
  refine WP.seq (fun K56 hK56 => ?_)
  refine WP.seq (fun K57 hK57 => ?_)
  refine WP.region ?_
  refine WL.runk 2 [0, 2, 8, 9, 37] [(0, .slice a0' list_0.length c0'), (2, .int .i64 many_2), (8, .int .i64 x3.1), (9, .int .i64 x50), (37, .bool (x50 != 0))] (by kernel_rfl) ?_
  refine WL.nil ?_
  refine WQ.then_normal (hK57 _ _ _ ?_)
  refine WP.cond (x50 != 0) rfl rfl (fun hc58 => ?_) (fun hc58 => ?_)
  · have hm := iteT hm hc58
    refine WP.seq (fun K59 hK59 => ?_)
    refine WP.region ?_
    refine WL.runk 3 [6, 7] [(6, .slice none 0 0), (7, .int .i64 x50)] (by kernel_rfl) ?_
    refine WL.nil ?_
    refine WQ.then_normal (hK59 _ _ _ ?_)
    refine WP.ret ?_
    refine WQ.then_ret ?_
    obtain rfl := Option.some.inj hm
    have hS61 : SH w52 w.heap.size [aOwn fGood 56 none 0 ([] : List SGood)] := SH.nilOwn hS55
    exact WQ.ret2 _ _ rfl rfl rfl ⟨_, _, rfl, hb53, hS61⟩
  have hm := iteF hm hc58
  refine WP.skip ?_
  refine WQ.then_normal (hK56 _ _ _ ?_)
  refine WP.seq (fun K62 hK62 => ?_)
  refine WP.region ?_
  refine WL.row fGood 56 ([] : List SGood) 0 #[] 39 (by kernel_rfl) rfl rfl rfl rfl rfl rfl rfl ?_
  intro a63 c64 w65 hE66 hR67
  have hb69 : Ext w w65 := Ext.trans hb53 hE66
  have hL70 : w.heap.size ≤ w65.heap.size := Nat.le_trans hL54 hE66.size
  have hS71 : SH w65 w.heap.size [aOwn fGood 56 a63 c64 ([] : List SGood)] := SH.add hS55 hE66 hL54 hR67
  refine WL.runk 1 [2, 8, 39, 40] [(2, .int .i64 many_2), (8, .int .i64 x3.1), (39, .slice a63 (([] : List SGood).length) c64), (40, .slice a0' list_0.length c0')] (by kernel_rfl) ?_
  obtain ⟨x72, hx73, hm⟩ := bindE hm
  refine WL.append (F := fGood) (xs := ([] : List SGood)) (ys := list_0) 41 (SH.front 0 hS71) hL70 (Rd.below h0 hb69) hx73 rfl rfl rfl Try.underlying25 (info56).1 (info56).2.2.1 (info56).2.1 (info56).2.2.2 rfl rfl rfl rfl rfl ?_
  intro a74 c75 w76 hB77 hS78
  have hb79 : Ext w w76 := Below.trans hb69 hB77
  have hL80 : w.heap.size ≤ w76.heap.size := Nat.le_trans hL70 hB77.size
  refine WL.runk 1 [2, 8, 10] [(2, .int .i64 many_2), (8, .int .i64 x3.1), (10, .slice a74 x72.length c75)] (by kernel_rfl) ?_
  refine WL.nil ?_
  refine WQ.then_normal (hK62 _ _ _ ?_)
  refine WP.seq (fun K81 hK81 => ?_)
  refine WP.region ?_
  refine WL.runk 2 [2, 8, 10, 42, 43] [(2, .int .i64 many_2), (8, .int .i64 x3.1), (10, .slice a74 x72.length c75), (42, .slice a74 x72.length c75), (43, .int .i64 x3.1)] (by kernel_rfl) ?_
  obtain ⟨x82, hx83, hm⟩ := bindE hm
  refine WL.st (.pointer (some (at_ a74 (Int.toNat x3.1 * 4)))) (ST.index (T := fGood.ty) (xs := x72) (SH.rd (SH.front 0 hS78)) hx83 rfl rfl rfl Try.underlying25 (info56).1 (info56).2.1) rfl rfl rfl ?_
  refine WL.st (.agg #[.string (bs x82.Name), .int .i64 x82.OnHand, .int .i64 x82.Reserved, .int .i64 x82.Least]) (ST.loadAgg (vs := fGood.leaf x82) (fun j v hv => Rd.flatA (F := fGood) (SH.rd (SH.front 0 hS78)) hx83 j hv) rfl rfl rfl Try.underlying56 rfl (info56).1 (info56).2.1) rfl rfl rfl ?_
  refine WL.box 56 [.string (bs []), .int .i64 0, .int .i64 0, .int .i64 0] 11 (by kernel_rfl) rfl rfl rfl rfl ?_
  intro b84 w85 hE86 hR87
  have hb89 : Ext w w85 := Ext.trans hb79 hE86
  have hL90 : w.heap.size ≤ w85.heap.size := Nat.le_trans hL80 hE86.size
  have hS91 : SH w85 w.heap.size [aBox 56 b84 [.string (bs []), .int .i64 0, .int .i64 0, .int .i64 0], aOwn fGood 56 a74 c75 x72] := SH.add hS78 hE86 hL80 hR87
  refine WL.boxStore 0 [.string (bs x82.Name), .int .i64 x82.OnHand, .int .i64 x82.Reserved, .int .i64 x82.Least] [.string (bs x82.Name), .int .i64 x82.OnHand, .int .i64 x82.Reserved, .int .i64 x82.Least] (SH.front 0 hS91) hL90 rfl rfl rfl rfl rfl rfl rfl (info56).1 (info56).2.1 rfl rfl rfl ?_
  intro w92 hB93 hS94
  have hb95 : Ext w w92 := Below.trans hb89 hB93
  have hL96 : w.heap.size ≤ w92.heap.size := Nat.le_trans hL90 hB93.size
  refine WL.sub [(2, .int .i64 many_2), (8, .int .i64 x3.1), (10, .slice a74 x72.length c75), (11, .pointer (some ⟨b84, 0, none⟩))] ⟨rfl, rfl, rfl, rfl, trivial⟩ ?_
  refine WL.nil ?_
  refine WQ.then_normal (hK81 _ _ _ ?_)
  refine WP.seq (fun K97 hK97 => ?_)
  refine WP.region ?_
  refine WL.runk 1 [2, 8, 10, 11, 46] [(2, .int .i64 many_2), (8, .int .i64 x3.1), (10, .slice a74 x72.length c75), (11, .pointer (some ⟨b84, 0, none⟩)), (46, .pointer (some ⟨b84, 2, none⟩))] (by kernel_rfl) ?_
  refine WL.st (.int .i64 x82.Reserved) (ST.load (cell_ext (SH.boxAt (SH.front 0 hS94) 2 _ rfl)) rfl rfl Try.underlying2 rfl) rfl rfl rfl ?_
  refine WL.runk 3 [8, 10, 11, 49, 50] [(8, .int .i64 x3.1), (10, .slice a74 x72.length c75), (11, .pointer (some ⟨b84, 0, none⟩)), (49, .int .i64 (wI64 (x82.Reserved + many_2))), (50, .pointer (some ⟨b84, 2, none⟩))] (by kernel_rfl) ?_
  refine WL.boxStore 2 [.int .i64 (wI64 (x82.Reserved + many_2))] [.string (bs x82.Name), .int .i64 x82.OnHand, .int .i64 (wI64 (x82.Reserved + many_2)), .int .i64 x82.Least] (SH.front 0 hS94) hL96 rfl rfl rfl rfl rfl rfl rfl (info2).1 (info2).2.1 rfl rfl rfl ?_
  intro w98 hB99 hS100
  have hb101 : Ext w w98 := Below.trans hb95 hB99
  have hL102 : w.heap.size ≤ w98.heap.size := Nat.le_trans hL96 hB99.size
  refine WL.sub [(8, .int .i64 x3.1), (10, .slice a74 x72.length c75), (11, .pointer (some ⟨b84, 0, none⟩))] ⟨rfl, rfl, rfl, trivial⟩ ?_
  refine WL.nil ?_
  refine WQ.then_normal (hK97 _ _ _ ?_)
  refine WP.seq (fun K103 hK103 => ?_)
  refine WP.region ?_
  refine WL.runk 2 [10, 11, 51, 52] [(10, .slice a74 x72.length c75), (11, .pointer (some ⟨b84, 0, none⟩)), (51, .slice a74 x72.length c75), (52, .int .i64 x3.1)] (by kernel_rfl) ?_
  refine WL.st (.agg #[.string (bs x82.Name), .int .i64 x82.OnHand, .int .i64 (wI64 (x82.Reserved + many_2)), .int .i64 x82.Least]) (ST.loadAgg (vs := [.string (bs x82.Name), .int .i64 x82.OnHand, .int .i64 (wI64 (x82.Reserved + many_2)), .int .i64 x82.Least]) (fun j v hv => SH.boxPart (us := [.string (bs x82.Name), .int .i64 x82.OnHand, .int .i64 (wI64 (x82.Reserved + many_2)), .int .i64 x82.Least]) (SH.front 0 hS100) 0 rfl j v hv) rfl rfl rfl Try.underlying56 rfl (info56).1 (info56).2.1) rfl rfl rfl ?_
  obtain ⟨x104, hx105, hm⟩ := bindE hm
  refine WL.st (.pointer (some (at_ a74 (Int.toNat x3.1 * 4)))) (ST.index (T := fGood.ty) (xs := x72) (SH.rd (SH.front 1 hS100)) hx105 rfl rfl rfl Try.underlying25 (info56).1 (info56).2.1) rfl rfl rfl ?_
  refine WL.store (F := fGood) (SGood.mk x82.Name x82.OnHand (wI64 (x82.Reserved + many_2)) x82.Least) 0 [.string (bs x82.Name), .int .i64 x82.OnHand, .int .i64 (wI64 (x82.Reserved + many_2)), .int .i64 x82.Least] (SH.front 1 hS100) hL102 hx105 rfl rfl rfl rfl rfl rfl rfl (info56).1 (info56).2.1 rfl rfl rfl ?_
  intro w106 hB107 hS108
  have hb109 : Ext w w106 := Below.trans hb101 hB107
  have hL110 : w.heap.size ≤ w106.heap.size := Nat.le_trans hL102 hB107.size
  refine WL.sub [(10, .slice a74 ((x72.set (Int.toNat x3.1) (SGood.mk x82.Name x82.OnHand (wI64 (x82.Reserved + many_2)) x82.Least)).length) c75), (11, .pointer (some ⟨b84, 0, none⟩)), (51, .slice a74 ((x72.set (Int.toNat x3.1) (SGood.mk x82.Name x82.OnHand (wI64 (x82.Reserved + many_2)) x82.Least)).length) c75), (52, .int .i64 x3.1), (53, .agg #[.string (bs x82.Name), .int .i64 x82.OnHand, .int .i64 (wI64 (x82.Reserved + many_2)), .int .i64 x82.Least])] ⟨by first | (simp only [List.length_set]; done) | (simp only [List.length_set]; rfl), rfl, by first | (simp only [List.length_set]; done) | (simp only [List.length_set]; rfl), rfl, rfl, trivial⟩ ?_
  refine WL.sub [(10, .slice a74 ((x72.set (Int.toNat x3.1) (SGood.mk x82.Name x82.OnHand (wI64 (x82.Reserved + many_2)) x82.Least)).length) c75)] ⟨rfl, trivial⟩ ?_
  refine WL.nil ?_
  refine WQ.then_normal (hK103 _ _ _ ?_)
  refine WP.seq (fun K111 hK111 => ?_)
  refine WP.region ?_
  refine WL.runk 3 [6, 7] [(6, .slice a74 ((x72.set (Int.toNat x3.1) (SGood.mk x82.Name x82.OnHand (wI64 (x82.Reserved + many_2)) x82.Least)).length) c75), (7, .int .i64 0)] (by kernel_rfl) ?_
  refine WL.nil ?_
  refine WQ.then_normal (hK111 _ _ _ ?_)
  refine WP.ret ?_
  obtain rfl := Option.some.inj hm
  exact WQ.ret2 _ _ rfl rfl rfl ⟨_, _, rfl, hb109, (SH.take 1 hS108)⟩

theorem c_94 (n : Nat) (x_0 : List UInt8) (w : World) {r : Bool} (hm : m_cmp_isNaN_string n x_0 = some r)  :
    CallV Try.prog 94 #[.string (bs x_0)] w (fun v w' => v = .bool r ∧ Ext w w') := by
  unfold m_cmp_isNaN_string at hm
  refine CallV.enter Try.func94 rfl (by kernel_rfl) Try.ntmps94 (env := [(0, .string (bs x_0))]) ⟨rfl, trivial⟩ ?_
  refine WP.seq (fun K1 hK1 => ?_)
  refine WP.region ?_
  refine WL.runk 1 [0] [(0, .string (bs x_0))] (by kernel_rfl) ?_
  refine WL.nil ?_
  refine WQ.then_normal (hK1 _ _ _ ?_)
  refine WP.seq (fun K2 hK2 => ?_)
  refine WP.region ?_
  refine WL.runk 2 [3, 4] [(3, .string (bs x_0)), (4, .string (bs x_0))] (by kernel_rfl) ?_
  refine WL.st (.bool (!(x_0 == x_0))) (ST.strne (x := x_0) (y := x_0) rfl rfl rfl) rfl rfl rfl ?_
  refine WL.runk 1 [2] [(2, .bool (!(x_0 == x_0)))] (by kernel_rfl) ?_
  refine WL.nil ?_
  refine WQ.then_normal (hK2 _ _ _ ?_)
  refine WP.ret ?_
  obtain rfl := Option.some.inj hm
  exact WQ.ret1 _ rfl rfl ⟨rfl, (Ext.refl w)⟩

theorem c_85 (n : Nat) (x_0 : List UInt8) (y_1 : List UInt8) (w : World) {r : Int} (hm : m_cmp_Compare_string n x_0 y_1 = some r)  :
    CallV Try.prog 85 #[.string (bs x_0), .string (bs y_1)] w (fun v w' => v = .int .i64 r ∧ Ext w w') := by
  unfold m_cmp_Compare_string at hm
  refine CallV.enter Try.func85 rfl (by kernel_rfl) Try.ntmps85 (env := [(0, .string (bs x_0)), (1, .string (bs y_1))]) ⟨rfl, rfl, trivial⟩ ?_
  refine WP.seq (fun K1 hK1 => ?_)
  refine WP.region ?_
  refine WL.runk 1 [0, 1] [(0, .string (bs x_0)), (1, .string (bs y_1))] (by kernel_rfl) ?_
  refine WL.nil ?_
  refine WQ.then_normal (hK1 _ _ _ ?_)
  refine WP.seq (fun K2 hK2 => ?_)
  refine WP.region ?_
  refine WL.runk 1 [0, 1, 7] [(0, .string (bs x_0)), (1, .string (bs y_1)), (7, .string (bs x_0))] (by kernel_rfl) ?_
  obtain ⟨x3, hx4, hm⟩ := bindE hm
  refine WL.call 94 #[.string (bs x_0)] rfl rfl (by kernel_rfl) (c_94 n x_0 w hx4 ) ?_
  rintro _ w5 ⟨rfl, hE6⟩
  refine ⟨_, rfl, ?_⟩
  have hb8 : Ext w w5 := Ext.trans (Ext.refl w) hE6
  have hL9 : w.heap.size ≤ w5.heap.size := Nat.le_trans (Nat.le_refl _) hE6.size
  have hS10 : SH w5 w.heap.size [] := SH.ext (SH.nil _ _) hE6
  refine WL.runk 1 [0, 1, 5] [(0, .string (bs x_0)), (1, .string (bs y_1)), (5, .bool x3)] (by kernel_rfl) ?_
  refine WL.nil ?_
  refine WQ.then_normal (hK2 _ _ _ ?_)
  refine WP.seq (fun K11 hK11 => ?_)
  refine WP.region ?_
  refine WL.runk 1 [0, 1, 5, 9] [(0, .string (bs x_0)), (1, .string (bs y_1)), (5, .bool x3), (9, .string (bs y_1))] (by kernel_rfl) ?_
  obtain ⟨x12, hx13, hm⟩ := bindE hm
  refine WL.call 94 #[.string (bs y_1)] rfl rfl (by kernel_rfl) (c_94 n y_1 w5 hx13 ) ?_
  rintro _ w14 ⟨rfl, hE15⟩
  refine ⟨_, rfl, ?_⟩
  have hb17 : Ext w w14 := Ext.trans hb8 hE15
  have hL18 : w.heap.size ≤ w14.heap.size := Nat.le_trans hL9 hE15.size
  have hS19 : SH w14 w.heap.size [] := SH.ext hS10 hE15
  refine WL.runk 1 [0, 1, 5, 6] [(0, .string (bs x_0)), (1, .string (bs y_1)), (5, .bool x3), (6, .bool x12)] (by kernel_rfl) ?_
  refine WL.nil ?_
  refine WQ.then_normal (hK11 _ _ _ ?_)
  refine WP.seq (fun K20 hK20 => ?_)
  refine WP.seq (fun K21 hK21 => ?_)
  refine WP.region ?_
  refine WL.runk 1 [0, 1, 6, 11] [(0, .string (bs x_0)), (1, .string (bs y_1)), (6, .bool x12), (11, .bool x3)] (by kernel_rfl) ?_
  refine WL.nil ?_
  refine WQ.then_normal (hK21 _ _ _ ?_)
  refine WP.cond x3 rfl rfl (fun hc22 => ?_) (fun hc22 => ?_)
  · have hm := iteT hm hc22
    refine WP.seq (fun K23 hK23 => ?_)
    refine WP.seq (fun K24 hK24 => ?_)
    refine WP.region ?_
    refine WL.runk 1 [12] [(12, .bool x12)] (by kernel_rfl) ?_
    refine WL.nil ?_
    refine WQ.then_normal (hK24 _ _ _ ?_)
    refine WP.cond x12 rfl rfl (fun hc25 => ?_) (fun hc25 => ?_)
    · have hm := iteT hm hc25
      refine WP.seq (fun K26 hK26 => ?_)
      refine WP.region ?_
      refine WL.runk 1 [4] [(4, .int .i64 0)] (by kernel_rfl) ?_
      refine WL.nil ?_
      refine WQ.then_normal (hK26 _ _ _ ?_)
      refine WP.ret ?_
      refine WQ.then_ret ?_
      refine WQ.then_ret ?_
      obtain rfl := Option.some.inj hm
      exact WQ.ret1 _ rfl rfl ⟨rfl, hb17⟩
    have hm := iteF hm hc25
    refine WP.skip ?_
    refine WQ.then_normal (hK23 _ _ _ ?_)
    refine WP.seq (fun K27 hK27 => ?_)
    refine WP.region ?_
    refine WL.runk 1 [4] [(4, .int .i64 (-1))] (by kernel_rfl) ?_
    refine WL.nil ?_
    refine WQ.then_normal (hK27 _ _ _ ?_)
    refine WP.ret ?_
    refine WQ.then_ret ?_
    obtain rfl := Option.some.inj hm
    exact WQ.ret1 _ rfl rfl ⟨rfl, hb17⟩
  have hm := iteF hm hc22
  refine WP.skip ?_
  refine WQ.then_normal (hK20 _ _ _ ?_)
  refine WP.seq (fun K28 hK28 => ?_)
  refine WP.seq (fun K29 hK29 => ?_)
  refine WP.region ?_
  refine WL.runk 1 [0, 1, 13] [(0, .string (bs x_0)), (1, .string (bs y_1)), (13, .bool x12)] (by kernel_rfl) ?_
  refine WL.nil ?_
  refine WQ.then_normal (hK29 _ _ _ ?_)
  refine WP.cond x12 rfl rfl (fun hc30 => ?_) (fun hc30 => ?_)
  · have hm := iteT hm hc30
    refine WP.seq (fun K31 hK31 => ?_)
    refine WP.region ?_
    refine WL.runk 1 [4] [(4, .int .i64 1)] (by kernel_rfl) ?_
    refine WL.nil ?_
    refine WQ.then_normal (hK31 _ _ _ ?_)
    refine WP.ret ?_
    refine WQ.then_ret ?_
    obtain rfl := Option.some.inj hm
    exact WQ.ret1 _ rfl rfl ⟨rfl, hb17⟩
  have hm := iteF hm hc30
  refine WP.skip ?_
  refine WQ.then_normal (hK28 _ _ _ ?_)
  refine WP.seq (fun K32 hK32 => ?_)
  refine WP.seq (fun K33 hK33 => ?_)
  refine WP.region ?_
  refine WL.runk 2 [0, 1, 14, 15] [(0, .string (bs x_0)), (1, .string (bs y_1)), (14, .string (bs x_0)), (15, .string (bs y_1))] (by kernel_rfl) ?_
  refine WL.st (.bool (strLt x_0 y_1)) (ST.strlt (x := x_0) (y := y_1) rfl rfl rfl) rfl rfl rfl ?_
  refine WL.sub [(0, .string (bs x_0)), (1, .string (bs y_1)), (16, .bool (strLt x_0 y_1))] ⟨rfl, rfl, rfl, trivial⟩ ?_
  refine WL.nil ?_
  refine WQ.then_normal (hK33 _ _ _ ?_)
  refine WP.cond (strLt x_0 y_1) rfl rfl (fun hc34 => ?_) (fun hc34 => ?_)
  · have hm := iteT hm hc34
    refine WP.seq (fun K35 hK35 => ?_)
    refine WP.region ?_
    refine WL.runk 1 [4] [(4, .int .i64 (-1))] (by kernel_rfl) ?_
    refine WL.nil ?_
    refine WQ.then_normal (hK35 _ _ _ ?_)
    refine WP.ret ?_
    refine WQ.then_ret ?_
    obtain rfl := Option.some.inj hm
    exact WQ.ret1 _ rfl rfl ⟨rfl, hb17⟩
  have hm := iteF hm hc34
  refine WP.skip ?_
  refine WQ.then_normal (hK32 _ _ _ ?_)
  refine WP.seq (fun K36 hK36 => ?_)
  refine WP.seq (fun K37 hK37 => ?_)
  refine WP.region ?_
  refine WL.runk 2 [17, 18] [(17, .string (bs x_0)), (18, .string (bs y_1))] (by kernel_rfl) ?_
  refine WL.st (.bool (!(strLt x_0 y_1 || x_0 == y_1))) (ST.strgt (x := x_0) (y := y_1) rfl rfl rfl) rfl rfl rfl ?_
  refine WL.sub [(19, .bool (!(strLt x_0 y_1 || x_0 == y_1)))] ⟨rfl, trivial⟩ ?_
  refine WL.nil ?_
  refine WQ.then_normal (hK37 _ _ _ ?_)
  refine WP.cond (!(strLt x_0 y_1 || x_0 == y_1)) rfl rfl (fun hc38 => ?_) (fun hc38 => ?_)
  · have hm := iteT hm hc38
    refine WP.seq (fun K39 hK39 => ?_)
    refine WP.region ?_
    refine WL.runk 1 [4] [(4, .int .i64 1)] (by kernel_rfl) ?_
    refine WL.nil ?_
    refine WQ.then_normal (hK39 _ _ _ ?_)
    refine WP.ret ?_
    refine WQ.then_ret ?_
    obtain rfl := Option.some.inj hm
    exact WQ.ret1 _ rfl rfl ⟨rfl, hb17⟩
  have hm := iteF hm hc38
  refine WP.skip ?_
  refine WQ.then_normal (hK36 _ _ _ ?_)
  refine WP.seq (fun K40 hK40 => ?_)
  refine WP.region ?_
  refine WL.runk 1 [4] [(4, .int .i64 0)] (by kernel_rfl) ?_
  refine WL.nil ?_
  refine WQ.then_normal (hK40 _ _ _ ?_)
  refine WP.ret ?_
  obtain rfl := Option.some.inj hm
  exact WQ.ret1 _ rfl rfl ⟨rfl, hb17⟩

theorem c_84 (n : Nat) (g_0 : SGood) (name_1 : List UInt8) (w : World) {r : Int} (hm : m_impl_goodPlace_1 n g_0 name_1 = some r)  :
    CallV Try.prog 84 #[.agg #[.string (bs g_0.Name), .int .i64 g_0.OnHand, .int .i64 g_0.Reserved, .int .i64 g_0.Least], .string (bs name_1)] w (fun v w' => v = .int .i64 r ∧ Ext w w') := by
  unfold m_impl_goodPlace_1 at hm
  refine CallV.enter Try.func84 rfl (by kernel_rfl) Try.ntmps84 (env := [(0, .agg #[.string (bs g_0.Name), .int .i64 g_0.OnHand, .int .i64 g_0.Reserved, .int .i64 g_0.Least]), (1, .string (bs name_1))]) ⟨rfl, rfl, trivial⟩ ?_
  refine WP.seq (fun K1 hK1 => ?_)
  refine WP.region ?_
  refine WL.box 56 [.string (bs g_0.Name), .int .i64 g_0.OnHand, .int .i64 g_0.Reserved, .int .i64 g_0.Least] 2 (by kernel_rfl) rfl rfl rfl rfl ?_
  intro b2 w3 hE4 hR5
  have hb7 : Ext w w3 := Ext.trans (Ext.refl w) hE4
  have hL8 : w.heap.size ≤ w3.heap.size := Nat.le_trans (Nat.le_refl _) hE4.size
  have hS9 : SH w3 w.heap.size [aBox 56 b2 [.string (bs g_0.Name), .int .i64 g_0.OnHand, .int .i64 g_0.Reserved, .int .i64 g_0.Least]] := SH.add (SH.nil _ _) hE4 (Nat.le_refl _) hR5
  refine WL.runk 1 [1, 2] [(1, .string (bs name_1)), (2, .pointer (some ⟨b2, 0, none⟩))] (by kernel_rfl) ?_
  refine WL.nil ?_
  refine WQ.then_normal (hK1 _ _ _ ?_)
  refine WP.seq (fun K10 hK10 => ?_)
  refine WP.region ?_
  refine WL.runk 1 [1, 5] [(1, .string (bs name_1)), (5, .pointer (some ⟨b2, 0, none⟩))] (by kernel_rfl) ?_
  refine WL.st (.string (bs g_0.Name)) (ST.load (cell_ext (SH.boxAt (SH.front 0 hS9) 0 _ rfl)) rfl rfl Try.underlying9 rfl) rfl rfl rfl ?_
  refine WL.runk 1 [6, 7] [(6, .string (bs g_0.Name)), (7, .string (bs name_1))] (by kernel_rfl) ?_
  obtain ⟨x11, hx12, hm⟩ := bindE hm
  refine WL.call 85 #[.string (bs g_0.Name), .string (bs name_1)] rfl rfl (by kernel_rfl) (c_85 n g_0.Name name_1 w3 hx12 ) ?_
  rintro _ w13 ⟨rfl, hE14⟩
  refine ⟨_, rfl, ?_⟩
  have hb16 : Ext w w13 := Ext.trans hb7 hE14
  have hL17 : w.heap.size ≤ w13.heap.size := Nat.le_trans hL8 hE14.size
  have hS18 : SH w13 w.heap.size [aBox 56 b2 [.string (bs g_0.Name), .int .i64 g_0.OnHand, .int .i64 g_0.Reserved, .int .i64 g_0.Least]] := SH.ext hS9 hE14
  refine WL.runk 1 [4] [(4, .int .i64 x11)] (by kernel_rfl) ?_
  refine WL.nil ?_
  refine WQ.then_normal (hK10 _ _ _ ?_)
  refine WP.ret ?_
  obtain rfl := Option.some.inj hm
  exact WQ.ret1 _ rfl rfl ⟨rfl, hb16⟩

theorem c_83_84 (n : Nat) (x_0 : List SGood) (a0' : Option Addr) (c0' : Nat) (target_1 : List UInt8) (w : World) {r : Int × Bool} (hm : m_slices_BinarySearchFunc_impl_Good_impl_Good_string_f84 n x_0 target_1 = some r) (h0 : Rd fGood.ty w a0' x_0) (_hle0 : x_0.length ≤ c0') :
    CallV Try.prog 83 #[.slice a0' x_0.length c0', .string (bs target_1), .func (.func 84) #[] #[]] w (fun v w' => v = .tuple #[.int .i64 r.1, .bool r.2] ∧ Ext w w') := by
  unfold m_slices_BinarySearchFunc_impl_Good_impl_Good_string_f84 at hm
  refine CallV.enter Try.func83 rfl (by kernel_rfl) Try.ntmps83 (env := [(0, .slice a0' x_0.length c0'), (1, .string (bs target_1)), (2, .func (.func 84) #[] #[])]) ⟨rfl, rfl, rfl, trivial⟩ ?_
  refine WP.seq (fun K1 hK1 => ?_)
  refine WP.region ?_
  refine WL.runk 2 [0, 1, 2] [(0, .slice a0' x_0.length c0'), (1, .string (bs target_1)), (2, .func (.func 84) #[] #[])] (by kernel_rfl) ?_
  refine WL.nil ?_
  refine WQ.then_normal (hK1 _ _ _ ?_)
  refine WP.seq (fun K2 hK2 => ?_)
  refine WP.region ?_
  refine WL.runk 3 [0, 1, 2, 8] [(0, .slice a0' x_0.length c0'), (1, .string (bs target_1)), (2, .func (.func 84) #[] #[]), (8, .int .i64 (x_0.length : Int))] (by kernel_rfl) ?_
  refine WL.nil ?_
  refine WQ.then_normal (hK2 _ _ _ ?_)
  refine WP.seq (fun K3 hK3 => ?_)
  refine WP.region ?_
  refine WL.runk 3 [0, 1, 2, 8, 9, 10] [(0, .slice a0' x_0.length c0'), (1, .string (bs target_1)), (2, .func (.func 84) #[] #[]), (8, .int .i64 (x_0.length : Int)), (9, .int .i64 0), (10, .int .i64 (x_0.length : Int))] (by kernel_rfl) ?_
  refine WL.nil ?_
  refine WQ.then_normal (hK3 _ _ _ ?_)
  refine WP.seq (fun K4 hK4 => ?_)
  refine WP.block ?_
  obtain ⟨t16, ht17, hm⟩ := bindE hm
  have hmo11 := hm; clear hm
  refine WP.sub [(0, .slice a0' x_0.length c0'), (1, .string (bs target_1)), (2, .func (.func 84) #[] #[]), (8, .int .i64 (x_0.length : Int)), (9, .int .i64 0), (10, .int .i64 (x_0.length : Int))] ⟨rfl, rfl, rfl, rfl, rfl, rfl, trivial⟩ ?_
  refine WP.loop (fun n' env' w' => ∃ (st5 : Int × Int) , env' = [(0, .slice a0' x_0.length c0'), (1, .string (bs target_1)), (2, .func (.func 84) #[] #[]), (8, .int .i64 (x_0.length : Int)), (9, .int .i64 st5.1), (10, .int .i64 st5.2)] ∧ Ext w w' ∧ w.heap.size ≤ w'.heap.size ∧ SH w' w.heap.size [] ∧ loopN (m_slices_BinarySearchFunc_impl_Good_impl_Good_string_f84_l1 n x_0 target_1) n' st5 = some t16) n ⟨(0, (x_0.length : Int)), rfl, (Ext.refl w), (Nat.le_refl _), (SH.nil _ _), ht17⟩ ?_
  rintro n13 _ w6 ⟨st5, rfl, hb7, hL8, hS9, hl10⟩ K12 hK12
  obtain ⟨n14, s15, rfl, hm, hl10⟩ := loopN_some hl10
  unfold m_slices_BinarySearchFunc_impl_Good_impl_Good_string_f84_l1 at hm
  refine WP.seq (fun K18 hK18 => ?_)
  refine WP.seq (fun K19 hK19 => ?_)
  refine WP.region ?_
  refine WL.runk 3 [0, 1, 2, 8, 9, 10, 17] [(0, .slice a0' x_0.length c0'), (1, .string (bs target_1)), (2, .func (.func 84) #[] #[]), (8, .int .i64 (x_0.length : Int)), (9, .int .i64 st5.1), (10, .int .i64 st5.2), (17, .bool (decide (st5.1 < st5.2)))] (by kernel_rfl) ?_
  refine WL.nil ?_
  refine WQ.then_normal (hK19 _ _ _ ?_)
  refine WP.cond (decide (st5.1 < st5.2)) rfl rfl (fun hc20 => ?_) (fun hc20 => ?_)
  rotate_left
  · have hm := iteF hm hc20
    refine WP.exit ?_
    refine WQ.then_exit ?_
    refine WQ.then_exit ?_
    refine WQ.block_here ?_
    obtain rfl := Option.some.inj hm
    obtain rfl := afterN_done hl10
    have hm := hmo11
    refine WQ.then_normal (hK4 _ _ _ ?_)
    refine WP.seq (fun K42 hK42 => ?_)
    obtain ⟨x54, hx55, hm⟩ := bindE hm
    refine WP.cut (fun env' w' => env' = [(6, .int .i64 x54.1), (7, .bool x54.2)] ∧ Ext w w' ∧ w.heap.size ≤ w'.heap.size ∧ SH w' w.heap.size []) ?_ ?_
    rotate_left
    · clear hx55
      rintro _ w67 ⟨rfl, hb68, hL69, hS70⟩
      refine WQ.then_normal (hK42 _ _ _ ?_)
      refine WP.ret ?_
      obtain rfl := Option.some.inj hm
      exact WQ.ret2 _ _ rfl rfl rfl ⟨rfl, hb68⟩
    have hm := hx55; clear hx55
    refine WP.region ?_
    refine WL.runk 5 [0, 1, 2, 9, 35, 39] [(0, .slice a0' x_0.length c0'), (1, .string (bs target_1)), (2, .func (.func 84) #[] #[]), (9, .int .i64 st5.1), (35, .int .i64 st5.1), (39, .bool (decide (st5.1 < (x_0.length : Int))))] (by kernel_rfl) ?_
    refine WL.case (decide (st5.1 < (x_0.length : Int))) [39] ⟨rfl, trivial⟩ (fun hc56 => ?_) (fun hc56 => ?_)
    rotate_left
    · have hm := iteF hm hc56
      refine WL.runk 11 [6, 7] [(6, .int .i64 st5.1), (7, .bool false)] (by kernel_rfl) ?_
      refine WL.nil ?_
      obtain rfl := Option.some.inj hm
      exact WQ.post' ⟨rfl, hb7, hL8, hS9⟩ ⟨rfl, rfl, trivial⟩
    have hm := iteT hm hc56
    refine WL.runk 3 [1, 35, 39, 40, 41, 42] [(1, .string (bs target_1)), (35, .int .i64 st5.1), (39, .bool true), (40, .func (.func 84) #[] #[]), (41, .slice a0' x_0.length c0'), (42, .int .i64 st5.1)] (by kernel_rfl) ?_
    obtain ⟨x57, hx58, hm⟩ := bindE hm
    refine WL.st (.pointer (some (at_ a0' (Int.toNat st5.1 * 4)))) (ST.index (T := fGood.ty) (xs := x_0) (Rd.below h0 hb7) hx58 rfl rfl rfl Try.underlying25 (info56).1 (info56).2.1) rfl rfl rfl ?_
    refine WL.st (.agg #[.string (bs x57.Name), .int .i64 x57.OnHand, .int .i64 x57.Reserved, .int .i64 x57.Least]) (ST.loadAgg (vs := fGood.leaf x57) (fun j v hv => Rd.flatA (F := fGood) (Rd.below h0 hb7) hx58 j hv) rfl rfl rfl Try.underlying56 rfl (info56).1 (info56).2.1) rfl rfl rfl ?_
    refine WL.runk 1 [35, 39, 40, 44, 45] [(35, .int .i64 st5.1), (39, .bool true), (40, .func (.func 84) #[] #[]), (44, .agg #[.string (bs x57.Name), .int .i64 x57.OnHand, .int .i64 x57.Reserved, .int .i64 x57.Least]), (45, .string (bs target_1))] (by kernel_rfl) ?_
    obtain ⟨x59, hx60, hm⟩ := bindE hm
    refine WL.call 84 #[.agg #[.string (bs x57.Name), .int .i64 x57.OnHand, .int .i64 x57.Reserved, .int .i64 x57.Least], .string (bs target_1)] rfl rfl (by kernel_rfl) (c_84 n x57 target_1 w6 hx60 ) ?_
    rintro _ w61 ⟨rfl, hE62⟩
    refine ⟨_, rfl, ?_⟩
    have hb64 : Ext w w61 := Ext.trans hb7 hE62
    have hL65 : w.heap.size ≤ w61.heap.size := Nat.le_trans hL8 hE62.size
    have hS66 : SH w61 w.heap.size [] := SH.ext hS9 hE62
    refine WL.runk 4 [6, 7] [(6, .int .i64 st5.1), (7, .bool (x59 == 0))] (by kernel_rfl) ?_
    refine WL.nil ?_
    obtain rfl := Option.some.inj hm
    exact WQ.post' ⟨rfl, hb64, hL65, hS66⟩ ⟨rfl, rfl, trivial⟩
  have hm := iteT hm hc20
  refine WP.skip ?_
  refine WQ.then_normal (hK18 _ _ _ ?_)
  refine WP.block ?_
  refine WP.seq (fun K21 hK21 => ?_)
  refine WP.region ?_
  refine WL.runk 4 [0, 1, 2, 8, 9, 10, 21] [(0, .slice a0' x_0.length c0'), (1, .string (bs target_1)), (2, .func (.func 84) #[] #[]), (8, .int .i64 (x_0.length : Int)), (9, .int .i64 st5.1), (10, .int .i64 st5.2), (21, .int .u64 (IntKind.u64.wrap (wI64 (st5.1 + st5.2))))] (by kernel_rfl) ?_
  obtain ⟨x22, hx23, hm⟩ := bindE hm
  refine WL.st (.int .u64 x22) (ST.shr (k := .u64) hx23 rfl rfl rfl) rfl rfl rfl ?_
  refine WL.runk 2 [0, 1, 2, 8, 9, 10, 11] [(0, .slice a0' x_0.length c0'), (1, .string (bs target_1)), (2, .func (.func 84) #[] #[]), (8, .int .i64 (x_0.length : Int)), (9, .int .i64 st5.1), (10, .int .i64 st5.2), (11, .int .i64 (wI64 x22))] (by kernel_rfl) ?_
  refine WL.nil ?_
  refine WQ.then_normal (hK21 _ _ _ ?_)
  refine WP.seq (fun K24 hK24 => ?_)
  refine WP.region ?_
  refine WL.runk 3 [0, 1, 2, 8, 9, 10, 11, 24, 25, 26] [(0, .slice a0' x_0.length c0'), (1, .string (bs target_1)), (2, .func (.func 84) #[] #[]), (8, .int .i64 (x_0.length : Int)), (9, .int .i64 st5.1), (10, .int .i64 st5.2), (11, .int .i64 (wI64 x22)), (24, .func (.func 84) #[] #[]), (25, .slice a0' x_0.length c0'), (26, .int .i64 (wI64 x22))] (by kernel_rfl) ?_
  obtain ⟨x25, hx26, hm⟩ := bindE hm
  refine WL.st (.pointer (some (at_ a0' (Int.toNat (wI64 x22) * 4)))) (ST.index (T := fGood.ty) (xs := x_0) (Rd.below h0 hb7) hx26 rfl rfl rfl Try.underlying25 (info56).1 (info56).2.1) rfl rfl rfl ?_
  refine WL.st (.agg #[.string (bs x25.Name), .int .i64 x25.OnHand, .int .i64 x25.Reserved, .int .i64 x25.Least]) (ST.loadAgg (vs := fGood.leaf x25) (fun j v hv => Rd.flatA (F := fGood) (Rd.below h0 hb7) hx26 j hv) rfl rfl rfl Try.underlying56 rfl (info56).1 (info56).2.1) rfl rfl rfl ?_
  refine WL.runk 1 [0, 1, 2, 8, 9, 10, 11, 24, 28, 29] [(0, .slice a0' x_0.length c0'), (1, .string (bs target_1)), (2, .func (.func 84) #[] #[]), (8, .int .i64 (x_0.length : Int)), (9, .int .i64 st5.1), (10, .int .i64 st5.2), (11, .int .i64 (wI64 x22)), (24, .func (.func 84) #[] #[]), (28, .agg #[.string (bs x25.Name), .int .i64 x25.OnHand, .int .i64 x25.Reserved, .int .i64 x25.Least]), (29, .string (bs target_1))] (by kernel_rfl) ?_
  obtain ⟨x27, hx28, hm⟩ := bindE hm
  refine WL.call 84 #[.agg #[.string (bs x25.Name), .int .i64 x25.OnHand, .int .i64 x25.Reserved, .int .i64 x25.Least], .string (bs target_1)] rfl rfl (by kernel_rfl) (c_84 n x25 target_1 w6 hx28 ) ?_
  rintro _ w29 ⟨rfl, hE30⟩
  refine ⟨_, rfl, ?_⟩
  have hb32 : Ext w w29 := Ext.trans hb7 hE30
  have hL33 : w.heap.size ≤ w29.heap.size := Nat.le_trans hL8 hE30.size
  have hS34 : SH w29 w.heap.size [] := SH.ext hS9 hE30
  refine WL.runk 1 [0, 1, 2, 8, 9, 10, 11, 31] [(0, .slice a0' x_0.length c0'), (1, .string (bs target_1)), (2, .func (.func 84) #[] #[]), (8, .int .i64 (x_0.length : Int)), (9, .int .i64 st5.1), (10, .int .i64 st5.2), (11, .int .i64 (wI64 x22)), (31, .bool (decide (x27 < 0)))] (by kernel_rfl) ?_
  refine WL.nil ?_
  refine WQ.then_normal (hK24 _ _ _ ?_)
  obtain ⟨x36, hx37, hm⟩ := bindE hm
  refine WP.cut (fun env' w' => env' = [(0, .slice a0' x_0.length c0'), (1, .string (bs target_1)), (2, .func (.func 84) #[] #[]), (8, .int .i64 (x_0.length : Int)), (9, .int .i64 x36.1), (10, .int .i64 x36.2)] ∧ Ext w w' ∧ w.heap.size ≤ w'.heap.size ∧ SH w' w.heap.size []) ?_ ?_
  rotate_left
  · clear hx37
    rintro _ w38 ⟨rfl, hb39, hL40, hS41⟩
    refine WQ.block_normal ?_
    obtain rfl := Option.some.inj hm
    exact WQ.round hK12 ⟨(x36.1, x36.2), rfl, hb39, hL40, hS41, hl10⟩ (Nat.lt_succ_self _) ⟨rfl, rfl, rfl, rfl, rfl, rfl, trivial⟩
  have hm := hx37; clear hx37
  refine WP.cond (decide (x27 < 0)) rfl rfl (fun hc35 => ?_) (fun hc35 => ?_)
  · have hm := iteT hm hc35
    refine WP.region ?_
    refine WL.runk 3 [0, 1, 2, 8, 9, 10] [(0, .slice a0' x_0.length c0'), (1, .string (bs target_1)), (2, .func (.func 84) #[] #[]), (8, .int .i64 (x_0.length : Int)), (9, .int .i64 (wI64 ((wI64 x22) + 1))), (10, .int .i64 st5.2)] (by kernel_rfl) ?_
    refine WL.nil ?_
    obtain rfl := Option.some.inj hm
    exact WQ.post' ⟨rfl, hb32, hL33, hS34⟩ ⟨rfl, rfl, rfl, rfl, rfl, rfl, trivial⟩
  have hm := iteF hm hc35
  refine WP.region ?_
  refine WL.runk 2 [0, 1, 2, 8, 9, 10] [(0, .slice a0' x_0.length c0'), (1, .string (bs target_1)), (2, .func (.func 84) #[] #[]), (8, .int .i64 (x_0.length : Int)), (9, .int .i64 st5.1), (10, .int .i64 (wI64 x22))] (by kernel_rfl) ?_
  refine WL.nil ?_
  obtain rfl := Option.some.inj hm
  exact WQ.post' ⟨rfl, hb32, hL33, hS34⟩ ⟨rfl, rfl, rfl, rfl, rfl, rfl, trivial⟩

theorem c_68 (n : Nat) (list_0 : List SGood) (a0' : Option Addr) (c0' : Nat) (name_1 : List UInt8) (w : World) {r : Int × Bool} (hm : m_impl_goodPlace n list_0 name_1 = some r) (h0 : Rd fGood.ty w a0' list_0) (hle0 : list_0.length ≤ c0') :
    CallV Try.prog 68 #[.slice a0' list_0.length c0', .string (bs name_1)] w (fun v w' => v = .tuple #[.int .i64 r.1, .bool r.2] ∧ Ext w w') := by
  unfold m_impl_goodPlace at hm
  refine CallV.enter Try.func68 rfl (by kernel_rfl) Try.ntmps68 (env := [(0, .slice a0' list_0.length c0'), (1, .string (bs name_1))]) ⟨rfl, rfl, trivial⟩ ?_
  refine WP.seq (fun K1 hK1 => ?_)
  refine WP.region ?_
  refine WL.runk 2 [0, 1] [(0, .slice a0' list_0.length c0'), (1, .string (bs name_1))] (by kernel_rfl) ?_
  refine WL.nil ?_
  refine WQ.then_normal (hK1 _ _ _ ?_)
  refine WP.seq (fun K2 hK2 => ?_)
  refine WP.region ?_
  refine WL.runk 2 [6, 7] [(6, .slice a0' list_0.length c0'), (7, .string (bs name_1))] (by kernel_rfl) ?_
  obtain ⟨x3, hx4, hm⟩ := bindE hm
  refine WL.call 83 #[.slice a0' list_0.length c0', .string (bs name_1), .func (.func 84) #[] #[]] rfl rfl (by kernel_rfl) (c_83_84 n list_0 a0' c0' name_1 w hx4 (Rd.below h0 (Ext.refl w)) hle0) ?_
  rintro _ w5 ⟨rfl, hE6⟩
  refine ⟨_, rfl, ?_⟩
  have hb8 : Ext w w5 := Ext.trans (Ext.refl w) hE6
  have hL9 : w.heap.size ≤ w5.heap.size := Nat.le_trans (Nat.le_refl _) hE6.size
  have hS10 : SH w5 w.heap.size [] := SH.ext (SH.nil _ _) hE6
  refine WL.runk 4 [4, 5] [(4, .int .i64 x3.1), (5, .bool x3.2)] (by kernel_rfl) ?_
  refine WL.nil ?_
  refine WQ.then_normal (hK2 _ _ _ ?_)
  refine WP.ret ?_
  obtain rfl := Option.some.inj hm
  exact WQ.ret2 _ _ rfl rfl rfl ⟨rfl, hb8⟩

theorem c_57 (n : Nat) (list_0 : List SGood) (a0' : Option Addr) (c0' : Nat) (name_1 : List UInt8) (many_2 : Int) (w : World) {r : Int × Int} (hm : m_impl_goodCode n list_0 name_1 many_2 = some r) (h0 : Rd fGood.ty w a0' list_0) (hle0 : list_0.length ≤ c0') :
    CallV Try.prog 57 #[.slice a0' list_0.length c0', .string (bs name_1), .int .i64 many_2] w (fun v w' => v = .tuple #[.int .i64 r.1, .int .i64 r.2] ∧ Ext w w') := by
  unfold m_impl_goodCode at hm
  refine CallV.enter Try.func57 rfl (by kernel_rfl) Try.ntmps57 (env := [(0, .slice a0' list_0.length c0'), (1, .string (bs name_1)), (2, .int .i64 many_2)]) ⟨rfl, rfl, rfl, trivial⟩ ?_
  refine WP.seq (fun K1 hK1 => ?_)
  refine WP.region ?_
  refine WL.runk 2 [0, 1, 2] [(0, .slice a0' list_0.length c0'), (1, .string (bs name_1)), (2, .int .i64 many_2)] (by kernel_rfl) ?_
  refine WL.nil ?_
  refine WQ.then_normal (hK1 _ _ _ ?_)
  refine WP.seq (fun K2 hK2 => ?_)
  refine WP.block ?_
  refine WP.seq (fun K3 hK3 => ?_)
  refine WP.region ?_
  refine WL.runk 1 [0, 1, 2, 11] [(0, .slice a0' list_0.length c0'), (1, .string (bs name_1)), (2, .int .i64 many_2), (11, .slice a0' list_0.length c0')] (by kernel_rfl) ?_
  obtain ⟨x4, hx5, hm⟩ := bindE hm
  refine WL.call 19 #[.slice a0' list_0.length c0'] rfl rfl (by kernel_rfl) (c_19 n list_0 a0' c0' w hx5 (Rd.below h0 (Ext.refl w)) hle0) ?_
  rintro _ w6 ⟨rfl, hE7⟩
  refine ⟨_, rfl, ?_⟩
  have hb9 : Ext w w6 := Ext.trans (Ext.refl w) hE7
  have hL10 : w.heap.size ≤ w6.heap.size := Nat.le_trans (Nat.le_refl _) hE7.size
  have hS11 : SH w6 w.heap.size [] := SH.ext (SH.nil _ _) hE7
  refine WL.runk 2 [0, 1, 2, 10] [(0, .slice a0' list_0.length c0'), (1, .string (bs name_1)), (2, .int .i64 many_2), (10, .bool (!x4))] (by kernel_rfl) ?_
  refine WL.nil ?_
  refine WQ.then_normal (hK3 _ _ _ ?_)
  refine WP.cond (!x4) rfl rfl (fun hc12 => ?_) (fun hc12 => ?_)
  · have hm := iteT hm hc12
    refine WP.seq (fun K13 hK13 => ?_)
    refine WP.region ?_
    refine WL.runk 2 [6, 7] [(6, .int .i64 0), (7, .int .i64 1)] (by kernel_rfl) ?_
    refine WL.nil ?_
    refine WQ.then_normal (hK13 _ _ _ ?_)
    refine WP.ret ?_
    refine WQ.block_ret ?_
    refine WQ.then_ret ?_
    obtain rfl := Option.some.inj hm
    exact WQ.ret2 _ _ rfl rfl rfl ⟨rfl, hb9⟩
  have hm := iteF hm hc12
  refine WP.seq (fun K14 hK14 => ?_)
  refine WP.region ?_
  refine WL.runk 1 [0, 1, 15] [(0, .slice a0' list_0.length c0'), (1, .string (bs name_1)), (15, .int .i64 many_2)] (by kernel_rfl) ?_
  obtain ⟨x15, hx16, hm⟩ := bindE hm
  refine WL.call 67 #[.int .i64 many_2, .int .i64 1, .int .i64 1000000] rfl rfl (by kernel_rfl) (c_67 n many_2 1 1000000 w6 hx16 ) ?_
  rintro _ w17 ⟨rfl, hE18⟩
  refine ⟨_, rfl, ?_⟩
  have hb20 : Ext w w17 := Ext.trans hb9 hE18
  have hL21 : w.heap.size ≤ w17.heap.size := Nat.le_trans hL10 hE18.size
  have hS22 : SH w17 w.heap.size [] := SH.ext hS11 hE18
  refine WL.runk 2 [0, 1, 14] [(0, .slice a0' list_0.length c0'), (1, .string (bs name_1)), (14, .bool (!x15))] (by kernel_rfl) ?_
  refine WL.nil ?_
  refine WQ.then_normal (hK14 _ _ _ ?_)
  refine WP.cond (!x15) rfl rfl (fun hc23 => ?_) (fun hc23 => ?_)
  · have hm := iteT hm hc23
    refine WP.seq (fun K24 hK24 => ?_)
    refine WP.region ?_
    refine WL.runk 2 [6, 7] [(6, .int .i64 0), (7, .int .i64 2)] (by kernel_rfl) ?_
    refine WL.nil ?_
    refine WQ.then_normal (hK24 _ _ _ ?_)
    refine WP.ret ?_
    refine WQ.block_ret ?_
    refine WQ.then_ret ?_
    obtain rfl := Option.some.inj hm
    exact WQ.ret2 _ _ rfl rfl rfl ⟨rfl, hb20⟩
  have hm := iteF hm hc23
  refine WP.skip ?_
  refine WQ.block_normal ?_
  refine WQ.then_normal (hK2 _ _ _ ?_)
  refine WP.seq (fun K25 hK25 => ?_)
  refine WP.region ?_
  refine WL.runk 2 [19, 20] [(19, .slice a0' list_0.length c0'), (20, .string (bs name_1))] (by kernel_rfl) ?_
  obtain ⟨x26, hx27, hm⟩ := bindE hm
  refine WL.call 68 #[.slice a0' list_0.length c0', .string (bs name_1)] rfl rfl (by kernel_rfl) (c_68 n list_0 a0' c0' name_1 w17 hx27 (Rd.below h0 hb20) hle0) ?_
  rintro _ w28 ⟨rfl, hE29⟩
  refine ⟨_, rfl, ?_⟩
  have hb31 : Ext w w28 := Ext.trans hb20 hE29
  have hL32 : w.heap.size ≤ w28.heap.size := Nat.le_trans hL21 hE29.size
  have hS33 : SH w28 w.heap.size [] := SH.ext hS22 hE29
  refine WL.runk 5 [8, 9] [(8, .int .i64 x26.1), (9, .bool x26.2)] (by kernel_rfl) ?_
  refine WL.nil ?_
  refine WQ.then_normal (hK25 _ _ _ ?_)
  refine WP.seq (fun K34 hK34 => ?_)
  refine WP.seq (fun K35 hK35 => ?_)
  refine WP.region ?_
  refine WL.runk 2 [8, 25] [(8, .int .i64 x26.1), (25, .bool (!x26.2))] (by kernel_rfl) ?_
  refine WL.nil ?_
  refine WQ.then_normal (hK35 _ _ _ ?_)
  refine WP.cond (!x26.2) rfl rfl (fun hc36 => ?_) (fun hc36 => ?_)
  · have hm := iteT hm hc36
    refine WP.seq (fun K37 hK37 => ?_)
    refine WP.region ?_
    refine WL.runk 2 [6, 7] [(6, .int .i64 0), (7, .int .i64 3)] (by kernel_rfl) ?_
    refine WL.nil ?_
    refine WQ.then_normal (hK37 _ _ _ ?_)
    refine WP.ret ?_
    refine WQ.then_ret ?_
    obtain rfl := Option.some.inj hm
    exact WQ.ret2 _ _ rfl rfl rfl ⟨rfl, hb31⟩
  have hm := iteF hm hc36
  refine WP.skip ?_
  refine WQ.then_normal (hK34 _ _ _ ?_)
  refine WP.seq (fun K38 hK38 => ?_)
  refine WP.region ?_
  refine WL.runk 3 [6, 7] [(6, .int .i64 x26.1), (7, .int .i64 0)] (by kernel_rfl) ?_
  refine WL.nil ?_
  refine WQ.then_normal (hK38 _ _ _ ?_)
  refine WP.ret ?_
  obtain rfl := Option.some.inj hm
  exact WQ.ret2 _ _ rfl rfl rfl ⟨rfl, hb31⟩

theorem c_58 (n : Nat) (s_0 : List SGood) (a0' : Option Addr) (c0' : Nat) (w : World) {r : List SGood} (hm : m_slices_Clone_impl_Good_impl_Good n s_0 = some r) (h0 : Rd fGood.ty w a0' s_0) (_hle0 : s_0.length ≤ c0') :
    CallV Try.prog 58 #[.slice a0' s_0.length c0'] w (fun v w' => ∃ (ra0 : Option Addr) (rc0 : Nat), v = .slice ra0 r.length rc0 ∧ Ext w w' ∧ SH w' w.heap.size [aOwn fGood 56 ra0 rc0 r]) := by
  unfold m_slices_Clone_impl_Good_impl_Good at hm
  rcases a0' with _ | a0'
  · obtain rfl : s_0 = [] := by
      cases s_0 with
      | nil => rfl
      | cons x t => exact absurd (h0 0 x rfl).1 (by simp)
    obtain rfl : ([] : List SGood) = r := by simpa [app] using hm
    refine CallV.enter Try.func58 rfl (by kernel_rfl) Try.ntmps58 (env := [(0, .slice none 0 c0')]) ⟨rfl, trivial⟩ ?_
    refine WP.seq (fun K1 hK1 => ?_)
    refine WP.region ?_
    refine WL.runk 1 [0] [(0, .slice none 0 c0')] (by kernel_rfl) ?_
    refine WL.nil ?_
    refine WQ.then_normal (hK1 _ _ _ ?_)
    refine WP.seq (fun K2 hK2 => ?_)
    refine WP.seq (fun K3 hK3 => ?_)
    refine WP.region ?_
    refine WL.runk 2 [4] [(4, .bool true)] (by kernel_rfl) ?_
    refine WL.nil ?_
    refine WQ.then_normal (hK3 _ _ _ ?_)
    refine WP.cond true rfl rfl (fun _ => ?_) (fun hc4 => ?_)
    rotate_left
    · cases hc4
    refine WP.seq (fun K5 hK5 => ?_)
    refine WP.region ?_
    refine WL.runk 1 [2] [(2, .slice none 0 0)] (by kernel_rfl) ?_
    refine WL.nil ?_
    refine WQ.then_normal (hK5 _ _ _ ?_)
    refine WP.ret ?_
    refine WQ.then_ret ?_
    have hS7 : SH w w.heap.size [aOwn fGood 56 none 0 ([] : List SGood)] := SH.nilOwn (SH.nil _ _)
    exact WQ.ret1 _ rfl rfl ⟨_, _, rfl, (Ext.refl w), hS7⟩
  refine CallV.enter Try.func58 rfl (by kernel_rfl) Try.ntmps58 (env := [(0, .slice (some a0') s_0.length c0')]) ⟨rfl, trivial⟩ ?_
  refine WP.seq (fun K1 hK1 => ?_)
  refine WP.region ?_
  refine WL.runk 1 [0] [(0, .slice (some a0') s_0.length c0')] (by kernel_rfl) ?_
  refine WL.nil ?_
  refine WQ.then_normal (hK1 _ _ _ ?_)
  refine WP.seq (fun K2 hK2 => ?_)
  refine WP.seq (fun K3 hK3 => ?_)
  refine WP.region ?_
  refine WL.runk 2 [0, 4] [(0, .slice (some a0') s_0.length c0'), (4, .bool false)] (by kernel_rfl) ?_
  refine WL.nil ?_
  refine WQ.then_normal (hK3 _ _ _ ?_)
  refine WP.cond false rfl rfl (fun hc4 => ?_) (fun _ => ?_)
  · cases hc4
  refine WP.skip ?_
  refine WQ.then_normal (hK2 _ _ _ ?_)
  refine WP.seq (fun K8 hK8 => ?_)
  refine WP.region ?_
  refine WL.row fGood 56 ([] : List SGood) 0 #[] 5 (by kernel_rfl) rfl rfl rfl rfl rfl rfl rfl ?_
  intro a9 c10 w11 hE12 hR13
  have hb15 : Ext w w11 := Ext.trans (Ext.refl w) hE12
  have hL16 : w.heap.size ≤ w11.heap.size := Nat.le_trans (Nat.le_refl _) hE12.size
  have hS17 : SH w11 w.heap.size [aOwn fGood 56 a9 c10 ([] : List SGood)] := SH.add (SH.nil _ _) hE12 (Nat.le_refl _) hR13
  refine WL.runk 1 [5, 6] [(5, .slice a9 (([] : List SGood).length) c10), (6, .slice (some a0') s_0.length c0')] (by kernel_rfl) ?_
  obtain ⟨x18, hx19, hm⟩ := bindE hm
  refine WL.append (F := fGood) (xs := ([] : List SGood)) (ys := s_0) 7 (SH.front 0 hS17) hL16 (Rd.below h0 hb15) hx19 rfl rfl rfl Try.underlying25 (info56).1 (info56).2.2.1 (info56).2.1 (info56).2.2.2 rfl rfl rfl rfl rfl ?_
  intro a20 c21 w22 hB23 hS24
  have hb25 : Ext w w22 := Below.trans hb15 hB23
  refine WL.runk 1 [2] [(2, .slice a20 x18.length c21)] (by kernel_rfl) ?_
  refine WL.nil ?_
  refine WQ.then_normal (hK8 _ _ _ ?_)
  refine WP.ret ?_
  obtain rfl := Option.some.inj hm
  exact WQ.ret1 _ rfl rfl ⟨_, _, rfl, hb25, hS24⟩

theorem c_27 (n : Nat) (list_0 : List SGood) (a0' : Option Addr) (c0' : Nat) (name_1 : List UInt8) (many_2 : Int) (w : World) {r : List SGood × Int} (hm : m_impl_ReserveGood n list_0 name_1 many_2 = some r) (h0 : Rd fGood.ty w a0' list_0) (hle0 : list_0.length ≤ c0') :
    CallV Try.prog 27 #[.slice a0' list_0.length c0', .string (bs name_1), .int .i64 many_2] w (fun v w' => ∃ (ra0 : Option Addr) (rc0 : Nat), v = .tuple #[.slice ra0 r.1.length rc0, .int .i64 r.2] ∧ Ext w w' ∧ SH w' w.heap.size [aOwn fGood 56 ra0 rc0 r.1]) := by
  unfold m_impl_ReserveGood at hm
  refine CallV.enter Try.func27 rfl (by kernel_rfl) Try.ntmps27 (env := [(0, .slice a0' list_0.length c0'), (1, .string (bs name_1)), (2, .int .i64 many_2)]) ⟨rfl, rfl, rfl, trivial⟩ ?_
  refine WP.seq (fun K1 hK1 => ?_)
  refine WP.region ?_
  refine WL.runk 2 [0, 1, 2] [(0, .slice a0' list_0.length c0'), (1, .string (bs name_1)), (2, .int .i64 many_2)] (by kernel_rfl) ?_
  refine WL.nil ?_
  refine WQ.then_normal (hK1 _ _ _ ?_)
  refine WP.seq (fun K2 hK2 => ?_)
  refine WP.region ?_
  refine WL.runk 3 [0, 2, 12, 13, 14] [(0, .slice a0' list_0.length c0'), (2, .int .i64 many_2), (12, .slice a0' list_0.length c0'), (13, .string (bs name_1)), (14, .int .i64 many_2)] (by kernel_rfl) ?_
  obtain ⟨x3, hx4, hm⟩ := bindE hm
  refine WL.call 57 #[.slice a0' list_0.length c0', .string (bs name_1), .int .i64 many_2] rfl rfl (by kernel_rfl) (c_57 n list_0 a0' c0' name_1 many_2 w hx4 (Rd.below h0 (Ext.refl w)) hle0) ?_
  rintro _ w5 ⟨rfl, hE6⟩
  refine ⟨_, rfl, ?_⟩
  have hb8 : Ext w w5 := Ext.trans (Ext.refl w) hE6
  have hL9 : w.heap.size ≤ w5.heap.size := Nat.le_trans (Nat.le_refl _) hE6.size
  have hS10 : SH w5 w.heap.size [] := SH.ext (SH.nil _ _) hE6
  refine WL.runk 5 [0, 2, 8, 9] [(0, .slice a0' list_0.length c0'), (2, .int .i64 many_2), (8, .int .i64 x3.1), (9, .int .i64 x3.2)] (by kernel_rfl) ?_
  refine WL.nil ?_
  refine WQ.then_normal (hK2 _ _ _ ?_)
  refine WP.seq (fun K11 hK11 => ?_)
  refine WP.block ?_
  refine WP.seq (fun K12 hK12 => ?_)
  refine WP.region ?_
  refine WL.runk 3 [0, 2, 8, 9, 18] [(0, .slice a0' list_0.length c0'), (2, .int .i64 many_2), (8, .int .i64 x3.1), (9, .int .i64 x3.2), (18, .bool (x3.2 != 0))] (by kernel_rfl) ?_
  refine WL.nil ?_
  refine WQ.then_normal (hK12 _ _ _ ?_)
  refine WP.cond (x3.2 != 0) rfl rfl (fun hc13 => ?_) (fun hc13 => ?_)
  · have hm := iteT hm hc13
    refine WP.seq (fun K14 hK14 => ?_)
    refine WP.region ?_
    refine WL.runk 3 [6, 7] [(6, .slice none 0 0), (7, .int .i64 x3.2)] (by kernel_rfl) ?_
    refine WL.nil ?_
    refine WQ.then_normal (hK14 _ _ _ ?_)
    refine WP.ret ?_
    refine WQ.block_ret ?_
    refine WQ.then_ret ?_
    obtain rfl := Option.some.inj hm
    have hS16 : SH w5 w.heap.size [aOwn fGood 56 none 0 ([] : List SGood)] := SH.nilOwn hS10
    exact WQ.ret2 _ _ rfl rfl rfl ⟨_, _, rfl, hb8, hS16⟩
  have hm := iteF hm hc13
  refine WP.seq (fun K17 hK17 => ?_)
  refine WP.quiet (by kernel_rfl) (by kernel_rfl) ?_
  refine QL.step1v 23 (.slice a0' list_0.length c0') rfl (fun _ => by kernel_rfl) ?_
  refine QL.step1v 24 (.int .i64 x3.1) rfl (fun _ => by kernel_rfl) ?_
  refine QL.subk [0, 2, 8, 23, 24] [(0, .slice a0' list_0.length c0'), (2, .int .i64 many_2), (8, .int .i64 x3.1), (23, .slice a0' list_0.length c0'), (24, .int .i64 x3.1)] (by kernel_rfl) ?_
  obtain ⟨x18, hx19, hm⟩ := bindE hm
  refine QL.st (.pointer (some (at_ a0' (Int.toNat x3.1 * 4)))) (ST.index (T := fGood.ty) (xs := list_0) (Rd.below h0 hb8) hx19 rfl rfl rfl Try.underlying25 (info56).1 (info56).2.1) rfl rfl rfl ?_
  refine QL.step1v 26 (.pointer (some (at_ a0' (Int.toNat x3.1 * 4 + 1)))) rfl (fun _ => by kernel_rfl) ?_
  refine QL.subk [0, 2, 8, 26] [(0, .slice a0' list_0.length c0'), (2, .int .i64 many_2), (8, .int .i64 x3.1), (26, .pointer (some (at_ a0' (Int.toNat x3.1 * 4 + 1))))] (by kernel_rfl) ?_
  refine QL.st (.int .i64 x18.OnHand) (ST.load (cell_ext (Rd.flat (F := fGood) (Rd.below h0 hb8) hx19 1 rfl)) rfl rfl Try.underlying2 rfl) rfl rfl rfl ?_
  refine QL.step1v 28 (.slice a0' list_0.length c0') rfl (fun _ => by kernel_rfl) ?_
  refine QL.step1v 29 (.int .i64 x3.1) rfl (fun _ => by kernel_rfl) ?_
  refine QL.subk [0, 2, 8, 27, 28, 29] [(0, .slice a0' list_0.length c0'), (2, .int .i64 many_2), (8, .int .i64 x3.1), (27, .int .i64 x18.OnHand), (28, .slice a0' list_0.length c0'), (29, .int .i64 x3.1)] (by kernel_rfl) ?_
  obtain ⟨x20, hx21, hm⟩ := bindE hm
  refine QL.st (.pointer (some (at_ a0' (Int.toNat x3.1 * 4)))) (ST.index (T := fGood.ty) (xs := list_0) (Rd.below h0 hb8) hx21 rfl rfl rfl Try.underlying25 (info56).1 (info56).2.1) rfl rfl rfl ?_
  refine QL.step1v 31 (.pointer (some (at_ a0' (Int.toNat x3.1 * 4 + 2)))) rfl (fun _ => by kernel_rfl) ?_
  refine QL.subk [0, 2, 8, 27, 31] [(0, .slice a0' list_0.length c0'), (2, .int .i64 many_2), (8, .int .i64 x3.1), (27, .int .i64 x18.OnHand), (31, .pointer (some (at_ a0' (Int.toNat x3.1 * 4 + 2))))] (by kernel_rfl) ?_
  refine QL.st (.int .i64 x20.Reserved) (ST.load (cell_ext (Rd.flat (F := fGood) (Rd.below h0 hb8) hx21 2 rfl)) rfl rfl Try.underlying2 rfl) rfl rfl rfl ?_
  refine QL.step1v 33 (.int .i64 (wI64 (x18.OnHand - x20.Reserved))) rfl (fun _ => by kernel_rfl) ?_
  refine QL.step1v 34 (.int .i64 many_2) rfl (fun _ => by kernel_rfl) ?_
  refine QL.step1v 35 (.bool (decide ((wI64 (x18.OnHand - x20.Reserved)) < many_2))) rfl (fun _ => by kernel_rfl) ?_
  refine QL.step1v 22 (.bool (decide ((wI64 (x18.OnHand - x20.Reserved)) < many_2))) rfl (fun _ => by kernel_rfl) ?_
  refine QL.subk [0, 2, 8, 22] [(0, .slice a0' list_0.length c0'), (2, .int .i64 many_2), (8, .int .i64 x3.1), (22, .bool (decide ((wI64 (x18.OnHand - x20.Reserved)) < many_2)))] (by kernel_rfl) ?_
  refine QL.nil ?_
  intro w22 hE23
  have hb24 : Ext w w22 := Ext.trans hb8 hE23
  have hL25 : w.heap.size ≤ w22.heap.size := Nat.le_trans hL9 hE23.size
  have hS26 : SH w22 w.heap.size [] := SH.ext hS10 hE23
  refine WQ.then_normal (hK17 _ _ _ ?_)
  refine WP.cond (decide ((wI64 (x18.OnHand - x20.Reserved)) < many_2)) rfl rfl (fun hc27 => ?_) (fun hc27 => ?_)
  · have hm := iteT hm hc27
    refine WP.seq (fun K28 hK28 => ?_)
    refine WP.region ?_
    refine WL.runk 2 [6, 7] [(6, .slice none 0 0), (7, .int .i64 10)] (by kernel_rfl) ?_
    refine WL.nil ?_
    refine WQ.then_normal (hK28 _ _ _ ?_)
    refine WP.ret ?_
    refine WQ.block_ret ?_
    refine WQ.then_ret ?_
    obtain rfl := Option.some.inj hm
    have hS30 : SH w22 w.heap.size [aOwn fGood 56 none 0 ([] : List SGood)] := SH.nilOwn hS26
    exact WQ.ret2 _ _ rfl rfl rfl ⟨_, _, rfl, hb24, hS30⟩
  have hm := iteF hm hc27
  refine WP.skip ?_
  refine WQ.block_normal ?_
  refine WQ.then_normal (hK11 _ _ _ ?_)
  refine WP.seq (fun K31 hK31 => ?_)
  refine WP.region ?_
  refine WL.runk 1 [2, 8, 36] [(2, .int .i64 many_2), (8, .int .i64 x3.1), (36, .slice a0' list_0.length c0')] (by kernel_rfl) ?_
  obtain ⟨x32, hx33, hm⟩ := bindE hm
  refine WL.call 58 #[.slice a0' list_0.length c0'] rfl rfl (by kernel_rfl) (c_58 n list_0 a0' c0' w22 hx33 (Rd.below h0 hb24) hle0) ?_
  rintro _ w37 ⟨a34, c35, rfl, hE38, hR39⟩
  refine ⟨_, rfl, ?_⟩
  have hb40 : Ext w w37 := Ext.trans hb24 hE38
  have hL41 : w.heap.size ≤ w37.heap.size := Nat.le_trans hL25 hE38.size
  have hS42 : SH w37 w.heap.size [aOwn fGood 56 a34 c35 x32] := SH.add hS26 hE38 hL25 hR39
  refine WL.runk 1 [2, 8, 10] [(2, .int .i64 many_2), (8, .int .i64 x3.1), (10, .slice a34 x32.length c35)] (by kernel_rfl) ?_
  refine WL.nil ?_
  refine WQ.then_normal (hK31 _ _ _ ?_)
  refine WP.seq (fun K43 hK43 => ?_)
  refine WP.region ?_
  refine WL.runk 2 [2, 10, 38, 39] [(2, .int .i64 many_2), (10, .slice a34 x32.length c35), (38, .slice a34 x32.length c35), (39, .int .i64 x3.1)] (by kernel_rfl) ?_
  obtain ⟨x44, hx45, hm⟩ := bindE hm
  refine WL.st (.pointer (some (at_ a34 (Int.toNat x3.1 * 4)))) (ST.index (T := fGood.ty) (xs := x32) (SH.rd (SH.front 0 hS42)) hx45 rfl rfl rfl Try.underlying25 (info56).1 (info56).2.1) rfl rfl rfl ?_
  refine WL.runk 1 [2, 10, 38, 39, 41] [(2, .int .i64 many_2), (10, .slice a34 x32.length c35), (38, .slice a34 x32.length c35), (39, .int .i64 x3.1), (41, .pointer (some (at_ a34 (Int.toNat x3.1 * 4 + 2))))] (by kernel_rfl) ?_
  refine WL.st (.int .i64 x44.Reserved) (ST.load (cell_ext (Rd.flat (F := fGood) (SH.rd (SH.front 0 hS42)) hx45 2 rfl)) rfl rfl Try.underlying2 rfl) rfl rfl rfl ?_
  refine WL.runk 2 [10, 38, 39, 44] [(10, .slice a34 x32.length c35), (38, .slice a34 x32.length c35), (39, .int .i64 x3.1), (44, .int .i64 (wI64 (x44.Reserved + many_2)))] (by kernel_rfl) ?_
  obtain ⟨x46, hx47, hm⟩ := bindE hm
  refine WL.st (.pointer (some (at_ a34 (Int.toNat x3.1 * 4)))) (ST.index (T := fGood.ty) (xs := x32) (SH.rd (SH.front 0 hS42)) hx47 rfl rfl rfl Try.underlying25 (info56).1 (info56).2.1) rfl rfl rfl ?_
  refine WL.runk 1 [10, 44, 46] [(10, .slice a34 x32.length c35), (44, .int .i64 (wI64 (x44.Reserved + many_2))), (46, .pointer (some (at_ a34 (Int.toNat x3.1 * 4 + 2))))] (by kernel_rfl) ?_
  refine WL.store (F := fGood) (SGood.mk x46.Name x46.OnHand (wI64 (x44.Reserved + many_2)) x46.Least) 2 [.int .i64 (wI64 (x44.Reserved + many_2))] (SH.front 0 hS42) hL41 hx47 rfl rfl rfl rfl rfl rfl rfl (info2).1 (info2).2.1 rfl rfl rfl ?_
  intro w48 hB49 hS50
  have hb51 : Ext w w48 := Below.trans hb40 hB49
  have hL52 : w.heap.size ≤ w48.heap.size := Nat.le_trans hL41 hB49.size
  refine WL.sub [(10, .slice a34 ((x32.set (Int.toNat x3.1) (SGood.mk x46.Name x46.OnHand (wI64 (x44.Reserved + many_2)) x46.Least)).length) c35), (44, .int .i64 (wI64 (x44.Reserved + many_2)))] ⟨by first | (simp only [List.length_set]; done) | (simp only [List.length_set]; rfl), rfl, trivial⟩ ?_
  refine WL.sub [(10, .slice a34 ((x32.set (Int.toNat x3.1) (SGood.mk x46.Name x46.OnHand (wI64 (x44.Reserved + many_2)) x46.Least)).length) c35)] ⟨rfl, trivial⟩ ?_
  refine WL.nil ?_
  refine WQ.then_normal (hK43 _ _ _ ?_)
  refine WP.seq (fun K53 hK53 => ?_)
  refine WP.region ?_
  refine WL.runk 3 [6, 7] [(6, .slice a34 ((x32.set (Int.toNat x3.1) (SGood.mk x46.Name x46.OnHand (wI64 (x44.Reserved + many_2)) x46.Least)).length) c35), (7, .int .i64 0)] (by kernel_rfl) ?_
  refine WL.nil ?_
  refine WQ.then_normal (hK53 _ _ _ ?_)
  refine WP.ret ?_
  obtain rfl := Option.some.inj hm
  exact WQ.ret2 _ _ rfl rfl rfl ⟨_, _, rfl, hb51, hS50⟩

theorem c_29 (n : Nat) (list_0 : List SGood) (a0' : Option Addr) (c0' : Nat) (name_1 : List UInt8) (many_2 : Int) (w : World) {r : List SGood × Int} (hm : m_spec_UseReserved n list_0 name_1 many_2 = some r) (h0 : Rd fGood.ty w a0' list_0) (hle0 : list_0.length ≤ c0') :
    CallV Try.prog 29 #[.slice a0' list_0.length c0', .string (bs name_1), .int .i64 many_2] w (fun v w' => ∃ (ra0 : Option Addr) (rc0 : Nat), v = .tuple #[.slice ra0 r.1.length rc0, .int .i64 r.2] ∧ Ext w w' ∧ SH w' w.heap.size [aOwn fGood 56 ra0 rc0 r.1]) := by
  unfold m_spec_UseReserved at hm
  refine CallV.enter Try.func29 rfl (by kernel_rfl) Try.ntmps29 (env := [(0, .slice a0' list_0.length c0'), (1, .string (bs name_1)), (2, .int .i64 many_2)]) ⟨rfl, rfl, rfl, trivial⟩ ?_
  refine WP.seq (fun K1 hK1 => ?_)
  refine WP.region ?_
  refine WL.runk 2 [0, 1, 2] [(0, .slice a0' list_0.length c0'), (1, .string (bs name_1)), (2, .int .i64 many_2)] (by kernel_rfl) ?_
  refine WL.nil ?_
  refine WQ.then_normal (hK1 _ _ _ ?_)
  refine WP.seq (fun K2 hK2 => ?_)
  refine WP.region ?_
  refine WL.runk 3 [0, 2, 13, 14, 15] [(0, .slice a0' list_0.length c0'), (2, .int .i64 many_2), (13, .slice a0' list_0.length c0'), (14, .string (bs name_1)), (15, .int .i64 many_2)] (by kernel_rfl) ?_
  obtain ⟨x3, hx4, hm⟩ := bindE hm
  refine WL.call 56 #[.slice a0' list_0.length c0', .string (bs name_1), .int .i64 many_2] rfl rfl (by kernel_rfl) (c_56 n list_0 a0' c0' name_1 many_2 w hx4 (Rd.below h0 (Ext.refl w)) hle0) ?_
  rintro _ w5 ⟨rfl, hE6⟩
  refine ⟨_, rfl, ?_⟩
  have hb8 : Ext w w5 := Ext.trans (Ext.refl w) hE6
  have hL9 : w.heap.size ≤ w5.heap.size := Nat.le_trans (Nat.le_refl _) hE6.size
  have hS10 : SH w5 w.heap.size [] := SH.ext (SH.nil _ _) hE6
  refine WL.runk 5 [0, 2, 8, 9] [(0, .slice a0' list_0.length c0'), (2, .int .i64 many_2), (8, .int .i64 x3.1), (9, .int .i64 x3.2)] (by kernel_rfl) ?_
  refine WL.nil ?_
  refine WQ.then_normal (hK2 _ _ _ ?_)
  refine WP.seq (fun K11 hK11 => ?_)
  refine WP.seq (fun K12 hK12 => ?_)
  obtain ⟨x16, hx17, hm⟩ := bindE hm
  refine WP.cut (fun env' w' => env' = [(0, .slice a0' list_0.length c0'), (2, .int .i64 many_2), (8, .int .i64 x3.1), (9, .int .i64 x3.2), (29, .bool x16)] ∧ Ext w w' ∧ w.heap.size ≤ w'.heap.size ∧ SH w' w.heap.size []) ?_ ?_
  · have hm := hx17; clear hx17
    refine WP.region ?_
    refine WL.runk 3 [0, 2, 8, 9, 21] [(0, .slice a0' list_0.length c0'), (2, .int .i64 many_2), (8, .int .i64 x3.1), (9, .int .i64 x3.2), (21, .bool (x3.2 == 0))] (by kernel_rfl) ?_
    refine WL.case (x3.2 == 0) [21] ⟨rfl, trivial⟩ (fun hc18 => ?_) (fun hc18 => ?_)
    rotate_left
    · have hm := iteF hm hc18
      refine WL.runk 8 [0, 2, 8, 9, 29] [(0, .slice a0' list_0.length c0'), (2, .int .i64 many_2), (8, .int .i64 x3.1), (9, .int .i64 x3.2), (29, .bool false)] (by kernel_rfl) ?_
      refine WL.nil ?_
      obtain rfl := Option.some.inj hm
      exact WQ.post' ⟨rfl, hb8, hL9, hS10⟩ ⟨rfl, rfl, rfl, rfl, rfl, trivial⟩
    have hm := iteT hm hc18
    refine WL.runk 3 [0, 2, 8, 9, 21, 22, 23, 24] [(0, .slice a0' list_0.length c0'), (2, .int .i64 many_2), (8, .int .i64 x3.1), (9, .int .i64 x3.2), (21, .bool true), (22, .int .i64 many_2), (23, .slice a0' list_0.length c0'), (24, .int .i64 x3.1)] (by kernel_rfl) ?_
    obtain ⟨x19, hx20, hm⟩ := bindE hm
    refine WL.st (.pointer (some (at_ a0' (Int.toNat x3.1 * 4)))) (ST.index (T := fGood.ty) (xs := list_0) (Rd.below h0 hb8) hx20 rfl rfl rfl Try.underlying25 (info56).1 (info56).2.1) rfl rfl rfl ?_
    refine WL.runk 1 [0, 2, 8, 9, 21, 22, 26] [(0, .slice a0' list_0.length c0'), (2, .int .i64 many_2), (8, .int .i64 x3.1), (9, .int .i64 x3.2), (21, .bool true), (22, .int .i64 many_2), (26, .pointer (some (at_ a0' (Int.toNat x3.1 * 4 + 2))))] (by kernel_rfl) ?_
    refine WL.st (.int .i64 x19.Reserved) (ST.load (cell_ext (Rd.flat (F := fGood) (Rd.below h0 hb8) hx20 2 rfl)) rfl rfl Try.underlying2 rfl) rfl rfl rfl ?_
    refine WL.runk 2 [0, 2, 8, 9, 29] [(0, .slice a0' list_0.length c0'), (2, .int .i64 many_2), (8, .int .i64 x3.1), (9, .int .i64 x3.2), (29, .bool (decide (many_2 > x19.Reserved)))] (by kernel_rfl) ?_
    refine WL.nil ?_
    obtain rfl := Option.some.inj hm
    exact WQ.post' ⟨rfl, hb8, hL9, hS10⟩ ⟨rfl, rfl, rfl, rfl, rfl, trivial⟩
  clear hx17
  rintro _ w21 ⟨rfl, hb22, hL23, hS24⟩
  refine WQ.then_normal (hK12 _ _ _ ?_)
  obtain ⟨x26, hx27, hm⟩ := bindE hm
  refine WP.cut (fun env' w' => env' = [(0, .slice a0' list_0.length c0'), (2, .int .i64 many_2), (8, .int .i64 x3.1), (9, .int .i64 x26)] ∧ Ext w w' ∧ w.heap.size ≤ w'.heap.size ∧ SH w' w.heap.size []) ?_ ?_
  · have hm := hx27; clear hx27
    refine WP.cond x16 rfl rfl (fun hc25 => ?_) (fun hc25 => ?_)
    rotate_left
    · have hm := iteF hm hc25
      refine WP.skip ?_
      obtain rfl := Option.some.inj hm
      exact WQ.post' ⟨rfl, hb22, hL23, hS24⟩ ⟨rfl, rfl, rfl, rfl, trivial⟩
    have hm := iteT hm hc25
    refine WP.region ?_
    refine WL.runk 1 [0, 2, 8, 9] [(0, .slice a0' list_0.length c0'), (2, .int .i64 many_2), (8, .int .i64 x3.1), (9, .int .i64 6)] (by kernel_rfl) ?_
    refine WL.nil ?_
    obtain rfl := Option.some.inj hm
    exact WQ.post' ⟨rfl, hb22, hL23, hS24⟩ ⟨rfl, rfl, rfl, rfl, trivial⟩
  clear hx27
  rintro _ w28 ⟨rfl, hb29, hL30, hS31⟩
  refine WQ.then_normal (hK11 _ _ _ ?_)
  refine WP.seq (fun K32 hK32 => ?_)
  refine WP.seq (fun K33 hK33 => ?_)
  refine WP.region ?_
  refine WL.runk 2 [0, 2, 8, 9, 31] [(0, .slice a0' list_0.length c0'), (2, .int .i64 many_2), (8, .int .i64 x3.1), (9, .int .i64 x26), (31, .bool (x26 != 0))] (by kernel_rfl) ?_
  refine WL.nil ?_
  refine WQ.then_normal (hK33 _ _ _ ?_)
  refine WP.cond (x26 != 0) rfl rfl (fun hc34 => ?_) (fun hc34 => ?_)
  · have hm := iteT hm hc34
    refine WP.seq (fun K35 hK35 => ?_)
    refine WP.region ?_
    refine WL.runk 3 [6, 7] [(6, .slice none 0 0), (7, .int .i64 x26)] (by kernel_rfl) ?_
    refine WL.nil ?_
    refine WQ.then_normal (hK35 _ _ _ ?_)
    refine WP.ret ?_
    refine WQ.then_ret ?_
    obtain rfl := Option.some.inj hm
    have hS37 : SH w28 w.heap.size [aOwn fGood 56 none 0 ([] : List SGood)] := SH.nilOwn hS31
    exact WQ.ret2 _ _ rfl rfl rfl ⟨_, _, rfl, hb29, hS37⟩
  have hm := iteF hm hc34
  refine WP.skip ?_
  refine WQ.then_normal (hK32 _ _ _ ?_)
  refine WP.seq (fun K38 hK38 => ?_)
  refine WP.region ?_
  refine WL.row fGood 56 ([] : List SGood) 0 #[] 33 (by kernel_rfl) rfl rfl rfl rfl rfl rfl rfl ?_
  intro a39 c40 w41 hE42 hR43
  have hb45 : Ext w w41 := Ext.trans hb29 hE42
  have hL46 : w.heap.size ≤ w41.heap.size := Nat.le_trans hL30 hE42.size
  have hS47 : SH w41 w.heap.size [aOwn fGood 56 a39 c40 ([] : List SGood)] := SH.add hS31 hE42 hL30 hR43
  refine WL.runk 1 [2, 8, 33, 34] [(2, .int .i64 many_2), (8, .int .i64 x3.1), (33, .slice a39 (([] : List SGood).length) c40), (34, .slice a0' list_0.length c0')] (by kernel_rfl) ?_
  obtain ⟨x48, hx49, hm⟩ := bindE hm
  refine WL.append (F := fGood) (xs := ([] : List SGood)) (ys := list_0) 35 (SH.front 0 hS47) hL46 (Rd.below h0 hb45) hx49 rfl rfl rfl Try.underlying25 (info56).1 (info56).2.2.1 (info56).2.1 (info56).2.2.2 rfl rfl rfl rfl rfl ?_
  intro a50 c51 w52 hB53 hS54
  have hb55 : Ext w w52 := Below.trans hb45 hB53
  have hL56 : w.heap.size ≤ w52.heap.size := Nat.le_trans hL46 hB53.size
  refine WL.runk 1 [2, 8, 10] [(2, .int .i64 many_2), (8, .int .i64 x3.1), (10, .slice a50 x48.length c51)] (by kernel_rfl) ?_
  refine WL.nil ?_
  refine WQ.then_normal (hK38 _ _ _ ?_)
  refine WP.seq (fun K57 hK57 => ?_)
  refine WP.region ?_
  refine WL.runk 2 [2, 8, 10, 36, 37] [(2, .int .i64 many_2), (8, .int .i64 x3.1), (10, .slice a50 x48.length c51), (36, .slice a50 x48.length c51), (37, .int .i64 x3.1)] (by kernel_rfl) ?_
  obtain ⟨x58, hx59, hm⟩ := bindE hm
  refine WL.st (.pointer (some (at_ a50 (Int.toNat x3.1 * 4)))) (ST.index (T := fGood.ty) (xs := x48) (SH.rd (SH.front 0 hS54)) hx59 rfl rfl rfl Try.underlying25 (info56).1 (info56).2.1) rfl rfl rfl ?_
  refine WL.st (.agg #[.string (bs x58.Name), .int .i64 x58.OnHand, .int .i64 x58.Reserved, .int .i64 x58.Least]) (ST.loadAgg (vs := fGood.leaf x58) (fun j v hv => Rd.flatA (F := fGood) (SH.rd (SH.front 0 hS54)) hx59 j hv) rfl rfl rfl Try.underlying56 rfl (info56).1 (info56).2.1) rfl rfl rfl ?_
  refine WL.box 56 [.string (bs []), .int .i64 0, .int .i64 0, .int .i64 0] 11 (by kernel_rfl) rfl rfl rfl rfl ?_
  intro b60 w61 hE62 hR63
  have hb65 : Ext w w61 := Ext.trans hb55 hE62
  have hL66 : w.heap.size ≤ w61.heap.size := Nat.le_trans hL56 hE62.size
  have hS67 : SH w61 w.heap.size [aBox 56 b60 [.string (bs []), .int .i64 0, .int .i64 0, .int .i64 0], aOwn fGood 56 a50 c51 x48] := SH.add hS54 hE62 hL56 hR63
  refine WL.boxStore 0 [.string (bs x58.Name), .int .i64 x58.OnHand, .int .i64 x58.Reserved, .int .i64 x58.Least] [.string (bs x58.Name), .int .i64 x58.OnHand, .int .i64 x58.Reserved, .int .i64 x58.Least] (SH.front 0 hS67) hL66 rfl rfl rfl rfl rfl rfl rfl (info56).1 (info56).2.1 rfl rfl rfl ?_
  intro w68 hB69 hS70
  have hb71 : Ext w w68 := Below.trans hb65 hB69
  have hL72 : w.heap.size ≤ w68.heap.size := Nat.le_trans hL66 hB69.size
  refine WL.sub [(2, .int .i64 many_2), (8, .int .i64 x3.1), (10, .slice a50 x48.length c51), (11, .pointer (some ⟨b60, 0, none⟩))] ⟨rfl, rfl, rfl, rfl, trivial⟩ ?_
  refine WL.nil ?_
  refine WQ.then_normal (hK57 _ _ _ ?_)
  refine WP.seq (fun K73 hK73 => ?_)
  refine WP.region ?_
  refine WL.runk 1 [2, 8, 10, 11, 40] [(2, .int .i64 many_2), (8, .int .i64 x3.1), (10, .slice a50 x48.length c51), (11, .pointer (some ⟨b60, 0, none⟩)), (40, .pointer (some ⟨b60, 2, none⟩))] (by kernel_rfl) ?_
  refine WL.st (.int .i64 x58.Reserved) (ST.load (cell_ext (SH.boxAt (SH.front 0 hS70) 2 _ rfl)) rfl rfl Try.underlying2 rfl) rfl rfl rfl ?_
  refine WL.runk 3 [2, 8, 10, 11, 43, 44] [(2, .int .i64 many_2), (8, .int .i64 x3.1), (10, .slice a50 x48.length c51), (11, .pointer (some ⟨b60, 0, none⟩)), (43, .int .i64 (wI64 (x58.Reserved - many_2))), (44, .pointer (some ⟨b60, 2, none⟩))] (by kernel_rfl) ?_
  refine WL.boxStore 2 [.int .i64 (wI64 (x58.Reserved - many_2))] [.string (bs x58.Name), .int .i64 x58.OnHand, .int .i64 (wI64 (x58.Reserved - many_2)), .int .i64 x58.Least] (SH.front 0 hS70) hL72 rfl rfl rfl rfl rfl rfl rfl (info2).1 (info2).2.1 rfl rfl rfl ?_
  intro w74 hB75 hS76
  have hb77 : Ext w w74 := Below.trans hb71 hB75
  have hL78 : w.heap.size ≤ w74.heap.size := Nat.le_trans hL72 hB75.size
  refine WL.sub [(2, .int .i64 many_2), (8, .int .i64 x3.1), (10, .slice a50 x48.length c51), (11, .pointer (some ⟨b60, 0, none⟩))] ⟨rfl, rfl, rfl, rfl, trivial⟩ ?_
  refine WL.nil ?_
  refine WQ.then_normal (hK73 _ _ _ ?_)
  refine WP.seq (fun K79 hK79 => ?_)
  refine WP.region ?_
  refine WL.runk 1 [2, 8, 10, 11, 45] [(2, .int .i64 many_2), (8, .int .i64 x3.1), (10, .slice a50 x48.length c51), (11, .pointer (some ⟨b60, 0, none⟩)), (45, .pointer (some ⟨b60, 1, none⟩))] (by kernel_rfl) ?_
  refine WL.st (.int .i64 x58.OnHand) (ST.load (cell_ext (SH.boxAt (SH.front 0 hS76) 1 _ rfl)) rfl rfl Try.underlying2 rfl) rfl rfl rfl ?_
  refine WL.runk 3 [8, 10, 11, 48, 49] [(8, .int .i64 x3.1), (10, .slice a50 x48.length c51), (11, .pointer (some ⟨b60, 0, none⟩)), (48, .int .i64 (wI64 (x58.OnHand - many_2))), (49, .pointer (some ⟨b60, 1, none⟩))] (by kernel_rfl) ?_
  refine WL.boxStore 1 [.int .i64 (wI64 (x58.OnHand - many_2))] [.string (bs x58.Name), .int .i64 (wI64 (x58.OnHand - many_2)), .int .i64 (wI64 (x58.Reserved - many_2)), .int .i64 x58.Least] (SH.front 0 hS76) hL78 rfl rfl rfl rfl rfl rfl rfl (info2).1 (info2).2.1 rfl rfl rfl ?_
  intro w80 hB81 hS82
  have hb83 : Ext w w80 := Below.trans hb77 hB81
  have hL84 : w.heap.size ≤ w80.heap.size := Nat.le_trans hL78 hB81.size
  refine WL.sub [(8, .int .i64 x3.1), (10, .slice a50 x48.length c51), (11, .pointer (some ⟨b60, 0, none⟩))] ⟨rfl, rfl, rfl, trivial⟩ ?_
  refine WL.nil ?_
  refine WQ.then_normal (hK79 _ _ _ ?_)
  refine WP.seq (fun K85 hK85 => ?_)
  refine WP.region ?_
  refine WL.runk 2 [10, 11, 50, 51] [(10, .slice a50 x48.length c51), (11, .pointer (some ⟨b60, 0, none⟩)), (50, .slice a50 x48.length c51), (51, .int .i64 x3.1)] (by kernel_rfl) ?_
  refine WL.st (.agg #[.string (bs x58.Name), .int .i64 (wI64 (x58.OnHand - many_2)), .int .i64 (wI64 (x58.Reserved - many_2)), .int .i64 x58.Least]) (ST.loadAgg (vs := [.string (bs x58.Name), .int .i64 (wI64 (x58.OnHand - many_2)), .int .i64 (wI64 (x58.Reserved - many_2)), .int .i64 x58.Least]) (fun j v hv => SH.boxPart (us := [.string (bs x58.Name), .int .i64 (wI64 (x58.OnHand - many_2)), .int .i64 (wI64 (x58.Reserved - many_2)), .int .i64 x58.Least]) (SH.front 0 hS82) 0 rfl j v hv) rfl rfl rfl Try.underlying56 rfl (info56).1 (info56).2.1) rfl rfl rfl ?_
  obtain ⟨x86, hx87, hm⟩ := bindE hm
  refine WL.st (.pointer (some (at_ a50 (Int.toNat x3.1 * 4)))) (ST.index (T := fGood.ty) (xs := x48) (SH.rd (SH.front 1 hS82)) hx87 rfl rfl rfl Try.underlying25 (info56).1 (info56).2.1) rfl rfl rfl ?_
  refine WL.store (F := fGood) (SGood.mk x58.Name (wI64 (x58.OnHand - many_2)) (wI64 (x58.Reserved - many_2)) x58.Least) 0 [.string (bs x58.Name), .int .i64 (wI64 (x58.OnHand - many_2)), .int .i64 (wI64 (x58.Reserved - many_2)), .int .i64 x58.Least] (SH.front 1 hS82) hL84 hx87 rfl rfl rfl rfl rfl rfl rfl (info56).1 (info56).2.1 rfl rfl rfl ?_
  intro w88 hB89 hS90
  have hb91 : Ext w w88 := Below.trans hb83 hB89
  have hL92 : w.heap.size ≤ w88.heap.size := Nat.le_trans hL84 hB89.size
  refine WL.sub [(10, .slice a50 ((x48.set (Int.toNat x3.1) (SGood.mk x58.Name (wI64 (x58.OnHand - many_2)) (wI64 (x58.Reserved - many_2)) x58.Least)).length) c51), (11, .pointer (some ⟨b60, 0, none⟩)), (50, .slice a50 ((x48.set (Int.toNat x3.1) (SGood.mk x58.Name (wI64 (x58.OnHand - many_2)) (wI64 (x58.Reserved - many_2)) x58.Least)).length) c51), (51, .int .i64 x3.1), (52, .agg #[.string (bs x58.Name), .int .i64 (wI64 (x58.OnHand - many_2)), .int .i64 (wI64 (x58.Reserved - many_2)), .int .i64 x58.Least])] ⟨by first | (simp only [List.length_set]; done) | (simp only [List.length_set]; rfl), rfl, by first | (simp only [List.length_set]; done) | (simp only [List.length_set]; rfl), rfl, rfl, trivial⟩ ?_
  refine WL.sub [(10, .slice a50 ((x48.set (Int.toNat x3.1) (SGood.mk x58.Name (wI64 (x58.OnHand - many_2)) (wI64 (x58.Reserved - many_2)) x58.Least)).length) c51)] ⟨rfl, trivial⟩ ?_
  refine WL.nil ?_
  refine WQ.then_normal (hK85 _ _ _ ?_)
  refine WP.seq (fun K93 hK93 => ?_)
  refine WP.region ?_
  refine WL.runk 3 [6, 7] [(6, .slice a50 ((x48.set (Int.toNat x3.1) (SGood.mk x58.Name (wI64 (x58.OnHand - many_2)) (wI64 (x58.Reserved - many_2)) x58.Least)).length) c51), (7, .int .i64 0)] (by kernel_rfl) ?_
  refine WL.nil ?_
  refine WQ.then_normal (hK93 _ _ _ ?_)
  refine WP.ret ?_
  obtain rfl := Option.some.inj hm
  exact WQ.ret2 _ _ rfl rfl rfl ⟨_, _, rfl, hb91, (SH.take 1 hS90)⟩

theorem c_30 (n : Nat) (list_0 : List SGood) (a0' : Option Addr) (c0' : Nat) (name_1 : List UInt8) (many_2 : Int) (w : World) {r : List SGood × Int} (hm : m_impl_UseReserved n list_0 name_1 many_2 = some r) (h0 : Rd fGood.ty w a0' list_0) (hle0 : list_0.length ≤ c0') :
    CallV Try.prog 30 #[.slice a0' list_0.length c0', .string (bs name_1), .int .i64 many_2] w (fun v w' => ∃ (ra0 : Option Addr) (rc0 : Nat), v = .tuple #[.slice ra0 r.1.length rc0, .int .i64 r.2] ∧ Ext w w' ∧ SH w' w.heap.size [aOwn fGood 56 ra0 rc0 r.1]) := by
  unfold m_impl_UseReserved at hm
  refine CallV.enter Try.func30 rfl (by kernel_rfl) Try.ntmps30 (env := [(0, .slice a0' list_0.length c0'), (1, .string (bs name_1)), (2, .int .i64 many_2)]) ⟨rfl, rfl, rfl, trivial⟩ ?_
  refine WP.seq (fun K1 hK1 => ?_)
  refine WP.region ?_
  refine WL.runk 2 [0, 1, 2] [(0, .slice a0' list_0.length c0'), (1, .string (bs name_1)), (2, .int .i64 many_2)] (by kernel_rfl) ?_
  refine WL.nil ?_
  refine WQ.then_normal (hK1 _ _ _ ?_)
  refine WP.seq (fun K2 hK2 => ?_)
  refine WP.region ?_
  refine WL.runk 3 [0, 2, 12, 13, 14] [(0, .slice a0' list_0.length c0'), (2, .int .i64 many_2), (12, .slice a0' list_0.length c0'), (13, .string (bs name_1)), (14, .int .i64 many_2)] (by kernel_rfl) ?_
  obtain ⟨x3, hx4, hm⟩ := bindE hm
  refine WL.call 57 #[.slice a0' list_0.length c0', .string (bs name_1), .int .i64 many_2] rfl rfl (by kernel_rfl) (c_57 n list_0 a0' c0' name_1 many_2 w hx4 (Rd.below h0 (Ext.refl w)) hle0) ?_
  rintro _ w5 ⟨rfl, hE6⟩
  refine ⟨_, rfl, ?_⟩
  have hb8 : Ext w w5 := Ext.trans (Ext.refl w) hE6
  have hL9 : w.heap.size ≤ w5.heap.size := Nat.le_trans (Nat.le_refl _) hE6.size
  have hS10 : SH w5 w.heap.size [] := SH.ext (SH.nil _ _) hE6
  refine WL.runk 5 [0, 2, 8, 9] [(0, .slice a0' list_0.length c0'), (2, .int .i64 many_2), (8, .int .i64 x3.1), (9, .int .i64 x3.2)] (by kernel_rfl) ?_
  refine WL.nil ?_
  refine WQ.then_normal (hK2 _ _ _ ?_)
  refine WP.seq (fun K11 hK11 => ?_)
  refine WP.block ?_
  refine WP.seq (fun K12 hK12 => ?_)
  refine WP.region ?_
  refine WL.runk 3 [0, 2, 8, 9, 18] [(0, .slice a0' list_0.length c0'), (2, .int .i64 many_2), (8, .int .i64 x3.1), (9, .int .i64 x3.2), (18, .bool (x3.2 != 0))] (by kernel_rfl) ?_
  refine WL.nil ?_
  refine WQ.then_normal (hK12 _ _ _ ?_)
  refine WP.cond (x3.2 != 0) rfl rfl (fun hc13 => ?_) (fun hc13 => ?_)
  · have hm := iteT hm hc13
    refine WP.seq (fun K14 hK14 => ?_)
    refine WP.region ?_
    refine WL.runk 3 [6, 7] [(6, .slice none 0 0), (7, .int .i64 x3.2)] (by kernel_rfl) ?_
    refine WL.nil ?_
    refine WQ.then_normal (hK14 _ _ _ ?_)
    refine WP.ret ?_
    refine WQ.block_ret ?_
    refine WQ.then_ret ?_
    obtain rfl := Option.some.inj hm
    have hS16 : SH w5 w.heap.size [aOwn fGood 56 none 0 ([] : List SGood)] := SH.nilOwn hS10
    exact WQ.ret2 _ _ rfl rfl rfl ⟨_, _, rfl, hb8, hS16⟩
  have hm := iteF hm hc13
  refine WP.seq (fun K17 hK17 => ?_)
  refine WP.region ?_
  refine WL.runk 2 [0, 2, 8, 23, 24] [(0, .slice a0' list_0.length c0'), (2, .int .i64 many_2), (8, .int .i64 x3.1), (23, .slice a0' list_0.length c0'), (24, .int .i64 x3.1)] (by kernel_rfl) ?_
  obtain ⟨x18, hx19, hm⟩ := bindE hm
  refine WL.st (.pointer (some (at_ a0' (Int.toNat x3.1 * 4)))) (ST.index (T := fGood.ty) (xs := list_0) (Rd.below h0 hb8) hx19 rfl rfl rfl Try.underlying25 (info56).1 (info56).2.1) rfl rfl rfl ?_
  refine WL.runk 1 [0, 2, 8, 26] [(0, .slice a0' list_0.length c0'), (2, .int .i64 many_2), (8, .int .i64 x3.1), (26, .pointer (some (at_ a0' (Int.toNat x3.1 * 4 + 2))))] (by kernel_rfl) ?_
  refine WL.st (.int .i64 x18.Reserved) (ST.load (cell_ext (Rd.flat (F := fGood) (Rd.below h0 hb8) hx19 2 rfl)) rfl rfl Try.underlying2 rfl) rfl rfl rfl ?_
  refine WL.runk 3 [0, 2, 8, 22] [(0, .slice a0' list_0.length c0'), (2, .int .i64 many_2), (8, .int .i64 x3.1), (22, .bool (decide (x18.Reserved < many_2)))] (by kernel_rfl) ?_
  refine WL.nil ?_
  refine WQ.then_normal (hK17 _ _ _ ?_)
  refine WP.cond (decide (x18.Reserved < many_2)) rfl rfl (fun hc20 => ?_) (fun hc20 => ?_)
  · have hm := iteT hm hc20
    refine WP.seq (fun K21 hK21 => ?_)
    refine WP.region ?_
    refine WL.runk 2 [6, 7] [(6, .slice none 0 0), (7, .int .i64 6)] (by kernel_rfl) ?_
    refine WL.nil ?_
    refine WQ.then_normal (hK21 _ _ _ ?_)
    refine WP.ret ?_
    refine WQ.block_ret ?_
    refine WQ.then_ret ?_
    obtain rfl := Option.some.inj hm
    have hS23 : SH w5 w.heap.size [aOwn fGood 56 none 0 ([] : List SGood)] := SH.nilOwn hS10
    exact WQ.ret2 _ _ rfl rfl rfl ⟨_, _, rfl, hb8, hS23⟩
  have hm := iteF hm hc20
  refine WP.skip ?_
  refine WQ.block_normal ?_
  refine WQ.then_normal (hK11 _ _ _ ?_)
  refine WP.seq (fun K24 hK24 => ?_)
  refine WP.region ?_
  refine WL.runk 1 [2, 8, 30] [(2, .int .i64 many_2), (8, .int .i64 x3.1), (30, .slice a0' list_0.length c0')] (by kernel_rfl) ?_
  obtain ⟨x25, hx26, hm⟩ := bindE hm
  refine WL.call 58 #[.slice a0' list_0.length c0'] rfl rfl (by kernel_rfl) (c_58 n list_0 a0' c0' w5 hx26 (Rd.below h0 hb8) hle0) ?_
  rintro _ w30 ⟨a27, c28, rfl, hE31, hR32⟩
  refine ⟨_, rfl, ?_⟩
  have hb33 : Ext w w30 := Ext.trans hb8 hE31
  have hL34 : w.heap.size ≤ w30.heap.size := Nat.le_trans hL9 hE31.size
  have hS35 : SH w30 w.heap.size [aOwn fGood 56 a27 c28 x25] := SH.add hS10 hE31 hL9 hR32
  refine WL.runk 1 [2, 8, 10] [(2, .int .i64 many_2), (8, .int .i64 x3.1), (10, .slice a27 x25.length c28)] (by kernel_rfl) ?_
  refine WL.nil ?_
  refine WQ.then_normal (hK24 _ _ _ ?_)
  refine WP.seq (fun K36 hK36 => ?_)
  refine WP.region ?_
  refine WL.runk 2 [2, 8, 10, 32, 33] [(2, .int .i64 many_2), (8, .int .i64 x3.1), (10, .slice a27 x25.length c28), (32, .slice a27 x25.length c28), (33, .int .i64 x3.1)] (by kernel_rfl) ?_
  obtain ⟨x37, hx38, hm⟩ := bindE hm
  refine WL.st (.pointer (some (at_ a27 (Int.toNat x3.1 * 4)))) (ST.index (T := fGood.ty) (xs := x25) (SH.rd (SH.front 0 hS35)) hx38 rfl rfl rfl Try.underlying25 (info56).1 (info56).2.1) rfl rfl rfl ?_
  refine WL.runk 1 [2, 8, 10, 32, 33, 35] [(2, .int .i64 many_2), (8, .int .i64 x3.1), (10, .slice a27 x25.length c28), (32, .slice a27 x25.length c28), (33, .int .i64 x3.1), (35, .pointer (some (at_ a27 (Int.toNat x3.1 * 4 + 2))))] (by kernel_rfl) ?_
  refine WL.st (.int .i64 x37.Reserved) (ST.load (cell_ext (Rd.flat (F := fGood) (SH.rd (SH.front 0 hS35)) hx38 2 rfl)) rfl rfl Try.underlying2 rfl) rfl rfl rfl ?_
  refine WL.runk 2 [2, 8, 10, 32, 33, 38] [(2, .int .i64 many_2), (8, .int .i64 x3.1), (10, .slice a27 x25.length c28), (32, .slice a27 x25.length c28), (33, .int .i64 x3.1), (38, .int .i64 (wI64 (x37.Reserved - many_2)))] (by kernel_rfl) ?_
  obtain ⟨x39, hx40, hm⟩ := bindE hm
  refine WL.st (.pointer (some (at_ a27 (Int.toNat x3.1 * 4)))) (ST.index (T := fGood.ty) (xs := x25) (SH.rd (SH.front 0 hS35)) hx40 rfl rfl rfl Try.underlying25 (info56).1 (info56).2.1) rfl rfl rfl ?_
  refine WL.runk 1 [2, 8, 10, 38, 40] [(2, .int .i64 many_2), (8, .int .i64 x3.1), (10, .slice a27 x25.length c28), (38, .int .i64 (wI64 (x37.Reserved - many_2))), (40, .pointer (some (at_ a27 (Int.toNat x3.1 * 4 + 2))))] (by kernel_rfl) ?_
  refine WL.store (F := fGood) (SGood.mk x39.Name x39.OnHand (wI64 (x37.Reserved - many_2)) x39.Least) 2 [.int .i64 (wI64 (x37.Reserved - many_2))] (SH.front 0 hS35) hL34 hx40 rfl rfl rfl rfl rfl rfl rfl (info2).1 (info2).2.1 rfl rfl rfl ?_
  intro w41 hB42 hS43
  have hb44 : Ext w w41 := Below.trans hb33 hB42
  have hL45 : w.heap.size ≤ w41.heap.size := Nat.le_trans hL34 hB42.size
  refine WL.sub [(2, .int .i64 many_2), (8, .int .i64 x3.1), (10, .slice a27 ((x25.set (Int.toNat x3.1) (SGood.mk x39.Name x39.OnHand (wI64 (x37.Reserved - many_2)) x39.Least)).length) c28), (38, .int .i64 (wI64 (x37.Reserved - many_2)))] ⟨rfl, rfl, by first | (simp only [List.length_set]; done) | (simp only [List.length_set]; rfl), rfl, trivial⟩ ?_
  refine WL.sub [(2, .int .i64 many_2), (8, .int .i64 x3.1), (10, .slice a27 ((x25.set (Int.toNat x3.1) (SGood.mk x39.Name x39.OnHand (wI64 (x37.Reserved - many_2)) x39.Least)).length) c28)] ⟨rfl, rfl, rfl, trivial⟩ ?_
  refine WL.nil ?_
  refine WQ.then_normal (hK36 _ _ _ ?_)
  refine WP.seq (fun K46 hK46 => ?_)
  refine WP.region ?_
  refine WL.runk 2 [2, 10, 41, 42] [(2, .int .i64 many_2), (10, .slice a27 ((x25.set (Int.toNat x3.1) (SGood.mk x39.Name x39.OnHand (wI64 (x37.Reserved - many_2)) x39.Least)).length) c28), (41, .slice a27 ((x25.set (Int.toNat x3.1) (SGood.mk x39.Name x39.OnHand (wI64 (x37.Reserved - many_2)) x39.Least)).length) c28), (42, .int .i64 x3.1)] (by kernel_rfl) ?_
  obtain ⟨x47, hx48, hm⟩ := bindE hm
  refine WL.st (.pointer (some (at_ a27 (Int.toNat x3.1 * 4)))) (ST.index (T := fGood.ty) (xs := (x25.set (Int.toNat x3.1) (SGood.mk x39.Name x39.OnHand (wI64 (x37.Reserved - many_2)) x39.Least))) (SH.rd (SH.front 0 hS43)) hx48 rfl rfl rfl Try.underlying25 (info56).1 (info56).2.1) rfl rfl rfl ?_
  refine WL.runk 1 [2, 10, 41, 42, 44] [(2, .int .i64 many_2), (10, .slice a27 ((x25.set (Int.toNat x3.1) (SGood.mk x39.Name x39.OnHand (wI64 (x37.Reserved - many_2)) x39.Least)).length) c28), (41, .slice a27 ((x25.set (Int.toNat x3.1) (SGood.mk x39.Name x39.OnHand (wI64 (x37.Reserved - many_2)) x39.Least)).length) c28), (42, .int .i64 x3.1), (44, .pointer (some (at_ a27 (Int.toNat x3.1 * 4 + 1))))] (by kernel_rfl) ?_
  refine WL.st (.int .i64 x47.OnHand) (ST.load (cell_ext (Rd.flat (F := fGood) (SH.rd (SH.front 0 hS43)) hx48 1 rfl)) rfl rfl Try.underlying2 rfl) rfl rfl rfl ?_
  refine WL.runk 2 [10, 41, 42, 47] [(10, .slice a27 ((x25.set (Int.toNat x3.1) (SGood.mk x39.Name x39.OnHand (wI64 (x37.Reserved - many_2)) x39.Least)).length) c28), (41, .slice a27 ((x25.set (Int.toNat x3.1) (SGood.mk x39.Name x39.OnHand (wI64 (x37.Reserved - many_2)) x39.Least)).length) c28), (42, .int .i64 x3.1), (47, .int .i64 (wI64 (x47.OnHand - many_2)))] (by kernel_rfl) ?_
  obtain ⟨x49, hx50, hm⟩ := bindE hm
  refine WL.st (.pointer (some (at_ a27 (Int.toNat x3.1 * 4)))) (ST.index (T := fGood.ty) (xs := (x25.set (Int.toNat x3.1) (SGood.mk x39.Name x39.OnHand (wI64 (x37.Reserved - many_2)) x39.Least))) (SH.rd (SH.front 0 hS43)) hx50 rfl rfl rfl Try.underlying25 (info56).1 (info56).2.1) rfl rfl rfl ?_
  refine WL.runk 1 [10, 47, 49] [(10, .slice a27 ((x25.set (Int.toNat x3.1) (SGood.mk x39.Name x39.OnHand (wI64 (x37.Reserved - many_2)) x39.Least)).length) c28), (47, .int .i64 (wI64 (x47.OnHand - many_2))), (49, .pointer (some (at_ a27 (Int.toNat x3.1 * 4 + 1))))] (by kernel_rfl) ?_
  refine WL.store (F := fGood) (SGood.mk x49.Name (wI64 (x47.OnHand - many_2)) x49.Reserved x49.Least) 1 [.int .i64 (wI64 (x47.OnHand - many_2))] (SH.front 0 hS43) hL45 hx50 rfl rfl rfl rfl rfl rfl rfl (info2).1 (info2).2.1 rfl rfl rfl ?_
  intro w51 hB52 hS53
  have hb54 : Ext w w51 := Below.trans hb44 hB52
  have hL55 : w.heap.size ≤ w51.heap.size := Nat.le_trans hL45 hB52.size
  refine WL.sub [(10, .slice a27 (((x25.set (Int.toNat x3.1) (SGood.mk x39.Name x39.OnHand (wI64 (x37.Reserved - many_2)) x39.Least)).set (Int.toNat x3.1) (SGood.mk x49.Name (wI64 (x47.OnHand - many_2)) x49.Reserved x49.Least)).length) c28), (47, .int .i64 (wI64 (x47.OnHand - many_2)))] ⟨by first | (simp only [List.length_set]; done) | (simp only [List.length_set]; rfl), rfl, trivial⟩ ?_
  refine WL.sub [(10, .slice a27 (((x25.set (Int.toNat x3.1) (SGood.mk x39.Name x39.OnHand (wI64 (x37.Reserved - many_2)) x39.Least)).set (Int.toNat x3.1) (SGood.mk x49.Name (wI64 (x47.OnHand - many_2)) x49.Reserved x49.Least)).length) c28)] ⟨rfl, trivial⟩ ?_
  refine WL.nil ?_
  refine WQ.then_normal (hK46 _ _ _ ?_)
  refine WP.seq (fun K56 hK56 => ?_)
  refine WP.region ?_
  refine WL.runk 3 [6, 7] [(6, .slice a27 (((x25.set (Int.toNat x3.1) (SGood.mk x39.Name x39.OnHand (wI64 (x37.Reserved - many_2)) x39.Least)).set (Int.toNat x3.1) (SGood.mk x49.Name (wI64 (x47.OnHand - many_2)) x49.Reserved x49.Least)).length) c28), (7, .int .i64 0)] (by kernel_rfl) ?_
  refine WL.nil ?_
  refine WQ.then_normal (hK56 _ _ _ ?_)
  refine WP.ret ?_
  obtain rfl := Option.some.inj hm
  exact WQ.ret2 _ _ rfl rfl rfl ⟨_, _, rfl, hb54, hS53⟩

theorem c_59 (n : Nat) (t_0 : STake) (b0' o0' : Nat) (w : World) {r : Bool} (hm : m_spec_l23Take n t_0 = some r) (h0 : RdB w b0' o0' [.string (bs t_0.Name), .int .i64 t_0.Many]) :
    CallV Try.prog 59 #[.pointer (some ⟨b0', o0', none⟩)] w (fun v w' => v = .bool r ∧ Ext w w') := by
  unfold m_spec_l23Take at hm
  refine CallV.enter Try.func59 rfl (by kernel_rfl) Try.ntmps59 (env := [(0, .pointer (some ⟨b0', o0', none⟩))]) ⟨rfl, trivial⟩ ?_
  refine WP.seq (fun K1 hK1 => ?_)
  refine WP.region ?_
  refine WL.runk 1 [0] [(0, .pointer (some ⟨b0', o0', none⟩))] (by kernel_rfl) ?_
  refine WL.nil ?_
  refine WQ.then_normal (hK1 _ _ _ ?_)
  refine WP.seq (fun K2 hK2 => ?_)
  refine WP.region ?_
  refine WL.runk 3 [5] [(5, .pointer (some ⟨b0', o0' + 1, none⟩))] (by kernel_rfl) ?_
  refine WL.st (.int .i64 t_0.Many) (ST.load (cell_ext (RdB.at (RdB.below h0 (Ext.refl w)) 1 _ rfl)) rfl rfl Try.underlying2 rfl) rfl rfl rfl ?_
  obtain ⟨x3, hx4, hm⟩ := bindE hm
  refine WL.call 80 #[.int .i64 t_0.Many, .int .i64 (-1000000), .int .i64 1000000] rfl rfl (by kernel_rfl) (c_80 n t_0.Many (-1000000) 1000000 w hx4 ) ?_
  rintro _ w5 ⟨rfl, hE6⟩
  refine ⟨_, rfl, ?_⟩
  have hb8 : Ext w w5 := Ext.trans (Ext.refl w) hE6
  have hL9 : w.heap.size ≤ w5.heap.size := Nat.le_trans (Nat.le_refl _) hE6.size
  have hS10 : SH w5 w.heap.size [] := SH.ext (SH.nil _ _) hE6
  refine WL.runk 1 [2] [(2, .bool x3)] (by kernel_rfl) ?_
  refine WL.nil ?_
  refine WQ.then_normal (hK2 _ _ _ ?_)
  refine WP.ret ?_
  obtain rfl := Option.some.inj hm
  exact WQ.ret1 _ rfl rfl ⟨rfl, hb8⟩

theorem c_60_o1 (n : Nat) (list_0 : List SGood) (a0' : Option Addr) (c0' : Nat) (t_1 : STake) (b1' : Nat) (w : World) (w0 : World) (B : Nat) (L : List Asrt) {r : Int × List SGood} (hm : m_spec_l23Change_o1 n list_0 t_1 = some r) (_hE0 : Ext w0 w) (_hW : w0.heap.size ≤ B) (hL : B ≤ w.heap.size) (hS : SH w B (aOwn fGood 56 a0' c0' list_0 :: aBox 43 b1' [.string (bs t_1.Name), .int .i64 t_1.Many] :: L)) :
    CallV Try.prog 60 #[.slice a0' list_0.length c0', .pointer (some ⟨b1', 0, none⟩)] w (fun v w' => v = .int .i64 r.1 ∧ Below B w w' ∧ SH w' B (aOwn fGood 56 a0' c0' r.2 :: aBox 43 b1' [.string (bs t_1.Name), .int .i64 t_1.Many] :: L) ∧ r.2.length = list_0.length) := by
  unfold m_spec_l23Change_o1 at hm
  refine CallV.enter Try.func60 rfl (by kernel_rfl) Try.ntmps60 (env := [(0, .slice a0' list_0.length c0'), (1, .pointer (some ⟨b1', 0, none⟩))]) ⟨rfl, rfl, trivial⟩ ?_
  refine WP.seq (fun K1 hK1 => ?_)
  refine WP.region ?_
  refine WL.runk 1 [0, 1] [(0, .slice a0' list_0.length c0'), (1, .pointer (some ⟨b1', 0, none⟩))] (by kernel_rfl) ?_
  refine WL.nil ?_
  refine WQ.then_normal (hK1 _ _ _ ?_)
  refine WP.seq (fun K2 hK2 => ?_)
  refine WP.region ?_
  refine WL.runk 4 [0, 1, 7, 10] [(0, .slice a0' list_0.length c0'), (1, .pointer (some ⟨b1', 0, none⟩)), (7, .slice a0' list_0.length c0'), (10, .pointer (some ⟨b1', 0, none⟩))] (by kernel_rfl) ?_
  refine WL.st (.string (bs t_1.Name)) (ST.load (cell_ext (SH.boxAt (SH.front 1 hS) 0 _ rfl)) rfl rfl Try.underlying9 rfl) rfl rfl rfl ?_
  obtain ⟨x3, hx4, hm⟩ := bindE hm
  refine WL.call 64 #[.slice a0' list_0.length c0', .string (bs t_1.Name)] rfl rfl (by kernel_rfl) (c_64 n list_0 a0' c0' t_1.Name w hx4 (SH.rd (SH.front 0 hS)) (SH.le (SH.front 0 hS)).1) ?_
  rintro _ w5 ⟨rfl, hE6⟩
  refine ⟨_, rfl, ?_⟩
  have hb8 : Below B w w5 := Below.trans (Below.refl _ _) (Below.mono hE6 hL)
  have hL9 : B ≤ w5.heap.size := Nat.le_trans hL hE6.size
  have hS10 : SH w5 B (aOwn fGood 56 a0' c0' list_0 :: aBox 43 b1' [.string (bs t_1.Name), .int .i64 t_1.Many] :: L) := SH.ext hS hE6
  refine WL.runk 1 [0, 1, 5] [(0, .slice a0' list_0.length c0'), (1, .pointer (some ⟨b1', 0, none⟩)), (5, .int .i64 x3)] (by kernel_rfl) ?_
  refine WL.nil ?_
  refine WQ.then_normal (hK2 _ _ _ ?_)
  refine WP.seq (fun K11 hK11 => ?_)
  refine WP.seq (fun K12 hK12 => ?_)
  refine WP.region ?_
  refine WL.runk 2 [0, 1, 5, 14] [(0, .slice a0' list_0.length c0'), (1, .pointer (some ⟨b1', 0, none⟩)), (5, .int .i64 x3), (14, .bool (decide (x3 < 0)))] (by kernel_rfl) ?_
  refine WL.nil ?_
  refine WQ.then_normal (hK12 _ _ _ ?_)
  refine WP.cond (decide (x3 < 0)) rfl rfl (fun hc13 => ?_) (fun hc13 => ?_)
  · have hm := iteT hm hc13
    refine WP.seq (fun K14 hK14 => ?_)
    refine WP.region ?_
    refine WL.runk 1 [4] [(4, .int .i64 3)] (by kernel_rfl) ?_
    refine WL.nil ?_
    refine WQ.then_normal (hK14 _ _ _ ?_)
    refine WP.ret ?_
    refine WQ.then_ret ?_
    obtain rfl := Option.some.inj hm
    exact WQ.ret1 _ rfl rfl ⟨rfl, hb8, hS10, rfl⟩
  have hm := iteF hm hc13
  refine WP.skip ?_
  refine WQ.then_normal (hK11 _ _ _ ?_)
  refine WP.seq (fun K15 hK15 => ?_)
  refine WP.region ?_
  refine WL.runk 2 [0, 1, 5, 15, 16] [(0, .slice a0' list_0.length c0'), (1, .pointer (some ⟨b1', 0, none⟩)), (5, .int .i64 x3), (15, .slice a0' list_0.length c0'), (16, .int .i64 x3)] (by kernel_rfl) ?_
  obtain ⟨x16, hx17, hm⟩ := bindE hm
  refine WL.st (.pointer (some (at_ a0' (Int.toNat x3 * 4)))) (ST.index (T := fGood.ty) (xs := list_0) (SH.rd (SH.front 0 hS10)) hx17 rfl rfl rfl Try.underlying25 (info56).1 (info56).2.1) rfl rfl rfl ?_
  refine WL.st (.agg #[.string (bs x16.Name), .int .i64 x16.OnHand, .int .i64 x16.Reserved, .int .i64 x16.Least]) (ST.loadAgg (vs := fGood.leaf x16) (fun j v hv => Rd.flatA (F := fGood) (SH.rd (SH.front 0 hS10)) hx17 j hv) rfl rfl rfl Try.underlying56 rfl (info56).1 (info56).2.1) rfl rfl rfl ?_
  refine WL.box 56 [.string (bs []), .int .i64 0, .int .i64 0, .int .i64 0] 6 (by kernel_rfl) rfl rfl rfl rfl ?_
  intro b18 w19 hE20 hR21
  have hb23 : Below B w w19 := Below.trans hb8 (Below.mono hE20 hL9)
  have hL24 : B ≤ w19.heap.size := Nat.le_trans hL9 hE20.size
  have hS25 : SH w19 B (aBox 56 b18 [.string (bs []), .int .i64 0, .int .i64 0, .int .i64 0] :: aOwn fGood 56 a0' c0' list_0 :: aBox 43 b1' [.string (bs t_1.Name), .int .i64 t_1.Many] :: L) := SH.add hS10 hE20 hL9 hR21
  refine WL.boxStore 0 [.string (bs x16.Name), .int .i64 x16.OnHand, .int .i64 x16.Reserved, .int .i64 x16.Least] [.string (bs x16.Name), .int .i64 x16.OnHand, .int .i64 x16.Reserved, .int .i64 x16.Least] (SH.front 0 hS25) hL24 rfl rfl rfl rfl rfl rfl rfl (info56).1 (info56).2.1 rfl rfl rfl ?_
  intro w26 hB27 hS28
  have hb29 : Below B w w26 := Below.trans hb23 hB27
  have hL30 : B ≤ w26.heap.size := Nat.le_trans hL24 hB27.size
  refine WL.sub [(0, .slice a0' list_0.length c0'), (1, .pointer (some ⟨b1', 0, none⟩)), (5, .int .i64 x3), (6, .pointer (some ⟨b18, 0, none⟩))] ⟨rfl, rfl, rfl, rfl, trivial⟩ ?_
  refine WL.nil ?_
  refine WQ.then_normal (hK15 _ _ _ ?_)
  refine WP.seq (fun K31 hK31 => ?_)
  refine WP.open (n := 9) (by kernel_rfl) rfl (fun w32 hE33 => ?_)
  have hb34 : Below B w w32 := Below.trans hb29 (Below.mono hE33 hL30)
  have hL35 : B ≤ w32.heap.size := Nat.le_trans hL30 hE33.size
  have hS36 : SH w32 B (aBox 56 b18 [.string (bs x16.Name), .int .i64 x16.OnHand, .int .i64 x16.Reserved, .int .i64 x16.Least] :: aOwn fGood 56 a0' c0' list_0 :: aBox 43 b1' [.string (bs t_1.Name), .int .i64 t_1.Many] :: L) := SH.ext hS28 hE33
  refine WA.quiet (f' := 1) (D' := [0, 1, 2, 3, 4, 5, 6, 7]) [0, 1, 2, 3, 4, 5, 6, 7] rfl rfl (by kernel_rfl) ?_
  refine QL.step1v 19 (.pointer (some ⟨b18, 1, none⟩)) rfl (fun _ => by kernel_rfl) ?_
  refine QL.subk [0, 1, 5, 6, 19] [(0, .slice a0' list_0.length c0'), (1, .pointer (some ⟨b1', 0, none⟩)), (5, .int .i64 x3), (6, .pointer (some ⟨b18, 0, none⟩)), (19, .pointer (some ⟨b18, 1, none⟩))] (by kernel_rfl) ?_
  refine QL.st (.int .i64 x16.OnHand) (ST.load (cell_ext (SH.boxAt (SH.front 0 hS36) 1 _ rfl)) rfl rfl Try.underlying2 rfl) rfl rfl rfl ?_
  refine QL.step1v 21 (.pointer (some ⟨b1', 0, none⟩)) rfl (fun _ => by kernel_rfl) ?_
  refine QL.step1v 22 (.pointer (some ⟨b1', 0, none⟩)) rfl (fun _ => by kernel_rfl) ?_
  refine QL.step1v 23 (.pointer (some ⟨b1', 1, none⟩)) rfl (fun _ => by kernel_rfl) ?_
  refine QL.subk [0, 5, 6, 20, 23] [(0, .slice a0' list_0.length c0'), (5, .int .i64 x3), (6, .pointer (some ⟨b18, 0, none⟩)), (20, .int .i64 x16.OnHand), (23, .pointer (some ⟨b1', 1, none⟩))] (by kernel_rfl) ?_
  refine QL.st (.int .i64 t_1.Many) (ST.load (cell_ext (SH.boxAt (SH.front 2 hS36) 1 _ rfl)) rfl rfl Try.underlying2 rfl) rfl rfl rfl ?_
  refine QL.step1v 25 (.int .i64 (wI64 (x16.OnHand + t_1.Many))) rfl (fun _ => by kernel_rfl) ?_
  refine QL.step1v 26 (.pointer (some ⟨b18, 1, none⟩)) rfl (fun _ => by kernel_rfl) ?_
  refine QL.subk [0, 5, 6, 25, 26] [(0, .slice a0' list_0.length c0'), (5, .int .i64 x3), (6, .pointer (some ⟨b18, 0, none⟩)), (25, .int .i64 (wI64 (x16.OnHand + t_1.Many))), (26, .pointer (some ⟨b18, 1, none⟩))] (by kernel_rfl) ?_
  refine QL.nil ?_
  intro w37 hE38
  have hb39 : Below B w w37 := Below.trans hb34 (Below.mono hE38 hL35)
  have hL40 : B ≤ w37.heap.size := Nat.le_trans hL35 hE38.size
  have hS41 : SH w37 B (aBox 56 b18 [.string (bs x16.Name), .int .i64 x16.OnHand, .int .i64 x16.Reserved, .int .i64 x16.Least] :: aOwn fGood 56 a0' c0' list_0 :: aBox 43 b1' [.string (bs t_1.Name), .int .i64 t_1.Many] :: L) := SH.ext hS36 hE38
  refine WA.one (i := 8) (D' := [0, 1, 2, 3, 4, 5, 6, 7, 8]) rfl rfl (by kernel_rfl) ?_
  refine WL.boxStore 1 [.int .i64 (wI64 (x16.OnHand + t_1.Many))] [.string (bs x16.Name), .int .i64 (wI64 (x16.OnHand + t_1.Many)), .int .i64 x16.Reserved, .int .i64 x16.Least] (SH.front 0 hS41) hL40 rfl rfl rfl rfl rfl rfl rfl (info2).1 (info2).2.1 rfl rfl rfl ?_
  intro w42 hB43 hS44
  have hb45 : Below B w w42 := Below.trans hb39 hB43
  have hL46 : B ≤ w42.heap.size := Nat.le_trans hL40 hB43.size
  refine WL.sub [(0, .slice a0' list_0.length c0'), (5, .int .i64 x3), (6, .pointer (some ⟨b18, 0, none⟩))] ⟨rfl, rfl, rfl, trivial⟩ ?_
  refine WL.nil ?_
  refine WA.done (by kernel_rfl) ?_
  refine WQ.then_normal (hK31 _ _ _ ?_)
  refine WP.seq (fun K47 hK47 => ?_)
  refine WP.seq (fun K48 hK48 => ?_)
  refine WP.region ?_
  refine WL.runk 1 [0, 5, 6, 27] [(0, .slice a0' list_0.length c0'), (5, .int .i64 x3), (6, .pointer (some ⟨b18, 0, none⟩)), (27, .pointer (some ⟨b18, 1, none⟩))] (by kernel_rfl) ?_
  refine WL.st (.int .i64 (wI64 (x16.OnHand + t_1.Many))) (ST.load (cell_ext (SH.boxAt (SH.front 0 hS44) 1 _ rfl)) rfl rfl Try.underlying2 rfl) rfl rfl rfl ?_
  refine WL.runk 1 [0, 5, 6, 28, 29] [(0, .slice a0' list_0.length c0'), (5, .int .i64 x3), (6, .pointer (some ⟨b18, 0, none⟩)), (28, .int .i64 (wI64 (x16.OnHand + t_1.Many))), (29, .pointer (some ⟨b18, 2, none⟩))] (by kernel_rfl) ?_
  refine WL.st (.int .i64 x16.Reserved) (ST.load (cell_ext (SH.boxAt (SH.front 0 hS44) 2 _ rfl)) rfl rfl Try.underlying2 rfl) rfl rfl rfl ?_
  refine WL.runk 1 [0, 5, 6, 31] [(0, .slice a0' list_0.length c0'), (5, .int .i64 x3), (6, .pointer (some ⟨b18, 0, none⟩)), (31, .bool (decide ((wI64 (x16.OnHand + t_1.Many)) < x16.Reserved)))] (by kernel_rfl) ?_
  refine WL.nil ?_
  refine WQ.then_normal (hK48 _ _ _ ?_)
  refine WP.cond (decide ((wI64 (x16.OnHand + t_1.Many)) < x16.Reserved)) rfl rfl (fun hc49 => ?_) (fun hc49 => ?_)
  · have hm := iteT hm hc49
    refine WP.seq (fun K50 hK50 => ?_)
    refine WP.region ?_
    refine WL.runk 1 [4] [(4, .int .i64 6)] (by kernel_rfl) ?_
    refine WL.nil ?_
    refine WQ.then_normal (hK50 _ _ _ ?_)
    refine WP.ret ?_
    refine WQ.then_ret ?_
    obtain rfl := Option.some.inj hm
    exact WQ.ret1 _ rfl rfl ⟨rfl, hb45, (SH.cutOut 2 1 (SH.front 2 (SH.front 2 hS44))), rfl⟩
  have hm := iteF hm hc49
  refine WP.skip ?_
  refine WQ.then_normal (hK47 _ _ _ ?_)
  refine WP.seq (fun K51 hK51 => ?_)
  refine WP.seq (fun K52 hK52 => ?_)
  refine WP.region ?_
  refine WL.runk 1 [0, 5, 6, 32] [(0, .slice a0' list_0.length c0'), (5, .int .i64 x3), (6, .pointer (some ⟨b18, 0, none⟩)), (32, .pointer (some ⟨b18, 1, none⟩))] (by kernel_rfl) ?_
  refine WL.st (.int .i64 (wI64 (x16.OnHand + t_1.Many))) (ST.load (cell_ext (SH.boxAt (SH.front 0 hS44) 1 _ rfl)) rfl rfl Try.underlying2 rfl) rfl rfl rfl ?_
  obtain ⟨x53, hx54, hm⟩ := bindE hm
  refine WL.call 81 #[.int .i64 (wI64 (x16.OnHand + t_1.Many))] rfl rfl (by kernel_rfl) (c_81 n (wI64 (x16.OnHand + t_1.Many)) w42 hx54 ) ?_
  rintro _ w55 ⟨rfl, hE56⟩
  refine ⟨_, rfl, ?_⟩
  have hb58 : Below B w w55 := Below.trans hb45 (Below.mono hE56 hL46)
  have hL59 : B ≤ w55.heap.size := Nat.le_trans hL46 hE56.size
  have hS60 : SH w55 B (aBox 56 b18 [.string (bs x16.Name), .int .i64 (wI64 (x16.OnHand + t_1.Many)), .int .i64 x16.Reserved, .int .i64 x16.Least] :: aOwn fGood 56 a0' c0' list_0 :: aBox 43 b1' [.string (bs t_1.Name), .int .i64 t_1.Many] :: L) := SH.ext hS44 hE56
  refine WL.runk 1 [0, 5, 6, 35] [(0, .slice a0' list_0.length c0'), (5, .int .i64 x3), (6, .pointer (some ⟨b18, 0, none⟩)), (35, .bool (!x53))] (by kernel_rfl) ?_
  refine WL.nil ?_
  refine WQ.then_normal (hK52 _ _ _ ?_)
  refine WP.cond (!x53) rfl rfl (fun hc61 => ?_) (fun hc61 => ?_)
  · have hm := iteT hm hc61
    refine WP.seq (fun K62 hK62 => ?_)
    refine WP.region ?_
    refine WL.runk 1 [4] [(4, .int .i64 5)] (by kernel_rfl) ?_
    refine WL.nil ?_
    refine WQ.then_normal (hK62 _ _ _ ?_)
    refine WP.ret ?_
    refine WQ.then_ret ?_
    obtain rfl := Option.some.inj hm
    exact WQ.ret1 _ rfl rfl ⟨rfl, hb58, (SH.cutOut 2 1 (SH.front 2 (SH.front 2 hS60))), rfl⟩
  have hm := iteF hm hc61
  refine WP.skip ?_
  refine WQ.then_normal (hK51 _ _ _ ?_)
  refine WP.seq (fun K63 hK63 => ?_)
  refine WP.region ?_
  refine WL.runk 2 [6, 36, 37] [(6, .pointer (some ⟨b18, 0, none⟩)), (36, .slice a0' list_0.length c0'), (37, .int .i64 x3)] (by kernel_rfl) ?_
  refine WL.st (.agg #[.string (bs x16.Name), .int .i64 (wI64 (x16.OnHand + t_1.Many)), .int .i64 x16.Reserved, .int .i64 x16.Least]) (ST.loadAgg (vs := [.string (bs x16.Name), .int .i64 (wI64 (x16.OnHand + t_1.Many)), .int .i64 x16.Reserved, .int .i64 x16.Least]) (fun j v hv => SH.boxPart (us := [.string (bs x16.Name), .int .i64 (wI64 (x16.OnHand + t_1.Many)), .int .i64 x16.Reserved, .int .i64 x16.Least]) (SH.front 0 hS60) 0 rfl j v hv) rfl rfl rfl Try.underlying56 rfl (info56).1 (info56).2.1) rfl rfl rfl ?_
  obtain ⟨x64, hx65, hm⟩ := bindE hm
  refine WL.st (.pointer (some (at_ a0' (Int.toNat x3 * 4)))) (ST.index (T := fGood.ty) (xs := list_0) (SH.rd (SH.front 1 hS60)) hx65 rfl rfl rfl Try.underlying25 (info56).1 (info56).2.1) rfl rfl rfl ?_
  refine WL.store (F := fGood) (SGood.mk x16.Name (wI64 (x16.OnHand + t_1.Many)) x16.Reserved x16.Least) 0 [.string (bs x16.Name), .int .i64 (wI64 (x16.OnHand + t_1.Many)), .int .i64 x16.Reserved, .int .i64 x16.Least] (SH.front 1 hS60) hL59 hx65 rfl rfl rfl rfl rfl rfl rfl (info56).1 (info56).2.1 rfl rfl rfl ?_
  intro w66 hB67 hS68
  have hb69 : Below B w w66 := Below.trans hb58 hB67
  have hL70 : B ≤ w66.heap.size := Nat.le_trans hL59 hB67.size
  refine WL.sub [(6, .pointer (some ⟨b18, 0, none⟩)), (36, .slice a0' ((list_0.set (Int.toNat x3) (SGood.mk x16.Name (wI64 (x16.OnHand + t_1.Many)) x16.Reserved x16.Least)).length) c0'), (37, .int .i64 x3), (38, .agg #[.string (bs x16.Name), .int .i64 (wI64 (x16.OnHand + t_1.Many)), .int .i64 x16.Reserved, .int .i64 x16.Least])] ⟨rfl, by first | (simp only [List.length_set]; done) | (simp only [List.length_set]; rfl), rfl, rfl, trivial⟩ ?_
  have hn71 : (list_0.set (Int.toNat x3) (SGood.mk x16.Name (wI64 (x16.OnHand + t_1.Many)) x16.Reserved x16.Least)).length = list_0.length := List.length_set.trans rfl
  refine WL.sub [] trivial ?_
  refine WL.nil ?_
  refine WQ.then_normal (hK63 _ _ _ ?_)
  refine WP.seq (fun K72 hK72 => ?_)
  refine WP.region ?_
  refine WL.runk 1 [4] [(4, .int .i64 0)] (by kernel_rfl) ?_
  refine WL.nil ?_
  refine WQ.then_normal (hK72 _ _ _ ?_)
  refine WP.ret ?_
  obtain rfl := Option.some.inj hm
  exact WQ.ret1 _ rfl rfl ⟨rfl, hb69, (SH.cutOut 2 1 (SH.front 1 (SH.front 2 hS68))), hn71⟩

theorem c_32 (n : Nat) (list_0 : List SGood) (a0' : Option Addr) (c0' : Nat) (t_1 : STake) (w : World) {r : List SGood × Int} (hm : m_spec_ChangeGood n list_0 t_1 = some r) (h0 : Rd fGood.ty w a0' list_0) (hle0 : list_0.length ≤ c0') :
    CallV Try.prog 32 #[.slice a0' list_0.length c0', .agg #[.string (bs t_1.Name), .int .i64 t_1.Many]] w (fun v w' => ∃ (ra0 : Option Addr) (rc0 : Nat), v = .tuple #[.slice ra0 r.1.length rc0, .int .i64 r.2] ∧ Ext w w' ∧ SH w' w.heap.size [aOwn fGood 56 ra0 rc0 r.1]) := by
  unfold m_spec_ChangeGood at hm
  refine CallV.enter Try.func32 rfl (by kernel_rfl) Try.ntmps32 (env := [(0, .slice a0' list_0.length c0'), (1, .agg #[.string (bs t_1.Name), .int .i64 t_1.Many])]) ⟨rfl, rfl, trivial⟩ ?_
  refine WP.seq (fun K1 hK1 => ?_)
  refine WP.region ?_
  refine WL.box 43 [.string (bs t_1.Name), .int .i64 t_1.Many] 3 (by kernel_rfl) rfl rfl rfl rfl ?_
  intro b2 w3 hE4 hR5
  have hb7 : Ext w w3 := Ext.trans (Ext.refl w) hE4
  have hL8 : w.heap.size ≤ w3.heap.size := Nat.le_trans (Nat.le_refl _) hE4.size
  have hS9 : SH w3 w.heap.size [aBox 43 b2 [.string (bs t_1.Name), .int .i64 t_1.Many]] := SH.add (SH.nil _ _) hE4 (Nat.le_refl _) hR5
  refine WL.runk 2 [0, 3] [(0, .slice a0' list_0.length c0'), (3, .pointer (some ⟨b2, 0, none⟩))] (by kernel_rfl) ?_
  refine WL.nil ?_
  refine WQ.then_normal (hK1 _ _ _ ?_)
  refine WP.seq (fun K10 hK10 => ?_)
  refine WP.seq (fun K11 hK11 => ?_)
  refine WP.region ?_
  refine WL.runk 1 [0, 3, 8] [(0, .slice a0' list_0.length c0'), (3, .pointer (some ⟨b2, 0, none⟩)), (8, .slice a0' list_0.length c0')] (by kernel_rfl) ?_
  obtain ⟨x12, hx13, hm⟩ := bindE hm
  refine WL.call 52 #[.slice a0' list_0.length c0'] rfl rfl (by kernel_rfl) (c_52 n list_0 a0' c0' w3 hx13 (Rd.below h0 hb7) hle0) ?_
  rintro _ w14 ⟨rfl, hE15⟩
  refine ⟨_, rfl, ?_⟩
  have hb17 : Ext w w14 := Ext.trans hb7 hE15
  have hL18 : w.heap.size ≤ w14.heap.size := Nat.le_trans hL8 hE15.size
  have hS19 : SH w14 w.heap.size [aBox 43 b2 [.string (bs t_1.Name), .int .i64 t_1.Many]] := SH.ext hS9 hE15
  refine WL.runk 1 [0, 3, 10] [(0, .slice a0' list_0.length c0'), (3, .pointer (some ⟨b2, 0, none⟩)), (10, .bool (!x12))] (by kernel_rfl) ?_
  refine WL.nil ?_
  refine WQ.then_normal (hK11 _ _ _ ?_)
  refine WP.cond (!x12) rfl rfl (fun hc20 => ?_) (fun hc20 => ?_)
  · have hm := iteT hm hc20
    refine WP.seq (fun K21 hK21 => ?_)
    refine WP.region ?_
    refine WL.runk 2 [4, 5] [(4, .slice none 0 0), (5, .int .i64 1)] (by kernel_rfl) ?_
    refine WL.nil ?_
    refine WQ.then_normal (hK21 _ _ _ ?_)
    refine WP.ret ?_
    refine WQ.then_ret ?_
    obtain rfl := Option.some.inj hm
    have hS23 : SH w14 w.heap.size [aOwn fGood 56 none 0 ([] : List SGood), aBox 43 b2 [.string (bs t_1.Name), .int .i64 t_1.Many]] := SH.nilOwn hS19
    exact WQ.ret2 _ _ rfl rfl rfl ⟨_, _, rfl, hb17, (SH.take 1 hS23)⟩
  have hm := iteF hm hc20
  refine WP.skip ?_
  refine WQ.then_normal (hK10 _ _ _ ?_)
  refine WP.seq (fun K24 hK24 => ?_)
  refine WP.seq (fun K25 hK25 => ?_)
  refine WP.region ?_
  obtain ⟨x26, hx27, hm⟩ := bindE hm
  refine WL.call 59 #[.pointer (some ⟨b2, 0, none⟩)] rfl rfl (by kernel_rfl) (c_59 n t_1 b2 0 w14 hx27 (SH.boxRd (SH.front 0 hS19))) ?_
  rintro _ w28 ⟨rfl, hE29⟩
  refine ⟨_, rfl, ?_⟩
  have hb31 : Ext w w28 := Ext.trans hb17 hE29
  have hL32 : w.heap.size ≤ w28.heap.size := Nat.le_trans hL18 hE29.size
  have hS33 : SH w28 w.heap.size [aBox 43 b2 [.string (bs t_1.Name), .int .i64 t_1.Many]] := SH.ext hS19 hE29
  refine WL.runk 1 [0, 3, 12] [(0, .slice a0' list_0.length c0'), (3, .pointer (some ⟨b2, 0, none⟩)), (12, .bool (!x26))] (by kernel_rfl) ?_
  refine WL.nil ?_
  refine WQ.then_normal (hK25 _ _ _ ?_)
  refine WP.cond (!x26) rfl rfl (fun hc34 => ?_) (fun hc34 => ?_)
  · have hm := iteT hm hc34
    refine WP.seq (fun K35 hK35 => ?_)
    refine WP.region ?_
    refine WL.runk 2 [4, 5] [(4, .slice none 0 0), (5, .int .i64 2)] (by kernel_rfl) ?_
    refine WL.nil ?_
    refine WQ.then_normal (hK35 _ _ _ ?_)
    refine WP.ret ?_
    refine WQ.then_ret ?_
    obtain rfl := Option.some.inj hm
    have hS37 : SH w28 w.heap.size [aOwn fGood 56 none 0 ([] : List SGood), aBox 43 b2 [.string (bs t_1.Name), .int .i64 t_1.Many]] := SH.nilOwn hS33
    exact WQ.ret2 _ _ rfl rfl rfl ⟨_, _, rfl, hb31, (SH.take 1 hS37)⟩
  have hm := iteF hm hc34
  refine WP.skip ?_
  refine WQ.then_normal (hK24 _ _ _ ?_)
  refine WP.seq (fun K38 hK38 => ?_)
  refine WP.region ?_
  refine WL.row fGood 56 ([] : List SGood) 0 #[] 13 (by kernel_rfl) rfl rfl rfl rfl rfl rfl rfl ?_
  intro a39 c40 w41 hE42 hR43
  have hb45 : Ext w w41 := Ext.trans hb31 hE42
  have hL46 : w.heap.size ≤ w41.heap.size := Nat.le_trans hL32 hE42.size
  have hS47 : SH w41 w.heap.size [aOwn fGood 56 a39 c40 ([] : List SGood), aBox 43 b2 [.string (bs t_1.Name), .int .i64 t_1.Many]] := SH.add hS33 hE42 hL32 hR43
  refine WL.runk 1 [3, 13, 14] [(3, .pointer (some ⟨b2, 0, none⟩)), (13, .slice a39 (([] : List SGood).length) c40), (14, .slice a0' list_0.length c0')] (by kernel_rfl) ?_
  obtain ⟨x48, hx49, hm⟩ := bindE hm
  refine WL.append (F := fGood) (xs := ([] : List SGood)) (ys := list_0) 15 (SH.front 0 hS47) hL46 (Rd.below h0 hb45) hx49 rfl rfl rfl Try.underlying25 (info56).1 (info56).2.2.1 (info56).2.1 (info56).2.2.2 rfl rfl rfl rfl rfl ?_
  intro a50 c51 w52 hB53 hS54
  have hb55 : Ext w w52 := Below.trans hb45 hB53
  have hL56 : w.heap.size ≤ w52.heap.size := Nat.le_trans hL46 hB53.size
  refine WL.runk 1 [3, 6] [(3, .pointer (some ⟨b2, 0, none⟩)), (6, .slice a50 x48.length c51)] (by kernel_rfl) ?_
  refine WL.nil ?_
  refine WQ.then_normal (hK38 _ _ _ ?_)
  refine WP.seq (fun K57 hK57 => ?_)
  refine WP.region ?_
  refine WL.runk 1 [3, 6, 16] [(3, .pointer (some ⟨b2, 0, none⟩)), (6, .slice a50 x48.length c51), (16, .slice a50 x48.length c51)] (by kernel_rfl) ?_
  obtain ⟨x58, hx59, hm⟩ := bindE hm
  refine WL.call 60 #[.slice a50 x48.length c51, .pointer (some ⟨b2, 0, none⟩)] rfl rfl (by kernel_rfl) (c_60_o1 n x48 a50 c51 t_1 b2 w52 w w.heap.size [] hx59 hb55 (Nat.le_refl _) hL56  hS54) ?_
  rintro _ w60 ⟨rfl, hB64, hS63, hlen65⟩
  refine ⟨_, rfl, ?_⟩
  have hb66 : Ext w w60 := Below.trans hb55 hB64
  have hL67 : w.heap.size ≤ w60.heap.size := Nat.le_trans hL56 hB64.size
  refine WL.sub [(3, .pointer (some ⟨b2, 0, none⟩)), (6, .slice a50 x58.2.length c51), (16, .slice a50 x58.2.length c51), (17, .int .i64 x58.1)] ⟨rfl, by rw [hlen65]; rfl, by rw [hlen65]; rfl, rfl, trivial⟩ ?_
  refine WL.runk 1 [6, 7] [(6, .slice a50 x58.2.length c51), (7, .int .i64 x58.1)] (by kernel_rfl) ?_
  refine WL.nil ?_
  refine WQ.then_normal (hK57 _ _ _ ?_)
  refine WP.seq (fun K68 hK68 => ?_)
  refine WP.seq (fun K69 hK69 => ?_)
  refine WP.region ?_
  refine WL.runk 2 [6, 7, 19] [(6, .slice a50 x58.2.length c51), (7, .int .i64 x58.1), (19, .bool (x58.1 != 0))] (by kernel_rfl) ?_
  refine WL.nil ?_
  refine WQ.then_normal (hK69 _ _ _ ?_)
  refine WP.cond (x58.1 != 0) rfl rfl (fun hc70 => ?_) (fun hc70 => ?_)
  · have hm := iteT hm hc70
    refine WP.seq (fun K71 hK71 => ?_)
    refine WP.region ?_
    refine WL.runk 3 [4, 5] [(4, .slice none 0 0), (5, .int .i64 x58.1)] (by kernel_rfl) ?_
    refine WL.nil ?_
    refine WQ.then_normal (hK71 _ _ _ ?_)
    refine WP.ret ?_
    refine WQ.then_ret ?_
    obtain rfl := Option.some.inj hm
    have hS73 : SH w60 w.heap.size [aOwn fGood 56 none 0 ([] : List SGood), aOwn fGood 56 a50 c51 x58.2, aBox 43 b2 [.string (bs t_1.Name), .int .i64 t_1.Many]] := SH.nilOwn hS63
    exact WQ.ret2 _ _ rfl rfl rfl ⟨_, _, rfl, hb66, (SH.take 1 hS73)⟩
  have hm := iteF hm hc70
  refine WP.skip ?_
  refine WQ.then_normal (hK68 _ _ _ ?_)
  refine WP.seq (fun K74 hK74 => ?_)
  refine WP.region ?_
  refine WL.runk 3 [4, 5] [(4, .slice a50 x58.2.length c51), (5, .int .i64 0)] (by kernel_rfl) ?_
  refine WL.nil ?_
  refine WQ.then_normal (hK74 _ _ _ ?_)
  refine WP.ret ?_
  obtain rfl := Option.some.inj hm
  exact WQ.ret2 _ _ rfl rfl rfl ⟨_, _, rfl, hb66, (SH.take 1 hS63)⟩

theorem c_61 (n : Nat) (t_0 : STake) (w : World) {r : Bool} (hm : m_impl_isTake n t_0 = some r)  :
    CallV Try.prog 61 #[.agg #[.string (bs t_0.Name), .int .i64 t_0.Many]] w (fun v w' => v = .bool r ∧ Ext w w') := by
  unfold m_impl_isTake at hm
  refine CallV.enter Try.func61 rfl (by kernel_rfl) Try.ntmps61 (env := [(0, .agg #[.string (bs t_0.Name), .int .i64 t_0.Many])]) ⟨rfl, trivial⟩ ?_
  refine WP.seq (fun K1 hK1 => ?_)
  refine WP.region ?_
  refine WL.box 43 [.string (bs t_0.Name), .int .i64 t_0.Many] 1 (by kernel_rfl) rfl rfl rfl rfl ?_
  intro b2 w3 hE4 hR5
  have hb7 : Ext w w3 := Ext.trans (Ext.refl w) hE4
  have hL8 : w.heap.size ≤ w3.heap.size := Nat.le_trans (Nat.le_refl _) hE4.size
  have hS9 : SH w3 w.heap.size [aBox 43 b2 [.string (bs t_0.Name), .int .i64 t_0.Many]] := SH.add (SH.nil _ _) hE4 (Nat.le_refl _) hR5
  refine WL.runk 1 [1] [(1, .pointer (some ⟨b2, 0, none⟩))] (by kernel_rfl) ?_
  refine WL.nil ?_
  refine WQ.then_normal (hK1 _ _ _ ?_)
  refine WP.seq (fun K10 hK10 => ?_)
  refine WP.region ?_
  refine WL.runk 1 [3] [(3, .pointer (some ⟨b2, 1, none⟩))] (by kernel_rfl) ?_
  refine WL.st (.int .i64 t_0.Many) (ST.load (cell_ext (SH.boxAt (SH.front 0 hS9) 1 _ rfl)) rfl rfl Try.underlying2 rfl) rfl rfl rfl ?_
  obtain ⟨x11, hx12, hm⟩ := bindE hm
  refine WL.call 67 #[.int .i64 t_0.Many, .int .i64 (-1000000), .int .i64 1000000] rfl rfl (by kernel_rfl) (c_67 n t_0.Many (-1000000) 1000000 w3 hx12 ) ?_
  rintro _ w13 ⟨rfl, hE14⟩
  refine ⟨_, rfl, ?_⟩
  have hb16 : Ext w w13 := Ext.trans hb7 hE14
  have hL17 : w.heap.size ≤ w13.heap.size := Nat.le_trans hL8 hE14.size
  have hS18 : SH w13 w.heap.size [aBox 43 b2 [.string (bs t_0.Name), .int .i64 t_0.Many]] := SH.ext hS9 hE14
  refine WL.runk 1 [2] [(2, .bool x11)] (by kernel_rfl) ?_
  refine WL.nil ?_
  refine WQ.then_normal (hK10 _ _ _ ?_)
  refine WP.ret ?_
  obtain rfl := Option.some.inj hm
  exact WQ.ret1 _ rfl rfl ⟨rfl, hb16⟩

theorem c_62 (n : Nat) (list_0 : List SGood) (a0' : Option Addr) (c0' : Nat) (t_1 : STake) (w : World) {r : List SGood × Int} (hm : m_impl_taken n list_0 t_1 = some r) (h0 : Rd fGood.ty w a0' list_0) (hle0 : list_0.length ≤ c0') :
    CallV Try.prog 62 #[.slice a0' list_0.length c0', .agg #[.string (bs t_1.Name), .int .i64 t_1.Many]] w (fun v w' => ∃ (ra0 : Option Addr) (rc0 : Nat), v = .tuple #[.slice ra0 r.1.length rc0, .int .i64 r.2] ∧ Ext w w' ∧ SH w' w.heap.size [aOwn fGood 56 ra0 rc0 r.1]) := by
  unfold m_impl_taken at hm
  refine CallV.enter Try.func62 rfl (by kernel_rfl) Try.ntmps62 (env := [(0, .slice a0' list_0.length c0'), (1, .agg #[.string (bs t_1.Name), .int .i64 t_1.Many])]) ⟨rfl, rfl, trivial⟩ ?_
  refine WP.seq (fun K1 hK1 => ?_)
  refine WP.region ?_
  refine WL.box 43 [.string (bs t_1.Name), .int .i64 t_1.Many] 3 (by kernel_rfl) rfl rfl rfl rfl ?_
  intro b2 w3 hE4 hR5
  have hb7 : Ext w w3 := Ext.trans (Ext.refl w) hE4
  have hL8 : w.heap.size ≤ w3.heap.size := Nat.le_trans (Nat.le_refl _) hE4.size
  have hS9 : SH w3 w.heap.size [aBox 43 b2 [.string (bs t_1.Name), .int .i64 t_1.Many]] := SH.add (SH.nil _ _) hE4 (Nat.le_refl _) hR5
  refine WL.runk 2 [0, 3] [(0, .slice a0' list_0.length c0'), (3, .pointer (some ⟨b2, 0, none⟩))] (by kernel_rfl) ?_
  refine WL.nil ?_
  refine WQ.then_normal (hK1 _ _ _ ?_)
  refine WP.seq (fun K10 hK10 => ?_)
  refine WP.region ?_
  refine WL.runk 2 [0, 3, 10, 11] [(0, .slice a0' list_0.length c0'), (3, .pointer (some ⟨b2, 0, none⟩)), (10, .slice a0' list_0.length c0'), (11, .pointer (some ⟨b2, 0, none⟩))] (by kernel_rfl) ?_
  refine WL.st (.string (bs t_1.Name)) (ST.load (cell_ext (SH.boxAt (SH.front 0 hS9) 0 _ rfl)) rfl rfl Try.underlying9 rfl) rfl rfl rfl ?_
  obtain ⟨x11, hx12, hm⟩ := bindE hm
  refine WL.call 68 #[.slice a0' list_0.length c0', .string (bs t_1.Name)] rfl rfl (by kernel_rfl) (c_68 n list_0 a0' c0' t_1.Name w3 hx12 (Rd.below h0 hb7) hle0) ?_
  rintro _ w13 ⟨rfl, hE14⟩
  refine ⟨_, rfl, ?_⟩
  have hb16 : Ext w w13 := Ext.trans hb7 hE14
  have hL17 : w.heap.size ≤ w13.heap.size := Nat.le_trans hL8 hE14.size
  have hS18 : SH w13 w.heap.size [aBox 43 b2 [.string (bs t_1.Name), .int .i64 t_1.Many]] := SH.ext hS9 hE14
  refine WL.runk 5 [0, 3, 6, 7] [(0, .slice a0' list_0.length c0'), (3, .pointer (some ⟨b2, 0, none⟩)), (6, .int .i64 x11.1), (7, .bool x11.2)] (by kernel_rfl) ?_
  refine WL.nil ?_
  refine WQ.then_normal (hK10 _ _ _ ?_)
  refine WP.seq (fun K19 hK19 => ?_)
  refine WP.seq (fun K20 hK20 => ?_)
  refine WP.region ?_
  refine WL.runk 2 [0, 3, 6, 17] [(0, .slice a0' list_0.length c0'), (3, .pointer (some ⟨b2, 0, none⟩)), (6, .int .i64 x11.1), (17, .bool (!x11.2))] (by kernel_rfl) ?_
  refine WL.nil ?_
  refine WQ.then_normal (hK20 _ _ _ ?_)
  refine WP.cond (!x11.2) rfl rfl (fun hc21 => ?_) (fun hc21 => ?_)
  · have hm := iteT hm hc21
    refine WP.seq (fun K22 hK22 => ?_)
    refine WP.region ?_
    refine WL.runk 2 [4, 5] [(4, .slice none 0 0), (5, .int .i64 3)] (by kernel_rfl) ?_
    refine WL.nil ?_
    refine WQ.then_normal (hK22 _ _ _ ?_)
    refine WP.ret ?_
    refine WQ.then_ret ?_
    obtain rfl := Option.some.inj hm
    have hS24 : SH w13 w.heap.size [aOwn fGood 56 none 0 ([] : List SGood), aBox 43 b2 [.string (bs t_1.Name), .int .i64 t_1.Many]] := SH.nilOwn hS18
    exact WQ.ret2 _ _ rfl rfl rfl ⟨_, _, rfl, hb16, (SH.take 1 hS24)⟩
  have hm := iteF hm hc21
  refine WP.skip ?_
  refine WQ.then_normal (hK19 _ _ _ ?_)
  refine WP.seq (fun K25 hK25 => ?_)
  refine WP.region ?_
  refine WL.runk 1 [3, 6, 18] [(3, .pointer (some ⟨b2, 0, none⟩)), (6, .int .i64 x11.1), (18, .slice a0' list_0.length c0')] (by kernel_rfl) ?_
  obtain ⟨x26, hx27, hm⟩ := bindE hm
  refine WL.call 58 #[.slice a0' list_0.length c0'] rfl rfl (by kernel_rfl) (c_58 n list_0 a0' c0' w13 hx27 (Rd.below h0 hb16) hle0) ?_
  rintro _ w31 ⟨a28, c29, rfl, hE32, hR33⟩
  refine ⟨_, rfl, ?_⟩
  have hb34 : Ext w w31 := Ext.trans hb16 hE32
  have hL35 : w.heap.size ≤ w31.heap.size := Nat.le_trans hL17 hE32.size
  have hS36 : SH w31 w.heap.size [aOwn fGood 56 a28 c29 x26, aBox 43 b2 [.string (bs t_1.Name), .int .i64 t_1.Many]] := SH.add hS18 hE32 hL17 hR33
  refine WL.runk 1 [3, 6, 8] [(3, .pointer (some ⟨b2, 0, none⟩)), (6, .int .i64 x11.1), (8, .slice a28 x26.length c29)] (by kernel_rfl) ?_
  refine WL.nil ?_
  refine WQ.then_normal (hK25 _ _ _ ?_)
  refine WP.seq (fun K37 hK37 => ?_)
  refine WP.open (n := 11) (by kernel_rfl) rfl (fun w38 hE39 => ?_)
  have hb40 : Ext w w38 := Ext.trans hb34 hE39
  have hL41 : w.heap.size ≤ w38.heap.size := Nat.le_trans hL35 hE39.size
  have hS42 : SH w38 w.heap.size [aOwn fGood 56 a28 c29 x26, aBox 43 b2 [.string (bs t_1.Name), .int .i64 t_1.Many]] := SH.ext hS36 hE39
  refine WA.quiet (f' := 1) (D' := [0, 1, 2, 3, 4, 5, 6, 7, 8, 9]) [0, 1, 2, 3, 4, 5, 6, 7, 8, 9] rfl rfl (by kernel_rfl) ?_
  refine QL.step1v 20 (.slice a28 x26.length c29) rfl (fun _ => by kernel_rfl) ?_
  refine QL.step1v 21 (.int .i64 x11.1) rfl (fun _ => by kernel_rfl) ?_
  refine QL.subk [3, 6, 8, 20, 21] [(3, .pointer (some ⟨b2, 0, none⟩)), (6, .int .i64 x11.1), (8, .slice a28 x26.length c29), (20, .slice a28 x26.length c29), (21, .int .i64 x11.1)] (by kernel_rfl) ?_
  obtain ⟨x43, hx44, hm⟩ := bindE hm
  refine QL.st (.pointer (some (at_ a28 (Int.toNat x11.1 * 4)))) (ST.index (T := fGood.ty) (xs := x26) (SH.rd (SH.front 0 hS42)) hx44 rfl rfl rfl Try.underlying25 (info56).1 (info56).2.1) rfl rfl rfl ?_
  refine QL.step1v 23 (.pointer (some (at_ a28 (Int.toNat x11.1 * 4 + 1)))) rfl (fun _ => by kernel_rfl) ?_
  refine QL.subk [3, 6, 8, 20, 21, 23] [(3, .pointer (some ⟨b2, 0, none⟩)), (6, .int .i64 x11.1), (8, .slice a28 x26.length c29), (20, .slice a28 x26.length c29), (21, .int .i64 x11.1), (23, .pointer (some (at_ a28 (Int.toNat x11.1 * 4 + 1))))] (by kernel_rfl) ?_
  refine QL.st (.int .i64 x43.OnHand) (ST.load (cell_ext (Rd.flat (F := fGood) (SH.rd (SH.front 0 hS42)) hx44 1 rfl)) rfl rfl Try.underlying2 rfl) rfl rfl rfl ?_
  refine QL.step1v 25 (.pointer (some ⟨b2, 1, none⟩)) rfl (fun _ => by kernel_rfl) ?_
  refine QL.subk [6, 8, 20, 21, 24, 25] [(6, .int .i64 x11.1), (8, .slice a28 x26.length c29), (20, .slice a28 x26.length c29), (21, .int .i64 x11.1), (24, .int .i64 x43.OnHand), (25, .pointer (some ⟨b2, 1, none⟩))] (by kernel_rfl) ?_
  refine QL.st (.int .i64 t_1.Many) (ST.load (cell_ext (SH.boxAt (SH.front 1 hS42) 1 _ rfl)) rfl rfl Try.underlying2 rfl) rfl rfl rfl ?_
  refine QL.step1v 27 (.int .i64 (wI64 (x43.OnHand + t_1.Many))) rfl (fun _ => by kernel_rfl) ?_
  refine QL.subk [6, 8, 20, 21, 27] [(6, .int .i64 x11.1), (8, .slice a28 x26.length c29), (20, .slice a28 x26.length c29), (21, .int .i64 x11.1), (27, .int .i64 (wI64 (x43.OnHand + t_1.Many)))] (by kernel_rfl) ?_
  obtain ⟨x45, hx46, hm⟩ := bindE hm
  refine QL.st (.pointer (some (at_ a28 (Int.toNat x11.1 * 4)))) (ST.index (T := fGood.ty) (xs := x26) (SH.rd (SH.front 0 hS42)) hx46 rfl rfl rfl Try.underlying25 (info56).1 (info56).2.1) rfl rfl rfl ?_
  refine QL.step1v 29 (.pointer (some (at_ a28 (Int.toNat x11.1 * 4 + 1)))) rfl (fun _ => by kernel_rfl) ?_
  refine QL.subk [6, 8, 27, 29] [(6, .int .i64 x11.1), (8, .slice a28 x26.length c29), (27, .int .i64 (wI64 (x43.OnHand + t_1.Many))), (29, .pointer (some (at_ a28 (Int.toNat x11.1 * 4 + 1))))] (by kernel_rfl) ?_
  refine QL.nil ?_
  intro w47 hE48
  have hb49 : Ext w w47 := Ext.trans hb40 hE48
  have hL50 : w.heap.size ≤ w47.heap.size := Nat.le_trans hL41 hE48.size
  have hS51 : SH w47 w.heap.size [aOwn fGood 56 a28 c29 x26, aBox 43 b2 [.string (bs t_1.Name), .int .i64 t_1.Many]] := SH.ext hS42 hE48
  refine WA.one (i := 10) (D' := [0, 1, 2, 3, 4, 5, 6, 7, 8, 9, 10]) rfl rfl (by kernel_rfl) ?_
  refine WL.store (F := fGood) (SGood.mk x45.Name (wI64 (x43.OnHand + t_1.Many)) x45.Reserved x45.Least) 1 [.int .i64 (wI64 (x43.OnHand + t_1.Many))] (SH.front 0 hS51) hL50 hx46 rfl rfl rfl rfl rfl rfl rfl (info2).1 (info2).2.1 rfl rfl rfl ?_
  intro w52 hB53 hS54
  have hb55 : Ext w w52 := Below.trans hb49 hB53
  have hL56 : w.heap.size ≤ w52.heap.size := Nat.le_trans hL50 hB53.size
  refine WL.sub [(6, .int .i64 x11.1), (8, .slice a28 ((x26.set (Int.toNat x11.1) (SGood.mk x45.Name (wI64 (x43.OnHand + t_1.Many)) x45.Reserved x45.Least)).length) c29), (27, .int .i64 (wI64 (x43.OnHand + t_1.Many)))] ⟨rfl, by first | (simp only [List.length_set]; done) | (simp only [List.length_set]; rfl), rfl, trivial⟩ ?_
  refine WL.sub [(6, .int .i64 x11.1), (8, .slice a28 ((x26.set (Int.toNat x11.1) (SGood.mk x45.Name (wI64 (x43.OnHand + t_1.Many)) x45.Reserved x45.Least)).length) c29)] ⟨rfl, rfl, trivial⟩ ?_
  refine WL.nil ?_
  refine WA.done (by kernel_rfl) ?_
  refine WQ.then_normal (hK37 _ _ _ ?_)
  refine WP.seq (fun K57 hK57 => ?_)
  refine WP.block ?_
  refine WP.seq (fun K58 hK58 => ?_)
  refine WP.quiet (by kernel_rfl) (by kernel_rfl) ?_
  refine QL.step1v 31 (.slice a28 ((x26.set (Int.toNat x11.1) (SGood.mk x45.Name (wI64 (x43.OnHand + t_1.Many)) x45.Reserved x45.Least)).length) c29) rfl (fun _ => by kernel_rfl) ?_
  refine QL.step1v 32 (.int .i64 x11.1) rfl (fun _ => by kernel_rfl) ?_
  refine QL.subk [6, 8, 31, 32] [(6, .int .i64 x11.1), (8, .slice a28 ((x26.set (Int.toNat x11.1) (SGood.mk x45.Name (wI64 (x43.OnHand + t_1.Many)) x45.Reserved x45.Least)).length) c29), (31, .slice a28 ((x26.set (Int.toNat x11.1) (SGood.mk x45.Name (wI64 (x43.OnHand + t_1.Many)) x45.Reserved x45.Least)).length) c29), (32, .int .i64 x11.1)] (by kernel_rfl) ?_
  obtain ⟨x59, hx60, hm⟩ := bindE hm
  refine QL.st (.pointer (some (at_ a28 (Int.toNat x11.1 * 4)))) (ST.index (T := fGood.ty) (xs := (x26.set (Int.toNat x11.1) (SGood.mk x45.Name (wI64 (x43.OnHand + t_1.Many)) x45.Reserved x45.Least))) (SH.rd (SH.front 0 hS54)) hx60 rfl rfl rfl Try.underlying25 (info56).1 (info56).2.1) rfl rfl rfl ?_
  refine QL.step1v 34 (.pointer (some (at_ a28 (Int.toNat x11.1 * 4 + 1)))) rfl (fun _ => by kernel_rfl) ?_
  refine QL.subk [6, 8, 34] [(6, .int .i64 x11.1), (8, .slice a28 ((x26.set (Int.toNat x11.1) (SGood.mk x45.Name (wI64 (x43.OnHand + t_1.Many)) x45.Reserved x45.Least)).length) c29), (34, .pointer (some (at_ a28 (Int.toNat x11.1 * 4 + 1))))] (by kernel_rfl) ?_
  refine QL.st (.int .i64 x59.OnHand) (ST.load (cell_ext (Rd.flat (F := fGood) (SH.rd (SH.front 0 hS54)) hx60 1 rfl)) rfl rfl Try.underlying2 rfl) rfl rfl rfl ?_
  refine QL.step1v 36 (.slice a28 ((x26.set (Int.toNat x11.1) (SGood.mk x45.Name (wI64 (x43.OnHand + t_1.Many)) x45.Reserved x45.Least)).length) c29) rfl (fun _ => by kernel_rfl) ?_
  refine QL.step1v 37 (.int .i64 x11.1) rfl (fun _ => by kernel_rfl) ?_
  refine QL.subk [6, 8, 35, 36, 37] [(6, .int .i64 x11.1), (8, .slice a28 ((x26.set (Int.toNat x11.1) (SGood.mk x45.Name (wI64 (x43.OnHand + t_1.Many)) x45.Reserved x45.Least)).length) c29), (35, .int .i64 x59.OnHand), (36, .slice a28 ((x26.set (Int.toNat x11.1) (SGood.mk x45.Name (wI64 (x43.OnHand + t_1.Many)) x45.Reserved x45.Least)).length) c29), (37, .int .i64 x11.1)] (by kernel_rfl) ?_
  obtain ⟨x61, hx62, hm⟩ := bindE hm
  refine QL.st (.pointer (some (at_ a28 (Int.toNat x11.1 * 4)))) (ST.index (T := fGood.ty) (xs := (x26.set (Int.toNat x11.1) (SGood.mk x45.Name (wI64 (x43.OnHand + t_1.Many)) x45.Reserved x45.Least))) (SH.rd (SH.front 0 hS54)) hx62 rfl rfl rfl Try.underlying25 (info56).1 (info56).2.1) rfl rfl rfl ?_
  refine QL.step1v 39 (.pointer (some (at_ a28 (Int.toNat x11.1 * 4 + 2)))) rfl (fun _ => by kernel_rfl) ?_
  refine QL.subk [6, 8, 35, 39] [(6, .int .i64 x11.1), (8, .slice a28 ((x26.set (Int.toNat x11.1) (SGood.mk x45.Name (wI64 (x43.OnHand + t_1.Many)) x45.Reserved x45.Least)).length) c29), (35, .int .i64 x59.OnHand), (39, .pointer (some (at_ a28 (Int.toNat x11.1 * 4 + 2))))] (by kernel_rfl) ?_
  refine QL.st (.int .i64 x61.Reserved) (ST.load (cell_ext (Rd.flat (F := fGood) (SH.rd (SH.front 0 hS54)) hx62 2 rfl)) rfl rfl Try.underlying2 rfl) rfl rfl rfl ?_
  refine QL.step1v 41 (.bool (decide (x59.OnHand < x61.Reserved))) rfl (fun _ => by kernel_rfl) ?_
  refine QL.step1v 30 (.bool (decide (x59.OnHand < x61.Reserved))) rfl (fun _ => by kernel_rfl) ?_
  refine QL.subk [6, 8, 30] [(6, .int .i64 x11.1), (8, .slice a28 ((x26.set (Int.toNat x11.1) (SGood.mk x45.Name (wI64 (x43.OnHand + t_1.Many)) x45.Reserved x45.Least)).length) c29), (30, .bool (decide (x59.OnHand < x61.Reserved)))] (by kernel_rfl) ?_
  refine QL.nil ?_
  intro w63 hE64
  have hb65 : Ext w w63 := Ext.trans hb55 hE64
  have hL66 : w.heap.size ≤ w63.heap.size := Nat.le_trans hL56 hE64.size
  have hS67 : SH w63 w.heap.size [aOwn fGood 56 a28 c29 (x26.set (Int.toNat x11.1) (SGood.mk x45.Name (wI64 (x43.OnHand + t_1.Many)) x45.Reserved x45.Least)), aBox 43 b2 [.string (bs t_1.Name), .int .i64 t_1.Many]] := SH.ext hS54 hE64
  refine WQ.then_normal (hK58 _ _ _ ?_)
  refine WP.cond (decide (x59.OnHand < x61.Reserved)) rfl rfl (fun hc68 => ?_) (fun hc68 => ?_)
  · have hm := iteT hm hc68
    refine WP.seq (fun K69 hK69 => ?_)
    refine WP.region ?_
    refine WL.runk 2 [4, 5] [(4, .slice none 0 0), (5, .int .i64 6)] (by kernel_rfl) ?_
    refine WL.nil ?_
    refine WQ.then_normal (hK69 _ _ _ ?_)
    refine WP.ret ?_
    refine WQ.block_ret ?_
    refine WQ.then_ret ?_
    obtain rfl := Option.some.inj hm
    have hS71 : SH w63 w.heap.size [aOwn fGood 56 none 0 ([] : List SGood), aOwn fGood 56 a28 c29 (x26.set (Int.toNat x11.1) (SGood.mk x45.Name (wI64 (x43.OnHand + t_1.Many)) x45.Reserved x45.Least)), aBox 43 b2 [.string (bs t_1.Name), .int .i64 t_1.Many]] := SH.nilOwn hS67
    exact WQ.ret2 _ _ rfl rfl rfl ⟨_, _, rfl, hb65, (SH.take 1 hS71)⟩
  have hm := iteF hm hc68
  refine WP.seq (fun K72 hK72 => ?_)
  refine WP.region ?_
  refine WL.runk 2 [8, 43, 44] [(8, .slice a28 ((x26.set (Int.toNat x11.1) (SGood.mk x45.Name (wI64 (x43.OnHand + t_1.Many)) x45.Reserved x45.Least)).length) c29), (43, .slice a28 ((x26.set (Int.toNat x11.1) (SGood.mk x45.Name (wI64 (x43.OnHand + t_1.Many)) x45.Reserved x45.Least)).length) c29), (44, .int .i64 x11.1)] (by kernel_rfl) ?_
  obtain ⟨x73, hx74, hm⟩ := bindE hm
  refine WL.st (.pointer (some (at_ a28 (Int.toNat x11.1 * 4)))) (ST.index (T := fGood.ty) (xs := (x26.set (Int.toNat x11.1) (SGood.mk x45.Name (wI64 (x43.OnHand + t_1.Many)) x45.Reserved x45.Least))) (SH.rd (SH.front 0 hS67)) hx74 rfl rfl rfl Try.underlying25 (info56).1 (info56).2.1) rfl rfl rfl ?_
  refine WL.runk 1 [8, 46] [(8, .slice a28 ((x26.set (Int.toNat x11.1) (SGood.mk x45.Name (wI64 (x43.OnHand + t_1.Many)) x45.Reserved x45.Least)).length) c29), (46, .pointer (some (at_ a28 (Int.toNat x11.1 * 4 + 1))))] (by kernel_rfl) ?_
  refine WL.st (.int .i64 x73.OnHand) (ST.load (cell_ext (Rd.flat (F := fGood) (SH.rd (SH.front 0 hS67)) hx74 1 rfl)) rfl rfl Try.underlying2 rfl) rfl rfl rfl ?_
  refine WL.runk 2 [8, 42] [(8, .slice a28 ((x26.set (Int.toNat x11.1) (SGood.mk x45.Name (wI64 (x43.OnHand + t_1.Many)) x45.Reserved x45.Least)).length) c29), (42, .bool (decide (x73.OnHand > 1000000)))] (by kernel_rfl) ?_
  refine WL.nil ?_
  refine WQ.then_normal (hK72 _ _ _ ?_)
  refine WP.cond (decide (x73.OnHand > 1000000)) rfl rfl (fun hc75 => ?_) (fun hc75 => ?_)
  · have hm := iteT hm hc75
    refine WP.seq (fun K76 hK76 => ?_)
    refine WP.region ?_
    refine WL.runk 2 [4, 5] [(4, .slice none 0 0), (5, .int .i64 5)] (by kernel_rfl) ?_
    refine WL.nil ?_
    refine WQ.then_normal (hK76 _ _ _ ?_)
    refine WP.ret ?_
    refine WQ.block_ret ?_
    refine WQ.then_ret ?_
    obtain rfl := Option.some.inj hm
    have hS78 : SH w63 w.heap.size [aOwn fGood 56 none 0 ([] : List SGood), aOwn fGood 56 a28 c29 (x26.set (Int.toNat x11.1) (SGood.mk x45.Name (wI64 (x43.OnHand + t_1.Many)) x45.Reserved x45.Least)), aBox 43 b2 [.string (bs t_1.Name), .int .i64 t_1.Many]] := SH.nilOwn hS67
    exact WQ.ret2 _ _ rfl rfl rfl ⟨_, _, rfl, hb65, (SH.take 1 hS78)⟩
  have hm := iteF hm hc75
  refine WP.skip ?_
  refine WQ.block_normal ?_
  refine WQ.then_normal (hK57 _ _ _ ?_)
  refine WP.seq (fun K79 hK79 => ?_)
  refine WP.region ?_
  refine WL.runk 3 [4, 5] [(4, .slice a28 ((x26.set (Int.toNat x11.1) (SGood.mk x45.Name (wI64 (x43.OnHand + t_1.Many)) x45.Reserved x45.Least)).length) c29), (5, .int .i64 0)] (by kernel_rfl) ?_
  refine WL.nil ?_
  refine WQ.then_normal (hK79 _ _ _ ?_)
  refine WP.ret ?_
  obtain rfl := Option.some.inj hm
  exact WQ.ret2 _ _ rfl rfl rfl ⟨_, _, rfl, hb65, (SH.take 1 hS67)⟩

end Go.Proofs.Ytkpdicajinionaa
