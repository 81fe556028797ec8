/- Each call does what its Lean function says. -/
import Derived.Test.YtkpdicajinionaaTi
import Derived.Test.YtkpdicajinionaaEq
import Derived.Test.YtkpdicajinionaaMo
set_option maxRecDepth 20000
set_option maxHeartbeats 40000000
namespace Go.Proofs.Ytkpdicajinionaa
open Go Go.Gv Go.RowKit

theorem c_39 (n : Nat) (a_0 : SGood) (left_1 : Int) (w : World) {r : Int} (hm : m_laws_szGood n a_0 left_1 = some r)  :
    CallV Try.prog 39 #[.agg #[.string (bs a_0.Name), .int .i64 a_0.OnHand, .int .i64 a_0.Reserved, .int .i64 a_0.Least], .int .i64 left_1] w (fun v w' => v = .int .i64 r ∧ Ext w w') := by
  unfold m_laws_szGood at hm
  refine CallV.enter Try.func39 rfl (by kernel_rfl) Try.ntmps39 (env := [(0, .agg #[.string (bs a_0.Name), .int .i64 a_0.OnHand, .int .i64 a_0.Reserved, .int .i64 a_0.Least]), (1, .int .i64 left_1)]) ⟨rfl, rfl, trivial⟩ ?_
  refine WP.seq (fun K1 hK1 => ?_)
  refine WP.region ?_
  refine WL.box 53 [.string (bs a_0.Name), .int .i64 a_0.OnHand, .int .i64 a_0.Reserved, .int .i64 a_0.Least] 2 (by kernel_rfl) rfl rfl rfl rfl ?_
  intro b2 w3 hE4 hR5
  have hb7 : Ext w w3 := Ext.trans (Ext.refl w) hE4
  have hL8 : w.heap.size ≤ w3.heap.size := Nat.le_trans (Nat.le_refl _) hE4.size
  have hS9 : SH w3 w.heap.size [aBox 53 b2 [.string (bs a_0.Name), .int .i64 a_0.OnHand, .int .i64 a_0.Reserved, .int .i64 a_0.Least]] := SH.add (SH.nil _ _) hE4 (Nat.le_refl _) hR5
  refine WL.runk 1 [1, 2] [(1, .int .i64 left_1), (2, .pointer (some ⟨b2, 0, none⟩))] (by kernel_rfl) ?_
  refine WL.nil ?_
  refine WQ.then_normal (hK1 _ _ _ ?_)
  refine WP.seq (fun K10 hK10 => ?_)
  refine WP.region ?_
  refine WL.runk 2 [5, 6] [(5, .int .i64 left_1), (6, .pointer (some ⟨b2, 0, none⟩))] (by kernel_rfl) ?_
  refine WL.st (.string (bs a_0.Name)) (ST.load (cell_ext (SH.boxAt (SH.front 0 hS9) 0 _ rfl)) rfl rfl Try.underlying9 rfl) rfl rfl rfl ?_
  refine WL.runk 3 [1] [(1, .int .i64 (wI64 (left_1 - (a_0.Name.length : Int))))] (by kernel_rfl) ?_
  refine WL.nil ?_
  refine WQ.then_normal (hK10 _ _ _ ?_)
  refine WP.seq (fun K11 hK11 => ?_)
  refine WP.seq (fun K12 hK12 => ?_)
  refine WP.region ?_
  refine WL.runk 2 [1, 11] [(1, .int .i64 (wI64 (left_1 - (a_0.Name.length : Int)))), (11, .bool (decide ((wI64 (left_1 - (a_0.Name.length : Int))) < 0)))] (by kernel_rfl) ?_
  refine WL.nil ?_
  refine WQ.then_normal (hK12 _ _ _ ?_)
  refine WP.cond (decide ((wI64 (left_1 - (a_0.Name.length : Int))) < 0)) rfl rfl (fun hc13 => ?_) (fun hc13 => ?_)
  · have hm := iteT hm hc13
    refine WP.seq (fun K14 hK14 => ?_)
    refine WP.region ?_
    refine WL.runk 1 [4] [(4, .int .i64 (-1))] (by kernel_rfl) ?_
    refine WL.nil ?_
    refine WQ.then_normal (hK14 _ _ _ ?_)
    refine WP.ret ?_
    refine WQ.then_ret ?_
    obtain rfl := Option.some.inj hm
    exact WQ.ret1 _ rfl rfl ⟨rfl, hb7⟩
  have hm := iteF hm hc13
  refine WP.skip ?_
  refine WQ.then_normal (hK11 _ _ _ ?_)
  refine WP.seq (fun K15 hK15 => ?_)
  refine WP.region ?_
  refine WL.runk 2 [4] [(4, .int .i64 (wI64 (left_1 - (a_0.Name.length : Int))))] (by kernel_rfl) ?_
  refine WL.nil ?_
  refine WQ.then_normal (hK15 _ _ _ ?_)
  refine WP.ret ?_
  obtain rfl := Option.some.inj hm
  exact WQ.ret1 _ rfl rfl ⟨rfl, hb7⟩

theorem c_13 (n : Nat) (a_0 : List SGood) (a0' : Option Addr) (c0' : Nat) (left_1 : Int) (w : World) {r : Int} (hm : m_laws_szGoodS n a_0 left_1 = some r) (h0 : Rd fGood.ty w a0' a_0) (_hle0 : a_0.length ≤ c0') :
    CallV Try.prog 13 #[.slice a0' a_0.length c0', .int .i64 left_1] w (fun v w' => v = .int .i64 r ∧ Ext w w') := by
  unfold m_laws_szGoodS at hm
  refine CallV.enter Try.func13 rfl (by kernel_rfl) Try.ntmps13 (env := [(0, .slice a0' a_0.length c0'), (1, .int .i64 left_1)]) ⟨rfl, rfl, trivial⟩ ?_
  refine WP.seq (fun K1 hK1 => ?_)
  refine WP.region ?_
  refine WL.runk 1 [0, 1] [(0, .slice a0' a_0.length c0'), (1, .int .i64 left_1)] (by kernel_rfl) ?_
  refine WL.nil ?_
  refine WQ.then_normal (hK1 _ _ _ ?_)
  refine WP.seq (fun K2 hK2 => ?_)
  refine WP.region ?_
  refine WL.runk 5 [0, 1] [(0, .slice a0' a_0.length c0'), (1, .int .i64 (wI64 (left_1 - (a_0.length : Int))))] (by kernel_rfl) ?_
  refine WL.nil ?_
  refine WQ.then_normal (hK2 _ _ _ ?_)
  refine WP.seq (fun K3 hK3 => ?_)
  refine WP.seq (fun K4 hK4 => ?_)
  refine WP.region ?_
  refine WL.runk 2 [0, 1, 11] [(0, .slice a0' a_0.length c0'), (1, .int .i64 (wI64 (left_1 - (a_0.length : Int)))), (11, .bool (decide ((wI64 (left_1 - (a_0.length : Int))) < 0)))] (by kernel_rfl) ?_
  refine WL.nil ?_
  refine WQ.then_normal (hK4 _ _ _ ?_)
  refine WP.cond (decide ((wI64 (left_1 - (a_0.length : Int))) < 0)) rfl rfl (fun hc5 => ?_) (fun hc5 => ?_)
  · have hm := iteT hm hc5
    refine WP.seq (fun K6 hK6 => ?_)
    refine WP.region ?_
    refine WL.runk 1 [4] [(4, .int .i64 (-1))] (by kernel_rfl) ?_
    refine WL.nil ?_
    refine WQ.then_normal (hK6 _ _ _ ?_)
    refine WP.ret ?_
    refine WQ.then_ret ?_
    obtain rfl := Option.some.inj hm
    exact WQ.ret1 _ rfl rfl ⟨rfl, (Ext.refl w)⟩
  have hm := iteF hm hc5
  refine WP.skip ?_
  refine WQ.then_normal (hK3 _ _ _ ?_)
  refine WP.seq (fun K7 hK7 => ?_)
  refine WP.seq (fun K8 hK8 => ?_)
  refine WP.region ?_
  refine WL.runk 1 [0, 1, 5] [(0, .slice a0' a_0.length c0'), (1, .int .i64 (wI64 (left_1 - (a_0.length : Int)))), (5, .int .i64 0)] (by kernel_rfl) ?_
  refine WL.nil ?_
  refine WQ.then_normal (hK8 _ _ _ ?_)
  refine WP.block ?_
  obtain ⟨t20, ht21, hm⟩ := bindE hm
  have hmo15 := hm; clear hm
  refine WP.sub [(0, .slice a0' a_0.length c0'), (1, .int .i64 (wI64 (left_1 - (a_0.length : Int)))), (5, .int .i64 0)] ⟨rfl, rfl, rfl, trivial⟩ ?_
  refine WP.loop (fun n' env' w' => ∃ (st9 : Int × Int) , env' = [(0, .slice a0' a_0.length c0'), (1, .int .i64 st9.1), (5, .int .i64 st9.2)] ∧ Ext w w' ∧ w.heap.size ≤ w'.heap.size ∧ SH w' w.heap.size [] ∧ loopN (m_laws_szGoodS_l1 n a_0) n' st9 = some t20) n ⟨((wI64 (left_1 - (a_0.length : Int))), 0), rfl, (Ext.refl w), (Nat.le_refl _), (SH.nil _ _), ht21⟩ ?_
  rintro n17 _ w10 ⟨st9, rfl, hb11, hL12, hS13, hl14⟩ K16 hK16
  obtain ⟨n18, s19, rfl, hm, hl14⟩ := loopN_some hl14
  unfold m_laws_szGoodS_l1 at hm
  refine WP.seq (fun K22 hK22 => ?_)
  refine WP.seq (fun K23 hK23 => ?_)
  refine WP.region ?_
  refine WL.runk 4 [0, 1, 5, 15] [(0, .slice a0' a_0.length c0'), (1, .int .i64 st9.1), (5, .int .i64 st9.2), (15, .bool (decide (st9.2 < (a_0.length : Int))))] (by kernel_rfl) ?_
  refine WL.nil ?_
  refine WQ.then_normal (hK23 _ _ _ ?_)
  refine WP.cond (decide (st9.2 < (a_0.length : Int))) rfl rfl (fun hc24 => ?_) (fun hc24 => ?_)
  rotate_left
  · have hm := iteF hm hc24
    refine WP.exit ?_
    refine WQ.then_exit ?_
    refine WQ.then_exit ?_
    refine WQ.block_here ?_
    obtain rfl := Option.some.inj hm
    obtain rfl := afterN_done hl14
    have hm := hmo15
    refine WQ.then_normal (hK7 _ _ _ ?_)
    refine WP.seq (fun K40 hK40 => ?_)
    refine WP.region ?_
    refine WL.runk 2 [4] [(4, .int .i64 st9.1)] (by kernel_rfl) ?_
    refine WL.nil ?_
    refine WQ.then_normal (hK40 _ _ _ ?_)
    refine WP.ret ?_
    obtain rfl := Option.some.inj hm
    exact WQ.ret1 _ rfl rfl ⟨rfl, hb11⟩
  have hm := iteT hm hc24
  refine WP.skip ?_
  refine WQ.then_normal (hK22 _ _ _ ?_)
  refine WP.seq (fun K25 hK25 => ?_)
  refine WP.block ?_
  refine WP.seq (fun K26 hK26 => ?_)
  refine WP.region ?_
  refine WL.runk 2 [0, 1, 5, 18, 19] [(0, .slice a0' a_0.length c0'), (1, .int .i64 st9.1), (5, .int .i64 st9.2), (18, .slice a0' a_0.length c0'), (19, .int .i64 st9.2)] (by kernel_rfl) ?_
  obtain ⟨x27, hx28, hm⟩ := bindE hm
  refine WL.st (.pointer (some (at_ a0' (Int.toNat st9.2 * 4)))) (ST.index (T := fGood.ty) (xs := a_0) (Rd.below h0 hb11) hx28 rfl rfl rfl Try.underlying22 (info53).1 (info53).2.1) rfl rfl rfl ?_
  refine WL.st (.agg #[.string (bs x27.Name), .int .i64 x27.OnHand, .int .i64 x27.Reserved, .int .i64 x27.Least]) (ST.loadAgg (vs := fGood.leaf x27) (fun j v hv => Rd.flatA (F := fGood) (Rd.below h0 hb11) hx28 j hv) rfl rfl rfl Try.underlying53 rfl (info53).1 (info53).2.1) rfl rfl rfl ?_
  refine WL.runk 1 [0, 5, 21, 22] [(0, .slice a0' a_0.length c0'), (5, .int .i64 st9.2), (21, .agg #[.string (bs x27.Name), .int .i64 x27.OnHand, .int .i64 x27.Reserved, .int .i64 x27.Least]), (22, .int .i64 st9.1)] (by kernel_rfl) ?_
  obtain ⟨x29, hx30, hm⟩ := bindE hm
  refine WL.call 39 #[.agg #[.string (bs x27.Name), .int .i64 x27.OnHand, .int .i64 x27.Reserved, .int .i64 x27.Least], .int .i64 st9.1] rfl rfl (by kernel_rfl) (c_39 n x27 st9.1 w10 hx30 ) ?_
  rintro _ w31 ⟨rfl, hE32⟩
  refine ⟨_, rfl, ?_⟩
  have hb34 : Ext w w31 := Ext.trans hb11 hE32
  have hL35 : w.heap.size ≤ w31.heap.size := Nat.le_trans hL12 hE32.size
  have hS36 : SH w31 w.heap.size [] := SH.ext hS13 hE32
  refine WL.runk 1 [0, 1, 5] [(0, .slice a0' a_0.length c0'), (5, .int .i64 st9.2), (1, .int .i64 x29)] (by kernel_rfl) ?_
  refine WL.nil ?_
  refine WQ.then_normal (hK26 _ _ _ ?_)
  refine WP.seq (fun K37 hK37 => ?_)
  refine WP.region ?_
  refine WL.runk 2 [0, 1, 5, 25] [(0, .slice a0' a_0.length c0'), (5, .int .i64 st9.2), (1, .int .i64 x29), (25, .bool (decide (x29 < 0)))] (by kernel_rfl) ?_
  refine WL.nil ?_
  refine WQ.then_normal (hK37 _ _ _ ?_)
  refine WP.cond (decide (x29 < 0)) rfl rfl (fun hc38 => ?_) (fun hc38 => ?_)
  rotate_left
  · have hm := iteF hm hc38
    refine WP.skip ?_
    refine WQ.block_normal ?_
    refine WQ.then_normal (hK25 _ _ _ ?_)
    refine WP.region ?_
    refine WL.runk 3 [0, 1, 5] [(0, .slice a0' a_0.length c0'), (5, .int .i64 (wI64 (st9.2 + 1))), (1, .int .i64 x29)] (by kernel_rfl) ?_
    refine WL.nil ?_
    obtain rfl := Option.some.inj hm
    exact WQ.round hK16 ⟨(x29, (wI64 (st9.2 + 1))), rfl, hb34, hL35, hS36, hl14⟩ (Nat.lt_succ_self _) ⟨rfl, rfl, rfl, trivial⟩
  have hm := iteT hm hc38
  refine WP.seq (fun K39 hK39 => ?_)
  refine WP.region ?_
  refine WL.runk 1 [4] [(4, .int .i64 (-1))] (by kernel_rfl) ?_
  refine WL.nil ?_
  refine WQ.then_normal (hK39 _ _ _ ?_)
  refine WP.ret ?_
  refine WQ.block_ret ?_
  refine WQ.then_ret ?_
  refine WQ.then_ret ?_
  refine WQ.block_ret ?_
  refine WQ.then_ret ?_
  obtain rfl := Option.some.inj hm
  obtain rfl := afterN_done hl14
  have hm := hmo15
  obtain rfl := Option.some.inj hm
  exact WQ.ret1 _ rfl rfl ⟨rfl, hb34⟩

theorem c_14 (n : Nat) (a_0 : List SGood) (a0' : Option Addr) (c0' : Nat) (b_1 : List SGood) (a1' : Option Addr) (c1' : Nat) (w : World) {r : Bool} (hm : m_spec_SameGoods n a_0 b_1 = some r) (h0 : Rd fGood.ty w a0' a_0) (_hle0 : a_0.length ≤ c0') (h1 : Rd fGood.ty w a1' b_1) (_hle1 : b_1.length ≤ c1') :
    CallV Try.prog 14 #[.slice a0' a_0.length c0', .slice a1' b_1.length c1'] w (fun v w' => v = .bool r ∧ Ext w w') := by
  unfold m_spec_SameGoods at hm
  refine CallV.enter Try.func14 rfl (by kernel_rfl) Try.ntmps14 (env := [(0, .slice a0' a_0.length c0'), (1, .slice a1' b_1.length c1')]) ⟨rfl, rfl, trivial⟩ ?_
  refine WP.seq (fun K1 hK1 => ?_)
  refine WP.region ?_
  refine WL.runk 1 [0, 1] [(0, .slice a0' a_0.length c0'), (1, .slice a1' b_1.length c1')] (by kernel_rfl) ?_
  refine WL.nil ?_
  refine WQ.then_normal (hK1 _ _ _ ?_)
  refine WP.seq (fun K2 hK2 => ?_)
  refine WP.seq (fun K3 hK3 => ?_)
  refine WP.region ?_
  refine WL.runk 5 [0, 1, 10] [(0, .slice a0' a_0.length c0'), (1, .slice a1' b_1.length c1'), (10, .bool ((a_0.length : Int) != (b_1.length : Int)))] (by kernel_rfl) ?_
  refine WL.nil ?_
  refine WQ.then_normal (hK3 _ _ _ ?_)
  refine WP.cond ((a_0.length : Int) != (b_1.length : Int)) rfl rfl (fun hc4 => ?_) (fun hc4 => ?_)
  · have hm := iteT hm hc4
    refine WP.seq (fun K5 hK5 => ?_)
    refine WP.region ?_
    refine WL.runk 1 [4] [(4, .bool false)] (by kernel_rfl) ?_
    refine WL.nil ?_
    refine WQ.then_normal (hK5 _ _ _ ?_)
    refine WP.ret ?_
    refine WQ.then_ret ?_
    obtain rfl := Option.some.inj hm
    exact WQ.ret1 _ rfl rfl ⟨rfl, (Ext.refl w)⟩
  have hm := iteF hm hc4
  refine WP.skip ?_
  refine WQ.then_normal (hK2 _ _ _ ?_)
  refine WP.seq (fun K6 hK6 => ?_)
  refine WP.seq (fun K7 hK7 => ?_)
  refine WP.region ?_
  refine WL.runk 1 [0, 1, 5] [(0, .slice a0' a_0.length c0'), (1, .slice a1' b_1.length c1'), (5, .int .i64 0)] (by kernel_rfl) ?_
  refine WL.nil ?_
  refine WQ.then_normal (hK7 _ _ _ ?_)
  refine WP.block ?_
  obtain ⟨t19, ht20, hm⟩ := bindE hm
  have hmo14 := hm; clear hm
  refine WP.sub [(0, .slice a0' a_0.length c0'), (1, .slice a1' b_1.length c1'), (5, .int .i64 0)] ⟨rfl, rfl, rfl, trivial⟩ ?_
  refine WP.loop (fun n' env' w' => ∃ (st8 : Int) , env' = [(0, .slice a0' a_0.length c0'), (1, .slice a1' b_1.length c1'), (5, .int .i64 st8)] ∧ Ext w w' ∧ w.heap.size ≤ w'.heap.size ∧ SH w' w.heap.size [] ∧ loopN (m_spec_SameGoods_l1 n a_0 b_1) n' st8 = some t19) n ⟨0, rfl, (Ext.refl w), (Nat.le_refl _), (SH.nil _ _), ht20⟩ ?_
  rintro n16 _ w9 ⟨st8, rfl, hb10, hL11, hS12, hl13⟩ K15 hK15
  obtain ⟨n17, s18, rfl, hm, hl13⟩ := loopN_some hl13
  unfold m_spec_SameGoods_l1 at hm
  refine WP.seq (fun K21 hK21 => ?_)
  refine WP.seq (fun K22 hK22 => ?_)
  refine WP.region ?_
  refine WL.runk 4 [0, 1, 5, 14] [(0, .slice a0' a_0.length c0'), (1, .slice a1' b_1.length c1'), (5, .int .i64 st8), (14, .bool (decide (st8 < (a_0.length : Int))))] (by kernel_rfl) ?_
  refine WL.nil ?_
  refine WQ.then_normal (hK22 _ _ _ ?_)
  refine WP.cond (decide (st8 < (a_0.length : Int))) rfl rfl (fun hc23 => ?_) (fun hc23 => ?_)
  rotate_left
  · have hm := iteF hm hc23
    refine WP.exit ?_
    refine WQ.then_exit ?_
    refine WQ.then_exit ?_
    refine WQ.block_here ?_
    obtain rfl := Option.some.inj hm
    obtain rfl := afterN_done hl13
    have hm := hmo14
    refine WQ.then_normal (hK6 _ _ _ ?_)
    refine WP.seq (fun K37 hK37 => ?_)
    refine WP.region ?_
    refine WL.runk 1 [4] [(4, .bool true)] (by kernel_rfl) ?_
    refine WL.nil ?_
    refine WQ.then_normal (hK37 _ _ _ ?_)
    refine WP.ret ?_
    obtain rfl := Option.some.inj hm
    exact WQ.ret1 _ rfl rfl ⟨rfl, hb10⟩
  have hm := iteT hm hc23
  refine WP.skip ?_
  refine WQ.then_normal (hK21 _ _ _ ?_)
  refine WP.seq (fun K24 hK24 => ?_)
  refine WP.block ?_
  refine WP.seq (fun K25 hK25 => ?_)
  refine WP.quiet (by kernel_rfl) (by kernel_rfl) ?_
  refine QL.step1v 17 (.slice a0' a_0.length c0') rfl (fun _ => by kernel_rfl) ?_
  refine QL.step1v 18 (.int .i64 st8) rfl (fun _ => by kernel_rfl) ?_
  refine QL.subk [0, 1, 5, 17, 18] [(0, .slice a0' a_0.length c0'), (1, .slice a1' b_1.length c1'), (5, .int .i64 st8), (17, .slice a0' a_0.length c0'), (18, .int .i64 st8)] (by kernel_rfl) ?_
  obtain ⟨x26, hx27, hm⟩ := bindE hm
  refine QL.st (.pointer (some (at_ a0' (Int.toNat st8 * 4)))) (ST.index (T := fGood.ty) (xs := a_0) (Rd.below h0 hb10) hx27 rfl rfl rfl Try.underlying25 (info56).1 (info56).2.1) rfl rfl rfl ?_
  refine QL.st (.agg #[.string (bs x26.Name), .int .i64 x26.OnHand, .int .i64 x26.Reserved, .int .i64 x26.Least]) (ST.loadAgg (vs := fGood.leaf x26) (fun j v hv => Rd.flatA (F := fGood) (Rd.below h0 hb10) hx27 j hv) rfl rfl rfl Try.underlying56 rfl (info56).1 (info56).2.1) rfl rfl rfl ?_
  refine QL.step1v 21 (.slice a1' b_1.length c1') rfl (fun _ => by kernel_rfl) ?_
  refine QL.step1v 22 (.int .i64 st8) rfl (fun _ => by kernel_rfl) ?_
  refine QL.subk [0, 1, 5, 20, 21, 22] [(0, .slice a0' a_0.length c0'), (1, .slice a1' b_1.length c1'), (5, .int .i64 st8), (20, .agg #[.string (bs x26.Name), .int .i64 x26.OnHand, .int .i64 x26.Reserved, .int .i64 x26.Least]), (21, .slice a1' b_1.length c1'), (22, .int .i64 st8)] (by kernel_rfl) ?_
  obtain ⟨x28, hx29, hm⟩ := bindE hm
  refine QL.st (.pointer (some (at_ a1' (Int.toNat st8 * 4)))) (ST.index (T := fGood.ty) (xs := b_1) (Rd.below h1 hb10) hx29 rfl rfl rfl Try.underlying25 (info56).1 (info56).2.1) rfl rfl rfl ?_
  refine QL.st (.agg #[.string (bs x28.Name), .int .i64 x28.OnHand, .int .i64 x28.Reserved, .int .i64 x28.Least]) (ST.loadAgg (vs := fGood.leaf x28) (fun j v hv => Rd.flatA (F := fGood) (Rd.below h1 hb10) hx29 j hv) rfl rfl rfl Try.underlying56 rfl (info56).1 (info56).2.1) rfl rfl rfl ?_
  refine QL.st (.bool (!(decide (x26 = x28)))) (ST.aggne (F := fGood) (x := x26) (y := x28) (eqs_56 x26 x28) (by kernel_rfl) rfl rfl rfl) rfl rfl rfl ?_
  refine QL.subk [0, 1, 5, 25] [(0, .slice a0' a_0.length c0'), (1, .slice a1' b_1.length c1'), (5, .int .i64 st8), (25, .bool (!(decide (x26 = x28))))] (by kernel_rfl) ?_
  refine QL.nil ?_
  intro w30 hE31
  have hb32 : Ext w w30 := Ext.trans hb10 hE31
  have hL33 : w.heap.size ≤ w30.heap.size := Nat.le_trans hL11 hE31.size
  have hS34 : SH w30 w.heap.size [] := SH.ext hS12 hE31
  refine WQ.then_normal (hK25 _ _ _ ?_)
  refine WP.cond (!(decide (x26 = x28))) rfl rfl (fun hc35 => ?_) (fun hc35 => ?_)
  rotate_left
  · have hm := iteF hm hc35
    refine WP.skip ?_
    refine WQ.block_normal ?_
    refine WQ.then_normal (hK24 _ _ _ ?_)
    refine WP.region ?_
    refine WL.runk 3 [0, 1, 5] [(0, .slice a0' a_0.length c0'), (1, .slice a1' b_1.length c1'), (5, .int .i64 (wI64 (st8 + 1)))] (by kernel_rfl) ?_
    refine WL.nil ?_
    obtain rfl := Option.some.inj hm
    exact WQ.round hK15 ⟨(wI64 (st8 + 1)), rfl, hb32, hL33, hS34, hl13⟩ (Nat.lt_succ_self _) ⟨rfl, rfl, rfl, trivial⟩
  have hm := iteT hm hc35
  refine WP.seq (fun K36 hK36 => ?_)
  refine WP.region ?_
  refine WL.runk 1 [4] [(4, .bool false)] (by kernel_rfl) ?_
  refine WL.nil ?_
  refine WQ.then_normal (hK36 _ _ _ ?_)
  refine WP.ret ?_
  refine WQ.block_ret ?_
  refine WQ.then_ret ?_
  refine WQ.then_ret ?_
  refine WQ.block_ret ?_
  refine WQ.then_ret ?_
  obtain rfl := Option.some.inj hm
  obtain rfl := afterN_done hl13
  have hm := hmo14
  obtain rfl := Option.some.inj hm
  exact WQ.ret1 _ rfl rfl ⟨rfl, hb32⟩

theorem c_41 (n : Nat) (a_0 : SGood) (w : World) {r : SGood} (hm : m_laws_toGood n a_0 = some r)  :
    CallV Try.prog 41 #[.agg #[.string (bs a_0.Name), .int .i64 a_0.OnHand, .int .i64 a_0.Reserved, .int .i64 a_0.Least]] w (fun v w' => v = .agg #[.string (bs r.Name), .int .i64 r.OnHand, .int .i64 r.Reserved, .int .i64 r.Least] ∧ Ext w w') := by
  unfold m_laws_toGood at hm
  refine CallV.enter Try.func41 rfl (by kernel_rfl) Try.ntmps41 (env := [(0, .agg #[.string (bs a_0.Name), .int .i64 a_0.OnHand, .int .i64 a_0.Reserved, .int .i64 a_0.Least])]) ⟨rfl, trivial⟩ ?_
  refine WP.seq (fun K1 hK1 => ?_)
  refine WP.region ?_
  refine WL.box 53 [.string (bs a_0.Name), .int .i64 a_0.OnHand, .int .i64 a_0.Reserved, .int .i64 a_0.Least] 1 (by kernel_rfl) rfl rfl rfl rfl ?_
  intro b2 w3 hE4 hR5
  have hb7 : Ext w w3 := Ext.trans (Ext.refl w) hE4
  have hL8 : w.heap.size ≤ w3.heap.size := Nat.le_trans (Nat.le_refl _) hE4.size
  have hS9 : SH w3 w.heap.size [aBox 53 b2 [.string (bs a_0.Name), .int .i64 a_0.OnHand, .int .i64 a_0.Reserved, .int .i64 a_0.Least]] := SH.add (SH.nil _ _) hE4 (Nat.le_refl _) hR5
  refine WL.box 56 [.string (bs []), .int .i64 0, .int .i64 0, .int .i64 0] 2 (by kernel_rfl) rfl rfl rfl rfl ?_
  intro b10 w11 hE12 hR13
  have hb15 : Ext w w11 := Ext.trans hb7 hE12
  have hL16 : w.heap.size ≤ w11.heap.size := Nat.le_trans hL8 hE12.size
  have hS17 : SH w11 w.heap.size [aBox 56 b10 [.string (bs []), .int .i64 0, .int .i64 0, .int .i64 0], aBox 53 b2 [.string (bs a_0.Name), .int .i64 a_0.OnHand, .int .i64 a_0.Reserved, .int .i64 a_0.Least]] := SH.add hS9 hE12 hL8 hR13
  refine WL.sub [(1, .pointer (some ⟨b2, 0, none⟩)), (2, .pointer (some ⟨b10, 0, none⟩))] ⟨rfl, rfl, trivial⟩ ?_
  refine WL.nil ?_
  refine WQ.then_normal (hK1 _ _ _ ?_)
  refine WP.seq (fun K18 hK18 => ?_)
  refine WP.region ?_
  refine WL.box 56 [.string (bs []), .int .i64 0, .int .i64 0, .int .i64 0] 3 (by kernel_rfl) rfl rfl rfl rfl ?_
  intro b19 w20 hE21 hR22
  have hb24 : Ext w w20 := Ext.trans hb15 hE21
  have hL25 : w.heap.size ≤ w20.heap.size := Nat.le_trans hL16 hE21.size
  have hS26 : SH w20 w.heap.size [aBox 56 b19 [.string (bs []), .int .i64 0, .int .i64 0, .int .i64 0], aBox 56 b10 [.string (bs []), .int .i64 0, .int .i64 0, .int .i64 0], aBox 53 b2 [.string (bs a_0.Name), .int .i64 a_0.OnHand, .int .i64 a_0.Reserved, .int .i64 a_0.Least]] := SH.add hS17 hE21 hL16 hR22
  refine WL.sub [(1, .pointer (some ⟨b2, 0, none⟩)), (2, .pointer (some ⟨b10, 0, none⟩)), (3, .pointer (some ⟨b19, 0, none⟩))] ⟨rfl, rfl, rfl, trivial⟩ ?_
  refine WL.nil ?_
  refine WQ.then_normal (hK18 _ _ _ ?_)
  refine WP.seq (fun K27 hK27 => ?_)
  refine WP.region ?_
  refine WL.runk 1 [1, 2, 3, 4] [(1, .pointer (some ⟨b2, 0, none⟩)), (2, .pointer (some ⟨b10, 0, none⟩)), (3, .pointer (some ⟨b19, 0, none⟩)), (4, .pointer (some ⟨b2, 0, none⟩))] (by kernel_rfl) ?_
  refine WL.st (.string (bs a_0.Name)) (ST.load (cell_ext (SH.boxAt (SH.front 2 hS26) 0 _ rfl)) rfl rfl Try.underlying9 rfl) rfl rfl rfl ?_
  refine WL.runk 1 [1, 2, 3, 5, 6] [(1, .pointer (some ⟨b2, 0, none⟩)), (2, .pointer (some ⟨b10, 0, none⟩)), (3, .pointer (some ⟨b19, 0, none⟩)), (5, .string (bs a_0.Name)), (6, .pointer (some ⟨b19, 0, none⟩))] (by kernel_rfl) ?_
  refine WL.boxStore 0 [.string (bs a_0.Name)] [.string (bs a_0.Name), .int .i64 0, .int .i64 0, .int .i64 0] (SH.front 0 hS26) hL25 rfl rfl rfl rfl rfl rfl rfl (info9).1 (info9).2.1 rfl rfl rfl ?_
  intro w28 hB29 hS30
  have hb31 : Ext w w28 := Below.trans hb24 hB29
  have hL32 : w.heap.size ≤ w28.heap.size := Nat.le_trans hL25 hB29.size
  refine WL.sub [(1, .pointer (some ⟨b2, 0, none⟩)), (2, .pointer (some ⟨b10, 0, none⟩)), (3, .pointer (some ⟨b19, 0, none⟩))] ⟨rfl, rfl, rfl, trivial⟩ ?_
  refine WL.nil ?_
  refine WQ.then_normal (hK27 _ _ _ ?_)
  refine WP.seq (fun K33 hK33 => ?_)
  refine WP.region ?_
  refine WL.runk 1 [1, 2, 3, 7] [(1, .pointer (some ⟨b2, 0, none⟩)), (2, .pointer (some ⟨b10, 0, none⟩)), (3, .pointer (some ⟨b19, 0, none⟩)), (7, .pointer (some ⟨b2, 1, none⟩))] (by kernel_rfl) ?_
  refine WL.st (.int .i64 a_0.OnHand) (ST.load (cell_ext (SH.boxAt (SH.front 2 hS30) 1 _ rfl)) rfl rfl Try.underlying2 rfl) rfl rfl rfl ?_
  refine WL.runk 1 [1, 2, 3, 8, 9] [(1, .pointer (some ⟨b2, 0, none⟩)), (2, .pointer (some ⟨b10, 0, none⟩)), (3, .pointer (some ⟨b19, 0, none⟩)), (8, .int .i64 a_0.OnHand), (9, .pointer (some ⟨b19, 1, none⟩))] (by kernel_rfl) ?_
  refine WL.boxStore 1 [.int .i64 a_0.OnHand] [.string (bs a_0.Name), .int .i64 a_0.OnHand, .int .i64 0, .int .i64 0] (SH.front 0 hS30) hL32 rfl rfl rfl rfl rfl rfl rfl (info2).1 (info2).2.1 rfl rfl rfl ?_
  intro w34 hB35 hS36
  have hb37 : Ext w w34 := Below.trans hb31 hB35
  have hL38 : w.heap.size ≤ w34.heap.size := Nat.le_trans hL32 hB35.size
  refine WL.sub [(1, .pointer (some ⟨b2, 0, none⟩)), (2, .pointer (some ⟨b10, 0, none⟩)), (3, .pointer (some ⟨b19, 0, none⟩))] ⟨rfl, rfl, rfl, trivial⟩ ?_
  refine WL.nil ?_
  refine WQ.then_normal (hK33 _ _ _ ?_)
  refine WP.seq (fun K39 hK39 => ?_)
  refine WP.region ?_
  refine WL.runk 1 [1, 2, 3, 10] [(1, .pointer (some ⟨b2, 0, none⟩)), (2, .pointer (some ⟨b10, 0, none⟩)), (3, .pointer (some ⟨b19, 0, none⟩)), (10, .pointer (some ⟨b2, 2, none⟩))] (by kernel_rfl) ?_
  refine WL.st (.int .i64 a_0.Reserved) (ST.load (cell_ext (SH.boxAt (SH.front 2 hS36) 2 _ rfl)) rfl rfl Try.underlying2 rfl) rfl rfl rfl ?_
  refine WL.runk 1 [1, 2, 3, 11, 12] [(1, .pointer (some ⟨b2, 0, none⟩)), (2, .pointer (some ⟨b10, 0, none⟩)), (3, .pointer (some ⟨b19, 0, none⟩)), (11, .int .i64 a_0.Reserved), (12, .pointer (some ⟨b19, 2, none⟩))] (by kernel_rfl) ?_
  refine WL.boxStore 2 [.int .i64 a_0.Reserved] [.string (bs a_0.Name), .int .i64 a_0.OnHand, .int .i64 a_0.Reserved, .int .i64 0] (SH.front 0 hS36) hL38 rfl rfl rfl rfl rfl rfl rfl (info2).1 (info2).2.1 rfl rfl rfl ?_
  intro w40 hB41 hS42
  have hb43 : Ext w w40 := Below.trans hb37 hB41
  have hL44 : w.heap.size ≤ w40.heap.size := Nat.le_trans hL38 hB41.size
  refine WL.sub [(1, .pointer (some ⟨b2, 0, none⟩)), (2, .pointer (some ⟨b10, 0, none⟩)), (3, .pointer (some ⟨b19, 0, none⟩))] ⟨rfl, rfl, rfl, trivial⟩ ?_
  refine WL.nil ?_
  refine WQ.then_normal (hK39 _ _ _ ?_)
  refine WP.seq (fun K45 hK45 => ?_)
  refine WP.region ?_
  refine WL.runk 1 [2, 3, 13] [(2, .pointer (some ⟨b10, 0, none⟩)), (3, .pointer (some ⟨b19, 0, none⟩)), (13, .pointer (some ⟨b2, 3, none⟩))] (by kernel_rfl) ?_
  refine WL.st (.int .i64 a_0.Least) (ST.load (cell_ext (SH.boxAt (SH.front 2 hS42) 3 _ rfl)) rfl rfl Try.underlying2 rfl) rfl rfl rfl ?_
  refine WL.runk 1 [2, 3, 14, 15] [(2, .pointer (some ⟨b10, 0, none⟩)), (3, .pointer (some ⟨b19, 0, none⟩)), (14, .int .i64 a_0.Least), (15, .pointer (some ⟨b19, 3, none⟩))] (by kernel_rfl) ?_
  refine WL.boxStore 3 [.int .i64 a_0.Least] [.string (bs a_0.Name), .int .i64 a_0.OnHand, .int .i64 a_0.Reserved, .int .i64 a_0.Least] (SH.front 0 hS42) hL44 rfl rfl rfl rfl rfl rfl rfl (info2).1 (info2).2.1 rfl rfl rfl ?_
  intro w46 hB47 hS48
  have hb49 : Ext w w46 := Below.trans hb43 hB47
  have hL50 : w.heap.size ≤ w46.heap.size := Nat.le_trans hL44 hB47.size
  refine WL.sub [(2, .pointer (some ⟨b10, 0, none⟩)), (3, .pointer (some ⟨b19, 0, none⟩))] ⟨rfl, rfl, trivial⟩ ?_
  refine WL.nil ?_
  refine WQ.then_normal (hK45 _ _ _ ?_)
  refine WP.seq (fun K51 hK51 => ?_)
  refine WP.region ?_
  refine WL.st (.agg #[.string (bs a_0.Name), .int .i64 a_0.OnHand, .int .i64 a_0.Reserved, .int .i64 a_0.Least]) (ST.loadAgg (vs := [.string (bs a_0.Name), .int .i64 a_0.OnHand, .int .i64 a_0.Reserved, .int .i64 a_0.Least]) (fun j v hv => SH.boxPart (us := [.string (bs a_0.Name), .int .i64 a_0.OnHand, .int .i64 a_0.Reserved, .int .i64 a_0.Least]) (SH.front 0 hS48) 0 rfl j v hv) rfl rfl rfl Try.underlying56 rfl (info56).1 (info56).2.1) rfl rfl rfl ?_
  refine WL.boxStore 0 [.string (bs a_0.Name), .int .i64 a_0.OnHand, .int .i64 a_0.Reserved, .int .i64 a_0.Least] [.string (bs a_0.Name), .int .i64 a_0.OnHand, .int .i64 a_0.Reserved, .int .i64 a_0.Least] (SH.front 1 hS48) hL50 rfl rfl rfl rfl rfl rfl rfl (info56).1 (info56).2.1 rfl rfl rfl ?_
  intro w52 hB53 hS54
  have hb55 : Ext w w52 := Below.trans hb49 hB53
  have hL56 : w.heap.size ≤ w52.heap.size := Nat.le_trans hL50 hB53.size
  refine WL.sub [(2, .pointer (some ⟨b10, 0, none⟩))] ⟨rfl, trivial⟩ ?_
  refine WL.nil ?_
  refine WQ.then_normal (hK51 _ _ _ ?_)
  refine WP.ret ?_
  obtain rfl := Option.some.inj hm
  exact WQ.retv1 _ rfl (RVal.box (SH.front 0 hS54) rfl Try.underlying56 rfl (info56).1 (info56).2.1) ⟨rfl, hb55⟩

theorem c_15 (n : Nat) (a_0 : List SGood) (a0' : Option Addr) (c0' : Nat) (w : World) {r : List SGood} (hm : m_laws_toGoodS n a_0 = some r) (h0 : Rd fGood.ty w a0' a_0) (_hle0 : a_0.length ≤ c0') :
    CallV Try.prog 15 #[.slice a0' a_0.length c0'] w (fun v w' => ∃ (ra0 : Option Addr) (rc0 : Nat), v = .slice ra0 r.length rc0 ∧ Ext w w' ∧ SH w' w.heap.size [aOwn fGood 56 ra0 rc0 r]) := by
  unfold m_laws_toGoodS at hm
  refine CallV.enter Try.func15 rfl (by kernel_rfl) Try.ntmps15 (env := [(0, .slice a0' a_0.length c0')]) ⟨rfl, trivial⟩ ?_
  refine WP.seq (fun K1 hK1 => ?_)
  refine WP.region ?_
  refine WL.runk 1 [0] [(0, .slice a0' a_0.length c0')] (by kernel_rfl) ?_
  refine WL.nil ?_
  refine WQ.then_normal (hK1 _ _ _ ?_)
  refine WP.seq (fun K2 hK2 => ?_)
  refine WP.region ?_
  refine WL.runk 2 [0, 6] [(0, .slice a0' a_0.length c0'), (6, .int .i64 (a_0.length : Int))] (by kernel_rfl) ?_
  obtain ⟨x3, hx4, hm⟩ := bindE hm
  refine WL.make fGood 7 hx4 rfl rfl rfl Try.underlying25 (info56).1 (info56).2.2.1 (info56).2.1 (info56).2.2.2 rfl rfl rfl rfl rfl ?_
  intro a5 c6 w7 hE8 hR9
  have hb11 : Ext w w7 := Ext.trans (Ext.refl w) hE8
  have hL12 : w.heap.size ≤ w7.heap.size := Nat.le_trans (Nat.le_refl _) hE8.size
  have hS13 : SH w7 w.heap.size [aOwn fGood 56 a5 c6 x3] := SH.add (SH.nil _ _) hE8 (Nat.le_refl _) hR9
  refine WL.runk 1 [0, 3] [(0, .slice a0' a_0.length c0'), (3, .slice a5 x3.length c6)] (by kernel_rfl) ?_
  refine WL.nil ?_
  refine WQ.then_normal (hK2 _ _ _ ?_)
  refine WP.seq (fun K14 hK14 => ?_)
  refine WP.seq (fun K15 hK15 => ?_)
  refine WP.region ?_
  refine WL.runk 1 [0, 3, 4] [(0, .slice a0' a_0.length c0'), (3, .slice a5 x3.length c6), (4, .int .i64 0)] (by kernel_rfl) ?_
  refine WL.nil ?_
  refine WQ.then_normal (hK15 _ _ _ ?_)
  refine WP.block ?_
  obtain ⟨t62, ht63, hm⟩ := bindE hm
  have hmo57 := hm; clear hm
  refine WP.sub [(0, .slice a0' a_0.length c0'), (3, .slice a5 x3.length c6), (4, .int .i64 0)] ⟨rfl, rfl, rfl, trivial⟩ ?_
  refine WP.loop (fun n' env' w' => ∃ (st51 : Int × List SGood) , env' = [(0, .slice a0' a_0.length c0'), (3, .slice a5 st51.2.length c6), (4, .int .i64 st51.1)] ∧ Ext w w' ∧ w.heap.size ≤ w'.heap.size ∧ SH w' w.heap.size [aOwn fGood 56 a5 c6 st51.2] ∧ loopN (m_laws_toGoodS_l1 n a_0) n' st51 = some t62) n ⟨(0, x3), rfl, hb11, hL12, hS13, ht63⟩ ?_
  rintro n59 _ w52 ⟨st51, rfl, hb53, hL54, hS55, hl56⟩ K58 hK58
  obtain ⟨n60, s61, rfl, hm, hl56⟩ := loopN_some hl56
  unfold m_laws_toGoodS_l1 at hm
  refine WP.seq (fun K64 hK64 => ?_)
  refine WP.seq (fun K65 hK65 => ?_)
  refine WP.region ?_
  refine WL.runk 4 [0, 3, 4, 11] [(0, .slice a0' a_0.length c0'), (3, .slice a5 st51.2.length c6), (4, .int .i64 st51.1), (11, .bool (decide (st51.1 < (a_0.length : Int))))] (by kernel_rfl) ?_
  refine WL.nil ?_
  refine WQ.then_normal (hK65 _ _ _ ?_)
  refine WP.cond (decide (st51.1 < (a_0.length : Int))) rfl rfl (fun hc66 => ?_) (fun hc66 => ?_)
  rotate_left
  · have hm := iteF hm hc66
    refine WP.exit ?_
    refine WQ.then_exit ?_
    refine WQ.then_exit ?_
    refine WQ.block_here ?_
    obtain rfl := Option.some.inj hm
    obtain rfl := afterN_done hl56
    have hm := hmo57
    refine WQ.then_normal (hK14 _ _ _ ?_)
    refine WP.seq (fun K85 hK85 => ?_)
    refine WP.region ?_
    refine WL.runk 2 [2] [(2, .slice a5 st51.2.length c6)] (by kernel_rfl) ?_
    refine WL.nil ?_
    refine WQ.then_normal (hK85 _ _ _ ?_)
    refine WP.ret ?_
    obtain rfl := Option.some.inj hm
    exact WQ.ret1 _ rfl rfl ⟨_, _, rfl, hb53, hS55⟩
  have hm := iteT hm hc66
  refine WP.skip ?_
  refine WQ.then_normal (hK64 _ _ _ ?_)
  refine WP.seq (fun K67 hK67 => ?_)
  refine WP.block ?_
  refine WP.region ?_
  refine WL.runk 4 [0, 3, 4, 14, 15, 16, 17] [(0, .slice a0' a_0.length c0'), (3, .slice a5 st51.2.length c6), (4, .int .i64 st51.1), (14, .slice a5 st51.2.length c6), (15, .int .i64 st51.1), (16, .slice a0' a_0.length c0'), (17, .int .i64 st51.1)] (by kernel_rfl) ?_
  obtain ⟨x68, hx69, hm⟩ := bindE hm
  refine WL.st (.pointer (some (at_ a0' (Int.toNat st51.1 * 4)))) (ST.index (T := fGood.ty) (xs := a_0) (Rd.below h0 hb53) hx69 rfl rfl rfl Try.underlying22 (info53).1 (info53).2.1) rfl rfl rfl ?_
  refine WL.st (.agg #[.string (bs x68.Name), .int .i64 x68.OnHand, .int .i64 x68.Reserved, .int .i64 x68.Least]) (ST.loadAgg (vs := fGood.leaf x68) (fun j v hv => Rd.flatA (F := fGood) (Rd.below h0 hb53) hx69 j hv) rfl rfl rfl Try.underlying53 rfl (info53).1 (info53).2.1) rfl rfl rfl ?_
  obtain ⟨x70, hx71, hm⟩ := bindE hm
  refine WL.call 41 #[.agg #[.string (bs x68.Name), .int .i64 x68.OnHand, .int .i64 x68.Reserved, .int .i64 x68.Least]] rfl rfl (by kernel_rfl) (c_41 n x68 w52 hx71 ) ?_
  rintro _ w72 ⟨rfl, hE73⟩
  refine ⟨_, rfl, ?_⟩
  have hb75 : Ext w w72 := Ext.trans hb53 hE73
  have hL76 : w.heap.size ≤ w72.heap.size := Nat.le_trans hL54 hE73.size
  have hS77 : SH w72 w.heap.size [aOwn fGood 56 a5 c6 st51.2] := SH.ext hS55 hE73
  obtain ⟨x78, hx79, hm⟩ := bindE hm
  refine WL.st (.pointer (some (at_ a5 (Int.toNat st51.1 * 4)))) (ST.index (T := fGood.ty) (xs := st51.2) (SH.rd (SH.front 0 hS77)) hx79 rfl rfl rfl Try.underlying25 (info56).1 (info56).2.1) rfl rfl rfl ?_
  refine WL.store (F := fGood) x70 0 [.string (bs x70.Name), .int .i64 x70.OnHand, .int .i64 x70.Reserved, .int .i64 x70.Least] (SH.front 0 hS77) hL76 hx79 rfl rfl rfl rfl rfl rfl rfl (info56).1 (info56).2.1 rfl rfl rfl ?_
  intro w80 hB81 hS82
  have hb83 : Ext w w80 := Below.trans hb75 hB81
  have hL84 : w.heap.size ≤ w80.heap.size := Nat.le_trans hL76 hB81.size
  refine WL.sub [(0, .slice a0' a_0.length c0'), (3, .slice a5 ((st51.2.set (Int.toNat st51.1) x70).length) c6), (4, .int .i64 st51.1), (14, .slice a5 ((st51.2.set (Int.toNat st51.1) x70).length) c6), (15, .int .i64 st51.1), (16, .slice a0' a_0.length c0'), (17, .int .i64 st51.1), (18, .pointer (some (at_ a0' (Int.toNat st51.1 * 4)))), (19, .agg #[.string (bs x68.Name), .int .i64 x68.OnHand, .int .i64 x68.Reserved, .int .i64 x68.Least]), (20, .agg #[.string (bs x70.Name), .int .i64 x70.OnHand, .int .i64 x70.Reserved, .int .i64 x70.Least])] ⟨rfl, by first | (simp only [List.length_set]; done) | (simp only [List.length_set]; rfl), rfl, by first | (simp only [List.length_set]; done) | (simp only [List.length_set]; rfl), rfl, rfl, rfl, rfl, rfl, rfl, trivial⟩ ?_
  refine WL.sub [(0, .slice a0' a_0.length c0'), (3, .slice a5 ((st51.2.set (Int.toNat st51.1) x70).length) c6), (4, .int .i64 st51.1)] ⟨rfl, rfl, rfl, trivial⟩ ?_
  refine WL.nil ?_
  refine WQ.block_normal ?_
  refine WQ.then_normal (hK67 _ _ _ ?_)
  refine WP.region ?_
  refine WL.runk 3 [0, 3, 4] [(0, .slice a0' a_0.length c0'), (3, .slice a5 ((st51.2.set (Int.toNat st51.1) x70).length) c6), (4, .int .i64 (wI64 (st51.1 + 1)))] (by kernel_rfl) ?_
  refine WL.nil ?_
  obtain rfl := Option.some.inj hm
  exact WQ.round hK58 ⟨((wI64 (st51.1 + 1)), (st51.2.set (Int.toNat st51.1) x70)), rfl, hb83, hL84, hS82, hl56⟩ (Nat.lt_succ_self _) ⟨rfl, rfl, rfl, trivial⟩

theorem c_50 (n : Nat) (s1_0 : List SGood) (a0' : Option Addr) (c0' : Nat) (s2_1 : List SGood) (a1' : Option Addr) (c1' : Nat) (w : World) {r : Bool} (hm : m_slices_Equal_impl_Good_impl_Good n s1_0 s2_1 = some r) (h0 : Rd fGood.ty w a0' s1_0) (_hle0 : s1_0.length ≤ c0') (h1 : Rd fGood.ty w a1' s2_1) (_hle1 : s2_1.length ≤ c1') :
    CallV Try.prog 50 #[.slice a0' s1_0.length c0', .slice a1' s2_1.length c1'] w (fun v w' => v = .bool r ∧ Ext w w') := by
  unfold m_slices_Equal_impl_Good_impl_Good at hm
  refine CallV.enter Try.func50 rfl (by kernel_rfl) Try.ntmps50 (env := [(0, .slice a0' s1_0.length c0'), (1, .slice a1' s2_1.length c1')]) ⟨rfl, rfl, trivial⟩ ?_
  refine WP.seq (fun K1 hK1 => ?_)
  refine WP.region ?_
  refine WL.runk 1 [0, 1] [(0, .slice a0' s1_0.length c0'), (1, .slice a1' s2_1.length c1')] (by kernel_rfl) ?_
  refine WL.nil ?_
  refine WQ.then_normal (hK1 _ _ _ ?_)
  refine WP.seq (fun K2 hK2 => ?_)
  refine WP.seq (fun K3 hK3 => ?_)
  refine WP.region ?_
  refine WL.runk 5 [0, 1, 10] [(0, .slice a0' s1_0.length c0'), (1, .slice a1' s2_1.length c1'), (10, .bool ((s1_0.length : Int) != (s2_1.length : Int)))] (by kernel_rfl) ?_
  refine WL.nil ?_
  refine WQ.then_normal (hK3 _ _ _ ?_)
  refine WP.cond ((s1_0.length : Int) != (s2_1.length : Int)) rfl rfl (fun hc4 => ?_) (fun hc4 => ?_)
  · have hm := iteT hm hc4
    refine WP.seq (fun K5 hK5 => ?_)
    refine WP.region ?_
    refine WL.runk 1 [4] [(4, .bool false)] (by kernel_rfl) ?_
    refine WL.nil ?_
    refine WQ.then_normal (hK5 _ _ _ ?_)
    refine WP.ret ?_
    refine WQ.then_ret ?_
    obtain rfl := Option.some.inj hm
    exact WQ.ret1 _ rfl rfl ⟨rfl, (Ext.refl w)⟩
  have hm := iteF hm hc4
  refine WP.skip ?_
  refine WQ.then_normal (hK2 _ _ _ ?_)
  refine WP.seq (fun K6 hK6 => ?_)
  refine WP.seq (fun K7 hK7 => ?_)
  refine WP.region ?_
  refine WL.runk 3 [0, 1, 12, 13] [(0, .slice a0' s1_0.length c0'), (1, .slice a1' s2_1.length c1'), (12, .int .i64 (s1_0.length : Int)), (13, .int .i64 0)] (by kernel_rfl) ?_
  refine WL.nil ?_
  refine WQ.then_normal (hK7 _ _ _ ?_)
  refine WP.block ?_
  obtain ⟨t19, ht20, hm⟩ := bindE hm
  have hmo14 := hm; clear hm
  refine WP.sub [(0, .slice a0' s1_0.length c0'), (1, .slice a1' s2_1.length c1'), (12, .int .i64 (s1_0.length : Int)), (13, .int .i64 0)] ⟨rfl, rfl, rfl, rfl, trivial⟩ ?_
  refine WP.loop (fun n' env' w' => ∃ (st8 : Int) , env' = [(0, .slice a0' s1_0.length c0'), (1, .slice a1' s2_1.length c1'), (12, .int .i64 (s1_0.length : Int)), (13, .int .i64 st8)] ∧ Ext w w' ∧ w.heap.size ≤ w'.heap.size ∧ SH w' w.heap.size [] ∧ loopN (m_slices_Equal_impl_Good_impl_Good_l1 n s1_0 s2_1) n' st8 = some t19) n ⟨0, rfl, (Ext.refl w), (Nat.le_refl _), (SH.nil _ _), ht20⟩ ?_
  rintro n16 _ w9 ⟨st8, rfl, hb10, hL11, hS12, hl13⟩ K15 hK15
  obtain ⟨n17, s18, rfl, hm, hl13⟩ := loopN_some hl13
  unfold m_slices_Equal_impl_Good_impl_Good_l1 at hm
  refine WP.seq (fun K21 hK21 => ?_)
  refine WP.region ?_
  refine WL.runk 1 [0, 1, 12, 13, 14] [(0, .slice a0' s1_0.length c0'), (1, .slice a1' s2_1.length c1'), (12, .int .i64 (s1_0.length : Int)), (13, .int .i64 st8), (14, .bool (decide (st8 < (s1_0.length : Int))))] (by kernel_rfl) ?_
  refine WL.nil ?_
  refine WQ.then_normal (hK21 _ _ _ ?_)
  refine WP.seq (fun K22 hK22 => ?_)
  refine WP.cond (decide (st8 < (s1_0.length : Int))) rfl rfl (fun hc23 => ?_) (fun hc23 => ?_)
  rotate_left
  · have hm := iteF hm hc23
    refine WP.exit ?_
    refine WQ.then_exit ?_
    refine WQ.then_exit ?_
    refine WQ.block_here ?_
    obtain rfl := Option.some.inj hm
    obtain rfl := afterN_done hl13
    have hm := hmo14
    refine WQ.then_normal (hK6 _ _ _ ?_)
    refine WP.seq (fun K38 hK38 => ?_)
    refine WP.region ?_
    refine WL.runk 1 [4] [(4, .bool true)] (by kernel_rfl) ?_
    refine WL.nil ?_
    refine WQ.then_normal (hK38 _ _ _ ?_)
    refine WP.ret ?_
    obtain rfl := Option.some.inj hm
    exact WQ.ret1 _ rfl rfl ⟨rfl, hb10⟩
  have hm := iteT hm hc23
  refine WP.skip ?_
  refine WQ.then_normal (hK22 _ _ _ ?_)
  refine WP.seq (fun K24 hK24 => ?_)
  refine WP.block ?_
  refine WP.seq (fun K25 hK25 => ?_)
  refine WP.region ?_
  refine WL.runk 2 [0, 1, 5, 12, 13] [(0, .slice a0' s1_0.length c0'), (1, .slice a1' s2_1.length c1'), (12, .int .i64 (s1_0.length : Int)), (13, .int .i64 st8), (5, .int .i64 st8)] (by kernel_rfl) ?_
  refine WL.nil ?_
  refine WQ.then_normal (hK25 _ _ _ ?_)
  refine WP.seq (fun K26 hK26 => ?_)
  refine WP.quiet (by kernel_rfl) (by kernel_rfl) ?_
  refine QL.step1v 16 (.slice a0' s1_0.length c0') rfl (fun _ => by kernel_rfl) ?_
  refine QL.step1v 17 (.int .i64 st8) rfl (fun _ => by kernel_rfl) ?_
  refine QL.subk [0, 1, 12, 13, 5, 16, 17] [(0, .slice a0' s1_0.length c0'), (1, .slice a1' s2_1.length c1'), (12, .int .i64 (s1_0.length : Int)), (13, .int .i64 st8), (5, .int .i64 st8), (16, .slice a0' s1_0.length c0'), (17, .int .i64 st8)] (by kernel_rfl) ?_
  obtain ⟨x27, hx28, hm⟩ := bindE hm
  refine QL.st (.pointer (some (at_ a0' (Int.toNat st8 * 4)))) (ST.index (T := fGood.ty) (xs := s1_0) (Rd.below h0 hb10) hx28 rfl rfl rfl Try.underlying25 (info56).1 (info56).2.1) rfl rfl rfl ?_
  refine QL.st (.agg #[.string (bs x27.Name), .int .i64 x27.OnHand, .int .i64 x27.Reserved, .int .i64 x27.Least]) (ST.loadAgg (vs := fGood.leaf x27) (fun j v hv => Rd.flatA (F := fGood) (Rd.below h0 hb10) hx28 j hv) rfl rfl rfl Try.underlying56 rfl (info56).1 (info56).2.1) rfl rfl rfl ?_
  refine QL.step1v 20 (.slice a1' s2_1.length c1') rfl (fun _ => by kernel_rfl) ?_
  refine QL.step1v 21 (.int .i64 st8) rfl (fun _ => by kernel_rfl) ?_
  refine QL.subk [0, 1, 12, 13, 19, 20, 21] [(0, .slice a0' s1_0.length c0'), (1, .slice a1' s2_1.length c1'), (12, .int .i64 (s1_0.length : Int)), (13, .int .i64 st8), (19, .agg #[.string (bs x27.Name), .int .i64 x27.OnHand, .int .i64 x27.Reserved, .int .i64 x27.Least]), (20, .slice a1' s2_1.length c1'), (21, .int .i64 st8)] (by kernel_rfl) ?_
  obtain ⟨x29, hx30, hm⟩ := bindE hm
  refine QL.st (.pointer (some (at_ a1' (Int.toNat st8 * 4)))) (ST.index (T := fGood.ty) (xs := s2_1) (Rd.below h1 hb10) hx30 rfl rfl rfl Try.underlying25 (info56).1 (info56).2.1) rfl rfl rfl ?_
  refine QL.st (.agg #[.string (bs x29.Name), .int .i64 x29.OnHand, .int .i64 x29.Reserved, .int .i64 x29.Least]) (ST.loadAgg (vs := fGood.leaf x29) (fun j v hv => Rd.flatA (F := fGood) (Rd.below h1 hb10) hx30 j hv) rfl rfl rfl Try.underlying56 rfl (info56).1 (info56).2.1) rfl rfl rfl ?_
  refine QL.st (.bool (!(decide (x27 = x29)))) (ST.aggne (F := fGood) (x := x27) (y := x29) (eqs_56 x27 x29) (by kernel_rfl) rfl rfl rfl) rfl rfl rfl ?_
  refine QL.subk [0, 1, 12, 13, 24] [(0, .slice a0' s1_0.length c0'), (1, .slice a1' s2_1.length c1'), (12, .int .i64 (s1_0.length : Int)), (13, .int .i64 st8), (24, .bool (!(decide (x27 = x29))))] (by kernel_rfl) ?_
  refine QL.nil ?_
  intro w31 hE32
  have hb33 : Ext w w31 := Ext.trans hb10 hE32
  have hL34 : w.heap.size ≤ w31.heap.size := Nat.le_trans hL11 hE32.size
  have hS35 : SH w31 w.heap.size [] := SH.ext hS12 hE32
  refine WQ.then_normal (hK26 _ _ _ ?_)
  refine WP.cond (!(decide (x27 = x29))) rfl rfl (fun hc36 => ?_) (fun hc36 => ?_)
  rotate_left
  · have hm := iteF hm hc36
    refine WP.skip ?_
    refine WQ.block_normal ?_
    refine WQ.then_normal (hK24 _ _ _ ?_)
    refine WP.region ?_
    refine WL.runk 2 [0, 1, 12, 13] [(0, .slice a0' s1_0.length c0'), (1, .slice a1' s2_1.length c1'), (12, .int .i64 (s1_0.length : Int)), (13, .int .i64 (wI64 (st8 + 1)))] (by kernel_rfl) ?_
    refine WL.nil ?_
    obtain rfl := Option.some.inj hm
    exact WQ.round hK15 ⟨(wI64 (st8 + 1)), rfl, hb33, hL34, hS35, hl13⟩ (Nat.lt_succ_self _) ⟨rfl, rfl, rfl, rfl, trivial⟩
  have hm := iteT hm hc36
  refine WP.seq (fun K37 hK37 => ?_)
  refine WP.region ?_
  refine WL.runk 1 [4] [(4, .bool false)] (by kernel_rfl) ?_
  refine WL.nil ?_
  refine WQ.then_normal (hK37 _ _ _ ?_)
  refine WP.ret ?_
  refine WQ.block_ret ?_
  refine WQ.then_ret ?_
  refine WQ.then_ret ?_
  refine WQ.block_ret ?_
  refine WQ.then_ret ?_
  obtain rfl := Option.some.inj hm
  obtain rfl := afterN_done hl13
  have hm := hmo14
  obtain rfl := Option.some.inj hm
  exact WQ.ret1 _ rfl rfl ⟨rfl, hb33⟩

theorem c_16 (n : Nat) (a_0 : List SGood) (a0' : Option Addr) (c0' : Nat) (b_1 : List SGood) (a1' : Option Addr) (c1' : Nat) (w : World) {r : Bool} (hm : m_impl_SameGoods n a_0 b_1 = some r) (h0 : Rd fGood.ty w a0' a_0) (hle0 : a_0.length ≤ c0') (h1 : Rd fGood.ty w a1' b_1) (hle1 : b_1.length ≤ c1') :
    CallV Try.prog 16 #[.slice a0' a_0.length c0', .slice a1' b_1.length c1'] w (fun v w' => v = .bool r ∧ Ext w w') := by
  unfold m_impl_SameGoods at hm
  refine CallV.enter Try.func16 rfl (by kernel_rfl) Try.ntmps16 (env := [(0, .slice a0' a_0.length c0'), (1, .slice a1' b_1.length c1')]) ⟨rfl, rfl, trivial⟩ ?_
  refine WP.seq (fun K1 hK1 => ?_)
  refine WP.region ?_
  refine WL.runk 1 [0, 1] [(0, .slice a0' a_0.length c0'), (1, .slice a1' b_1.length c1')] (by kernel_rfl) ?_
  refine WL.nil ?_
  refine WQ.then_normal (hK1 _ _ _ ?_)
  refine WP.seq (fun K2 hK2 => ?_)
  refine WP.region ?_
  refine WL.runk 2 [5, 6] [(5, .slice a0' a_0.length c0'), (6, .slice a1' b_1.length c1')] (by kernel_rfl) ?_
  obtain ⟨x3, hx4, hm⟩ := bindE hm
  refine WL.call 50 #[.slice a0' a_0.length c0', .slice a1' b_1.length c1'] rfl rfl (by kernel_rfl) (c_50 n a_0 a0' c0' b_1 a1' c1' w hx4 (Rd.below h0 (Ext.refl w)) hle0 (Rd.below h1 (Ext.refl w)) hle1) ?_
  rintro _ w5 ⟨rfl, hE6⟩
  refine ⟨_, rfl, ?_⟩
  have hb8 : Ext w w5 := Ext.trans (Ext.refl w) hE6
  have hL9 : w.heap.size ≤ w5.heap.size := Nat.le_trans (Nat.le_refl _) hE6.size
  have hS10 : SH w5 w.heap.size [] := SH.ext (SH.nil _ _) hE6
  refine WL.runk 1 [4] [(4, .bool x3)] (by kernel_rfl) ?_
  refine WL.nil ?_
  refine WQ.then_normal (hK2 _ _ _ ?_)
  refine WP.ret ?_
  obtain rfl := Option.some.inj hm
  exact WQ.ret1 _ rfl rfl ⟨rfl, hb8⟩

theorem c_51 (n : Nat) (a_0 : SGood) (b_1 : SGood) (w : World) {r : Bool} (hm : m_laws_eqGood n a_0 b_1 = some r)  :
    CallV Try.prog 51 #[.agg #[.string (bs a_0.Name), .int .i64 a_0.OnHand, .int .i64 a_0.Reserved, .int .i64 a_0.Least], .agg #[.string (bs b_1.Name), .int .i64 b_1.OnHand, .int .i64 b_1.Reserved, .int .i64 b_1.Least]] w (fun v w' => v = .bool r ∧ Ext w w') := by
  unfold m_laws_eqGood at hm
  refine CallV.enter Try.func51 rfl (by kernel_rfl) Try.ntmps51 (env := [(0, .agg #[.string (bs a_0.Name), .int .i64 a_0.OnHand, .int .i64 a_0.Reserved, .int .i64 a_0.Least]), (1, .agg #[.string (bs b_1.Name), .int .i64 b_1.OnHand, .int .i64 b_1.Reserved, .int .i64 b_1.Least])]) ⟨rfl, rfl, trivial⟩ ?_
  refine WP.seq (fun K1 hK1 => ?_)
  refine WP.region ?_
  refine WL.box 56 [.string (bs a_0.Name), .int .i64 a_0.OnHand, .int .i64 a_0.Reserved, .int .i64 a_0.Least] 2 (by kernel_rfl) rfl rfl rfl rfl ?_
  intro b2 w3 hE4 hR5
  have hb7 : Ext w w3 := Ext.trans (Ext.refl w) hE4
  have hL8 : w.heap.size ≤ w3.heap.size := Nat.le_trans (Nat.le_refl _) hE4.size
  have hS9 : SH w3 w.heap.size [aBox 56 b2 [.string (bs a_0.Name), .int .i64 a_0.OnHand, .int .i64 a_0.Reserved, .int .i64 a_0.Least]] := SH.add (SH.nil _ _) hE4 (Nat.le_refl _) hR5
  refine WL.box 56 [.string (bs b_1.Name), .int .i64 b_1.OnHand, .int .i64 b_1.Reserved, .int .i64 b_1.Least] 3 (by kernel_rfl) rfl rfl rfl rfl ?_
  intro b10 w11 hE12 hR13
  have hb15 : Ext w w11 := Ext.trans hb7 hE12
  have hL16 : w.heap.size ≤ w11.heap.size := Nat.le_trans hL8 hE12.size
  have hS17 : SH w11 w.heap.size [aBox 56 b10 [.string (bs b_1.Name), .int .i64 b_1.OnHand, .int .i64 b_1.Reserved, .int .i64 b_1.Least], aBox 56 b2 [.string (bs a_0.Name), .int .i64 a_0.OnHand, .int .i64 a_0.Reserved, .int .i64 a_0.Least]] := SH.add hS9 hE12 hL8 hR13
  refine WL.runk 1 [2, 3] [(2, .pointer (some ⟨b2, 0, none⟩)), (3, .pointer (some ⟨b10, 0, none⟩))] (by kernel_rfl) ?_
  refine WL.nil ?_
  refine WQ.then_normal (hK1 _ _ _ ?_)
  refine WP.seq (fun K18 hK18 => ?_)
  refine WP.seq (fun K19 hK19 => ?_)
  refine WP.region ?_
  refine WL.runk 1 [2, 3, 5] [(2, .pointer (some ⟨b2, 0, none⟩)), (3, .pointer (some ⟨b10, 0, none⟩)), (5, .pointer (some ⟨b2, 0, none⟩))] (by kernel_rfl) ?_
  refine WL.st (.string (bs a_0.Name)) (ST.load (cell_ext (SH.boxAt (SH.front 1 hS17) 0 _ rfl)) rfl rfl Try.underlying9 rfl) rfl rfl rfl ?_
  refine WL.runk 1 [2, 3, 6, 7] [(2, .pointer (some ⟨b2, 0, none⟩)), (3, .pointer (some ⟨b10, 0, none⟩)), (6, .string (bs a_0.Name)), (7, .pointer (some ⟨b10, 0, none⟩))] (by kernel_rfl) ?_
  refine WL.st (.string (bs b_1.Name)) (ST.load (cell_ext (SH.boxAt (SH.front 0 hS17) 0 _ rfl)) rfl rfl Try.underlying9 rfl) rfl rfl rfl ?_
  refine WL.st (.bool (!(a_0.Name == b_1.Name))) (ST.strne (x := a_0.Name) (y := b_1.Name) rfl rfl rfl) rfl rfl rfl ?_
  refine WL.sub [(2, .pointer (some ⟨b2, 0, none⟩)), (3, .pointer (some ⟨b10, 0, none⟩)), (9, .bool (!(a_0.Name == b_1.Name)))] ⟨rfl, rfl, rfl, trivial⟩ ?_
  refine WL.nil ?_
  refine WQ.then_normal (hK19 _ _ _ ?_)
  refine WP.cond (!(a_0.Name == b_1.Name)) rfl rfl (fun hc20 => ?_) (fun hc20 => ?_)
  · have hm := iteT hm hc20
    refine WP.seq (fun K21 hK21 => ?_)
    refine WP.region ?_
    refine WL.runk 1 [4] [(4, .bool false)] (by kernel_rfl) ?_
    refine WL.nil ?_
    refine WQ.then_normal (hK21 _ _ _ ?_)
    refine WP.ret ?_
    refine WQ.then_ret ?_
    obtain rfl := Option.some.inj hm
    exact WQ.ret1 _ rfl rfl ⟨rfl, hb15⟩
  have hm := iteF hm hc20
  refine WP.skip ?_
  refine WQ.then_normal (hK18 _ _ _ ?_)
  refine WP.seq (fun K22 hK22 => ?_)
  refine WP.seq (fun K23 hK23 => ?_)
  refine WP.region ?_
  refine WL.runk 1 [2, 3, 10] [(2, .pointer (some ⟨b2, 0, none⟩)), (3, .pointer (some ⟨b10, 0, none⟩)), (10, .pointer (some ⟨b2, 1, none⟩))] (by kernel_rfl) ?_
  refine WL.st (.int .i64 a_0.OnHand) (ST.load (cell_ext (SH.boxAt (SH.front 1 hS17) 1 _ rfl)) rfl rfl Try.underlying2 rfl) rfl rfl rfl ?_
  refine WL.runk 1 [2, 3, 11, 12] [(2, .pointer (some ⟨b2, 0, none⟩)), (3, .pointer (some ⟨b10, 0, none⟩)), (11, .int .i64 a_0.OnHand), (12, .pointer (some ⟨b10, 1, none⟩))] (by kernel_rfl) ?_
  refine WL.st (.int .i64 b_1.OnHand) (ST.load (cell_ext (SH.boxAt (SH.front 0 hS17) 1 _ rfl)) rfl rfl Try.underlying2 rfl) rfl rfl rfl ?_
  refine WL.runk 1 [2, 3, 14] [(2, .pointer (some ⟨b2, 0, none⟩)), (3, .pointer (some ⟨b10, 0, none⟩)), (14, .bool (a_0.OnHand != b_1.OnHand))] (by kernel_rfl) ?_
  refine WL.nil ?_
  refine WQ.then_normal (hK23 _ _ _ ?_)
  refine WP.cond (a_0.OnHand != b_1.OnHand) rfl rfl (fun hc24 => ?_) (fun hc24 => ?_)
  · have hm := iteT hm hc24
    refine WP.seq (fun K25 hK25 => ?_)
    refine WP.region ?_
    refine WL.runk 1 [4] [(4, .bool false)] (by kernel_rfl) ?_
    refine WL.nil ?_
    refine WQ.then_normal (hK25 _ _ _ ?_)
    refine WP.ret ?_
    refine WQ.then_ret ?_
    obtain rfl := Option.some.inj hm
    exact WQ.ret1 _ rfl rfl ⟨rfl, hb15⟩
  have hm := iteF hm hc24
  refine WP.skip ?_
  refine WQ.then_normal (hK22 _ _ _ ?_)
  refine WP.seq (fun K26 hK26 => ?_)
  refine WP.seq (fun K27 hK27 => ?_)
  refine WP.region ?_
  refine WL.runk 1 [2, 3, 15] [(2, .pointer (some ⟨b2, 0, none⟩)), (3, .pointer (some ⟨b10, 0, none⟩)), (15, .pointer (some ⟨b2, 2, none⟩))] (by kernel_rfl) ?_
  refine WL.st (.int .i64 a_0.Reserved) (ST.load (cell_ext (SH.boxAt (SH.front 1 hS17) 2 _ rfl)) rfl rfl Try.underlying2 rfl) rfl rfl rfl ?_
  refine WL.runk 1 [2, 3, 16, 17] [(2, .pointer (some ⟨b2, 0, none⟩)), (3, .pointer (some ⟨b10, 0, none⟩)), (16, .int .i64 a_0.Reserved), (17, .pointer (some ⟨b10, 2, none⟩))] (by kernel_rfl) ?_
  refine WL.st (.int .i64 b_1.Reserved) (ST.load (cell_ext (SH.boxAt (SH.front 0 hS17) 2 _ rfl)) rfl rfl Try.underlying2 rfl) rfl rfl rfl ?_
  refine WL.runk 1 [2, 3, 19] [(2, .pointer (some ⟨b2, 0, none⟩)), (3, .pointer (some ⟨b10, 0, none⟩)), (19, .bool (a_0.Reserved != b_1.Reserved))] (by kernel_rfl) ?_
  refine WL.nil ?_
  refine WQ.then_normal (hK27 _ _ _ ?_)
  refine WP.cond (a_0.Reserved != b_1.Reserved) rfl rfl (fun hc28 => ?_) (fun hc28 => ?_)
  · have hm := iteT hm hc28
    refine WP.seq (fun K29 hK29 => ?_)
    refine WP.region ?_
    refine WL.runk 1 [4] [(4, .bool false)] (by kernel_rfl) ?_
    refine WL.nil ?_
    refine WQ.then_normal (hK29 _ _ _ ?_)
    refine WP.ret ?_
    refine WQ.then_ret ?_
    obtain rfl := Option.some.inj hm
    exact WQ.ret1 _ rfl rfl ⟨rfl, hb15⟩
  have hm := iteF hm hc28
  refine WP.skip ?_
  refine WQ.then_normal (hK26 _ _ _ ?_)
  refine WP.seq (fun K30 hK30 => ?_)
  refine WP.seq (fun K31 hK31 => ?_)
  refine WP.region ?_
  refine WL.runk 1 [3, 20] [(3, .pointer (some ⟨b10, 0, none⟩)), (20, .pointer (some ⟨b2, 3, none⟩))] (by kernel_rfl) ?_
  refine WL.st (.int .i64 a_0.Least) (ST.load (cell_ext (SH.boxAt (SH.front 1 hS17) 3 _ rfl)) rfl rfl Try.underlying2 rfl) rfl rfl rfl ?_
  refine WL.runk 1 [21, 22] [(21, .int .i64 a_0.Least), (22, .pointer (some ⟨b10, 3, none⟩))] (by kernel_rfl) ?_
  refine WL.st (.int .i64 b_1.Least) (ST.load (cell_ext (SH.boxAt (SH.front 0 hS17) 3 _ rfl)) rfl rfl Try.underlying2 rfl) rfl rfl rfl ?_
  refine WL.runk 1 [24] [(24, .bool (a_0.Least != b_1.Least))] (by kernel_rfl) ?_
  refine WL.nil ?_
  refine WQ.then_normal (hK31 _ _ _ ?_)
  refine WP.cond (a_0.Least != b_1.Least) rfl rfl (fun hc32 => ?_) (fun hc32 => ?_)
  · have hm := iteT hm hc32
    refine WP.seq (fun K33 hK33 => ?_)
    refine WP.region ?_
    refine WL.runk 1 [4] [(4, .bool false)] (by kernel_rfl) ?_
    refine WL.nil ?_
    refine WQ.then_normal (hK33 _ _ _ ?_)
    refine WP.ret ?_
    refine WQ.then_ret ?_
    obtain rfl := Option.some.inj hm
    exact WQ.ret1 _ rfl rfl ⟨rfl, hb15⟩
  have hm := iteF hm hc32
  refine WP.skip ?_
  refine WQ.then_normal (hK30 _ _ _ ?_)
  refine WP.seq (fun K34 hK34 => ?_)
  refine WP.region ?_
  refine WL.runk 1 [4] [(4, .bool true)] (by kernel_rfl) ?_
  refine WL.nil ?_
  refine WQ.then_normal (hK34 _ _ _ ?_)
  refine WP.ret ?_
  obtain rfl := Option.some.inj hm
  exact WQ.ret1 _ rfl rfl ⟨rfl, hb15⟩

theorem c_17 (n : Nat) (a_0 : List SGood) (a0' : Option Addr) (c0' : Nat) (b_1 : List SGood) (a1' : Option Addr) (c1' : Nat) (w : World) {r : Bool} (hm : m_laws_eqGoodS n a_0 b_1 = some r) (h0 : Rd fGood.ty w a0' a_0) (_hle0 : a_0.length ≤ c0') (h1 : Rd fGood.ty w a1' b_1) (_hle1 : b_1.length ≤ c1') :
    CallV Try.prog 17 #[.slice a0' a_0.length c0', .slice a1' b_1.length c1'] w (fun v w' => v = .bool r ∧ Ext w w') := by
  unfold m_laws_eqGoodS at hm
  refine CallV.enter Try.func17 rfl (by kernel_rfl) Try.ntmps17 (env := [(0, .slice a0' a_0.length c0'), (1, .slice a1' b_1.length c1')]) ⟨rfl, rfl, trivial⟩ ?_
  refine WP.seq (fun K1 hK1 => ?_)
  refine WP.region ?_
  refine WL.runk 1 [0, 1] [(0, .slice a0' a_0.length c0'), (1, .slice a1' b_1.length c1')] (by kernel_rfl) ?_
  refine WL.nil ?_
  refine WQ.then_normal (hK1 _ _ _ ?_)
  refine WP.seq (fun K2 hK2 => ?_)
  refine WP.seq (fun K3 hK3 => ?_)
  refine WP.region ?_
  refine WL.runk 5 [0, 1, 10] [(0, .slice a0' a_0.length c0'), (1, .slice a1' b_1.length c1'), (10, .bool ((a_0.length : Int) != (b_1.length : Int)))] (by kernel_rfl) ?_
  refine WL.nil ?_
  refine WQ.then_normal (hK3 _ _ _ ?_)
  refine WP.cond ((a_0.length : Int) != (b_1.length : Int)) rfl rfl (fun hc4 => ?_) (fun hc4 => ?_)
  · have hm := iteT hm hc4
    refine WP.seq (fun K5 hK5 => ?_)
    refine WP.region ?_
    refine WL.runk 1 [4] [(4, .bool false)] (by kernel_rfl) ?_
    refine WL.nil ?_
    refine WQ.then_normal (hK5 _ _ _ ?_)
    refine WP.ret ?_
    refine WQ.then_ret ?_
    obtain rfl := Option.some.inj hm
    exact WQ.ret1 _ rfl rfl ⟨rfl, (Ext.refl w)⟩
  have hm := iteF hm hc4
  refine WP.skip ?_
  refine WQ.then_normal (hK2 _ _ _ ?_)
  refine WP.seq (fun K6 hK6 => ?_)
  refine WP.seq (fun K7 hK7 => ?_)
  refine WP.region ?_
  refine WL.runk 1 [0, 1, 5] [(0, .slice a0' a_0.length c0'), (1, .slice a1' b_1.length c1'), (5, .int .i64 0)] (by kernel_rfl) ?_
  refine WL.nil ?_
  refine WQ.then_normal (hK7 _ _ _ ?_)
  refine WP.block ?_
  obtain ⟨t19, ht20, hm⟩ := bindE hm
  have hmo14 := hm; clear hm
  refine WP.sub [(0, .slice a0' a_0.length c0'), (1, .slice a1' b_1.length c1'), (5, .int .i64 0)] ⟨rfl, rfl, rfl, trivial⟩ ?_
  refine WP.loop (fun n' env' w' => ∃ (st8 : Int) , env' = [(0, .slice a0' a_0.length c0'), (1, .slice a1' b_1.length c1'), (5, .int .i64 st8)] ∧ Ext w w' ∧ w.heap.size ≤ w'.heap.size ∧ SH w' w.heap.size [] ∧ loopN (m_laws_eqGoodS_l1 n a_0 b_1) n' st8 = some t19) n ⟨0, rfl, (Ext.refl w), (Nat.le_refl _), (SH.nil _ _), ht20⟩ ?_
  rintro n16 _ w9 ⟨st8, rfl, hb10, hL11, hS12, hl13⟩ K15 hK15
  obtain ⟨n17, s18, rfl, hm, hl13⟩ := loopN_some hl13
  unfold m_laws_eqGoodS_l1 at hm
  refine WP.seq (fun K21 hK21 => ?_)
  refine WP.seq (fun K22 hK22 => ?_)
  refine WP.region ?_
  refine WL.runk 4 [0, 1, 5, 14] [(0, .slice a0' a_0.length c0'), (1, .slice a1' b_1.length c1'), (5, .int .i64 st8), (14, .bool (decide (st8 < (a_0.length : Int))))] (by kernel_rfl) ?_
  refine WL.nil ?_
  refine WQ.then_normal (hK22 _ _ _ ?_)
  refine WP.cond (decide (st8 < (a_0.length : Int))) rfl rfl (fun hc23 => ?_) (fun hc23 => ?_)
  rotate_left
  · have hm := iteF hm hc23
    refine WP.exit ?_
    refine WQ.then_exit ?_
    refine WQ.then_exit ?_
    refine WQ.block_here ?_
    obtain rfl := Option.some.inj hm
    obtain rfl := afterN_done hl13
    have hm := hmo14
    refine WQ.then_normal (hK6 _ _ _ ?_)
    refine WP.seq (fun K41 hK41 => ?_)
    refine WP.region ?_
    refine WL.runk 1 [4] [(4, .bool true)] (by kernel_rfl) ?_
    refine WL.nil ?_
    refine WQ.then_normal (hK41 _ _ _ ?_)
    refine WP.ret ?_
    obtain rfl := Option.some.inj hm
    exact WQ.ret1 _ rfl rfl ⟨rfl, hb10⟩
  have hm := iteT hm hc23
  refine WP.skip ?_
  refine WQ.then_normal (hK21 _ _ _ ?_)
  refine WP.seq (fun K24 hK24 => ?_)
  refine WP.block ?_
  refine WP.seq (fun K25 hK25 => ?_)
  refine WP.quiet (by kernel_rfl) (by kernel_rfl) ?_
  refine QL.step1v 17 (.slice a0' a_0.length c0') rfl (fun _ => by kernel_rfl) ?_
  refine QL.step1v 18 (.int .i64 st8) rfl (fun _ => by kernel_rfl) ?_
  refine QL.subk [0, 1, 5, 17, 18] [(0, .slice a0' a_0.length c0'), (1, .slice a1' b_1.length c1'), (5, .int .i64 st8), (17, .slice a0' a_0.length c0'), (18, .int .i64 st8)] (by kernel_rfl) ?_
  obtain ⟨x26, hx27, hm⟩ := bindE hm
  refine QL.st (.pointer (some (at_ a0' (Int.toNat st8 * 4)))) (ST.index (T := fGood.ty) (xs := a_0) (Rd.below h0 hb10) hx27 rfl rfl rfl Try.underlying25 (info56).1 (info56).2.1) rfl rfl rfl ?_
  refine QL.st (.agg #[.string (bs x26.Name), .int .i64 x26.OnHand, .int .i64 x26.Reserved, .int .i64 x26.Least]) (ST.loadAgg (vs := fGood.leaf x26) (fun j v hv => Rd.flatA (F := fGood) (Rd.below h0 hb10) hx27 j hv) rfl rfl rfl Try.underlying56 rfl (info56).1 (info56).2.1) rfl rfl rfl ?_
  refine QL.step1v 21 (.slice a1' b_1.length c1') rfl (fun _ => by kernel_rfl) ?_
  refine QL.step1v 22 (.int .i64 st8) rfl (fun _ => by kernel_rfl) ?_
  refine QL.subk [0, 1, 5, 20, 21, 22] [(0, .slice a0' a_0.length c0'), (1, .slice a1' b_1.length c1'), (5, .int .i64 st8), (20, .agg #[.string (bs x26.Name), .int .i64 x26.OnHand, .int .i64 x26.Reserved, .int .i64 x26.Least]), (21, .slice a1' b_1.length c1'), (22, .int .i64 st8)] (by kernel_rfl) ?_
  obtain ⟨x28, hx29, hm⟩ := bindE hm
  refine QL.st (.pointer (some (at_ a1' (Int.toNat st8 * 4)))) (ST.index (T := fGood.ty) (xs := b_1) (Rd.below h1 hb10) hx29 rfl rfl rfl Try.underlying25 (info56).1 (info56).2.1) rfl rfl rfl ?_
  refine QL.st (.agg #[.string (bs x28.Name), .int .i64 x28.OnHand, .int .i64 x28.Reserved, .int .i64 x28.Least]) (ST.loadAgg (vs := fGood.leaf x28) (fun j v hv => Rd.flatA (F := fGood) (Rd.below h1 hb10) hx29 j hv) rfl rfl rfl Try.underlying56 rfl (info56).1 (info56).2.1) rfl rfl rfl ?_
  obtain ⟨x30, hx31, hm⟩ := bindE hm
  refine QL.call 51 #[.agg #[.string (bs x26.Name), .int .i64 x26.OnHand, .int .i64 x26.Reserved, .int .i64 x26.Least], .agg #[.string (bs x28.Name), .int .i64 x28.OnHand, .int .i64 x28.Reserved, .int .i64 x28.Least]] (.bool x30) (fun _ => by kernel_rfl) (fun w32 hE33 => c_51 n x26 x28 w32 hx31 ) rfl rfl rfl ?_
  refine QL.step1v 26 (.bool (!x30)) rfl (fun _ => by kernel_rfl) ?_
  refine QL.subk [0, 1, 5, 26] [(0, .slice a0' a_0.length c0'), (1, .slice a1' b_1.length c1'), (5, .int .i64 st8), (26, .bool (!x30))] (by kernel_rfl) ?_
  refine QL.nil ?_
  intro w34 hE35
  have hb36 : Ext w w34 := Ext.trans hb10 hE35
  have hL37 : w.heap.size ≤ w34.heap.size := Nat.le_trans hL11 hE35.size
  have hS38 : SH w34 w.heap.size [] := SH.ext hS12 hE35
  refine WQ.then_normal (hK25 _ _ _ ?_)
  refine WP.cond (!x30) rfl rfl (fun hc39 => ?_) (fun hc39 => ?_)
  rotate_left
  · have hm := iteF hm hc39
    refine WP.skip ?_
    refine WQ.block_normal ?_
    refine WQ.then_normal (hK24 _ _ _ ?_)
    refine WP.region ?_
    refine WL.runk 3 [0, 1, 5] [(0, .slice a0' a_0.length c0'), (1, .slice a1' b_1.length c1'), (5, .int .i64 (wI64 (st8 + 1)))] (by kernel_rfl) ?_
    refine WL.nil ?_
    obtain rfl := Option.some.inj hm
    exact WQ.round hK15 ⟨(wI64 (st8 + 1)), rfl, hb36, hL37, hS38, hl13⟩ (Nat.lt_succ_self _) ⟨rfl, rfl, rfl, trivial⟩
  have hm := iteT hm hc39
  refine WP.seq (fun K40 hK40 => ?_)
  refine WP.region ?_
  refine WL.runk 1 [4] [(4, .bool false)] (by kernel_rfl) ?_
  refine WL.nil ?_
  refine WQ.then_normal (hK40 _ _ _ ?_)
  refine WP.ret ?_
  refine WQ.block_ret ?_
  refine WQ.then_ret ?_
  refine WQ.then_ret ?_
  refine WQ.block_ret ?_
  refine WQ.then_ret ?_
  obtain rfl := Option.some.inj hm
  obtain rfl := afterN_done hl13
  have hm := hmo14
  obtain rfl := Option.some.inj hm
  exact WQ.ret1 _ rfl rfl ⟨rfl, hb36⟩

theorem c_3 (n : Nat) (aA_0 : List SGood) (a0' : Option Addr) (c0' : Nat) (aB_1 : List SGood) (a1' : Option Addr) (c1' : Nat) (w : World) {r : Bool} (hm : m_laws_FnExactSameGoods n aA_0 aB_1 = some r) (h0 : Rd fGood.ty w a0' aA_0) (hle0 : aA_0.length ≤ c0') (h1 : Rd fGood.ty w a1' aB_1) (hle1 : aB_1.length ≤ c1') :
    CallV Try.prog 3 #[.slice a0' aA_0.length c0', .slice a1' aB_1.length c1'] w (fun v w' => v = .bool r ∧ Ext w w') := by
  unfold m_laws_FnExactSameGoods at hm
  refine CallV.enter Try.func3 rfl (by kernel_rfl) Try.ntmps3 (env := [(0, .slice a0' aA_0.length c0'), (1, .slice a1' aB_1.length c1')]) ⟨rfl, rfl, trivial⟩ ?_
  refine WP.seq (fun K1 hK1 => ?_)
  refine WP.region ?_
  refine WL.runk 1 [0, 1] [(0, .slice a0' aA_0.length c0'), (1, .slice a1' aB_1.length c1')] (by kernel_rfl) ?_
  refine WL.nil ?_
  refine WQ.then_normal (hK1 _ _ _ ?_)
  refine WP.seq (fun K2 hK2 => ?_)
  refine WP.region ?_
  refine WL.runk 1 [0, 1, 5] [(0, .slice a0' aA_0.length c0'), (1, .slice a1' aB_1.length c1'), (5, .int .i64 1048576)] (by kernel_rfl) ?_
  refine WL.nil ?_
  refine WQ.then_normal (hK2 _ _ _ ?_)
  refine WP.seq (fun K3 hK3 => ?_)
  refine WP.region ?_
  refine WL.runk 2 [0, 1, 10, 11] [(0, .slice a0' aA_0.length c0'), (1, .slice a1' aB_1.length c1'), (10, .slice a0' aA_0.length c0'), (11, .int .i64 1048576)] (by kernel_rfl) ?_
  obtain ⟨x4, hx5, hm⟩ := bindE hm
  refine WL.call 13 #[.slice a0' aA_0.length c0', .int .i64 1048576] rfl rfl (by kernel_rfl) (c_13 n aA_0 a0' c0' 1048576 w hx5 (Rd.below h0 (Ext.refl w)) hle0) ?_
  rintro _ w6 ⟨rfl, hE7⟩
  refine ⟨_, rfl, ?_⟩
  have hb9 : Ext w w6 := Ext.trans (Ext.refl w) hE7
  have hL10 : w.heap.size ≤ w6.heap.size := Nat.le_trans (Nat.le_refl _) hE7.size
  have hS11 : SH w6 w.heap.size [] := SH.ext (SH.nil _ _) hE7
  refine WL.runk 1 [0, 1, 5] [(0, .slice a0' aA_0.length c0'), (1, .slice a1' aB_1.length c1'), (5, .int .i64 x4)] (by kernel_rfl) ?_
  refine WL.nil ?_
  refine WQ.then_normal (hK3 _ _ _ ?_)
  refine WP.seq (fun K12 hK12 => ?_)
  refine WP.seq (fun K13 hK13 => ?_)
  refine WP.region ?_
  refine WL.runk 2 [0, 1, 5, 14] [(0, .slice a0' aA_0.length c0'), (1, .slice a1' aB_1.length c1'), (5, .int .i64 x4), (14, .bool (decide (x4 < 0)))] (by kernel_rfl) ?_
  refine WL.nil ?_
  refine WQ.then_normal (hK13 _ _ _ ?_)
  refine WP.cond (decide (x4 < 0)) rfl rfl (fun hc14 => ?_) (fun hc14 => ?_)
  · have hm := iteT hm hc14
    refine WP.seq (fun K15 hK15 => ?_)
    refine WP.region ?_
    refine WL.runk 1 [4] [(4, .bool true)] (by kernel_rfl) ?_
    refine WL.nil ?_
    refine WQ.then_normal (hK15 _ _ _ ?_)
    refine WP.ret ?_
    refine WQ.then_ret ?_
    obtain rfl := Option.some.inj hm
    exact WQ.ret1 _ rfl rfl ⟨rfl, hb9⟩
  have hm := iteF hm hc14
  refine WP.skip ?_
  refine WQ.then_normal (hK12 _ _ _ ?_)
  refine WP.seq (fun K16 hK16 => ?_)
  refine WP.region ?_
  refine WL.runk 2 [0, 1, 15, 16] [(0, .slice a0' aA_0.length c0'), (1, .slice a1' aB_1.length c1'), (15, .slice a1' aB_1.length c1'), (16, .int .i64 x4)] (by kernel_rfl) ?_
  obtain ⟨x17, hx18, hm⟩ := bindE hm
  refine WL.call 13 #[.slice a1' aB_1.length c1', .int .i64 x4] rfl rfl (by kernel_rfl) (c_13 n aB_1 a1' c1' x4 w6 hx18 (Rd.below h1 hb9) hle1) ?_
  rintro _ w19 ⟨rfl, hE20⟩
  refine ⟨_, rfl, ?_⟩
  have hb22 : Ext w w19 := Ext.trans hb9 hE20
  have hL23 : w.heap.size ≤ w19.heap.size := Nat.le_trans hL10 hE20.size
  have hS24 : SH w19 w.heap.size [] := SH.ext hS11 hE20
  refine WL.runk 1 [0, 1, 5] [(0, .slice a0' aA_0.length c0'), (1, .slice a1' aB_1.length c1'), (5, .int .i64 x17)] (by kernel_rfl) ?_
  refine WL.nil ?_
  refine WQ.then_normal (hK16 _ _ _ ?_)
  refine WP.seq (fun K25 hK25 => ?_)
  refine WP.seq (fun K26 hK26 => ?_)
  refine WP.region ?_
  refine WL.runk 2 [0, 1, 19] [(0, .slice a0' aA_0.length c0'), (1, .slice a1' aB_1.length c1'), (19, .bool (decide (x17 < 0)))] (by kernel_rfl) ?_
  refine WL.nil ?_
  refine WQ.then_normal (hK26 _ _ _ ?_)
  refine WP.cond (decide (x17 < 0)) rfl rfl (fun hc27 => ?_) (fun hc27 => ?_)
  · have hm := iteT hm hc27
    refine WP.seq (fun K28 hK28 => ?_)
    refine WP.region ?_
    refine WL.runk 1 [4] [(4, .bool true)] (by kernel_rfl) ?_
    refine WL.nil ?_
    refine WQ.then_normal (hK28 _ _ _ ?_)
    refine WP.ret ?_
    refine WQ.then_ret ?_
    obtain rfl := Option.some.inj hm
    exact WQ.ret1 _ rfl rfl ⟨rfl, hb22⟩
  have hm := iteF hm hc27
  refine WP.skip ?_
  refine WQ.then_normal (hK25 _ _ _ ?_)
  refine WP.seq (fun K29 hK29 => ?_)
  refine WP.region ?_
  refine WL.runk 1 [0, 1, 20] [(0, .slice a0' aA_0.length c0'), (1, .slice a1' aB_1.length c1'), (20, .slice a0' aA_0.length c0')] (by kernel_rfl) ?_
  obtain ⟨x30, hx31, hm⟩ := bindE hm
  refine WL.call 15 #[.slice a0' aA_0.length c0'] rfl rfl (by kernel_rfl) (c_15 n aA_0 a0' c0' w19 hx31 (Rd.below h0 hb22) hle0) ?_
  rintro _ w35 ⟨a32, c33, rfl, hE36, hR37⟩
  refine ⟨_, rfl, ?_⟩
  have hb38 : Ext w w35 := Ext.trans hb22 hE36
  have hL39 : w.heap.size ≤ w35.heap.size := Nat.le_trans hL23 hE36.size
  have hS40 : SH w35 w.heap.size [aOwn fGood 56 a32 c33 x30] := SH.add hS24 hE36 hL23 hR37
  refine WL.runk 1 [0, 1, 21, 22] [(0, .slice a0' aA_0.length c0'), (1, .slice a1' aB_1.length c1'), (21, .slice a32 x30.length c33), (22, .slice a1' aB_1.length c1')] (by kernel_rfl) ?_
  obtain ⟨x41, hx42, hm⟩ := bindE hm
  refine WL.call 15 #[.slice a1' aB_1.length c1'] rfl rfl (by kernel_rfl) (c_15 n aB_1 a1' c1' w35 hx42 (Rd.below h1 hb38) hle1) ?_
  rintro _ w46 ⟨a43, c44, rfl, hE47, hR48⟩
  refine ⟨_, rfl, ?_⟩
  have hb49 : Ext w w46 := Ext.trans hb38 hE47
  have hL50 : w.heap.size ≤ w46.heap.size := Nat.le_trans hL39 hE47.size
  have hS51 : SH w46 w.heap.size [aOwn fGood 56 a43 c44 x41, aOwn fGood 56 a32 c33 x30] := SH.add hS40 hE47 hL39 hR48
  obtain ⟨x52, hx53, hm⟩ := bindE hm
  refine WL.call 14 #[.slice a32 x30.length c33, .slice a43 x41.length c44] rfl rfl (by kernel_rfl) (c_14 n x30 a32 c33 x41 a43 c44 w46 hx53 (SH.rd (SH.front 1 hS51)) (SH.le (SH.front 1 hS51)).1 (SH.rd (SH.front 0 hS51)) (SH.le (SH.front 0 hS51)).1) ?_
  rintro _ w54 ⟨rfl, hE55⟩
  refine ⟨_, rfl, ?_⟩
  have hb57 : Ext w w54 := Ext.trans hb49 hE55
  have hL58 : w.heap.size ≤ w54.heap.size := Nat.le_trans hL50 hE55.size
  have hS59 : SH w54 w.heap.size [aOwn fGood 56 a43 c44 x41, aOwn fGood 56 a32 c33 x30] := SH.ext hS51 hE55
  refine WL.runk 1 [0, 1, 6] [(0, .slice a0' aA_0.length c0'), (1, .slice a1' aB_1.length c1'), (6, .bool x52)] (by kernel_rfl) ?_
  refine WL.nil ?_
  refine WQ.then_normal (hK29 _ _ _ ?_)
  refine WP.seq (fun K60 hK60 => ?_)
  refine WP.region ?_
  refine WL.runk 1 [0, 1, 6, 25] [(0, .slice a0' aA_0.length c0'), (1, .slice a1' aB_1.length c1'), (6, .bool x52), (25, .slice a0' aA_0.length c0')] (by kernel_rfl) ?_
  obtain ⟨x61, hx62, hm⟩ := bindE hm
  refine WL.call 15 #[.slice a0' aA_0.length c0'] rfl rfl (by kernel_rfl) (c_15 n aA_0 a0' c0' w54 hx62 (Rd.below h0 hb57) hle0) ?_
  rintro _ w66 ⟨a63, c64, rfl, hE67, hR68⟩
  refine ⟨_, rfl, ?_⟩
  have hb69 : Ext w w66 := Ext.trans hb57 hE67
  have hL70 : w.heap.size ≤ w66.heap.size := Nat.le_trans hL58 hE67.size
  have hS71 : SH w66 w.heap.size [aOwn fGood 56 a63 c64 x61, aOwn fGood 56 a43 c44 x41, aOwn fGood 56 a32 c33 x30] := SH.add hS59 hE67 hL58 hR68
  refine WL.runk 1 [0, 1, 6, 7] [(0, .slice a0' aA_0.length c0'), (1, .slice a1' aB_1.length c1'), (6, .bool x52), (7, .slice a63 x61.length c64)] (by kernel_rfl) ?_
  refine WL.nil ?_
  refine WQ.then_normal (hK60 _ _ _ ?_)
  refine WP.seq (fun K72 hK72 => ?_)
  refine WP.region ?_
  refine WL.runk 1 [0, 1, 6, 7, 27] [(0, .slice a0' aA_0.length c0'), (1, .slice a1' aB_1.length c1'), (6, .bool x52), (7, .slice a63 x61.length c64), (27, .slice a1' aB_1.length c1')] (by kernel_rfl) ?_
  obtain ⟨x73, hx74, hm⟩ := bindE hm
  refine WL.call 15 #[.slice a1' aB_1.length c1'] rfl rfl (by kernel_rfl) (c_15 n aB_1 a1' c1' w66 hx74 (Rd.below h1 hb69) hle1) ?_
  rintro _ w78 ⟨a75, c76, rfl, hE79, hR80⟩
  refine ⟨_, rfl, ?_⟩
  have hb81 : Ext w w78 := Ext.trans hb69 hE79
  have hL82 : w.heap.size ≤ w78.heap.size := Nat.le_trans hL70 hE79.size
  have hS83 : SH w78 w.heap.size [aOwn fGood 56 a75 c76 x73, aOwn fGood 56 a63 c64 x61, aOwn fGood 56 a43 c44 x41, aOwn fGood 56 a32 c33 x30] := SH.add hS71 hE79 hL70 hR80
  refine WL.runk 1 [0, 1, 6, 7, 8] [(0, .slice a0' aA_0.length c0'), (1, .slice a1' aB_1.length c1'), (6, .bool x52), (7, .slice a63 x61.length c64), (8, .slice a75 x73.length c76)] (by kernel_rfl) ?_
  refine WL.nil ?_
  refine WQ.then_normal (hK72 _ _ _ ?_)
  refine WP.seq (fun K84 hK84 => ?_)
  refine WP.region ?_
  refine WL.runk 2 [0, 1, 6, 7, 8, 29, 30] [(0, .slice a0' aA_0.length c0'), (1, .slice a1' aB_1.length c1'), (6, .bool x52), (7, .slice a63 x61.length c64), (8, .slice a75 x73.length c76), (29, .slice a63 x61.length c64), (30, .slice a75 x73.length c76)] (by kernel_rfl) ?_
  obtain ⟨x85, hx86, hm⟩ := bindE hm
  refine WL.call 16 #[.slice a63 x61.length c64, .slice a75 x73.length c76] rfl rfl (by kernel_rfl) (c_16 n x61 a63 c64 x73 a75 c76 w78 hx86 (SH.rd (SH.front 1 hS83)) (SH.le (SH.front 1 hS83)).1 (SH.rd (SH.front 0 hS83)) (SH.le (SH.front 0 hS83)).1) ?_
  rintro _ w87 ⟨rfl, hE88⟩
  refine ⟨_, rfl, ?_⟩
  have hb90 : Ext w w87 := Ext.trans hb81 hE88
  have hL91 : w.heap.size ≤ w87.heap.size := Nat.le_trans hL82 hE88.size
  have hS92 : SH w87 w.heap.size [aOwn fGood 56 a75 c76 x73, aOwn fGood 56 a63 c64 x61, aOwn fGood 56 a43 c44 x41, aOwn fGood 56 a32 c33 x30] := SH.ext hS83 hE88
  refine WL.runk 1 [0, 1, 6, 7, 8, 9] [(0, .slice a0' aA_0.length c0'), (1, .slice a1' aB_1.length c1'), (6, .bool x52), (7, .slice a63 x61.length c64), (8, .slice a75 x73.length c76), (9, .bool x85)] (by kernel_rfl) ?_
  refine WL.nil ?_
  refine WQ.then_normal (hK84 _ _ _ ?_)
  refine WP.seq (fun K93 hK93 => ?_)
  refine WP.seq (fun K94 hK94 => ?_)
  refine WP.region ?_
  refine WL.runk 3 [0, 1, 7, 8, 34] [(0, .slice a0' aA_0.length c0'), (1, .slice a1' aB_1.length c1'), (7, .slice a63 x61.length c64), (8, .slice a75 x73.length c76), (34, .bool (!(x85 == x52)))] (by kernel_rfl) ?_
  refine WL.nil ?_
  refine WQ.then_normal (hK94 _ _ _ ?_)
  refine WP.cond (!(x85 == x52)) rfl rfl (fun hc95 => ?_) (fun hc95 => ?_)
  · have hm := iteT hm hc95
    refine WP.seq (fun K96 hK96 => ?_)
    refine WP.region ?_
    refine WL.runk 1 [4] [(4, .bool false)] (by kernel_rfl) ?_
    refine WL.nil ?_
    refine WQ.then_normal (hK96 _ _ _ ?_)
    refine WP.ret ?_
    refine WQ.then_ret ?_
    obtain rfl := Option.some.inj hm
    exact WQ.ret1 _ rfl rfl ⟨rfl, hb90⟩
  have hm := iteF hm hc95
  refine WP.skip ?_
  refine WQ.then_normal (hK93 _ _ _ ?_)
  refine WP.seq (fun K97 hK97 => ?_)
  refine WP.seq (fun K98 hK98 => ?_)
  refine WP.region ?_
  refine WL.runk 2 [1, 8, 35, 36] [(1, .slice a1' aB_1.length c1'), (8, .slice a75 x73.length c76), (35, .slice a63 x61.length c64), (36, .slice a0' aA_0.length c0')] (by kernel_rfl) ?_
  obtain ⟨x99, hx100, hm⟩ := bindE hm
  refine WL.call 15 #[.slice a0' aA_0.length c0'] rfl rfl (by kernel_rfl) (c_15 n aA_0 a0' c0' w87 hx100 (Rd.below h0 hb90) hle0) ?_
  rintro _ w104 ⟨a101, c102, rfl, hE105, hR106⟩
  refine ⟨_, rfl, ?_⟩
  have hb107 : Ext w w104 := Ext.trans hb90 hE105
  have hL108 : w.heap.size ≤ w104.heap.size := Nat.le_trans hL91 hE105.size
  have hS109 : SH w104 w.heap.size [aOwn fGood 56 a101 c102 x99, aOwn fGood 56 a75 c76 x73, aOwn fGood 56 a63 c64 x61, aOwn fGood 56 a43 c44 x41, aOwn fGood 56 a32 c33 x30] := SH.add hS92 hE105 hL91 hR106
  obtain ⟨x110, hx111, hm⟩ := bindE hm
  refine WL.call 17 #[.slice a63 x61.length c64, .slice a101 x99.length c102] rfl rfl (by kernel_rfl) (c_17 n x61 a63 c64 x99 a101 c102 w104 hx111 (SH.rd (SH.front 2 hS109)) (SH.le (SH.front 2 hS109)).1 (SH.rd (SH.front 0 hS109)) (SH.le (SH.front 0 hS109)).1) ?_
  rintro _ w112 ⟨rfl, hE113⟩
  refine ⟨_, rfl, ?_⟩
  have hb115 : Ext w w112 := Ext.trans hb107 hE113
  have hL116 : w.heap.size ≤ w112.heap.size := Nat.le_trans hL108 hE113.size
  have hS117 : SH w112 w.heap.size [aOwn fGood 56 a101 c102 x99, aOwn fGood 56 a75 c76 x73, aOwn fGood 56 a63 c64 x61, aOwn fGood 56 a43 c44 x41, aOwn fGood 56 a32 c33 x30] := SH.ext hS109 hE113
  refine WL.runk 1 [1, 8, 39] [(1, .slice a1' aB_1.length c1'), (8, .slice a75 x73.length c76), (39, .bool (!x110))] (by kernel_rfl) ?_
  refine WL.nil ?_
  refine WQ.then_normal (hK98 _ _ _ ?_)
  refine WP.cond (!x110) rfl rfl (fun hc118 => ?_) (fun hc118 => ?_)
  · have hm := iteT hm hc118
    refine WP.seq (fun K119 hK119 => ?_)
    refine WP.region ?_
    refine WL.runk 1 [4] [(4, .bool false)] (by kernel_rfl) ?_
    refine WL.nil ?_
    refine WQ.then_normal (hK119 _ _ _ ?_)
    refine WP.ret ?_
    refine WQ.then_ret ?_
    obtain rfl := Option.some.inj hm
    exact WQ.ret1 _ rfl rfl ⟨rfl, hb115⟩
  have hm := iteF hm hc118
  refine WP.skip ?_
  refine WQ.then_normal (hK97 _ _ _ ?_)
  refine WP.seq (fun K120 hK120 => ?_)
  refine WP.seq (fun K121 hK121 => ?_)
  refine WP.region ?_
  refine WL.runk 2 [40, 41] [(40, .slice a75 x73.length c76), (41, .slice a1' aB_1.length c1')] (by kernel_rfl) ?_
  obtain ⟨x122, hx123, hm⟩ := bindE hm
  refine WL.call 15 #[.slice a1' aB_1.length c1'] rfl rfl (by kernel_rfl) (c_15 n aB_1 a1' c1' w112 hx123 (Rd.below h1 hb115) hle1) ?_
  rintro _ w127 ⟨a124, c125, rfl, hE128, hR129⟩
  refine ⟨_, rfl, ?_⟩
  have hb130 : Ext w w127 := Ext.trans hb115 hE128
  have hL131 : w.heap.size ≤ w127.heap.size := Nat.le_trans hL116 hE128.size
  have hS132 : SH w127 w.heap.size [aOwn fGood 56 a124 c125 x122, aOwn fGood 56 a101 c102 x99, aOwn fGood 56 a75 c76 x73, aOwn fGood 56 a63 c64 x61, aOwn fGood 56 a43 c44 x41, aOwn fGood 56 a32 c33 x30] := SH.add hS117 hE128 hL116 hR129
  obtain ⟨x133, hx134, hm⟩ := bindE hm
  refine WL.call 17 #[.slice a75 x73.length c76, .slice a124 x122.length c125] rfl rfl (by kernel_rfl) (c_17 n x73 a75 c76 x122 a124 c125 w127 hx134 (SH.rd (SH.front 2 hS132)) (SH.le (SH.front 2 hS132)).1 (SH.rd (SH.front 0 hS132)) (SH.le (SH.front 0 hS132)).1) ?_
  rintro _ w135 ⟨rfl, hE136⟩
  refine ⟨_, rfl, ?_⟩
  have hb138 : Ext w w135 := Ext.trans hb130 hE136
  have hL139 : w.heap.size ≤ w135.heap.size := Nat.le_trans hL131 hE136.size
  have hS140 : SH w135 w.heap.size [aOwn fGood 56 a124 c125 x122, aOwn fGood 56 a101 c102 x99, aOwn fGood 56 a75 c76 x73, aOwn fGood 56 a63 c64 x61, aOwn fGood 56 a43 c44 x41, aOwn fGood 56 a32 c33 x30] := SH.ext hS132 hE136
  refine WL.runk 1 [44] [(44, .bool (!x133))] (by kernel_rfl) ?_
  refine WL.nil ?_
  refine WQ.then_normal (hK121 _ _ _ ?_)
  refine WP.cond (!x133) rfl rfl (fun hc141 => ?_) (fun hc141 => ?_)
  · have hm := iteT hm hc141
    refine WP.seq (fun K142 hK142 => ?_)
    refine WP.region ?_
    refine WL.runk 1 [4] [(4, .bool false)] (by kernel_rfl) ?_
    refine WL.nil ?_
    refine WQ.then_normal (hK142 _ _ _ ?_)
    refine WP.ret ?_
    refine WQ.then_ret ?_
    obtain rfl := Option.some.inj hm
    exact WQ.ret1 _ rfl rfl ⟨rfl, hb138⟩
  have hm := iteF hm hc141
  refine WP.skip ?_
  refine WQ.then_normal (hK120 _ _ _ ?_)
  refine WP.seq (fun K143 hK143 => ?_)
  refine WP.region ?_
  refine WL.runk 1 [4] [(4, .bool true)] (by kernel_rfl) ?_
  refine WL.nil ?_
  refine WQ.then_normal (hK143 _ _ _ ?_)
  refine WP.ret ?_
  obtain rfl := Option.some.inj hm
  exact WQ.ret1 _ rfl rfl ⟨rfl, hb138⟩

end Go.Proofs.Ytkpdicajinionaa
