/- Each call does what its Lean function says. -/
import Derived.Test.YtkpdicajinionaaKChangeGoods1
set_option maxRecDepth 20000
set_option maxHeartbeats 40000000
namespace Go.Proofs.Ytkpdicajinionaa
open Go Go.Gv Go.RowKit

theorem c_63 (n : Nat) (list_0 : List SGood) (a0' : Option Addr) (c0' : Nat) (takes_1 : List STake) (a1' : Option Addr) (c1' : Nat) (w : World) {r : Int} (hm : m_spec_l23Takes n list_0 takes_1 = some r) (h0 : Rd fGood.ty w a0' list_0) (hle0 : list_0.length ≤ c0') (h1 : Rd fTake.ty w a1' takes_1) (_hle1 : takes_1.length ≤ c1') :
    CallV Try.prog 63 #[.slice a0' list_0.length c0', .slice a1' takes_1.length c1'] w (fun v w' => v = .int .i64 r ∧ Ext w w') := by
  unfold m_spec_l23Takes at hm
  refine CallV.enter Try.func63 rfl (by kernel_rfl) Try.ntmps63 (env := [(0, .slice a0' list_0.length c0'), (1, .slice a1' takes_1.length c1')]) ⟨rfl, rfl, trivial⟩ ?_
  refine WP.seq (fun K1 hK1 => ?_)
  refine WP.region ?_
  refine WL.runk 1 [0, 1] [(0, .slice a0' list_0.length c0'), (1, .slice a1' takes_1.length c1')] (by kernel_rfl) ?_
  refine WL.nil ?_
  refine WQ.then_normal (hK1 _ _ _ ?_)
  refine WP.seq (fun K2 hK2 => ?_)
  refine WP.seq (fun K3 hK3 => ?_)
  refine WP.region ?_
  refine WL.runk 1 [1, 6] [(1, .slice a1' takes_1.length c1'), (6, .slice a0' list_0.length c0')] (by kernel_rfl) ?_
  obtain ⟨x4, hx5, hm⟩ := bindE hm
  refine WL.call 52 #[.slice a0' list_0.length c0'] rfl rfl (by kernel_rfl) (c_52 n list_0 a0' c0' w hx5 (Rd.below h0 (Ext.refl w)) hle0) ?_
  rintro _ w6 ⟨rfl, hE7⟩
  refine ⟨_, rfl, ?_⟩
  have hb9 : Ext w w6 := Ext.trans (Ext.refl w) hE7
  have hL10 : w.heap.size ≤ w6.heap.size := Nat.le_trans (Nat.le_refl _) hE7.size
  have hS11 : SH w6 w.heap.size [] := SH.ext (SH.nil _ _) hE7
  refine WL.runk 1 [1, 8] [(1, .slice a1' takes_1.length c1'), (8, .bool (!x4))] (by kernel_rfl) ?_
  refine WL.nil ?_
  refine WQ.then_normal (hK3 _ _ _ ?_)
  refine WP.cond (!x4) rfl rfl (fun hc12 => ?_) (fun hc12 => ?_)
  · have hm := iteT hm hc12
    refine WP.seq (fun K13 hK13 => ?_)
    refine WP.region ?_
    refine WL.runk 1 [4] [(4, .int .i64 1)] (by kernel_rfl) ?_
    refine WL.nil ?_
    refine WQ.then_normal (hK13 _ _ _ ?_)
    refine WP.ret ?_
    refine WQ.then_ret ?_
    obtain rfl := Option.some.inj hm
    exact WQ.ret1 _ rfl rfl ⟨rfl, hb9⟩
  have hm := iteF hm hc12
  refine WP.skip ?_
  refine WQ.then_normal (hK2 _ _ _ ?_)
  refine WP.seq (fun K14 hK14 => ?_)
  refine WP.seq (fun K15 hK15 => ?_)
  refine WP.region ?_
  refine WL.runk 1 [1, 5] [(1, .slice a1' takes_1.length c1'), (5, .int .i64 0)] (by kernel_rfl) ?_
  refine WL.nil ?_
  refine WQ.then_normal (hK15 _ _ _ ?_)
  refine WP.block ?_
  obtain ⟨t27, ht28, hm⟩ := bindE hm
  have hmo22 := hm; clear hm
  refine WP.sub [(1, .slice a1' takes_1.length c1'), (5, .int .i64 0)] ⟨rfl, rfl, trivial⟩ ?_
  refine WP.loop (fun n' env' w' => ∃ (st16 : Int) , env' = [(1, .slice a1' takes_1.length c1'), (5, .int .i64 st16)] ∧ Ext w w' ∧ w.heap.size ≤ w'.heap.size ∧ SH w' w.heap.size [] ∧ loopN (m_spec_l23Takes_l1 n takes_1) n' st16 = some t27) n ⟨0, rfl, hb9, hL10, hS11, ht28⟩ ?_
  rintro n24 _ w17 ⟨st16, rfl, hb18, hL19, hS20, hl21⟩ K23 hK23
  obtain ⟨n25, s26, rfl, hm, hl21⟩ := loopN_some hl21
  unfold m_spec_l23Takes_l1 at hm
  refine WP.seq (fun K29 hK29 => ?_)
  refine WP.seq (fun K30 hK30 => ?_)
  refine WP.region ?_
  refine WL.runk 4 [1, 5, 12] [(1, .slice a1' takes_1.length c1'), (5, .int .i64 st16), (12, .bool (decide (st16 < (takes_1.length : Int))))] (by kernel_rfl) ?_
  refine WL.nil ?_
  refine WQ.then_normal (hK30 _ _ _ ?_)
  refine WP.cond (decide (st16 < (takes_1.length : Int))) rfl rfl (fun hc31 => ?_) (fun hc31 => ?_)
  rotate_left
  · have hm := iteF hm hc31
    refine WP.exit ?_
    refine WQ.then_exit ?_
    refine WQ.then_exit ?_
    refine WQ.block_here ?_
    obtain rfl := Option.some.inj hm
    obtain rfl := afterN_done hl21
    have hm := hmo22
    refine WQ.then_normal (hK14 _ _ _ ?_)
    refine WP.seq (fun K46 hK46 => ?_)
    refine WP.seq (fun K47 hK47 => ?_)
    refine WP.region ?_
    refine WL.runk 3 [22] [(22, .bool (decide ((takes_1.length : Int) > 60)))] (by kernel_rfl) ?_
    refine WL.nil ?_
    refine WQ.then_normal (hK47 _ _ _ ?_)
    refine WP.cond (decide ((takes_1.length : Int) > 60)) rfl rfl (fun hc48 => ?_) (fun hc48 => ?_)
    · have hm := iteT hm hc48
      refine WP.seq (fun K49 hK49 => ?_)
      refine WP.region ?_
      refine WL.runk 1 [4] [(4, .int .i64 2)] (by kernel_rfl) ?_
      refine WL.nil ?_
      refine WQ.then_normal (hK49 _ _ _ ?_)
      refine WP.ret ?_
      refine WQ.then_ret ?_
      obtain rfl := Option.some.inj hm
      exact WQ.ret1 _ rfl rfl ⟨rfl, hb18⟩
    have hm := iteF hm hc48
    refine WP.skip ?_
    refine WQ.then_normal (hK46 _ _ _ ?_)
    refine WP.seq (fun K50 hK50 => ?_)
    refine WP.region ?_
    refine WL.runk 1 [4] [(4, .int .i64 0)] (by kernel_rfl) ?_
    refine WL.nil ?_
    refine WQ.then_normal (hK50 _ _ _ ?_)
    refine WP.ret ?_
    obtain rfl := Option.some.inj hm
    exact WQ.ret1 _ rfl rfl ⟨rfl, hb18⟩
  have hm := iteT hm hc31
  refine WP.skip ?_
  refine WQ.then_normal (hK29 _ _ _ ?_)
  refine WP.seq (fun K32 hK32 => ?_)
  refine WP.block ?_
  refine WP.seq (fun K33 hK33 => ?_)
  refine WP.region ?_
  refine WL.runk 2 [1, 5, 15, 16] [(1, .slice a1' takes_1.length c1'), (5, .int .i64 st16), (15, .slice a1' takes_1.length c1'), (16, .int .i64 st16)] (by kernel_rfl) ?_
  obtain ⟨x34, hx35, hm⟩ := bindE hm
  refine WL.st (.pointer (some (at_ a1' (Int.toNat st16 * 2)))) (ST.index (T := fTake.ty) (xs := takes_1) (Rd.below h1 hb18) hx35 rfl rfl rfl Try.underlying30 (info43).1 (info43).2.1) rfl rfl rfl ?_
  obtain ⟨x36, hx37, hm⟩ := bindE hm
  refine WL.call 59 #[.pointer (some (at_ a1' (Int.toNat st16 * 2)))] rfl rfl (by kernel_rfl) (c_59 n x34 ((ba a1').block) ((ba a1').off + Int.toNat st16 * 2) w17 hx37 (RdB.ofRd (F := fTake) (Rd.below h1 hb18) hx35)) ?_
  rintro _ w38 ⟨rfl, hE39⟩
  refine ⟨_, rfl, ?_⟩
  have hb41 : Ext w w38 := Ext.trans hb18 hE39
  have hL42 : w.heap.size ≤ w38.heap.size := Nat.le_trans hL19 hE39.size
  have hS43 : SH w38 w.heap.size [] := SH.ext hS20 hE39
  refine WL.runk 1 [1, 5, 19] [(1, .slice a1' takes_1.length c1'), (5, .int .i64 st16), (19, .bool (!x36))] (by kernel_rfl) ?_
  refine WL.nil ?_
  refine WQ.then_normal (hK33 _ _ _ ?_)
  refine WP.cond (!x36) rfl rfl (fun hc44 => ?_) (fun hc44 => ?_)
  rotate_left
  · have hm := iteF hm hc44
    refine WP.skip ?_
    refine WQ.block_normal ?_
    refine WQ.then_normal (hK32 _ _ _ ?_)
    refine WP.region ?_
    refine WL.runk 3 [1, 5] [(1, .slice a1' takes_1.length c1'), (5, .int .i64 (wI64 (st16 + 1)))] (by kernel_rfl) ?_
    refine WL.nil ?_
    obtain rfl := Option.some.inj hm
    exact WQ.round hK23 ⟨(wI64 (st16 + 1)), rfl, hb41, hL42, hS43, hl21⟩ (Nat.lt_succ_self _) ⟨rfl, rfl, trivial⟩
  have hm := iteT hm hc44
  refine WP.seq (fun K45 hK45 => ?_)
  refine WP.region ?_
  refine WL.runk 1 [4] [(4, .int .i64 2)] (by kernel_rfl) ?_
  refine WL.nil ?_
  refine WQ.then_normal (hK45 _ _ _ ?_)
  refine WP.ret ?_
  refine WQ.block_ret ?_
  refine WQ.then_ret ?_
  refine WQ.then_ret ?_
  refine WQ.block_ret ?_
  refine WQ.then_ret ?_
  obtain rfl := Option.some.inj hm
  obtain rfl := afterN_done hl21
  have hm := hmo22
  obtain rfl := Option.some.inj hm
  exact WQ.ret1 _ rfl rfl ⟨rfl, hb41⟩

theorem c_37 (n : Nat) (a_0 : List STake) (a0' : Option Addr) (c0' : Nat) (w : World) {r : List STake} (hm : m_laws_toTakeS n a_0 = some r) (h0 : Rd fTake.ty w a0' a_0) (_hle0 : a_0.length ≤ c0') :
    CallV Try.prog 37 #[.slice a0' a_0.length c0'] w (fun v w' => ∃ (ra0 : Option Addr) (rc0 : Nat), v = .slice ra0 r.length rc0 ∧ Ext w w' ∧ SH w' w.heap.size [aOwn fTake 43 ra0 rc0 r]) := by
  unfold m_laws_toTakeS at hm
  refine CallV.enter Try.func37 rfl (by kernel_rfl) Try.ntmps37 (env := [(0, .slice a0' a_0.length c0')]) ⟨rfl, trivial⟩ ?_
  refine WP.seq (fun K1 hK1 => ?_)
  refine WP.region ?_
  refine WL.runk 1 [0] [(0, .slice a0' a_0.length c0')] (by kernel_rfl) ?_
  refine WL.nil ?_
  refine WQ.then_normal (hK1 _ _ _ ?_)
  refine WP.seq (fun K2 hK2 => ?_)
  refine WP.region ?_
  refine WL.runk 2 [0, 6] [(0, .slice a0' a_0.length c0'), (6, .int .i64 (a_0.length : Int))] (by kernel_rfl) ?_
  obtain ⟨x3, hx4, hm⟩ := bindE hm
  refine WL.make fTake 7 hx4 rfl rfl rfl Try.underlying30 (info43).1 (info43).2.2.1 (info43).2.1 (info43).2.2.2 rfl rfl rfl rfl rfl ?_
  intro a5 c6 w7 hE8 hR9
  have hb11 : Ext w w7 := Ext.trans (Ext.refl w) hE8
  have hL12 : w.heap.size ≤ w7.heap.size := Nat.le_trans (Nat.le_refl _) hE8.size
  have hS13 : SH w7 w.heap.size [aOwn fTake 43 a5 c6 x3] := SH.add (SH.nil _ _) hE8 (Nat.le_refl _) hR9
  refine WL.runk 1 [0, 3] [(0, .slice a0' a_0.length c0'), (3, .slice a5 x3.length c6)] (by kernel_rfl) ?_
  refine WL.nil ?_
  refine WQ.then_normal (hK2 _ _ _ ?_)
  refine WP.seq (fun K14 hK14 => ?_)
  refine WP.seq (fun K15 hK15 => ?_)
  refine WP.region ?_
  refine WL.runk 1 [0, 3, 4] [(0, .slice a0' a_0.length c0'), (3, .slice a5 x3.length c6), (4, .int .i64 0)] (by kernel_rfl) ?_
  refine WL.nil ?_
  refine WQ.then_normal (hK15 _ _ _ ?_)
  refine WP.block ?_
  obtain ⟨t62, ht63, hm⟩ := bindE hm
  have hmo57 := hm; clear hm
  refine WP.sub [(0, .slice a0' a_0.length c0'), (3, .slice a5 x3.length c6), (4, .int .i64 0)] ⟨rfl, rfl, rfl, trivial⟩ ?_
  refine WP.loop (fun n' env' w' => ∃ (st51 : Int × List STake) , env' = [(0, .slice a0' a_0.length c0'), (3, .slice a5 st51.2.length c6), (4, .int .i64 st51.1)] ∧ Ext w w' ∧ w.heap.size ≤ w'.heap.size ∧ SH w' w.heap.size [aOwn fTake 43 a5 c6 st51.2] ∧ loopN (m_laws_toTakeS_l1 n a_0) n' st51 = some t62) n ⟨(0, x3), rfl, hb11, hL12, hS13, ht63⟩ ?_
  rintro n59 _ w52 ⟨st51, rfl, hb53, hL54, hS55, hl56⟩ K58 hK58
  obtain ⟨n60, s61, rfl, hm, hl56⟩ := loopN_some hl56
  unfold m_laws_toTakeS_l1 at hm
  refine WP.seq (fun K64 hK64 => ?_)
  refine WP.seq (fun K65 hK65 => ?_)
  refine WP.region ?_
  refine WL.runk 4 [0, 3, 4, 11] [(0, .slice a0' a_0.length c0'), (3, .slice a5 st51.2.length c6), (4, .int .i64 st51.1), (11, .bool (decide (st51.1 < (a_0.length : Int))))] (by kernel_rfl) ?_
  refine WL.nil ?_
  refine WQ.then_normal (hK65 _ _ _ ?_)
  refine WP.cond (decide (st51.1 < (a_0.length : Int))) rfl rfl (fun hc66 => ?_) (fun hc66 => ?_)
  rotate_left
  · have hm := iteF hm hc66
    refine WP.exit ?_
    refine WQ.then_exit ?_
    refine WQ.then_exit ?_
    refine WQ.block_here ?_
    obtain rfl := Option.some.inj hm
    obtain rfl := afterN_done hl56
    have hm := hmo57
    refine WQ.then_normal (hK14 _ _ _ ?_)
    refine WP.seq (fun K85 hK85 => ?_)
    refine WP.region ?_
    refine WL.runk 2 [2] [(2, .slice a5 st51.2.length c6)] (by kernel_rfl) ?_
    refine WL.nil ?_
    refine WQ.then_normal (hK85 _ _ _ ?_)
    refine WP.ret ?_
    obtain rfl := Option.some.inj hm
    exact WQ.ret1 _ rfl rfl ⟨_, _, rfl, hb53, hS55⟩
  have hm := iteT hm hc66
  refine WP.skip ?_
  refine WQ.then_normal (hK64 _ _ _ ?_)
  refine WP.seq (fun K67 hK67 => ?_)
  refine WP.block ?_
  refine WP.region ?_
  refine WL.runk 4 [0, 3, 4, 14, 15, 16, 17] [(0, .slice a0' a_0.length c0'), (3, .slice a5 st51.2.length c6), (4, .int .i64 st51.1), (14, .slice a5 st51.2.length c6), (15, .int .i64 st51.1), (16, .slice a0' a_0.length c0'), (17, .int .i64 st51.1)] (by kernel_rfl) ?_
  obtain ⟨x68, hx69, hm⟩ := bindE hm
  refine WL.st (.pointer (some (at_ a0' (Int.toNat st51.1 * 2)))) (ST.index (T := fTake.ty) (xs := a_0) (Rd.below h0 hb53) hx69 rfl rfl rfl Try.underlying46 (info40).1 (info40).2.1) rfl rfl rfl ?_
  refine WL.st (.agg #[.string (bs x68.Name), .int .i64 x68.Many]) (ST.loadAgg (vs := fTake.leaf x68) (fun j v hv => Rd.flatA (F := fTake) (Rd.below h0 hb53) hx69 j hv) rfl rfl rfl Try.underlying40 rfl (info40).1 (info40).2.1) rfl rfl rfl ?_
  obtain ⟨x70, hx71, hm⟩ := bindE hm
  refine WL.call 33 #[.agg #[.string (bs x68.Name), .int .i64 x68.Many]] rfl rfl (by kernel_rfl) (c_33 n x68 w52 hx71 ) ?_
  rintro _ w72 ⟨rfl, hE73⟩
  refine ⟨_, rfl, ?_⟩
  have hb75 : Ext w w72 := Ext.trans hb53 hE73
  have hL76 : w.heap.size ≤ w72.heap.size := Nat.le_trans hL54 hE73.size
  have hS77 : SH w72 w.heap.size [aOwn fTake 43 a5 c6 st51.2] := SH.ext hS55 hE73
  obtain ⟨x78, hx79, hm⟩ := bindE hm
  refine WL.st (.pointer (some (at_ a5 (Int.toNat st51.1 * 2)))) (ST.index (T := fTake.ty) (xs := st51.2) (SH.rd (SH.front 0 hS77)) hx79 rfl rfl rfl Try.underlying30 (info43).1 (info43).2.1) rfl rfl rfl ?_
  refine WL.store (F := fTake) x70 0 [.string (bs x70.Name), .int .i64 x70.Many] (SH.front 0 hS77) hL76 hx79 rfl rfl rfl rfl rfl rfl rfl (info43).1 (info43).2.1 rfl rfl rfl ?_
  intro w80 hB81 hS82
  have hb83 : Ext w w80 := Below.trans hb75 hB81
  have hL84 : w.heap.size ≤ w80.heap.size := Nat.le_trans hL76 hB81.size
  refine WL.sub [(0, .slice a0' a_0.length c0'), (3, .slice a5 ((st51.2.set (Int.toNat st51.1) x70).length) c6), (4, .int .i64 st51.1), (14, .slice a5 ((st51.2.set (Int.toNat st51.1) x70).length) c6), (15, .int .i64 st51.1), (16, .slice a0' a_0.length c0'), (17, .int .i64 st51.1), (18, .pointer (some (at_ a0' (Int.toNat st51.1 * 2)))), (19, .agg #[.string (bs x68.Name), .int .i64 x68.Many]), (20, .agg #[.string (bs x70.Name), .int .i64 x70.Many])] ⟨rfl, by first | (simp only [List.length_set]; done) | (simp only [List.length_set]; rfl), rfl, by first | (simp only [List.length_set]; done) | (simp only [List.length_set]; rfl), rfl, rfl, rfl, rfl, rfl, rfl, trivial⟩ ?_
  refine WL.sub [(0, .slice a0' a_0.length c0'), (3, .slice a5 ((st51.2.set (Int.toNat st51.1) x70).length) c6), (4, .int .i64 st51.1)] ⟨rfl, rfl, rfl, trivial⟩ ?_
  refine WL.nil ?_
  refine WQ.block_normal ?_
  refine WQ.then_normal (hK67 _ _ _ ?_)
  refine WP.region ?_
  refine WL.runk 3 [0, 3, 4] [(0, .slice a0' a_0.length c0'), (3, .slice a5 ((st51.2.set (Int.toNat st51.1) x70).length) c6), (4, .int .i64 (wI64 (st51.1 + 1)))] (by kernel_rfl) ?_
  refine WL.nil ?_
  obtain rfl := Option.some.inj hm
  exact WQ.round hK58 ⟨((wI64 (st51.1 + 1)), (st51.2.set (Int.toNat st51.1) x70)), rfl, hb83, hL84, hS82, hl56⟩ (Nat.lt_succ_self _) ⟨rfl, rfl, rfl, trivial⟩

theorem c_43 (n : Nat) (list_0 : List SGood) (a0' : Option Addr) (c0' : Nat) (takes_1 : List STake) (a1' : Option Addr) (c1' : Nat) (w : World) {r : List SGood × Int × Int} (hm : m_spec_ChangeGoods n list_0 takes_1 = some r) (h0 : Rd fGood.ty w a0' list_0) (hle0 : list_0.length ≤ c0') (h1 : Rd fTake.ty w a1' takes_1) (hle1 : takes_1.length ≤ c1') :
    CallV Try.prog 43 #[.slice a0' list_0.length c0', .slice a1' takes_1.length c1'] w (fun v w' => ∃ (ra0 : Option Addr) (rc0 : Nat), v = .tuple #[.slice ra0 r.1.length rc0, .int .i64 r.2.1, .int .i64 r.2.2] ∧ Ext w w' ∧ SH w' w.heap.size [aOwn fGood 56 ra0 rc0 r.1]) := by
  unfold m_spec_ChangeGoods at hm
  refine CallV.enter Try.func43 rfl (by kernel_rfl) Try.ntmps43 (env := [(0, .slice a0' list_0.length c0'), (1, .slice a1' takes_1.length c1')]) ⟨rfl, rfl, trivial⟩ ?_
  refine WP.seq (fun K1 hK1 => ?_)
  refine WP.region ?_
  refine WL.runk 3 [0, 1] [(0, .slice a0' list_0.length c0'), (1, .slice a1' takes_1.length c1')] (by kernel_rfl) ?_
  refine WL.nil ?_
  refine WQ.then_normal (hK1 _ _ _ ?_)
  refine WP.seq (fun K2 hK2 => ?_)
  refine WP.region ?_
  refine WL.runk 2 [0, 1, 10, 11] [(0, .slice a0' list_0.length c0'), (1, .slice a1' takes_1.length c1'), (10, .slice a0' list_0.length c0'), (11, .slice a1' takes_1.length c1')] (by kernel_rfl) ?_
  obtain ⟨x3, hx4, hm⟩ := bindE hm
  refine WL.call 63 #[.slice a0' list_0.length c0', .slice a1' takes_1.length c1'] rfl rfl (by kernel_rfl) (c_63 n list_0 a0' c0' takes_1 a1' c1' w hx4 (Rd.below h0 (Ext.refl w)) hle0 (Rd.below h1 (Ext.refl w)) hle1) ?_
  rintro _ w5 ⟨rfl, hE6⟩
  refine ⟨_, rfl, ?_⟩
  have hb8 : Ext w w5 := Ext.trans (Ext.refl w) hE6
  have hL9 : w.heap.size ≤ w5.heap.size := Nat.le_trans (Nat.le_refl _) hE6.size
  have hS10 : SH w5 w.heap.size [] := SH.ext (SH.nil _ _) hE6
  refine WL.runk 1 [0, 1, 7] [(0, .slice a0' list_0.length c0'), (1, .slice a1' takes_1.length c1'), (7, .int .i64 x3)] (by kernel_rfl) ?_
  refine WL.nil ?_
  refine WQ.then_normal (hK2 _ _ _ ?_)
  refine WP.seq (fun K11 hK11 => ?_)
  refine WP.seq (fun K12 hK12 => ?_)
  refine WP.region ?_
  refine WL.runk 2 [0, 1, 7, 14] [(0, .slice a0' list_0.length c0'), (1, .slice a1' takes_1.length c1'), (7, .int .i64 x3), (14, .bool (x3 != 0))] (by kernel_rfl) ?_
  refine WL.nil ?_
  refine WQ.then_normal (hK12 _ _ _ ?_)
  refine WP.cond (x3 != 0) rfl rfl (fun hc13 => ?_) (fun hc13 => ?_)
  · have hm := iteT hm hc13
    refine WP.seq (fun K14 hK14 => ?_)
    refine WP.region ?_
    refine WL.runk 4 [4, 5, 6] [(4, .slice none 0 0), (5, .int .i64 0), (6, .int .i64 x3)] (by kernel_rfl) ?_
    refine WL.nil ?_
    refine WQ.then_normal (hK14 _ _ _ ?_)
    refine WP.ret ?_
    refine WQ.then_ret ?_
    obtain rfl := Option.some.inj hm
    have hS16 : SH w5 w.heap.size [aOwn fGood 56 none 0 ([] : List SGood)] := SH.nilOwn hS10
    exact WQ.ret3 _ _ _ rfl rfl rfl rfl ⟨_, _, rfl, hb8, hS16⟩
  have hm := iteF hm hc13
  refine WP.skip ?_
  refine WQ.then_normal (hK11 _ _ _ ?_)
  refine WP.seq (fun K17 hK17 => ?_)
  refine WP.region ?_
  refine WL.row fGood 56 ([] : List SGood) 0 #[] 16 (by kernel_rfl) rfl rfl rfl rfl rfl rfl rfl ?_
  intro a18 c19 w20 hE21 hR22
  have hb24 : Ext w w20 := Ext.trans hb8 hE21
  have hL25 : w.heap.size ≤ w20.heap.size := Nat.le_trans hL9 hE21.size
  have hS26 : SH w20 w.heap.size [aOwn fGood 56 a18 c19 ([] : List SGood)] := SH.add hS10 hE21 hL9 hR22
  refine WL.runk 1 [0, 1, 16, 17] [(0, .slice a0' list_0.length c0'), (1, .slice a1' takes_1.length c1'), (16, .slice a18 (([] : List SGood).length) c19), (17, .slice a0' list_0.length c0')] (by kernel_rfl) ?_
  obtain ⟨x27, hx28, hm⟩ := bindE hm
  refine WL.append (F := fGood) (xs := ([] : List SGood)) (ys := list_0) 18 (SH.front 0 hS26) hL25 (Rd.below h0 hb24) hx28 rfl rfl rfl Try.underlying25 (info56).1 (info56).2.2.1 (info56).2.1 (info56).2.2.2 rfl rfl rfl rfl rfl ?_
  intro a29 c30 w31 hB32 hS33
  have hb34 : Ext w w31 := Below.trans hb24 hB32
  have hL35 : w.heap.size ≤ w31.heap.size := Nat.le_trans hL25 hB32.size
  refine WL.runk 1 [0, 1, 8] [(0, .slice a0' list_0.length c0'), (1, .slice a1' takes_1.length c1'), (8, .slice a29 x27.length c30)] (by kernel_rfl) ?_
  refine WL.nil ?_
  refine WQ.then_normal (hK17 _ _ _ ?_)
  refine WP.seq (fun K36 hK36 => ?_)
  refine WP.seq (fun K37 hK37 => ?_)
  refine WP.region ?_
  refine WL.runk 1 [0, 1, 8, 9] [(0, .slice a0' list_0.length c0'), (1, .slice a1' takes_1.length c1'), (8, .slice a29 x27.length c30), (9, .int .i64 0)] (by kernel_rfl) ?_
  refine WL.nil ?_
  refine WQ.then_normal (hK37 _ _ _ ?_)
  refine WP.block ?_
  obtain ⟨t100, ht101, hm⟩ := bindE hm
  have hmo95 := hm; clear hm
  refine WP.sub [(0, .slice a0' list_0.length c0'), (1, .slice a1' takes_1.length c1'), (8, .slice a29 x27.length c30), (9, .int .i64 0)] ⟨rfl, rfl, rfl, rfl, trivial⟩ ?_
  refine WP.loop (fun n' env' w' => ∃ (st89 : Int × List SGood) , env' = [(0, .slice a0' list_0.length c0'), (1, .slice a1' takes_1.length c1'), (8, .slice a29 st89.2.length c30), (9, .int .i64 st89.1)] ∧ Ext w w' ∧ w.heap.size ≤ w'.heap.size ∧ SH w' w.heap.size [aOwn fGood 56 a29 c30 st89.2] ∧ loopN (m_spec_ChangeGoods_l1 n list_0 takes_1) n' st89 = some t100) n ⟨(0, x27), rfl, hb34, hL35, hS33, ht101⟩ ?_
  rintro n97 _ w90 ⟨st89, rfl, hb91, hL92, hS93, hl94⟩ K96 hK96
  obtain ⟨n98, s99, rfl, hm, hl94⟩ := loopN_some hl94
  unfold m_spec_ChangeGoods_l1 at hm
  refine WP.seq (fun K102 hK102 => ?_)
  refine WP.seq (fun K103 hK103 => ?_)
  refine WP.region ?_
  refine WL.runk 4 [0, 1, 8, 9, 22] [(0, .slice a0' list_0.length c0'), (1, .slice a1' takes_1.length c1'), (8, .slice a29 st89.2.length c30), (9, .int .i64 st89.1), (22, .bool (decide (st89.1 < (takes_1.length : Int))))] (by kernel_rfl) ?_
  refine WL.nil ?_
  refine WQ.then_normal (hK103 _ _ _ ?_)
  refine WP.cond (decide (st89.1 < (takes_1.length : Int))) rfl rfl (fun hc104 => ?_) (fun hc104 => ?_)
  rotate_left
  · have hm := iteF hm hc104
    refine WP.exit ?_
    refine WQ.then_exit ?_
    refine WQ.then_exit ?_
    refine WQ.block_here ?_
    obtain rfl := Option.some.inj hm
    obtain rfl := afterN_done hl94
    have hm := hmo95
    refine WQ.then_normal (hK36 _ _ _ ?_)
    refine WP.seq (fun K139 hK139 => ?_)
    refine WP.region ?_
    refine WL.runk 4 [4, 5, 6] [(4, .slice a29 st89.2.length c30), (5, .int .i64 (-1)), (6, .int .i64 0)] (by kernel_rfl) ?_
    refine WL.nil ?_
    refine WQ.then_normal (hK139 _ _ _ ?_)
    refine WP.ret ?_
    obtain rfl := Option.some.inj hm
    exact WQ.ret3 _ _ _ rfl rfl rfl rfl ⟨_, _, rfl, hb91, hS93⟩
  have hm := iteT hm hc104
  refine WP.skip ?_
  refine WQ.then_normal (hK102 _ _ _ ?_)
  refine WP.seq (fun K105 hK105 => ?_)
  refine WP.block ?_
  refine WP.seq (fun K106 hK106 => ?_)
  refine WP.region ?_
  refine WL.runk 3 [0, 1, 8, 9, 25, 26, 27] [(0, .slice a0' list_0.length c0'), (1, .slice a1' takes_1.length c1'), (8, .slice a29 st89.2.length c30), (9, .int .i64 st89.1), (25, .slice a29 st89.2.length c30), (26, .slice a1' takes_1.length c1'), (27, .int .i64 st89.1)] (by kernel_rfl) ?_
  obtain ⟨x107, hx108, hm⟩ := bindE hm
  refine WL.st (.pointer (some (at_ a1' (Int.toNat st89.1 * 2)))) (ST.index (T := fTake.ty) (xs := takes_1) (Rd.below h1 hb91) hx108 rfl rfl rfl Try.underlying30 (info43).1 (info43).2.1) rfl rfl rfl ?_
  obtain ⟨x109, hx110, hm⟩ := bindE hm
  refine WL.call 60 #[.slice a29 st89.2.length c30, .pointer (some (at_ a1' (Int.toNat st89.1 * 2)))] rfl rfl (by kernel_rfl) (c_60 n st89.2 a29 c30 x107 ((ba a1').block) ((ba a1').off + Int.toNat st89.1 * 2) w90 w w.heap.size [] hx110 hb91 (Nat.le_refl _) hL92 (RdB.ofRd (F := fTake) h1 hx108) hS93) ?_
  rintro _ w111 ⟨rfl, hB115, hS114, hlen116⟩
  refine ⟨_, rfl, ?_⟩
  have hb117 : Ext w w111 := Below.trans hb91 hB115
  have hL118 : w.heap.size ≤ w111.heap.size := Nat.le_trans hL92 hB115.size
  refine WL.sub [(0, .slice a0' list_0.length c0'), (1, .slice a1' takes_1.length c1'), (8, .slice a29 x109.2.length c30), (9, .int .i64 st89.1), (25, .slice a29 x109.2.length c30), (26, .slice a1' takes_1.length c1'), (27, .int .i64 st89.1), (28, .pointer (some (at_ a1' (Int.toNat st89.1 * 2)))), (29, .int .i64 x109.1)] ⟨rfl, rfl, by rw [hlen116]; rfl, rfl, by rw [hlen116]; rfl, rfl, rfl, rfl, rfl, trivial⟩ ?_
  refine WL.runk 1 [0, 1, 8, 9, 30] [(0, .slice a0' list_0.length c0'), (1, .slice a1' takes_1.length c1'), (8, .slice a29 x109.2.length c30), (9, .int .i64 st89.1), (30, .bool (x109.1 != 0))] (by kernel_rfl) ?_
  refine WL.nil ?_
  refine WQ.then_normal (hK106 _ _ _ ?_)
  refine WP.cond (x109.1 != 0) rfl rfl (fun hc119 => ?_) (fun hc119 => ?_)
  rotate_left
  · have hm := iteF hm hc119
    refine WP.skip ?_
    refine WQ.block_normal ?_
    refine WQ.then_normal (hK105 _ _ _ ?_)
    refine WP.region ?_
    refine WL.runk 3 [0, 1, 8, 9] [(0, .slice a0' list_0.length c0'), (1, .slice a1' takes_1.length c1'), (8, .slice a29 x109.2.length c30), (9, .int .i64 (wI64 (st89.1 + 1)))] (by kernel_rfl) ?_
    refine WL.nil ?_
    obtain rfl := Option.some.inj hm
    exact WQ.round hK96 ⟨((wI64 (st89.1 + 1)), x109.2), rfl, hb117, hL118, hS114, hl94⟩ (Nat.lt_succ_self _) ⟨rfl, rfl, rfl, rfl, trivial⟩
  have hm := iteT hm hc119
  refine WP.seq (fun K120 hK120 => ?_)
  refine WP.region ?_
  refine WL.row fGood 56 ([] : List SGood) 0 #[] 31 (by kernel_rfl) rfl rfl rfl rfl rfl rfl rfl ?_
  intro a121 c122 w123 hE124 hR125
  have hb127 : Ext w w123 := Ext.trans hb117 hE124
  have hL128 : w.heap.size ≤ w123.heap.size := Nat.le_trans hL118 hE124.size
  have hS129 : SH w123 w.heap.size [aOwn fGood 56 a121 c122 ([] : List SGood), aOwn fGood 56 a29 c30 x109.2] := SH.add hS114 hE124 hL118 hR125
  refine WL.runk 1 [9, 31, 32] [(9, .int .i64 st89.1), (31, .slice a121 (([] : List SGood).length) c122), (32, .slice a0' list_0.length c0')] (by kernel_rfl) ?_
  obtain ⟨x130, hx131, hm⟩ := bindE hm
  refine WL.append (F := fGood) (xs := ([] : List SGood)) (ys := list_0) 33 (SH.front 0 hS129) hL128 (Rd.below h0 hb127) hx131 rfl rfl rfl Try.underlying25 (info56).1 (info56).2.2.1 (info56).2.1 (info56).2.2.2 rfl rfl rfl rfl rfl ?_
  intro a132 c133 w134 hB135 hS136
  have hb137 : Ext w w134 := Below.trans hb127 hB135
  have hL138 : w.heap.size ≤ w134.heap.size := Nat.le_trans hL128 hB135.size
  refine WL.runk 4 [4, 5, 6] [(4, .slice a132 x130.length c133), (5, .int .i64 st89.1), (6, .int .i64 0)] (by kernel_rfl) ?_
  refine WL.nil ?_
  refine WQ.then_normal (hK120 _ _ _ ?_)
  refine WP.ret ?_
  refine WQ.block_ret ?_
  refine WQ.then_ret ?_
  refine WQ.then_ret ?_
  refine WQ.block_ret ?_
  refine WQ.then_ret ?_
  obtain rfl := Option.some.inj hm
  obtain rfl := afterN_done hl94
  have hm := hmo95
  obtain rfl := Option.some.inj hm
  exact WQ.ret3 _ _ _ rfl rfl rfl rfl ⟨_, _, rfl, hb137, (SH.take 1 hS136)⟩

theorem c_71 (n : Nat) (t_0 : STake) (w : World) {r : Bool} (hm : m_impl_ChangeGoods_1 n t_0 = some r)  :
    CallV Try.prog 71 #[.agg #[.string (bs t_0.Name), .int .i64 t_0.Many]] w (fun v w' => v = .bool r ∧ Ext w w') := by
  unfold m_impl_ChangeGoods_1 at hm
  refine CallV.enter Try.func71 rfl (by kernel_rfl) Try.ntmps71 (env := [(0, .agg #[.string (bs t_0.Name), .int .i64 t_0.Many])]) ⟨rfl, trivial⟩ ?_
  refine WP.seq (fun K1 hK1 => ?_)
  refine WP.region ?_
  refine WL.box 43 [.string (bs t_0.Name), .int .i64 t_0.Many] 1 (by kernel_rfl) rfl rfl rfl rfl ?_
  intro b2 w3 hE4 hR5
  have hb7 : Ext w w3 := Ext.trans (Ext.refl w) hE4
  have hL8 : w.heap.size ≤ w3.heap.size := Nat.le_trans (Nat.le_refl _) hE4.size
  have hS9 : SH w3 w.heap.size [aBox 43 b2 [.string (bs t_0.Name), .int .i64 t_0.Many]] := SH.add (SH.nil _ _) hE4 (Nat.le_refl _) hR5
  refine WL.runk 1 [1] [(1, .pointer (some ⟨b2, 0, none⟩))] (by kernel_rfl) ?_
  refine WL.nil ?_
  refine WQ.then_normal (hK1 _ _ _ ?_)
  refine WP.seq (fun K10 hK10 => ?_)
  refine WP.region ?_
  refine WL.st (.agg #[.string (bs t_0.Name), .int .i64 t_0.Many]) (ST.loadAgg (vs := [.string (bs t_0.Name), .int .i64 t_0.Many]) (fun j v hv => SH.boxPart (us := [.string (bs t_0.Name), .int .i64 t_0.Many]) (SH.front 0 hS9) 0 rfl j v hv) rfl rfl rfl Try.underlying43 rfl (info43).1 (info43).2.1) rfl rfl rfl ?_
  obtain ⟨x11, hx12, hm⟩ := bindE hm
  refine WL.call 61 #[.agg #[.string (bs t_0.Name), .int .i64 t_0.Many]] rfl rfl (by kernel_rfl) (c_61 n t_0 w3 hx12 ) ?_
  rintro _ w13 ⟨rfl, hE14⟩
  refine ⟨_, rfl, ?_⟩
  have hb16 : Ext w w13 := Ext.trans hb7 hE14
  have hL17 : w.heap.size ≤ w13.heap.size := Nat.le_trans hL8 hE14.size
  have hS18 : SH w13 w.heap.size [aBox 43 b2 [.string (bs t_0.Name), .int .i64 t_0.Many]] := SH.ext hS9 hE14
  refine WL.runk 2 [2] [(2, .bool (!x11))] (by kernel_rfl) ?_
  refine WL.nil ?_
  refine WQ.then_normal (hK10 _ _ _ ?_)
  refine WP.ret ?_
  obtain rfl := Option.some.inj hm
  exact WQ.ret1 _ rfl rfl ⟨rfl, hb16⟩

theorem c_82_71 (n : Nat) (s_0 : List STake) (a0' : Option Addr) (c0' : Nat) (w : World) {r : Int} (hm : m_slices_IndexFunc_impl_Take_impl_Take_f71 n s_0 = some r) (h0 : Rd fTake.ty w a0' s_0) (_hle0 : s_0.length ≤ c0') :
    CallV Try.prog 82 #[.slice a0' s_0.length c0', .func (.func 71) #[] #[]] w (fun v w' => v = .int .i64 r ∧ Ext w w') := by
  unfold m_slices_IndexFunc_impl_Take_impl_Take_f71 at hm
  refine CallV.enter Try.func82 rfl (by kernel_rfl) Try.ntmps82 (env := [(0, .slice a0' s_0.length c0'), (1, .func (.func 71) #[] #[])]) ⟨rfl, rfl, trivial⟩ ?_
  refine WP.seq (fun K1 hK1 => ?_)
  refine WP.region ?_
  refine WL.runk 1 [0, 1] [(0, .slice a0' s_0.length c0'), (1, .func (.func 71) #[] #[])] (by kernel_rfl) ?_
  refine WL.nil ?_
  refine WQ.then_normal (hK1 _ _ _ ?_)
  refine WP.seq (fun K2 hK2 => ?_)
  refine WP.seq (fun K3 hK3 => ?_)
  refine WP.region ?_
  refine WL.runk 3 [0, 1, 7, 8] [(0, .slice a0' s_0.length c0'), (1, .func (.func 71) #[] #[]), (7, .int .i64 (s_0.length : Int)), (8, .int .i64 0)] (by kernel_rfl) ?_
  refine WL.nil ?_
  refine WQ.then_normal (hK3 _ _ _ ?_)
  refine WP.block ?_
  obtain ⟨t15, ht16, hm⟩ := bindE hm
  have hmo10 := hm; clear hm
  refine WP.sub [(0, .slice a0' s_0.length c0'), (1, .func (.func 71) #[] #[]), (7, .int .i64 (s_0.length : Int)), (8, .int .i64 0)] ⟨rfl, rfl, rfl, rfl, trivial⟩ ?_
  refine WP.loop (fun n' env' w' => ∃ (st4 : Int) , env' = [(0, .slice a0' s_0.length c0'), (1, .func (.func 71) #[] #[]), (7, .int .i64 (s_0.length : Int)), (8, .int .i64 st4)] ∧ Ext w w' ∧ w.heap.size ≤ w'.heap.size ∧ SH w' w.heap.size [] ∧ loopN (m_slices_IndexFunc_impl_Take_impl_Take_f71_l1 n s_0) n' st4 = some t15) n ⟨0, rfl, (Ext.refl w), (Nat.le_refl _), (SH.nil _ _), ht16⟩ ?_
  rintro n12 _ w5 ⟨st4, rfl, hb6, hL7, hS8, hl9⟩ K11 hK11
  obtain ⟨n13, s14, rfl, hm, hl9⟩ := loopN_some hl9
  unfold m_slices_IndexFunc_impl_Take_impl_Take_f71_l1 at hm
  refine WP.seq (fun K17 hK17 => ?_)
  refine WP.region ?_
  refine WL.runk 1 [0, 1, 7, 8, 9] [(0, .slice a0' s_0.length c0'), (1, .func (.func 71) #[] #[]), (7, .int .i64 (s_0.length : Int)), (8, .int .i64 st4), (9, .bool (decide (st4 < (s_0.length : Int))))] (by kernel_rfl) ?_
  refine WL.nil ?_
  refine WQ.then_normal (hK17 _ _ _ ?_)
  refine WP.seq (fun K18 hK18 => ?_)
  refine WP.cond (decide (st4 < (s_0.length : Int))) rfl rfl (fun hc19 => ?_) (fun hc19 => ?_)
  rotate_left
  · have hm := iteF hm hc19
    refine WP.exit ?_
    refine WQ.then_exit ?_
    refine WQ.then_exit ?_
    refine WQ.block_here ?_
    obtain rfl := Option.some.inj hm
    obtain rfl := afterN_done hl9
    have hm := hmo10
    refine WQ.then_normal (hK2 _ _ _ ?_)
    refine WP.seq (fun K35 hK35 => ?_)
    refine WP.region ?_
    refine WL.runk 1 [4] [(4, .int .i64 (-1))] (by kernel_rfl) ?_
    refine WL.nil ?_
    refine WQ.then_normal (hK35 _ _ _ ?_)
    refine WP.ret ?_
    obtain rfl := Option.some.inj hm
    exact WQ.ret1 _ rfl rfl ⟨rfl, hb6⟩
  have hm := iteT hm hc19
  refine WP.skip ?_
  refine WQ.then_normal (hK18 _ _ _ ?_)
  refine WP.seq (fun K20 hK20 => ?_)
  refine WP.block ?_
  refine WP.seq (fun K21 hK21 => ?_)
  refine WP.region ?_
  refine WL.runk 2 [0, 1, 5, 7, 8] [(0, .slice a0' s_0.length c0'), (1, .func (.func 71) #[] #[]), (7, .int .i64 (s_0.length : Int)), (8, .int .i64 st4), (5, .int .i64 st4)] (by kernel_rfl) ?_
  refine WL.nil ?_
  refine WQ.then_normal (hK21 _ _ _ ?_)
  refine WP.seq (fun K22 hK22 => ?_)
  refine WP.region ?_
  refine WL.runk 3 [0, 1, 5, 7, 8, 11, 12, 13] [(0, .slice a0' s_0.length c0'), (1, .func (.func 71) #[] #[]), (7, .int .i64 (s_0.length : Int)), (8, .int .i64 st4), (5, .int .i64 st4), (11, .func (.func 71) #[] #[]), (12, .slice a0' s_0.length c0'), (13, .int .i64 st4)] (by kernel_rfl) ?_
  obtain ⟨x23, hx24, hm⟩ := bindE hm
  refine WL.st (.pointer (some (at_ a0' (Int.toNat st4 * 2)))) (ST.index (T := fTake.ty) (xs := s_0) (Rd.below h0 hb6) hx24 rfl rfl rfl Try.underlying30 (info43).1 (info43).2.1) rfl rfl rfl ?_
  refine WL.st (.agg #[.string (bs x23.Name), .int .i64 x23.Many]) (ST.loadAgg (vs := fTake.leaf x23) (fun j v hv => Rd.flatA (F := fTake) (Rd.below h0 hb6) hx24 j hv) rfl rfl rfl Try.underlying43 rfl (info43).1 (info43).2.1) rfl rfl rfl ?_
  obtain ⟨x25, hx26, hm⟩ := bindE hm
  refine WL.call 71 #[.agg #[.string (bs x23.Name), .int .i64 x23.Many]] rfl rfl (by kernel_rfl) (c_71 n x23 w5 hx26 ) ?_
  rintro _ w27 ⟨rfl, hE28⟩
  refine ⟨_, rfl, ?_⟩
  have hb30 : Ext w w27 := Ext.trans hb6 hE28
  have hL31 : w.heap.size ≤ w27.heap.size := Nat.le_trans hL7 hE28.size
  have hS32 : SH w27 w.heap.size [] := SH.ext hS8 hE28
  refine WL.sub [(0, .slice a0' s_0.length c0'), (1, .func (.func 71) #[] #[]), (7, .int .i64 (s_0.length : Int)), (8, .int .i64 st4), (5, .int .i64 st4), (16, .bool x25)] ⟨rfl, rfl, rfl, rfl, rfl, rfl, trivial⟩ ?_
  refine WL.nil ?_
  refine WQ.then_normal (hK22 _ _ _ ?_)
  refine WP.cond x25 rfl rfl (fun hc33 => ?_) (fun hc33 => ?_)
  rotate_left
  · have hm := iteF hm hc33
    refine WP.skip ?_
    refine WQ.block_normal ?_
    refine WQ.then_normal (hK20 _ _ _ ?_)
    refine WP.region ?_
    refine WL.runk 2 [0, 1, 7, 8] [(0, .slice a0' s_0.length c0'), (1, .func (.func 71) #[] #[]), (7, .int .i64 (s_0.length : Int)), (8, .int .i64 (wI64 (st4 + 1)))] (by kernel_rfl) ?_
    refine WL.nil ?_
    obtain rfl := Option.some.inj hm
    exact WQ.round hK11 ⟨(wI64 (st4 + 1)), rfl, hb30, hL31, hS32, hl9⟩ (Nat.lt_succ_self _) ⟨rfl, rfl, rfl, rfl, trivial⟩
  have hm := iteT hm hc33
  refine WP.seq (fun K34 hK34 => ?_)
  refine WP.region ?_
  refine WL.runk 2 [4] [(4, .int .i64 st4)] (by kernel_rfl) ?_
  refine WL.nil ?_
  refine WQ.then_normal (hK34 _ _ _ ?_)
  refine WP.ret ?_
  refine WQ.block_ret ?_
  refine WQ.then_ret ?_
  refine WQ.then_ret ?_
  refine WQ.block_ret ?_
  refine WQ.then_ret ?_
  obtain rfl := Option.some.inj hm
  obtain rfl := afterN_done hl9
  have hm := hmo10
  obtain rfl := Option.some.inj hm
  exact WQ.ret1 _ rfl rfl ⟨rfl, hb30⟩

theorem c_65_71 (n : Nat) (s_0 : List STake) (a0' : Option Addr) (c0' : Nat) (w : World) {r : Bool} (hm : m_slices_ContainsFunc_impl_Take_impl_Take_f71 n s_0 = some r) (h0 : Rd fTake.ty w a0' s_0) (hle0 : s_0.length ≤ c0') :
    CallV Try.prog 65 #[.slice a0' s_0.length c0', .func (.func 71) #[] #[]] w (fun v w' => v = .bool r ∧ Ext w w') := by
  unfold m_slices_ContainsFunc_impl_Take_impl_Take_f71 at hm
  refine CallV.enter Try.func65 rfl (by kernel_rfl) Try.ntmps65 (env := [(0, .slice a0' s_0.length c0'), (1, .func (.func 71) #[] #[])]) ⟨rfl, rfl, trivial⟩ ?_
  refine WP.seq (fun K1 hK1 => ?_)
  refine WP.region ?_
  refine WL.runk 1 [0, 1] [(0, .slice a0' s_0.length c0'), (1, .func (.func 71) #[] #[])] (by kernel_rfl) ?_
  refine WL.nil ?_
  refine WQ.then_normal (hK1 _ _ _ ?_)
  refine WP.seq (fun K2 hK2 => ?_)
  refine WP.region ?_
  refine WL.runk 2 [5, 6] [(5, .slice a0' s_0.length c0'), (6, .func (.func 71) #[] #[])] (by kernel_rfl) ?_
  obtain ⟨x3, hx4, hm⟩ := bindE hm
  refine WL.call 82 #[.slice a0' s_0.length c0', .func (.func 71) #[] #[]] rfl rfl (by kernel_rfl) (c_82_71 n s_0 a0' c0' w hx4 (Rd.below h0 (Ext.refl w)) hle0) ?_
  rintro _ w5 ⟨rfl, hE6⟩
  refine ⟨_, rfl, ?_⟩
  have hb8 : Ext w w5 := Ext.trans (Ext.refl w) hE6
  have hL9 : w.heap.size ≤ w5.heap.size := Nat.le_trans (Nat.le_refl _) hE6.size
  have hS10 : SH w5 w.heap.size [] := SH.ext (SH.nil _ _) hE6
  refine WL.runk 2 [4] [(4, .bool (decide (x3 ≥ 0)))] (by kernel_rfl) ?_
  refine WL.nil ?_
  refine WQ.then_normal (hK2 _ _ _ ?_)
  refine WP.ret ?_
  obtain rfl := Option.some.inj hm
  exact WQ.ret1 _ rfl rfl ⟨rfl, hb8⟩

theorem c_44 (n : Nat) (list_0 : List SGood) (a0' : Option Addr) (c0' : Nat) (takes_1 : List STake) (a1' : Option Addr) (c1' : Nat) (w : World) {r : List SGood × Int × Int} (hm : m_impl_ChangeGoods n list_0 takes_1 = some r) (h0 : Rd fGood.ty w a0' list_0) (hle0 : list_0.length ≤ c0') (h1 : Rd fTake.ty w a1' takes_1) (hle1 : takes_1.length ≤ c1') :
    CallV Try.prog 44 #[.slice a0' list_0.length c0', .slice a1' takes_1.length c1'] w (fun v w' => ∃ (ra0 : Option Addr) (rc0 : Nat), v = .tuple #[.slice ra0 r.1.length rc0, .int .i64 r.2.1, .int .i64 r.2.2] ∧ Ext w w' ∧ SH w' w.heap.size [aOwn fGood 56 ra0 rc0 r.1]) := by
  unfold m_impl_ChangeGoods at hm
  refine CallV.enter Try.func44 rfl (by kernel_rfl) Try.ntmps44 (env := [(0, .slice a0' list_0.length c0'), (1, .slice a1' takes_1.length c1')]) ⟨rfl, rfl, trivial⟩ ?_
  refine WP.seq (fun K1 hK1 => ?_)
  refine WP.region ?_
  refine WL.runk 3 [0, 1] [(0, .slice a0' list_0.length c0'), (1, .slice a1' takes_1.length c1')] (by kernel_rfl) ?_
  refine WL.nil ?_
  refine WQ.then_normal (hK1 _ _ _ ?_)
  refine WP.seq (fun K2 hK2 => ?_)
  refine WP.block ?_
  refine WP.seq (fun K3 hK3 => ?_)
  refine WP.region ?_
  refine WL.runk 1 [0, 1, 13] [(0, .slice a0' list_0.length c0'), (1, .slice a1' takes_1.length c1'), (13, .slice a0' list_0.length c0')] (by kernel_rfl) ?_
  obtain ⟨x4, hx5, hm⟩ := bindE hm
  refine WL.call 19 #[.slice a0' list_0.length c0'] rfl rfl (by kernel_rfl) (c_19 n list_0 a0' c0' w hx5 (Rd.below h0 (Ext.refl w)) hle0) ?_
  rintro _ w6 ⟨rfl, hE7⟩
  refine ⟨_, rfl, ?_⟩
  have hb9 : Ext w w6 := Ext.trans (Ext.refl w) hE7
  have hL10 : w.heap.size ≤ w6.heap.size := Nat.le_trans (Nat.le_refl _) hE7.size
  have hS11 : SH w6 w.heap.size [] := SH.ext (SH.nil _ _) hE7
  refine WL.runk 2 [0, 1, 12] [(0, .slice a0' list_0.length c0'), (1, .slice a1' takes_1.length c1'), (12, .bool (!x4))] (by kernel_rfl) ?_
  refine WL.nil ?_
  refine WQ.then_normal (hK3 _ _ _ ?_)
  refine WP.cond (!x4) rfl rfl (fun hc12 => ?_) (fun hc12 => ?_)
  · have hm := iteT hm hc12
    refine WP.seq (fun K13 hK13 => ?_)
    refine WP.region ?_
    refine WL.runk 3 [4, 5, 6] [(4, .slice none 0 0), (5, .int .i64 0), (6, .int .i64 1)] (by kernel_rfl) ?_
    refine WL.nil ?_
    refine WQ.then_normal (hK13 _ _ _ ?_)
    refine WP.ret ?_
    refine WQ.block_ret ?_
    refine WQ.then_ret ?_
    obtain rfl := Option.some.inj hm
    have hS15 : SH w6 w.heap.size [aOwn fGood 56 none 0 ([] : List SGood)] := SH.nilOwn hS11
    exact WQ.ret3 _ _ _ rfl rfl rfl rfl ⟨_, _, rfl, hb9, hS15⟩
  have hm := iteF hm hc12
  refine WP.seq (fun K16 hK16 => ?_)
  obtain ⟨x26, hx27, hm⟩ := bindE hm
  refine WP.cut (fun env' w' => env' = [(0, .slice a0' list_0.length c0'), (1, .slice a1' takes_1.length c1'), (16, .bool x26)] ∧ Ext w w' ∧ w.heap.size ≤ w'.heap.size ∧ SH w' w.heap.size []) ?_ ?_
  · have hm := hx27; clear hx27
    refine WP.region ?_
    refine WL.runk 4 [0, 1, 20] [(0, .slice a0' list_0.length c0'), (1, .slice a1' takes_1.length c1'), (20, .bool (decide ((takes_1.length : Int) > 60)))] (by kernel_rfl) ?_
    refine WL.case (decide ((takes_1.length : Int) > 60)) [20] ⟨rfl, trivial⟩ (fun hc28 => ?_) (fun hc28 => ?_)
    · have hm := iteT hm hc28
      refine WL.runk 4 [0, 1, 16] [(0, .slice a0' list_0.length c0'), (1, .slice a1' takes_1.length c1'), (16, .bool true)] (by kernel_rfl) ?_
      refine WL.nil ?_
      obtain rfl := Option.some.inj hm
      exact WQ.post' ⟨rfl, hb9, hL10, hS11⟩ ⟨rfl, rfl, rfl, trivial⟩
    have hm := iteF hm hc28
    refine WL.runk 1 [0, 1, 20, 21] [(0, .slice a0' list_0.length c0'), (1, .slice a1' takes_1.length c1'), (20, .bool false), (21, .slice a1' takes_1.length c1')] (by kernel_rfl) ?_
    obtain ⟨x29, hx30, hm⟩ := bindE hm
    refine WL.call 65 #[.slice a1' takes_1.length c1', .func (.func 71) #[] #[]] rfl rfl (by kernel_rfl) (c_65_71 n takes_1 a1' c1' w6 hx30 (Rd.below h1 hb9) hle1) ?_
    rintro _ w31 ⟨rfl, hE32⟩
    refine ⟨_, rfl, ?_⟩
    have hb34 : Ext w w31 := Ext.trans hb9 hE32
    have hL35 : w.heap.size ≤ w31.heap.size := Nat.le_trans hL10 hE32.size
    have hS36 : SH w31 w.heap.size [] := SH.ext hS11 hE32
    refine WL.runk 2 [0, 1, 16] [(0, .slice a0' list_0.length c0'), (1, .slice a1' takes_1.length c1'), (16, .bool x29)] (by kernel_rfl) ?_
    refine WL.nil ?_
    obtain rfl := Option.some.inj hm
    exact WQ.post' ⟨rfl, hb34, hL35, hS36⟩ ⟨rfl, rfl, rfl, trivial⟩
  clear hx27
  rintro _ w37 ⟨rfl, hb38, hL39, hS40⟩
  refine WQ.then_normal (hK16 _ _ _ ?_)
  refine WP.cond x26 rfl rfl (fun hc41 => ?_) (fun hc41 => ?_)
  · have hm := iteT hm hc41
    refine WP.seq (fun K42 hK42 => ?_)
    refine WP.region ?_
    refine WL.runk 3 [4, 5, 6] [(4, .slice none 0 0), (5, .int .i64 0), (6, .int .i64 2)] (by kernel_rfl) ?_
    refine WL.nil ?_
    refine WQ.then_normal (hK42 _ _ _ ?_)
    refine WP.ret ?_
    refine WQ.block_ret ?_
    refine WQ.then_ret ?_
    obtain rfl := Option.some.inj hm
    have hS44 : SH w37 w.heap.size [aOwn fGood 56 none 0 ([] : List SGood)] := SH.nilOwn hS40
    exact WQ.ret3 _ _ _ rfl rfl rfl rfl ⟨_, _, rfl, hb38, hS44⟩
  have hm := iteF hm hc41
  refine WP.skip ?_
  refine WQ.block_normal ?_
  refine WQ.then_normal (hK2 _ _ _ ?_)
  refine WP.seq (fun K45 hK45 => ?_)
  refine WP.region ?_
  refine WL.runk 1 [0, 1, 24] [(0, .slice a0' list_0.length c0'), (1, .slice a1' takes_1.length c1'), (24, .slice a0' list_0.length c0')] (by kernel_rfl) ?_
  obtain ⟨x46, hx47, hm⟩ := bindE hm
  refine WL.call 58 #[.slice a0' list_0.length c0'] rfl rfl (by kernel_rfl) (c_58 n list_0 a0' c0' w37 hx47 (Rd.below h0 hb38) hle0) ?_
  rintro _ w51 ⟨a48, c49, rfl, hE52, hR53⟩
  refine ⟨_, rfl, ?_⟩
  have hb54 : Ext w w51 := Ext.trans hb38 hE52
  have hL55 : w.heap.size ≤ w51.heap.size := Nat.le_trans hL39 hE52.size
  have hS56 : SH w51 w.heap.size [aOwn fGood 56 a48 c49 x46] := SH.add hS40 hE52 hL39 hR53
  refine WL.runk 1 [0, 1, 7] [(0, .slice a0' list_0.length c0'), (1, .slice a1' takes_1.length c1'), (7, .slice a48 x46.length c49)] (by kernel_rfl) ?_
  refine WL.nil ?_
  refine WQ.then_normal (hK45 _ _ _ ?_)
  refine WP.seq (fun K57 hK57 => ?_)
  refine WP.seq (fun K58 hK58 => ?_)
  refine WP.region ?_
  refine WL.runk 3 [0, 7, 26, 27, 28] [(0, .slice a0' list_0.length c0'), (7, .slice a48 x46.length c49), (26, .slice a1' takes_1.length c1'), (27, .int .i64 (takes_1.length : Int)), (28, .int .i64 0)] (by kernel_rfl) ?_
  refine WL.nil ?_
  refine WQ.then_normal (hK58 _ _ _ ?_)
  refine WP.block ?_
  obtain ⟨t73, ht74, hm⟩ := bindE hm
  have hmo68 := hm; clear hm
  refine WP.sub [(0, .slice a0' list_0.length c0'), (7, .slice a48 x46.length c49), (26, .slice a1' takes_1.length c1'), (27, .int .i64 (takes_1.length : Int)), (28, .int .i64 0)] ⟨rfl, rfl, rfl, rfl, rfl, trivial⟩ ?_
  refine WP.loop (fun n' env' w' => ∃ (st59 : List SGood × Int) (a60 : Option Addr) (c61 : Nat), env' = [(0, .slice a0' list_0.length c0'), (7, .slice a60 st59.1.length c61), (26, .slice a1' takes_1.length c1'), (27, .int .i64 (takes_1.length : Int)), (28, .int .i64 st59.2)] ∧ Ext w w' ∧ w.heap.size ≤ w'.heap.size ∧ SH w' w.heap.size [aOwn fGood 56 a60 c61 st59.1] ∧ loopN (m_impl_ChangeGoods_l1 n list_0 takes_1) n' st59 = some t73) n ⟨(x46, 0), _, _, rfl, hb54, hL55, hS56, ht74⟩ ?_
  rintro n70 _ w63 ⟨st59, a60, c61, rfl, hb64, hL65, hS66, hl67⟩ K69 hK69
  obtain ⟨n71, s72, rfl, hm, hl67⟩ := loopN_some hl67
  unfold m_impl_ChangeGoods_l1 at hm
  refine WP.seq (fun K75 hK75 => ?_)
  refine WP.region ?_
  refine WL.runk 1 [0, 7, 26, 27, 28, 29] [(0, .slice a0' list_0.length c0'), (7, .slice a60 st59.1.length c61), (26, .slice a1' takes_1.length c1'), (27, .int .i64 (takes_1.length : Int)), (28, .int .i64 st59.2), (29, .bool (decide (st59.2 < (takes_1.length : Int))))] (by kernel_rfl) ?_
  refine WL.nil ?_
  refine WQ.then_normal (hK75 _ _ _ ?_)
  refine WP.seq (fun K76 hK76 => ?_)
  refine WP.cond (decide (st59.2 < (takes_1.length : Int))) rfl rfl (fun hc77 => ?_) (fun hc77 => ?_)
  rotate_left
  · have hm := iteF hm hc77
    refine WP.exit ?_
    refine WQ.then_exit ?_
    refine WQ.then_exit ?_
    refine WQ.block_here ?_
    obtain rfl := Option.some.inj hm
    obtain rfl := afterN_done hl67
    have hm := hmo68
    refine WQ.then_normal (hK57 _ _ _ ?_)
    refine WP.seq (fun K122 hK122 => ?_)
    refine WP.region ?_
    refine WL.runk 4 [4, 5, 6] [(4, .slice a60 st59.1.length c61), (5, .int .i64 (-1)), (6, .int .i64 0)] (by kernel_rfl) ?_
    refine WL.nil ?_
    refine WQ.then_normal (hK122 _ _ _ ?_)
    refine WP.ret ?_
    obtain rfl := Option.some.inj hm
    exact WQ.ret3 _ _ _ rfl rfl rfl rfl ⟨_, _, rfl, hb64, hS66⟩
  have hm := iteT hm hc77
  refine WP.skip ?_
  refine WQ.then_normal (hK76 _ _ _ ?_)
  refine WP.seq (fun K78 hK78 => ?_)
  refine WP.block ?_
  refine WP.seq (fun K79 hK79 => ?_)
  refine WP.region ?_
  refine WL.runk 1 [0, 7, 26, 27, 28, 30] [(0, .slice a0' list_0.length c0'), (7, .slice a60 st59.1.length c61), (26, .slice a1' takes_1.length c1'), (27, .int .i64 (takes_1.length : Int)), (28, .int .i64 st59.2), (30, .int .i64 st59.2)] (by kernel_rfl) ?_
  obtain ⟨x80, hx81, hm⟩ := bindE hm
  refine WL.st (.pointer (some (at_ a1' (Int.toNat st59.2 * 2)))) (ST.index (T := fTake.ty) (xs := takes_1) (Rd.below h1 hb64) hx81 rfl rfl rfl Try.underlying30 (info43).1 (info43).2.1) rfl rfl rfl ?_
  refine WL.st (.agg #[.string (bs x80.Name), .int .i64 x80.Many]) (ST.loadAgg (vs := fTake.leaf x80) (fun j v hv => Rd.flatA (F := fTake) (Rd.below h1 hb64) hx81 j hv) rfl rfl rfl Try.underlying43 rfl (info43).1 (info43).2.1) rfl rfl rfl ?_
  refine WL.box 43 [.string (bs []), .int .i64 0] 9 (by kernel_rfl) rfl rfl rfl rfl ?_
  intro b82 w83 hE84 hR85
  have hb87 : Ext w w83 := Ext.trans hb64 hE84
  have hL88 : w.heap.size ≤ w83.heap.size := Nat.le_trans hL65 hE84.size
  have hS89 : SH w83 w.heap.size [aBox 43 b82 [.string (bs []), .int .i64 0], aOwn fGood 56 a60 c61 st59.1] := SH.add hS66 hE84 hL65 hR85
  refine WL.runk 1 [0, 7, 8, 9, 26, 27, 28, 32] [(0, .slice a0' list_0.length c0'), (7, .slice a60 st59.1.length c61), (26, .slice a1' takes_1.length c1'), (27, .int .i64 (takes_1.length : Int)), (28, .int .i64 st59.2), (32, .agg #[.string (bs x80.Name), .int .i64 x80.Many]), (9, .pointer (some ⟨b82, 0, none⟩)), (8, .int .i64 st59.2)] (by kernel_rfl) ?_
  refine WL.boxStore 0 [.string (bs x80.Name), .int .i64 x80.Many] [.string (bs x80.Name), .int .i64 x80.Many] (SH.front 0 hS89) hL88 rfl rfl rfl rfl rfl rfl rfl (info43).1 (info43).2.1 rfl rfl rfl ?_
  intro w90 hB91 hS92
  have hb93 : Ext w w90 := Below.trans hb87 hB91
  have hL94 : w.heap.size ≤ w90.heap.size := Nat.le_trans hL88 hB91.size
  refine WL.sub [(0, .slice a0' list_0.length c0'), (7, .slice a60 st59.1.length c61), (26, .slice a1' takes_1.length c1'), (27, .int .i64 (takes_1.length : Int)), (28, .int .i64 st59.2), (9, .pointer (some ⟨b82, 0, none⟩)), (8, .int .i64 st59.2)] ⟨rfl, rfl, rfl, rfl, rfl, rfl, rfl, trivial⟩ ?_
  refine WL.nil ?_
  refine WQ.then_normal (hK79 _ _ _ ?_)
  refine WP.seq (fun K95 hK95 => ?_)
  refine WP.region ?_
  refine WL.runk 1 [0, 8, 9, 26, 27, 28, 34] [(0, .slice a0' list_0.length c0'), (26, .slice a1' takes_1.length c1'), (27, .int .i64 (takes_1.length : Int)), (28, .int .i64 st59.2), (9, .pointer (some ⟨b82, 0, none⟩)), (8, .int .i64 st59.2), (34, .slice a60 st59.1.length c61)] (by kernel_rfl) ?_
  refine WL.st (.agg #[.string (bs x80.Name), .int .i64 x80.Many]) (ST.loadAgg (vs := [.string (bs x80.Name), .int .i64 x80.Many]) (fun j v hv => SH.boxPart (us := [.string (bs x80.Name), .int .i64 x80.Many]) (SH.front 0 hS92) 0 rfl j v hv) rfl rfl rfl Try.underlying43 rfl (info43).1 (info43).2.1) rfl rfl rfl ?_
  obtain ⟨x96, hx97, hm⟩ := bindE hm
  refine WL.call 62 #[.slice a60 st59.1.length c61, .agg #[.string (bs x80.Name), .int .i64 x80.Many]] rfl rfl (by kernel_rfl) (c_62 n st59.1 a60 c61 x80 w90 hx97 (SH.rd (SH.front 1 hS92)) (SH.le (SH.front 1 hS92)).1) ?_
  rintro _ w101 ⟨a98, c99, rfl, hE102, hR103⟩
  refine ⟨_, rfl, ?_⟩
  have hb104 : Ext w w101 := Ext.trans hb93 hE102
  have hL105 : w.heap.size ≤ w101.heap.size := Nat.le_trans hL94 hE102.size
  have hS106 : SH w101 w.heap.size [aOwn fGood 56 a98 c99 x96.1, aBox 43 b82 [.string (bs x80.Name), .int .i64 x80.Many], aOwn fGood 56 a60 c61 st59.1] := SH.add hS92 hE102 hL94 hR103
  refine WL.runk 5 [0, 8, 10, 11, 26, 27, 28] [(0, .slice a0' list_0.length c0'), (26, .slice a1' takes_1.length c1'), (27, .int .i64 (takes_1.length : Int)), (28, .int .i64 st59.2), (8, .int .i64 st59.2), (10, .slice a98 x96.1.length c99), (11, .int .i64 x96.2)] (by kernel_rfl) ?_
  refine WL.nil ?_
  refine WQ.then_normal (hK95 _ _ _ ?_)
  refine WP.seq (fun K107 hK107 => ?_)
  refine WP.seq (fun K108 hK108 => ?_)
  refine WP.region ?_
  refine WL.runk 2 [0, 8, 10, 26, 27, 28, 40] [(0, .slice a0' list_0.length c0'), (26, .slice a1' takes_1.length c1'), (27, .int .i64 (takes_1.length : Int)), (28, .int .i64 st59.2), (8, .int .i64 st59.2), (10, .slice a98 x96.1.length c99), (40, .bool (x96.2 != 0))] (by kernel_rfl) ?_
  refine WL.nil ?_
  refine WQ.then_normal (hK108 _ _ _ ?_)
  refine WP.cond (x96.2 != 0) rfl rfl (fun hc109 => ?_) (fun hc109 => ?_)
  rotate_left
  · have hm := iteF hm hc109
    refine WP.skip ?_
    refine WQ.then_normal (hK107 _ _ _ ?_)
    refine WP.region ?_
    refine WL.runk 2 [0, 7, 26, 27, 28] [(0, .slice a0' list_0.length c0'), (26, .slice a1' takes_1.length c1'), (27, .int .i64 (takes_1.length : Int)), (28, .int .i64 st59.2), (7, .slice a98 x96.1.length c99)] (by kernel_rfl) ?_
    refine WL.nil ?_
    refine WQ.block_normal ?_
    refine WQ.then_normal (hK78 _ _ _ ?_)
    refine WP.region ?_
    refine WL.runk 2 [0, 7, 26, 27, 28] [(0, .slice a0' list_0.length c0'), (26, .slice a1' takes_1.length c1'), (27, .int .i64 (takes_1.length : Int)), (28, .int .i64 (wI64 (st59.2 + 1))), (7, .slice a98 x96.1.length c99)] (by kernel_rfl) ?_
    refine WL.nil ?_
    obtain rfl := Option.some.inj hm
    exact WQ.round hK69 ⟨(x96.1, (wI64 (st59.2 + 1))), _, _, rfl, hb104, hL105, (SH.take 1 hS106), hl67⟩ (Nat.lt_succ_self _) ⟨rfl, rfl, rfl, rfl, rfl, trivial⟩
  have hm := iteT hm hc109
  refine WP.seq (fun K110 hK110 => ?_)
  refine WP.region ?_
  refine WL.runk 1 [8, 41] [(8, .int .i64 st59.2), (41, .slice a0' list_0.length c0')] (by kernel_rfl) ?_
  obtain ⟨x111, hx112, hm⟩ := bindE hm
  refine WL.call 58 #[.slice a0' list_0.length c0'] rfl rfl (by kernel_rfl) (c_58 n list_0 a0' c0' w101 hx112 (Rd.below h0 hb104) hle0) ?_
  rintro _ w116 ⟨a113, c114, rfl, hE117, hR118⟩
  refine ⟨_, rfl, ?_⟩
  have hb119 : Ext w w116 := Ext.trans hb104 hE117
  have hL120 : w.heap.size ≤ w116.heap.size := Nat.le_trans hL105 hE117.size
  have hS121 : SH w116 w.heap.size [aOwn fGood 56 a113 c114 x111, aOwn fGood 56 a98 c99 x96.1, aBox 43 b82 [.string (bs x80.Name), .int .i64 x80.Many], aOwn fGood 56 a60 c61 st59.1] := SH.add hS106 hE117 hL105 hR118
  refine WL.runk 4 [4, 5, 6] [(4, .slice a113 x111.length c114), (5, .int .i64 st59.2), (6, .int .i64 0)] (by kernel_rfl) ?_
  refine WL.nil ?_
  refine WQ.then_normal (hK110 _ _ _ ?_)
  refine WP.ret ?_
  refine WQ.then_ret ?_
  refine WQ.block_ret ?_
  refine WQ.then_ret ?_
  refine WQ.then_ret ?_
  refine WQ.block_ret ?_
  refine WQ.then_ret ?_
  obtain rfl := Option.some.inj hm
  obtain rfl := afterN_done hl67
  have hm := hmo68
  obtain rfl := Option.some.inj hm
  exact WQ.ret3 _ _ _ rfl rfl rfl rfl ⟨_, _, rfl, hb119, (SH.take 1 hS121)⟩

theorem c_11 (n : Nat) (aList_0 : List SGood) (a0' : Option Addr) (c0' : Nat) (aTakes_1 : List STake) (a1' : Option Addr) (c1' : Nat) (w : World) {r : Bool} (hm : m_laws_FnExactChangeGoods n aList_0 aTakes_1 = some r) (h0 : Rd fGood.ty w a0' aList_0) (hle0 : aList_0.length ≤ c0') (h1 : Rd fTake.ty w a1' aTakes_1) (hle1 : aTakes_1.length ≤ c1') :
    CallV Try.prog 11 #[.slice a0' aList_0.length c0', .slice a1' aTakes_1.length c1'] w (fun v w' => v = .bool r ∧ Ext w w') := by
  unfold m_laws_FnExactChangeGoods at hm
  refine CallV.enter Try.func11 rfl (by kernel_rfl) Try.ntmps11 (env := [(0, .slice a0' aList_0.length c0'), (1, .slice a1' aTakes_1.length c1')]) ⟨rfl, rfl, trivial⟩ ?_
  refine WP.seq (fun K1 hK1 => ?_)
  refine WP.region ?_
  refine WL.runk 1 [0, 1] [(0, .slice a0' aList_0.length c0'), (1, .slice a1' aTakes_1.length c1')] (by kernel_rfl) ?_
  refine WL.nil ?_
  refine WQ.then_normal (hK1 _ _ _ ?_)
  refine WP.seq (fun K2 hK2 => ?_)
  refine WP.region ?_
  refine WL.runk 1 [0, 1, 5] [(0, .slice a0' aList_0.length c0'), (1, .slice a1' aTakes_1.length c1'), (5, .int .i64 1048576)] (by kernel_rfl) ?_
  refine WL.nil ?_
  refine WQ.then_normal (hK2 _ _ _ ?_)
  refine WP.seq (fun K3 hK3 => ?_)
  refine WP.region ?_
  refine WL.runk 2 [0, 1, 20, 21] [(0, .slice a0' aList_0.length c0'), (1, .slice a1' aTakes_1.length c1'), (20, .slice a0' aList_0.length c0'), (21, .int .i64 1048576)] (by kernel_rfl) ?_
  obtain ⟨x4, hx5, hm⟩ := bindE hm
  refine WL.call 13 #[.slice a0' aList_0.length c0', .int .i64 1048576] rfl rfl (by kernel_rfl) (c_13 n aList_0 a0' c0' 1048576 w hx5 (Rd.below h0 (Ext.refl w)) hle0) ?_
  rintro _ w6 ⟨rfl, hE7⟩
  refine ⟨_, rfl, ?_⟩
  have hb9 : Ext w w6 := Ext.trans (Ext.refl w) hE7
  have hL10 : w.heap.size ≤ w6.heap.size := Nat.le_trans (Nat.le_refl _) hE7.size
  have hS11 : SH w6 w.heap.size [] := SH.ext (SH.nil _ _) hE7
  refine WL.runk 1 [0, 1, 5] [(0, .slice a0' aList_0.length c0'), (1, .slice a1' aTakes_1.length c1'), (5, .int .i64 x4)] (by kernel_rfl) ?_
  refine WL.nil ?_
  refine WQ.then_normal (hK3 _ _ _ ?_)
  refine WP.seq (fun K12 hK12 => ?_)
  refine WP.seq (fun K13 hK13 => ?_)
  refine WP.region ?_
  refine WL.runk 2 [0, 1, 5, 24] [(0, .slice a0' aList_0.length c0'), (1, .slice a1' aTakes_1.length c1'), (5, .int .i64 x4), (24, .bool (decide (x4 < 0)))] (by kernel_rfl) ?_
  refine WL.nil ?_
  refine WQ.then_normal (hK13 _ _ _ ?_)
  refine WP.cond (decide (x4 < 0)) rfl rfl (fun hc14 => ?_) (fun hc14 => ?_)
  · have hm := iteT hm hc14
    refine WP.seq (fun K15 hK15 => ?_)
    refine WP.region ?_
    refine WL.runk 1 [4] [(4, .bool true)] (by kernel_rfl) ?_
    refine WL.nil ?_
    refine WQ.then_normal (hK15 _ _ _ ?_)
    refine WP.ret ?_
    refine WQ.then_ret ?_
    obtain rfl := Option.some.inj hm
    exact WQ.ret1 _ rfl rfl ⟨rfl, hb9⟩
  have hm := iteF hm hc14
  refine WP.skip ?_
  refine WQ.then_normal (hK12 _ _ _ ?_)
  refine WP.seq (fun K16 hK16 => ?_)
  refine WP.region ?_
  refine WL.runk 2 [0, 1, 25, 26] [(0, .slice a0' aList_0.length c0'), (1, .slice a1' aTakes_1.length c1'), (25, .slice a1' aTakes_1.length c1'), (26, .int .i64 x4)] (by kernel_rfl) ?_
  obtain ⟨x17, hx18, hm⟩ := bindE hm
  refine WL.call 35 #[.slice a1' aTakes_1.length c1', .int .i64 x4] rfl rfl (by kernel_rfl) (c_35 n aTakes_1 a1' c1' x4 w6 hx18 (Rd.below h1 hb9) hle1) ?_
  rintro _ w19 ⟨rfl, hE20⟩
  refine ⟨_, rfl, ?_⟩
  have hb22 : Ext w w19 := Ext.trans hb9 hE20
  have hL23 : w.heap.size ≤ w19.heap.size := Nat.le_trans hL10 hE20.size
  have hS24 : SH w19 w.heap.size [] := SH.ext hS11 hE20
  refine WL.runk 1 [0, 1, 5] [(0, .slice a0' aList_0.length c0'), (1, .slice a1' aTakes_1.length c1'), (5, .int .i64 x17)] (by kernel_rfl) ?_
  refine WL.nil ?_
  refine WQ.then_normal (hK16 _ _ _ ?_)
  refine WP.seq (fun K25 hK25 => ?_)
  refine WP.seq (fun K26 hK26 => ?_)
  refine WP.region ?_
  refine WL.runk 2 [0, 1, 29] [(0, .slice a0' aList_0.length c0'), (1, .slice a1' aTakes_1.length c1'), (29, .bool (decide (x17 < 0)))] (by kernel_rfl) ?_
  refine WL.nil ?_
  refine WQ.then_normal (hK26 _ _ _ ?_)
  refine WP.cond (decide (x17 < 0)) rfl rfl (fun hc27 => ?_) (fun hc27 => ?_)
  · have hm := iteT hm hc27
    refine WP.seq (fun K28 hK28 => ?_)
    refine WP.region ?_
    refine WL.runk 1 [4] [(4, .bool true)] (by kernel_rfl) ?_
    refine WL.nil ?_
    refine WQ.then_normal (hK28 _ _ _ ?_)
    refine WP.ret ?_
    refine WQ.then_ret ?_
    obtain rfl := Option.some.inj hm
    exact WQ.ret1 _ rfl rfl ⟨rfl, hb22⟩
  have hm := iteF hm hc27
  refine WP.skip ?_
  refine WQ.then_normal (hK25 _ _ _ ?_)
  refine WP.seq (fun K29 hK29 => ?_)
  refine WP.region ?_
  refine WL.runk 1 [0, 1, 31] [(0, .slice a0' aList_0.length c0'), (1, .slice a1' aTakes_1.length c1'), (31, .slice a0' aList_0.length c0')] (by kernel_rfl) ?_
  obtain ⟨x30, hx31, hm⟩ := bindE hm
  refine WL.call 15 #[.slice a0' aList_0.length c0'] rfl rfl (by kernel_rfl) (c_15 n aList_0 a0' c0' w19 hx31 (Rd.below h0 hb22) hle0) ?_
  rintro _ w35 ⟨a32, c33, rfl, hE36, hR37⟩
  refine ⟨_, rfl, ?_⟩
  have hb38 : Ext w w35 := Ext.trans hb22 hE36
  have hL39 : w.heap.size ≤ w35.heap.size := Nat.le_trans hL23 hE36.size
  have hS40 : SH w35 w.heap.size [aOwn fGood 56 a32 c33 x30] := SH.add hS24 hE36 hL23 hR37
  refine WL.runk 1 [0, 1, 32, 33] [(0, .slice a0' aList_0.length c0'), (1, .slice a1' aTakes_1.length c1'), (32, .slice a32 x30.length c33), (33, .slice a1' aTakes_1.length c1')] (by kernel_rfl) ?_
  obtain ⟨x41, hx42, hm⟩ := bindE hm
  refine WL.call 37 #[.slice a1' aTakes_1.length c1'] rfl rfl (by kernel_rfl) (c_37 n aTakes_1 a1' c1' w35 hx42 (Rd.below h1 hb38) hle1) ?_
  rintro _ w46 ⟨a43, c44, rfl, hE47, hR48⟩
  refine ⟨_, rfl, ?_⟩
  have hb49 : Ext w w46 := Ext.trans hb38 hE47
  have hL50 : w.heap.size ≤ w46.heap.size := Nat.le_trans hL39 hE47.size
  have hS51 : SH w46 w.heap.size [aOwn fTake 43 a43 c44 x41, aOwn fGood 56 a32 c33 x30] := SH.add hS40 hE47 hL39 hR48
  obtain ⟨x52, hx53, hm⟩ := bindE hm
  refine WL.call 43 #[.slice a32 x30.length c33, .slice a43 x41.length c44] rfl rfl (by kernel_rfl) (c_43 n x30 a32 c33 x41 a43 c44 w46 hx53 (SH.rd (SH.front 1 hS51)) (SH.le (SH.front 1 hS51)).1 (SH.rd (SH.front 0 hS51)) (SH.le (SH.front 0 hS51)).1) ?_
  rintro _ w57 ⟨a54, c55, rfl, hE58, hR59⟩
  refine ⟨_, rfl, ?_⟩
  have hb60 : Ext w w57 := Ext.trans hb49 hE58
  have hL61 : w.heap.size ≤ w57.heap.size := Nat.le_trans hL50 hE58.size
  have hS62 : SH w57 w.heap.size [aOwn fGood 56 a54 c55 x52.1, aOwn fTake 43 a43 c44 x41, aOwn fGood 56 a32 c33 x30] := SH.add hS51 hE58 hL50 hR59
  refine WL.runk 7 [0, 1, 6, 7, 8] [(0, .slice a0' aList_0.length c0'), (1, .slice a1' aTakes_1.length c1'), (6, .slice a54 x52.1.length c55), (7, .int .i64 x52.2.1), (8, .int .i64 x52.2.2)] (by kernel_rfl) ?_
  refine WL.nil ?_
  refine WQ.then_normal (hK29 _ _ _ ?_)
  refine WP.seq (fun K63 hK63 => ?_)
  refine WP.region ?_
  refine WL.runk 1 [0, 1, 6, 7, 8, 39] [(0, .slice a0' aList_0.length c0'), (1, .slice a1' aTakes_1.length c1'), (6, .slice a54 x52.1.length c55), (7, .int .i64 x52.2.1), (8, .int .i64 x52.2.2), (39, .slice a0' aList_0.length c0')] (by kernel_rfl) ?_
  obtain ⟨x64, hx65, hm⟩ := bindE hm
  refine WL.call 15 #[.slice a0' aList_0.length c0'] rfl rfl (by kernel_rfl) (c_15 n aList_0 a0' c0' w57 hx65 (Rd.below h0 hb60) hle0) ?_
  rintro _ w69 ⟨a66, c67, rfl, hE70, hR71⟩
  refine ⟨_, rfl, ?_⟩
  have hb72 : Ext w w69 := Ext.trans hb60 hE70
  have hL73 : w.heap.size ≤ w69.heap.size := Nat.le_trans hL61 hE70.size
  have hS74 : SH w69 w.heap.size [aOwn fGood 56 a66 c67 x64, aOwn fGood 56 a54 c55 x52.1, aOwn fTake 43 a43 c44 x41, aOwn fGood 56 a32 c33 x30] := SH.add hS62 hE70 hL61 hR71
  refine WL.runk 1 [0, 1, 6, 7, 8, 9] [(0, .slice a0' aList_0.length c0'), (1, .slice a1' aTakes_1.length c1'), (6, .slice a54 x52.1.length c55), (7, .int .i64 x52.2.1), (8, .int .i64 x52.2.2), (9, .slice a66 x64.length c67)] (by kernel_rfl) ?_
  refine WL.nil ?_
  refine WQ.then_normal (hK63 _ _ _ ?_)
  refine WP.seq (fun K75 hK75 => ?_)
  refine WP.region ?_
  refine WL.runk 1 [0, 1, 6, 7, 8, 9, 41] [(0, .slice a0' aList_0.length c0'), (1, .slice a1' aTakes_1.length c1'), (6, .slice a54 x52.1.length c55), (7, .int .i64 x52.2.1), (8, .int .i64 x52.2.2), (9, .slice a66 x64.length c67), (41, .slice a1' aTakes_1.length c1')] (by kernel_rfl) ?_
  obtain ⟨x76, hx77, hm⟩ := bindE hm
  refine WL.call 37 #[.slice a1' aTakes_1.length c1'] rfl rfl (by kernel_rfl) (c_37 n aTakes_1 a1' c1' w69 hx77 (Rd.below h1 hb72) hle1) ?_
  rintro _ w81 ⟨a78, c79, rfl, hE82, hR83⟩
  refine ⟨_, rfl, ?_⟩
  have hb84 : Ext w w81 := Ext.trans hb72 hE82
  have hL85 : w.heap.size ≤ w81.heap.size := Nat.le_trans hL73 hE82.size
  have hS86 : SH w81 w.heap.size [aOwn fTake 43 a78 c79 x76, aOwn fGood 56 a66 c67 x64, aOwn fGood 56 a54 c55 x52.1, aOwn fTake 43 a43 c44 x41, aOwn fGood 56 a32 c33 x30] := SH.add hS74 hE82 hL73 hR83
  refine WL.runk 1 [0, 1, 6, 7, 8, 9, 10] [(0, .slice a0' aList_0.length c0'), (1, .slice a1' aTakes_1.length c1'), (6, .slice a54 x52.1.length c55), (7, .int .i64 x52.2.1), (8, .int .i64 x52.2.2), (9, .slice a66 x64.length c67), (10, .slice a78 x76.length c79)] (by kernel_rfl) ?_
  refine WL.nil ?_
  refine WQ.then_normal (hK75 _ _ _ ?_)
  refine WP.seq (fun K87 hK87 => ?_)
  refine WP.region ?_
  refine WL.runk 2 [0, 1, 6, 7, 8, 9, 10, 44, 45] [(0, .slice a0' aList_0.length c0'), (1, .slice a1' aTakes_1.length c1'), (6, .slice a54 x52.1.length c55), (7, .int .i64 x52.2.1), (8, .int .i64 x52.2.2), (9, .slice a66 x64.length c67), (10, .slice a78 x76.length c79), (44, .slice a66 x64.length c67), (45, .slice a78 x76.length c79)] (by kernel_rfl) ?_
  obtain ⟨x88, hx89, hm⟩ := bindE hm
  refine WL.call 44 #[.slice a66 x64.length c67, .slice a78 x76.length c79] rfl rfl (by kernel_rfl) (c_44 n x64 a66 c67 x76 a78 c79 w81 hx89 (SH.rd (SH.front 1 hS86)) (SH.le (SH.front 1 hS86)).1 (SH.rd (SH.front 0 hS86)) (SH.le (SH.front 0 hS86)).1) ?_
  rintro _ w93 ⟨a90, c91, rfl, hE94, hR95⟩
  refine ⟨_, rfl, ?_⟩
  have hb96 : Ext w w93 := Ext.trans hb84 hE94
  have hL97 : w.heap.size ≤ w93.heap.size := Nat.le_trans hL85 hE94.size
  have hS98 : SH w93 w.heap.size [aOwn fGood 56 a90 c91 x88.1, aOwn fTake 43 a78 c79 x76, aOwn fGood 56 a66 c67 x64, aOwn fGood 56 a54 c55 x52.1, aOwn fTake 43 a43 c44 x41, aOwn fGood 56 a32 c33 x30] := SH.add hS86 hE94 hL85 hR95
  refine WL.runk 7 [0, 1, 6, 7, 8, 9, 10, 11, 12, 13] [(0, .slice a0' aList_0.length c0'), (1, .slice a1' aTakes_1.length c1'), (6, .slice a54 x52.1.length c55), (7, .int .i64 x52.2.1), (8, .int .i64 x52.2.2), (9, .slice a66 x64.length c67), (10, .slice a78 x76.length c79), (11, .slice a90 x88.1.length c91), (12, .int .i64 x88.2.1), (13, .int .i64 x88.2.2)] (by kernel_rfl) ?_
  refine WL.nil ?_
  refine WQ.then_normal (hK87 _ _ _ ?_)
  refine WP.seq (fun K99 hK99 => ?_)
  refine WP.seq (fun K100 hK100 => ?_)
  obtain ⟨x111, hx112, hm⟩ := bindE hm
  refine WP.cut (fun env' w' => env' = [(0, .slice a0' aList_0.length c0'), (1, .slice a1' aTakes_1.length c1'), (6, .slice a54 x52.1.length c55), (7, .int .i64 x52.2.1), (8, .int .i64 x52.2.2), (9, .slice a66 x64.length c67), (10, .slice a78 x76.length c79), (11, .slice a90 x88.1.length c91), (12, .int .i64 x88.2.1), (13, .int .i64 x88.2.2), (63, .bool x111)] ∧ Ext w w' ∧ w.heap.size ≤ w'.heap.size ∧ SH w' w.heap.size [aOwn fGood 56 a90 c91 x88.1, aOwn fTake 43 a78 c79 x76, aOwn fGood 56 a66 c67 x64, aOwn fGood 56 a54 c55 x52.1, aOwn fTake 43 a43 c44 x41, aOwn fGood 56 a32 c33 x30]) ?_ ?_
  · have hm := hx112; clear hx112
    refine WP.region ?_
    refine WL.runk 2 [0, 1, 6, 7, 8, 9, 10, 11, 12, 13, 50, 51] [(0, .slice a0' aList_0.length c0'), (1, .slice a1' aTakes_1.length c1'), (6, .slice a54 x52.1.length c55), (7, .int .i64 x52.2.1), (8, .int .i64 x52.2.2), (9, .slice a66 x64.length c67), (10, .slice a78 x76.length c79), (11, .slice a90 x88.1.length c91), (12, .int .i64 x88.2.1), (13, .int .i64 x88.2.2), (50, .slice a90 x88.1.length c91), (51, .slice a54 x52.1.length c55)] (by kernel_rfl) ?_
    obtain ⟨x113, hx114, hm⟩ := bindE hm
    refine WL.call 17 #[.slice a90 x88.1.length c91, .slice a54 x52.1.length c55] rfl rfl (by kernel_rfl) (c_17 n x88.1 a90 c91 x52.1 a54 c55 w93 hx114 (SH.rd (SH.front 0 hS98)) (SH.le (SH.front 0 hS98)).1 (SH.rd (SH.front 3 hS98)) (SH.le (SH.front 3 hS98)).1) ?_
    rintro _ w115 ⟨rfl, hE116⟩
    refine ⟨_, rfl, ?_⟩
    have hb118 : Ext w w115 := Ext.trans hb96 hE116
    have hL119 : w.heap.size ≤ w115.heap.size := Nat.le_trans hL97 hE116.size
    have hS120 : SH w115 w.heap.size [aOwn fGood 56 a90 c91 x88.1, aOwn fTake 43 a78 c79 x76, aOwn fGood 56 a66 c67 x64, aOwn fGood 56 a54 c55 x52.1, aOwn fTake 43 a43 c44 x41, aOwn fGood 56 a32 c33 x30] := SH.ext hS98 hE116
    refine WL.runk 2 [0, 1, 6, 7, 8, 9, 10, 11, 12, 13, 54] [(0, .slice a0' aList_0.length c0'), (1, .slice a1' aTakes_1.length c1'), (6, .slice a54 x52.1.length c55), (7, .int .i64 x52.2.1), (8, .int .i64 x52.2.2), (9, .slice a66 x64.length c67), (10, .slice a78 x76.length c79), (11, .slice a90 x88.1.length c91), (12, .int .i64 x88.2.1), (13, .int .i64 x88.2.2), (54, .bool (!x113))] (by kernel_rfl) ?_
    refine WL.case (!x113) [54] ⟨rfl, trivial⟩ (fun hc121 => ?_) (fun hc121 => ?_)
    · have hm := iteT hm hc121
      refine WL.runk 9 [0, 1, 6, 7, 8, 9, 10, 11, 12, 13, 63] [(0, .slice a0' aList_0.length c0'), (1, .slice a1' aTakes_1.length c1'), (6, .slice a54 x52.1.length c55), (7, .int .i64 x52.2.1), (8, .int .i64 x52.2.2), (9, .slice a66 x64.length c67), (10, .slice a78 x76.length c79), (11, .slice a90 x88.1.length c91), (12, .int .i64 x88.2.1), (13, .int .i64 x88.2.2), (63, .bool true)] (by kernel_rfl) ?_
      refine WL.nil ?_
      obtain rfl := Option.some.inj hm
      exact WQ.post' ⟨rfl, hb118, hL119, hS120⟩ ⟨rfl, rfl, rfl, rfl, rfl, rfl, rfl, rfl, rfl, rfl, rfl, trivial⟩
    have hm := iteF hm hc121
    refine WL.runk 5 [0, 1, 6, 7, 8, 9, 10, 11, 12, 13, 59] [(0, .slice a0' aList_0.length c0'), (1, .slice a1' aTakes_1.length c1'), (6, .slice a54 x52.1.length c55), (7, .int .i64 x52.2.1), (8, .int .i64 x52.2.2), (9, .slice a66 x64.length c67), (10, .slice a78 x76.length c79), (11, .slice a90 x88.1.length c91), (12, .int .i64 x88.2.1), (13, .int .i64 x88.2.2), (59, .bool (x88.2.1 != x52.2.1))] (by kernel_rfl) ?_
    refine WL.case (x88.2.1 != x52.2.1) [59] ⟨rfl, trivial⟩ (fun hc122 => ?_) (fun hc122 => ?_)
    · have hm := iteT hm hc122
      refine WL.runk 4 [0, 1, 6, 7, 8, 9, 10, 11, 12, 13, 63] [(0, .slice a0' aList_0.length c0'), (1, .slice a1' aTakes_1.length c1'), (6, .slice a54 x52.1.length c55), (7, .int .i64 x52.2.1), (8, .int .i64 x52.2.2), (9, .slice a66 x64.length c67), (10, .slice a78 x76.length c79), (11, .slice a90 x88.1.length c91), (12, .int .i64 x88.2.1), (13, .int .i64 x88.2.2), (63, .bool true)] (by kernel_rfl) ?_
      refine WL.nil ?_
      obtain rfl := Option.some.inj hm
      exact WQ.post' ⟨rfl, hb118, hL119, hS120⟩ ⟨rfl, rfl, rfl, rfl, rfl, rfl, rfl, rfl, rfl, rfl, rfl, trivial⟩
    have hm := iteF hm hc122
    refine WL.runk 4 [0, 1, 6, 7, 8, 9, 10, 11, 12, 13, 63] [(0, .slice a0' aList_0.length c0'), (1, .slice a1' aTakes_1.length c1'), (6, .slice a54 x52.1.length c55), (7, .int .i64 x52.2.1), (8, .int .i64 x52.2.2), (9, .slice a66 x64.length c67), (10, .slice a78 x76.length c79), (11, .slice a90 x88.1.length c91), (12, .int .i64 x88.2.1), (13, .int .i64 x88.2.2), (63, .bool (x88.2.2 != x52.2.2))] (by kernel_rfl) ?_
    refine WL.nil ?_
    obtain rfl := Option.some.inj hm
    exact WQ.post' ⟨rfl, hb118, hL119, hS120⟩ ⟨rfl, rfl, rfl, rfl, rfl, rfl, rfl, rfl, rfl, rfl, rfl, trivial⟩
  clear hx112
  rintro _ w123 ⟨rfl, hb124, hL125, hS126⟩
  refine WQ.then_normal (hK100 _ _ _ ?_)
  refine WP.cond x111 rfl rfl (fun hc127 => ?_) (fun hc127 => ?_)
  · have hm := iteT hm hc127
    refine WP.seq (fun K128 hK128 => ?_)
    refine WP.region ?_
    refine WL.runk 1 [4] [(4, .bool false)] (by kernel_rfl) ?_
    refine WL.nil ?_
    refine WQ.then_normal (hK128 _ _ _ ?_)
    refine WP.ret ?_
    refine WQ.then_ret ?_
    obtain rfl := Option.some.inj hm
    exact WQ.ret1 _ rfl rfl ⟨rfl, hb124⟩
  have hm := iteF hm hc127
  refine WP.skip ?_
  refine WQ.then_normal (hK99 _ _ _ ?_)
  refine WP.seq (fun K129 hK129 => ?_)
  refine WP.seq (fun K130 hK130 => ?_)
  refine WP.region ?_
  refine WL.runk 2 [0, 1, 6, 7, 8, 9, 10, 11, 12, 13, 64, 65] [(0, .slice a0' aList_0.length c0'), (1, .slice a1' aTakes_1.length c1'), (6, .slice a54 x52.1.length c55), (7, .int .i64 x52.2.1), (8, .int .i64 x52.2.2), (9, .slice a66 x64.length c67), (10, .slice a78 x76.length c79), (11, .slice a90 x88.1.length c91), (12, .int .i64 x88.2.1), (13, .int .i64 x88.2.2), (64, .slice a66 x64.length c67), (65, .slice a0' aList_0.length c0')] (by kernel_rfl) ?_
  obtain ⟨x131, hx132, hm⟩ := bindE hm
  refine WL.call 15 #[.slice a0' aList_0.length c0'] rfl rfl (by kernel_rfl) (c_15 n aList_0 a0' c0' w123 hx132 (Rd.below h0 hb124) hle0) ?_
  rintro _ w136 ⟨a133, c134, rfl, hE137, hR138⟩
  refine ⟨_, rfl, ?_⟩
  have hb139 : Ext w w136 := Ext.trans hb124 hE137
  have hL140 : w.heap.size ≤ w136.heap.size := Nat.le_trans hL125 hE137.size
  have hS141 : SH w136 w.heap.size [aOwn fGood 56 a133 c134 x131, aOwn fGood 56 a90 c91 x88.1, aOwn fTake 43 a78 c79 x76, aOwn fGood 56 a66 c67 x64, aOwn fGood 56 a54 c55 x52.1, aOwn fTake 43 a43 c44 x41, aOwn fGood 56 a32 c33 x30] := SH.add hS126 hE137 hL125 hR138
  obtain ⟨x142, hx143, hm⟩ := bindE hm
  refine WL.call 17 #[.slice a66 x64.length c67, .slice a133 x131.length c134] rfl rfl (by kernel_rfl) (c_17 n x64 a66 c67 x131 a133 c134 w136 hx143 (SH.rd (SH.front 3 hS141)) (SH.le (SH.front 3 hS141)).1 (SH.rd (SH.front 0 hS141)) (SH.le (SH.front 0 hS141)).1) ?_
  rintro _ w144 ⟨rfl, hE145⟩
  refine ⟨_, rfl, ?_⟩
  have hb147 : Ext w w144 := Ext.trans hb139 hE145
  have hL148 : w.heap.size ≤ w144.heap.size := Nat.le_trans hL140 hE145.size
  have hS149 : SH w144 w.heap.size [aOwn fGood 56 a133 c134 x131, aOwn fGood 56 a90 c91 x88.1, aOwn fTake 43 a78 c79 x76, aOwn fGood 56 a66 c67 x64, aOwn fGood 56 a54 c55 x52.1, aOwn fTake 43 a43 c44 x41, aOwn fGood 56 a32 c33 x30] := SH.ext hS141 hE145
  refine WL.runk 1 [0, 1, 6, 7, 8, 9, 10, 11, 12, 13, 68] [(0, .slice a0' aList_0.length c0'), (1, .slice a1' aTakes_1.length c1'), (6, .slice a54 x52.1.length c55), (7, .int .i64 x52.2.1), (8, .int .i64 x52.2.2), (9, .slice a66 x64.length c67), (10, .slice a78 x76.length c79), (11, .slice a90 x88.1.length c91), (12, .int .i64 x88.2.1), (13, .int .i64 x88.2.2), (68, .bool (!x142))] (by kernel_rfl) ?_
  refine WL.nil ?_
  refine WQ.then_normal (hK130 _ _ _ ?_)
  refine WP.cond (!x142) rfl rfl (fun hc150 => ?_) (fun hc150 => ?_)
  · have hm := iteT hm hc150
    refine WP.seq (fun K151 hK151 => ?_)
    refine WP.region ?_
    refine WL.runk 1 [4] [(4, .bool false)] (by kernel_rfl) ?_
    refine WL.nil ?_
    refine WQ.then_normal (hK151 _ _ _ ?_)
    refine WP.ret ?_
    refine WQ.then_ret ?_
    obtain rfl := Option.some.inj hm
    exact WQ.ret1 _ rfl rfl ⟨rfl, hb147⟩
  have hm := iteF hm hc150
  refine WP.skip ?_
  refine WQ.then_normal (hK129 _ _ _ ?_)
  refine WP.seq (fun K152 hK152 => ?_)
  refine WP.seq (fun K153 hK153 => ?_)
  refine WP.region ?_
  refine WL.runk 2 [0, 1, 6, 7, 8, 9, 10, 11, 12, 13, 69, 70] [(0, .slice a0' aList_0.length c0'), (1, .slice a1' aTakes_1.length c1'), (6, .slice a54 x52.1.length c55), (7, .int .i64 x52.2.1), (8, .int .i64 x52.2.2), (9, .slice a66 x64.length c67), (10, .slice a78 x76.length c79), (11, .slice a90 x88.1.length c91), (12, .int .i64 x88.2.1), (13, .int .i64 x88.2.2), (69, .slice a78 x76.length c79), (70, .slice a1' aTakes_1.length c1')] (by kernel_rfl) ?_
  obtain ⟨x154, hx155, hm⟩ := bindE hm
  refine WL.call 37 #[.slice a1' aTakes_1.length c1'] rfl rfl (by kernel_rfl) (c_37 n aTakes_1 a1' c1' w144 hx155 (Rd.below h1 hb147) hle1) ?_
  rintro _ w159 ⟨a156, c157, rfl, hE160, hR161⟩
  refine ⟨_, rfl, ?_⟩
  have hb162 : Ext w w159 := Ext.trans hb147 hE160
  have hL163 : w.heap.size ≤ w159.heap.size := Nat.le_trans hL148 hE160.size
  have hS164 : SH w159 w.heap.size [aOwn fTake 43 a156 c157 x154, aOwn fGood 56 a133 c134 x131, aOwn fGood 56 a90 c91 x88.1, aOwn fTake 43 a78 c79 x76, aOwn fGood 56 a66 c67 x64, aOwn fGood 56 a54 c55 x52.1, aOwn fTake 43 a43 c44 x41, aOwn fGood 56 a32 c33 x30] := SH.add hS149 hE160 hL148 hR161
  obtain ⟨x165, hx166, hm⟩ := bindE hm
  refine WL.call 22 #[.slice a78 x76.length c79, .slice a156 x154.length c157] rfl rfl (by kernel_rfl) (c_22 n x76 a78 c79 x154 a156 c157 w159 hx166 (SH.rd (SH.front 3 hS164)) (SH.le (SH.front 3 hS164)).1 (SH.rd (SH.front 0 hS164)) (SH.le (SH.front 0 hS164)).1) ?_
  rintro _ w167 ⟨rfl, hE168⟩
  refine ⟨_, rfl, ?_⟩
  have hb170 : Ext w w167 := Ext.trans hb162 hE168
  have hL171 : w.heap.size ≤ w167.heap.size := Nat.le_trans hL163 hE168.size
  have hS172 : SH w167 w.heap.size [aOwn fTake 43 a156 c157 x154, aOwn fGood 56 a133 c134 x131, aOwn fGood 56 a90 c91 x88.1, aOwn fTake 43 a78 c79 x76, aOwn fGood 56 a66 c67 x64, aOwn fGood 56 a54 c55 x52.1, aOwn fTake 43 a43 c44 x41, aOwn fGood 56 a32 c33 x30] := SH.ext hS164 hE168
  refine WL.runk 1 [0, 1, 6, 7, 8, 9, 10, 11, 12, 13, 73] [(0, .slice a0' aList_0.length c0'), (1, .slice a1' aTakes_1.length c1'), (6, .slice a54 x52.1.length c55), (7, .int .i64 x52.2.1), (8, .int .i64 x52.2.2), (9, .slice a66 x64.length c67), (10, .slice a78 x76.length c79), (11, .slice a90 x88.1.length c91), (12, .int .i64 x88.2.1), (13, .int .i64 x88.2.2), (73, .bool (!x165))] (by kernel_rfl) ?_
  refine WL.nil ?_
  refine WQ.then_normal (hK153 _ _ _ ?_)
  refine WP.cond (!x165) rfl rfl (fun hc173 => ?_) (fun hc173 => ?_)
  · have hm := iteT hm hc173
    refine WP.seq (fun K174 hK174 => ?_)
    refine WP.region ?_
    refine WL.runk 1 [4] [(4, .bool false)] (by kernel_rfl) ?_
    refine WL.nil ?_
    refine WQ.then_normal (hK174 _ _ _ ?_)
    refine WP.ret ?_
    refine WQ.then_ret ?_
    obtain rfl := Option.some.inj hm
    exact WQ.ret1 _ rfl rfl ⟨rfl, hb170⟩
  have hm := iteF hm hc173
  refine WP.skip ?_
  refine WQ.then_normal (hK152 _ _ _ ?_)
  refine WP.seq (fun K175 hK175 => ?_)
  refine WP.region ?_
  refine WL.runk 1 [0, 1, 6, 7, 8, 9, 10, 11, 12, 13, 14] [(0, .slice a0' aList_0.length c0'), (1, .slice a1' aTakes_1.length c1'), (6, .slice a54 x52.1.length c55), (7, .int .i64 x52.2.1), (8, .int .i64 x52.2.2), (9, .slice a66 x64.length c67), (10, .slice a78 x76.length c79), (11, .slice a90 x88.1.length c91), (12, .int .i64 x88.2.1), (13, .int .i64 x88.2.2), (14, .int .i64 1)] (by kernel_rfl) ?_
  refine WL.nil ?_
  refine WQ.then_normal (hK175 _ _ _ ?_)
  refine WP.seq (fun K176 hK176 => ?_)
  refine WP.region ?_
  refine WL.runk 2 [0, 1, 6, 7, 8, 10, 11, 12, 13, 74, 75] [(0, .slice a0' aList_0.length c0'), (1, .slice a1' aTakes_1.length c1'), (6, .slice a54 x52.1.length c55), (7, .int .i64 x52.2.1), (8, .int .i64 x52.2.2), (10, .slice a78 x76.length c79), (11, .slice a90 x88.1.length c91), (12, .int .i64 x88.2.1), (13, .int .i64 x88.2.2), (74, .slice a66 x64.length c67), (75, .int .i64 1)] (by kernel_rfl) ?_
  obtain ⟨x177, hx178, hm⟩ := bindE hm
  refine WL.call 23 #[.slice a66 x64.length c67, .int .i64 1] rfl rfl (by kernel_rfl) (c_23 n x64 a66 c67 1 w167 w w.heap.size [aOwn fTake 43 a156 c157 x154, aOwn fGood 56 a133 c134 x131, aOwn fGood 56 a90 c91 x88.1, aOwn fTake 43 a78 c79 x76, aOwn fGood 56 a54 c55 x52.1, aOwn fTake 43 a43 c44 x41, aOwn fGood 56 a32 c33 x30] hx178 hb170 (Nat.le_refl _) hL171  (SH.front 7 (SH.front 6 (SH.front 6 (SH.front 6 (SH.front 6 (SH.front 7 (SH.front 7 (SH.front 7 hS172))))))))) ?_
  rintro _ w179 ⟨rfl, hB183, hS182, hlen184⟩
  refine ⟨_, rfl, ?_⟩
  have hb185 : Ext w w179 := Below.trans hb170 hB183
  have hL186 : w.heap.size ≤ w179.heap.size := Nat.le_trans hL171 hB183.size
  refine WL.sub [(0, .slice a0' aList_0.length c0'), (1, .slice a1' aTakes_1.length c1'), (6, .slice a54 x52.1.length c55), (7, .int .i64 x52.2.1), (8, .int .i64 x52.2.2), (10, .slice a78 x76.length c79), (11, .slice a90 x88.1.length c91), (12, .int .i64 x88.2.1), (13, .int .i64 x88.2.2), (74, .slice a66 x177.2.length c67), (75, .int .i64 1), (76, .int .i64 x177.1)] ⟨rfl, rfl, rfl, rfl, rfl, rfl, rfl, rfl, rfl, by rw [hlen184]; rfl, rfl, rfl, trivial⟩ ?_
  refine WL.runk 1 [0, 1, 6, 7, 8, 10, 11, 12, 13, 14] [(0, .slice a0' aList_0.length c0'), (1, .slice a1' aTakes_1.length c1'), (6, .slice a54 x52.1.length c55), (7, .int .i64 x52.2.1), (8, .int .i64 x52.2.2), (10, .slice a78 x76.length c79), (11, .slice a90 x88.1.length c91), (12, .int .i64 x88.2.1), (13, .int .i64 x88.2.2), (14, .int .i64 x177.1)] (by kernel_rfl) ?_
  refine WL.nil ?_
  refine WQ.then_normal (hK176 _ _ _ ?_)
  refine WP.seq (fun K187 hK187 => ?_)
  refine WP.region ?_
  refine WL.runk 2 [0, 1, 6, 7, 8, 11, 12, 13, 77, 78] [(0, .slice a0' aList_0.length c0'), (1, .slice a1' aTakes_1.length c1'), (6, .slice a54 x52.1.length c55), (7, .int .i64 x52.2.1), (8, .int .i64 x52.2.2), (11, .slice a90 x88.1.length c91), (12, .int .i64 x88.2.1), (13, .int .i64 x88.2.2), (77, .slice a78 x76.length c79), (78, .int .i64 x177.1)] (by kernel_rfl) ?_
  obtain ⟨x188, hx189, hm⟩ := bindE hm
  refine WL.call 24 #[.slice a78 x76.length c79, .int .i64 x177.1] rfl rfl (by kernel_rfl) (c_24 n x76 a78 c79 x177.1 w179 w w.heap.size [aOwn fGood 56 a66 c67 x177.2, aOwn fTake 43 a156 c157 x154, aOwn fGood 56 a133 c134 x131, aOwn fGood 56 a90 c91 x88.1, aOwn fGood 56 a54 c55 x52.1, aOwn fTake 43 a43 c44 x41, aOwn fGood 56 a32 c33 x30] hx189 hb185 (Nat.le_refl _) hL186  (SH.front 7 (SH.front 6 (SH.front 6 (SH.front 6 (SH.front 6 (SH.front 7 (SH.front 7 (SH.front 7 hS182))))))))) ?_
  rintro _ w190 ⟨rfl, hB194, hS193, hlen195⟩
  refine ⟨_, rfl, ?_⟩
  have hb196 : Ext w w190 := Below.trans hb185 hB194
  have hL197 : w.heap.size ≤ w190.heap.size := Nat.le_trans hL186 hB194.size
  refine WL.sub [(0, .slice a0' aList_0.length c0'), (1, .slice a1' aTakes_1.length c1'), (6, .slice a54 x52.1.length c55), (7, .int .i64 x52.2.1), (8, .int .i64 x52.2.2), (11, .slice a90 x88.1.length c91), (12, .int .i64 x88.2.1), (13, .int .i64 x88.2.2), (77, .slice a78 x188.2.length c79), (78, .int .i64 x177.1), (79, .int .i64 x188.1)] ⟨rfl, rfl, rfl, rfl, rfl, rfl, rfl, rfl, by rw [hlen195]; rfl, rfl, rfl, trivial⟩ ?_
  refine WL.runk 1 [0, 1, 6, 7, 8, 11, 12, 13, 14] [(0, .slice a0' aList_0.length c0'), (1, .slice a1' aTakes_1.length c1'), (6, .slice a54 x52.1.length c55), (7, .int .i64 x52.2.1), (8, .int .i64 x52.2.2), (11, .slice a90 x88.1.length c91), (12, .int .i64 x88.2.1), (13, .int .i64 x88.2.2), (14, .int .i64 x188.1)] (by kernel_rfl) ?_
  refine WL.nil ?_
  refine WQ.then_normal (hK187 _ _ _ ?_)
  refine WP.seq (fun K198 hK198 => ?_)
  refine WP.seq (fun K199 hK199 => ?_)
  obtain ⟨x211, hx212, hm⟩ := bindE hm
  refine WP.cut (fun env' w' => env' = [(0, .slice a0' aList_0.length c0'), (1, .slice a1' aTakes_1.length c1'), (6, .slice a54 x52.1.length c55), (7, .int .i64 x52.2.1), (8, .int .i64 x52.2.2), (11, .slice a90 x88.1.length c91), (97, .bool x211)] ∧ Ext w w' ∧ w.heap.size ≤ w'.heap.size ∧ SH w' w.heap.size [aOwn fTake 43 a78 c79 x188.2, aOwn fGood 56 a66 c67 x177.2, aOwn fTake 43 a156 c157 x154, aOwn fGood 56 a133 c134 x131, aOwn fGood 56 a90 c91 x88.1, aOwn fGood 56 a54 c55 x52.1, aOwn fTake 43 a43 c44 x41, aOwn fGood 56 a32 c33 x30]) ?_ ?_
  · have hm := hx212; clear hx212
    refine WP.region ?_
    refine WL.runk 3 [0, 1, 6, 7, 8, 11, 12, 13, 82] [(0, .slice a0' aList_0.length c0'), (1, .slice a1' aTakes_1.length c1'), (6, .slice a54 x52.1.length c55), (7, .int .i64 x52.2.1), (8, .int .i64 x52.2.2), (11, .slice a90 x88.1.length c91), (12, .int .i64 x88.2.1), (13, .int .i64 x88.2.2), (82, .bool (decide (x188.1 < 0)))] (by kernel_rfl) ?_
    refine WL.case (decide (x188.1 < 0)) [82] ⟨rfl, trivial⟩ (fun hc213 => ?_) (fun hc213 => ?_)
    · have hm := iteT hm hc213
      refine WL.runk 15 [0, 1, 6, 7, 8, 11, 97] [(0, .slice a0' aList_0.length c0'), (1, .slice a1' aTakes_1.length c1'), (6, .slice a54 x52.1.length c55), (7, .int .i64 x52.2.1), (8, .int .i64 x52.2.2), (11, .slice a90 x88.1.length c91), (97, .bool true)] (by kernel_rfl) ?_
      refine WL.nil ?_
      obtain rfl := Option.some.inj hm
      exact WQ.post' ⟨rfl, hb196, hL197, hS193⟩ ⟨rfl, rfl, rfl, rfl, rfl, rfl, rfl, trivial⟩
    have hm := iteF hm hc213
    refine WL.runk 2 [0, 1, 6, 7, 8, 11, 12, 13, 82, 83, 84] [(0, .slice a0' aList_0.length c0'), (1, .slice a1' aTakes_1.length c1'), (6, .slice a54 x52.1.length c55), (7, .int .i64 x52.2.1), (8, .int .i64 x52.2.2), (11, .slice a90 x88.1.length c91), (12, .int .i64 x88.2.1), (13, .int .i64 x88.2.2), (82, .bool false), (83, .slice a90 x88.1.length c91), (84, .slice a54 x52.1.length c55)] (by kernel_rfl) ?_
    obtain ⟨x214, hx215, hm⟩ := bindE hm
    refine WL.call 17 #[.slice a90 x88.1.length c91, .slice a54 x52.1.length c55] rfl rfl (by kernel_rfl) (c_17 n x88.1 a90 c91 x52.1 a54 c55 w190 hx215 (SH.rd (SH.front 4 hS193)) (SH.le (SH.front 4 hS193)).1 (SH.rd (SH.front 5 hS193)) (SH.le (SH.front 5 hS193)).1) ?_
    rintro _ w216 ⟨rfl, hE217⟩
    refine ⟨_, rfl, ?_⟩
    have hb219 : Ext w w216 := Ext.trans hb196 hE217
    have hL220 : w.heap.size ≤ w216.heap.size := Nat.le_trans hL197 hE217.size
    have hS221 : SH w216 w.heap.size [aOwn fTake 43 a78 c79 x188.2, aOwn fGood 56 a66 c67 x177.2, aOwn fTake 43 a156 c157 x154, aOwn fGood 56 a133 c134 x131, aOwn fGood 56 a90 c91 x88.1, aOwn fGood 56 a54 c55 x52.1, aOwn fTake 43 a43 c44 x41, aOwn fGood 56 a32 c33 x30] := SH.ext hS193 hE217
    refine WL.runk 3 [0, 1, 6, 7, 8, 11, 12, 13, 88] [(0, .slice a0' aList_0.length c0'), (1, .slice a1' aTakes_1.length c1'), (6, .slice a54 x52.1.length c55), (7, .int .i64 x52.2.1), (8, .int .i64 x52.2.2), (11, .slice a90 x88.1.length c91), (12, .int .i64 x88.2.1), (13, .int .i64 x88.2.2), (88, .bool (!x214))] (by kernel_rfl) ?_
    refine WL.case (!x214) [88] ⟨rfl, trivial⟩ (fun hc222 => ?_) (fun hc222 => ?_)
    · have hm := iteT hm hc222
      refine WL.runk 9 [0, 1, 6, 7, 8, 11, 97] [(0, .slice a0' aList_0.length c0'), (1, .slice a1' aTakes_1.length c1'), (6, .slice a54 x52.1.length c55), (7, .int .i64 x52.2.1), (8, .int .i64 x52.2.2), (11, .slice a90 x88.1.length c91), (97, .bool true)] (by kernel_rfl) ?_
      refine WL.nil ?_
      obtain rfl := Option.some.inj hm
      exact WQ.post' ⟨rfl, hb219, hL220, hS221⟩ ⟨rfl, rfl, rfl, rfl, rfl, rfl, rfl, trivial⟩
    have hm := iteF hm hc222
    refine WL.runk 5 [0, 1, 6, 7, 8, 11, 13, 93] [(0, .slice a0' aList_0.length c0'), (1, .slice a1' aTakes_1.length c1'), (6, .slice a54 x52.1.length c55), (7, .int .i64 x52.2.1), (8, .int .i64 x52.2.2), (11, .slice a90 x88.1.length c91), (13, .int .i64 x88.2.2), (93, .bool (x88.2.1 != x52.2.1))] (by kernel_rfl) ?_
    refine WL.case (x88.2.1 != x52.2.1) [93] ⟨rfl, trivial⟩ (fun hc223 => ?_) (fun hc223 => ?_)
    · have hm := iteT hm hc223
      refine WL.runk 4 [0, 1, 6, 7, 8, 11, 97] [(0, .slice a0' aList_0.length c0'), (1, .slice a1' aTakes_1.length c1'), (6, .slice a54 x52.1.length c55), (7, .int .i64 x52.2.1), (8, .int .i64 x52.2.2), (11, .slice a90 x88.1.length c91), (97, .bool true)] (by kernel_rfl) ?_
      refine WL.nil ?_
      obtain rfl := Option.some.inj hm
      exact WQ.post' ⟨rfl, hb219, hL220, hS221⟩ ⟨rfl, rfl, rfl, rfl, rfl, rfl, rfl, trivial⟩
    have hm := iteF hm hc223
    refine WL.runk 4 [0, 1, 6, 7, 8, 11, 97] [(0, .slice a0' aList_0.length c0'), (1, .slice a1' aTakes_1.length c1'), (6, .slice a54 x52.1.length c55), (7, .int .i64 x52.2.1), (8, .int .i64 x52.2.2), (11, .slice a90 x88.1.length c91), (97, .bool (x88.2.2 != x52.2.2))] (by kernel_rfl) ?_
    refine WL.nil ?_
    obtain rfl := Option.some.inj hm
    exact WQ.post' ⟨rfl, hb219, hL220, hS221⟩ ⟨rfl, rfl, rfl, rfl, rfl, rfl, rfl, trivial⟩
  clear hx212
  rintro _ w224 ⟨rfl, hb225, hL226, hS227⟩
  refine WQ.then_normal (hK199 _ _ _ ?_)
  refine WP.cond x211 rfl rfl (fun hc228 => ?_) (fun hc228 => ?_)
  · have hm := iteT hm hc228
    refine WP.seq (fun K229 hK229 => ?_)
    refine WP.region ?_
    refine WL.runk 1 [4] [(4, .bool false)] (by kernel_rfl) ?_
    refine WL.nil ?_
    refine WQ.then_normal (hK229 _ _ _ ?_)
    refine WP.ret ?_
    refine WQ.then_ret ?_
    obtain rfl := Option.some.inj hm
    exact WQ.ret1 _ rfl rfl ⟨rfl, hb225⟩
  have hm := iteF hm hc228
  refine WP.skip ?_
  refine WQ.then_normal (hK198 _ _ _ ?_)
  refine WP.seq (fun K230 hK230 => ?_)
  refine WP.region ?_
  refine WL.runk 1 [0, 1, 6, 7, 8, 11, 15] [(0, .slice a0' aList_0.length c0'), (1, .slice a1' aTakes_1.length c1'), (6, .slice a54 x52.1.length c55), (7, .int .i64 x52.2.1), (8, .int .i64 x52.2.2), (11, .slice a90 x88.1.length c91), (15, .int .i64 1)] (by kernel_rfl) ?_
  refine WL.nil ?_
  refine WQ.then_normal (hK230 _ _ _ ?_)
  refine WP.seq (fun K231 hK231 => ?_)
  refine WP.region ?_
  refine WL.runk 2 [0, 1, 6, 7, 8, 11, 98, 99] [(0, .slice a0' aList_0.length c0'), (1, .slice a1' aTakes_1.length c1'), (6, .slice a54 x52.1.length c55), (7, .int .i64 x52.2.1), (8, .int .i64 x52.2.2), (11, .slice a90 x88.1.length c91), (98, .slice a90 x88.1.length c91), (99, .int .i64 1)] (by kernel_rfl) ?_
  obtain ⟨x232, hx233, hm⟩ := bindE hm
  refine WL.call 23 #[.slice a90 x88.1.length c91, .int .i64 1] rfl rfl (by kernel_rfl) (c_23 n x88.1 a90 c91 1 w224 w w.heap.size [aOwn fTake 43 a78 c79 x188.2, aOwn fGood 56 a66 c67 x177.2, aOwn fTake 43 a156 c157 x154, aOwn fGood 56 a133 c134 x131, aOwn fGood 56 a54 c55 x52.1, aOwn fTake 43 a43 c44 x41, aOwn fGood 56 a32 c33 x30] hx233 hb225 (Nat.le_refl _) hL226  (SH.front 7 (SH.front 6 (SH.front 6 (SH.front 6 (SH.front 6 (SH.front 7 (SH.front 7 (SH.front 7 hS227))))))))) ?_
  rintro _ w234 ⟨rfl, hB238, hS237, hlen239⟩
  refine ⟨_, rfl, ?_⟩
  have hb240 : Ext w w234 := Below.trans hb225 hB238
  have hL241 : w.heap.size ≤ w234.heap.size := Nat.le_trans hL226 hB238.size
  refine WL.sub [(0, .slice a0' aList_0.length c0'), (1, .slice a1' aTakes_1.length c1'), (6, .slice a54 x52.1.length c55), (7, .int .i64 x52.2.1), (8, .int .i64 x52.2.2), (11, .slice a90 x232.2.length c91), (98, .slice a90 x232.2.length c91), (99, .int .i64 1), (100, .int .i64 x232.1)] ⟨rfl, rfl, rfl, rfl, rfl, by rw [hlen239]; rfl, by rw [hlen239]; rfl, rfl, rfl, trivial⟩ ?_
  refine WL.runk 1 [0, 1, 6, 7, 8, 11, 15] [(0, .slice a0' aList_0.length c0'), (1, .slice a1' aTakes_1.length c1'), (6, .slice a54 x52.1.length c55), (7, .int .i64 x52.2.1), (8, .int .i64 x52.2.2), (11, .slice a90 x232.2.length c91), (15, .int .i64 x232.1)] (by kernel_rfl) ?_
  refine WL.nil ?_
  refine WQ.then_normal (hK231 _ _ _ ?_)
  refine WP.seq (fun K242 hK242 => ?_)
  refine WP.region ?_
  refine WL.runk 1 [0, 1, 6, 7, 8, 11, 15, 16] [(0, .slice a0' aList_0.length c0'), (1, .slice a1' aTakes_1.length c1'), (6, .slice a54 x52.1.length c55), (7, .int .i64 x52.2.1), (8, .int .i64 x52.2.2), (11, .slice a90 x232.2.length c91), (15, .int .i64 x232.1), (16, .int .i64 1)] (by kernel_rfl) ?_
  refine WL.nil ?_
  refine WQ.then_normal (hK242 _ _ _ ?_)
  refine WP.seq (fun K243 hK243 => ?_)
  refine WP.region ?_
  refine WL.runk 2 [0, 1, 6, 7, 8, 11, 15, 101, 102] [(0, .slice a0' aList_0.length c0'), (1, .slice a1' aTakes_1.length c1'), (6, .slice a54 x52.1.length c55), (7, .int .i64 x52.2.1), (8, .int .i64 x52.2.2), (11, .slice a90 x232.2.length c91), (15, .int .i64 x232.1), (101, .slice a90 x232.2.length c91), (102, .int .i64 1)] (by kernel_rfl) ?_
  obtain ⟨x244, hx245, hm⟩ := bindE hm
  refine WL.call 28 #[.slice a90 x232.2.length c91, .int .i64 1] rfl rfl (by kernel_rfl) (c_28 n x232.2 a90 c91 1 w234 hx245 (SH.rd (SH.front 0 hS237)) (SH.le (SH.front 0 hS237)).1) ?_
  rintro _ w246 ⟨rfl, hE247⟩
  refine ⟨_, rfl, ?_⟩
  have hb249 : Ext w w246 := Ext.trans hb240 hE247
  have hL250 : w.heap.size ≤ w246.heap.size := Nat.le_trans hL241 hE247.size
  have hS251 : SH w246 w.heap.size [aOwn fGood 56 a90 c91 x232.2, aOwn fTake 43 a78 c79 x188.2, aOwn fGood 56 a66 c67 x177.2, aOwn fTake 43 a156 c157 x154, aOwn fGood 56 a133 c134 x131, aOwn fGood 56 a54 c55 x52.1, aOwn fTake 43 a43 c44 x41, aOwn fGood 56 a32 c33 x30] := SH.ext hS237 hE247
  refine WL.runk 1 [0, 1, 6, 7, 8, 11, 15, 16] [(0, .slice a0' aList_0.length c0'), (1, .slice a1' aTakes_1.length c1'), (6, .slice a54 x52.1.length c55), (7, .int .i64 x52.2.1), (8, .int .i64 x52.2.2), (11, .slice a90 x232.2.length c91), (15, .int .i64 x232.1), (16, .int .i64 x244)] (by kernel_rfl) ?_
  refine WL.nil ?_
  refine WQ.then_normal (hK243 _ _ _ ?_)
  refine WP.seq (fun K252 hK252 => ?_)
  refine WP.seq (fun K253 hK253 => ?_)
  refine WP.region ?_
  refine WL.runk 2 [0, 1, 6, 7, 8, 11, 15, 16, 105] [(0, .slice a0' aList_0.length c0'), (1, .slice a1' aTakes_1.length c1'), (6, .slice a54 x52.1.length c55), (7, .int .i64 x52.2.1), (8, .int .i64 x52.2.2), (11, .slice a90 x232.2.length c91), (15, .int .i64 x232.1), (16, .int .i64 x244), (105, .bool (decide (x244 < 0)))] (by kernel_rfl) ?_
  refine WL.nil ?_
  refine WQ.then_normal (hK253 _ _ _ ?_)
  refine WP.cond (decide (x244 < 0)) rfl rfl (fun hc254 => ?_) (fun hc254 => ?_)
  · have hm := iteT hm hc254
    refine WP.seq (fun K255 hK255 => ?_)
    refine WP.region ?_
    refine WL.runk 1 [4] [(4, .bool false)] (by kernel_rfl) ?_
    refine WL.nil ?_
    refine WQ.then_normal (hK255 _ _ _ ?_)
    refine WP.ret ?_
    refine WQ.then_ret ?_
    obtain rfl := Option.some.inj hm
    exact WQ.ret1 _ rfl rfl ⟨rfl, hb249⟩
  have hm := iteF hm hc254
  refine WP.skip ?_
  refine WQ.then_normal (hK252 _ _ _ ?_)
  refine WP.seq (fun K256 hK256 => ?_)
  refine WP.seq (fun K257 hK257 => ?_)
  refine WP.region ?_
  refine WL.runk 3 [0, 1, 6, 7, 8, 11, 15, 108] [(0, .slice a0' aList_0.length c0'), (1, .slice a1' aTakes_1.length c1'), (6, .slice a54 x52.1.length c55), (7, .int .i64 x52.2.1), (8, .int .i64 x52.2.2), (11, .slice a90 x232.2.length c91), (15, .int .i64 x232.1), (108, .bool (x244 != x232.1))] (by kernel_rfl) ?_
  refine WL.nil ?_
  refine WQ.then_normal (hK257 _ _ _ ?_)
  refine WP.cond (x244 != x232.1) rfl rfl (fun hc258 => ?_) (fun hc258 => ?_)
  · have hm := iteT hm hc258
    refine WP.seq (fun K259 hK259 => ?_)
    refine WP.region ?_
    refine WL.runk 1 [4] [(4, .bool false)] (by kernel_rfl) ?_
    refine WL.nil ?_
    refine WQ.then_normal (hK259 _ _ _ ?_)
    refine WP.ret ?_
    refine WQ.then_ret ?_
    obtain rfl := Option.some.inj hm
    exact WQ.ret1 _ rfl rfl ⟨rfl, hb249⟩
  have hm := iteF hm hc258
  refine WP.skip ?_
  refine WQ.then_normal (hK256 _ _ _ ?_)
  refine WP.seq (fun K260 hK260 => ?_)
  refine WP.region ?_
  refine WL.runk 1 [1, 6, 7, 8, 11, 15, 110] [(1, .slice a1' aTakes_1.length c1'), (6, .slice a54 x52.1.length c55), (7, .int .i64 x52.2.1), (8, .int .i64 x52.2.2), (11, .slice a90 x232.2.length c91), (15, .int .i64 x232.1), (110, .slice a0' aList_0.length c0')] (by kernel_rfl) ?_
  obtain ⟨x261, hx262, hm⟩ := bindE hm
  refine WL.call 15 #[.slice a0' aList_0.length c0'] rfl rfl (by kernel_rfl) (c_15 n aList_0 a0' c0' w246 hx262 (Rd.below h0 hb249) hle0) ?_
  rintro _ w266 ⟨a263, c264, rfl, hE267, hR268⟩
  refine ⟨_, rfl, ?_⟩
  have hb269 : Ext w w266 := Ext.trans hb249 hE267
  have hL270 : w.heap.size ≤ w266.heap.size := Nat.le_trans hL250 hE267.size
  have hS271 : SH w266 w.heap.size [aOwn fGood 56 a263 c264 x261, aOwn fGood 56 a90 c91 x232.2, aOwn fTake 43 a78 c79 x188.2, aOwn fGood 56 a66 c67 x177.2, aOwn fTake 43 a156 c157 x154, aOwn fGood 56 a133 c134 x131, aOwn fGood 56 a54 c55 x52.1, aOwn fTake 43 a43 c44 x41, aOwn fGood 56 a32 c33 x30] := SH.add hS251 hE267 hL250 hR268
  refine WL.runk 1 [6, 7, 8, 11, 15, 111, 112] [(6, .slice a54 x52.1.length c55), (7, .int .i64 x52.2.1), (8, .int .i64 x52.2.2), (11, .slice a90 x232.2.length c91), (15, .int .i64 x232.1), (111, .slice a263 x261.length c264), (112, .slice a1' aTakes_1.length c1')] (by kernel_rfl) ?_
  obtain ⟨x272, hx273, hm⟩ := bindE hm
  refine WL.call 37 #[.slice a1' aTakes_1.length c1'] rfl rfl (by kernel_rfl) (c_37 n aTakes_1 a1' c1' w266 hx273 (Rd.below h1 hb269) hle1) ?_
  rintro _ w277 ⟨a274, c275, rfl, hE278, hR279⟩
  refine ⟨_, rfl, ?_⟩
  have hb280 : Ext w w277 := Ext.trans hb269 hE278
  have hL281 : w.heap.size ≤ w277.heap.size := Nat.le_trans hL270 hE278.size
  have hS282 : SH w277 w.heap.size [aOwn fTake 43 a274 c275 x272, aOwn fGood 56 a263 c264 x261, aOwn fGood 56 a90 c91 x232.2, aOwn fTake 43 a78 c79 x188.2, aOwn fGood 56 a66 c67 x177.2, aOwn fTake 43 a156 c157 x154, aOwn fGood 56 a133 c134 x131, aOwn fGood 56 a54 c55 x52.1, aOwn fTake 43 a43 c44 x41, aOwn fGood 56 a32 c33 x30] := SH.add hS271 hE278 hL270 hR279
  obtain ⟨x283, hx284, hm⟩ := bindE hm
  refine WL.call 44 #[.slice a263 x261.length c264, .slice a274 x272.length c275] rfl rfl (by kernel_rfl) (c_44 n x261 a263 c264 x272 a274 c275 w277 hx284 (SH.rd (SH.front 1 hS282)) (SH.le (SH.front 1 hS282)).1 (SH.rd (SH.front 0 hS282)) (SH.le (SH.front 0 hS282)).1) ?_
  rintro _ w288 ⟨a285, c286, rfl, hE289, hR290⟩
  refine ⟨_, rfl, ?_⟩
  have hb291 : Ext w w288 := Ext.trans hb280 hE289
  have hL292 : w.heap.size ≤ w288.heap.size := Nat.le_trans hL281 hE289.size
  have hS293 : SH w288 w.heap.size [aOwn fGood 56 a285 c286 x283.1, aOwn fTake 43 a274 c275 x272, aOwn fGood 56 a263 c264 x261, aOwn fGood 56 a90 c91 x232.2, aOwn fTake 43 a78 c79 x188.2, aOwn fGood 56 a66 c67 x177.2, aOwn fTake 43 a156 c157 x154, aOwn fGood 56 a133 c134 x131, aOwn fGood 56 a54 c55 x52.1, aOwn fTake 43 a43 c44 x41, aOwn fGood 56 a32 c33 x30] := SH.add hS282 hE289 hL281 hR290
  refine WL.runk 7 [6, 7, 8, 11, 15, 17, 18, 19] [(6, .slice a54 x52.1.length c55), (7, .int .i64 x52.2.1), (8, .int .i64 x52.2.2), (11, .slice a90 x232.2.length c91), (15, .int .i64 x232.1), (17, .slice a285 x283.1.length c286), (18, .int .i64 x283.2.1), (19, .int .i64 x283.2.2)] (by kernel_rfl) ?_
  refine WL.nil ?_
  refine WQ.then_normal (hK260 _ _ _ ?_)
  refine WP.seq (fun K294 hK294 => ?_)
  refine WP.seq (fun K295 hK295 => ?_)
  obtain ⟨x306, hx307, hm⟩ := bindE hm
  refine WP.cut (fun env' w' => env' = [(11, .slice a90 x232.2.length c91), (15, .int .i64 x232.1), (131, .bool x306)] ∧ Ext w w' ∧ w.heap.size ≤ w'.heap.size ∧ SH w' w.heap.size [aOwn fGood 56 a285 c286 x283.1, aOwn fTake 43 a274 c275 x272, aOwn fGood 56 a263 c264 x261, aOwn fGood 56 a90 c91 x232.2, aOwn fTake 43 a78 c79 x188.2, aOwn fGood 56 a66 c67 x177.2, aOwn fTake 43 a156 c157 x154, aOwn fGood 56 a133 c134 x131, aOwn fGood 56 a54 c55 x52.1, aOwn fTake 43 a43 c44 x41, aOwn fGood 56 a32 c33 x30]) ?_ ?_
  · have hm := hx307; clear hx307
    refine WP.region ?_
    refine WL.runk 2 [7, 8, 11, 15, 18, 19, 118, 119] [(7, .int .i64 x52.2.1), (8, .int .i64 x52.2.2), (11, .slice a90 x232.2.length c91), (15, .int .i64 x232.1), (18, .int .i64 x283.2.1), (19, .int .i64 x283.2.2), (118, .slice a285 x283.1.length c286), (119, .slice a54 x52.1.length c55)] (by kernel_rfl) ?_
    obtain ⟨x308, hx309, hm⟩ := bindE hm
    refine WL.call 17 #[.slice a285 x283.1.length c286, .slice a54 x52.1.length c55] rfl rfl (by kernel_rfl) (c_17 n x283.1 a285 c286 x52.1 a54 c55 w288 hx309 (SH.rd (SH.front 0 hS293)) (SH.le (SH.front 0 hS293)).1 (SH.rd (SH.front 8 hS293)) (SH.le (SH.front 8 hS293)).1) ?_
    rintro _ w310 ⟨rfl, hE311⟩
    refine ⟨_, rfl, ?_⟩
    have hb313 : Ext w w310 := Ext.trans hb291 hE311
    have hL314 : w.heap.size ≤ w310.heap.size := Nat.le_trans hL292 hE311.size
    have hS315 : SH w310 w.heap.size [aOwn fGood 56 a285 c286 x283.1, aOwn fTake 43 a274 c275 x272, aOwn fGood 56 a263 c264 x261, aOwn fGood 56 a90 c91 x232.2, aOwn fTake 43 a78 c79 x188.2, aOwn fGood 56 a66 c67 x177.2, aOwn fTake 43 a156 c157 x154, aOwn fGood 56 a133 c134 x131, aOwn fGood 56 a54 c55 x52.1, aOwn fTake 43 a43 c44 x41, aOwn fGood 56 a32 c33 x30] := SH.ext hS293 hE311
    refine WL.runk 2 [7, 8, 11, 15, 18, 19, 122] [(7, .int .i64 x52.2.1), (8, .int .i64 x52.2.2), (11, .slice a90 x232.2.length c91), (15, .int .i64 x232.1), (18, .int .i64 x283.2.1), (19, .int .i64 x283.2.2), (122, .bool (!x308))] (by kernel_rfl) ?_
    refine WL.case (!x308) [122] ⟨rfl, trivial⟩ (fun hc316 => ?_) (fun hc316 => ?_)
    · have hm := iteT hm hc316
      refine WL.runk 9 [11, 15, 131] [(11, .slice a90 x232.2.length c91), (15, .int .i64 x232.1), (131, .bool true)] (by kernel_rfl) ?_
      refine WL.nil ?_
      obtain rfl := Option.some.inj hm
      exact WQ.post' ⟨rfl, hb313, hL314, hS315⟩ ⟨rfl, rfl, rfl, trivial⟩
    have hm := iteF hm hc316
    refine WL.runk 5 [8, 11, 15, 19, 127] [(8, .int .i64 x52.2.2), (11, .slice a90 x232.2.length c91), (15, .int .i64 x232.1), (19, .int .i64 x283.2.2), (127, .bool (x283.2.1 != x52.2.1))] (by kernel_rfl) ?_
    refine WL.case (x283.2.1 != x52.2.1) [127] ⟨rfl, trivial⟩ (fun hc317 => ?_) (fun hc317 => ?_)
    · have hm := iteT hm hc317
      refine WL.runk 4 [11, 15, 131] [(11, .slice a90 x232.2.length c91), (15, .int .i64 x232.1), (131, .bool true)] (by kernel_rfl) ?_
      refine WL.nil ?_
      obtain rfl := Option.some.inj hm
      exact WQ.post' ⟨rfl, hb313, hL314, hS315⟩ ⟨rfl, rfl, rfl, trivial⟩
    have hm := iteF hm hc317
    refine WL.runk 4 [11, 15, 131] [(11, .slice a90 x232.2.length c91), (15, .int .i64 x232.1), (131, .bool (x283.2.2 != x52.2.2))] (by kernel_rfl) ?_
    refine WL.nil ?_
    obtain rfl := Option.some.inj hm
    exact WQ.post' ⟨rfl, hb313, hL314, hS315⟩ ⟨rfl, rfl, rfl, trivial⟩
  clear hx307
  rintro _ w318 ⟨rfl, hb319, hL320, hS321⟩
  refine WQ.then_normal (hK295 _ _ _ ?_)
  refine WP.cond x306 rfl rfl (fun hc322 => ?_) (fun hc322 => ?_)
  · have hm := iteT hm hc322
    refine WP.seq (fun K323 hK323 => ?_)
    refine WP.region ?_
    refine WL.runk 1 [4] [(4, .bool false)] (by kernel_rfl) ?_
    refine WL.nil ?_
    refine WQ.then_normal (hK323 _ _ _ ?_)
    refine WP.ret ?_
    refine WQ.then_ret ?_
    obtain rfl := Option.some.inj hm
    exact WQ.ret1 _ rfl rfl ⟨rfl, hb319⟩
  have hm := iteF hm hc322
  refine WP.skip ?_
  refine WQ.then_normal (hK294 _ _ _ ?_)
  refine WP.seq (fun K324 hK324 => ?_)
  refine WP.region ?_
  refine WL.runk 1 [11, 15, 16] [(11, .slice a90 x232.2.length c91), (15, .int .i64 x232.1), (16, .int .i64 1)] (by kernel_rfl) ?_
  refine WL.nil ?_
  refine WQ.then_normal (hK324 _ _ _ ?_)
  refine WP.seq (fun K325 hK325 => ?_)
  refine WP.region ?_
  refine WL.runk 2 [15, 132, 133] [(15, .int .i64 x232.1), (132, .slice a90 x232.2.length c91), (133, .int .i64 1)] (by kernel_rfl) ?_
  obtain ⟨x326, hx327, hm⟩ := bindE hm
  refine WL.call 28 #[.slice a90 x232.2.length c91, .int .i64 1] rfl rfl (by kernel_rfl) (c_28 n x232.2 a90 c91 1 w318 hx327 (SH.rd (SH.front 3 hS321)) (SH.le (SH.front 3 hS321)).1) ?_
  rintro _ w328 ⟨rfl, hE329⟩
  refine ⟨_, rfl, ?_⟩
  have hb331 : Ext w w328 := Ext.trans hb319 hE329
  have hL332 : w.heap.size ≤ w328.heap.size := Nat.le_trans hL320 hE329.size
  have hS333 : SH w328 w.heap.size [aOwn fGood 56 a285 c286 x283.1, aOwn fTake 43 a274 c275 x272, aOwn fGood 56 a263 c264 x261, aOwn fGood 56 a90 c91 x232.2, aOwn fTake 43 a78 c79 x188.2, aOwn fGood 56 a66 c67 x177.2, aOwn fTake 43 a156 c157 x154, aOwn fGood 56 a133 c134 x131, aOwn fGood 56 a54 c55 x52.1, aOwn fTake 43 a43 c44 x41, aOwn fGood 56 a32 c33 x30] := SH.ext hS321 hE329
  refine WL.runk 1 [15, 16] [(15, .int .i64 x232.1), (16, .int .i64 x326)] (by kernel_rfl) ?_
  refine WL.nil ?_
  refine WQ.then_normal (hK325 _ _ _ ?_)
  refine WP.seq (fun K334 hK334 => ?_)
  refine WP.seq (fun K335 hK335 => ?_)
  refine WP.region ?_
  refine WL.runk 2 [15, 16, 136] [(15, .int .i64 x232.1), (16, .int .i64 x326), (136, .bool (decide (x326 < 0)))] (by kernel_rfl) ?_
  refine WL.nil ?_
  refine WQ.then_normal (hK335 _ _ _ ?_)
  refine WP.cond (decide (x326 < 0)) rfl rfl (fun hc336 => ?_) (fun hc336 => ?_)
  · have hm := iteT hm hc336
    refine WP.seq (fun K337 hK337 => ?_)
    refine WP.region ?_
    refine WL.runk 1 [4] [(4, .bool false)] (by kernel_rfl) ?_
    refine WL.nil ?_
    refine WQ.then_normal (hK337 _ _ _ ?_)
    refine WP.ret ?_
    refine WQ.then_ret ?_
    obtain rfl := Option.some.inj hm
    exact WQ.ret1 _ rfl rfl ⟨rfl, hb331⟩
  have hm := iteF hm hc336
  refine WP.skip ?_
  refine WQ.then_normal (hK334 _ _ _ ?_)
  refine WP.seq (fun K338 hK338 => ?_)
  refine WP.seq (fun K339 hK339 => ?_)
  refine WP.region ?_
  refine WL.runk 3 [139] [(139, .bool (x326 != x232.1))] (by kernel_rfl) ?_
  refine WL.nil ?_
  refine WQ.then_normal (hK339 _ _ _ ?_)
  refine WP.cond (x326 != x232.1) rfl rfl (fun hc340 => ?_) (fun hc340 => ?_)
  · have hm := iteT hm hc340
    refine WP.seq (fun K341 hK341 => ?_)
    refine WP.region ?_
    refine WL.runk 1 [4] [(4, .bool false)] (by kernel_rfl) ?_
    refine WL.nil ?_
    refine WQ.then_normal (hK341 _ _ _ ?_)
    refine WP.ret ?_
    refine WQ.then_ret ?_
    obtain rfl := Option.some.inj hm
    exact WQ.ret1 _ rfl rfl ⟨rfl, hb331⟩
  have hm := iteF hm hc340
  refine WP.skip ?_
  refine WQ.then_normal (hK338 _ _ _ ?_)
  refine WP.seq (fun K342 hK342 => ?_)
  refine WP.region ?_
  refine WL.runk 1 [4] [(4, .bool true)] (by kernel_rfl) ?_
  refine WL.nil ?_
  refine WQ.then_normal (hK342 _ _ _ ?_)
  refine WP.ret ?_
  obtain rfl := Option.some.inj hm
  exact WQ.ret1 _ rfl rfl ⟨rfl, hb331⟩

end Go.Proofs.Ytkpdicajinionaa
