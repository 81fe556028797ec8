/- Each call does what its Lean function says. -/
import Derived.Test.YtkpdicajinionaaKReserves1
set_option maxRecDepth 20000
set_option maxHeartbeats 40000000
namespace Go.Proofs.Ytkpdicajinionaa
open Go Go.Gv Go.RowKit

theorem c_63 (n : Nat) (list_0 : List SGood) (a0' : Option Addr) (c0' : Nat) (takes_1 : List STake) (a1' : Option Addr) (c1' : Nat) (w : World) {r : Int} (hm : m_spec_l23Takes n list_0 takes_1 = some r) (h0 : Rd fGood.ty w a0' list_0) (hle0 : list_0.length ≤ c0') (h1 : Rd fTake.ty w a1' takes_1) (_hle1 : takes_1.length ≤ c1') :
    CallV Try.prog 63 #[.slice a0' list_0.length c0', .slice a1' takes_1.length c1'] w (fun v w' => v = .int .i64 r ∧ Ext w w') := by
  unfold m_spec_l23Takes at hm
  refine CallV.enter Try.func63 rfl (by kernel_rfl) Try.ntmps63 (env := [(0, .slice a0' list_0.length c0'), (1, .slice a1' takes_1.length c1')]) ⟨rfl, rfl, trivial⟩ ?_
  refine WP.seq (fun K1 hK1 => ?_)
  refine WP.region ?_
  refine WL.runk 1 [0, 1] [(0, .slice a0' list_0.length c0'), (1, .slice a1' takes_1.length c1')] (by kernel_rfl) ?_
  refine WL.nil ?_
  refine WQ.then_normal (hK1 _ _ _ ?_)
  refine WP.seq (fun K2 hK2 => ?_)
  refine WP.seq (fun K3 hK3 => ?_)
  refine WP.region ?_
  refine WL.runk 1 [1, 6] [(1, .slice a1' takes_1.length c1'), (6, .slice a0' list_0.length c0')] (by kernel_rfl) ?_
  obtain ⟨x4, hx5, hm⟩ := bindE hm
  refine WL.call 52 #[.slice a0' list_0.length c0'] rfl rfl (by kernel_rfl) (c_52 n list_0 a0' c0' w hx5 (Rd.below h0 (Ext.refl w)) hle0) ?_
  rintro _ w6 ⟨rfl, hE7⟩
  refine ⟨_, rfl, ?_⟩
  have hb9 : Ext w w6 := Ext.trans (Ext.refl w) hE7
  have hL10 : w.heap.size ≤ w6.heap.size := Nat.le_trans (Nat.le_refl _) hE7.size
  have hS11 : SH w6 w.heap.size [] := SH.ext (SH.nil _ _) hE7
  refine WL.runk 1 [1, 8] [(1, .slice a1' takes_1.length c1'), (8, .bool (!x4))] (by kernel_rfl) ?_
  refine WL.nil ?_
  refine WQ.then_normal (hK3 _ _ _ ?_)
  refine WP.cond (!x4) rfl rfl (fun hc12 => ?_) (fun hc12 => ?_)
  · have hm := iteT hm hc12
    refine WP.seq (fun K13 hK13 => ?_)
    refine WP.region ?_
    refine WL.runk 1 [4] [(4, .int .i64 1)] (by kernel_rfl) ?_
    refine WL.nil ?_
    refine WQ.then_normal (hK13 _ _ _ ?_)
    refine WP.ret ?_
    refine WQ.then_ret ?_
    obtain rfl := Option.some.inj hm
    exact WQ.ret1 _ rfl rfl ⟨rfl, hb9⟩
  have hm := iteF hm hc12
  refine WP.skip ?_
  refine WQ.then_normal (hK2 _ _ _ ?_)
  refine WP.seq (fun K14 hK14 => ?_)
  refine WP.seq (fun K15 hK15 => ?_)
  refine WP.region ?_
  refine WL.runk 1 [1, 5] [(1, .slice a1' takes_1.length c1'), (5, .int .i64 0)] (by kernel_rfl) ?_
  refine WL.nil ?_
  refine WQ.then_normal (hK15 _ _ _ ?_)
  refine WP.block ?_
  obtain ⟨t27, ht28, hm⟩ := bindE hm
  have hmo22 := hm; clear hm
  refine WP.sub [(1, .slice a1' takes_1.length c1'), (5, .int .i64 0)] ⟨rfl, rfl, trivial⟩ ?_
  refine WP.loop (fun n' env' w' => ∃ (st16 : Int) , env' = [(1, .slice a1' takes_1.length c1'), (5, .int .i64 st16)] ∧ Ext w w' ∧ w.heap.size ≤ w'.heap.size ∧ SH w' w.heap.size [] ∧ loopN (m_spec_l23Takes_l1 n takes_1) n' st16 = some t27) n ⟨0, rfl, hb9, hL10, hS11, ht28⟩ ?_
  rintro n24 _ w17 ⟨st16, rfl, hb18, hL19, hS20, hl21⟩ K23 hK23
  obtain ⟨n25, s26, rfl, hm, hl21⟩ := loopN_some hl21
  unfold m_spec_l23Takes_l1 at hm
  refine WP.seq (fun K29 hK29 => ?_)
  refine WP.seq (fun K30 hK30 => ?_)
  refine WP.region ?_
  refine WL.runk 4 [1, 5, 12] [(1, .slice a1' takes_1.length c1'), (5, .int .i64 st16), (12, .bool (decide (st16 < (takes_1.length : Int))))] (by kernel_rfl) ?_
  refine WL.nil ?_
  refine WQ.then_normal (hK30 _ _ _ ?_)
  refine WP.cond (decide (st16 < (takes_1.length : Int))) rfl rfl (fun hc31 => ?_) (fun hc31 => ?_)
  rotate_left
  · have hm := iteF hm hc31
    refine WP.exit ?_
    refine WQ.then_exit ?_
    refine WQ.then_exit ?_
    refine WQ.block_here ?_
    obtain rfl := Option.some.inj hm
    obtain rfl := afterN_done hl21
    have hm := hmo22
    refine WQ.then_normal (hK14 _ _ _ ?_)
    refine WP.seq (fun K46 hK46 => ?_)
    refine WP.seq (fun K47 hK47 => ?_)
    refine WP.region ?_
    refine WL.runk 3 [22] [(22, .bool (decide ((takes_1.length : Int) > 60)))] (by kernel_rfl) ?_
    refine WL.nil ?_
    refine WQ.then_normal (hK47 _ _ _ ?_)
    refine WP.cond (decide ((takes_1.length : Int) > 60)) rfl rfl (fun hc48 => ?_) (fun hc48 => ?_)
    · have hm := iteT hm hc48
      refine WP.seq (fun K49 hK49 => ?_)
      refine WP.region ?_
      refine WL.runk 1 [4] [(4, .int .i64 2)] (by kernel_rfl) ?_
      refine WL.nil ?_
      refine WQ.then_normal (hK49 _ _ _ ?_)
      refine WP.ret ?_
      refine WQ.then_ret ?_
      obtain rfl := Option.some.inj hm
      exact WQ.ret1 _ rfl rfl ⟨rfl, hb18⟩
    have hm := iteF hm hc48
    refine WP.skip ?_
    refine WQ.then_normal (hK46 _ _ _ ?_)
    refine WP.seq (fun K50 hK50 => ?_)
    refine WP.region ?_
    refine WL.runk 1 [4] [(4, .int .i64 0)] (by kernel_rfl) ?_
    refine WL.nil ?_
    refine WQ.then_normal (hK50 _ _ _ ?_)
    refine WP.ret ?_
    obtain rfl := Option.some.inj hm
    exact WQ.ret1 _ rfl rfl ⟨rfl, hb18⟩
  have hm := iteT hm hc31
  refine WP.skip ?_
  refine WQ.then_normal (hK29 _ _ _ ?_)
  refine WP.seq (fun K32 hK32 => ?_)
  refine WP.block ?_
  refine WP.seq (fun K33 hK33 => ?_)
  refine WP.region ?_
  refine WL.runk 2 [1, 5, 15, 16] [(1, .slice a1' takes_1.length c1'), (5, .int .i64 st16), (15, .slice a1' takes_1.length c1'), (16, .int .i64 st16)] (by kernel_rfl) ?_
  obtain ⟨x34, hx35, hm⟩ := bindE hm
  refine WL.st (.pointer (some (at_ a1' (Int.toNat st16 * 2)))) (ST.index (T := fTake.ty) (xs := takes_1) (Rd.below h1 hb18) hx35 rfl rfl rfl Try.underlying30 (info43).1 (info43).2.1) rfl rfl rfl ?_
  obtain ⟨x36, hx37, hm⟩ := bindE hm
  refine WL.call 59 #[.pointer (some (at_ a1' (Int.toNat st16 * 2)))] rfl rfl (by kernel_rfl) (c_59 n x34 ((ba a1').block) ((ba a1').off + Int.toNat st16 * 2) w17 hx37 (RdB.ofRd (F := fTake) (Rd.below h1 hb18) hx35)) ?_
  rintro _ w38 ⟨rfl, hE39⟩
  refine ⟨_, rfl, ?_⟩
  have hb41 : Ext w w38 := Ext.trans hb18 hE39
  have hL42 : w.heap.size ≤ w38.heap.size := Nat.le_trans hL19 hE39.size
  have hS43 : SH w38 w.heap.size [] := SH.ext hS20 hE39
  refine WL.runk 1 [1, 5, 19] [(1, .slice a1' takes_1.length c1'), (5, .int .i64 st16), (19, .bool (!x36))] (by kernel_rfl) ?_
  refine WL.nil ?_
  refine WQ.then_normal (hK33 _ _ _ ?_)
  refine WP.cond (!x36) rfl rfl (fun hc44 => ?_) (fun hc44 => ?_)
  rotate_left
  · have hm := iteF hm hc44
    refine WP.skip ?_
    refine WQ.block_normal ?_
    refine WQ.then_normal (hK32 _ _ _ ?_)
    refine WP.region ?_
    refine WL.runk 3 [1, 5] [(1, .slice a1' takes_1.length c1'), (5, .int .i64 (wI64 (st16 + 1)))] (by kernel_rfl) ?_
    refine WL.nil ?_
    obtain rfl := Option.some.inj hm
    exact WQ.round hK23 ⟨(wI64 (st16 + 1)), rfl, hb41, hL42, hS43, hl21⟩ (Nat.lt_succ_self _) ⟨rfl, rfl, trivial⟩
  have hm := iteT hm hc44
  refine WP.seq (fun K45 hK45 => ?_)
  refine WP.region ?_
  refine WL.runk 1 [4] [(4, .int .i64 2)] (by kernel_rfl) ?_
  refine WL.nil ?_
  refine WQ.then_normal (hK45 _ _ _ ?_)
  refine WP.ret ?_
  refine WQ.block_ret ?_
  refine WQ.then_ret ?_
  refine WQ.then_ret ?_
  refine WQ.block_ret ?_
  refine WQ.then_ret ?_
  obtain rfl := Option.some.inj hm
  obtain rfl := afterN_done hl21
  have hm := hmo22
  obtain rfl := Option.some.inj hm
  exact WQ.ret1 _ rfl rfl ⟨rfl, hb41⟩

theorem c_36 (n : Nat) (list_0 : List SGood) (a0' : Option Addr) (c0' : Nat) (needs_1 : List STake) (a1' : Option Addr) (c1' : Nat) (w : World) {r : Int × Int} (hm : m_spec_CanMake n list_0 needs_1 = some r) (h0 : Rd fGood.ty w a0' list_0) (hle0 : list_0.length ≤ c0') (h1 : Rd fTake.ty w a1' needs_1) (hle1 : needs_1.length ≤ c1') :
    CallV Try.prog 36 #[.slice a0' list_0.length c0', .slice a1' needs_1.length c1'] w (fun v w' => v = .tuple #[.int .i64 r.1, .int .i64 r.2] ∧ Ext w w') := by
  unfold m_spec_CanMake at hm
  refine CallV.enter Try.func36 rfl (by kernel_rfl) Try.ntmps36 (env := [(0, .slice a0' list_0.length c0'), (1, .slice a1' needs_1.length c1')]) ⟨rfl, rfl, trivial⟩ ?_
  refine WP.seq (fun K1 hK1 => ?_)
  refine WP.region ?_
  refine WL.runk 2 [0, 1] [(0, .slice a0' list_0.length c0'), (1, .slice a1' needs_1.length c1')] (by kernel_rfl) ?_
  refine WL.nil ?_
  refine WQ.then_normal (hK1 _ _ _ ?_)
  refine WP.seq (fun K2 hK2 => ?_)
  refine WP.region ?_
  refine WL.runk 2 [0, 1, 14, 15] [(0, .slice a0' list_0.length c0'), (1, .slice a1' needs_1.length c1'), (14, .slice a0' list_0.length c0'), (15, .slice a1' needs_1.length c1')] (by kernel_rfl) ?_
  obtain ⟨x3, hx4, hm⟩ := bindE hm
  refine WL.call 63 #[.slice a0' list_0.length c0', .slice a1' needs_1.length c1'] rfl rfl (by kernel_rfl) (c_63 n list_0 a0' c0' needs_1 a1' c1' w hx4 (Rd.below h0 (Ext.refl w)) hle0 (Rd.below h1 (Ext.refl w)) hle1) ?_
  rintro _ w5 ⟨rfl, hE6⟩
  refine ⟨_, rfl, ?_⟩
  have hb8 : Ext w w5 := Ext.trans (Ext.refl w) hE6
  have hL9 : w.heap.size ≤ w5.heap.size := Nat.le_trans (Nat.le_refl _) hE6.size
  have hS10 : SH w5 w.heap.size [] := SH.ext (SH.nil _ _) hE6
  refine WL.runk 1 [0, 1, 6] [(0, .slice a0' list_0.length c0'), (1, .slice a1' needs_1.length c1'), (6, .int .i64 x3)] (by kernel_rfl) ?_
  refine WL.nil ?_
  refine WQ.then_normal (hK2 _ _ _ ?_)
  refine WP.seq (fun K11 hK11 => ?_)
  refine WP.seq (fun K12 hK12 => ?_)
  refine WP.region ?_
  refine WL.runk 1 [0, 1, 6, 7] [(0, .slice a0' list_0.length c0'), (1, .slice a1' needs_1.length c1'), (6, .int .i64 x3), (7, .int .i64 0)] (by kernel_rfl) ?_
  refine WL.nil ?_
  refine WQ.then_normal (hK12 _ _ _ ?_)
  refine WP.block ?_
  obtain ⟨t24, ht25, hm⟩ := bindE hm
  have hmo19 := hm; clear hm
  refine WP.sub [(0, .slice a0' list_0.length c0'), (1, .slice a1' needs_1.length c1'), (6, .int .i64 x3), (7, .int .i64 0)] ⟨rfl, rfl, rfl, rfl, trivial⟩ ?_
  refine WP.loop (fun n' env' w' => ∃ (st13 : Int × Int) , env' = [(0, .slice a0' list_0.length c0'), (1, .slice a1' needs_1.length c1'), (6, .int .i64 st13.1), (7, .int .i64 st13.2)] ∧ Ext w w' ∧ w.heap.size ≤ w'.heap.size ∧ SH w' w.heap.size [] ∧ loopN (m_spec_CanMake_l1 n needs_1) n' st13 = some t24) n ⟨(x3, 0), rfl, hb8, hL9, hS10, ht25⟩ ?_
  rintro n21 _ w14 ⟨st13, rfl, hb15, hL16, hS17, hl18⟩ K20 hK20
  obtain ⟨n22, s23, rfl, hm, hl18⟩ := loopN_some hl18
  unfold m_spec_CanMake_l1 at hm
  refine WP.seq (fun K26 hK26 => ?_)
  refine WP.seq (fun K27 hK27 => ?_)
  obtain ⟨x29, hx30, hm⟩ := bindE hm
  refine WP.cut (fun env' w' => env' = [(0, .slice a0' list_0.length c0'), (1, .slice a1' needs_1.length c1'), (6, .int .i64 st13.1), (7, .int .i64 st13.2), (24, .bool x29)] ∧ Ext w w' ∧ w.heap.size ≤ w'.heap.size ∧ SH w' w.heap.size []) ?_ ?_
  · have hm := hx30; clear hx30
    refine WP.region ?_
    refine WL.runk 5 [0, 1, 6, 7, 21] [(0, .slice a0' list_0.length c0'), (1, .slice a1' needs_1.length c1'), (6, .int .i64 st13.1), (7, .int .i64 st13.2), (21, .bool (decide (st13.2 < (needs_1.length : Int))))] (by kernel_rfl) ?_
    refine WL.case (decide (st13.2 < (needs_1.length : Int))) [21] ⟨rfl, trivial⟩ (fun hc31 => ?_) (fun hc31 => ?_)
    · have hm := iteT hm hc31
      refine WL.runk 3 [0, 1, 6, 7, 24] [(0, .slice a0' list_0.length c0'), (1, .slice a1' needs_1.length c1'), (6, .int .i64 st13.1), (7, .int .i64 st13.2), (24, .bool (st13.1 == 0))] (by kernel_rfl) ?_
      refine WL.nil ?_
      obtain rfl := Option.some.inj hm
      exact WQ.post' ⟨rfl, hb15, hL16, hS17⟩ ⟨rfl, rfl, rfl, rfl, rfl, trivial⟩
    have hm := iteF hm hc31
    refine WL.runk 3 [0, 1, 6, 7, 24] [(0, .slice a0' list_0.length c0'), (1, .slice a1' needs_1.length c1'), (6, .int .i64 st13.1), (7, .int .i64 st13.2), (24, .bool false)] (by kernel_rfl) ?_
    refine WL.nil ?_
    obtain rfl := Option.some.inj hm
    exact WQ.post' ⟨rfl, hb15, hL16, hS17⟩ ⟨rfl, rfl, rfl, rfl, rfl, trivial⟩
  clear hx30
  rintro _ w32 ⟨rfl, hb33, hL34, hS35⟩
  refine WQ.then_normal (hK27 _ _ _ ?_)
  refine WP.cond x29 rfl rfl (fun hc36 => ?_) (fun hc36 => ?_)
  · have hm := iteT hm hc36
    refine WP.skip ?_
    refine WQ.then_normal (hK26 _ _ _ ?_)
    refine WP.seq (fun K37 hK37 => ?_)
    refine WP.block ?_
    refine WP.seq (fun K38 hK38 => ?_)
    refine WP.region ?_
    refine WL.runk 2 [0, 1, 6, 7, 27, 28] [(0, .slice a0' list_0.length c0'), (1, .slice a1' needs_1.length c1'), (6, .int .i64 st13.1), (7, .int .i64 st13.2), (27, .slice a1' needs_1.length c1'), (28, .int .i64 st13.2)] (by kernel_rfl) ?_
    obtain ⟨x39, hx40, hm⟩ := bindE hm
    refine WL.st (.pointer (some (at_ a1' (Int.toNat st13.2 * 2)))) (ST.index (T := fTake.ty) (xs := needs_1) (Rd.below h1 hb33) hx40 rfl rfl rfl Try.underlying30 (info43).1 (info43).2.1) rfl rfl rfl ?_
    refine WL.runk 1 [0, 1, 6, 7, 30] [(0, .slice a0' list_0.length c0'), (1, .slice a1' needs_1.length c1'), (6, .int .i64 st13.1), (7, .int .i64 st13.2), (30, .pointer (some (at_ a1' (Int.toNat st13.2 * 2 + 1))))] (by kernel_rfl) ?_
    refine WL.st (.int .i64 x39.Many) (ST.load (cell_ext (Rd.flat (F := fTake) (Rd.below h1 hb33) hx40 1 rfl)) rfl rfl Try.underlying2 rfl) rfl rfl rfl ?_
    refine WL.runk 1 [0, 1, 6, 7, 32] [(0, .slice a0' list_0.length c0'), (1, .slice a1' needs_1.length c1'), (6, .int .i64 st13.1), (7, .int .i64 st13.2), (32, .bool (decide (x39.Many < 1)))] (by kernel_rfl) ?_
    refine WL.nil ?_
    refine WQ.then_normal (hK38 _ _ _ ?_)
    obtain ⟨x42, hx43, hm⟩ := bindE hm
    refine WP.cut (fun env' w' => env' = [(0, .slice a0' list_0.length c0'), (1, .slice a1' needs_1.length c1'), (6, .int .i64 x42), (7, .int .i64 st13.2)] ∧ Ext w w' ∧ w.heap.size ≤ w'.heap.size ∧ SH w' w.heap.size []) ?_ ?_
    rotate_left
    · clear hx43
      rintro _ w44 ⟨rfl, hb45, hL46, hS47⟩
      refine WQ.block_normal ?_
      refine WQ.then_normal (hK37 _ _ _ ?_)
      refine WP.region ?_
      refine WL.runk 3 [0, 1, 6, 7] [(0, .slice a0' list_0.length c0'), (1, .slice a1' needs_1.length c1'), (6, .int .i64 x42), (7, .int .i64 (wI64 (st13.2 + 1)))] (by kernel_rfl) ?_
      refine WL.nil ?_
      obtain rfl := Option.some.inj hm
      exact WQ.round hK20 ⟨(x42, (wI64 (st13.2 + 1))), rfl, hb45, hL46, hS47, hl18⟩ (Nat.lt_succ_self _) ⟨rfl, rfl, rfl, rfl, trivial⟩
    have hm := hx43; clear hx43
    refine WP.cond (decide (x39.Many < 1)) rfl rfl (fun hc41 => ?_) (fun hc41 => ?_)
    rotate_left
    · have hm := iteF hm hc41
      refine WP.skip ?_
      obtain rfl := Option.some.inj hm
      exact WQ.post' ⟨rfl, hb33, hL34, hS35⟩ ⟨rfl, rfl, rfl, rfl, trivial⟩
    have hm := iteT hm hc41
    refine WP.region ?_
    refine WL.runk 1 [0, 1, 6, 7] [(0, .slice a0' list_0.length c0'), (1, .slice a1' needs_1.length c1'), (6, .int .i64 2), (7, .int .i64 st13.2)] (by kernel_rfl) ?_
    refine WL.nil ?_
    obtain rfl := Option.some.inj hm
    exact WQ.post' ⟨rfl, hb33, hL34, hS35⟩ ⟨rfl, rfl, rfl, rfl, trivial⟩
  have hm := iteF hm hc36
  refine WP.exit ?_
  refine WQ.then_exit ?_
  refine WQ.then_exit ?_
  refine WQ.block_here ?_
  obtain rfl := Option.some.inj hm
  obtain rfl := afterN_done hl18
  have hm := hmo19
  refine WQ.then_normal (hK11 _ _ _ ?_)
  refine WP.seq (fun K48 hK48 => ?_)
  refine WP.seq (fun K49 hK49 => ?_)
  obtain ⟨x51, hx52, hm⟩ := bindE hm
  refine WP.cut (fun env' w' => env' = [(0, .slice a0' list_0.length c0'), (1, .slice a1' needs_1.length c1'), (6, .int .i64 st13.1), (39, .bool x51)] ∧ Ext w w' ∧ w.heap.size ≤ w'.heap.size ∧ SH w' w.heap.size []) ?_ ?_
  · have hm := hx52; clear hx52
    refine WP.region ?_
    refine WL.runk 3 [0, 1, 6, 35] [(0, .slice a0' list_0.length c0'), (1, .slice a1' needs_1.length c1'), (6, .int .i64 st13.1), (35, .bool (st13.1 == 0))] (by kernel_rfl) ?_
    refine WL.case (st13.1 == 0) [35] ⟨rfl, trivial⟩ (fun hc53 => ?_) (fun hc53 => ?_)
    · have hm := iteT hm hc53
      refine WL.runk 4 [0, 1, 6, 39] [(0, .slice a0' list_0.length c0'), (1, .slice a1' needs_1.length c1'), (6, .int .i64 st13.1), (39, .bool ((needs_1.length : Int) == 0))] (by kernel_rfl) ?_
      refine WL.nil ?_
      obtain rfl := Option.some.inj hm
      exact WQ.post' ⟨rfl, hb33, hL34, hS35⟩ ⟨rfl, rfl, rfl, rfl, trivial⟩
    have hm := iteF hm hc53
    refine WL.runk 4 [0, 1, 6, 39] [(0, .slice a0' list_0.length c0'), (1, .slice a1' needs_1.length c1'), (6, .int .i64 st13.1), (39, .bool false)] (by kernel_rfl) ?_
    refine WL.nil ?_
    obtain rfl := Option.some.inj hm
    exact WQ.post' ⟨rfl, hb33, hL34, hS35⟩ ⟨rfl, rfl, rfl, rfl, trivial⟩
  clear hx52
  rintro _ w54 ⟨rfl, hb55, hL56, hS57⟩
  refine WQ.then_normal (hK49 _ _ _ ?_)
  obtain ⟨x59, hx60, hm⟩ := bindE hm
  refine WP.cut (fun env' w' => env' = [(0, .slice a0' list_0.length c0'), (1, .slice a1' needs_1.length c1'), (6, .int .i64 x59)] ∧ Ext w w' ∧ w.heap.size ≤ w'.heap.size ∧ SH w' w.heap.size []) ?_ ?_
  · have hm := hx60; clear hx60
    refine WP.cond x51 rfl rfl (fun hc58 => ?_) (fun hc58 => ?_)
    rotate_left
    · have hm := iteF hm hc58
      refine WP.skip ?_
      obtain rfl := Option.some.inj hm
      exact WQ.post' ⟨rfl, hb55, hL56, hS57⟩ ⟨rfl, rfl, rfl, trivial⟩
    have hm := iteT hm hc58
    refine WP.region ?_
    refine WL.runk 1 [0, 1, 6] [(0, .slice a0' list_0.length c0'), (1, .slice a1' needs_1.length c1'), (6, .int .i64 6)] (by kernel_rfl) ?_
    refine WL.nil ?_
    obtain rfl := Option.some.inj hm
    exact WQ.post' ⟨rfl, hb55, hL56, hS57⟩ ⟨rfl, rfl, rfl, trivial⟩
  clear hx60
  rintro _ w61 ⟨rfl, hb62, hL63, hS64⟩
  refine WQ.then_normal (hK48 _ _ _ ?_)
  refine WP.seq (fun K65 hK65 => ?_)
  refine WP.seq (fun K66 hK66 => ?_)
  refine WP.region ?_
  refine WL.runk 2 [0, 1, 6, 41] [(0, .slice a0' list_0.length c0'), (1, .slice a1' needs_1.length c1'), (6, .int .i64 x59), (41, .bool (x59 != 0))] (by kernel_rfl) ?_
  refine WL.nil ?_
  refine WQ.then_normal (hK66 _ _ _ ?_)
  refine WP.cond (x59 != 0) rfl rfl (fun hc67 => ?_) (fun hc67 => ?_)
  · have hm := iteT hm hc67
    refine WP.seq (fun K68 hK68 => ?_)
    refine WP.region ?_
    refine WL.runk 3 [4, 5] [(4, .int .i64 0), (5, .int .i64 x59)] (by kernel_rfl) ?_
    refine WL.nil ?_
    refine WQ.then_normal (hK68 _ _ _ ?_)
    refine WP.ret ?_
    refine WQ.then_ret ?_
    obtain rfl := Option.some.inj hm
    exact WQ.ret2 _ _ rfl rfl rfl ⟨rfl, hb62⟩
  have hm := iteF hm hc67
  refine WP.skip ?_
  refine WQ.then_normal (hK65 _ _ _ ?_)
  refine WP.seq (fun K69 hK69 => ?_)
  refine WP.region ?_
  refine WL.runk 1 [0, 1, 8] [(0, .slice a0' list_0.length c0'), (1, .slice a1' needs_1.length c1'), (8, .int .i64 (-1))] (by kernel_rfl) ?_
  refine WL.nil ?_
  refine WQ.then_normal (hK69 _ _ _ ?_)
  refine WP.seq (fun K70 hK70 => ?_)
  refine WP.seq (fun K71 hK71 => ?_)
  refine WP.region ?_
  refine WL.runk 1 [0, 1, 8, 9] [(0, .slice a0' list_0.length c0'), (1, .slice a1' needs_1.length c1'), (8, .int .i64 (-1)), (9, .int .i64 0)] (by kernel_rfl) ?_
  refine WL.nil ?_
  refine WQ.then_normal (hK71 _ _ _ ?_)
  refine WP.block ?_
  obtain ⟨t83, ht84, hm⟩ := bindE hm
  have hmo78 := hm; clear hm
  refine WP.sub [(0, .slice a0' list_0.length c0'), (1, .slice a1' needs_1.length c1'), (8, .int .i64 (-1)), (9, .int .i64 0)] ⟨rfl, rfl, rfl, rfl, trivial⟩ ?_
  refine WP.loop (fun n' env' w' => ∃ (st72 : Int × Int) , env' = [(0, .slice a0' list_0.length c0'), (1, .slice a1' needs_1.length c1'), (8, .int .i64 st72.1), (9, .int .i64 st72.2)] ∧ Ext w w' ∧ w.heap.size ≤ w'.heap.size ∧ SH w' w.heap.size [] ∧ loopN (m_spec_CanMake_l2 n list_0 needs_1) n' st72 = some t83) n ⟨((-1), 0), rfl, hb62, hL63, hS64, ht84⟩ ?_
  rintro n80 _ w73 ⟨st72, rfl, hb74, hL75, hS76, hl77⟩ K79 hK79
  obtain ⟨n81, s82, rfl, hm, hl77⟩ := loopN_some hl77
  unfold m_spec_CanMake_l2 at hm
  refine WP.seq (fun K85 hK85 => ?_)
  refine WP.seq (fun K86 hK86 => ?_)
  refine WP.region ?_
  refine WL.runk 4 [0, 1, 8, 9, 46] [(0, .slice a0' list_0.length c0'), (1, .slice a1' needs_1.length c1'), (8, .int .i64 st72.1), (9, .int .i64 st72.2), (46, .bool (decide (st72.2 < (needs_1.length : Int))))] (by kernel_rfl) ?_
  refine WL.nil ?_
  refine WQ.then_normal (hK86 _ _ _ ?_)
  refine WP.cond (decide (st72.2 < (needs_1.length : Int))) rfl rfl (fun hc87 => ?_) (fun hc87 => ?_)
  rotate_left
  · have hm := iteF hm hc87
    refine WP.exit ?_
    refine WQ.then_exit ?_
    refine WQ.then_exit ?_
    refine WQ.block_here ?_
    obtain rfl := Option.some.inj hm
    obtain rfl := afterN_done hl77
    have hm := hmo78
    refine WQ.then_normal (hK70 _ _ _ ?_)
    refine WP.seq (fun K202 hK202 => ?_)
    refine WP.region ?_
    refine WL.runk 3 [4, 5] [(4, .int .i64 st72.1), (5, .int .i64 0)] (by kernel_rfl) ?_
    refine WL.nil ?_
    refine WQ.then_normal (hK202 _ _ _ ?_)
    refine WP.ret ?_
    obtain rfl := Option.some.inj hm
    exact WQ.ret2 _ _ rfl rfl rfl ⟨rfl, hb74⟩
  have hm := iteT hm hc87
  refine WP.skip ?_
  refine WQ.then_normal (hK85 _ _ _ ?_)
  refine WP.seq (fun K88 hK88 => ?_)
  refine WP.block ?_
  refine WP.seq (fun K89 hK89 => ?_)
  refine WP.region ?_
  refine WL.runk 3 [0, 1, 8, 9, 49, 50, 51] [(0, .slice a0' list_0.length c0'), (1, .slice a1' needs_1.length c1'), (8, .int .i64 st72.1), (9, .int .i64 st72.2), (49, .slice a0' list_0.length c0'), (50, .slice a1' needs_1.length c1'), (51, .int .i64 st72.2)] (by kernel_rfl) ?_
  obtain ⟨x90, hx91, hm⟩ := bindE hm
  refine WL.st (.pointer (some (at_ a1' (Int.toNat st72.2 * 2)))) (ST.index (T := fTake.ty) (xs := needs_1) (Rd.below h1 hb74) hx91 rfl rfl rfl Try.underlying30 (info43).1 (info43).2.1) rfl rfl rfl ?_
  refine WL.runk 1 [0, 1, 8, 9, 49, 53] [(0, .slice a0' list_0.length c0'), (1, .slice a1' needs_1.length c1'), (8, .int .i64 st72.1), (9, .int .i64 st72.2), (49, .slice a0' list_0.length c0'), (53, .pointer (some (at_ a1' (Int.toNat st72.2 * 2))))] (by kernel_rfl) ?_
  refine WL.st (.string (bs x90.Name)) (ST.load (cell_ext (Rd.flat (F := fTake) (Rd.below h1 hb74) hx91 0 rfl)) rfl rfl Try.underlying9 rfl) rfl rfl rfl ?_
  obtain ⟨x92, hx93, hm⟩ := bindE hm
  refine WL.call 64 #[.slice a0' list_0.length c0', .string (bs x90.Name)] rfl rfl (by kernel_rfl) (c_64 n list_0 a0' c0' x90.Name w73 hx93 (Rd.below h0 hb74) hle0) ?_
  rintro _ w94 ⟨rfl, hE95⟩
  refine ⟨_, rfl, ?_⟩
  have hb97 : Ext w w94 := Ext.trans hb74 hE95
  have hL98 : w.heap.size ≤ w94.heap.size := Nat.le_trans hL75 hE95.size
  have hS99 : SH w94 w.heap.size [] := SH.ext hS76 hE95
  refine WL.runk 1 [0, 1, 8, 9, 10] [(0, .slice a0' list_0.length c0'), (1, .slice a1' needs_1.length c1'), (8, .int .i64 st72.1), (9, .int .i64 st72.2), (10, .int .i64 x92)] (by kernel_rfl) ?_
  refine WL.nil ?_
  refine WQ.then_normal (hK89 _ _ _ ?_)
  refine WP.seq (fun K100 hK100 => ?_)
  refine WP.seq (fun K101 hK101 => ?_)
  refine WP.region ?_
  refine WL.runk 2 [0, 1, 8, 9, 10, 57] [(0, .slice a0' list_0.length c0'), (1, .slice a1' needs_1.length c1'), (8, .int .i64 st72.1), (9, .int .i64 st72.2), (10, .int .i64 x92), (57, .bool (decide (x92 < 0)))] (by kernel_rfl) ?_
  refine WL.nil ?_
  refine WQ.then_normal (hK101 _ _ _ ?_)
  refine WP.cond (decide (x92 < 0)) rfl rfl (fun hc102 => ?_) (fun hc102 => ?_)
  · have hm := iteT hm hc102
    refine WP.seq (fun K103 hK103 => ?_)
    refine WP.region ?_
    refine WL.runk 2 [4, 5] [(4, .int .i64 0), (5, .int .i64 3)] (by kernel_rfl) ?_
    refine WL.nil ?_
    refine WQ.then_normal (hK103 _ _ _ ?_)
    refine WP.ret ?_
    refine WQ.then_ret ?_
    refine WQ.block_ret ?_
    refine WQ.then_ret ?_
    refine WQ.then_ret ?_
    refine WQ.block_ret ?_
    refine WQ.then_ret ?_
    obtain rfl := Option.some.inj hm
    obtain rfl := afterN_done hl77
    have hm := hmo78
    obtain rfl := Option.some.inj hm
    exact WQ.ret2 _ _ rfl rfl rfl ⟨rfl, hb97⟩
  have hm := iteF hm hc102
  refine WP.skip ?_
  refine WQ.then_normal (hK100 _ _ _ ?_)
  refine WP.seq (fun K104 hK104 => ?_)
  refine WP.region ?_
  refine WL.runk 1 [0, 1, 8, 9, 10, 11] [(0, .slice a0' list_0.length c0'), (1, .slice a1' needs_1.length c1'), (8, .int .i64 st72.1), (9, .int .i64 st72.2), (10, .int .i64 x92), (11, .int .i64 0)] (by kernel_rfl) ?_
  refine WL.nil ?_
  refine WQ.then_normal (hK104 _ _ _ ?_)
  refine WP.seq (fun K105 hK105 => ?_)
  refine WP.seq (fun K106 hK106 => ?_)
  refine WP.region ?_
  refine WL.runk 1 [0, 1, 8, 9, 10, 11, 12] [(0, .slice a0' list_0.length c0'), (1, .slice a1' needs_1.length c1'), (8, .int .i64 st72.1), (9, .int .i64 st72.2), (10, .int .i64 x92), (11, .int .i64 0), (12, .int .i64 0)] (by kernel_rfl) ?_
  refine WL.nil ?_
  refine WQ.then_normal (hK106 _ _ _ ?_)
  refine WP.block ?_
  obtain ⟨t118, ht119, hm⟩ := bindE hm
  have hmo113 := hm; clear hm
  refine WP.sub [(0, .slice a0' list_0.length c0'), (1, .slice a1' needs_1.length c1'), (8, .int .i64 st72.1), (9, .int .i64 st72.2), (10, .int .i64 x92), (11, .int .i64 0), (12, .int .i64 0)] ⟨rfl, rfl, rfl, rfl, rfl, rfl, rfl, trivial⟩ ?_
  refine WP.loop (fun n' env' w' => ∃ (st107 : Int × Int) , env' = [(0, .slice a0' list_0.length c0'), (1, .slice a1' needs_1.length c1'), (8, .int .i64 st72.1), (9, .int .i64 st72.2), (10, .int .i64 x92), (11, .int .i64 st107.1), (12, .int .i64 st107.2)] ∧ Ext w w' ∧ w.heap.size ≤ w'.heap.size ∧ SH w' w.heap.size [] ∧ loopN (m_spec_CanMake_l3 n needs_1 st72) n' st107 = some t118) n ⟨(0, 0), rfl, hb97, hL98, hS99, ht119⟩ ?_
  rintro n115 _ w108 ⟨st107, rfl, hb109, hL110, hS111, hl112⟩ K114 hK114
  obtain ⟨n116, s117, rfl, hm, hl112⟩ := loopN_some hl112
  unfold m_spec_CanMake_l3 at hm
  refine WP.seq (fun K120 hK120 => ?_)
  refine WP.seq (fun K121 hK121 => ?_)
  refine WP.region ?_
  refine WL.runk 4 [0, 1, 8, 9, 10, 11, 12, 61] [(0, .slice a0' list_0.length c0'), (1, .slice a1' needs_1.length c1'), (8, .int .i64 st72.1), (9, .int .i64 st72.2), (10, .int .i64 x92), (11, .int .i64 st107.1), (12, .int .i64 st107.2), (61, .bool (decide (st107.2 < (needs_1.length : Int))))] (by kernel_rfl) ?_
  refine WL.nil ?_
  refine WQ.then_normal (hK121 _ _ _ ?_)
  refine WP.cond (decide (st107.2 < (needs_1.length : Int))) rfl rfl (fun hc122 => ?_) (fun hc122 => ?_)
  · have hm := iteT hm hc122
    refine WP.skip ?_
    refine WQ.then_normal (hK120 _ _ _ ?_)
    refine WP.seq (fun K123 hK123 => ?_)
    refine WP.block ?_
    refine WP.seq (fun K124 hK124 => ?_)
    refine WP.quiet (by kernel_rfl) (by kernel_rfl) ?_
    refine QL.step1v 64 (.slice a1' needs_1.length c1') rfl (fun _ => by kernel_rfl) ?_
    refine QL.step1v 65 (.int .i64 st107.2) rfl (fun _ => by kernel_rfl) ?_
    refine QL.subk [0, 1, 8, 9, 10, 11, 12, 64, 65] [(0, .slice a0' list_0.length c0'), (1, .slice a1' needs_1.length c1'), (8, .int .i64 st72.1), (9, .int .i64 st72.2), (10, .int .i64 x92), (11, .int .i64 st107.1), (12, .int .i64 st107.2), (64, .slice a1' needs_1.length c1'), (65, .int .i64 st107.2)] (by kernel_rfl) ?_
    obtain ⟨x125, hx126, hm⟩ := bindE hm
    refine QL.st (.pointer (some (at_ a1' (Int.toNat st107.2 * 2)))) (ST.index (T := fTake.ty) (xs := needs_1) (Rd.below h1 hb109) hx126 rfl rfl rfl Try.underlying30 (info43).1 (info43).2.1) rfl rfl rfl ?_
    refine QL.step1v 67 (.pointer (some (at_ a1' (Int.toNat st107.2 * 2)))) rfl (fun _ => by kernel_rfl) ?_
    refine QL.subk [0, 1, 8, 9, 10, 11, 12, 67] [(0, .slice a0' list_0.length c0'), (1, .slice a1' needs_1.length c1'), (8, .int .i64 st72.1), (9, .int .i64 st72.2), (10, .int .i64 x92), (11, .int .i64 st107.1), (12, .int .i64 st107.2), (67, .pointer (some (at_ a1' (Int.toNat st107.2 * 2))))] (by kernel_rfl) ?_
    refine QL.st (.string (bs x125.Name)) (ST.load (cell_ext (Rd.flat (F := fTake) (Rd.below h1 hb109) hx126 0 rfl)) rfl rfl Try.underlying9 rfl) rfl rfl rfl ?_
    refine QL.step1v 69 (.slice a1' needs_1.length c1') rfl (fun _ => by kernel_rfl) ?_
    refine QL.step1v 70 (.int .i64 st72.2) rfl (fun _ => by kernel_rfl) ?_
    refine QL.subk [0, 1, 8, 9, 10, 11, 12, 68, 69, 70] [(0, .slice a0' list_0.length c0'), (1, .slice a1' needs_1.length c1'), (8, .int .i64 st72.1), (9, .int .i64 st72.2), (10, .int .i64 x92), (11, .int .i64 st107.1), (12, .int .i64 st107.2), (68, .string (bs x125.Name)), (69, .slice a1' needs_1.length c1'), (70, .int .i64 st72.2)] (by kernel_rfl) ?_
    obtain ⟨x127, hx128, hm⟩ := bindE hm
    refine QL.st (.pointer (some (at_ a1' (Int.toNat st72.2 * 2)))) (ST.index (T := fTake.ty) (xs := needs_1) (Rd.below h1 hb109) hx128 rfl rfl rfl Try.underlying30 (info43).1 (info43).2.1) rfl rfl rfl ?_
    refine QL.step1v 72 (.pointer (some (at_ a1' (Int.toNat st72.2 * 2)))) rfl (fun _ => by kernel_rfl) ?_
    refine QL.subk [0, 1, 8, 9, 10, 11, 12, 68, 72] [(0, .slice a0' list_0.length c0'), (1, .slice a1' needs_1.length c1'), (8, .int .i64 st72.1), (9, .int .i64 st72.2), (10, .int .i64 x92), (11, .int .i64 st107.1), (12, .int .i64 st107.2), (68, .string (bs x125.Name)), (72, .pointer (some (at_ a1' (Int.toNat st72.2 * 2))))] (by kernel_rfl) ?_
    refine QL.st (.string (bs x127.Name)) (ST.load (cell_ext (Rd.flat (F := fTake) (Rd.below h1 hb109) hx128 0 rfl)) rfl rfl Try.underlying9 rfl) rfl rfl rfl ?_
    refine QL.st (.bool (x125.Name == x127.Name)) (ST.streq (x := x125.Name) (y := x127.Name) rfl rfl rfl) rfl rfl rfl ?_
    refine QL.subk [0, 1, 8, 9, 10, 11, 12, 74] [(0, .slice a0' list_0.length c0'), (1, .slice a1' needs_1.length c1'), (8, .int .i64 st72.1), (9, .int .i64 st72.2), (10, .int .i64 x92), (11, .int .i64 st107.1), (12, .int .i64 st107.2), (74, .bool (x125.Name == x127.Name))] (by kernel_rfl) ?_
    refine QL.nil ?_
    intro w129 hE130
    have hb131 : Ext w w129 := Ext.trans hb109 hE130
    have hL132 : w.heap.size ≤ w129.heap.size := Nat.le_trans hL110 hE130.size
    have hS133 : SH w129 w.heap.size [] := SH.ext hS111 hE130
    refine WQ.then_normal (hK124 _ _ _ ?_)
    obtain ⟨x137, hx138, hm⟩ := bindE hm
    refine WP.cut (fun env' w' => env' = [(0, .slice a0' list_0.length c0'), (1, .slice a1' needs_1.length c1'), (8, .int .i64 st72.1), (9, .int .i64 st72.2), (10, .int .i64 x92), (11, .int .i64 x137), (12, .int .i64 st107.2)] ∧ Ext w w' ∧ w.heap.size ≤ w'.heap.size ∧ SH w' w.heap.size []) ?_ ?_
    rotate_left
    · clear hx138
      rintro _ w141 ⟨rfl, hb142, hL143, hS144⟩
      refine WQ.block_normal ?_
      refine WQ.then_normal (hK123 _ _ _ ?_)
      refine WP.region ?_
      refine WL.runk 3 [0, 1, 8, 9, 10, 11, 12] [(0, .slice a0' list_0.length c0'), (1, .slice a1' needs_1.length c1'), (8, .int .i64 st72.1), (9, .int .i64 st72.2), (10, .int .i64 x92), (11, .int .i64 x137), (12, .int .i64 (wI64 (st107.2 + 1)))] (by kernel_rfl) ?_
      refine WL.nil ?_
      obtain rfl := Option.some.inj hm
      exact WQ.round hK114 ⟨(x137, (wI64 (st107.2 + 1))), rfl, hb142, hL143, hS144, hl112⟩ (Nat.lt_succ_self _) ⟨rfl, rfl, rfl, rfl, rfl, rfl, rfl, trivial⟩
    have hm := hx138; clear hx138
    refine WP.cond (x125.Name == x127.Name) rfl rfl (fun hc134 => ?_) (fun hc134 => ?_)
    rotate_left
    · have hm := iteF hm hc134
      refine WP.skip ?_
      obtain rfl := Option.some.inj hm
      exact WQ.post' ⟨rfl, hb131, hL132, hS133⟩ ⟨rfl, rfl, rfl, rfl, rfl, rfl, rfl, trivial⟩
    have hm := iteT hm hc134
    refine WP.region ?_
    refine WL.runk 3 [0, 1, 8, 9, 10, 12, 75, 76, 77] [(0, .slice a0' list_0.length c0'), (1, .slice a1' needs_1.length c1'), (8, .int .i64 st72.1), (9, .int .i64 st72.2), (10, .int .i64 x92), (12, .int .i64 st107.2), (75, .int .i64 st107.1), (76, .slice a1' needs_1.length c1'), (77, .int .i64 st107.2)] (by kernel_rfl) ?_
    obtain ⟨x139, hx140, hm⟩ := bindE hm
    refine WL.st (.pointer (some (at_ a1' (Int.toNat st107.2 * 2)))) (ST.index (T := fTake.ty) (xs := needs_1) (Rd.below h1 hb131) hx140 rfl rfl rfl Try.underlying30 (info43).1 (info43).2.1) rfl rfl rfl ?_
    refine WL.runk 1 [0, 1, 8, 9, 10, 12, 75, 79] [(0, .slice a0' list_0.length c0'), (1, .slice a1' needs_1.length c1'), (8, .int .i64 st72.1), (9, .int .i64 st72.2), (10, .int .i64 x92), (12, .int .i64 st107.2), (75, .int .i64 st107.1), (79, .pointer (some (at_ a1' (Int.toNat st107.2 * 2 + 1))))] (by kernel_rfl) ?_
    refine WL.st (.int .i64 x139.Many) (ST.load (cell_ext (Rd.flat (F := fTake) (Rd.below h1 hb131) hx140 1 rfl)) rfl rfl Try.underlying2 rfl) rfl rfl rfl ?_
    refine WL.runk 2 [0, 1, 8, 9, 10, 11, 12] [(0, .slice a0' list_0.length c0'), (1, .slice a1' needs_1.length c1'), (8, .int .i64 st72.1), (9, .int .i64 st72.2), (10, .int .i64 x92), (12, .int .i64 st107.2), (11, .int .i64 (wI64 (st107.1 + x139.Many)))] (by kernel_rfl) ?_
    refine WL.nil ?_
    obtain rfl := Option.some.inj hm
    exact WQ.post' ⟨rfl, hb131, hL132, hS133⟩ ⟨rfl, rfl, rfl, rfl, rfl, rfl, rfl, trivial⟩
  have hm := iteF hm hc122
  refine WP.exit ?_
  refine WQ.then_exit ?_
  refine WQ.then_exit ?_
  refine WQ.block_here ?_
  obtain rfl := Option.some.inj hm
  obtain rfl := afterN_done hl112
  have hm := hmo113
  refine WQ.then_normal (hK105 _ _ _ ?_)
  refine WP.seq (fun K145 hK145 => ?_)
  refine WP.quiet (by kernel_rfl) (by kernel_rfl) ?_
  refine QL.step1v 82 (.slice a0' list_0.length c0') rfl (fun _ => by kernel_rfl) ?_
  refine QL.step1v 83 (.int .i64 x92) rfl (fun _ => by kernel_rfl) ?_
  refine QL.subk [0, 1, 8, 9, 10, 11, 82, 83] [(0, .slice a0' list_0.length c0'), (1, .slice a1' needs_1.length c1'), (8, .int .i64 st72.1), (9, .int .i64 st72.2), (10, .int .i64 x92), (11, .int .i64 st107.1), (82, .slice a0' list_0.length c0'), (83, .int .i64 x92)] (by kernel_rfl) ?_
  obtain ⟨x146, hx147, hm⟩ := bindE hm
  refine QL.st (.pointer (some (at_ a0' (Int.toNat x92 * 4)))) (ST.index (T := fGood.ty) (xs := list_0) (Rd.below h0 hb109) hx147 rfl rfl rfl Try.underlying25 (info56).1 (info56).2.1) rfl rfl rfl ?_
  refine QL.step1v 85 (.pointer (some (at_ a0' (Int.toNat x92 * 4 + 1)))) rfl (fun _ => by kernel_rfl) ?_
  refine QL.subk [0, 1, 8, 9, 10, 11, 85] [(0, .slice a0' list_0.length c0'), (1, .slice a1' needs_1.length c1'), (8, .int .i64 st72.1), (9, .int .i64 st72.2), (10, .int .i64 x92), (11, .int .i64 st107.1), (85, .pointer (some (at_ a0' (Int.toNat x92 * 4 + 1))))] (by kernel_rfl) ?_
  refine QL.st (.int .i64 x146.OnHand) (ST.load (cell_ext (Rd.flat (F := fGood) (Rd.below h0 hb109) hx147 1 rfl)) rfl rfl Try.underlying2 rfl) rfl rfl rfl ?_
  refine QL.step1v 87 (.slice a0' list_0.length c0') rfl (fun _ => by kernel_rfl) ?_
  refine QL.step1v 88 (.int .i64 x92) rfl (fun _ => by kernel_rfl) ?_
  refine QL.subk [0, 1, 8, 9, 11, 86, 87, 88] [(0, .slice a0' list_0.length c0'), (1, .slice a1' needs_1.length c1'), (8, .int .i64 st72.1), (9, .int .i64 st72.2), (11, .int .i64 st107.1), (86, .int .i64 x146.OnHand), (87, .slice a0' list_0.length c0'), (88, .int .i64 x92)] (by kernel_rfl) ?_
  obtain ⟨x148, hx149, hm⟩ := bindE hm
  refine QL.st (.pointer (some (at_ a0' (Int.toNat x92 * 4)))) (ST.index (T := fGood.ty) (xs := list_0) (Rd.below h0 hb109) hx149 rfl rfl rfl Try.underlying25 (info56).1 (info56).2.1) rfl rfl rfl ?_
  refine QL.step1v 90 (.pointer (some (at_ a0' (Int.toNat x92 * 4 + 2)))) rfl (fun _ => by kernel_rfl) ?_
  refine QL.subk [0, 1, 8, 9, 11, 86, 90] [(0, .slice a0' list_0.length c0'), (1, .slice a1' needs_1.length c1'), (8, .int .i64 st72.1), (9, .int .i64 st72.2), (11, .int .i64 st107.1), (86, .int .i64 x146.OnHand), (90, .pointer (some (at_ a0' (Int.toNat x92 * 4 + 2))))] (by kernel_rfl) ?_
  refine QL.st (.int .i64 x148.Reserved) (ST.load (cell_ext (Rd.flat (F := fGood) (Rd.below h0 hb109) hx149 2 rfl)) rfl rfl Try.underlying2 rfl) rfl rfl rfl ?_
  refine QL.step1v 92 (.int .i64 (wI64 (x146.OnHand - x148.Reserved))) rfl (fun _ => by kernel_rfl) ?_
  refine QL.step1v 93 (.int .i64 st107.1) rfl (fun _ => by kernel_rfl) ?_
  refine QL.subk [0, 1, 8, 9, 92, 93] [(0, .slice a0' list_0.length c0'), (1, .slice a1' needs_1.length c1'), (8, .int .i64 st72.1), (9, .int .i64 st72.2), (92, .int .i64 (wI64 (x146.OnHand - x148.Reserved))), (93, .int .i64 st107.1)] (by kernel_rfl) ?_
  obtain ⟨x150, hx151, hm⟩ := bindE hm
  refine QL.st (.int .i64 x150) (ST.quo (k := .i64) hx151 rfl rfl rfl) rfl rfl rfl ?_
  refine QL.step1v 13 (.int .i64 x150) rfl (fun _ => by kernel_rfl) ?_
  refine QL.subk [0, 1, 8, 9, 13] [(0, .slice a0' list_0.length c0'), (1, .slice a1' needs_1.length c1'), (8, .int .i64 st72.1), (9, .int .i64 st72.2), (13, .int .i64 x150)] (by kernel_rfl) ?_
  refine QL.nil ?_
  intro w152 hE153
  have hb154 : Ext w w152 := Ext.trans hb109 hE153
  have hL155 : w.heap.size ≤ w152.heap.size := Nat.le_trans hL110 hE153.size
  have hS156 : SH w152 w.heap.size [] := SH.ext hS111 hE153
  refine WQ.then_normal (hK145 _ _ _ ?_)
  refine WP.seq (fun K157 hK157 => ?_)
  obtain ⟨x159, hx160, hm⟩ := bindE hm
  refine WP.cut (fun env' w' => env' = [(0, .slice a0' list_0.length c0'), (1, .slice a1' needs_1.length c1'), (8, .int .i64 st72.1), (9, .int .i64 st72.2), (13, .int .i64 x150), (101, .bool x159)] ∧ Ext w w' ∧ w.heap.size ≤ w'.heap.size ∧ SH w' w.heap.size []) ?_ ?_
  · have hm := hx160; clear hx160
    refine WP.region ?_
    refine WL.runk 3 [0, 1, 8, 9, 13, 97] [(0, .slice a0' list_0.length c0'), (1, .slice a1' needs_1.length c1'), (8, .int .i64 st72.1), (9, .int .i64 st72.2), (13, .int .i64 x150), (97, .bool (decide (st72.1 < 0)))] (by kernel_rfl) ?_
    refine WL.case (decide (st72.1 < 0)) [97] ⟨rfl, trivial⟩ (fun hc161 => ?_) (fun hc161 => ?_)
    · have hm := iteT hm hc161
      refine WL.runk 4 [0, 1, 8, 9, 13, 101] [(0, .slice a0' list_0.length c0'), (1, .slice a1' needs_1.length c1'), (8, .int .i64 st72.1), (9, .int .i64 st72.2), (13, .int .i64 x150), (101, .bool true)] (by kernel_rfl) ?_
      refine WL.nil ?_
      obtain rfl := Option.some.inj hm
      exact WQ.post' ⟨rfl, hb154, hL155, hS156⟩ ⟨rfl, rfl, rfl, rfl, rfl, rfl, trivial⟩
    have hm := iteF hm hc161
    refine WL.runk 4 [0, 1, 8, 9, 13, 101] [(0, .slice a0' list_0.length c0'), (1, .slice a1' needs_1.length c1'), (8, .int .i64 st72.1), (9, .int .i64 st72.2), (13, .int .i64 x150), (101, .bool (decide (x150 < st72.1)))] (by kernel_rfl) ?_
    refine WL.nil ?_
    obtain rfl := Option.some.inj hm
    exact WQ.post' ⟨rfl, hb154, hL155, hS156⟩ ⟨rfl, rfl, rfl, rfl, rfl, rfl, trivial⟩
  clear hx160
  rintro _ w162 ⟨rfl, hb163, hL164, hS165⟩
  refine WQ.then_normal (hK157 _ _ _ ?_)
  obtain ⟨x167, hx168, hm⟩ := bindE hm
  refine WP.cut (fun env' w' => env' = [(0, .slice a0' list_0.length c0'), (1, .slice a1' needs_1.length c1'), (8, .int .i64 x167), (9, .int .i64 st72.2)] ∧ Ext w w' ∧ w.heap.size ≤ w'.heap.size ∧ SH w' w.heap.size []) ?_ ?_
  rotate_left
  · clear hx168
    rintro _ w169 ⟨rfl, hb170, hL171, hS172⟩
    refine WQ.block_normal ?_
    refine WQ.then_normal (hK88 _ _ _ ?_)
    refine WP.region ?_
    refine WL.runk 3 [0, 1, 8, 9] [(0, .slice a0' list_0.length c0'), (1, .slice a1' needs_1.length c1'), (8, .int .i64 x167), (9, .int .i64 (wI64 (st72.2 + 1)))] (by kernel_rfl) ?_
    refine WL.nil ?_
    obtain rfl := Option.some.inj hm
    exact WQ.round hK79 ⟨(x167, (wI64 (st72.2 + 1))), rfl, hb170, hL171, hS172, hl77⟩ (Nat.lt_succ_self _) ⟨rfl, rfl, rfl, rfl, trivial⟩
  have hm := hx168; clear hx168
  refine WP.cond x159 rfl rfl (fun hc166 => ?_) (fun hc166 => ?_)
  rotate_left
  · have hm := iteF hm hc166
    refine WP.skip ?_
    obtain rfl := Option.some.inj hm
    exact WQ.post' ⟨rfl, hb163, hL164, hS165⟩ ⟨rfl, rfl, rfl, rfl, trivial⟩
  have hm := iteT hm hc166
  refine WP.region ?_
  refine WL.runk 2 [0, 1, 8, 9] [(0, .slice a0' list_0.length c0'), (1, .slice a1' needs_1.length c1'), (8, .int .i64 x150), (9, .int .i64 st72.2)] (by kernel_rfl) ?_
  refine WL.nil ?_
  obtain rfl := Option.some.inj hm
  exact WQ.post' ⟨rfl, hb163, hL164, hS165⟩ ⟨rfl, rfl, rfl, rfl, trivial⟩

theorem c_66 (n : Nat) (t_0 : STake) (w : World) {r : Bool} (hm : m_impl_CanMake_1 n t_0 = some r)  :
    CallV Try.prog 66 #[.agg #[.string (bs t_0.Name), .int .i64 t_0.Many]] w (fun v w' => v = .bool r ∧ Ext w w') := by
  unfold m_impl_CanMake_1 at hm
  refine CallV.enter Try.func66 rfl (by kernel_rfl) Try.ntmps66 (env := [(0, .agg #[.string (bs t_0.Name), .int .i64 t_0.Many])]) ⟨rfl, trivial⟩ ?_
  refine WP.seq (fun K1 hK1 => ?_)
  refine WP.region ?_
  refine WL.box 43 [.string (bs t_0.Name), .int .i64 t_0.Many] 1 (by kernel_rfl) rfl rfl rfl rfl ?_
  intro b2 w3 hE4 hR5
  have hb7 : Ext w w3 := Ext.trans (Ext.refl w) hE4
  have hL8 : w.heap.size ≤ w3.heap.size := Nat.le_trans (Nat.le_refl _) hE4.size
  have hS9 : SH w3 w.heap.size [aBox 43 b2 [.string (bs t_0.Name), .int .i64 t_0.Many]] := SH.add (SH.nil _ _) hE4 (Nat.le_refl _) hR5
  refine WL.runk 1 [1] [(1, .pointer (some ⟨b2, 0, none⟩))] (by kernel_rfl) ?_
  refine WL.nil ?_
  refine WQ.then_normal (hK1 _ _ _ ?_)
  refine WP.seq (fun K10 hK10 => ?_)
  refine WP.region ?_
  refine WL.runk 1 [3] [(3, .pointer (some ⟨b2, 1, none⟩))] (by kernel_rfl) ?_
  refine WL.st (.int .i64 t_0.Many) (ST.load (cell_ext (SH.boxAt (SH.front 0 hS9) 1 _ rfl)) rfl rfl Try.underlying2 rfl) rfl rfl rfl ?_
  obtain ⟨x11, hx12, hm⟩ := bindE hm
  refine WL.call 67 #[.int .i64 t_0.Many, .int .i64 1, .int .i64 1000000] rfl rfl (by kernel_rfl) (c_67 n t_0.Many 1 1000000 w3 hx12 ) ?_
  rintro _ w13 ⟨rfl, hE14⟩
  refine ⟨_, rfl, ?_⟩
  have hb16 : Ext w w13 := Ext.trans hb7 hE14
  have hL17 : w.heap.size ≤ w13.heap.size := Nat.le_trans hL8 hE14.size
  have hS18 : SH w13 w.heap.size [aBox 43 b2 [.string (bs t_0.Name), .int .i64 t_0.Many]] := SH.ext hS9 hE14
  refine WL.runk 2 [2] [(2, .bool (!x11))] (by kernel_rfl) ?_
  refine WL.nil ?_
  refine WQ.then_normal (hK10 _ _ _ ?_)
  refine WP.ret ?_
  obtain rfl := Option.some.inj hm
  exact WQ.ret1 _ rfl rfl ⟨rfl, hb16⟩

theorem c_82_66 (n : Nat) (s_0 : List STake) (a0' : Option Addr) (c0' : Nat) (w : World) {r : Int} (hm : m_slices_IndexFunc_impl_Take_impl_Take_f66 n s_0 = some r) (h0 : Rd fTake.ty w a0' s_0) (_hle0 : s_0.length ≤ c0') :
    CallV Try.prog 82 #[.slice a0' s_0.length c0', .func (.func 66) #[] #[]] w (fun v w' => v = .int .i64 r ∧ Ext w w') := by
  unfold m_slices_IndexFunc_impl_Take_impl_Take_f66 at hm
  refine CallV.enter Try.func82 rfl (by kernel_rfl) Try.ntmps82 (env := [(0, .slice a0' s_0.length c0'), (1, .func (.func 66) #[] #[])]) ⟨rfl, rfl, trivial⟩ ?_
  refine WP.seq (fun K1 hK1 => ?_)
  refine WP.region ?_
  refine WL.runk 1 [0, 1] [(0, .slice a0' s_0.length c0'), (1, .func (.func 66) #[] #[])] (by kernel_rfl) ?_
  refine WL.nil ?_
  refine WQ.then_normal (hK1 _ _ _ ?_)
  refine WP.seq (fun K2 hK2 => ?_)
  refine WP.seq (fun K3 hK3 => ?_)
  refine WP.region ?_
  refine WL.runk 3 [0, 1, 7, 8] [(0, .slice a0' s_0.length c0'), (1, .func (.func 66) #[] #[]), (7, .int .i64 (s_0.length : Int)), (8, .int .i64 0)] (by kernel_rfl) ?_
  refine WL.nil ?_
  refine WQ.then_normal (hK3 _ _ _ ?_)
  refine WP.block ?_
  obtain ⟨t15, ht16, hm⟩ := bindE hm
  have hmo10 := hm; clear hm
  refine WP.sub [(0, .slice a0' s_0.length c0'), (1, .func (.func 66) #[] #[]), (7, .int .i64 (s_0.length : Int)), (8, .int .i64 0)] ⟨rfl, rfl, rfl, rfl, trivial⟩ ?_
  refine WP.loop (fun n' env' w' => ∃ (st4 : Int) , env' = [(0, .slice a0' s_0.length c0'), (1, .func (.func 66) #[] #[]), (7, .int .i64 (s_0.length : Int)), (8, .int .i64 st4)] ∧ Ext w w' ∧ w.heap.size ≤ w'.heap.size ∧ SH w' w.heap.size [] ∧ loopN (m_slices_IndexFunc_impl_Take_impl_Take_f66_l1 n s_0) n' st4 = some t15) n ⟨0, rfl, (Ext.refl w), (Nat.le_refl _), (SH.nil _ _), ht16⟩ ?_
  rintro n12 _ w5 ⟨st4, rfl, hb6, hL7, hS8, hl9⟩ K11 hK11
  obtain ⟨n13, s14, rfl, hm, hl9⟩ := loopN_some hl9
  unfold m_slices_IndexFunc_impl_Take_impl_Take_f66_l1 at hm
  refine WP.seq (fun K17 hK17 => ?_)
  refine WP.region ?_
  refine WL.runk 1 [0, 1, 7, 8, 9] [(0, .slice a0' s_0.length c0'), (1, .func (.func 66) #[] #[]), (7, .int .i64 (s_0.length : Int)), (8, .int .i64 st4), (9, .bool (decide (st4 < (s_0.length : Int))))] (by kernel_rfl) ?_
  refine WL.nil ?_
  refine WQ.then_normal (hK17 _ _ _ ?_)
  refine WP.seq (fun K18 hK18 => ?_)
  refine WP.cond (decide (st4 < (s_0.length : Int))) rfl rfl (fun hc19 => ?_) (fun hc19 => ?_)
  rotate_left
  · have hm := iteF hm hc19
    refine WP.exit ?_
    refine WQ.then_exit ?_
    refine WQ.then_exit ?_
    refine WQ.block_here ?_
    obtain rfl := Option.some.inj hm
    obtain rfl := afterN_done hl9
    have hm := hmo10
    refine WQ.then_normal (hK2 _ _ _ ?_)
    refine WP.seq (fun K35 hK35 => ?_)
    refine WP.region ?_
    refine WL.runk 1 [4] [(4, .int .i64 (-1))] (by kernel_rfl) ?_
    refine WL.nil ?_
    refine WQ.then_normal (hK35 _ _ _ ?_)
    refine WP.ret ?_
    obtain rfl := Option.some.inj hm
    exact WQ.ret1 _ rfl rfl ⟨rfl, hb6⟩
  have hm := iteT hm hc19
  refine WP.skip ?_
  refine WQ.then_normal (hK18 _ _ _ ?_)
  refine WP.seq (fun K20 hK20 => ?_)
  refine WP.block ?_
  refine WP.seq (fun K21 hK21 => ?_)
  refine WP.region ?_
  refine WL.runk 2 [0, 1, 5, 7, 8] [(0, .slice a0' s_0.length c0'), (1, .func (.func 66) #[] #[]), (7, .int .i64 (s_0.length : Int)), (8, .int .i64 st4), (5, .int .i64 st4)] (by kernel_rfl) ?_
  refine WL.nil ?_
  refine WQ.then_normal (hK21 _ _ _ ?_)
  refine WP.seq (fun K22 hK22 => ?_)
  refine WP.region ?_
  refine WL.runk 3 [0, 1, 5, 7, 8, 11, 12, 13] [(0, .slice a0' s_0.length c0'), (1, .func (.func 66) #[] #[]), (7, .int .i64 (s_0.length : Int)), (8, .int .i64 st4), (5, .int .i64 st4), (11, .func (.func 66) #[] #[]), (12, .slice a0' s_0.length c0'), (13, .int .i64 st4)] (by kernel_rfl) ?_
  obtain ⟨x23, hx24, hm⟩ := bindE hm
  refine WL.st (.pointer (some (at_ a0' (Int.toNat st4 * 2)))) (ST.index (T := fTake.ty) (xs := s_0) (Rd.below h0 hb6) hx24 rfl rfl rfl Try.underlying30 (info43).1 (info43).2.1) rfl rfl rfl ?_
  refine WL.st (.agg #[.string (bs x23.Name), .int .i64 x23.Many]) (ST.loadAgg (vs := fTake.leaf x23) (fun j v hv => Rd.flatA (F := fTake) (Rd.below h0 hb6) hx24 j hv) rfl rfl rfl Try.underlying43 rfl (info43).1 (info43).2.1) rfl rfl rfl ?_
  obtain ⟨x25, hx26, hm⟩ := bindE hm
  refine WL.call 66 #[.agg #[.string (bs x23.Name), .int .i64 x23.Many]] rfl rfl (by kernel_rfl) (c_66 n x23 w5 hx26 ) ?_
  rintro _ w27 ⟨rfl, hE28⟩
  refine ⟨_, rfl, ?_⟩
  have hb30 : Ext w w27 := Ext.trans hb6 hE28
  have hL31 : w.heap.size ≤ w27.heap.size := Nat.le_trans hL7 hE28.size
  have hS32 : SH w27 w.heap.size [] := SH.ext hS8 hE28
  refine WL.sub [(0, .slice a0' s_0.length c0'), (1, .func (.func 66) #[] #[]), (7, .int .i64 (s_0.length : Int)), (8, .int .i64 st4), (5, .int .i64 st4), (16, .bool x25)] ⟨rfl, rfl, rfl, rfl, rfl, rfl, trivial⟩ ?_
  refine WL.nil ?_
  refine WQ.then_normal (hK22 _ _ _ ?_)
  refine WP.cond x25 rfl rfl (fun hc33 => ?_) (fun hc33 => ?_)
  rotate_left
  · have hm := iteF hm hc33
    refine WP.skip ?_
    refine WQ.block_normal ?_
    refine WQ.then_normal (hK20 _ _ _ ?_)
    refine WP.region ?_
    refine WL.runk 2 [0, 1, 7, 8] [(0, .slice a0' s_0.length c0'), (1, .func (.func 66) #[] #[]), (7, .int .i64 (s_0.length : Int)), (8, .int .i64 (wI64 (st4 + 1)))] (by kernel_rfl) ?_
    refine WL.nil ?_
    obtain rfl := Option.some.inj hm
    exact WQ.round hK11 ⟨(wI64 (st4 + 1)), rfl, hb30, hL31, hS32, hl9⟩ (Nat.lt_succ_self _) ⟨rfl, rfl, rfl, rfl, trivial⟩
  have hm := iteT hm hc33
  refine WP.seq (fun K34 hK34 => ?_)
  refine WP.region ?_
  refine WL.runk 2 [4] [(4, .int .i64 st4)] (by kernel_rfl) ?_
  refine WL.nil ?_
  refine WQ.then_normal (hK34 _ _ _ ?_)
  refine WP.ret ?_
  refine WQ.block_ret ?_
  refine WQ.then_ret ?_
  refine WQ.then_ret ?_
  refine WQ.block_ret ?_
  refine WQ.then_ret ?_
  obtain rfl := Option.some.inj hm
  obtain rfl := afterN_done hl9
  have hm := hmo10
  obtain rfl := Option.some.inj hm
  exact WQ.ret1 _ rfl rfl ⟨rfl, hb30⟩

theorem c_65_66 (n : Nat) (s_0 : List STake) (a0' : Option Addr) (c0' : Nat) (w : World) {r : Bool} (hm : m_slices_ContainsFunc_impl_Take_impl_Take_f66 n s_0 = some r) (h0 : Rd fTake.ty w a0' s_0) (hle0 : s_0.length ≤ c0') :
    CallV Try.prog 65 #[.slice a0' s_0.length c0', .func (.func 66) #[] #[]] w (fun v w' => v = .bool r ∧ Ext w w') := by
  unfold m_slices_ContainsFunc_impl_Take_impl_Take_f66 at hm
  refine CallV.enter Try.func65 rfl (by kernel_rfl) Try.ntmps65 (env := [(0, .slice a0' s_0.length c0'), (1, .func (.func 66) #[] #[])]) ⟨rfl, rfl, trivial⟩ ?_
  refine WP.seq (fun K1 hK1 => ?_)
  refine WP.region ?_
  refine WL.runk 1 [0, 1] [(0, .slice a0' s_0.length c0'), (1, .func (.func 66) #[] #[])] (by kernel_rfl) ?_
  refine WL.nil ?_
  refine WQ.then_normal (hK1 _ _ _ ?_)
  refine WP.seq (fun K2 hK2 => ?_)
  refine WP.region ?_
  refine WL.runk 2 [5, 6] [(5, .slice a0' s_0.length c0'), (6, .func (.func 66) #[] #[])] (by kernel_rfl) ?_
  obtain ⟨x3, hx4, hm⟩ := bindE hm
  refine WL.call 82 #[.slice a0' s_0.length c0', .func (.func 66) #[] #[]] rfl rfl (by kernel_rfl) (c_82_66 n s_0 a0' c0' w hx4 (Rd.below h0 (Ext.refl w)) hle0) ?_
  rintro _ w5 ⟨rfl, hE6⟩
  refine ⟨_, rfl, ?_⟩
  have hb8 : Ext w w5 := Ext.trans (Ext.refl w) hE6
  have hL9 : w.heap.size ≤ w5.heap.size := Nat.le_trans (Nat.le_refl _) hE6.size
  have hS10 : SH w5 w.heap.size [] := SH.ext (SH.nil _ _) hE6
  refine WL.runk 2 [4] [(4, .bool (decide (x3 ≥ 0)))] (by kernel_rfl) ?_
  refine WL.nil ?_
  refine WQ.then_normal (hK2 _ _ _ ?_)
  refine WP.ret ?_
  obtain rfl := Option.some.inj hm
  exact WQ.ret1 _ rfl rfl ⟨rfl, hb8⟩

theorem c_38 (n : Nat) (list_0 : List SGood) (a0' : Option Addr) (c0' : Nat) (needs_1 : List STake) (a1' : Option Addr) (c1' : Nat) (w : World) {r : Int × Int} (hm : m_impl_CanMake n list_0 needs_1 = some r) (h0 : Rd fGood.ty w a0' list_0) (hle0 : list_0.length ≤ c0') (h1 : Rd fTake.ty w a1' needs_1) (hle1 : needs_1.length ≤ c1') :
    CallV Try.prog 38 #[.slice a0' list_0.length c0', .slice a1' needs_1.length c1'] w (fun v w' => v = .tuple #[.int .i64 r.1, .int .i64 r.2] ∧ Ext w w') := by
  unfold m_impl_CanMake at hm
  refine CallV.enter Try.func38 rfl (by kernel_rfl) Try.ntmps38 (env := [(0, .slice a0' list_0.length c0'), (1, .slice a1' needs_1.length c1')]) ⟨rfl, rfl, trivial⟩ ?_
  refine WP.seq (fun K1 hK1 => ?_)
  refine WP.region ?_
  refine WL.runk 2 [0, 1] [(0, .slice a0' list_0.length c0'), (1, .slice a1' needs_1.length c1')] (by kernel_rfl) ?_
  refine WL.nil ?_
  refine WQ.then_normal (hK1 _ _ _ ?_)
  refine WP.seq (fun K2 hK2 => ?_)
  refine WP.block ?_
  refine WP.seq (fun K3 hK3 => ?_)
  refine WP.region ?_
  refine WL.runk 1 [0, 1, 16] [(0, .slice a0' list_0.length c0'), (1, .slice a1' needs_1.length c1'), (16, .slice a0' list_0.length c0')] (by kernel_rfl) ?_
  obtain ⟨x4, hx5, hm⟩ := bindE hm
  refine WL.call 19 #[.slice a0' list_0.length c0'] rfl rfl (by kernel_rfl) (c_19 n list_0 a0' c0' w hx5 (Rd.below h0 (Ext.refl w)) hle0) ?_
  rintro _ w6 ⟨rfl, hE7⟩
  refine ⟨_, rfl, ?_⟩
  have hb9 : Ext w w6 := Ext.trans (Ext.refl w) hE7
  have hL10 : w.heap.size ≤ w6.heap.size := Nat.le_trans (Nat.le_refl _) hE7.size
  have hS11 : SH w6 w.heap.size [] := SH.ext (SH.nil _ _) hE7
  refine WL.runk 2 [0, 1, 15] [(0, .slice a0' list_0.length c0'), (1, .slice a1' needs_1.length c1'), (15, .bool (!x4))] (by kernel_rfl) ?_
  refine WL.nil ?_
  refine WQ.then_normal (hK3 _ _ _ ?_)
  refine WP.cond (!x4) rfl rfl (fun hc12 => ?_) (fun hc12 => ?_)
  · have hm := iteT hm hc12
    refine WP.seq (fun K13 hK13 => ?_)
    refine WP.region ?_
    refine WL.runk 2 [4, 5] [(4, .int .i64 0), (5, .int .i64 1)] (by kernel_rfl) ?_
    refine WL.nil ?_
    refine WQ.then_normal (hK13 _ _ _ ?_)
    refine WP.ret ?_
    refine WQ.block_ret ?_
    refine WQ.then_ret ?_
    obtain rfl := Option.some.inj hm
    exact WQ.ret2 _ _ rfl rfl rfl ⟨rfl, hb9⟩
  have hm := iteF hm hc12
  refine WP.seq (fun K14 hK14 => ?_)
  obtain ⟨x24, hx25, hm⟩ := bindE hm
  refine WP.cut (fun env' w' => env' = [(0, .slice a0' list_0.length c0'), (1, .slice a1' needs_1.length c1'), (19, .bool x24)] ∧ Ext w w' ∧ w.heap.size ≤ w'.heap.size ∧ SH w' w.heap.size []) ?_ ?_
  · have hm := hx25; clear hx25
    refine WP.region ?_
    refine WL.runk 4 [0, 1, 23] [(0, .slice a0' list_0.length c0'), (1, .slice a1' needs_1.length c1'), (23, .bool (decide ((needs_1.length : Int) > 60)))] (by kernel_rfl) ?_
    refine WL.case (decide ((needs_1.length : Int) > 60)) [23] ⟨rfl, trivial⟩ (fun hc26 => ?_) (fun hc26 => ?_)
    · have hm := iteT hm hc26
      refine WL.runk 4 [0, 1, 19] [(0, .slice a0' list_0.length c0'), (1, .slice a1' needs_1.length c1'), (19, .bool true)] (by kernel_rfl) ?_
      refine WL.nil ?_
      obtain rfl := Option.some.inj hm
      exact WQ.post' ⟨rfl, hb9, hL10, hS11⟩ ⟨rfl, rfl, rfl, trivial⟩
    have hm := iteF hm hc26
    refine WL.runk 1 [0, 1, 23, 24] [(0, .slice a0' list_0.length c0'), (1, .slice a1' needs_1.length c1'), (23, .bool false), (24, .slice a1' needs_1.length c1')] (by kernel_rfl) ?_
    obtain ⟨x27, hx28, hm⟩ := bindE hm
    refine WL.call 65 #[.slice a1' needs_1.length c1', .func (.func 66) #[] #[]] rfl rfl (by kernel_rfl) (c_65_66 n needs_1 a1' c1' w6 hx28 (Rd.below h1 hb9) hle1) ?_
    rintro _ w29 ⟨rfl, hE30⟩
    refine ⟨_, rfl, ?_⟩
    have hb32 : Ext w w29 := Ext.trans hb9 hE30
    have hL33 : w.heap.size ≤ w29.heap.size := Nat.le_trans hL10 hE30.size
    have hS34 : SH w29 w.heap.size [] := SH.ext hS11 hE30
    refine WL.runk 2 [0, 1, 19] [(0, .slice a0' list_0.length c0'), (1, .slice a1' needs_1.length c1'), (19, .bool x27)] (by kernel_rfl) ?_
    refine WL.nil ?_
    obtain rfl := Option.some.inj hm
    exact WQ.post' ⟨rfl, hb32, hL33, hS34⟩ ⟨rfl, rfl, rfl, trivial⟩
  clear hx25
  rintro _ w35 ⟨rfl, hb36, hL37, hS38⟩
  refine WQ.then_normal (hK14 _ _ _ ?_)
  refine WP.cond x24 rfl rfl (fun hc39 => ?_) (fun hc39 => ?_)
  · have hm := iteT hm hc39
    refine WP.seq (fun K40 hK40 => ?_)
    refine WP.region ?_
    refine WL.runk 2 [4, 5] [(4, .int .i64 0), (5, .int .i64 2)] (by kernel_rfl) ?_
    refine WL.nil ?_
    refine WQ.then_normal (hK40 _ _ _ ?_)
    refine WP.ret ?_
    refine WQ.block_ret ?_
    refine WQ.then_ret ?_
    obtain rfl := Option.some.inj hm
    exact WQ.ret2 _ _ rfl rfl rfl ⟨rfl, hb36⟩
  have hm := iteF hm hc39
  refine WP.seq (fun K41 hK41 => ?_)
  refine WP.region ?_
  refine WL.runk 4 [0, 1, 27] [(0, .slice a0' list_0.length c0'), (1, .slice a1' needs_1.length c1'), (27, .bool ((needs_1.length : Int) == 0))] (by kernel_rfl) ?_
  refine WL.nil ?_
  refine WQ.then_normal (hK41 _ _ _ ?_)
  refine WP.cond ((needs_1.length : Int) == 0) rfl rfl (fun hc42 => ?_) (fun hc42 => ?_)
  · have hm := iteT hm hc42
    refine WP.seq (fun K43 hK43 => ?_)
    refine WP.region ?_
    refine WL.runk 2 [4, 5] [(4, .int .i64 0), (5, .int .i64 6)] (by kernel_rfl) ?_
    refine WL.nil ?_
    refine WQ.then_normal (hK43 _ _ _ ?_)
    refine WP.ret ?_
    refine WQ.block_ret ?_
    refine WQ.then_ret ?_
    obtain rfl := Option.some.inj hm
    exact WQ.ret2 _ _ rfl rfl rfl ⟨rfl, hb36⟩
  have hm := iteF hm hc42
  refine WP.skip ?_
  refine WQ.block_normal ?_
  refine WQ.then_normal (hK2 _ _ _ ?_)
  refine WP.seq (fun K44 hK44 => ?_)
  refine WP.region ?_
  refine WL.runk 2 [0, 1, 32] [(0, .slice a0' list_0.length c0'), (1, .slice a1' needs_1.length c1'), (32, .int .i64 (list_0.length : Int))] (by kernel_rfl) ?_
  obtain ⟨x45, hx46, hm⟩ := bindE hm
  refine WL.make fInt 33 hx46 rfl rfl rfl Try.underlying83 (info2).1 (info2).2.2.1 (info2).2.1 (info2).2.2.2 rfl rfl rfl rfl rfl ?_
  intro a47 c48 w49 hE50 hR51
  have hb53 : Ext w w49 := Ext.trans hb36 hE50
  have hL54 : w.heap.size ≤ w49.heap.size := Nat.le_trans hL37 hE50.size
  have hS55 : SH w49 w.heap.size [aOwn fInt 2 a47 c48 x45] := SH.add hS38 hE50 hL37 hR51
  refine WL.runk 1 [0, 1, 6] [(0, .slice a0' list_0.length c0'), (1, .slice a1' needs_1.length c1'), (6, .slice a47 x45.length c48)] (by kernel_rfl) ?_
  refine WL.nil ?_
  refine WQ.then_normal (hK44 _ _ _ ?_)
  refine WP.seq (fun K56 hK56 => ?_)
  refine WP.seq (fun K57 hK57 => ?_)
  refine WP.region ?_
  refine WL.runk 3 [0, 6, 34, 35, 36] [(0, .slice a0' list_0.length c0'), (6, .slice a47 x45.length c48), (34, .slice a1' needs_1.length c1'), (35, .int .i64 (needs_1.length : Int)), (36, .int .i64 0)] (by kernel_rfl) ?_
  refine WL.nil ?_
  refine WQ.then_normal (hK57 _ _ _ ?_)
  refine WP.block ?_
  obtain ⟨t191, ht192, hm⟩ := bindE hm
  have hmo186 := hm; clear hm
  refine WP.sub [(0, .slice a0' list_0.length c0'), (6, .slice a47 x45.length c48), (34, .slice a1' needs_1.length c1'), (35, .int .i64 (needs_1.length : Int)), (36, .int .i64 0)] ⟨rfl, rfl, rfl, rfl, rfl, trivial⟩ ?_
  refine WP.loop (fun n' env' w' => ∃ (st180 : Int × List Int) , env' = [(0, .slice a0' list_0.length c0'), (6, .slice a47 st180.2.length c48), (34, .slice a1' needs_1.length c1'), (35, .int .i64 (needs_1.length : Int)), (36, .int .i64 st180.1)] ∧ Ext w w' ∧ w.heap.size ≤ w'.heap.size ∧ SH w' w.heap.size [aOwn fInt 2 a47 c48 st180.2] ∧ loopN (m_impl_CanMake_l1 n list_0 needs_1) n' st180 = some t191) n ⟨(0, x45), rfl, hb53, hL54, hS55, ht192⟩ ?_
  rintro n188 _ w181 ⟨st180, rfl, hb182, hL183, hS184, hl185⟩ K187 hK187
  obtain ⟨n189, s190, rfl, hm, hl185⟩ := loopN_some hl185
  unfold m_impl_CanMake_l1 at hm
  refine WP.seq (fun K193 hK193 => ?_)
  refine WP.region ?_
  refine WL.runk 1 [0, 6, 34, 35, 36, 37] [(0, .slice a0' list_0.length c0'), (6, .slice a47 st180.2.length c48), (34, .slice a1' needs_1.length c1'), (35, .int .i64 (needs_1.length : Int)), (36, .int .i64 st180.1), (37, .bool (decide (st180.1 < (needs_1.length : Int))))] (by kernel_rfl) ?_
  refine WL.nil ?_
  refine WQ.then_normal (hK193 _ _ _ ?_)
  refine WP.seq (fun K194 hK194 => ?_)
  refine WP.cond (decide (st180.1 < (needs_1.length : Int))) rfl rfl (fun hc195 => ?_) (fun hc195 => ?_)
  · have hm := iteT hm hc195
    refine WP.skip ?_
    refine WQ.then_normal (hK194 _ _ _ ?_)
    refine WP.seq (fun K196 hK196 => ?_)
    refine WP.block ?_
    refine WP.seq (fun K197 hK197 => ?_)
    refine WP.region ?_
    obtain ⟨x198, hx199, hm⟩ := bindE hm
    refine WL.st (.pointer (some (at_ a1' (Int.toNat st180.1 * 2)))) (ST.index (T := fTake.ty) (xs := needs_1) (Rd.below h1 hb182) hx199 rfl rfl rfl Try.underlying30 (info43).1 (info43).2.1) rfl rfl rfl ?_
    refine WL.st (.agg #[.string (bs x198.Name), .int .i64 x198.Many]) (ST.loadAgg (vs := fTake.leaf x198) (fun j v hv => Rd.flatA (F := fTake) (Rd.below h1 hb182) hx199 j hv) rfl rfl rfl Try.underlying43 rfl (info43).1 (info43).2.1) rfl rfl rfl ?_
    refine WL.box 43 [.string (bs []), .int .i64 0] 8 (by kernel_rfl) rfl rfl rfl rfl ?_
    intro b200 w201 hE202 hR203
    have hb205 : Ext w w201 := Ext.trans hb182 hE202
    have hL206 : w.heap.size ≤ w201.heap.size := Nat.le_trans hL183 hE202.size
    have hS207 : SH w201 w.heap.size [aBox 43 b200 [.string (bs []), .int .i64 0], aOwn fInt 2 a47 c48 st180.2] := SH.add hS184 hE202 hL183 hR203
    refine WL.boxStore 0 [.string (bs x198.Name), .int .i64 x198.Many] [.string (bs x198.Name), .int .i64 x198.Many] (SH.front 0 hS207) hL206 rfl rfl rfl rfl rfl rfl rfl (info43).1 (info43).2.1 rfl rfl rfl ?_
    intro w208 hB209 hS210
    have hb211 : Ext w w208 := Below.trans hb205 hB209
    have hL212 : w.heap.size ≤ w208.heap.size := Nat.le_trans hL206 hB209.size
    refine WL.sub [(0, .slice a0' list_0.length c0'), (6, .slice a47 st180.2.length c48), (34, .slice a1' needs_1.length c1'), (35, .int .i64 (needs_1.length : Int)), (36, .int .i64 st180.1), (8, .pointer (some ⟨b200, 0, none⟩))] ⟨rfl, rfl, rfl, rfl, rfl, rfl, trivial⟩ ?_
    refine WL.nil ?_
    refine WQ.then_normal (hK197 _ _ _ ?_)
    refine WP.seq (fun K213 hK213 => ?_)
    refine WP.region ?_
    refine WL.runk 2 [0, 6, 8, 34, 35, 36, 41, 42] [(0, .slice a0' list_0.length c0'), (6, .slice a47 st180.2.length c48), (34, .slice a1' needs_1.length c1'), (35, .int .i64 (needs_1.length : Int)), (36, .int .i64 st180.1), (8, .pointer (some ⟨b200, 0, none⟩)), (41, .slice a0' list_0.length c0'), (42, .pointer (some ⟨b200, 0, none⟩))] (by kernel_rfl) ?_
    refine WL.st (.string (bs x198.Name)) (ST.load (cell_ext (SH.boxAt (SH.front 0 hS210) 0 _ rfl)) rfl rfl Try.underlying9 rfl) rfl rfl rfl ?_
    obtain ⟨x214, hx215, hm⟩ := bindE hm
    refine WL.call 68 #[.slice a0' list_0.length c0', .string (bs x198.Name)] rfl rfl (by kernel_rfl) (c_68 n list_0 a0' c0' x198.Name w208 hx215 (Rd.below h0 hb211) hle0) ?_
    rintro _ w216 ⟨rfl, hE217⟩
    refine ⟨_, rfl, ?_⟩
    have hb219 : Ext w w216 := Ext.trans hb211 hE217
    have hL220 : w.heap.size ≤ w216.heap.size := Nat.le_trans hL212 hE217.size
    have hS221 : SH w216 w.heap.size [aBox 43 b200 [.string (bs x198.Name), .int .i64 x198.Many], aOwn fInt 2 a47 c48 st180.2] := SH.ext hS210 hE217
    refine WL.runk 5 [0, 6, 8, 9, 10, 34, 35, 36] [(0, .slice a0' list_0.length c0'), (6, .slice a47 st180.2.length c48), (34, .slice a1' needs_1.length c1'), (35, .int .i64 (needs_1.length : Int)), (36, .int .i64 st180.1), (8, .pointer (some ⟨b200, 0, none⟩)), (9, .int .i64 x214.1), (10, .bool x214.2)] (by kernel_rfl) ?_
    refine WL.nil ?_
    refine WQ.then_normal (hK213 _ _ _ ?_)
    refine WP.seq (fun K222 hK222 => ?_)
    refine WP.seq (fun K223 hK223 => ?_)
    refine WP.region ?_
    refine WL.runk 2 [0, 6, 8, 9, 34, 35, 36, 48] [(0, .slice a0' list_0.length c0'), (6, .slice a47 st180.2.length c48), (34, .slice a1' needs_1.length c1'), (35, .int .i64 (needs_1.length : Int)), (36, .int .i64 st180.1), (8, .pointer (some ⟨b200, 0, none⟩)), (9, .int .i64 x214.1), (48, .bool (!x214.2))] (by kernel_rfl) ?_
    refine WL.nil ?_
    refine WQ.then_normal (hK223 _ _ _ ?_)
    refine WP.cond (!x214.2) rfl rfl (fun hc224 => ?_) (fun hc224 => ?_)
    · have hm := iteT hm hc224
      refine WP.seq (fun K225 hK225 => ?_)
      refine WP.region ?_
      refine WL.runk 2 [4, 5] [(4, .int .i64 0), (5, .int .i64 3)] (by kernel_rfl) ?_
      refine WL.nil ?_
      refine WQ.then_normal (hK225 _ _ _ ?_)
      refine WP.ret ?_
      refine WQ.then_ret ?_
      refine WQ.block_ret ?_
      refine WQ.then_ret ?_
      refine WQ.then_ret ?_
      refine WQ.block_ret ?_
      refine WQ.then_ret ?_
      obtain rfl := Option.some.inj hm
      obtain rfl := afterN_done hl185
      have hm := hmo186
      obtain rfl := Option.some.inj hm
      exact WQ.ret2 _ _ rfl rfl rfl ⟨rfl, hb219⟩
    have hm := iteF hm hc224
    refine WP.skip ?_
    refine WQ.then_normal (hK222 _ _ _ ?_)
    refine WP.open (n := 9) (by kernel_rfl) rfl (fun w226 hE227 => ?_)
    have hb228 : Ext w w226 := Ext.trans hb219 hE227
    have hL229 : w.heap.size ≤ w226.heap.size := Nat.le_trans hL220 hE227.size
    have hS230 : SH w226 w.heap.size [aBox 43 b200 [.string (bs x198.Name), .int .i64 x198.Many], aOwn fInt 2 a47 c48 st180.2] := SH.ext hS221 hE227
    refine WA.quiet (f' := 1) (D' := [0, 1, 2, 3, 4, 5, 6, 7]) [0, 1, 2, 3, 4, 5, 6, 7] rfl rfl (by kernel_rfl) ?_
    refine QL.step1v 49 (.slice a47 st180.2.length c48) rfl (fun _ => by kernel_rfl) ?_
    refine QL.step1v 50 (.int .i64 x214.1) rfl (fun _ => by kernel_rfl) ?_
    refine QL.subk [0, 6, 34, 35, 36, 8, 49, 50] [(0, .slice a0' list_0.length c0'), (6, .slice a47 st180.2.length c48), (34, .slice a1' needs_1.length c1'), (35, .int .i64 (needs_1.length : Int)), (36, .int .i64 st180.1), (8, .pointer (some ⟨b200, 0, none⟩)), (49, .slice a47 st180.2.length c48), (50, .int .i64 x214.1)] (by kernel_rfl) ?_
    obtain ⟨x231, hx232, hm⟩ := bindE hm
    refine QL.st (.pointer (some (at_ a47 (Int.toNat x214.1 * 1)))) (ST.index (T := fInt.ty) (xs := st180.2) (SH.rd (SH.front 1 hS230)) hx232 rfl rfl rfl Try.underlying83 (info2).1 (info2).2.1) rfl rfl rfl ?_
    refine QL.st (.int .i64 x231) (ST.load (cell_ext (Rd.flat (F := fInt) (SH.rd (SH.front 1 hS230)) hx232 0 rfl)) rfl rfl Try.underlying2 rfl) rfl rfl rfl ?_
    refine QL.step1v 53 (.pointer (some ⟨b200, 1, none⟩)) rfl (fun _ => by kernel_rfl) ?_
    refine QL.subk [0, 6, 34, 35, 36, 49, 50, 52, 53] [(0, .slice a0' list_0.length c0'), (6, .slice a47 st180.2.length c48), (34, .slice a1' needs_1.length c1'), (35, .int .i64 (needs_1.length : Int)), (36, .int .i64 st180.1), (49, .slice a47 st180.2.length c48), (50, .int .i64 x214.1), (52, .int .i64 x231), (53, .pointer (some ⟨b200, 1, none⟩))] (by kernel_rfl) ?_
    refine QL.st (.int .i64 x198.Many) (ST.load (cell_ext (SH.boxAt (SH.front 0 hS230) 1 _ rfl)) rfl rfl Try.underlying2 rfl) rfl rfl rfl ?_
    refine QL.step1v 55 (.int .i64 (wI64 (x231 + x198.Many))) rfl (fun _ => by kernel_rfl) ?_
    refine QL.subk [0, 6, 34, 35, 36, 49, 50, 55] [(0, .slice a0' list_0.length c0'), (6, .slice a47 st180.2.length c48), (34, .slice a1' needs_1.length c1'), (35, .int .i64 (needs_1.length : Int)), (36, .int .i64 st180.1), (49, .slice a47 st180.2.length c48), (50, .int .i64 x214.1), (55, .int .i64 (wI64 (x231 + x198.Many)))] (by kernel_rfl) ?_
    obtain ⟨x233, hx234, hm⟩ := bindE hm
    refine QL.st (.pointer (some (at_ a47 (Int.toNat x214.1 * 1)))) (ST.index (T := fInt.ty) (xs := st180.2) (SH.rd (SH.front 1 hS230)) hx234 rfl rfl rfl Try.underlying83 (info2).1 (info2).2.1) rfl rfl rfl ?_
    refine QL.subk [0, 6, 34, 35, 36, 55, 56] [(0, .slice a0' list_0.length c0'), (6, .slice a47 st180.2.length c48), (34, .slice a1' needs_1.length c1'), (35, .int .i64 (needs_1.length : Int)), (36, .int .i64 st180.1), (55, .int .i64 (wI64 (x231 + x198.Many))), (56, .pointer (some (at_ a47 (Int.toNat x214.1 * 1))))] (by kernel_rfl) ?_
    refine QL.nil ?_
    intro w235 hE236
    have hb237 : Ext w w235 := Ext.trans hb228 hE236
    have hL238 : w.heap.size ≤ w235.heap.size := Nat.le_trans hL229 hE236.size
    have hS239 : SH w235 w.heap.size [aBox 43 b200 [.string (bs x198.Name), .int .i64 x198.Many], aOwn fInt 2 a47 c48 st180.2] := SH.ext hS230 hE236
    refine WA.one (i := 8) (D' := [0, 1, 2, 3, 4, 5, 6, 7, 8]) rfl rfl (by kernel_rfl) ?_
    refine WL.store (F := fInt) (wI64 (x231 + x198.Many)) 0 [.int .i64 (wI64 (x231 + x198.Many))] (SH.front 1 hS239) hL238 hx234 rfl rfl rfl rfl rfl rfl rfl (info2).1 (info2).2.1 rfl rfl rfl ?_
    intro w240 hB241 hS242
    have hb243 : Ext w w240 := Below.trans hb237 hB241
    have hL244 : w.heap.size ≤ w240.heap.size := Nat.le_trans hL238 hB241.size
    refine WL.sub [(0, .slice a0' list_0.length c0'), (6, .slice a47 ((st180.2.set (Int.toNat x214.1) (wI64 (x231 + x198.Many))).length) c48), (34, .slice a1' needs_1.length c1'), (35, .int .i64 (needs_1.length : Int)), (36, .int .i64 st180.1), (55, .int .i64 (wI64 (x231 + x198.Many)))] ⟨rfl, by first | (simp only [List.length_set]; done) | (simp only [List.length_set]; rfl), rfl, rfl, rfl, rfl, trivial⟩ ?_
    refine WL.sub [(0, .slice a0' list_0.length c0'), (6, .slice a47 ((st180.2.set (Int.toNat x214.1) (wI64 (x231 + x198.Many))).length) c48), (34, .slice a1' needs_1.length c1'), (35, .int .i64 (needs_1.length : Int)), (36, .int .i64 st180.1)] ⟨rfl, rfl, rfl, rfl, rfl, trivial⟩ ?_
    refine WL.nil ?_
    refine WA.done (by kernel_rfl) ?_
    refine WQ.block_normal ?_
    refine WQ.then_normal (hK196 _ _ _ ?_)
    refine WP.region ?_
    refine WL.runk 2 [0, 6, 34, 35, 36] [(0, .slice a0' list_0.length c0'), (6, .slice a47 ((st180.2.set (Int.toNat x214.1) (wI64 (x231 + x198.Many))).length) c48), (34, .slice a1' needs_1.length c1'), (35, .int .i64 (needs_1.length : Int)), (36, .int .i64 (wI64 (st180.1 + 1)))] (by kernel_rfl) ?_
    refine WL.nil ?_
    obtain rfl := Option.some.inj hm
    exact WQ.round hK187 ⟨((wI64 (st180.1 + 1)), (st180.2.set (Int.toNat x214.1) (wI64 (x231 + x198.Many)))), rfl, hb243, hL244, (SH.take 1 hS242), hl185⟩ (Nat.lt_succ_self _) ⟨rfl, rfl, rfl, rfl, rfl, trivial⟩
  have hm := iteF hm hc195
  refine WP.exit ?_
  refine WQ.then_exit ?_
  refine WQ.then_exit ?_
  refine WQ.block_here ?_
  obtain rfl := Option.some.inj hm
  obtain rfl := afterN_done hl185
  have hm := hmo186
  refine WQ.then_normal (hK56 _ _ _ ?_)
  refine WP.seq (fun K245 hK245 => ?_)
  refine WP.region ?_
  refine WL.runk 1 [0, 6, 11] [(0, .slice a0' list_0.length c0'), (6, .slice a47 st180.2.length c48), (11, .int .i64 (-1))] (by kernel_rfl) ?_
  refine WL.nil ?_
  refine WQ.then_normal (hK245 _ _ _ ?_)
  refine WP.seq (fun K246 hK246 => ?_)
  refine WP.seq (fun K247 hK247 => ?_)
  refine WP.region ?_
  refine WL.runk 3 [0, 11, 58, 59, 60] [(0, .slice a0' list_0.length c0'), (11, .int .i64 (-1)), (58, .slice a47 st180.2.length c48), (59, .int .i64 (st180.2.length : Int)), (60, .int .i64 0)] (by kernel_rfl) ?_
  refine WL.nil ?_
  refine WQ.then_normal (hK247 _ _ _ ?_)
  refine WP.block ?_
  obtain ⟨t259, ht260, hm⟩ := bindE hm
  have hmo254 := hm; clear hm
  refine WP.sub [(0, .slice a0' list_0.length c0'), (11, .int .i64 (-1)), (58, .slice a47 st180.2.length c48), (59, .int .i64 (st180.2.length : Int)), (60, .int .i64 0)] ⟨rfl, rfl, rfl, rfl, rfl, trivial⟩ ?_
  refine WP.loop (fun n' env' w' => ∃ (st248 : Int × Int) , env' = [(0, .slice a0' list_0.length c0'), (11, .int .i64 st248.1), (58, .slice a47 st180.2.length c48), (59, .int .i64 (st180.2.length : Int)), (60, .int .i64 st248.2)] ∧ Ext w w' ∧ w.heap.size ≤ w'.heap.size ∧ SH w' w.heap.size [aOwn fInt 2 a47 c48 st180.2] ∧ loopN (m_impl_CanMake_l3 n list_0 st180) n' st248 = some t259) n ⟨((-1), 0), rfl, hb182, hL183, hS184, ht260⟩ ?_
  rintro n256 _ w249 ⟨st248, rfl, hb250, hL251, hS252, hl253⟩ K255 hK255
  obtain ⟨n257, s258, rfl, hm, hl253⟩ := loopN_some hl253
  unfold m_impl_CanMake_l3 at hm
  refine WP.seq (fun K261 hK261 => ?_)
  refine WP.region ?_
  refine WL.runk 1 [0, 11, 58, 59, 60, 61] [(0, .slice a0' list_0.length c0'), (11, .int .i64 st248.1), (58, .slice a47 st180.2.length c48), (59, .int .i64 (st180.2.length : Int)), (60, .int .i64 st248.2), (61, .bool (decide (st248.2 < (st180.2.length : Int))))] (by kernel_rfl) ?_
  refine WL.nil ?_
  refine WQ.then_normal (hK261 _ _ _ ?_)
  refine WP.seq (fun K262 hK262 => ?_)
  refine WP.cond (decide (st248.2 < (st180.2.length : Int))) rfl rfl (fun hc263 => ?_) (fun hc263 => ?_)
  rotate_left
  · have hm := iteF hm hc263
    refine WP.exit ?_
    refine WQ.then_exit ?_
    refine WQ.then_exit ?_
    refine WQ.block_here ?_
    obtain rfl := Option.some.inj hm
    obtain rfl := afterN_done hl253
    have hm := hmo254
    refine WQ.then_normal (hK246 _ _ _ ?_)
    refine WP.seq (fun K299 hK299 => ?_)
    refine WP.region ?_
    refine WL.runk 3 [4, 5] [(4, .int .i64 st248.1), (5, .int .i64 0)] (by kernel_rfl) ?_
    refine WL.nil ?_
    refine WQ.then_normal (hK299 _ _ _ ?_)
    refine WP.ret ?_
    obtain rfl := Option.some.inj hm
    exact WQ.ret2 _ _ rfl rfl rfl ⟨rfl, hb250⟩
  have hm := iteT hm hc263
  refine WP.skip ?_
  refine WQ.then_normal (hK262 _ _ _ ?_)
  refine WP.seq (fun K264 hK264 => ?_)
  refine WP.block ?_
  refine WP.seq (fun K265 hK265 => ?_)
  refine WP.region ?_
  refine WL.runk 1 [0, 11, 58, 59, 60, 62] [(0, .slice a0' list_0.length c0'), (11, .int .i64 st248.1), (58, .slice a47 st180.2.length c48), (59, .int .i64 (st180.2.length : Int)), (60, .int .i64 st248.2), (62, .int .i64 st248.2)] (by kernel_rfl) ?_
  obtain ⟨x266, hx267, hm⟩ := bindE hm
  refine WL.st (.pointer (some (at_ a47 (Int.toNat st248.2 * 1)))) (ST.index (T := fInt.ty) (xs := st180.2) (SH.rd (SH.front 0 hS252)) hx267 rfl rfl rfl Try.underlying83 (info2).1 (info2).2.1) rfl rfl rfl ?_
  refine WL.st (.int .i64 x266) (ST.load (cell_ext (Rd.flat (F := fInt) (SH.rd (SH.front 0 hS252)) hx267 0 rfl)) rfl rfl Try.underlying2 rfl) rfl rfl rfl ?_
  refine WL.runk 2 [0, 11, 12, 13, 58, 59, 60] [(0, .slice a0' list_0.length c0'), (11, .int .i64 st248.1), (58, .slice a47 st180.2.length c48), (59, .int .i64 (st180.2.length : Int)), (60, .int .i64 st248.2), (12, .int .i64 st248.2), (13, .int .i64 x266)] (by kernel_rfl) ?_
  refine WL.nil ?_
  refine WQ.then_normal (hK265 _ _ _ ?_)
  refine WP.seq (fun K268 hK268 => ?_)
  refine WP.seq (fun K269 hK269 => ?_)
  refine WP.region ?_
  refine WL.runk 2 [0, 11, 12, 13, 58, 59, 60, 66] [(0, .slice a0' list_0.length c0'), (11, .int .i64 st248.1), (58, .slice a47 st180.2.length c48), (59, .int .i64 (st180.2.length : Int)), (60, .int .i64 st248.2), (12, .int .i64 st248.2), (13, .int .i64 x266), (66, .bool (x266 == 0))] (by kernel_rfl) ?_
  refine WL.nil ?_
  refine WQ.then_normal (hK269 _ _ _ ?_)
  refine WP.cond (x266 == 0) rfl rfl (fun hc270 => ?_) (fun hc270 => ?_)
  · have hm := iteT hm hc270
    refine WP.exit ?_
    refine WQ.then_exit ?_
    refine WQ.block_here ?_
    refine WQ.then_normal (hK264 _ _ _ ?_)
    refine WP.region ?_
    refine WL.runk 2 [0, 11, 58, 59, 60] [(0, .slice a0' list_0.length c0'), (11, .int .i64 st248.1), (58, .slice a47 st180.2.length c48), (59, .int .i64 (st180.2.length : Int)), (60, .int .i64 (wI64 (st248.2 + 1)))] (by kernel_rfl) ?_
    refine WL.nil ?_
    obtain rfl := Option.some.inj hm
    exact WQ.round hK255 ⟨(st248.1, (wI64 (st248.2 + 1))), rfl, hb250, hL251, hS252, hl253⟩ (Nat.lt_succ_self _) ⟨rfl, rfl, rfl, rfl, rfl, trivial⟩
  have hm := iteF hm hc270
  refine WP.skip ?_
  refine WQ.then_normal (hK268 _ _ _ ?_)
  refine WP.seq (fun K271 hK271 => ?_)
  refine WP.quiet (by kernel_rfl) (by kernel_rfl) ?_
  refine QL.step1v 67 (.slice a0' list_0.length c0') rfl (fun _ => by kernel_rfl) ?_
  refine QL.step1v 68 (.int .i64 st248.2) rfl (fun _ => by kernel_rfl) ?_
  refine QL.subk [0, 11, 58, 59, 60, 12, 13, 67, 68] [(0, .slice a0' list_0.length c0'), (11, .int .i64 st248.1), (58, .slice a47 st180.2.length c48), (59, .int .i64 (st180.2.length : Int)), (60, .int .i64 st248.2), (12, .int .i64 st248.2), (13, .int .i64 x266), (67, .slice a0' list_0.length c0'), (68, .int .i64 st248.2)] (by kernel_rfl) ?_
  obtain ⟨x272, hx273, hm⟩ := bindE hm
  refine QL.st (.pointer (some (at_ a0' (Int.toNat st248.2 * 4)))) (ST.index (T := fGood.ty) (xs := list_0) (Rd.below h0 hb250) hx273 rfl rfl rfl Try.underlying25 (info56).1 (info56).2.1) rfl rfl rfl ?_
  refine QL.step1v 70 (.pointer (some (at_ a0' (Int.toNat st248.2 * 4 + 1)))) rfl (fun _ => by kernel_rfl) ?_
  refine QL.subk [0, 11, 58, 59, 60, 12, 13, 70] [(0, .slice a0' list_0.length c0'), (11, .int .i64 st248.1), (58, .slice a47 st180.2.length c48), (59, .int .i64 (st180.2.length : Int)), (60, .int .i64 st248.2), (12, .int .i64 st248.2), (13, .int .i64 x266), (70, .pointer (some (at_ a0' (Int.toNat st248.2 * 4 + 1))))] (by kernel_rfl) ?_
  refine QL.st (.int .i64 x272.OnHand) (ST.load (cell_ext (Rd.flat (F := fGood) (Rd.below h0 hb250) hx273 1 rfl)) rfl rfl Try.underlying2 rfl) rfl rfl rfl ?_
  refine QL.step1v 72 (.slice a0' list_0.length c0') rfl (fun _ => by kernel_rfl) ?_
  refine QL.step1v 73 (.int .i64 st248.2) rfl (fun _ => by kernel_rfl) ?_
  refine QL.subk [0, 11, 58, 59, 60, 13, 71, 72, 73] [(0, .slice a0' list_0.length c0'), (11, .int .i64 st248.1), (58, .slice a47 st180.2.length c48), (59, .int .i64 (st180.2.length : Int)), (60, .int .i64 st248.2), (13, .int .i64 x266), (71, .int .i64 x272.OnHand), (72, .slice a0' list_0.length c0'), (73, .int .i64 st248.2)] (by kernel_rfl) ?_
  obtain ⟨x274, hx275, hm⟩ := bindE hm
  refine QL.st (.pointer (some (at_ a0' (Int.toNat st248.2 * 4)))) (ST.index (T := fGood.ty) (xs := list_0) (Rd.below h0 hb250) hx275 rfl rfl rfl Try.underlying25 (info56).1 (info56).2.1) rfl rfl rfl ?_
  refine QL.step1v 75 (.pointer (some (at_ a0' (Int.toNat st248.2 * 4 + 2)))) rfl (fun _ => by kernel_rfl) ?_
  refine QL.subk [0, 11, 58, 59, 60, 13, 71, 75] [(0, .slice a0' list_0.length c0'), (11, .int .i64 st248.1), (58, .slice a47 st180.2.length c48), (59, .int .i64 (st180.2.length : Int)), (60, .int .i64 st248.2), (13, .int .i64 x266), (71, .int .i64 x272.OnHand), (75, .pointer (some (at_ a0' (Int.toNat st248.2 * 4 + 2))))] (by kernel_rfl) ?_
  refine QL.st (.int .i64 x274.Reserved) (ST.load (cell_ext (Rd.flat (F := fGood) (Rd.below h0 hb250) hx275 2 rfl)) rfl rfl Try.underlying2 rfl) rfl rfl rfl ?_
  refine QL.step1v 77 (.int .i64 (wI64 (x272.OnHand - x274.Reserved))) rfl (fun _ => by kernel_rfl) ?_
  refine QL.step1v 78 (.int .i64 x266) rfl (fun _ => by kernel_rfl) ?_
  refine QL.subk [0, 11, 58, 59, 60, 77, 78] [(0, .slice a0' list_0.length c0'), (11, .int .i64 st248.1), (58, .slice a47 st180.2.length c48), (59, .int .i64 (st180.2.length : Int)), (60, .int .i64 st248.2), (77, .int .i64 (wI64 (x272.OnHand - x274.Reserved))), (78, .int .i64 x266)] (by kernel_rfl) ?_
  obtain ⟨x276, hx277, hm⟩ := bindE hm
  refine QL.st (.int .i64 x276) (ST.quo (k := .i64) hx277 rfl rfl rfl) rfl rfl rfl ?_
  refine QL.step1v 14 (.int .i64 x276) rfl (fun _ => by kernel_rfl) ?_
  refine QL.subk [0, 11, 58, 59, 60, 14] [(0, .slice a0' list_0.length c0'), (11, .int .i64 st248.1), (58, .slice a47 st180.2.length c48), (59, .int .i64 (st180.2.length : Int)), (60, .int .i64 st248.2), (14, .int .i64 x276)] (by kernel_rfl) ?_
  refine QL.nil ?_
  intro w278 hE279
  have hb280 : Ext w w278 := Ext.trans hb250 hE279
  have hL281 : w.heap.size ≤ w278.heap.size := Nat.le_trans hL251 hE279.size
  have hS282 : SH w278 w.heap.size [aOwn fInt 2 a47 c48 st180.2] := SH.ext hS252 hE279
  refine WQ.then_normal (hK271 _ _ _ ?_)
  refine WP.seq (fun K283 hK283 => ?_)
  obtain ⟨x285, hx286, hm⟩ := bindE hm
  refine WP.cut (fun env' w' => env' = [(0, .slice a0' list_0.length c0'), (11, .int .i64 st248.1), (58, .slice a47 st180.2.length c48), (59, .int .i64 (st180.2.length : Int)), (60, .int .i64 st248.2), (14, .int .i64 x276), (86, .bool x285)] ∧ Ext w w' ∧ w.heap.size ≤ w'.heap.size ∧ SH w' w.heap.size [aOwn fInt 2 a47 c48 st180.2]) ?_ ?_
  · have hm := hx286; clear hx286
    refine WP.region ?_
    refine WL.runk 3 [0, 11, 14, 58, 59, 60, 82] [(0, .slice a0' list_0.length c0'), (11, .int .i64 st248.1), (58, .slice a47 st180.2.length c48), (59, .int .i64 (st180.2.length : Int)), (60, .int .i64 st248.2), (14, .int .i64 x276), (82, .bool (decide (st248.1 < 0)))] (by kernel_rfl) ?_
    refine WL.case (decide (st248.1 < 0)) [82] ⟨rfl, trivial⟩ (fun hc287 => ?_) (fun hc287 => ?_)
    · have hm := iteT hm hc287
      refine WL.runk 4 [0, 11, 14, 58, 59, 60, 86] [(0, .slice a0' list_0.length c0'), (11, .int .i64 st248.1), (58, .slice a47 st180.2.length c48), (59, .int .i64 (st180.2.length : Int)), (60, .int .i64 st248.2), (14, .int .i64 x276), (86, .bool true)] (by kernel_rfl) ?_
      refine WL.nil ?_
      obtain rfl := Option.some.inj hm
      exact WQ.post' ⟨rfl, hb280, hL281, hS282⟩ ⟨rfl, rfl, rfl, rfl, rfl, rfl, rfl, trivial⟩
    have hm := iteF hm hc287
    refine WL.runk 4 [0, 11, 14, 58, 59, 60, 86] [(0, .slice a0' list_0.length c0'), (11, .int .i64 st248.1), (58, .slice a47 st180.2.length c48), (59, .int .i64 (st180.2.length : Int)), (60, .int .i64 st248.2), (14, .int .i64 x276), (86, .bool (decide (x276 < st248.1)))] (by kernel_rfl) ?_
    refine WL.nil ?_
    obtain rfl := Option.some.inj hm
    exact WQ.post' ⟨rfl, hb280, hL281, hS282⟩ ⟨rfl, rfl, rfl, rfl, rfl, rfl, rfl, trivial⟩
  clear hx286
  rintro _ w288 ⟨rfl, hb289, hL290, hS291⟩
  refine WQ.then_normal (hK283 _ _ _ ?_)
  obtain ⟨x293, hx294, hm⟩ := bindE hm
  refine WP.cut (fun env' w' => env' = [(0, .slice a0' list_0.length c0'), (11, .int .i64 x293), (58, .slice a47 st180.2.length c48), (59, .int .i64 (st180.2.length : Int)), (60, .int .i64 st248.2)] ∧ Ext w w' ∧ w.heap.size ≤ w'.heap.size ∧ SH w' w.heap.size [aOwn fInt 2 a47 c48 st180.2]) ?_ ?_
  rotate_left
  · clear hx294
    rintro _ w295 ⟨rfl, hb296, hL297, hS298⟩
    refine WQ.block_normal ?_
    refine WQ.then_normal (hK264 _ _ _ ?_)
    refine WP.region ?_
    refine WL.runk 2 [0, 11, 58, 59, 60] [(0, .slice a0' list_0.length c0'), (11, .int .i64 x293), (58, .slice a47 st180.2.length c48), (59, .int .i64 (st180.2.length : Int)), (60, .int .i64 (wI64 (st248.2 + 1)))] (by kernel_rfl) ?_
    refine WL.nil ?_
    obtain rfl := Option.some.inj hm
    exact WQ.round hK255 ⟨(x293, (wI64 (st248.2 + 1))), rfl, hb296, hL297, hS298, hl253⟩ (Nat.lt_succ_self _) ⟨rfl, rfl, rfl, rfl, rfl, trivial⟩
  have hm := hx294; clear hx294
  refine WP.cond x285 rfl rfl (fun hc292 => ?_) (fun hc292 => ?_)
  rotate_left
  · have hm := iteF hm hc292
    refine WP.skip ?_
    obtain rfl := Option.some.inj hm
    exact WQ.post' ⟨rfl, hb289, hL290, hS291⟩ ⟨rfl, rfl, rfl, rfl, rfl, trivial⟩
  have hm := iteT hm hc292
  refine WP.region ?_
  refine WL.runk 2 [0, 11, 58, 59, 60] [(0, .slice a0' list_0.length c0'), (11, .int .i64 x276), (58, .slice a47 st180.2.length c48), (59, .int .i64 (st180.2.length : Int)), (60, .int .i64 st248.2)] (by kernel_rfl) ?_
  refine WL.nil ?_
  obtain rfl := Option.some.inj hm
  exact WQ.post' ⟨rfl, hb289, hL290, hS291⟩ ⟨rfl, rfl, rfl, rfl, rfl, trivial⟩

theorem c_71 (n : Nat) (t_0 : STake) (w : World) {r : Bool} (hm : m_impl_ChangeGoods_1 n t_0 = some r)  :
    CallV Try.prog 71 #[.agg #[.string (bs t_0.Name), .int .i64 t_0.Many]] w (fun v w' => v = .bool r ∧ Ext w w') := by
  unfold m_impl_ChangeGoods_1 at hm
  refine CallV.enter Try.func71 rfl (by kernel_rfl) Try.ntmps71 (env := [(0, .agg #[.string (bs t_0.Name), .int .i64 t_0.Many])]) ⟨rfl, trivial⟩ ?_
  refine WP.seq (fun K1 hK1 => ?_)
  refine WP.region ?_
  refine WL.box 43 [.string (bs t_0.Name), .int .i64 t_0.Many] 1 (by kernel_rfl) rfl rfl rfl rfl ?_
  intro b2 w3 hE4 hR5
  have hb7 : Ext w w3 := Ext.trans (Ext.refl w) hE4
  have hL8 : w.heap.size ≤ w3.heap.size := Nat.le_trans (Nat.le_refl _) hE4.size
  have hS9 : SH w3 w.heap.size [aBox 43 b2 [.string (bs t_0.Name), .int .i64 t_0.Many]] := SH.add (SH.nil _ _) hE4 (Nat.le_refl _) hR5
  refine WL.runk 1 [1] [(1, .pointer (some ⟨b2, 0, none⟩))] (by kernel_rfl) ?_
  refine WL.nil ?_
  refine WQ.then_normal (hK1 _ _ _ ?_)
  refine WP.seq (fun K10 hK10 => ?_)
  refine WP.region ?_
  refine WL.st (.agg #[.string (bs t_0.Name), .int .i64 t_0.Many]) (ST.loadAgg (vs := [.string (bs t_0.Name), .int .i64 t_0.Many]) (fun j v hv => SH.boxPart (us := [.string (bs t_0.Name), .int .i64 t_0.Many]) (SH.front 0 hS9) 0 rfl j v hv) rfl rfl rfl Try.underlying43 rfl (info43).1 (info43).2.1) rfl rfl rfl ?_
  obtain ⟨x11, hx12, hm⟩ := bindE hm
  refine WL.call 61 #[.agg #[.string (bs t_0.Name), .int .i64 t_0.Many]] rfl rfl (by kernel_rfl) (c_61 n t_0 w3 hx12 ) ?_
  rintro _ w13 ⟨rfl, hE14⟩
  refine ⟨_, rfl, ?_⟩
  have hb16 : Ext w w13 := Ext.trans hb7 hE14
  have hL17 : w.heap.size ≤ w13.heap.size := Nat.le_trans hL8 hE14.size
  have hS18 : SH w13 w.heap.size [aBox 43 b2 [.string (bs t_0.Name), .int .i64 t_0.Many]] := SH.ext hS9 hE14
  refine WL.runk 2 [2] [(2, .bool (!x11))] (by kernel_rfl) ?_
  refine WL.nil ?_
  refine WQ.then_normal (hK10 _ _ _ ?_)
  refine WP.ret ?_
  obtain rfl := Option.some.inj hm
  exact WQ.ret1 _ rfl rfl ⟨rfl, hb16⟩

theorem c_82_71 (n : Nat) (s_0 : List STake) (a0' : Option Addr) (c0' : Nat) (w : World) {r : Int} (hm : m_slices_IndexFunc_impl_Take_impl_Take_f71 n s_0 = some r) (h0 : Rd fTake.ty w a0' s_0) (_hle0 : s_0.length ≤ c0') :
    CallV Try.prog 82 #[.slice a0' s_0.length c0', .func (.func 71) #[] #[]] w (fun v w' => v = .int .i64 r ∧ Ext w w') := by
  unfold m_slices_IndexFunc_impl_Take_impl_Take_f71 at hm
  refine CallV.enter Try.func82 rfl (by kernel_rfl) Try.ntmps82 (env := [(0, .slice a0' s_0.length c0'), (1, .func (.func 71) #[] #[])]) ⟨rfl, rfl, trivial⟩ ?_
  refine WP.seq (fun K1 hK1 => ?_)
  refine WP.region ?_
  refine WL.runk 1 [0, 1] [(0, .slice a0' s_0.length c0'), (1, .func (.func 71) #[] #[])] (by kernel_rfl) ?_
  refine WL.nil ?_
  refine WQ.then_normal (hK1 _ _ _ ?_)
  refine WP.seq (fun K2 hK2 => ?_)
  refine WP.seq (fun K3 hK3 => ?_)
  refine WP.region ?_
  refine WL.runk 3 [0, 1, 7, 8] [(0, .slice a0' s_0.length c0'), (1, .func (.func 71) #[] #[]), (7, .int .i64 (s_0.length : Int)), (8, .int .i64 0)] (by kernel_rfl) ?_
  refine WL.nil ?_
  refine WQ.then_normal (hK3 _ _ _ ?_)
  refine WP.block ?_
  obtain ⟨t15, ht16, hm⟩ := bindE hm
  have hmo10 := hm; clear hm
  refine WP.sub [(0, .slice a0' s_0.length c0'), (1, .func (.func 71) #[] #[]), (7, .int .i64 (s_0.length : Int)), (8, .int .i64 0)] ⟨rfl, rfl, rfl, rfl, trivial⟩ ?_
  refine WP.loop (fun n' env' w' => ∃ (st4 : Int) , env' = [(0, .slice a0' s_0.length c0'), (1, .func (.func 71) #[] #[]), (7, .int .i64 (s_0.length : Int)), (8, .int .i64 st4)] ∧ Ext w w' ∧ w.heap.size ≤ w'.heap.size ∧ SH w' w.heap.size [] ∧ loopN (m_slices_IndexFunc_impl_Take_impl_Take_f71_l1 n s_0) n' st4 = some t15) n ⟨0, rfl, (Ext.refl w), (Nat.le_refl _), (SH.nil _ _), ht16⟩ ?_
  rintro n12 _ w5 ⟨st4, rfl, hb6, hL7, hS8, hl9⟩ K11 hK11
  obtain ⟨n13, s14, rfl, hm, hl9⟩ := loopN_some hl9
  unfold m_slices_IndexFunc_impl_Take_impl_Take_f71_l1 at hm
  refine WP.seq (fun K17 hK17 => ?_)
  refine WP.region ?_
  refine WL.runk 1 [0, 1, 7, 8, 9] [(0, .slice a0' s_0.length c0'), (1, .func (.func 71) #[] #[]), (7, .int .i64 (s_0.length : Int)), (8, .int .i64 st4), (9, .bool (decide (st4 < (s_0.length : Int))))] (by kernel_rfl) ?_
  refine WL.nil ?_
  refine WQ.then_normal (hK17 _ _ _ ?_)
  refine WP.seq (fun K18 hK18 => ?_)
  refine WP.cond (decide (st4 < (s_0.length : Int))) rfl rfl (fun hc19 => ?_) (fun hc19 => ?_)
  rotate_left
  · have hm := iteF hm hc19
    refine WP.exit ?_
    refine WQ.then_exit ?_
    refine WQ.then_exit ?_
    refine WQ.block_here ?_
    obtain rfl := Option.some.inj hm
    obtain rfl := afterN_done hl9
    have hm := hmo10
    refine WQ.then_normal (hK2 _ _ _ ?_)
    refine WP.seq (fun K35 hK35 => ?_)
    refine WP.region ?_
    refine WL.runk 1 [4] [(4, .int .i64 (-1))] (by kernel_rfl) ?_
    refine WL.nil ?_
    refine WQ.then_normal (hK35 _ _ _ ?_)
    refine WP.ret ?_
    obtain rfl := Option.some.inj hm
    exact WQ.ret1 _ rfl rfl ⟨rfl, hb6⟩
  have hm := iteT hm hc19
  refine WP.skip ?_
  refine WQ.then_normal (hK18 _ _ _ ?_)
  refine WP.seq (fun K20 hK20 => ?_)
  refine WP.block ?_
  refine WP.seq (fun K21 hK21 => ?_)
  refine WP.region ?_
  refine WL.runk 2 [0, 1, 5, 7, 8] [(0, .slice a0' s_0.length c0'), (1, .func (.func 71) #[] #[]), (7, .int .i64 (s_0.length : Int)), (8, .int .i64 st4), (5, .int .i64 st4)] (by kernel_rfl) ?_
  refine WL.nil ?_
  refine WQ.then_normal (hK21 _ _ _ ?_)
  refine WP.seq (fun K22 hK22 => ?_)
  refine WP.region ?_
  refine WL.runk 3 [0, 1, 5, 7, 8, 11, 12, 13] [(0, .slice a0' s_0.length c0'), (1, .func (.func 71) #[] #[]), (7, .int .i64 (s_0.length : Int)), (8, .int .i64 st4), (5, .int .i64 st4), (11, .func (.func 71) #[] #[]), (12, .slice a0' s_0.length c0'), (13, .int .i64 st4)] (by kernel_rfl) ?_
  obtain ⟨x23, hx24, hm⟩ := bindE hm
  refine WL.st (.pointer (some (at_ a0' (Int.toNat st4 * 2)))) (ST.index (T := fTake.ty) (xs := s_0) (Rd.below h0 hb6) hx24 rfl rfl rfl Try.underlying30 (info43).1 (info43).2.1) rfl rfl rfl ?_
  refine WL.st (.agg #[.string (bs x23.Name), .int .i64 x23.Many]) (ST.loadAgg (vs := fTake.leaf x23) (fun j v hv => Rd.flatA (F := fTake) (Rd.below h0 hb6) hx24 j hv) rfl rfl rfl Try.underlying43 rfl (info43).1 (info43).2.1) rfl rfl rfl ?_
  obtain ⟨x25, hx26, hm⟩ := bindE hm
  refine WL.call 71 #[.agg #[.string (bs x23.Name), .int .i64 x23.Many]] rfl rfl (by kernel_rfl) (c_71 n x23 w5 hx26 ) ?_
  rintro _ w27 ⟨rfl, hE28⟩
  refine ⟨_, rfl, ?_⟩
  have hb30 : Ext w w27 := Ext.trans hb6 hE28
  have hL31 : w.heap.size ≤ w27.heap.size := Nat.le_trans hL7 hE28.size
  have hS32 : SH w27 w.heap.size [] := SH.ext hS8 hE28
  refine WL.sub [(0, .slice a0' s_0.length c0'), (1, .func (.func 71) #[] #[]), (7, .int .i64 (s_0.length : Int)), (8, .int .i64 st4), (5, .int .i64 st4), (16, .bool x25)] ⟨rfl, rfl, rfl, rfl, rfl, rfl, trivial⟩ ?_
  refine WL.nil ?_
  refine WQ.then_normal (hK22 _ _ _ ?_)
  refine WP.cond x25 rfl rfl (fun hc33 => ?_) (fun hc33 => ?_)
  rotate_left
  · have hm := iteF hm hc33
    refine WP.skip ?_
    refine WQ.block_normal ?_
    refine WQ.then_normal (hK20 _ _ _ ?_)
    refine WP.region ?_
    refine WL.runk 2 [0, 1, 7, 8] [(0, .slice a0' s_0.length c0'), (1, .func (.func 71) #[] #[]), (7, .int .i64 (s_0.length : Int)), (8, .int .i64 (wI64 (st4 + 1)))] (by kernel_rfl) ?_
    refine WL.nil ?_
    obtain rfl := Option.some.inj hm
    exact WQ.round hK11 ⟨(wI64 (st4 + 1)), rfl, hb30, hL31, hS32, hl9⟩ (Nat.lt_succ_self _) ⟨rfl, rfl, rfl, rfl, trivial⟩
  have hm := iteT hm hc33
  refine WP.seq (fun K34 hK34 => ?_)
  refine WP.region ?_
  refine WL.runk 2 [4] [(4, .int .i64 st4)] (by kernel_rfl) ?_
  refine WL.nil ?_
  refine WQ.then_normal (hK34 _ _ _ ?_)
  refine WP.ret ?_
  refine WQ.block_ret ?_
  refine WQ.then_ret ?_
  refine WQ.then_ret ?_
  refine WQ.block_ret ?_
  refine WQ.then_ret ?_
  obtain rfl := Option.some.inj hm
  obtain rfl := afterN_done hl9
  have hm := hmo10
  obtain rfl := Option.some.inj hm
  exact WQ.ret1 _ rfl rfl ⟨rfl, hb30⟩

theorem c_65_71 (n : Nat) (s_0 : List STake) (a0' : Option Addr) (c0' : Nat) (w : World) {r : Bool} (hm : m_slices_ContainsFunc_impl_Take_impl_Take_f71 n s_0 = some r) (h0 : Rd fTake.ty w a0' s_0) (hle0 : s_0.length ≤ c0') :
    CallV Try.prog 65 #[.slice a0' s_0.length c0', .func (.func 71) #[] #[]] w (fun v w' => v = .bool r ∧ Ext w w') := by
  unfold m_slices_ContainsFunc_impl_Take_impl_Take_f71 at hm
  refine CallV.enter Try.func65 rfl (by kernel_rfl) Try.ntmps65 (env := [(0, .slice a0' s_0.length c0'), (1, .func (.func 71) #[] #[])]) ⟨rfl, rfl, trivial⟩ ?_
  refine WP.seq (fun K1 hK1 => ?_)
  refine WP.region ?_
  refine WL.runk 1 [0, 1] [(0, .slice a0' s_0.length c0'), (1, .func (.func 71) #[] #[])] (by kernel_rfl) ?_
  refine WL.nil ?_
  refine WQ.then_normal (hK1 _ _ _ ?_)
  refine WP.seq (fun K2 hK2 => ?_)
  refine WP.region ?_
  refine WL.runk 2 [5, 6] [(5, .slice a0' s_0.length c0'), (6, .func (.func 71) #[] #[])] (by kernel_rfl) ?_
  obtain ⟨x3, hx4, hm⟩ := bindE hm
  refine WL.call 82 #[.slice a0' s_0.length c0', .func (.func 71) #[] #[]] rfl rfl (by kernel_rfl) (c_82_71 n s_0 a0' c0' w hx4 (Rd.below h0 (Ext.refl w)) hle0) ?_
  rintro _ w5 ⟨rfl, hE6⟩
  refine ⟨_, rfl, ?_⟩
  have hb8 : Ext w w5 := Ext.trans (Ext.refl w) hE6
  have hL9 : w.heap.size ≤ w5.heap.size := Nat.le_trans (Nat.le_refl _) hE6.size
  have hS10 : SH w5 w.heap.size [] := SH.ext (SH.nil _ _) hE6
  refine WL.runk 2 [4] [(4, .bool (decide (x3 ≥ 0)))] (by kernel_rfl) ?_
  refine WL.nil ?_
  refine WQ.then_normal (hK2 _ _ _ ?_)
  refine WP.ret ?_
  obtain rfl := Option.some.inj hm
  exact WQ.ret1 _ rfl rfl ⟨rfl, hb8⟩

theorem c_44 (n : Nat) (list_0 : List SGood) (a0' : Option Addr) (c0' : Nat) (takes_1 : List STake) (a1' : Option Addr) (c1' : Nat) (w : World) {r : List SGood × Int × Int} (hm : m_impl_ChangeGoods n list_0 takes_1 = some r) (h0 : Rd fGood.ty w a0' list_0) (hle0 : list_0.length ≤ c0') (h1 : Rd fTake.ty w a1' takes_1) (hle1 : takes_1.length ≤ c1') :
    CallV Try.prog 44 #[.slice a0' list_0.length c0', .slice a1' takes_1.length c1'] w (fun v w' => ∃ (ra0 : Option Addr) (rc0 : Nat), v = .tuple #[.slice ra0 r.1.length rc0, .int .i64 r.2.1, .int .i64 r.2.2] ∧ Ext w w' ∧ SH w' w.heap.size [aOwn fGood 56 ra0 rc0 r.1]) := by
  unfold m_impl_ChangeGoods at hm
  refine CallV.enter Try.func44 rfl (by kernel_rfl) Try.ntmps44 (env := [(0, .slice a0' list_0.length c0'), (1, .slice a1' takes_1.length c1')]) ⟨rfl, rfl, trivial⟩ ?_
  refine WP.seq (fun K1 hK1 => ?_)
  refine WP.region ?_
  refine WL.runk 3 [0, 1] [(0, .slice a0' list_0.length c0'), (1, .slice a1' takes_1.length c1')] (by kernel_rfl) ?_
  refine WL.nil ?_
  refine WQ.then_normal (hK1 _ _ _ ?_)
  refine WP.seq (fun K2 hK2 => ?_)
  refine WP.block ?_
  refine WP.seq (fun K3 hK3 => ?_)
  refine WP.region ?_
  refine WL.runk 1 [0, 1, 13] [(0, .slice a0' list_0.length c0'), (1, .slice a1' takes_1.length c1'), (13, .slice a0' list_0.length c0')] (by kernel_rfl) ?_
  obtain ⟨x4, hx5, hm⟩ := bindE hm
  refine WL.call 19 #[.slice a0' list_0.length c0'] rfl rfl (by kernel_rfl) (c_19 n list_0 a0' c0' w hx5 (Rd.below h0 (Ext.refl w)) hle0) ?_
  rintro _ w6 ⟨rfl, hE7⟩
  refine ⟨_, rfl, ?_⟩
  have hb9 : Ext w w6 := Ext.trans (Ext.refl w) hE7
  have hL10 : w.heap.size ≤ w6.heap.size := Nat.le_trans (Nat.le_refl _) hE7.size
  have hS11 : SH w6 w.heap.size [] := SH.ext (SH.nil _ _) hE7
  refine WL.runk 2 [0, 1, 12] [(0, .slice a0' list_0.length c0'), (1, .slice a1' takes_1.length c1'), (12, .bool (!x4))] (by kernel_rfl) ?_
  refine WL.nil ?_
  refine WQ.then_normal (hK3 _ _ _ ?_)
  refine WP.cond (!x4) rfl rfl (fun hc12 => ?_) (fun hc12 => ?_)
  · have hm := iteT hm hc12
    refine WP.seq (fun K13 hK13 => ?_)
    refine WP.region ?_
    refine WL.runk 3 [4, 5, 6] [(4, .slice none 0 0), (5, .int .i64 0), (6, .int .i64 1)] (by kernel_rfl) ?_
    refine WL.nil ?_
    refine WQ.then_normal (hK13 _ _ _ ?_)
    refine WP.ret ?_
    refine WQ.block_ret ?_
    refine WQ.then_ret ?_
    obtain rfl := Option.some.inj hm
    have hS15 : SH w6 w.heap.size [aOwn fGood 56 none 0 ([] : List SGood)] := SH.nilOwn hS11
    exact WQ.ret3 _ _ _ rfl rfl rfl rfl ⟨_, _, rfl, hb9, hS15⟩
  have hm := iteF hm hc12
  refine WP.seq (fun K16 hK16 => ?_)
  obtain ⟨x26, hx27, hm⟩ := bindE hm
  refine WP.cut (fun env' w' => env' = [(0, .slice a0' list_0.length c0'), (1, .slice a1' takes_1.length c1'), (16, .bool x26)] ∧ Ext w w' ∧ w.heap.size ≤ w'.heap.size ∧ SH w' w.heap.size []) ?_ ?_
  · have hm := hx27; clear hx27
    refine WP.region ?_
    refine WL.runk 4 [0, 1, 20] [(0, .slice a0' list_0.length c0'), (1, .slice a1' takes_1.length c1'), (20, .bool (decide ((takes_1.length : Int) > 60)))] (by kernel_rfl) ?_
    refine WL.case (decide ((takes_1.length : Int) > 60)) [20] ⟨rfl, trivial⟩ (fun hc28 => ?_) (fun hc28 => ?_)
    · have hm := iteT hm hc28
      refine WL.runk 4 [0, 1, 16] [(0, .slice a0' list_0.length c0'), (1, .slice a1' takes_1.length c1'), (16, .bool true)] (by kernel_rfl) ?_
      refine WL.nil ?_
      obtain rfl := Option.some.inj hm
      exact WQ.post' ⟨rfl, hb9, hL10, hS11⟩ ⟨rfl, rfl, rfl, trivial⟩
    have hm := iteF hm hc28
    refine WL.runk 1 [0, 1, 20, 21] [(0, .slice a0' list_0.length c0'), (1, .slice a1' takes_1.length c1'), (20, .bool false), (21, .slice a1' takes_1.length c1')] (by kernel_rfl) ?_
    obtain ⟨x29, hx30, hm⟩ := bindE hm
    refine WL.call 65 #[.slice a1' takes_1.length c1', .func (.func 71) #[] #[]] rfl rfl (by kernel_rfl) (c_65_71 n takes_1 a1' c1' w6 hx30 (Rd.below h1 hb9) hle1) ?_
    rintro _ w31 ⟨rfl, hE32⟩
    refine ⟨_, rfl, ?_⟩
    have hb34 : Ext w w31 := Ext.trans hb9 hE32
    have hL35 : w.heap.size ≤ w31.heap.size := Nat.le_trans hL10 hE32.size
    have hS36 : SH w31 w.heap.size [] := SH.ext hS11 hE32
    refine WL.runk 2 [0, 1, 16] [(0, .slice a0' list_0.length c0'), (1, .slice a1' takes_1.length c1'), (16, .bool x29)] (by kernel_rfl) ?_
    refine WL.nil ?_
    obtain rfl := Option.some.inj hm
    exact WQ.post' ⟨rfl, hb34, hL35, hS36⟩ ⟨rfl, rfl, rfl, trivial⟩
  clear hx27
  rintro _ w37 ⟨rfl, hb38, hL39, hS40⟩
  refine WQ.then_normal (hK16 _ _ _ ?_)
  refine WP.cond x26 rfl rfl (fun hc41 => ?_) (fun hc41 => ?_)
  · have hm := iteT hm hc41
    refine WP.seq (fun K42 hK42 => ?_)
    refine WP.region ?_
    refine WL.runk 3 [4, 5, 6] [(4, .slice none 0 0), (5, .int .i64 0), (6, .int .i64 2)] (by kernel_rfl) ?_
    refine WL.nil ?_
    refine WQ.then_normal (hK42 _ _ _ ?_)
    refine WP.ret ?_
    refine WQ.block_ret ?_
    refine WQ.then_ret ?_
    obtain rfl := Option.some.inj hm
    have hS44 : SH w37 w.heap.size [aOwn fGood 56 none 0 ([] : List SGood)] := SH.nilOwn hS40
    exact WQ.ret3 _ _ _ rfl rfl rfl rfl ⟨_, _, rfl, hb38, hS44⟩
  have hm := iteF hm hc41
  refine WP.skip ?_
  refine WQ.block_normal ?_
  refine WQ.then_normal (hK2 _ _ _ ?_)
  refine WP.seq (fun K45 hK45 => ?_)
  refine WP.region ?_
  refine WL.runk 1 [0, 1, 24] [(0, .slice a0' list_0.length c0'), (1, .slice a1' takes_1.length c1'), (24, .slice a0' list_0.length c0')] (by kernel_rfl) ?_
  obtain ⟨x46, hx47, hm⟩ := bindE hm
  refine WL.call 58 #[.slice a0' list_0.length c0'] rfl rfl (by kernel_rfl) (c_58 n list_0 a0' c0' w37 hx47 (Rd.below h0 hb38) hle0) ?_
  rintro _ w51 ⟨a48, c49, rfl, hE52, hR53⟩
  refine ⟨_, rfl, ?_⟩
  have hb54 : Ext w w51 := Ext.trans hb38 hE52
  have hL55 : w.heap.size ≤ w51.heap.size := Nat.le_trans hL39 hE52.size
  have hS56 : SH w51 w.heap.size [aOwn fGood 56 a48 c49 x46] := SH.add hS40 hE52 hL39 hR53
  refine WL.runk 1 [0, 1, 7] [(0, .slice a0' list_0.length c0'), (1, .slice a1' takes_1.length c1'), (7, .slice a48 x46.length c49)] (by kernel_rfl) ?_
  refine WL.nil ?_
  refine WQ.then_normal (hK45 _ _ _ ?_)
  refine WP.seq (fun K57 hK57 => ?_)
  refine WP.seq (fun K58 hK58 => ?_)
  refine WP.region ?_
  refine WL.runk 3 [0, 7, 26, 27, 28] [(0, .slice a0' list_0.length c0'), (7, .slice a48 x46.length c49), (26, .slice a1' takes_1.length c1'), (27, .int .i64 (takes_1.length : Int)), (28, .int .i64 0)] (by kernel_rfl) ?_
  refine WL.nil ?_
  refine WQ.then_normal (hK58 _ _ _ ?_)
  refine WP.block ?_
  obtain ⟨t73, ht74, hm⟩ := bindE hm
  have hmo68 := hm; clear hm
  refine WP.sub [(0, .slice a0' list_0.length c0'), (7, .slice a48 x46.length c49), (26, .slice a1' takes_1.length c1'), (27, .int .i64 (takes_1.length : Int)), (28, .int .i64 0)] ⟨rfl, rfl, rfl, rfl, rfl, trivial⟩ ?_
  refine WP.loop (fun n' env' w' => ∃ (st59 : List SGood × Int) (a60 : Option Addr) (c61 : Nat), env' = [(0, .slice a0' list_0.length c0'), (7, .slice a60 st59.1.length c61), (26, .slice a1' takes_1.length c1'), (27, .int .i64 (takes_1.length : Int)), (28, .int .i64 st59.2)] ∧ Ext w w' ∧ w.heap.size ≤ w'.heap.size ∧ SH w' w.heap.size [aOwn fGood 56 a60 c61 st59.1] ∧ loopN (m_impl_ChangeGoods_l1 n list_0 takes_1) n' st59 = some t73) n ⟨(x46, 0), _, _, rfl, hb54, hL55, hS56, ht74⟩ ?_
  rintro n70 _ w63 ⟨st59, a60, c61, rfl, hb64, hL65, hS66, hl67⟩ K69 hK69
  obtain ⟨n71, s72, rfl, hm, hl67⟩ := loopN_some hl67
  unfold m_impl_ChangeGoods_l1 at hm
  refine WP.seq (fun K75 hK75 => ?_)
  refine WP.region ?_
  refine WL.runk 1 [0, 7, 26, 27, 28, 29] [(0, .slice a0' list_0.length c0'), (7, .slice a60 st59.1.length c61), (26, .slice a1' takes_1.length c1'), (27, .int .i64 (takes_1.length : Int)), (28, .int .i64 st59.2), (29, .bool (decide (st59.2 < (takes_1.length : Int))))] (by kernel_rfl) ?_
  refine WL.nil ?_
  refine WQ.then_normal (hK75 _ _ _ ?_)
  refine WP.seq (fun K76 hK76 => ?_)
  refine WP.cond (decide (st59.2 < (takes_1.length : Int))) rfl rfl (fun hc77 => ?_) (fun hc77 => ?_)
  rotate_left
  · have hm := iteF hm hc77
    refine WP.exit ?_
    refine WQ.then_exit ?_
    refine WQ.then_exit ?_
    refine WQ.block_here ?_
    obtain rfl := Option.some.inj hm
    obtain rfl := afterN_done hl67
    have hm := hmo68
    refine WQ.then_normal (hK57 _ _ _ ?_)
    refine WP.seq (fun K122 hK122 => ?_)
    refine WP.region ?_
    refine WL.runk 4 [4, 5, 6] [(4, .slice a60 st59.1.length c61), (5, .int .i64 (-1)), (6, .int .i64 0)] (by kernel_rfl) ?_
    refine WL.nil ?_
    refine WQ.then_normal (hK122 _ _ _ ?_)
    refine WP.ret ?_
    obtain rfl := Option.some.inj hm
    exact WQ.ret3 _ _ _ rfl rfl rfl rfl ⟨_, _, rfl, hb64, hS66⟩
  have hm := iteT hm hc77
  refine WP.skip ?_
  refine WQ.then_normal (hK76 _ _ _ ?_)
  refine WP.seq (fun K78 hK78 => ?_)
  refine WP.block ?_
  refine WP.seq (fun K79 hK79 => ?_)
  refine WP.region ?_
  refine WL.runk 1 [0, 7, 26, 27, 28, 30] [(0, .slice a0' list_0.length c0'), (7, .slice a60 st59.1.length c61), (26, .slice a1' takes_1.length c1'), (27, .int .i64 (takes_1.length : Int)), (28, .int .i64 st59.2), (30, .int .i64 st59.2)] (by kernel_rfl) ?_
  obtain ⟨x80, hx81, hm⟩ := bindE hm
  refine WL.st (.pointer (some (at_ a1' (Int.toNat st59.2 * 2)))) (ST.index (T := fTake.ty) (xs := takes_1) (Rd.below h1 hb64) hx81 rfl rfl rfl Try.underlying30 (info43).1 (info43).2.1) rfl rfl rfl ?_
  refine WL.st (.agg #[.string (bs x80.Name), .int .i64 x80.Many]) (ST.loadAgg (vs := fTake.leaf x80) (fun j v hv => Rd.flatA (F := fTake) (Rd.below h1 hb64) hx81 j hv) rfl rfl rfl Try.underlying43 rfl (info43).1 (info43).2.1) rfl rfl rfl ?_
  refine WL.box 43 [.string (bs []), .int .i64 0] 9 (by kernel_rfl) rfl rfl rfl rfl ?_
  intro b82 w83 hE84 hR85
  have hb87 : Ext w w83 := Ext.trans hb64 hE84
  have hL88 : w.heap.size ≤ w83.heap.size := Nat.le_trans hL65 hE84.size
  have hS89 : SH w83 w.heap.size [aBox 43 b82 [.string (bs []), .int .i64 0], aOwn fGood 56 a60 c61 st59.1] := SH.add hS66 hE84 hL65 hR85
  refine WL.runk 1 [0, 7, 8, 9, 26, 27, 28, 32] [(0, .slice a0' list_0.length c0'), (7, .slice a60 st59.1.length c61), (26, .slice a1' takes_1.length c1'), (27, .int .i64 (takes_1.length : Int)), (28, .int .i64 st59.2), (32, .agg #[.string (bs x80.Name), .int .i64 x80.Many]), (9, .pointer (some ⟨b82, 0, none⟩)), (8, .int .i64 st59.2)] (by kernel_rfl) ?_
  refine WL.boxStore 0 [.string (bs x80.Name), .int .i64 x80.Many] [.string (bs x80.Name), .int .i64 x80.Many] (SH.front 0 hS89) hL88 rfl rfl rfl rfl rfl rfl rfl (info43).1 (info43).2.1 rfl rfl rfl ?_
  intro w90 hB91 hS92
  have hb93 : Ext w w90 := Below.trans hb87 hB91
  have hL94 : w.heap.size ≤ w90.heap.size := Nat.le_trans hL88 hB91.size
  refine WL.sub [(0, .slice a0' list_0.length c0'), (7, .slice a60 st59.1.length c61), (26, .slice a1' takes_1.length c1'), (27, .int .i64 (takes_1.length : Int)), (28, .int .i64 st59.2), (9, .pointer (some ⟨b82, 0, none⟩)), (8, .int .i64 st59.2)] ⟨rfl, rfl, rfl, rfl, rfl, rfl, rfl, trivial⟩ ?_
  refine WL.nil ?_
  refine WQ.then_normal (hK79 _ _ _ ?_)
  refine WP.seq (fun K95 hK95 => ?_)
  refine WP.region ?_
  refine WL.runk 1 [0, 8, 9, 26, 27, 28, 34] [(0, .slice a0' list_0.length c0'), (26, .slice a1' takes_1.length c1'), (27, .int .i64 (takes_1.length : Int)), (28, .int .i64 st59.2), (9, .pointer (some ⟨b82, 0, none⟩)), (8, .int .i64 st59.2), (34, .slice a60 st59.1.length c61)] (by kernel_rfl) ?_
  refine WL.st (.agg #[.string (bs x80.Name), .int .i64 x80.Many]) (ST.loadAgg (vs := [.string (bs x80.Name), .int .i64 x80.Many]) (fun j v hv => SH.boxPart (us := [.string (bs x80.Name), .int .i64 x80.Many]) (SH.front 0 hS92) 0 rfl j v hv) rfl rfl rfl Try.underlying43 rfl (info43).1 (info43).2.1) rfl rfl rfl ?_
  obtain ⟨x96, hx97, hm⟩ := bindE hm
  refine WL.call 62 #[.slice a60 st59.1.length c61, .agg #[.string (bs x80.Name), .int .i64 x80.Many]] rfl rfl (by kernel_rfl) (c_62 n st59.1 a60 c61 x80 w90 hx97 (SH.rd (SH.front 1 hS92)) (SH.le (SH.front 1 hS92)).1) ?_
  rintro _ w101 ⟨a98, c99, rfl, hE102, hR103⟩
  refine ⟨_, rfl, ?_⟩
  have hb104 : Ext w w101 := Ext.trans hb93 hE102
  have hL105 : w.heap.size ≤ w101.heap.size := Nat.le_trans hL94 hE102.size
  have hS106 : SH w101 w.heap.size [aOwn fGood 56 a98 c99 x96.1, aBox 43 b82 [.string (bs x80.Name), .int .i64 x80.Many], aOwn fGood 56 a60 c61 st59.1] := SH.add hS92 hE102 hL94 hR103
  refine WL.runk 5 [0, 8, 10, 11, 26, 27, 28] [(0, .slice a0' list_0.length c0'), (26, .slice a1' takes_1.length c1'), (27, .int .i64 (takes_1.length : Int)), (28, .int .i64 st59.2), (8, .int .i64 st59.2), (10, .slice a98 x96.1.length c99), (11, .int .i64 x96.2)] (by kernel_rfl) ?_
  refine WL.nil ?_
  refine WQ.then_normal (hK95 _ _ _ ?_)
  refine WP.seq (fun K107 hK107 => ?_)
  refine WP.seq (fun K108 hK108 => ?_)
  refine WP.region ?_
  refine WL.runk 2 [0, 8, 10, 26, 27, 28, 40] [(0, .slice a0' list_0.length c0'), (26, .slice a1' takes_1.length c1'), (27, .int .i64 (takes_1.length : Int)), (28, .int .i64 st59.2), (8, .int .i64 st59.2), (10, .slice a98 x96.1.length c99), (40, .bool (x96.2 != 0))] (by kernel_rfl) ?_
  refine WL.nil ?_
  refine WQ.then_normal (hK108 _ _ _ ?_)
  refine WP.cond (x96.2 != 0) rfl rfl (fun hc109 => ?_) (fun hc109 => ?_)
  rotate_left
  · have hm := iteF hm hc109
    refine WP.skip ?_
    refine WQ.then_normal (hK107 _ _ _ ?_)
    refine WP.region ?_
    refine WL.runk 2 [0, 7, 26, 27, 28] [(0, .slice a0' list_0.length c0'), (26, .slice a1' takes_1.length c1'), (27, .int .i64 (takes_1.length : Int)), (28, .int .i64 st59.2), (7, .slice a98 x96.1.length c99)] (by kernel_rfl) ?_
    refine WL.nil ?_
    refine WQ.block_normal ?_
    refine WQ.then_normal (hK78 _ _ _ ?_)
    refine WP.region ?_
    refine WL.runk 2 [0, 7, 26, 27, 28] [(0, .slice a0' list_0.length c0'), (26, .slice a1' takes_1.length c1'), (27, .int .i64 (takes_1.length : Int)), (28, .int .i64 (wI64 (st59.2 + 1))), (7, .slice a98 x96.1.length c99)] (by kernel_rfl) ?_
    refine WL.nil ?_
    obtain rfl := Option.some.inj hm
    exact WQ.round hK69 ⟨(x96.1, (wI64 (st59.2 + 1))), _, _, rfl, hb104, hL105, (SH.take 1 hS106), hl67⟩ (Nat.lt_succ_self _) ⟨rfl, rfl, rfl, rfl, rfl, trivial⟩
  have hm := iteT hm hc109
  refine WP.seq (fun K110 hK110 => ?_)
  refine WP.region ?_
  refine WL.runk 1 [8, 41] [(8, .int .i64 st59.2), (41, .slice a0' list_0.length c0')] (by kernel_rfl) ?_
  obtain ⟨x111, hx112, hm⟩ := bindE hm
  refine WL.call 58 #[.slice a0' list_0.length c0'] rfl rfl (by kernel_rfl) (c_58 n list_0 a0' c0' w101 hx112 (Rd.below h0 hb104) hle0) ?_
  rintro _ w116 ⟨a113, c114, rfl, hE117, hR118⟩
  refine ⟨_, rfl, ?_⟩
  have hb119 : Ext w w116 := Ext.trans hb104 hE117
  have hL120 : w.heap.size ≤ w116.heap.size := Nat.le_trans hL105 hE117.size
  have hS121 : SH w116 w.heap.size [aOwn fGood 56 a113 c114 x111, aOwn fGood 56 a98 c99 x96.1, aBox 43 b82 [.string (bs x80.Name), .int .i64 x80.Many], aOwn fGood 56 a60 c61 st59.1] := SH.add hS106 hE117 hL105 hR118
  refine WL.runk 4 [4, 5, 6] [(4, .slice a113 x111.length c114), (5, .int .i64 st59.2), (6, .int .i64 0)] (by kernel_rfl) ?_
  refine WL.nil ?_
  refine WQ.then_normal (hK110 _ _ _ ?_)
  refine WP.ret ?_
  refine WQ.then_ret ?_
  refine WQ.block_ret ?_
  refine WQ.then_ret ?_
  refine WQ.then_ret ?_
  refine WQ.block_ret ?_
  refine WQ.then_ret ?_
  obtain rfl := Option.some.inj hm
  obtain rfl := afterN_done hl67
  have hm := hmo68
  obtain rfl := Option.some.inj hm
  exact WQ.ret3 _ _ _ rfl rfl rfl rfl ⟨_, _, rfl, hb119, (SH.take 1 hS121)⟩

theorem c_45 (n : Nat) (code_0 : List Int) (a0' : Option Addr) (c0' : Nat) (w : World) {r : Bool} (hm : m_laws_f6big n code_0 = some r) (_h0 : Rd fU8.ty w a0' code_0) (_hle0 : code_0.length ≤ c0') :
    CallV Try.prog 45 #[.slice a0' code_0.length c0'] w (fun v w' => v = .bool r ∧ Ext w w') := by
  unfold m_laws_f6big at hm
  refine CallV.enter Try.func45 rfl (by kernel_rfl) Try.ntmps45 (env := [(0, .slice a0' code_0.length c0')]) ⟨rfl, trivial⟩ ?_
  refine WP.seq (fun K1 hK1 => ?_)
  refine WP.region ?_
  refine WL.runk 1 [0] [(0, .slice a0' code_0.length c0')] (by kernel_rfl) ?_
  refine WL.nil ?_
  refine WQ.then_normal (hK1 _ _ _ ?_)
  refine WP.seq (fun K2 hK2 => ?_)
  refine WP.region ?_
  refine WL.runk 4 [2] [(2, .bool (decide ((code_0.length : Int) > 4096)))] (by kernel_rfl) ?_
  refine WL.nil ?_
  refine WQ.then_normal (hK2 _ _ _ ?_)
  refine WP.ret ?_
  obtain rfl := Option.some.inj hm
  exact WQ.ret1 _ rfl rfl ⟨rfl, (Ext.refl w)⟩

theorem c_91 (n : Nat) (s_0_code : List Int) (a0_code' : Option Addr) (c0_code' : Nat) (s_0_at_ : Int) (s_0_seed : Int) (b0' : Nat) (w : World) (w0 : World) (B : Nat) (L : List Asrt) {r : Int × Int × Int} (hm : m_spec_l00Src_next n s_0_code s_0_at_ s_0_seed = some r) (hE0 : Ext w0 w) (hW : w0.heap.size ≤ B) (hL : B ≤ w.heap.size) (h0_code : Rd fU8.ty w0 a0_code' s_0_code) (_hle0_code : s_0_code.length ≤ c0_code') (hS : SH w B (aBox 105 b0' [.slice a0_code' s_0_code.length c0_code', .int .i64 s_0_at_, .int .u64 s_0_seed] :: L)) :
    CallV Try.prog 91 #[.pointer (some ⟨b0', 0, none⟩)] w (fun v w' => v = .int .i64 r.1 ∧ Below B w w' ∧ SH w' B (aBox 105 b0' [.slice a0_code' s_0_code.length c0_code', .int .i64 r.2.1, .int .u64 r.2.2] :: L)) := by
  unfold m_spec_l00Src_next at hm
  refine CallV.enter Try.func91 rfl (by kernel_rfl) Try.ntmps91 (env := [(0, .pointer (some ⟨b0', 0, none⟩))]) ⟨rfl, trivial⟩ ?_
  refine WP.seq (fun K1 hK1 => ?_)
  refine WP.region ?_
  refine WL.runk 1 [0] [(0, .pointer (some ⟨b0', 0, none⟩))] (by kernel_rfl) ?_
  refine WL.nil ?_
  refine WQ.then_normal (hK1 _ _ _ ?_)
  refine WP.seq (fun K2 hK2 => ?_)
  refine WP.region ?_
  refine WL.runk 1 [0, 3] [(0, .pointer (some ⟨b0', 0, none⟩)), (3, .int .i64 0)] (by kernel_rfl) ?_
  refine WL.nil ?_
  refine WQ.then_normal (hK2 _ _ _ ?_)
  refine WP.seq (fun K3 hK3 => ?_)
  refine WP.seq (fun K4 hK4 => ?_)
  refine WP.quiet (by kernel_rfl) (by kernel_rfl) ?_
  refine QL.step1v 4 (.pointer (some ⟨b0', 0, none⟩)) rfl (fun _ => by kernel_rfl) ?_
  refine QL.step1v 5 (.pointer (some ⟨b0', 0, none⟩)) rfl (fun _ => by kernel_rfl) ?_
  refine QL.step1v 6 (.pointer (some ⟨b0', 1, none⟩)) rfl (fun _ => by kernel_rfl) ?_
  refine QL.subk [0, 3, 6] [(0, .pointer (some ⟨b0', 0, none⟩)), (3, .int .i64 0), (6, .pointer (some ⟨b0', 1, none⟩))] (by kernel_rfl) ?_
  refine QL.st (.int .i64 s_0_at_) (ST.load (cell_ext (SH.boxAt (SH.front 0 hS) 1 _ rfl)) rfl rfl Try.underlying3 rfl) rfl rfl rfl ?_
  refine QL.step1v 8 (.pointer (some ⟨b0', 0, none⟩)) rfl (fun _ => by kernel_rfl) ?_
  refine QL.step1v 9 (.pointer (some ⟨b0', 0, none⟩)) rfl (fun _ => by kernel_rfl) ?_
  refine QL.step1v 10 (.pointer (some ⟨b0', 0, none⟩)) rfl (fun _ => by kernel_rfl) ?_
  refine QL.subk [0, 3, 7, 10] [(0, .pointer (some ⟨b0', 0, none⟩)), (3, .int .i64 0), (7, .int .i64 s_0_at_), (10, .pointer (some ⟨b0', 0, none⟩))] (by kernel_rfl) ?_
  refine QL.st (.slice a0_code' s_0_code.length c0_code') (ST.load (cell_ext (SH.boxAt (SH.front 0 hS) 0 _ rfl)) rfl rfl Try.underlying61 rfl) rfl rfl rfl ?_
  refine QL.step1v 12 (.int .i64 (s_0_code.length : Int)) rfl (fun _ => by kernel_rfl) ?_
  refine QL.step1v 13 (.bool (decide (s_0_at_ < (s_0_code.length : Int)))) rfl (fun _ => by kernel_rfl) ?_
  refine QL.subk [0, 3, 13] [(0, .pointer (some ⟨b0', 0, none⟩)), (3, .int .i64 0), (13, .bool (decide (s_0_at_ < (s_0_code.length : Int))))] (by kernel_rfl) ?_
  refine QL.nil ?_
  intro w5 hE6
  have hb7 : Below B w w5 := Below.trans (Below.refl _ _) (Below.mono hE6 hL)
  have hL8 : B ≤ w5.heap.size := Nat.le_trans hL hE6.size
  have hS9 : SH w5 B (aBox 105 b0' [.slice a0_code' s_0_code.length c0_code', .int .i64 s_0_at_, .int .u64 s_0_seed] :: L) := SH.ext hS hE6
  refine WQ.then_normal (hK4 _ _ _ ?_)
  obtain ⟨x18, hx19, hm⟩ := bindE hm
  refine WP.cut (fun env' w' => env' = [(0, .pointer (some ⟨b0', 0, none⟩)), (3, .int .i64 x18)] ∧ Below B w w' ∧ B ≤ w'.heap.size ∧ SH w' B (aBox 105 b0' [.slice a0_code' s_0_code.length c0_code', .int .i64 s_0_at_, .int .u64 s_0_seed] :: L)) ?_ ?_
  · have hm := hx19; clear hx19
    refine WP.cond (decide (s_0_at_ < (s_0_code.length : Int))) rfl rfl (fun hc10 => ?_) (fun hc10 => ?_)
    rotate_left
    · have hm := iteF hm hc10
      refine WP.skip ?_
      obtain rfl := Option.some.inj hm
      exact WQ.post' ⟨rfl, hb7, hL8, hS9⟩ ⟨rfl, rfl, trivial⟩
    have hm := iteT hm hc10
    refine WP.quiet (by kernel_rfl) (by kernel_rfl) ?_
    refine QL.step1v 14 (.pointer (some ⟨b0', 0, none⟩)) rfl (fun _ => by kernel_rfl) ?_
    refine QL.step1v 15 (.pointer (some ⟨b0', 0, none⟩)) rfl (fun _ => by kernel_rfl) ?_
    refine QL.step1v 16 (.pointer (some ⟨b0', 0, none⟩)) rfl (fun _ => by kernel_rfl) ?_
    refine QL.subk [0, 16] [(0, .pointer (some ⟨b0', 0, none⟩)), (16, .pointer (some ⟨b0', 0, none⟩))] (by kernel_rfl) ?_
    refine QL.st (.slice a0_code' s_0_code.length c0_code') (ST.load (cell_ext (SH.boxAt (SH.front 0 hS9) 0 _ rfl)) rfl rfl Try.underlying61 rfl) rfl rfl rfl ?_
    refine QL.step1v 18 (.pointer (some ⟨b0', 0, none⟩)) rfl (fun _ => by kernel_rfl) ?_
    refine QL.step1v 19 (.pointer (some ⟨b0', 0, none⟩)) rfl (fun _ => by kernel_rfl) ?_
    refine QL.step1v 20 (.pointer (some ⟨b0', 1, none⟩)) rfl (fun _ => by kernel_rfl) ?_
    refine QL.subk [0, 17, 20] [(0, .pointer (some ⟨b0', 0, none⟩)), (17, .slice a0_code' s_0_code.length c0_code'), (20, .pointer (some ⟨b0', 1, none⟩))] (by kernel_rfl) ?_
    refine QL.st (.int .i64 s_0_at_) (ST.load (cell_ext (SH.boxAt (SH.front 0 hS9) 1 _ rfl)) rfl rfl Try.underlying3 rfl) rfl rfl rfl ?_
    obtain ⟨x20, hx21, hm⟩ := bindE hm
    refine QL.st (.pointer (some (at_ a0_code' (Int.toNat s_0_at_ * 1)))) (ST.index (T := fU8.ty) (xs := s_0_code) (Rd.below h0_code (Below.trans hE0 (Below.mono hb7 hW))) hx21 rfl rfl rfl Try.underlying61 (info5).1 (info5).2.1) rfl rfl rfl ?_
    refine QL.st (.int .u8 x20) (ST.load (cell_ext (Rd.flat (F := fU8) (Rd.below h0_code (Below.trans hE0 (Below.mono hb7 hW))) hx21 0 rfl)) rfl rfl Try.underlying5 rfl) rfl rfl rfl ?_
    refine QL.step1v 24 (.int .i64 (wI64 x20)) rfl (fun _ => by kernel_rfl) ?_
    refine QL.step1v 3 (.int .i64 (wI64 x20)) rfl (fun _ => by kernel_rfl) ?_
    refine QL.subk [0, 3] [(0, .pointer (some ⟨b0', 0, none⟩)), (3, .int .i64 (wI64 x20))] (by kernel_rfl) ?_
    refine QL.nil ?_
    intro w22 hE23
    have hb24 : Below B w w22 := Below.trans hb7 (Below.mono hE23 hL8)
    have hL25 : B ≤ w22.heap.size := Nat.le_trans hL8 hE23.size
    have hS26 : SH w22 B (aBox 105 b0' [.slice a0_code' s_0_code.length c0_code', .int .i64 s_0_at_, .int .u64 s_0_seed] :: L) := SH.ext hS9 hE23
    obtain rfl := Option.some.inj hm
    exact WQ.post' ⟨rfl, hb24, hL25, hS26⟩ ⟨rfl, rfl, trivial⟩
  clear hx19
  rintro _ w27 ⟨rfl, hb28, hL29, hS30⟩
  refine WQ.then_normal (hK3 _ _ _ ?_)
  refine WP.seq (fun K31 hK31 => ?_)
  refine WP.region ?_
  refine WL.runk 3 [0, 3, 25, 27] [(0, .pointer (some ⟨b0', 0, none⟩)), (3, .int .i64 x18), (25, .pointer (some ⟨b0', 0, none⟩)), (27, .pointer (some ⟨b0', 1, none⟩))] (by kernel_rfl) ?_
  refine WL.st (.int .i64 s_0_at_) (ST.load (cell_ext (SH.boxAt (SH.front 0 hS30) 1 _ rfl)) rfl rfl Try.underlying3 rfl) rfl rfl rfl ?_
  refine WL.runk 3 [0, 3, 29, 31] [(0, .pointer (some ⟨b0', 0, none⟩)), (3, .int .i64 x18), (29, .int .i64 (wI64 (s_0_at_ + 1))), (31, .pointer (some ⟨b0', 1, none⟩))] (by kernel_rfl) ?_
  refine WL.boxStore 1 [.int .i64 (wI64 (s_0_at_ + 1))] [.slice a0_code' s_0_code.length c0_code', .int .i64 (wI64 (s_0_at_ + 1)), .int .u64 s_0_seed] (SH.front 0 hS30) hL29 rfl rfl rfl rfl rfl rfl rfl (info3).1 (info3).2.1 rfl rfl rfl ?_
  intro w32 hB33 hS34
  have hb35 : Below B w w32 := Below.trans hb28 hB33
  have hL36 : B ≤ w32.heap.size := Nat.le_trans hL29 hB33.size
  refine WL.sub [(0, .pointer (some ⟨b0', 0, none⟩)), (3, .int .i64 x18)] ⟨rfl, rfl, trivial⟩ ?_
  refine WL.nil ?_
  refine WQ.then_normal (hK31 _ _ _ ?_)
  refine WP.seq (fun K37 hK37 => ?_)
  refine WP.region ?_
  refine WL.runk 4 [0, 3, 32, 35] [(0, .pointer (some ⟨b0', 0, none⟩)), (3, .int .i64 x18), (32, .pointer (some ⟨b0', 0, none⟩)), (35, .pointer (some ⟨b0', 2, none⟩))] (by kernel_rfl) ?_
  refine WL.st (.int .u64 s_0_seed) (ST.load (cell_ext (SH.boxAt (SH.front 0 hS34) 2 _ rfl)) rfl rfl Try.underlying103 rfl) rfl rfl rfl ?_
  refine WL.runk 7 [0, 3, 41, 43] [(0, .pointer (some ⟨b0', 0, none⟩)), (3, .int .i64 x18), (41, .int .u64 (IntKind.u64.wrap ((IntKind.u64.wrap ((IntKind.u64.wrap (s_0_seed * 6364136223846793005)) + (IntKind.u64.wrap x18))) + 1442695040888963407))), (43, .pointer (some ⟨b0', 2, none⟩))] (by kernel_rfl) ?_
  refine WL.boxStore 2 [.int .u64 (IntKind.u64.wrap ((IntKind.u64.wrap ((IntKind.u64.wrap (s_0_seed * 6364136223846793005)) + (IntKind.u64.wrap x18))) + 1442695040888963407))] [.slice a0_code' s_0_code.length c0_code', .int .i64 (wI64 (s_0_at_ + 1)), .int .u64 (IntKind.u64.wrap ((IntKind.u64.wrap ((IntKind.u64.wrap (s_0_seed * 6364136223846793005)) + (IntKind.u64.wrap x18))) + 1442695040888963407))] (SH.front 0 hS34) hL36 rfl rfl rfl rfl rfl rfl rfl (info103).1 (info103).2.1 rfl rfl rfl ?_
  intro w38 hB39 hS40
  have hb41 : Below B w w38 := Below.trans hb35 hB39
  have hL42 : B ≤ w38.heap.size := Nat.le_trans hL36 hB39.size
  refine WL.sub [(0, .pointer (some ⟨b0', 0, none⟩)), (3, .int .i64 x18)] ⟨rfl, rfl, trivial⟩ ?_
  refine WL.nil ?_
  refine WQ.then_normal (hK37 _ _ _ ?_)
  refine WP.seq (fun K43 hK43 => ?_)
  refine WP.seq (fun K44 hK44 => ?_)
  refine WP.quiet (by kernel_rfl) (by kernel_rfl) ?_
  refine QL.step1v 44 (.pointer (some ⟨b0', 0, none⟩)) rfl (fun _ => by kernel_rfl) ?_
  refine QL.step1v 45 (.pointer (some ⟨b0', 0, none⟩)) rfl (fun _ => by kernel_rfl) ?_
  refine QL.step1v 46 (.pointer (some ⟨b0', 1, none⟩)) rfl (fun _ => by kernel_rfl) ?_
  refine QL.subk [0, 3, 46] [(0, .pointer (some ⟨b0', 0, none⟩)), (3, .int .i64 x18), (46, .pointer (some ⟨b0', 1, none⟩))] (by kernel_rfl) ?_
  refine QL.st (.int .i64 (wI64 (s_0_at_ + 1))) (ST.load (cell_ext (SH.boxAt (SH.front 0 hS40) 1 _ rfl)) rfl rfl Try.underlying3 rfl) rfl rfl rfl ?_
  refine QL.step1v 48 (.pointer (some ⟨b0', 0, none⟩)) rfl (fun _ => by kernel_rfl) ?_
  refine QL.step1v 49 (.pointer (some ⟨b0', 0, none⟩)) rfl (fun _ => by kernel_rfl) ?_
  refine QL.step1v 50 (.pointer (some ⟨b0', 0, none⟩)) rfl (fun _ => by kernel_rfl) ?_
  refine QL.subk [0, 3, 47, 50] [(0, .pointer (some ⟨b0', 0, none⟩)), (3, .int .i64 x18), (47, .int .i64 (wI64 (s_0_at_ + 1))), (50, .pointer (some ⟨b0', 0, none⟩))] (by kernel_rfl) ?_
  refine QL.st (.slice a0_code' s_0_code.length c0_code') (ST.load (cell_ext (SH.boxAt (SH.front 0 hS40) 0 _ rfl)) rfl rfl Try.underlying61 rfl) rfl rfl rfl ?_
  refine QL.step1v 52 (.int .i64 (s_0_code.length : Int)) rfl (fun _ => by kernel_rfl) ?_
  refine QL.step1v 53 (.bool (decide ((wI64 (s_0_at_ + 1)) ≤ (s_0_code.length : Int)))) rfl (fun _ => by kernel_rfl) ?_
  refine QL.subk [0, 3, 53] [(0, .pointer (some ⟨b0', 0, none⟩)), (3, .int .i64 x18), (53, .bool (decide ((wI64 (s_0_at_ + 1)) ≤ (s_0_code.length : Int))))] (by kernel_rfl) ?_
  refine QL.nil ?_
  intro w45 hE46
  have hb47 : Below B w w45 := Below.trans hb41 (Below.mono hE46 hL42)
  have hL48 : B ≤ w45.heap.size := Nat.le_trans hL42 hE46.size
  have hS49 : SH w45 B (aBox 105 b0' [.slice a0_code' s_0_code.length c0_code', .int .i64 (wI64 (s_0_at_ + 1)), .int .u64 (IntKind.u64.wrap ((IntKind.u64.wrap ((IntKind.u64.wrap (s_0_seed * 6364136223846793005)) + (IntKind.u64.wrap x18))) + 1442695040888963407))] :: L) := SH.ext hS40 hE46
  refine WQ.then_normal (hK44 _ _ _ ?_)
  refine WP.cond (decide ((wI64 (s_0_at_ + 1)) ≤ (s_0_code.length : Int))) rfl rfl (fun hc50 => ?_) (fun hc50 => ?_)
  · have hm := iteT hm hc50
    refine WP.seq (fun K51 hK51 => ?_)
    refine WP.region ?_
    refine WL.runk 2 [2] [(2, .int .i64 x18)] (by kernel_rfl) ?_
    refine WL.nil ?_
    refine WQ.then_normal (hK51 _ _ _ ?_)
    refine WP.ret ?_
    refine WQ.then_ret ?_
    obtain rfl := Option.some.inj hm
    exact WQ.ret1 _ rfl rfl ⟨rfl, hb47, hS49⟩
  have hm := iteF hm hc50
  refine WP.skip ?_
  refine WQ.then_normal (hK43 _ _ _ ?_)
  refine WP.seq (fun K52 hK52 => ?_)
  refine WP.region ?_
  refine WL.runk 3 [57] [(57, .pointer (some ⟨b0', 2, none⟩))] (by kernel_rfl) ?_
  refine WL.st (.int .u64 (IntKind.u64.wrap ((IntKind.u64.wrap ((IntKind.u64.wrap (s_0_seed * 6364136223846793005)) + (IntKind.u64.wrap x18))) + 1442695040888963407))) (ST.load (cell_ext (SH.boxAt (SH.front 0 hS49) 2 _ rfl)) rfl rfl Try.underlying103 rfl) rfl rfl rfl ?_
  obtain ⟨x53, hx54, hm⟩ := bindE hm
  refine WL.st (.int .u64 x53) (ST.shr (k := .u64) hx54 rfl rfl rfl) rfl rfl rfl ?_
  refine WL.runk 3 [2] [(2, .int .i64 (wI64 (iand .u64 x53 255)))] (by kernel_rfl) ?_
  refine WL.nil ?_
  refine WQ.then_normal (hK52 _ _ _ ?_)
  refine WP.ret ?_
  obtain rfl := Option.some.inj hm
  exact WQ.ret1 _ rfl rfl ⟨rfl, hb47, hS49⟩

theorem c_75 (n : Nat) (s_0_code : List Int) (a0_code' : Option Addr) (c0_code' : Nat) (s_0_at_ : Int) (s_0_seed : Int) (b0' : Nat) (n_1 : Int) (w : World) (w0 : World) (B : Nat) (L : List Asrt) {r : Int × Int × Int} (hm : m_spec_l00Src_pick n s_0_code s_0_at_ s_0_seed n_1 = some r) (hE0 : Ext w0 w) (hW : w0.heap.size ≤ B) (hL : B ≤ w.heap.size) (h0_code : Rd fU8.ty w0 a0_code' s_0_code) (hle0_code : s_0_code.length ≤ c0_code') (hS : SH w B (aBox 105 b0' [.slice a0_code' s_0_code.length c0_code', .int .i64 s_0_at_, .int .u64 s_0_seed] :: L)) :
    CallV Try.prog 75 #[.pointer (some ⟨b0', 0, none⟩), .int .i64 n_1] w (fun v w' => v = .int .i64 r.1 ∧ Below B w w' ∧ SH w' B (aBox 105 b0' [.slice a0_code' s_0_code.length c0_code', .int .i64 r.2.1, .int .u64 r.2.2] :: L)) := by
  unfold m_spec_l00Src_pick at hm
  refine CallV.enter Try.func75 rfl (by kernel_rfl) Try.ntmps75 (env := [(0, .pointer (some ⟨b0', 0, none⟩)), (1, .int .i64 n_1)]) ⟨rfl, rfl, trivial⟩ ?_
  refine WP.seq (fun K1 hK1 => ?_)
  refine WP.region ?_
  refine WL.runk 1 [0, 1] [(0, .pointer (some ⟨b0', 0, none⟩)), (1, .int .i64 n_1)] (by kernel_rfl) ?_
  refine WL.nil ?_
  refine WQ.then_normal (hK1 _ _ _ ?_)
  refine WP.seq (fun K2 hK2 => ?_)
  refine WP.seq (fun K3 hK3 => ?_)
  refine WP.region ?_
  refine WL.runk 2 [0, 1, 7] [(0, .pointer (some ⟨b0', 0, none⟩)), (1, .int .i64 n_1), (7, .bool (decide (n_1 ≤ 1)))] (by kernel_rfl) ?_
  refine WL.nil ?_
  refine WQ.then_normal (hK3 _ _ _ ?_)
  refine WP.cond (decide (n_1 ≤ 1)) rfl rfl (fun hc4 => ?_) (fun hc4 => ?_)
  · have hm := iteT hm hc4
    refine WP.seq (fun K5 hK5 => ?_)
    refine WP.region ?_
    refine WL.runk 1 [4] [(4, .int .i64 0)] (by kernel_rfl) ?_
    refine WL.nil ?_
    refine WQ.then_normal (hK5 _ _ _ ?_)
    refine WP.ret ?_
    refine WQ.then_ret ?_
    obtain rfl := Option.some.inj hm
    exact WQ.ret1 _ rfl rfl ⟨rfl, (Below.refl _ _), hS⟩
  have hm := iteF hm hc4
  refine WP.skip ?_
  refine WQ.then_normal (hK2 _ _ _ ?_)
  refine WP.seq (fun K6 hK6 => ?_)
  refine WP.region ?_
  refine WL.runk 1 [0, 1, 8] [(0, .pointer (some ⟨b0', 0, none⟩)), (1, .int .i64 n_1), (8, .pointer (some ⟨b0', 0, none⟩))] (by kernel_rfl) ?_
  obtain ⟨x7, hx8, hm⟩ := bindE hm
  refine WL.call 91 #[.pointer (some ⟨b0', 0, none⟩)] rfl rfl (by kernel_rfl) (c_91 n s_0_code a0_code' c0_code' s_0_at_ s_0_seed b0' w w0 B (L) hx8 (Below.trans hE0 (Below.mono (Below.refl _ _) hW)) hW hL h0_code hle0_code hS) ?_
  rintro _ w9 ⟨rfl, hB13, hS12⟩
  refine ⟨_, rfl, ?_⟩
  have hb14 : Below B w w9 := Below.trans (Below.refl _ _) hB13
  have hL15 : B ≤ w9.heap.size := Nat.le_trans hL hB13.size
  refine WL.runk 1 [0, 1, 5] [(0, .pointer (some ⟨b0', 0, none⟩)), (1, .int .i64 n_1), (5, .int .i64 x7.1)] (by kernel_rfl) ?_
  refine WL.nil ?_
  refine WQ.then_normal (hK6 _ _ _ ?_)
  refine WP.seq (fun K16 hK16 => ?_)
  refine WP.seq (fun K17 hK17 => ?_)
  refine WP.region ?_
  refine WL.runk 2 [0, 1, 5, 11] [(0, .pointer (some ⟨b0', 0, none⟩)), (1, .int .i64 n_1), (5, .int .i64 x7.1), (11, .bool (decide (n_1 > 200)))] (by kernel_rfl) ?_
  refine WL.nil ?_
  refine WQ.then_normal (hK17 _ _ _ ?_)
  obtain ⟨x48, hx49, hm⟩ := bindE hm
  refine WP.cut (fun env' w' => env' = [(1, .int .i64 n_1), (5, .int .i64 x48.1)] ∧ Below B w w' ∧ B ≤ w'.heap.size ∧ SH w' B (aBox 105 b0' [.slice a0_code' s_0_code.length c0_code', .int .i64 x48.2.1, .int .u64 x48.2.2] :: L)) ?_ ?_
  rotate_left
  · clear hx49
    rintro _ w59 ⟨rfl, hb60, hL61, hS62⟩
    refine WQ.then_normal (hK16 _ _ _ ?_)
    refine WP.seq (fun K63 hK63 => ?_)
    refine WP.region ?_
    refine WL.runk 2 [17, 18] [(17, .int .i64 x48.1), (18, .int .i64 n_1)] (by kernel_rfl) ?_
    obtain ⟨x64, hx65, hm⟩ := bindE hm
    refine WL.st (.int .i64 x64) (ST.rem (k := .i64) hx65 rfl rfl rfl) rfl rfl rfl ?_
    refine WL.runk 1 [4] [(4, .int .i64 x64)] (by kernel_rfl) ?_
    refine WL.nil ?_
    refine WQ.then_normal (hK63 _ _ _ ?_)
    refine WP.ret ?_
    obtain rfl := Option.some.inj hm
    exact WQ.ret1 _ rfl rfl ⟨rfl, hb60, hS62⟩
  have hm := hx49; clear hx49
  refine WP.cond (decide (n_1 > 200)) rfl rfl (fun hc18 => ?_) (fun hc18 => ?_)
  rotate_left
  · have hm := iteF hm hc18
    refine WP.skip ?_
    obtain rfl := Option.some.inj hm
    exact WQ.post' ⟨rfl, hb14, hL15, hS12⟩ ⟨rfl, rfl, trivial⟩
  have hm := iteT hm hc18
  refine WP.region ?_
  refine WL.runk 3 [1, 13, 14] [(1, .int .i64 n_1), (13, .int .i64 (wI64 (x7.1 * 256))), (14, .pointer (some ⟨b0', 0, none⟩))] (by kernel_rfl) ?_
  obtain ⟨x50, hx51, hm⟩ := bindE hm
  refine WL.call 91 #[.pointer (some ⟨b0', 0, none⟩)] rfl rfl (by kernel_rfl) (c_91 n s_0_code a0_code' c0_code' x7.2.1 x7.2.2 b0' w9 w0 B (L) hx51 (Below.trans hE0 (Below.mono hb14 hW)) hW hL15 h0_code hle0_code hS12) ?_
  rintro _ w52 ⟨rfl, hB56, hS55⟩
  refine ⟨_, rfl, ?_⟩
  have hb57 : Below B w w52 := Below.trans hb14 hB56
  have hL58 : B ≤ w52.heap.size := Nat.le_trans hL15 hB56.size
  refine WL.runk 2 [1, 5] [(1, .int .i64 n_1), (5, .int .i64 (wI64 ((wI64 (x7.1 * 256)) + x50.1)))] (by kernel_rfl) ?_
  refine WL.nil ?_
  obtain rfl := Option.some.inj hm
  exact WQ.post' ⟨rfl, hb57, hL58, hS55⟩ ⟨rfl, rfl, trivial⟩

theorem c_77 (n : Nat) (s_0_code : List Int) (a0_code' : Option Addr) (c0_code' : Nat) (s_0_at_ : Int) (s_0_seed : Int) (b0' : Nat) (n_1 : Int) (w : World) (w0 : World) (B : Nat) (L : List Asrt) {r : Bool × Int × Int} (hm : m_spec_l00Src_one n s_0_code s_0_at_ s_0_seed n_1 = some r) (hE0 : Ext w0 w) (hW : w0.heap.size ≤ B) (hL : B ≤ w.heap.size) (h0_code : Rd fU8.ty w0 a0_code' s_0_code) (hle0_code : s_0_code.length ≤ c0_code') (hS : SH w B (aBox 105 b0' [.slice a0_code' s_0_code.length c0_code', .int .i64 s_0_at_, .int .u64 s_0_seed] :: L)) :
    CallV Try.prog 77 #[.pointer (some ⟨b0', 0, none⟩), .int .i64 n_1] w (fun v w' => v = .bool r.1 ∧ Below B w w' ∧ SH w' B (aBox 105 b0' [.slice a0_code' s_0_code.length c0_code', .int .i64 r.2.1, .int .u64 r.2.2] :: L)) := by
  unfold m_spec_l00Src_one at hm
  refine CallV.enter Try.func77 rfl (by kernel_rfl) Try.ntmps77 (env := [(0, .pointer (some ⟨b0', 0, none⟩)), (1, .int .i64 n_1)]) ⟨rfl, rfl, trivial⟩ ?_
  refine WP.seq (fun K1 hK1 => ?_)
  refine WP.region ?_
  refine WL.runk 1 [0, 1] [(0, .pointer (some ⟨b0', 0, none⟩)), (1, .int .i64 n_1)] (by kernel_rfl) ?_
  refine WL.nil ?_
  refine WQ.then_normal (hK1 _ _ _ ?_)
  refine WP.seq (fun K2 hK2 => ?_)
  refine WP.region ?_
  refine WL.runk 2 [5, 6] [(5, .pointer (some ⟨b0', 0, none⟩)), (6, .int .i64 n_1)] (by kernel_rfl) ?_
  obtain ⟨x3, hx4, hm⟩ := bindE hm
  refine WL.call 75 #[.pointer (some ⟨b0', 0, none⟩), .int .i64 n_1] rfl rfl (by kernel_rfl) (c_75 n s_0_code a0_code' c0_code' s_0_at_ s_0_seed b0' n_1 w w0 B (L) hx4 (Below.trans hE0 (Below.mono (Below.refl _ _) hW)) hW hL h0_code hle0_code hS) ?_
  rintro _ w5 ⟨rfl, hB9, hS8⟩
  refine ⟨_, rfl, ?_⟩
  have hb10 : Below B w w5 := Below.trans (Below.refl _ _) hB9
  have hL11 : B ≤ w5.heap.size := Nat.le_trans hL hB9.size
  refine WL.runk 2 [4] [(4, .bool (x3.1 == 0))] (by kernel_rfl) ?_
  refine WL.nil ?_
  refine WQ.then_normal (hK2 _ _ _ ?_)
  refine WP.ret ?_
  obtain rfl := Option.some.inj hm
  exact WQ.ret1 _ rfl rfl ⟨rfl, hb10, hS8⟩

theorem c_93 (n : Nat)  (w : World) {r : List (List UInt8)} (hm : m_spec_l23Names n  = some r)  :
    CallV Try.prog 93 #[] w (fun v w' => ∃ (ra0 : Option Addr) (rc0 : Nat), v = .slice ra0 r.length rc0 ∧ Ext w w' ∧ SH w' w.heap.size [aOwn fStr 9 ra0 rc0 r]) := by
  unfold m_spec_l23Names at hm
  refine CallV.enter Try.func93 rfl (by kernel_rfl) Try.ntmps93 (env := []) trivial ?_
  refine WP.seq (fun K1 hK1 => ?_)
  refine WP.region ?_
  refine WL.runk 1 [] [] (by kernel_rfl) ?_
  refine WL.nil ?_
  refine WQ.then_normal (hK1 _ _ _ ?_)
  refine WP.seq (fun K2 hK2 => ?_)
  refine WP.region ?_
  refine WL.row fStr 9 ([[99, 97, 108, 102], [99, 111, 114, 107], [101, 121, 101, 108, 101, 116], [104, 101, 101, 108, 45, 51], [108, 97, 99, 101], [110, 97, 105, 108], [116, 104, 114, 101, 97, 100], [119, 97, 120]] : List (List UInt8)) 8 #[.string (bs [99, 97, 108, 102]), .string (bs [99, 111, 114, 107]), .string (bs [101, 121, 101, 108, 101, 116]), .string (bs [104, 101, 101, 108, 45, 51]), .string (bs [108, 97, 99, 101]), .string (bs [110, 97, 105, 108]), .string (bs [116, 104, 114, 101, 97, 100]), .string (bs [119, 97, 120])] 1 (by kernel_rfl) rfl rfl rfl rfl rfl rfl rfl ?_
  intro a3 c4 w5 hE6 hR7
  have hb9 : Ext w w5 := Ext.trans (Ext.refl w) hE6
  have hL10 : w.heap.size ≤ w5.heap.size := Nat.le_trans (Nat.le_refl _) hE6.size
  have hS11 : SH w5 w.heap.size [aOwn fStr 9 a3 c4 ([[99, 97, 108, 102], [99, 111, 114, 107], [101, 121, 101, 108, 101, 116], [104, 101, 101, 108, 45, 51], [108, 97, 99, 101], [110, 97, 105, 108], [116, 104, 114, 101, 97, 100], [119, 97, 120]] : List (List UInt8))] := SH.add (SH.nil _ _) hE6 (Nat.le_refl _) hR7
  refine WL.runk 1 [0] [(0, .slice a3 (([[99, 97, 108, 102], [99, 111, 114, 107], [101, 121, 101, 108, 101, 116], [104, 101, 101, 108, 45, 51], [108, 97, 99, 101], [110, 97, 105, 108], [116, 104, 114, 101, 97, 100], [119, 97, 120]] : List (List UInt8)).length) c4)] (by kernel_rfl) ?_
  refine WL.nil ?_
  refine WQ.then_normal (hK2 _ _ _ ?_)
  refine WP.ret ?_
  obtain rfl := Option.some.inj hm
  exact WQ.ret1 _ rfl rfl ⟨_, _, rfl, hb9, hS11⟩

theorem c_98 (n : Nat) (s_0_code : List Int) (a0_code' : Option Addr) (c0_code' : Nat) (s_0_at_ : Int) (s_0_seed : Int) (b0' : Nat) (name_1 : List UInt8) (w : World) (w0 : World) (B : Nat) (L : List Asrt) {r : SGood × Int × Int} (hm : m_spec_l23New n s_0_code s_0_at_ s_0_seed name_1 = some r) (hE0 : Ext w0 w) (hW : w0.heap.size ≤ B) (hL : B ≤ w.heap.size) (h0_code : Rd fU8.ty w0 a0_code' s_0_code) (hle0_code : s_0_code.length ≤ c0_code') (hS : SH w B (aBox 105 b0' [.slice a0_code' s_0_code.length c0_code', .int .i64 s_0_at_, .int .u64 s_0_seed] :: L)) :
    CallV Try.prog 98 #[.pointer (some ⟨b0', 0, none⟩), .string (bs name_1)] w (fun v w' => v = .agg #[.string (bs r.1.Name), .int .i64 r.1.OnHand, .int .i64 r.1.Reserved, .int .i64 r.1.Least] ∧ Below B w w' ∧ SH w' B (aBox 105 b0' [.slice a0_code' s_0_code.length c0_code', .int .i64 r.2.1, .int .u64 r.2.2] :: L)) := by
  unfold m_spec_l23New at hm
  refine CallV.enter Try.func98 rfl (by kernel_rfl) Try.ntmps98 (env := [(0, .pointer (some ⟨b0', 0, none⟩)), (1, .string (bs name_1))]) ⟨rfl, rfl, trivial⟩ ?_
  refine WP.seq (fun K1 hK1 => ?_)
  refine WP.region ?_
  refine WL.box 56 [.string (bs []), .int .i64 0, .int .i64 0, .int .i64 0] 4 (by kernel_rfl) rfl rfl rfl rfl ?_
  intro b2 w3 hE4 hR5
  have hb7 : Below B w w3 := Below.trans (Below.refl _ _) (Below.mono hE4 hL)
  have hL8 : B ≤ w3.heap.size := Nat.le_trans hL hE4.size
  have hS9 : SH w3 B (aBox 56 b2 [.string (bs []), .int .i64 0, .int .i64 0, .int .i64 0] :: aBox 105 b0' [.slice a0_code' s_0_code.length c0_code', .int .i64 s_0_at_, .int .u64 s_0_seed] :: L) := SH.add hS hE4 hL hR5
  refine WL.sub [(0, .pointer (some ⟨b0', 0, none⟩)), (1, .string (bs name_1)), (4, .pointer (some ⟨b2, 0, none⟩))] ⟨rfl, rfl, rfl, trivial⟩ ?_
  refine WL.nil ?_
  refine WQ.then_normal (hK1 _ _ _ ?_)
  refine WP.seq (fun K10 hK10 => ?_)
  refine WP.region ?_
  refine WL.runk 2 [0, 4, 6, 7] [(0, .pointer (some ⟨b0', 0, none⟩)), (4, .pointer (some ⟨b2, 0, none⟩)), (6, .string (bs name_1)), (7, .pointer (some ⟨b0', 0, none⟩))] (by kernel_rfl) ?_
  obtain ⟨x11, hx12, hm⟩ := bindE hm
  refine WL.call 75 #[.pointer (some ⟨b0', 0, none⟩), .int .i64 120] rfl rfl (by kernel_rfl) (c_75 n s_0_code a0_code' c0_code' s_0_at_ s_0_seed b0' 120 w3 w0 B (aBox 56 b2 [.string (bs []), .int .i64 0, .int .i64 0, .int .i64 0] :: L) hx12 (Below.trans hE0 (Below.mono hb7 hW)) hW hL8 h0_code hle0_code (SH.front 1 hS9)) ?_
  rintro _ w13 ⟨rfl, hB17, hS16⟩
  refine ⟨_, rfl, ?_⟩
  have hb18 : Below B w w13 := Below.trans hb7 hB17
  have hL19 : B ≤ w13.heap.size := Nat.le_trans hL8 hB17.size
  refine WL.runk 1 [0, 4, 9] [(0, .pointer (some ⟨b0', 0, none⟩)), (4, .pointer (some ⟨b2, 0, none⟩)), (9, .agg #[.string (bs name_1), .int .i64 x11.1, .int .i64 0, .int .i64 0])] (by kernel_rfl) ?_
  refine WL.box 56 [.string (bs []), .int .i64 0, .int .i64 0, .int .i64 0] 5 (by kernel_rfl) rfl rfl rfl rfl ?_
  intro b20 w21 hE22 hR23
  have hb25 : Below B w w21 := Below.trans hb18 (Below.mono hE22 hL19)
  have hL26 : B ≤ w21.heap.size := Nat.le_trans hL19 hE22.size
  have hS27 : SH w21 B (aBox 56 b20 [.string (bs []), .int .i64 0, .int .i64 0, .int .i64 0] :: aBox 105 b0' [.slice a0_code' s_0_code.length c0_code', .int .i64 x11.2.1, .int .u64 x11.2.2] :: aBox 56 b2 [.string (bs []), .int .i64 0, .int .i64 0, .int .i64 0] :: L) := SH.add hS16 hE22 hL19 hR23
  refine WL.boxStore 0 [.string (bs name_1), .int .i64 x11.1, .int .i64 0, .int .i64 0] [.string (bs name_1), .int .i64 x11.1, .int .i64 0, .int .i64 0] (SH.front 0 hS27) hL26 rfl rfl rfl rfl rfl rfl rfl (info56).1 (info56).2.1 rfl rfl rfl ?_
  intro w28 hB29 hS30
  have hb31 : Below B w w28 := Below.trans hb25 hB29
  have hL32 : B ≤ w28.heap.size := Nat.le_trans hL26 hB29.size
  refine WL.sub [(0, .pointer (some ⟨b0', 0, none⟩)), (4, .pointer (some ⟨b2, 0, none⟩)), (5, .pointer (some ⟨b20, 0, none⟩))] ⟨rfl, rfl, rfl, trivial⟩ ?_
  refine WL.nil ?_
  refine WQ.then_normal (hK10 _ _ _ ?_)
  refine WP.seq (fun K33 hK33 => ?_)
  refine WP.region ?_
  refine WL.runk 2 [0, 4, 5, 10, 11] [(0, .pointer (some ⟨b0', 0, none⟩)), (4, .pointer (some ⟨b2, 0, none⟩)), (5, .pointer (some ⟨b20, 0, none⟩)), (10, .pointer (some ⟨b0', 0, none⟩)), (11, .pointer (some ⟨b20, 1, none⟩))] (by kernel_rfl) ?_
  refine WL.st (.int .i64 x11.1) (ST.load (cell_ext (SH.boxAt (SH.front 0 hS30) 1 _ rfl)) rfl rfl Try.underlying2 rfl) rfl rfl rfl ?_
  refine WL.runk 1 [0, 4, 5, 10, 13] [(0, .pointer (some ⟨b0', 0, none⟩)), (4, .pointer (some ⟨b2, 0, none⟩)), (5, .pointer (some ⟨b20, 0, none⟩)), (10, .pointer (some ⟨b0', 0, none⟩)), (13, .int .i64 (wI64 (x11.1 + 1)))] (by kernel_rfl) ?_
  obtain ⟨x34, hx35, hm⟩ := bindE hm
  refine WL.call 75 #[.pointer (some ⟨b0', 0, none⟩), .int .i64 (wI64 (x11.1 + 1))] rfl rfl (by kernel_rfl) (c_75 n s_0_code a0_code' c0_code' x11.2.1 x11.2.2 b0' (wI64 (x11.1 + 1)) w28 w0 B (aBox 56 b20 [.string (bs name_1), .int .i64 x11.1, .int .i64 0, .int .i64 0] :: aBox 56 b2 [.string (bs []), .int .i64 0, .int .i64 0, .int .i64 0] :: L) hx35 (Below.trans hE0 (Below.mono hb31 hW)) hW hL32 h0_code hle0_code (SH.front 2 (SH.front 1 (SH.front 2 hS30)))) ?_
  rintro _ w36 ⟨rfl, hB40, hS39⟩
  refine ⟨_, rfl, ?_⟩
  have hb41 : Below B w w36 := Below.trans hb31 hB40
  have hL42 : B ≤ w36.heap.size := Nat.le_trans hL32 hB40.size
  refine WL.runk 1 [0, 4, 5, 14, 15] [(0, .pointer (some ⟨b0', 0, none⟩)), (4, .pointer (some ⟨b2, 0, none⟩)), (5, .pointer (some ⟨b20, 0, none⟩)), (14, .int .i64 x34.1), (15, .pointer (some ⟨b20, 2, none⟩))] (by kernel_rfl) ?_
  refine WL.boxStore 2 [.int .i64 x34.1] [.string (bs name_1), .int .i64 x11.1, .int .i64 x34.1, .int .i64 0] (SH.front 1 hS39) hL42 rfl rfl rfl rfl rfl rfl rfl (info2).1 (info2).2.1 rfl rfl rfl ?_
  intro w43 hB44 hS45
  have hb46 : Below B w w43 := Below.trans hb41 hB44
  have hL47 : B ≤ w43.heap.size := Nat.le_trans hL42 hB44.size
  refine WL.sub [(0, .pointer (some ⟨b0', 0, none⟩)), (4, .pointer (some ⟨b2, 0, none⟩)), (5, .pointer (some ⟨b20, 0, none⟩))] ⟨rfl, rfl, rfl, trivial⟩ ?_
  refine WL.nil ?_
  refine WQ.then_normal (hK33 _ _ _ ?_)
  refine WP.seq (fun K48 hK48 => ?_)
  refine WP.seq (fun K49 hK49 => ?_)
  refine WP.region ?_
  refine WL.runk 1 [0, 4, 5, 16] [(0, .pointer (some ⟨b0', 0, none⟩)), (4, .pointer (some ⟨b2, 0, none⟩)), (5, .pointer (some ⟨b20, 0, none⟩)), (16, .pointer (some ⟨b0', 0, none⟩))] (by kernel_rfl) ?_
  obtain ⟨x50, hx51, hm⟩ := bindE hm
  refine WL.call 77 #[.pointer (some ⟨b0', 0, none⟩), .int .i64 2] rfl rfl (by kernel_rfl) (c_77 n s_0_code a0_code' c0_code' x34.2.1 x34.2.2 b0' 2 w43 w0 B (aBox 56 b20 [.string (bs name_1), .int .i64 x11.1, .int .i64 x34.1, .int .i64 0] :: aBox 56 b2 [.string (bs []), .int .i64 0, .int .i64 0, .int .i64 0] :: L) hx51 (Below.trans hE0 (Below.mono hb46 hW)) hW hL47 h0_code hle0_code (SH.front 2 (SH.front 1 (SH.front 2 hS45)))) ?_
  rintro _ w52 ⟨rfl, hB56, hS55⟩
  refine ⟨_, rfl, ?_⟩
  have hb57 : Below B w w52 := Below.trans hb46 hB56
  have hL58 : B ≤ w52.heap.size := Nat.le_trans hL47 hB56.size
  refine WL.sub [(0, .pointer (some ⟨b0', 0, none⟩)), (4, .pointer (some ⟨b2, 0, none⟩)), (5, .pointer (some ⟨b20, 0, none⟩)), (17, .bool x50.1)] ⟨rfl, rfl, rfl, rfl, trivial⟩ ?_
  refine WL.nil ?_
  refine WQ.then_normal (hK49 _ _ _ ?_)
  obtain ⟨x77, hx78, hm⟩ := bindE hm
  refine WP.cut (fun env' w' => env' = [(0, .pointer (some ⟨b0', 0, none⟩)), (4, .pointer (some ⟨b2, 0, none⟩)), (5, .pointer (some ⟨b20, 0, none⟩))] ∧ Below B w w' ∧ B ≤ w'.heap.size ∧ SH w' B (aBox 105 b0' [.slice a0_code' s_0_code.length c0_code', .int .i64 x50.2.1, .int .u64 x50.2.2] :: aBox 56 b20 [.string (bs name_1), .int .i64 x11.1, .int .i64 x77, .int .i64 0] :: aBox 56 b2 [.string (bs []), .int .i64 0, .int .i64 0, .int .i64 0] :: L)) ?_ ?_
  · have hm := hx78; clear hx78
    refine WP.cond x50.1 rfl rfl (fun hc59 => ?_) (fun hc59 => ?_)
    rotate_left
    · have hm := iteF hm hc59
      refine WP.skip ?_
      obtain rfl := Option.some.inj hm
      exact WQ.post' ⟨rfl, hb57, hL58, hS55⟩ ⟨rfl, rfl, rfl, trivial⟩
    have hm := iteT hm hc59
    refine WP.region ?_
    refine WL.runk 1 [0, 4, 5, 18] [(0, .pointer (some ⟨b0', 0, none⟩)), (4, .pointer (some ⟨b2, 0, none⟩)), (5, .pointer (some ⟨b20, 0, none⟩)), (18, .pointer (some ⟨b20, 2, none⟩))] (by kernel_rfl) ?_
    refine WL.boxStore 2 [.int .i64 0] [.string (bs name_1), .int .i64 x11.1, .int .i64 0, .int .i64 0] (SH.front 1 hS55) hL58 rfl rfl rfl rfl rfl rfl rfl (info2).1 (info2).2.1 rfl rfl rfl ?_
    intro w79 hB80 hS81
    have hb82 : Below B w w79 := Below.trans hb57 hB80
    have hL83 : B ≤ w79.heap.size := Nat.le_trans hL58 hB80.size
    refine WL.sub [(0, .pointer (some ⟨b0', 0, none⟩)), (4, .pointer (some ⟨b2, 0, none⟩)), (5, .pointer (some ⟨b20, 0, none⟩))] ⟨rfl, rfl, rfl, trivial⟩ ?_
    refine WL.nil ?_
    obtain rfl := Option.some.inj hm
    exact WQ.post' ⟨rfl, hb82, hL83, (SH.front 2 (SH.front 1 (SH.front 2 hS81)))⟩ ⟨rfl, rfl, rfl, trivial⟩
  clear hx78
  rintro _ w84 ⟨rfl, hb85, hL86, hS87⟩
  refine WQ.then_normal (hK48 _ _ _ ?_)
  refine WP.seq (fun K88 hK88 => ?_)
  refine WP.region ?_
  refine WL.runk 1 [4, 5, 19] [(4, .pointer (some ⟨b2, 0, none⟩)), (5, .pointer (some ⟨b20, 0, none⟩)), (19, .pointer (some ⟨b0', 0, none⟩))] (by kernel_rfl) ?_
  obtain ⟨x89, hx90, hm⟩ := bindE hm
  refine WL.call 75 #[.pointer (some ⟨b0', 0, none⟩), .int .i64 60] rfl rfl (by kernel_rfl) (c_75 n s_0_code a0_code' c0_code' x50.2.1 x50.2.2 b0' 60 w84 w0 B (aBox 56 b20 [.string (bs name_1), .int .i64 x11.1, .int .i64 x77, .int .i64 0] :: aBox 56 b2 [.string (bs []), .int .i64 0, .int .i64 0, .int .i64 0] :: L) hx90 (Below.trans hE0 (Below.mono hb85 hW)) hW hL86 h0_code hle0_code hS87) ?_
  rintro _ w91 ⟨rfl, hB95, hS94⟩
  refine ⟨_, rfl, ?_⟩
  have hb96 : Below B w w91 := Below.trans hb85 hB95
  have hL97 : B ≤ w91.heap.size := Nat.le_trans hL86 hB95.size
  refine WL.runk 1 [4, 5, 20, 21] [(4, .pointer (some ⟨b2, 0, none⟩)), (5, .pointer (some ⟨b20, 0, none⟩)), (20, .int .i64 x89.1), (21, .pointer (some ⟨b20, 3, none⟩))] (by kernel_rfl) ?_
  refine WL.boxStore 3 [.int .i64 x89.1] [.string (bs name_1), .int .i64 x11.1, .int .i64 x77, .int .i64 x89.1] (SH.front 1 hS94) hL97 rfl rfl rfl rfl rfl rfl rfl (info2).1 (info2).2.1 rfl rfl rfl ?_
  intro w98 hB99 hS100
  have hb101 : Below B w w98 := Below.trans hb96 hB99
  have hL102 : B ≤ w98.heap.size := Nat.le_trans hL97 hB99.size
  refine WL.sub [(4, .pointer (some ⟨b2, 0, none⟩)), (5, .pointer (some ⟨b20, 0, none⟩))] ⟨rfl, rfl, trivial⟩ ?_
  refine WL.nil ?_
  refine WQ.then_normal (hK88 _ _ _ ?_)
  refine WP.seq (fun K103 hK103 => ?_)
  refine WP.region ?_
  refine WL.st (.agg #[.string (bs name_1), .int .i64 x11.1, .int .i64 x77, .int .i64 x89.1]) (ST.loadAgg (vs := [.string (bs name_1), .int .i64 x11.1, .int .i64 x77, .int .i64 x89.1]) (fun j v hv => SH.boxPart (us := [.string (bs name_1), .int .i64 x11.1, .int .i64 x77, .int .i64 x89.1]) (SH.front 0 hS100) 0 rfl j v hv) rfl rfl rfl Try.underlying56 rfl (info56).1 (info56).2.1) rfl rfl rfl ?_
  refine WL.boxStore 0 [.string (bs name_1), .int .i64 x11.1, .int .i64 x77, .int .i64 x89.1] [.string (bs name_1), .int .i64 x11.1, .int .i64 x77, .int .i64 x89.1] (SH.front 2 hS100) hL102 rfl rfl rfl rfl rfl rfl rfl (info56).1 (info56).2.1 rfl rfl rfl ?_
  intro w104 hB105 hS106
  have hb107 : Below B w w104 := Below.trans hb101 hB105
  have hL108 : B ≤ w104.heap.size := Nat.le_trans hL102 hB105.size
  refine WL.sub [(4, .pointer (some ⟨b2, 0, none⟩))] ⟨rfl, trivial⟩ ?_
  refine WL.nil ?_
  refine WQ.then_normal (hK103 _ _ _ ?_)
  refine WP.ret ?_
  obtain rfl := Option.some.inj hm
  exact WQ.retv1 _ rfl (RVal.box (SH.front 0 hS106) rfl Try.underlying56 rfl (info56).1 (info56).2.1) ⟨rfl, hb107, (SH.cutOut 1 2 (SH.front 2 hS106))⟩

theorem c_89 (n : Nat) (s_0_code : List Int) (a0_code' : Option Addr) (c0_code' : Nat) (s_0_at_ : Int) (s_0_seed : Int) (b0' : Nat) (w : World) (w0 : World) (B : Nat) (L : List Asrt) {r : List SGood × Int × Int} (hm : m_spec_l23Draw n s_0_code s_0_at_ s_0_seed = some r) (hE0 : Ext w0 w) (hW : w0.heap.size ≤ B) (hL : B ≤ w.heap.size) (h0_code : Rd fU8.ty w0 a0_code' s_0_code) (hle0_code : s_0_code.length ≤ c0_code') (hS : SH w B (aBox 105 b0' [.slice a0_code' s_0_code.length c0_code', .int .i64 s_0_at_, .int .u64 s_0_seed] :: L)) :
    CallV Try.prog 89 #[.pointer (some ⟨b0', 0, none⟩)] w (fun v w' => ∃ (ra0 : Option Addr) (rc0 : Nat), v = .slice ra0 r.1.length rc0 ∧ Below B w w' ∧ SH w' B (aOwn fGood 56 ra0 rc0 r.1 :: aBox 105 b0' [.slice a0_code' s_0_code.length c0_code', .int .i64 r.2.1, .int .u64 r.2.2] :: L)) := by
  unfold m_spec_l23Draw at hm
  refine CallV.enter Try.func89 rfl (by kernel_rfl) Try.ntmps89 (env := [(0, .pointer (some ⟨b0', 0, none⟩))]) ⟨rfl, trivial⟩ ?_
  refine WP.seq (fun K1 hK1 => ?_)
  refine WP.region ?_
  refine WL.runk 1 [0] [(0, .pointer (some ⟨b0', 0, none⟩))] (by kernel_rfl) ?_
  refine WL.nil ?_
  refine WQ.then_normal (hK1 _ _ _ ?_)
  refine WP.seq (fun K2 hK2 => ?_)
  refine WP.region ?_
  refine WL.row fGood 56 ([] : List SGood) 0 #[] 6 (by kernel_rfl) rfl rfl rfl rfl rfl rfl rfl ?_
  intro a3 c4 w5 hE6 hR7
  have hb9 : Below B w w5 := Below.trans (Below.refl _ _) (Below.mono hE6 hL)
  have hL10 : B ≤ w5.heap.size := Nat.le_trans hL hE6.size
  have hS11 : SH w5 B (aOwn fGood 56 a3 c4 ([] : List SGood) :: aBox 105 b0' [.slice a0_code' s_0_code.length c0_code', .int .i64 s_0_at_, .int .u64 s_0_seed] :: L) := SH.add hS hE6 hL hR7
  refine WL.runk 1 [0, 3] [(0, .pointer (some ⟨b0', 0, none⟩)), (3, .slice a3 (([] : List SGood).length) c4)] (by kernel_rfl) ?_
  refine WL.nil ?_
  refine WQ.then_normal (hK2 _ _ _ ?_)
  refine WP.seq (fun K12 hK12 => ?_)
  refine WP.region ?_
  obtain ⟨x13, hx14, hm⟩ := bindE hm
  refine WL.call 93 #[] rfl rfl (by kernel_rfl) (c_93 n  w5 hx14 ) ?_
  rintro _ w18 ⟨a15, c16, rfl, hE19, hR20⟩
  refine ⟨_, rfl, ?_⟩
  have hb21 : Below B w w18 := Below.trans hb9 (Below.mono hE19 hL10)
  have hL22 : B ≤ w18.heap.size := Nat.le_trans hL10 hE19.size
  have hS23 : SH w18 B (aOwn fStr 9 a15 c16 x13 :: aOwn fGood 56 a3 c4 ([] : List SGood) :: aBox 105 b0' [.slice a0_code' s_0_code.length c0_code', .int .i64 s_0_at_, .int .u64 s_0_seed] :: L) := SH.add hS11 hE19 hL10 hR20
  refine WL.runk 1 [0, 3, 4] [(0, .pointer (some ⟨b0', 0, none⟩)), (3, .slice a3 (([] : List SGood).length) c4), (4, .slice a15 x13.length c16)] (by kernel_rfl) ?_
  refine WL.nil ?_
  refine WQ.then_normal (hK12 _ _ _ ?_)
  refine WP.seq (fun K24 hK24 => ?_)
  refine WP.seq (fun K25 hK25 => ?_)
  refine WP.region ?_
  refine WL.runk 1 [0, 3, 4, 5] [(0, .pointer (some ⟨b0', 0, none⟩)), (3, .slice a3 (([] : List SGood).length) c4), (4, .slice a15 x13.length c16), (5, .int .i64 0)] (by kernel_rfl) ?_
  refine WL.nil ?_
  refine WQ.then_normal (hK25 _ _ _ ?_)
  refine WP.block ?_
  obtain ⟨t202, ht203, hm⟩ := bindE hm
  have hmo197 := hm; clear hm
  refine WP.sub [(0, .pointer (some ⟨b0', 0, none⟩)), (3, .slice a3 (([] : List SGood).length) c4), (4, .slice a15 x13.length c16), (5, .int .i64 0)] ⟨rfl, rfl, rfl, rfl, trivial⟩ ?_
  refine WP.loop (fun n' env' w' => ∃ (st188 : List SGood × Int × Int × Int) (a189 : Option Addr) (c190 : Nat), env' = [(0, .pointer (some ⟨b0', 0, none⟩)), (3, .slice a189 st188.1.length c190), (4, .slice a15 x13.length c16), (5, .int .i64 st188.2.1)] ∧ Below B w w' ∧ B ≤ w'.heap.size ∧ SH w' B (aOwn fGood 56 a189 c190 st188.1 :: aOwn fStr 9 a15 c16 x13 :: aBox 105 b0' [.slice a0_code' s_0_code.length c0_code', .int .i64 st188.2.2.1, .int .u64 st188.2.2.2] :: L) ∧ loopN (m_spec_l23Draw_l1 n s_0_code x13) n' st188 = some t202) n ⟨(([] : List SGood), 0, s_0_at_, s_0_seed), _, _, rfl, hb21, hL22, (SH.front 2 (SH.front 1 (SH.front 2 hS23))), ht203⟩ ?_
  rintro n199 _ w192 ⟨st188, a189, c190, rfl, hb193, hL194, hS195, hl196⟩ K198 hK198
  obtain ⟨n200, s201, rfl, hm, hl196⟩ := loopN_some hl196
  unfold m_spec_l23Draw_l1 at hm
  refine WP.seq (fun K204 hK204 => ?_)
  refine WP.seq (fun K205 hK205 => ?_)
  refine WP.region ?_
  refine WL.runk 4 [0, 3, 4, 5, 11] [(0, .pointer (some ⟨b0', 0, none⟩)), (3, .slice a189 st188.1.length c190), (4, .slice a15 x13.length c16), (5, .int .i64 st188.2.1), (11, .bool (decide (st188.2.1 < (x13.length : Int))))] (by kernel_rfl) ?_
  refine WL.nil ?_
  refine WQ.then_normal (hK205 _ _ _ ?_)
  refine WP.cond (decide (st188.2.1 < (x13.length : Int))) rfl rfl (fun hc206 => ?_) (fun hc206 => ?_)
  rotate_left
  · have hm := iteF hm hc206
    refine WP.exit ?_
    refine WQ.then_exit ?_
    refine WQ.then_exit ?_
    refine WQ.block_here ?_
    obtain rfl := Option.some.inj hm
    obtain rfl := afterN_done hl196
    have hm := hmo197
    refine WQ.then_normal (hK24 _ _ _ ?_)
    refine WP.seq (fun K349 hK349 => ?_)
    refine WP.region ?_
    refine WL.runk 2 [2] [(2, .slice a189 st188.1.length c190)] (by kernel_rfl) ?_
    refine WL.nil ?_
    refine WQ.then_normal (hK349 _ _ _ ?_)
    refine WP.ret ?_
    obtain rfl := Option.some.inj hm
    exact WQ.ret1 _ rfl rfl ⟨_, _, rfl, hb193, (SH.cutOut 2 1 (SH.front 1 (SH.front 2 hS195)))⟩
  have hm := iteT hm hc206
  refine WP.skip ?_
  refine WQ.then_normal (hK204 _ _ _ ?_)
  refine WP.seq (fun K207 hK207 => ?_)
  refine WP.block ?_
  refine WP.seq (fun K208 hK208 => ?_)
  refine WP.region ?_
  refine WL.runk 1 [0, 3, 4, 5, 14] [(0, .pointer (some ⟨b0', 0, none⟩)), (3, .slice a189 st188.1.length c190), (4, .slice a15 x13.length c16), (5, .int .i64 st188.2.1), (14, .pointer (some ⟨b0', 0, none⟩))] (by kernel_rfl) ?_
  obtain ⟨x209, hx210, hm⟩ := bindE hm
  refine WL.call 77 #[.pointer (some ⟨b0', 0, none⟩), .int .i64 2] rfl rfl (by kernel_rfl) (c_77 n s_0_code a0_code' c0_code' st188.2.2.1 st188.2.2.2 b0' 2 w192 w0 B (aOwn fGood 56 a189 c190 st188.1 :: aOwn fStr 9 a15 c16 x13 :: L) hx210 (Below.trans hE0 (Below.mono hb193 hW)) hW hL194 h0_code hle0_code (SH.front 2 (SH.front 1 (SH.front 1 hS195)))) ?_
  rintro _ w211 ⟨rfl, hB215, hS214⟩
  refine ⟨_, rfl, ?_⟩
  have hb216 : Below B w w211 := Below.trans hb193 hB215
  have hL217 : B ≤ w211.heap.size := Nat.le_trans hL194 hB215.size
  refine WL.sub [(0, .pointer (some ⟨b0', 0, none⟩)), (3, .slice a189 st188.1.length c190), (4, .slice a15 x13.length c16), (5, .int .i64 st188.2.1), (15, .bool x209.1)] ⟨rfl, rfl, rfl, rfl, rfl, trivial⟩ ?_
  refine WL.nil ?_
  refine WQ.then_normal (hK208 _ _ _ ?_)
  obtain ⟨x311, hx312, hm⟩ := bindE hm
  refine WP.cut (fun env' w' => ∃ (a313 : Option Addr) (c314 : Nat), env' = [(0, .pointer (some ⟨b0', 0, none⟩)), (3, .slice a313 x311.1.length c314), (4, .slice a15 x13.length c16), (5, .int .i64 st188.2.1)] ∧ Below B w w' ∧ B ≤ w'.heap.size ∧ SH w' B (aOwn fGood 56 a313 c314 x311.1 :: aBox 105 b0' [.slice a0_code' s_0_code.length c0_code', .int .i64 x311.2.1, .int .u64 x311.2.2] :: aOwn fStr 9 a15 c16 x13 :: L)) ?_ ?_
  rotate_left
  · clear hx312
    rintro _ w345 ⟨a313, c314, rfl, hb346, hL347, hS348⟩
    refine WQ.block_normal ?_
    refine WQ.then_normal (hK207 _ _ _ ?_)
    refine WP.region ?_
    refine WL.runk 3 [0, 3, 4, 5] [(0, .pointer (some ⟨b0', 0, none⟩)), (3, .slice a313 x311.1.length c314), (4, .slice a15 x13.length c16), (5, .int .i64 (wI64 (st188.2.1 + 1)))] (by kernel_rfl) ?_
    refine WL.nil ?_
    obtain rfl := Option.some.inj hm
    exact WQ.round hK198 ⟨(x311.1, (wI64 (st188.2.1 + 1)), x311.2.1, x311.2.2), _, _, rfl, hb346, hL347, (SH.front 2 (SH.front 2 (SH.front 1 hS348))), hl196⟩ (Nat.lt_succ_self _) ⟨rfl, rfl, rfl, rfl, trivial⟩
  have hm := hx312; clear hx312
  refine WP.cond x209.1 rfl rfl (fun hc218 => ?_) (fun hc218 => ?_)
  rotate_left
  · have hm := iteF hm hc218
    refine WP.skip ?_
    obtain rfl := Option.some.inj hm
    exact WQ.post' ⟨_, _, rfl, hb216, hL217, (SH.front 2 (SH.front 1 (SH.front 2 hS214)))⟩ ⟨rfl, rfl, rfl, rfl, trivial⟩
  have hm := iteT hm hc218
  refine WP.region ?_
  refine WL.runk 4 [0, 4, 5, 16, 17, 18, 19] [(0, .pointer (some ⟨b0', 0, none⟩)), (4, .slice a15 x13.length c16), (5, .int .i64 st188.2.1), (16, .slice a189 st188.1.length c190), (17, .pointer (some ⟨b0', 0, none⟩)), (18, .slice a15 x13.length c16), (19, .int .i64 st188.2.1)] (by kernel_rfl) ?_
  obtain ⟨x316, hx317, hm⟩ := bindE hm
  refine WL.st (.pointer (some (at_ a15 (Int.toNat st188.2.1 * 1)))) (ST.index (T := fStr.ty) (xs := x13) (SH.rd (SH.front 2 hS214)) hx317 rfl rfl rfl Try.underlying108 (info9).1 (info9).2.1) rfl rfl rfl ?_
  refine WL.st (.string (bs x316)) (ST.load (cell_ext (Rd.flat (F := fStr) (SH.rd (SH.front 2 hS214)) hx317 0 rfl)) rfl rfl Try.underlying9 rfl) rfl rfl rfl ?_
  obtain ⟨x318, hx319, hm⟩ := bindE hm
  refine WL.call 98 #[.pointer (some ⟨b0', 0, none⟩), .string (bs x316)] rfl rfl (by kernel_rfl) (c_98 n s_0_code a0_code' c0_code' x209.2.1 x209.2.2 b0' x316 w211 w0 B (aOwn fGood 56 a189 c190 st188.1 :: aOwn fStr 9 a15 c16 x13 :: L) hx319 (Below.trans hE0 (Below.mono hb216 hW)) hW hL217 h0_code hle0_code hS214) ?_
  rintro _ w320 ⟨rfl, hB324, hS323⟩
  refine ⟨_, rfl, ?_⟩
  have hb325 : Below B w w320 := Below.trans hb216 hB324
  have hL326 : B ≤ w320.heap.size := Nat.le_trans hL217 hB324.size
  refine WL.row fGood 56 ([x318.1] : List SGood) 1 #[.string (bs x318.1.Name), .int .i64 x318.1.OnHand, .int .i64 x318.1.Reserved, .int .i64 x318.1.Least] 23 (by kernel_rfl) rfl rfl rfl rfl rfl rfl rfl ?_
  intro a327 c328 w329 hE330 hR331
  have hb333 : Below B w w329 := Below.trans hb325 (Below.mono hE330 hL326)
  have hL334 : B ≤ w329.heap.size := Nat.le_trans hL326 hE330.size
  have hS335 : SH w329 B (aOwn fGood 56 a327 c328 ([x318.1] : List SGood) :: aBox 105 b0' [.slice a0_code' s_0_code.length c0_code', .int .i64 x318.2.1, .int .u64 x318.2.2] :: aOwn fGood 56 a189 c190 st188.1 :: aOwn fStr 9 a15 c16 x13 :: L) := SH.add hS323 hE330 hL326 hR331
  obtain ⟨x336, hx337, hm⟩ := bindE hm
  refine WL.append (F := fGood) (xs := st188.1) (ys := ([x318.1] : List SGood)) 24 (SH.front 2 hS335) hL334 (SH.rd (SH.front 0 hS335)) hx337 rfl rfl rfl Try.underlying25 (info56).1 (info56).2.2.1 (info56).2.1 (info56).2.2.2 rfl rfl rfl rfl rfl ?_
  intro a338 c339 w340 hB341 hS342
  have hb343 : Below B w w340 := Below.trans hb333 hB341
  have hL344 : B ≤ w340.heap.size := Nat.le_trans hL334 hB341.size
  refine WL.runk 1 [0, 3, 4, 5] [(0, .pointer (some ⟨b0', 0, none⟩)), (4, .slice a15 x13.length c16), (5, .int .i64 st188.2.1), (3, .slice a338 x336.length c339)] (by kernel_rfl) ?_
  refine WL.nil ?_
  obtain rfl := Option.some.inj hm
  exact WQ.post' ⟨_, _, rfl, hb343, hL344, (SH.cutOut 3 1 (SH.front 2 (SH.front 3 (SH.front 3 hS342))))⟩ ⟨rfl, rfl, rfl, rfl, trivial⟩

theorem c_92_o1 (n : Nat) (s_0_code : List Int) (a0_code' : Option Addr) (c0_code' : Nat) (s_0_at_ : Int) (s_0_seed : Int) (b0' : Nat) (list_1 : List (List UInt8)) (a1' : Option Addr) (c1' : Nat) (w : World) (w0 : World) (B : Nat) (L : List Asrt) {r : List UInt8 × Int × Int} (hm : m_spec_l00Src_text_o1 n s_0_code s_0_at_ s_0_seed list_1 = some r) (hE0 : Ext w0 w) (hW : w0.heap.size ≤ B) (hL : B ≤ w.heap.size) (h0_code : Rd fU8.ty w0 a0_code' s_0_code) (hle0_code : s_0_code.length ≤ c0_code') (hS : SH w B (aBox 105 b0' [.slice a0_code' s_0_code.length c0_code', .int .i64 s_0_at_, .int .u64 s_0_seed] :: aOwn fStr 9 a1' c1' list_1 :: L)) :
    CallV Try.prog 92 #[.pointer (some ⟨b0', 0, none⟩), .slice a1' list_1.length c1'] w (fun v w' => v = .string (bs r.1) ∧ Below B w w' ∧ SH w' B (aBox 105 b0' [.slice a0_code' s_0_code.length c0_code', .int .i64 r.2.1, .int .u64 r.2.2] :: aOwn fStr 9 a1' c1' list_1 :: L)) := by
  unfold m_spec_l00Src_text_o1 at hm
  refine CallV.enter Try.func92 rfl (by kernel_rfl) Try.ntmps92 (env := [(0, .pointer (some ⟨b0', 0, none⟩)), (1, .slice a1' list_1.length c1')]) ⟨rfl, rfl, trivial⟩ ?_
  refine WP.seq (fun K1 hK1 => ?_)
  refine WP.region ?_
  refine WL.runk 1 [0, 1] [(0, .pointer (some ⟨b0', 0, none⟩)), (1, .slice a1' list_1.length c1')] (by kernel_rfl) ?_
  refine WL.nil ?_
  refine WQ.then_normal (hK1 _ _ _ ?_)
  refine WP.seq (fun K2 hK2 => ?_)
  refine WP.region ?_
  refine WL.runk 4 [5, 6, 8] [(5, .slice a1' list_1.length c1'), (6, .pointer (some ⟨b0', 0, none⟩)), (8, .int .i64 (list_1.length : Int))] (by kernel_rfl) ?_
  obtain ⟨x3, hx4, hm⟩ := bindE hm
  refine WL.call 75 #[.pointer (some ⟨b0', 0, none⟩), .int .i64 (list_1.length : Int)] rfl rfl (by kernel_rfl) (c_75 n s_0_code a0_code' c0_code' s_0_at_ s_0_seed b0' (list_1.length : Int) w w0 B (aOwn fStr 9 a1' c1' list_1 :: L) hx4 (Below.trans hE0 (Below.mono (Below.refl _ _) hW)) hW hL h0_code hle0_code hS) ?_
  rintro _ w5 ⟨rfl, hB9, hS8⟩
  refine ⟨_, rfl, ?_⟩
  have hb10 : Below B w w5 := Below.trans (Below.refl _ _) hB9
  have hL11 : B ≤ w5.heap.size := Nat.le_trans hL hB9.size
  obtain ⟨x12, hx13, hm⟩ := bindE hm
  refine WL.st (.pointer (some (at_ a1' (Int.toNat x3.1 * 1)))) (ST.index (T := fStr.ty) (xs := list_1) (SH.rd (SH.front 1 hS8)) hx13 rfl rfl rfl Try.underlying108 (info9).1 (info9).2.1) rfl rfl rfl ?_
  refine WL.st (.string (bs x12)) (ST.load (cell_ext (Rd.flat (F := fStr) (SH.rd (SH.front 1 hS8)) hx13 0 rfl)) rfl rfl Try.underlying9 rfl) rfl rfl rfl ?_
  refine WL.runk 1 [4] [(4, .string (bs x12))] (by kernel_rfl) ?_
  refine WL.nil ?_
  refine WQ.then_normal (hK2 _ _ _ ?_)
  refine WP.ret ?_
  obtain rfl := Option.some.inj hm
  exact WQ.ret1 _ rfl rfl ⟨rfl, hb10, hS8⟩

theorem c_78_o1 (n : Nat) (s_0_code : List Int) (a0_code' : Option Addr) (c0_code' : Nat) (s_0_at_ : Int) (s_0_seed : Int) (b0' : Nat) (list_1 : List Int) (a1' : Option Addr) (c1' : Nat) (w : World) (w0 : World) (B : Nat) (L : List Asrt) {r : Int × Int × Int} (hm : m_spec_l00Src_among_o1 n s_0_code s_0_at_ s_0_seed list_1 = some r) (hE0 : Ext w0 w) (hW : w0.heap.size ≤ B) (hL : B ≤ w.heap.size) (h0_code : Rd fU8.ty w0 a0_code' s_0_code) (hle0_code : s_0_code.length ≤ c0_code') (hS : SH w B (aBox 105 b0' [.slice a0_code' s_0_code.length c0_code', .int .i64 s_0_at_, .int .u64 s_0_seed] :: aOwn fInt 2 a1' c1' list_1 :: L)) :
    CallV Try.prog 78 #[.pointer (some ⟨b0', 0, none⟩), .slice a1' list_1.length c1'] w (fun v w' => v = .int .i64 r.1 ∧ Below B w w' ∧ SH w' B (aBox 105 b0' [.slice a0_code' s_0_code.length c0_code', .int .i64 r.2.1, .int .u64 r.2.2] :: aOwn fInt 2 a1' c1' list_1 :: L)) := by
  unfold m_spec_l00Src_among_o1 at hm
  refine CallV.enter Try.func78 rfl (by kernel_rfl) Try.ntmps78 (env := [(0, .pointer (some ⟨b0', 0, none⟩)), (1, .slice a1' list_1.length c1')]) ⟨rfl, rfl, trivial⟩ ?_
  refine WP.seq (fun K1 hK1 => ?_)
  refine WP.region ?_
  refine WL.runk 1 [0, 1] [(0, .pointer (some ⟨b0', 0, none⟩)), (1, .slice a1' list_1.length c1')] (by kernel_rfl) ?_
  refine WL.nil ?_
  refine WQ.then_normal (hK1 _ _ _ ?_)
  refine WP.seq (fun K2 hK2 => ?_)
  refine WP.region ?_
  refine WL.runk 4 [5, 6, 8] [(5, .slice a1' list_1.length c1'), (6, .pointer (some ⟨b0', 0, none⟩)), (8, .int .i64 (list_1.length : Int))] (by kernel_rfl) ?_
  obtain ⟨x3, hx4, hm⟩ := bindE hm
  refine WL.call 75 #[.pointer (some ⟨b0', 0, none⟩), .int .i64 (list_1.length : Int)] rfl rfl (by kernel_rfl) (c_75 n s_0_code a0_code' c0_code' s_0_at_ s_0_seed b0' (list_1.length : Int) w w0 B (aOwn fInt 2 a1' c1' list_1 :: L) hx4 (Below.trans hE0 (Below.mono (Below.refl _ _) hW)) hW hL h0_code hle0_code hS) ?_
  rintro _ w5 ⟨rfl, hB9, hS8⟩
  refine ⟨_, rfl, ?_⟩
  have hb10 : Below B w w5 := Below.trans (Below.refl _ _) hB9
  have hL11 : B ≤ w5.heap.size := Nat.le_trans hL hB9.size
  obtain ⟨x12, hx13, hm⟩ := bindE hm
  refine WL.st (.pointer (some (at_ a1' (Int.toNat x3.1 * 1)))) (ST.index (T := fInt.ty) (xs := list_1) (SH.rd (SH.front 1 hS8)) hx13 rfl rfl rfl Try.underlying83 (info2).1 (info2).2.1) rfl rfl rfl ?_
  refine WL.st (.int .i64 x12) (ST.load (cell_ext (Rd.flat (F := fInt) (SH.rd (SH.front 1 hS8)) hx13 0 rfl)) rfl rfl Try.underlying2 rfl) rfl rfl rfl ?_
  refine WL.runk 1 [4] [(4, .int .i64 x12)] (by kernel_rfl) ?_
  refine WL.nil ?_
  refine WQ.then_normal (hK2 _ _ _ ?_)
  refine WP.ret ?_
  obtain rfl := Option.some.inj hm
  exact WQ.ret1 _ rfl rfl ⟨rfl, hb10, hS8⟩

theorem c_90_o1 (n : Nat) (s_0_code : List Int) (a0_code' : Option Addr) (c0_code' : Nat) (s_0_at_ : Int) (s_0_seed : Int) (b0' : Nat) (g_1 : List SGood) (a1' : Option Addr) (c1' : Nat) (i1_ : Int) (e1_ : SGood) (hx1_ : idx g_1 i1_ = some e1_) (w : World) (w0 : World) (B : Nat) (L : List Asrt) {r : List SGood × Int × Int} (hm : m_spec_l23Spoil_o1 n s_0_code s_0_at_ s_0_seed g_1 i1_ e1_ = some r) (hE0 : Ext w0 w) (hW : w0.heap.size ≤ B) (hL : B ≤ w.heap.size) (h0_code : Rd fU8.ty w0 a0_code' s_0_code) (hle0_code : s_0_code.length ≤ c0_code') (hS : SH w B (aBox 105 b0' [.slice a0_code' s_0_code.length c0_code', .int .i64 s_0_at_, .int .u64 s_0_seed] :: aOwn fGood 56 a1' c1' g_1 :: L)) :
    CallV Try.prog 90 #[.pointer (some ⟨b0', 0, none⟩), .pointer (some (at_ a1' (Int.toNat i1_ * 4)))] w (fun v w' => v = .tuple #[] ∧ Below B w w' ∧ SH w' B (aBox 105 b0' [.slice a0_code' s_0_code.length c0_code', .int .i64 r.2.1, .int .u64 r.2.2] :: aOwn fGood 56 a1' c1' r.1 :: L) ∧ r.1.length = g_1.length) := by
  unfold m_spec_l23Spoil_o1 at hm
  refine CallV.enter Try.func90 rfl (by kernel_rfl) Try.ntmps90 (env := [(0, .pointer (some ⟨b0', 0, none⟩)), (1, .pointer (some (at_ a1' (Int.toNat i1_ * 4))))]) ⟨rfl, rfl, trivial⟩ ?_
  refine WP.seq (fun K1 hK1 => ?_)
  refine WP.region ?_
  refine WL.runk 1 [0, 1, 4] [(0, .pointer (some ⟨b0', 0, none⟩)), (1, .pointer (some (at_ a1' (Int.toNat i1_ * 4)))), (4, .pointer (some ⟨b0', 0, none⟩))] (by kernel_rfl) ?_
  obtain ⟨x2, hx3, hm⟩ := bindE hm
  refine WL.call 75 #[.pointer (some ⟨b0', 0, none⟩), .int .i64 4] rfl rfl (by kernel_rfl) (c_75 n s_0_code a0_code' c0_code' s_0_at_ s_0_seed b0' 4 w w0 B (aOwn fGood 56 a1' c1' g_1 :: L) hx3 (Below.trans hE0 (Below.mono (Below.refl _ _) hW)) hW hL h0_code hle0_code hS) ?_
  rintro _ w4 ⟨rfl, hB8, hS7⟩
  refine ⟨_, rfl, ?_⟩
  have hb9 : Below B w w4 := Below.trans (Below.refl _ _) hB8
  have hL10 : B ≤ w4.heap.size := Nat.le_trans hL hB8.size
  refine WL.sub [(0, .pointer (some ⟨b0', 0, none⟩)), (1, .pointer (some (at_ a1' (Int.toNat i1_ * 4)))), (5, .int .i64 x2.1)] ⟨rfl, rfl, rfl, trivial⟩ ?_
  refine WL.nil ?_
  refine WQ.then_normal (hK1 _ _ _ ?_)
  refine WP.block ?_
  refine WP.seq (fun K11 hK11 => ?_)
  refine WP.region ?_
  refine WL.runk 2 [0, 1, 5, 6] [(0, .pointer (some ⟨b0', 0, none⟩)), (1, .pointer (some (at_ a1' (Int.toNat i1_ * 4)))), (5, .int .i64 x2.1), (6, .bool (x2.1 == 0))] (by kernel_rfl) ?_
  refine WL.nil ?_
  refine WQ.then_normal (hK11 _ _ _ ?_)
  obtain ⟨x7308, hx7309, hm⟩ := bindE hm
  refine WP.cut (fun env' w' => env' = [] ∧ Below B w w' ∧ B ≤ w'.heap.size ∧ SH w' B (aBox 105 b0' [.slice a0_code' s_0_code.length c0_code', .int .i64 x7308.1, .int .u64 x7308.2.1] :: aOwn fGood 56 a1' c1' x7308.2.2 :: L) ∧ x7308.2.2.length = g_1.length) ?_ ?_
  rotate_left
  · clear hx7309
    rintro _ w9741 ⟨rfl, hb9742, hL9743, hS9744, hn9745⟩
    refine WQ.block_normal ?_
    obtain rfl := Option.some.inj hm
    exact WQ.end0 rfl ⟨rfl, hb9742, hS9744, hn9745⟩
  have hm := hx7309; clear hx7309
  refine WP.cond (x2.1 == 0) rfl rfl (fun hc12 => ?_) (fun hc12 => ?_)
  · have hm := iteT hm hc12
    refine WP.region ?_
    refine WL.runk 2 [8, 9] [(8, .pointer (some (at_ a1' (Int.toNat i1_ * 4)))), (9, .pointer (some ⟨b0', 0, none⟩))] (by kernel_rfl) ?_
    refine WL.row fStr 9 ([[], [67, 97, 108, 102], [122, 122]] : List (List UInt8)) 3 #[.string (bs []), .string (bs [67, 97, 108, 102]), .string (bs [122, 122])] 10 (by kernel_rfl) rfl rfl rfl rfl rfl rfl rfl ?_
    intro a7310 c7311 w7312 hE7313 hR7314
    have hb7316 : Below B w w7312 := Below.trans hb9 (Below.mono hE7313 hL10)
    have hL7317 : B ≤ w7312.heap.size := Nat.le_trans hL10 hE7313.size
    have hS7318 : SH w7312 B (aOwn fStr 9 a7310 c7311 ([[], [67, 97, 108, 102], [122, 122]] : List (List UInt8)) :: aBox 105 b0' [.slice a0_code' s_0_code.length c0_code', .int .i64 x2.2.1, .int .u64 x2.2.2] :: aOwn fGood 56 a1' c1' g_1 :: L) := SH.add hS7 hE7313 hL10 hR7314
    obtain ⟨x7319, hx7320, hm⟩ := bindE hm
    refine WL.call 92 #[.pointer (some ⟨b0', 0, none⟩), .slice a7310 (([[], [67, 97, 108, 102], [122, 122]] : List (List UInt8)).length) c7311] rfl rfl (by kernel_rfl) (c_92_o1 n s_0_code a0_code' c0_code' x2.2.1 x2.2.2 b0' ([[], [67, 97, 108, 102], [122, 122]] : List (List UInt8)) a7310 c7311 w7312 w0 B (aOwn fGood 56 a1' c1' g_1 :: L) hx7320 (Below.trans hE0 (Below.mono hb7316 hW)) hW hL7317 h0_code hle0_code (SH.front 2 (SH.front 1 (SH.front 2 hS7318)))) ?_
    rintro _ w7321 ⟨rfl, hB7325, hS7324⟩
    refine ⟨_, rfl, ?_⟩
    have hb7326 : Below B w w7321 := Below.trans hb7316 hB7325
    have hL7327 : B ≤ w7321.heap.size := Nat.le_trans hL7317 hB7325.size
    refine WL.runk 2 [11, 13] [(11, .string (bs x7319.1)), (13, .pointer (some (at_ a1' (Int.toNat i1_ * 4))))] (by kernel_rfl) ?_
    refine WL.store (F := fGood) (SGood.mk x7319.1 e1_.OnHand e1_.Reserved e1_.Least) 0 [.string (bs x7319.1)] (SH.front 2 hS7324) hL7327 hx1_ rfl rfl rfl rfl rfl rfl rfl (info9).1 (info9).2.1 rfl rfl rfl ?_
    intro w7328 hB7329 hS7330
    have hb7331 : Below B w w7328 := Below.trans hb7326 hB7329
    have hL7332 : B ≤ w7328.heap.size := Nat.le_trans hL7327 hB7329.size
    refine WL.sub [(11, .string (bs x7319.1))] ⟨rfl, trivial⟩ ?_
    have hn7333 : (g_1.set (Int.toNat i1_) (SGood.mk x7319.1 e1_.OnHand e1_.Reserved e1_.Least)).length = g_1.length := List.length_set.trans rfl
    refine WL.sub [] trivial ?_
    refine WL.nil ?_
    obtain rfl := Option.some.inj hm
    exact WQ.post' ⟨rfl, hb7331, hL7332, (SH.cutOut 2 1 (SH.front 1 hS7330)), hn7333⟩ trivial
  have hm := iteF hm hc12
  refine WP.seq (fun K7334 hK7334 => ?_)
  refine WP.region ?_
  refine WL.runk 2 [0, 1, 5, 14] [(0, .pointer (some ⟨b0', 0, none⟩)), (1, .pointer (some (at_ a1' (Int.toNat i1_ * 4)))), (5, .int .i64 x2.1), (14, .bool (x2.1 == 1))] (by kernel_rfl) ?_
  refine WL.nil ?_
  refine WQ.then_normal (hK7334 _ _ _ ?_)
  obtain ⟨x9135, hx9136, hm⟩ := bindE hm
  refine WP.cut (fun env' w' => env' = [] ∧ Below B w w' ∧ B ≤ w'.heap.size ∧ SH w' B (aBox 105 b0' [.slice a0_code' s_0_code.length c0_code', .int .i64 x9135.1, .int .u64 x9135.2.1] :: aOwn fGood 56 a1' c1' x9135.2.2 :: L) ∧ x9135.2.2.length = g_1.length) ?_ ?_
  rotate_left
  · clear hx9136
    rintro _ w9736 ⟨rfl, hb9737, hL9738, hS9739, hn9740⟩
    obtain rfl := Option.some.inj hm
    exact WQ.post' ⟨rfl, hb9737, hL9738, hS9739, hn9740⟩ trivial
  have hm := hx9136; clear hx9136
  refine WP.cond (x2.1 == 1) rfl rfl (fun hc7335 => ?_) (fun hc7335 => ?_)
  · have hm := iteT hm hc7335
    refine WP.region ?_
    refine WL.runk 2 [16, 17] [(16, .pointer (some (at_ a1' (Int.toNat i1_ * 4)))), (17, .pointer (some ⟨b0', 0, none⟩))] (by kernel_rfl) ?_
    refine WL.row fInt 2 ([(-1), 0, 1000000, 1000001] : List Int) 4 #[.int .i64 (-1), .int .i64 0, .int .i64 1000000, .int .i64 1000001] 18 (by kernel_rfl) rfl rfl rfl rfl rfl rfl rfl ?_
    intro a9137 c9138 w9139 hE9140 hR9141
    have hb9143 : Below B w w9139 := Below.trans hb9 (Below.mono hE9140 hL10)
    have hL9144 : B ≤ w9139.heap.size := Nat.le_trans hL10 hE9140.size
    have hS9145 : SH w9139 B (aOwn fInt 2 a9137 c9138 ([(-1), 0, 1000000, 1000001] : List Int) :: aBox 105 b0' [.slice a0_code' s_0_code.length c0_code', .int .i64 x2.2.1, .int .u64 x2.2.2] :: aOwn fGood 56 a1' c1' g_1 :: L) := SH.add hS7 hE9140 hL10 hR9141
    obtain ⟨x9146, hx9147, hm⟩ := bindE hm
    refine WL.call 78 #[.pointer (some ⟨b0', 0, none⟩), .slice a9137 (([(-1), 0, 1000000, 1000001] : List Int).length) c9138] rfl rfl (by kernel_rfl) (c_78_o1 n s_0_code a0_code' c0_code' x2.2.1 x2.2.2 b0' ([(-1), 0, 1000000, 1000001] : List Int) a9137 c9138 w9139 w0 B (aOwn fGood 56 a1' c1' g_1 :: L) hx9147 (Below.trans hE0 (Below.mono hb9143 hW)) hW hL9144 h0_code hle0_code (SH.front 2 (SH.front 1 (SH.front 2 hS9145)))) ?_
    rintro _ w9148 ⟨rfl, hB9152, hS9151⟩
    refine ⟨_, rfl, ?_⟩
    have hb9153 : Below B w w9148 := Below.trans hb9143 hB9152
    have hL9154 : B ≤ w9148.heap.size := Nat.le_trans hL9144 hB9152.size
    refine WL.runk 2 [19, 21] [(19, .int .i64 x9146.1), (21, .pointer (some (at_ a1' (Int.toNat i1_ * 4 + 1))))] (by kernel_rfl) ?_
    refine WL.store (F := fGood) (SGood.mk e1_.Name x9146.1 e1_.Reserved e1_.Least) 1 [.int .i64 x9146.1] (SH.front 2 hS9151) hL9154 hx1_ rfl rfl rfl rfl rfl rfl rfl (info2).1 (info2).2.1 rfl rfl rfl ?_
    intro w9155 hB9156 hS9157
    have hb9158 : Below B w w9155 := Below.trans hb9153 hB9156
    have hL9159 : B ≤ w9155.heap.size := Nat.le_trans hL9154 hB9156.size
    refine WL.sub [(19, .int .i64 x9146.1)] ⟨rfl, trivial⟩ ?_
    have hn9160 : (g_1.set (Int.toNat i1_) (SGood.mk e1_.Name x9146.1 e1_.Reserved e1_.Least)).length = g_1.length := List.length_set.trans rfl
    refine WL.sub [] trivial ?_
    refine WL.nil ?_
    obtain rfl := Option.some.inj hm
    exact WQ.post' ⟨rfl, hb9158, hL9159, (SH.cutOut 2 1 (SH.front 1 hS9157)), hn9160⟩ trivial
  have hm := iteF hm hc7335
  refine WP.seq (fun K9161 hK9161 => ?_)
  refine WP.region ?_
  refine WL.runk 2 [0, 1, 5, 22] [(0, .pointer (some ⟨b0', 0, none⟩)), (1, .pointer (some (at_ a1' (Int.toNat i1_ * 4)))), (5, .int .i64 x2.1), (22, .bool (x2.1 == 2))] (by kernel_rfl) ?_
  refine WL.nil ?_
  refine WQ.then_normal (hK9161 _ _ _ ?_)
  obtain ⟨x9588, hx9589, hm⟩ := bindE hm
  refine WP.cut (fun env' w' => env' = [] ∧ Below B w w' ∧ B ≤ w'.heap.size ∧ SH w' B (aBox 105 b0' [.slice a0_code' s_0_code.length c0_code', .int .i64 x9588.1, .int .u64 x9588.2.1] :: aOwn fGood 56 a1' c1' x9588.2.2 :: L) ∧ x9588.2.2.length = g_1.length) ?_ ?_
  rotate_left
  · clear hx9589
    rintro _ w9731 ⟨rfl, hb9732, hL9733, hS9734, hn9735⟩
    obtain rfl := Option.some.inj hm
    exact WQ.post' ⟨rfl, hb9732, hL9733, hS9734, hn9735⟩ trivial
  have hm := hx9589; clear hx9589
  refine WP.cond (x2.1 == 2) rfl rfl (fun hc9162 => ?_) (fun hc9162 => ?_)
  rotate_left
  · have hm := iteF hm hc9162
    refine WP.seq (fun K9624 hK9624 => ?_)
    refine WP.region ?_
    refine WL.runk 2 [0, 1, 39] [(0, .pointer (some ⟨b0', 0, none⟩)), (1, .pointer (some (at_ a1' (Int.toNat i1_ * 4)))), (39, .bool (x2.1 == 3))] (by kernel_rfl) ?_
    refine WL.nil ?_
    refine WQ.then_normal (hK9624 _ _ _ ?_)
    obtain ⟨x9700, hx9701, hm⟩ := bindE hm
    refine WP.cut (fun env' w' => env' = [] ∧ Below B w w' ∧ B ≤ w'.heap.size ∧ SH w' B (aBox 105 b0' [.slice a0_code' s_0_code.length c0_code', .int .i64 x9700.1, .int .u64 x9700.2.1] :: aOwn fGood 56 a1' c1' x9700.2.2 :: L) ∧ x9700.2.2.length = g_1.length) ?_ ?_
    rotate_left
    · clear hx9701
      rintro _ w9726 ⟨rfl, hb9727, hL9728, hS9729, hn9730⟩
      obtain rfl := Option.some.inj hm
      exact WQ.post' ⟨rfl, hb9727, hL9728, hS9729, hn9730⟩ trivial
    have hm := hx9701; clear hx9701
    refine WP.cond (x2.1 == 3) rfl rfl (fun hc9625 => ?_) (fun hc9625 => ?_)
    rotate_left
    · have hm := iteF hm hc9625
      refine WP.skip ?_
      obtain rfl := Option.some.inj hm
      exact WQ.post' ⟨rfl, hb9, hL10, hS7, rfl⟩ trivial
    have hm := iteT hm hc9625
    refine WP.region ?_
    refine WL.runk 2 [41, 42] [(41, .pointer (some (at_ a1' (Int.toNat i1_ * 4)))), (42, .pointer (some ⟨b0', 0, none⟩))] (by kernel_rfl) ?_
    refine WL.row fInt 2 ([(-1), 0, 1000000, 1000001] : List Int) 4 #[.int .i64 (-1), .int .i64 0, .int .i64 1000000, .int .i64 1000001] 43 (by kernel_rfl) rfl rfl rfl rfl rfl rfl rfl ?_
    intro a9702 c9703 w9704 hE9705 hR9706
    have hb9708 : Below B w w9704 := Below.trans hb9 (Below.mono hE9705 hL10)
    have hL9709 : B ≤ w9704.heap.size := Nat.le_trans hL10 hE9705.size
    have hS9710 : SH w9704 B (aOwn fInt 2 a9702 c9703 ([(-1), 0, 1000000, 1000001] : List Int) :: aBox 105 b0' [.slice a0_code' s_0_code.length c0_code', .int .i64 x2.2.1, .int .u64 x2.2.2] :: aOwn fGood 56 a1' c1' g_1 :: L) := SH.add hS7 hE9705 hL10 hR9706
    obtain ⟨x9711, hx9712, hm⟩ := bindE hm
    refine WL.call 78 #[.pointer (some ⟨b0', 0, none⟩), .slice a9702 (([(-1), 0, 1000000, 1000001] : List Int).length) c9703] rfl rfl (by kernel_rfl) (c_78_o1 n s_0_code a0_code' c0_code' x2.2.1 x2.2.2 b0' ([(-1), 0, 1000000, 1000001] : List Int) a9702 c9703 w9704 w0 B (aOwn fGood 56 a1' c1' g_1 :: L) hx9712 (Below.trans hE0 (Below.mono hb9708 hW)) hW hL9709 h0_code hle0_code (SH.front 2 (SH.front 1 (SH.front 2 hS9710)))) ?_
    rintro _ w9713 ⟨rfl, hB9717, hS9716⟩
    refine ⟨_, rfl, ?_⟩
    have hb9718 : Below B w w9713 := Below.trans hb9708 hB9717
    have hL9719 : B ≤ w9713.heap.size := Nat.le_trans hL9709 hB9717.size
    refine WL.runk 2 [44, 46] [(44, .int .i64 x9711.1), (46, .pointer (some (at_ a1' (Int.toNat i1_ * 4 + 3))))] (by kernel_rfl) ?_
    refine WL.store (F := fGood) (SGood.mk e1_.Name e1_.OnHand e1_.Reserved x9711.1) 3 [.int .i64 x9711.1] (SH.front 2 hS9716) hL9719 hx1_ rfl rfl rfl rfl rfl rfl rfl (info2).1 (info2).2.1 rfl rfl rfl ?_
    intro w9720 hB9721 hS9722
    have hb9723 : Below B w w9720 := Below.trans hb9718 hB9721
    have hL9724 : B ≤ w9720.heap.size := Nat.le_trans hL9719 hB9721.size
    refine WL.sub [(44, .int .i64 x9711.1)] ⟨rfl, trivial⟩ ?_
    have hn9725 : (g_1.set (Int.toNat i1_) (SGood.mk e1_.Name e1_.OnHand e1_.Reserved x9711.1)).length = g_1.length := List.length_set.trans rfl
    refine WL.sub [] trivial ?_
    refine WL.nil ?_
    obtain rfl := Option.some.inj hm
    exact WQ.post' ⟨rfl, hb9723, hL9724, (SH.cutOut 2 1 (SH.front 1 hS9722)), hn9725⟩ trivial
  have hm := iteT hm hc9162
  refine WP.open (n := 16) (by kernel_rfl) rfl (fun w9590 hE9591 => ?_)
  have hb9592 : Below B w w9590 := Below.trans hb9 (Below.mono hE9591 hL10)
  have hL9593 : B ≤ w9590.heap.size := Nat.le_trans hL10 hE9591.size
  have hS9594 : SH w9590 B (aBox 105 b0' [.slice a0_code' s_0_code.length c0_code', .int .i64 x2.2.1, .int .u64 x2.2.2] :: aOwn fGood 56 a1' c1' g_1 :: L) := SH.ext hS7 hE9591
  refine WA.pre (i := 0) (D' := [0]) [(0, .pointer (some ⟨b0', 0, none⟩)), (1, .pointer (some (at_ a1' (Int.toNat i1_ * 4)))), (5, .int .i64 x2.1), (22, .bool (x2.1 == 2)), (24, .pointer (some (at_ a1' (Int.toNat i1_ * 4))))] rfl (by kernel_rfl) rfl (fun _ => by kernel_rfl) rfl ?_
  refine WA.pre (i := 1) (D' := [0, 1]) [(0, .pointer (some ⟨b0', 0, none⟩)), (1, .pointer (some (at_ a1' (Int.toNat i1_ * 4)))), (5, .int .i64 x2.1), (22, .bool (x2.1 == 2)), (24, .pointer (some (at_ a1' (Int.toNat i1_ * 4)))), (25, .pointer (some ⟨b0', 0, none⟩))] rfl (by kernel_rfl) rfl (fun _ => by kernel_rfl) rfl ?_
  refine WA.quiet (f' := 5) (D' := [0, 1, 2, 3, 4, 5, 6, 7, 8, 9, 10]) [2, 3, 4, 5, 6, 7, 8, 9, 10] rfl rfl (by kernel_rfl) ?_
  refine QL.step1v 26 (.pointer (some (at_ a1' (Int.toNat i1_ * 4)))) rfl (fun _ => by kernel_rfl) ?_
  refine QL.step1v 27 (.pointer (some (at_ a1' (Int.toNat i1_ * 4)))) rfl (fun _ => by kernel_rfl) ?_
  refine QL.step1v 28 (.pointer (some (at_ a1' (Int.toNat i1_ * 4 + 1)))) rfl (fun _ => by kernel_rfl) ?_
  refine QL.subk [1, 24, 25, 28] [(1, .pointer (some (at_ a1' (Int.toNat i1_ * 4)))), (24, .pointer (some (at_ a1' (Int.toNat i1_ * 4)))), (25, .pointer (some ⟨b0', 0, none⟩)), (28, .pointer (some (at_ a1' (Int.toNat i1_ * 4 + 1))))] (by kernel_rfl) ?_
  refine QL.st (.int .i64 e1_.OnHand) (ST.load (cell_ext (Rd.flat (F := fGood) (SH.rd (SH.front 1 hS9594)) hx1_ 1 rfl)) rfl rfl Try.underlying2 rfl) rfl rfl rfl ?_
  refine QL.step1v 30 (.pointer (some (at_ a1' (Int.toNat i1_ * 4)))) rfl (fun _ => by kernel_rfl) ?_
  refine QL.step1v 31 (.pointer (some (at_ a1' (Int.toNat i1_ * 4)))) rfl (fun _ => by kernel_rfl) ?_
  refine QL.step1v 32 (.pointer (some (at_ a1' (Int.toNat i1_ * 4 + 1)))) rfl (fun _ => by kernel_rfl) ?_
  refine QL.subk [24, 25, 29, 32] [(24, .pointer (some (at_ a1' (Int.toNat i1_ * 4)))), (25, .pointer (some ⟨b0', 0, none⟩)), (29, .int .i64 e1_.OnHand), (32, .pointer (some (at_ a1' (Int.toNat i1_ * 4 + 1))))] (by kernel_rfl) ?_
  refine QL.st (.int .i64 e1_.OnHand) (ST.load (cell_ext (Rd.flat (F := fGood) (SH.rd (SH.front 1 hS9594)) hx1_ 1 rfl)) rfl rfl Try.underlying2 rfl) rfl rfl rfl ?_
  refine QL.step1v 34 (.int .i64 (wI64 (e1_.OnHand + 1))) rfl (fun _ => by kernel_rfl) ?_
  refine QL.subk [24, 25, 29, 34] [(24, .pointer (some (at_ a1' (Int.toNat i1_ * 4)))), (25, .pointer (some ⟨b0', 0, none⟩)), (29, .int .i64 e1_.OnHand), (34, .int .i64 (wI64 (e1_.OnHand + 1)))] (by kernel_rfl) ?_
  refine QL.nil ?_
  intro w9595 hE9596
  have hb9597 : Below B w w9595 := Below.trans hb9592 (Below.mono hE9596 hL9593)
  have hL9598 : B ≤ w9595.heap.size := Nat.le_trans hL9593 hE9596.size
  have hS9599 : SH w9595 B (aBox 105 b0' [.slice a0_code' s_0_code.length c0_code', .int .i64 x2.2.1, .int .u64 x2.2.2] :: aOwn fGood 56 a1' c1' g_1 :: L) := SH.ext hS9594 hE9596
  refine WA.one (i := 11) (D' := [0, 1, 2, 3, 4, 5, 6, 7, 8, 9, 10, 11]) rfl rfl (by kernel_rfl) ?_
  refine WL.row fInt 2 ([(-1), e1_.OnHand, (wI64 (e1_.OnHand + 1)), (-9223372036854775808)] : List Int) 4 #[.int .i64 (-1), .int .i64 e1_.OnHand, .int .i64 (wI64 (e1_.OnHand + 1)), .int .i64 (-9223372036854775808)] 35 (by kernel_rfl) rfl rfl rfl rfl rfl rfl rfl ?_
  intro a9600 c9601 w9602 hE9603 hR9604
  have hb9606 : Below B w w9602 := Below.trans hb9597 (Below.mono hE9603 hL9598)
  have hL9607 : B ≤ w9602.heap.size := Nat.le_trans hL9598 hE9603.size
  have hS9608 : SH w9602 B (aOwn fInt 2 a9600 c9601 ([(-1), e1_.OnHand, (wI64 (e1_.OnHand + 1)), (-9223372036854775808)] : List Int) :: aBox 105 b0' [.slice a0_code' s_0_code.length c0_code', .int .i64 x2.2.1, .int .u64 x2.2.2] :: aOwn fGood 56 a1' c1' g_1 :: L) := SH.add hS9599 hE9603 hL9598 hR9604
  refine WL.sub [(24, .pointer (some (at_ a1' (Int.toNat i1_ * 4)))), (25, .pointer (some ⟨b0', 0, none⟩)), (35, .slice a9600 (([(-1), e1_.OnHand, (wI64 (e1_.OnHand + 1)), (-9223372036854775808)] : List Int).length) c9601)] ⟨rfl, rfl, rfl, trivial⟩ ?_
  refine WL.nil ?_
  refine WA.one (i := 12) (D' := [0, 1, 2, 3, 4, 5, 6, 7, 8, 9, 10, 11, 12]) rfl rfl (by kernel_rfl) ?_
  obtain ⟨x9609, hx9610, hm⟩ := bindE hm
  refine WL.call 78 #[.pointer (some ⟨b0', 0, none⟩), .slice a9600 (([(-1), e1_.OnHand, (wI64 (e1_.OnHand + 1)), (-9223372036854775808)] : List Int).length) c9601] rfl rfl (by kernel_rfl) (c_78_o1 n s_0_code a0_code' c0_code' x2.2.1 x2.2.2 b0' ([(-1), e1_.OnHand, (wI64 (e1_.OnHand + 1)), (-9223372036854775808)] : List Int) a9600 c9601 w9602 w0 B (aOwn fGood 56 a1' c1' g_1 :: L) hx9610 (Below.trans hE0 (Below.mono hb9606 hW)) hW hL9607 h0_code hle0_code (SH.front 2 (SH.front 1 (SH.front 2 hS9608)))) ?_
  rintro _ w9611 ⟨rfl, hB9615, hS9614⟩
  refine ⟨_, rfl, ?_⟩
  have hb9616 : Below B w w9611 := Below.trans hb9606 hB9615
  have hL9617 : B ≤ w9611.heap.size := Nat.le_trans hL9607 hB9615.size
  refine WL.sub [(24, .pointer (some (at_ a1' (Int.toNat i1_ * 4)))), (36, .int .i64 x9609.1)] ⟨rfl, rfl, trivial⟩ ?_
  refine WL.nil ?_
  refine WA.one (i := 13) (D' := [0, 1, 2, 3, 4, 5, 6, 7, 8, 9, 10, 11, 12, 13]) rfl rfl (by kernel_rfl) ?_
  refine WL.runk 1 [36, 37, 38] [(36, .int .i64 x9609.1), (37, .pointer (some (at_ a1' (Int.toNat i1_ * 4))))] (by kernel_rfl) ?_
  refine WL.nil ?_
  refine WA.one (i := 14) (D' := [0, 1, 2, 3, 4, 5, 6, 7, 8, 9, 10, 11, 12, 13, 14]) rfl rfl (by kernel_rfl) ?_
  refine WL.runk 1 [36, 38] [(36, .int .i64 x9609.1), (38, .pointer (some (at_ a1' (Int.toNat i1_ * 4 + 2))))] (by kernel_rfl) ?_
  refine WL.nil ?_
  refine WA.one (i := 15) (D' := [0, 1, 2, 3, 4, 5, 6, 7, 8, 9, 10, 11, 12, 13, 14, 15]) rfl rfl (by kernel_rfl) ?_
  refine WL.store (F := fGood) (SGood.mk e1_.Name e1_.OnHand x9609.1 e1_.Least) 2 [.int .i64 x9609.1] (SH.front 2 hS9614) hL9617 hx1_ rfl rfl rfl rfl rfl rfl rfl (info2).1 (info2).2.1 rfl rfl rfl ?_
  intro w9618 hB9619 hS9620
  have hb9621 : Below B w w9618 := Below.trans hb9616 hB9619
  have hL9622 : B ≤ w9618.heap.size := Nat.le_trans hL9617 hB9619.size
  refine WL.sub [(36, .int .i64 x9609.1)] ⟨rfl, trivial⟩ ?_
  have hn9623 : (g_1.set (Int.toNat i1_) (SGood.mk e1_.Name e1_.OnHand x9609.1 e1_.Least)).length = g_1.length := List.length_set.trans rfl
  refine WL.sub [] trivial ?_
  refine WL.nil ?_
  refine WA.done (by kernel_rfl) ?_
  obtain rfl := Option.some.inj hm
  exact WQ.post' ⟨rfl, hb9621, hL9622, (SH.cutOut 2 1 (SH.front 1 hS9620)), hn9623⟩ trivial

theorem c_73 (n : Nat) (s_0_code : List Int) (a0_code' : Option Addr) (c0_code' : Nat) (s_0_at_ : Int) (s_0_seed : Int) (b0' : Nat) (w : World) (w0 : World) (B : Nat) (L : List Asrt) {r : List SGood × Int × Int} (hm : m_spec_l23Bent n s_0_code s_0_at_ s_0_seed = some r) (hE0 : Ext w0 w) (hW : w0.heap.size ≤ B) (hL : B ≤ w.heap.size) (h0_code : Rd fU8.ty w0 a0_code' s_0_code) (hle0_code : s_0_code.length ≤ c0_code') (hS : SH w B (aBox 105 b0' [.slice a0_code' s_0_code.length c0_code', .int .i64 s_0_at_, .int .u64 s_0_seed] :: L)) :
    CallV Try.prog 73 #[.pointer (some ⟨b0', 0, none⟩)] w (fun v w' => ∃ (ra0 : Option Addr) (rc0 : Nat), v = .slice ra0 r.1.length rc0 ∧ Below B w w' ∧ SH w' B (aOwn fGood 56 ra0 rc0 r.1 :: aBox 105 b0' [.slice a0_code' s_0_code.length c0_code', .int .i64 r.2.1, .int .u64 r.2.2] :: L)) := by
  unfold m_spec_l23Bent at hm
  refine CallV.enter Try.func73 rfl (by kernel_rfl) Try.ntmps73 (env := [(0, .pointer (some ⟨b0', 0, none⟩))]) ⟨rfl, trivial⟩ ?_
  refine WP.seq (fun K1 hK1 => ?_)
  refine WP.region ?_
  refine WL.runk 1 [0] [(0, .pointer (some ⟨b0', 0, none⟩))] (by kernel_rfl) ?_
  refine WL.nil ?_
  refine WQ.then_normal (hK1 _ _ _ ?_)
  refine WP.seq (fun K2 hK2 => ?_)
  refine WP.region ?_
  refine WL.runk 1 [0, 6] [(0, .pointer (some ⟨b0', 0, none⟩)), (6, .pointer (some ⟨b0', 0, none⟩))] (by kernel_rfl) ?_
  obtain ⟨x3, hx4, hm⟩ := bindE hm
  refine WL.call 89 #[.pointer (some ⟨b0', 0, none⟩)] rfl rfl (by kernel_rfl) (c_89 n s_0_code a0_code' c0_code' s_0_at_ s_0_seed b0' w w0 B (L) hx4 (Below.trans hE0 (Below.mono (Below.refl _ _) hW)) hW hL h0_code hle0_code hS) ?_
  rintro _ w8 ⟨a5, c6, rfl, hB12, hS11⟩
  refine ⟨_, rfl, ?_⟩
  have hb13 : Below B w w8 := Below.trans (Below.refl _ _) hB12
  have hL14 : B ≤ w8.heap.size := Nat.le_trans hL hB12.size
  refine WL.runk 1 [0, 3] [(0, .pointer (some ⟨b0', 0, none⟩)), (3, .slice a5 x3.1.length c6)] (by kernel_rfl) ?_
  refine WL.nil ?_
  refine WQ.then_normal (hK2 _ _ _ ?_)
  refine WP.seq (fun K15 hK15 => ?_)
  refine WP.seq (fun K16 hK16 => ?_)
  refine WP.region ?_
  refine WL.runk 1 [0, 3, 8] [(0, .pointer (some ⟨b0', 0, none⟩)), (3, .slice a5 x3.1.length c6), (8, .pointer (some ⟨b0', 0, none⟩))] (by kernel_rfl) ?_
  obtain ⟨x17, hx18, hm⟩ := bindE hm
  refine WL.call 77 #[.pointer (some ⟨b0', 0, none⟩), .int .i64 24] rfl rfl (by kernel_rfl) (c_77 n s_0_code a0_code' c0_code' x3.2.1 x3.2.2 b0' 24 w8 w0 B (aOwn fGood 56 a5 c6 x3.1 :: L) hx18 (Below.trans hE0 (Below.mono hb13 hW)) hW hL14 h0_code hle0_code (SH.front 1 hS11)) ?_
  rintro _ w19 ⟨rfl, hB23, hS22⟩
  refine ⟨_, rfl, ?_⟩
  have hb24 : Below B w w19 := Below.trans hb13 hB23
  have hL25 : B ≤ w19.heap.size := Nat.le_trans hL14 hB23.size
  refine WL.sub [(0, .pointer (some ⟨b0', 0, none⟩)), (3, .slice a5 x3.1.length c6), (9, .bool x17.1)] ⟨rfl, rfl, rfl, trivial⟩ ?_
  refine WL.nil ?_
  refine WQ.then_normal (hK16 _ _ _ ?_)
  obtain ⟨x254, hx255, hm⟩ := bindE hm
  refine WP.cut (fun env' w' => ∃ (a256 : Option Addr) (c257 : Nat), env' = [(0, .pointer (some ⟨b0', 0, none⟩)), (3, .slice a256 x254.1.length c257)] ∧ Below B w w' ∧ B ≤ w'.heap.size ∧ SH w' B (aOwn fGood 56 a256 c257 x254.1 :: aBox 105 b0' [.slice a0_code' s_0_code.length c0_code', .int .i64 x254.2.1, .int .u64 x254.2.2] :: L)) ?_ ?_
  rotate_left
  · clear hx255
    rintro _ w333 ⟨a256, c257, rfl, hb334, hL335, hS336⟩
    refine WQ.then_normal (hK15 _ _ _ ?_)
    refine WP.seq (fun K337 hK337 => ?_)
    refine WP.seq (fun K338 hK338 => ?_)
    obtain ⟨x371, hx372, hm⟩ := bindE hm
    refine WP.cut (fun env' w' => env' = [(0, .pointer (some ⟨b0', 0, none⟩)), (3, .slice a256 x254.1.length c257), (41, .bool x371.1)] ∧ Below B w w' ∧ B ≤ w'.heap.size ∧ SH w' B (aOwn fGood 56 a256 c257 x254.1 :: aBox 105 b0' [.slice a0_code' s_0_code.length c0_code', .int .i64 x371.2.1, .int .u64 x371.2.2] :: L)) ?_ ?_
    · have hm := hx372; clear hx372
      refine WP.region ?_
      refine WL.runk 4 [0, 3, 38] [(0, .pointer (some ⟨b0', 0, none⟩)), (3, .slice a256 x254.1.length c257), (38, .bool (decide ((x254.1.length : Int) > 0)))] (by kernel_rfl) ?_
      refine WL.case (decide ((x254.1.length : Int) > 0)) [38] ⟨rfl, trivial⟩ (fun hc373 => ?_) (fun hc373 => ?_)
      rotate_left
      · have hm := iteF hm hc373
        refine WL.runk 3 [0, 3, 41] [(0, .pointer (some ⟨b0', 0, none⟩)), (3, .slice a256 x254.1.length c257), (41, .bool false)] (by kernel_rfl) ?_
        refine WL.nil ?_
        obtain rfl := Option.some.inj hm
        exact WQ.post' ⟨rfl, hb334, hL335, hS336⟩ ⟨rfl, rfl, rfl, trivial⟩
      have hm := iteT hm hc373
      refine WL.runk 1 [0, 3, 38, 39] [(0, .pointer (some ⟨b0', 0, none⟩)), (3, .slice a256 x254.1.length c257), (38, .bool true), (39, .pointer (some ⟨b0', 0, none⟩))] (by kernel_rfl) ?_
      obtain ⟨x374, hx375, hm⟩ := bindE hm
      refine WL.call 77 #[.pointer (some ⟨b0', 0, none⟩), .int .i64 10] rfl rfl (by kernel_rfl) (c_77 n s_0_code a0_code' c0_code' x254.2.1 x254.2.2 b0' 10 w333 w0 B (aOwn fGood 56 a256 c257 x254.1 :: L) hx375 (Below.trans hE0 (Below.mono hb334 hW)) hW hL335 h0_code hle0_code (SH.front 1 hS336)) ?_
      rintro _ w376 ⟨rfl, hB380, hS379⟩
      refine ⟨_, rfl, ?_⟩
      have hb381 : Below B w w376 := Below.trans hb334 hB380
      have hL382 : B ≤ w376.heap.size := Nat.le_trans hL335 hB380.size
      refine WL.runk 1 [0, 3, 41] [(0, .pointer (some ⟨b0', 0, none⟩)), (3, .slice a256 x254.1.length c257), (41, .bool x374.1)] (by kernel_rfl) ?_
      refine WL.nil ?_
      obtain rfl := Option.some.inj hm
      exact WQ.post' ⟨rfl, hb381, hL382, (SH.front 1 hS379)⟩ ⟨rfl, rfl, rfl, trivial⟩
    clear hx372
    rintro _ w383 ⟨rfl, hb384, hL385, hS386⟩
    refine WQ.then_normal (hK338 _ _ _ ?_)
    obtain ⟨x453, hx454, hm⟩ := bindE hm
    refine WP.cut (fun env' w' => env' = [(3, .slice a256 x453.1.length c257)] ∧ Below B w w' ∧ B ≤ w'.heap.size ∧ SH w' B (aOwn fGood 56 a256 c257 x453.1 :: aBox 105 b0' [.slice a0_code' s_0_code.length c0_code', .int .i64 x453.2.1, .int .u64 x453.2.2] :: L)) ?_ ?_
    rotate_left
    · clear hx454
      rintro _ w476 ⟨rfl, hb477, hL478, hS479⟩
      refine WQ.then_normal (hK337 _ _ _ ?_)
      refine WP.seq (fun K480 hK480 => ?_)
      refine WP.region ?_
      refine WL.runk 2 [2] [(2, .slice a256 x453.1.length c257)] (by kernel_rfl) ?_
      refine WL.nil ?_
      refine WQ.then_normal (hK480 _ _ _ ?_)
      refine WP.ret ?_
      obtain rfl := Option.some.inj hm
      exact WQ.ret1 _ rfl rfl ⟨_, _, rfl, hb477, hS479⟩
    have hm := hx454; clear hx454
    refine WP.cond x371.1 rfl rfl (fun hc387 => ?_) (fun hc387 => ?_)
    rotate_left
    · have hm := iteF hm hc387
      refine WP.skip ?_
      obtain rfl := Option.some.inj hm
      exact WQ.post' ⟨rfl, hb384, hL385, hS386⟩ ⟨rfl, trivial⟩
    have hm := iteT hm hc387
    refine WP.region ?_
    refine WL.runk 5 [3, 42, 43, 44, 46] [(3, .slice a256 x254.1.length c257), (42, .pointer (some ⟨b0', 0, none⟩)), (43, .slice a256 x254.1.length c257), (44, .pointer (some ⟨b0', 0, none⟩)), (46, .int .i64 (x254.1.length : Int))] (by kernel_rfl) ?_
    obtain ⟨x455, hx456, hm⟩ := bindE hm
    refine WL.call 75 #[.pointer (some ⟨b0', 0, none⟩), .int .i64 (x254.1.length : Int)] rfl rfl (by kernel_rfl) (c_75 n s_0_code a0_code' c0_code' x371.2.1 x371.2.2 b0' (x254.1.length : Int) w383 w0 B (aOwn fGood 56 a256 c257 x254.1 :: L) hx456 (Below.trans hE0 (Below.mono hb384 hW)) hW hL385 h0_code hle0_code (SH.front 1 hS386)) ?_
    rintro _ w457 ⟨rfl, hB461, hS460⟩
    refine ⟨_, rfl, ?_⟩
    have hb462 : Below B w w457 := Below.trans hb384 hB461
    have hL463 : B ≤ w457.heap.size := Nat.le_trans hL385 hB461.size
    obtain ⟨x464, hx465, hm⟩ := bindE hm
    refine WL.st (.pointer (some (at_ a256 (Int.toNat x455.1 * 4)))) (ST.index (T := fGood.ty) (xs := x254.1) (SH.rd (SH.front 1 hS460)) hx465 rfl rfl rfl Try.underlying25 (info56).1 (info56).2.1) rfl rfl rfl ?_
    obtain ⟨x466, hx467, hm⟩ := bindE hm
    refine WL.call 90 #[.pointer (some ⟨b0', 0, none⟩), .pointer (some (at_ a256 (Int.toNat x455.1 * 4)))] rfl rfl (by kernel_rfl) (c_90_o1 n s_0_code a0_code' c0_code' x455.2.1 x455.2.2 b0' x254.1 a256 c257 x455.1 x464 hx465 w457 w0 B (L) hx467 (Below.trans hE0 (Below.mono hb462 hW)) hW hL463 h0_code hle0_code hS460) ?_
    rintro _ w468 ⟨rfl, hB472, hS471, hlen473⟩
    refine ⟨_, rfl, ?_⟩
    have hb474 : Below B w w468 := Below.trans hb462 hB472
    have hL475 : B ≤ w468.heap.size := Nat.le_trans hL463 hB472.size
    refine WL.sub [(3, .slice a256 x466.1.length c257), (42, .pointer (some ⟨b0', 0, none⟩)), (43, .slice a256 x466.1.length c257), (44, .pointer (some ⟨b0', 0, none⟩)), (46, .int .i64 (x254.1.length : Int)), (47, .int .i64 x455.1), (49, .tuple #[])] ⟨by rw [hlen473]; rfl, rfl, by rw [hlen473]; rfl, rfl, rfl, rfl, rfl, trivial⟩ ?_
    refine WL.sub [(3, .slice a256 x466.1.length c257)] ⟨rfl, trivial⟩ ?_
    refine WL.nil ?_
    obtain rfl := Option.some.inj hm
    exact WQ.post' ⟨rfl, hb474, hL475, (SH.front 1 hS471)⟩ ⟨rfl, trivial⟩
  have hm := hx255; clear hx255
  refine WP.cond x17.1 rfl rfl (fun hc26 => ?_) (fun hc26 => ?_)
  rotate_left
  · have hm := iteF hm hc26
    refine WP.skip ?_
    obtain rfl := Option.some.inj hm
    exact WQ.post' ⟨_, _, rfl, hb24, hL25, (SH.front 1 hS22)⟩ ⟨rfl, rfl, trivial⟩
  have hm := iteT hm hc26
  refine WP.seq (fun K259 hK259 => ?_)
  refine WP.region ?_
  refine WL.row fGood 56 ([] : List SGood) 0 #[] 10 (by kernel_rfl) rfl rfl rfl rfl rfl rfl rfl ?_
  intro a260 c261 w262 hE263 hR264
  have hb266 : Below B w w262 := Below.trans hb24 (Below.mono hE263 hL25)
  have hL267 : B ≤ w262.heap.size := Nat.le_trans hL25 hE263.size
  have hS268 : SH w262 B (aOwn fGood 56 a260 c261 ([] : List SGood) :: aBox 105 b0' [.slice a0_code' s_0_code.length c0_code', .int .i64 x17.2.1, .int .u64 x17.2.2] :: aOwn fGood 56 a5 c6 x3.1 :: L) := SH.add hS22 hE263 hL25 hR264
  refine WL.runk 1 [0, 3] [(0, .pointer (some ⟨b0', 0, none⟩)), (3, .slice a260 (([] : List SGood).length) c261)] (by kernel_rfl) ?_
  refine WL.nil ?_
  refine WQ.then_normal (hK259 _ _ _ ?_)
  refine WP.seq (fun K269 hK269 => ?_)
  refine WP.region ?_
  refine WL.runk 1 [0, 3, 11] [(0, .pointer (some ⟨b0', 0, none⟩)), (3, .slice a260 (([] : List SGood).length) c261), (11, .pointer (some ⟨b0', 0, none⟩))] (by kernel_rfl) ?_
  obtain ⟨x270, hx271, hm⟩ := bindE hm
  refine WL.call 75 #[.pointer (some ⟨b0', 0, none⟩), .int .i64 2] rfl rfl (by kernel_rfl) (c_75 n s_0_code a0_code' c0_code' x17.2.1 x17.2.2 b0' 2 w262 w0 B (aOwn fGood 56 a260 c261 ([] : List SGood) :: aOwn fGood 56 a5 c6 x3.1 :: L) hx271 (Below.trans hE0 (Below.mono hb266 hW)) hW hL267 h0_code hle0_code (SH.front 2 (SH.front 1 (SH.front 2 hS268)))) ?_
  rintro _ w272 ⟨rfl, hB276, hS275⟩
  refine ⟨_, rfl, ?_⟩
  have hb277 : Below B w w272 := Below.trans hb266 hB276
  have hL278 : B ≤ w272.heap.size := Nat.le_trans hL267 hB276.size
  refine WL.runk 2 [0, 3, 4] [(0, .pointer (some ⟨b0', 0, none⟩)), (3, .slice a260 (([] : List SGood).length) c261), (4, .int .i64 (wI64 (40 + x270.1)))] (by kernel_rfl) ?_
  refine WL.nil ?_
  refine WQ.then_normal (hK269 _ _ _ ?_)
  refine WP.block ?_
  obtain ⟨t293, ht294, hm⟩ := bindE hm
  have hmo288 := hm; clear hm
  refine WP.sub [(0, .pointer (some ⟨b0', 0, none⟩)), (3, .slice a260 (([] : List SGood).length) c261), (4, .int .i64 (wI64 (40 + x270.1)))] ⟨rfl, rfl, rfl, trivial⟩ ?_
  refine WP.loop (fun n' env' w' => ∃ (st279 : List SGood × Int) (a280 : Option Addr) (c281 : Nat), env' = [(0, .pointer (some ⟨b0', 0, none⟩)), (3, .slice a280 st279.1.length c281), (4, .int .i64 st279.2)] ∧ Below B w w' ∧ B ≤ w'.heap.size ∧ SH w' B (aOwn fGood 56 a280 c281 st279.1 :: aBox 105 b0' [.slice a0_code' s_0_code.length c0_code', .int .i64 x270.2.1, .int .u64 x270.2.2] :: L) ∧ loopN (m_spec_l23Bent_l4 n) n' st279 = some t293) n ⟨(([] : List SGood), (wI64 (40 + x270.1))), _, _, rfl, hb277, hL278, (SH.cutOut 2 1 (SH.front 1 hS275)), ht294⟩ ?_
  rintro n290 _ w283 ⟨st279, a280, c281, rfl, hb284, hL285, hS286, hl287⟩ K289 hK289
  obtain ⟨n291, s292, rfl, hm, hl287⟩ := loopN_some hl287
  unfold m_spec_l23Bent_l4 at hm
  refine WP.seq (fun K295 hK295 => ?_)
  refine WP.seq (fun K296 hK296 => ?_)
  refine WP.region ?_
  refine WL.runk 2 [0, 3, 4, 15] [(0, .pointer (some ⟨b0', 0, none⟩)), (3, .slice a280 st279.1.length c281), (4, .int .i64 st279.2), (15, .bool (decide (st279.2 > 0)))] (by kernel_rfl) ?_
  refine WL.nil ?_
  refine WQ.then_normal (hK296 _ _ _ ?_)
  refine WP.cond (decide (st279.2 > 0)) rfl rfl (fun hc297 => ?_) (fun hc297 => ?_)
  rotate_left
  · have hm := iteF hm hc297
    refine WP.exit ?_
    refine WQ.then_exit ?_
    refine WQ.then_exit ?_
    refine WQ.block_here ?_
    obtain rfl := Option.some.inj hm
    obtain rfl := afterN_done hl287
    have hm := hmo288
    obtain rfl := Option.some.inj hm
    exact WQ.post' ⟨_, _, rfl, hb284, hL285, hS286⟩ ⟨rfl, rfl, trivial⟩
  have hm := iteT hm hc297
  refine WP.skip ?_
  refine WQ.then_normal (hK295 _ _ _ ?_)
  refine WP.seq (fun K298 hK298 => ?_)
  refine WP.block ?_
  refine WP.seq (fun K299 hK299 => ?_)
  refine WP.region ?_
  refine WL.runk 3 [0, 3, 4, 5] [(0, .pointer (some ⟨b0', 0, none⟩)), (3, .slice a280 st279.1.length c281), (4, .int .i64 st279.2), (5, .int .i64 (st279.1.length : Int))] (by kernel_rfl) ?_
  refine WL.nil ?_
  refine WQ.then_normal (hK299 _ _ _ ?_)
  refine WP.region ?_
  refine WL.runk 9 [0, 4, 20, 24, 28] [(0, .pointer (some ⟨b0', 0, none⟩)), (4, .int .i64 st279.2), (20, .slice a280 st279.1.length c281), (24, .int .u8 (IntKind.u8.wrap (wI64 (97 + (wI64 (Int.tdiv (st279.1.length : Int) 26)))))), (28, .int .u8 (IntKind.u8.wrap (wI64 (97 + (Int.tmod (st279.1.length : Int) 26)))))] (by kernel_rfl) ?_
  refine WL.row fU8 5 ([(IntKind.u8.wrap (wI64 (97 + (wI64 (Int.tdiv (st279.1.length : Int) 26))))), (IntKind.u8.wrap (wI64 (97 + (Int.tmod (st279.1.length : Int) 26))))] : List Int) 2 #[.int .u8 (IntKind.u8.wrap (wI64 (97 + (wI64 (Int.tdiv (st279.1.length : Int) 26))))), .int .u8 (IntKind.u8.wrap (wI64 (97 + (Int.tmod (st279.1.length : Int) 26))))] 29 (by kernel_rfl) rfl rfl rfl rfl rfl rfl rfl ?_
  intro a300 c301 w302 hE303 hR304
  have hb306 : Below B w w302 := Below.trans hb284 (Below.mono hE303 hL285)
  have hL307 : B ≤ w302.heap.size := Nat.le_trans hL285 hE303.size
  have hS308 : SH w302 B (aOwn fU8 5 a300 c301 ([(IntKind.u8.wrap (wI64 (97 + (wI64 (Int.tdiv (st279.1.length : Int) 26))))), (IntKind.u8.wrap (wI64 (97 + (Int.tmod (st279.1.length : Int) 26))))] : List Int) :: aOwn fGood 56 a280 c281 st279.1 :: aBox 105 b0' [.slice a0_code' s_0_code.length c0_code', .int .i64 x270.2.1, .int .u64 x270.2.2] :: L) := SH.add hS286 hE303 hL285 hR304
  refine WL.st (.string (bs (ofBytes ([(IntKind.u8.wrap (wI64 (97 + (wI64 (Int.tdiv (st279.1.length : Int) 26))))), (IntKind.u8.wrap (wI64 (97 + (Int.tmod (st279.1.length : Int) 26))))] : List Int)))) (ST.b2s (SH.rd (SH.front 0 hS308)) (SH.le (SH.front 0 hS308)).2 rfl rfl Try.underlying61 Try.underlying9 Try.underlying5) rfl rfl rfl ?_
  obtain ⟨x309, hx310, hm⟩ := bindE hm
  refine WL.st (.string (bs x309)) (ST.cat hx310 rfl rfl rfl) rfl rfl rfl ?_
  refine WL.runk 1 [0, 4, 20, 32] [(0, .pointer (some ⟨b0', 0, none⟩)), (4, .int .i64 st279.2), (20, .slice a280 st279.1.length c281), (32, .agg #[.string (bs x309), .int .i64 9, .int .i64 0, .int .i64 0])] (by kernel_rfl) ?_
  refine WL.row fGood 56 ([(SGood.mk x309 9 0 0)] : List SGood) 1 #[.string (bs x309), .int .i64 9, .int .i64 0, .int .i64 0] 33 (by kernel_rfl) rfl rfl rfl rfl rfl rfl rfl ?_
  intro a311 c312 w313 hE314 hR315
  have hb317 : Below B w w313 := Below.trans hb306 (Below.mono hE314 hL307)
  have hL318 : B ≤ w313.heap.size := Nat.le_trans hL307 hE314.size
  have hS319 : SH w313 B (aOwn fGood 56 a311 c312 ([(SGood.mk x309 9 0 0)] : List SGood) :: aOwn fU8 5 a300 c301 ([(IntKind.u8.wrap (wI64 (97 + (wI64 (Int.tdiv (st279.1.length : Int) 26))))), (IntKind.u8.wrap (wI64 (97 + (Int.tmod (st279.1.length : Int) 26))))] : List Int) :: aOwn fGood 56 a280 c281 st279.1 :: aBox 105 b0' [.slice a0_code' s_0_code.length c0_code', .int .i64 x270.2.1, .int .u64 x270.2.2] :: L) := SH.add hS308 hE314 hL307 hR315
  obtain ⟨x320, hx321, hm⟩ := bindE hm
  refine WL.append (F := fGood) (xs := st279.1) (ys := ([(SGood.mk x309 9 0 0)] : List SGood)) 34 (SH.front 2 hS319) hL318 (SH.rd (SH.front 0 hS319)) hx321 rfl rfl rfl Try.underlying25 (info56).1 (info56).2.2.1 (info56).2.1 (info56).2.2.2 rfl rfl rfl rfl rfl ?_
  intro a322 c323 w324 hB325 hS326
  have hb327 : Below B w w324 := Below.trans hb317 hB325
  have hL328 : B ≤ w324.heap.size := Nat.le_trans hL318 hB325.size
  refine WL.runk 1 [0, 3, 4] [(0, .pointer (some ⟨b0', 0, none⟩)), (4, .int .i64 st279.2), (3, .slice a322 x320.length c323)] (by kernel_rfl) ?_
  refine WL.nil ?_
  refine WQ.block_normal ?_
  refine WQ.then_normal (hK298 _ _ _ ?_)
  refine WP.region ?_
  refine WL.runk 3 [0, 3, 4] [(0, .pointer (some ⟨b0', 0, none⟩)), (4, .int .i64 (wI64 (st279.2 - 1))), (3, .slice a322 x320.length c323)] (by kernel_rfl) ?_
  refine WL.nil ?_
  obtain rfl := Option.some.inj hm
  exact WQ.round hK289 ⟨(x320, (wI64 (st279.2 - 1))), _, _, rfl, hb327, hL328, (SH.cutOut 2 2 (SH.front 1 (SH.front 3 hS326))), hl287⟩ (Nat.lt_succ_self _) ⟨rfl, rfl, rfl, trivial⟩

theorem c_74 (n : Nat) (code_0 : List Int) (a0' : Option Addr) (c0' : Nat) (w : World) {r : (Int × Int)} (hm : m_spec_l00From n code_0 = some r) (_h0 : Rd fU8.ty w a0' code_0) (_hle0 : code_0.length ≤ c0') :
    CallV Try.prog 74 #[.slice a0' code_0.length c0'] w (fun v w' => ∃ (rb0 : Nat), v = .pointer (some ⟨rb0, 0, none⟩) ∧ Ext w w' ∧ SH w' w.heap.size [aBox 105 rb0 [.slice a0' code_0.length c0', .int .i64 r.1, .int .u64 r.2]]) := by
  unfold m_spec_l00From at hm
  refine CallV.enter Try.func74 rfl (by kernel_rfl) Try.ntmps74 (env := [(0, .slice a0' code_0.length c0')]) ⟨rfl, trivial⟩ ?_
  refine WP.seq (fun K1 hK1 => ?_)
  refine WP.region ?_
  refine WL.runk 1 [0] [(0, .slice a0' code_0.length c0')] (by kernel_rfl) ?_
  refine WL.nil ?_
  refine WQ.then_normal (hK1 _ _ _ ?_)
  refine WP.seq (fun K2 hK2 => ?_)
  refine WP.region ?_
  refine WL.runk 2 [4] [(4, .agg #[.slice a0' code_0.length c0', .int .i64 0, .int .u64 0])] (by kernel_rfl) ?_
  refine WL.box 105 [.slice a0' code_0.length c0', .int .i64 0, .int .u64 0] 5 (by kernel_rfl) rfl rfl rfl rfl ?_
  intro b3 w4 hE5 hR6
  have hb8 : Ext w w4 := Ext.trans (Ext.refl w) hE5
  have hL9 : w.heap.size ≤ w4.heap.size := Nat.le_trans (Nat.le_refl _) hE5.size
  have hS10 : SH w4 w.heap.size [aBox 105 b3 [.slice a0' code_0.length c0', .int .i64 0, .int .u64 0]] := SH.add (SH.nil _ _) hE5 (Nat.le_refl _) hR6
  refine WL.runk 1 [2] [(2, .pointer (some ⟨b3, 0, none⟩))] (by kernel_rfl) ?_
  refine WL.nil ?_
  refine WQ.then_normal (hK2 _ _ _ ?_)
  refine WP.ret ?_
  obtain rfl := Option.some.inj hm
  exact WQ.ret1 _ rfl rfl ⟨_, rfl, hb8, hS10⟩

theorem c_76_o1 (n : Nat) (s_0_code : List Int) (a0_code' : Option Addr) (c0_code' : Nat) (s_0_at_ : Int) (s_0_seed : Int) (b0' : Nat) (list_1 : List SGood) (a1' : Option Addr) (c1' : Nat) (w : World) (w0 : World) (B : Nat) (L : List Asrt) {r : List UInt8 × Int × Int} (hm : m_spec_l23Name_o1 n s_0_code s_0_at_ s_0_seed list_1 = some r) (hE0 : Ext w0 w) (hW : w0.heap.size ≤ B) (hL : B ≤ w.heap.size) (h0_code : Rd fU8.ty w0 a0_code' s_0_code) (hle0_code : s_0_code.length ≤ c0_code') (hS : SH w B (aBox 105 b0' [.slice a0_code' s_0_code.length c0_code', .int .i64 s_0_at_, .int .u64 s_0_seed] :: aOwn fGood 56 a1' c1' list_1 :: L)) :
    CallV Try.prog 76 #[.pointer (some ⟨b0', 0, none⟩), .slice a1' list_1.length c1'] w (fun v w' => v = .string (bs r.1) ∧ Below B w w' ∧ SH w' B (aBox 105 b0' [.slice a0_code' s_0_code.length c0_code', .int .i64 r.2.1, .int .u64 r.2.2] :: aOwn fGood 56 a1' c1' list_1 :: L)) := by
  unfold m_spec_l23Name_o1 at hm
  refine CallV.enter Try.func76 rfl (by kernel_rfl) Try.ntmps76 (env := [(0, .pointer (some ⟨b0', 0, none⟩)), (1, .slice a1' list_1.length c1')]) ⟨rfl, rfl, trivial⟩ ?_
  refine WP.seq (fun K1 hK1 => ?_)
  refine WP.region ?_
  refine WL.runk 1 [0, 1] [(0, .pointer (some ⟨b0', 0, none⟩)), (1, .slice a1' list_1.length c1')] (by kernel_rfl) ?_
  refine WL.nil ?_
  refine WQ.then_normal (hK1 _ _ _ ?_)
  refine WP.seq (fun K2 hK2 => ?_)
  refine WP.seq (fun K3 hK3 => ?_)
  obtain ⟨x36, hx37, hm⟩ := bindE hm
  refine WP.cut (fun env' w' => env' = [(0, .pointer (some ⟨b0', 0, none⟩)), (1, .slice a1' list_1.length c1'), (12, .bool x36.1)] ∧ Below B w w' ∧ B ≤ w'.heap.size ∧ SH w' B (aBox 105 b0' [.slice a0_code' s_0_code.length c0_code', .int .i64 x36.2.1, .int .u64 x36.2.2] :: aOwn fGood 56 a1' c1' list_1 :: L)) ?_ ?_
  · have hm := hx37; clear hx37
    refine WP.region ?_
    refine WL.runk 4 [0, 1, 8] [(0, .pointer (some ⟨b0', 0, none⟩)), (1, .slice a1' list_1.length c1'), (8, .bool (decide ((list_1.length : Int) > 0)))] (by kernel_rfl) ?_
    refine WL.case (decide ((list_1.length : Int) > 0)) [8] ⟨rfl, trivial⟩ (fun hc38 => ?_) (fun hc38 => ?_)
    rotate_left
    · have hm := iteF hm hc38
      refine WL.runk 4 [0, 1, 12] [(0, .pointer (some ⟨b0', 0, none⟩)), (1, .slice a1' list_1.length c1'), (12, .bool false)] (by kernel_rfl) ?_
      refine WL.nil ?_
      obtain rfl := Option.some.inj hm
      exact WQ.post' ⟨rfl, (Below.refl _ _), hL, hS⟩ ⟨rfl, rfl, rfl, trivial⟩
    have hm := iteT hm hc38
    refine WL.runk 1 [0, 1, 8, 9] [(0, .pointer (some ⟨b0', 0, none⟩)), (1, .slice a1' list_1.length c1'), (8, .bool true), (9, .pointer (some ⟨b0', 0, none⟩))] (by kernel_rfl) ?_
    obtain ⟨x39, hx40, hm⟩ := bindE hm
    refine WL.call 77 #[.pointer (some ⟨b0', 0, none⟩), .int .i64 6] rfl rfl (by kernel_rfl) (c_77 n s_0_code a0_code' c0_code' s_0_at_ s_0_seed b0' 6 w w0 B (aOwn fGood 56 a1' c1' list_1 :: L) hx40 (Below.trans hE0 (Below.mono (Below.refl _ _) hW)) hW hL h0_code hle0_code hS) ?_
    rintro _ w41 ⟨rfl, hB45, hS44⟩
    refine ⟨_, rfl, ?_⟩
    have hb46 : Below B w w41 := Below.trans (Below.refl _ _) hB45
    have hL47 : B ≤ w41.heap.size := Nat.le_trans hL hB45.size
    refine WL.runk 2 [0, 1, 12] [(0, .pointer (some ⟨b0', 0, none⟩)), (1, .slice a1' list_1.length c1'), (12, .bool (!x39.1))] (by kernel_rfl) ?_
    refine WL.nil ?_
    obtain rfl := Option.some.inj hm
    exact WQ.post' ⟨rfl, hb46, hL47, hS44⟩ ⟨rfl, rfl, rfl, trivial⟩
  clear hx37
  rintro _ w48 ⟨rfl, hb49, hL50, hS51⟩
  refine WQ.then_normal (hK3 _ _ _ ?_)
  refine WP.cond x36.1 rfl rfl (fun hc52 => ?_) (fun hc52 => ?_)
  · have hm := iteT hm hc52
    refine WP.seq (fun K53 hK53 => ?_)
    refine WP.region ?_
    refine WL.runk 4 [13, 14, 16] [(13, .slice a1' list_1.length c1'), (14, .pointer (some ⟨b0', 0, none⟩)), (16, .int .i64 (list_1.length : Int))] (by kernel_rfl) ?_
    obtain ⟨x54, hx55, hm⟩ := bindE hm
    refine WL.call 75 #[.pointer (some ⟨b0', 0, none⟩), .int .i64 (list_1.length : Int)] rfl rfl (by kernel_rfl) (c_75 n s_0_code a0_code' c0_code' x36.2.1 x36.2.2 b0' (list_1.length : Int) w48 w0 B (aOwn fGood 56 a1' c1' list_1 :: L) hx55 (Below.trans hE0 (Below.mono hb49 hW)) hW hL50 h0_code hle0_code hS51) ?_
    rintro _ w56 ⟨rfl, hB60, hS59⟩
    refine ⟨_, rfl, ?_⟩
    have hb61 : Below B w w56 := Below.trans hb49 hB60
    have hL62 : B ≤ w56.heap.size := Nat.le_trans hL50 hB60.size
    obtain ⟨x63, hx64, hm⟩ := bindE hm
    refine WL.st (.pointer (some (at_ a1' (Int.toNat x54.1 * 4)))) (ST.index (T := fGood.ty) (xs := list_1) (SH.rd (SH.front 1 hS59)) hx64 rfl rfl rfl Try.underlying25 (info56).1 (info56).2.1) rfl rfl rfl ?_
    refine WL.runk 1 [19] [(19, .pointer (some (at_ a1' (Int.toNat x54.1 * 4))))] (by kernel_rfl) ?_
    refine WL.st (.string (bs x63.Name)) (ST.load (cell_ext (Rd.flat (F := fGood) (SH.rd (SH.front 1 hS59)) hx64 0 rfl)) rfl rfl Try.underlying9 rfl) rfl rfl rfl ?_
    refine WL.runk 1 [4] [(4, .string (bs x63.Name))] (by kernel_rfl) ?_
    refine WL.nil ?_
    refine WQ.then_normal (hK53 _ _ _ ?_)
    refine WP.ret ?_
    refine WQ.then_ret ?_
    obtain rfl := Option.some.inj hm
    exact WQ.ret1 _ rfl rfl ⟨rfl, hb61, hS59⟩
  have hm := iteF hm hc52
  refine WP.skip ?_
  refine WQ.then_normal (hK2 _ _ _ ?_)
  refine WP.seq (fun K65 hK65 => ?_)
  refine WP.region ?_
  refine WL.runk 1 [21] [(21, .pointer (some ⟨b0', 0, none⟩))] (by kernel_rfl) ?_
  obtain ⟨x66, hx67, hm⟩ := bindE hm
  refine WL.call 93 #[] rfl rfl (by kernel_rfl) (c_93 n  w48 hx67 ) ?_
  rintro _ w71 ⟨a68, c69, rfl, hE72, hR73⟩
  refine ⟨_, rfl, ?_⟩
  have hb74 : Below B w w71 := Below.trans hb49 (Below.mono hE72 hL50)
  have hL75 : B ≤ w71.heap.size := Nat.le_trans hL50 hE72.size
  have hS76 : SH w71 B (aOwn fStr 9 a68 c69 x66 :: aBox 105 b0' [.slice a0_code' s_0_code.length c0_code', .int .i64 x36.2.1, .int .u64 x36.2.2] :: aOwn fGood 56 a1' c1' list_1 :: L) := SH.add hS51 hE72 hL50 hR73
  obtain ⟨x77, hx78, hm⟩ := bindE hm
  refine WL.call 92 #[.pointer (some ⟨b0', 0, none⟩), .slice a68 x66.length c69] rfl rfl (by kernel_rfl) (c_92_o1 n s_0_code a0_code' c0_code' x36.2.1 x36.2.2 b0' x66 a68 c69 w71 w0 B (aOwn fGood 56 a1' c1' list_1 :: L) hx78 (Below.trans hE0 (Below.mono hb74 hW)) hW hL75 h0_code hle0_code (SH.front 2 (SH.front 1 (SH.front 2 hS76)))) ?_
  rintro _ w79 ⟨rfl, hB83, hS82⟩
  refine ⟨_, rfl, ?_⟩
  have hb84 : Below B w w79 := Below.trans hb74 hB83
  have hL85 : B ≤ w79.heap.size := Nat.le_trans hL75 hB83.size
  refine WL.runk 1 [4] [(4, .string (bs x77.1))] (by kernel_rfl) ?_
  refine WL.nil ?_
  refine WQ.then_normal (hK65 _ _ _ ?_)
  refine WP.ret ?_
  obtain rfl := Option.some.inj hm
  exact WQ.ret1 _ rfl rfl ⟨rfl, hb84, (SH.cutOut 2 1 (SH.front 1 (SH.front 2 hS82)))⟩

theorem c_72 (n : Nat) (code_0 : List Int) (a0' : Option Addr) (c0' : Nat) (w : World) {r : List SGood × List UInt8 × Int} (hm : m_spec_l23Ask n code_0 = some r) (h0 : Rd fU8.ty w a0' code_0) (hle0 : code_0.length ≤ c0') :
    CallV Try.prog 72 #[.slice a0' code_0.length c0'] w (fun v w' => ∃ (ra0 : Option Addr) (rc0 : Nat), v = .tuple #[.slice ra0 r.1.length rc0, .string (bs r.2.1), .int .i64 r.2.2] ∧ Ext w w' ∧ SH w' w.heap.size [aOwn fGood 56 ra0 rc0 r.1]) := by
  unfold m_spec_l23Ask at hm
  refine CallV.enter Try.func72 rfl (by kernel_rfl) Try.ntmps72 (env := [(0, .slice a0' code_0.length c0')]) ⟨rfl, trivial⟩ ?_
  refine WP.seq (fun K1 hK1 => ?_)
  refine WP.region ?_
  refine WL.runk 3 [0] [(0, .slice a0' code_0.length c0')] (by kernel_rfl) ?_
  refine WL.nil ?_
  refine WQ.then_normal (hK1 _ _ _ ?_)
  refine WP.seq (fun K2 hK2 => ?_)
  refine WP.region ?_
  refine WL.runk 1 [8] [(8, .slice a0' code_0.length c0')] (by kernel_rfl) ?_
  obtain ⟨x3, hx4, hm⟩ := bindE hm
  refine WL.call 74 #[.slice a0' code_0.length c0'] rfl rfl (by kernel_rfl) (c_74 n code_0 a0' c0' w hx4 (Rd.below h0 (Ext.refl w)) hle0) ?_
  rintro _ w7 ⟨b5, rfl, hE8, hR9⟩
  refine ⟨_, rfl, ?_⟩
  have hb10 : Ext w w7 := Ext.trans (Ext.refl w) hE8
  have hL11 : w.heap.size ≤ w7.heap.size := Nat.le_trans (Nat.le_refl _) hE8.size
  have hS12 : SH w7 w.heap.size [aBox 105 b5 [.slice a0' code_0.length c0', .int .i64 x3.1, .int .u64 x3.2]] := SH.add (SH.nil _ _) hE8 (Nat.le_refl _) hR9
  refine WL.runk 1 [5] [(5, .pointer (some ⟨b5, 0, none⟩))] (by kernel_rfl) ?_
  refine WL.nil ?_
  refine WQ.then_normal (hK2 _ _ _ ?_)
  refine WP.seq (fun K13 hK13 => ?_)
  refine WP.region ?_
  refine WL.runk 1 [5, 10] [(5, .pointer (some ⟨b5, 0, none⟩)), (10, .pointer (some ⟨b5, 0, none⟩))] (by kernel_rfl) ?_
  obtain ⟨x14, hx15, hm⟩ := bindE hm
  refine WL.call 73 #[.pointer (some ⟨b5, 0, none⟩)] rfl rfl (by kernel_rfl) (c_73 n code_0 a0' c0' x3.1 x3.2 b5 w7 w w.heap.size [] hx15 hb10 (Nat.le_refl _) hL11 h0 hle0 hS12) ?_
  rintro _ w19 ⟨a16, c17, rfl, hB23, hS22⟩
  refine ⟨_, rfl, ?_⟩
  have hb24 : Ext w w19 := Below.trans hb10 hB23
  have hL25 : w.heap.size ≤ w19.heap.size := Nat.le_trans hL11 hB23.size
  refine WL.runk 1 [5, 6] [(5, .pointer (some ⟨b5, 0, none⟩)), (6, .slice a16 x14.1.length c17)] (by kernel_rfl) ?_
  refine WL.nil ?_
  refine WQ.then_normal (hK13 _ _ _ ?_)
  refine WP.seq (fun K26 hK26 => ?_)
  refine WP.region ?_
  refine WL.runk 2 [5, 6, 12, 13] [(5, .pointer (some ⟨b5, 0, none⟩)), (6, .slice a16 x14.1.length c17), (12, .pointer (some ⟨b5, 0, none⟩)), (13, .slice a16 x14.1.length c17)] (by kernel_rfl) ?_
  obtain ⟨x27, hx28, hm⟩ := bindE hm
  refine WL.call 76 #[.pointer (some ⟨b5, 0, none⟩), .slice a16 x14.1.length c17] rfl rfl (by kernel_rfl) (c_76_o1 n code_0 a0' c0' x14.2.1 x14.2.2 b5 x14.1 a16 c17 w19 w w.heap.size [] hx28 hb24 (Nat.le_refl _) hL25 h0 hle0 (SH.front 1 hS22)) ?_
  rintro _ w29 ⟨rfl, hB33, hS32⟩
  refine ⟨_, rfl, ?_⟩
  have hb34 : Ext w w29 := Below.trans hb24 hB33
  have hL35 : w.heap.size ≤ w29.heap.size := Nat.le_trans hL25 hB33.size
  refine WL.runk 1 [5, 6, 7] [(5, .pointer (some ⟨b5, 0, none⟩)), (6, .slice a16 x14.1.length c17), (7, .string (bs x27.1))] (by kernel_rfl) ?_
  refine WL.nil ?_
  refine WQ.then_normal (hK26 _ _ _ ?_)
  refine WP.seq (fun K36 hK36 => ?_)
  refine WP.seq (fun K37 hK37 => ?_)
  refine WP.region ?_
  refine WL.runk 1 [5, 6, 7, 15] [(5, .pointer (some ⟨b5, 0, none⟩)), (6, .slice a16 x14.1.length c17), (7, .string (bs x27.1)), (15, .pointer (some ⟨b5, 0, none⟩))] (by kernel_rfl) ?_
  obtain ⟨x38, hx39, hm⟩ := bindE hm
  refine WL.call 77 #[.pointer (some ⟨b5, 0, none⟩), .int .i64 8] rfl rfl (by kernel_rfl) (c_77 n code_0 a0' c0' x27.2.1 x27.2.2 b5 8 w29 w w.heap.size [aOwn fGood 56 a16 c17 x14.1] hx39 hb34 (Nat.le_refl _) hL35 h0 hle0 hS32) ?_
  rintro _ w40 ⟨rfl, hB44, hS43⟩
  refine ⟨_, rfl, ?_⟩
  have hb45 : Ext w w40 := Below.trans hb34 hB44
  have hL46 : w.heap.size ≤ w40.heap.size := Nat.le_trans hL35 hB44.size
  refine WL.sub [(5, .pointer (some ⟨b5, 0, none⟩)), (6, .slice a16 x14.1.length c17), (7, .string (bs x27.1)), (16, .bool x38.1)] ⟨rfl, rfl, rfl, rfl, trivial⟩ ?_
  refine WL.nil ?_
  refine WQ.then_normal (hK37 _ _ _ ?_)
  refine WP.cond x38.1 rfl rfl (fun hc47 => ?_) (fun hc47 => ?_)
  rotate_left
  · have hm := iteF hm hc47
    refine WP.skip ?_
    refine WQ.then_normal (hK36 _ _ _ ?_)
    refine WP.seq (fun K67 hK67 => ?_)
    refine WP.region ?_
    refine WL.runk 3 [22, 23, 24] [(22, .slice a16 x14.1.length c17), (23, .string (bs x27.1)), (24, .pointer (some ⟨b5, 0, none⟩))] (by kernel_rfl) ?_
    obtain ⟨x68, hx69, hm⟩ := bindE hm
    refine WL.call 75 #[.pointer (some ⟨b5, 0, none⟩), .int .i64 60] rfl rfl (by kernel_rfl) (c_75 n code_0 a0' c0' x38.2.1 x38.2.2 b5 60 w40 w w.heap.size [aOwn fGood 56 a16 c17 x14.1] hx69 hb45 (Nat.le_refl _) hL46 h0 hle0 hS43) ?_
    rintro _ w70 ⟨rfl, hB74, hS73⟩
    refine ⟨_, rfl, ?_⟩
    have hb75 : Ext w w70 := Below.trans hb45 hB74
    have hL76 : w.heap.size ≤ w70.heap.size := Nat.le_trans hL46 hB74.size
    refine WL.runk 4 [2, 3, 4] [(2, .slice a16 x14.1.length c17), (3, .string (bs x27.1)), (4, .int .i64 (wI64 (1 + x68.1)))] (by kernel_rfl) ?_
    refine WL.nil ?_
    refine WQ.then_normal (hK67 _ _ _ ?_)
    refine WP.ret ?_
    obtain rfl := Option.some.inj hm
    exact WQ.ret3 _ _ _ rfl rfl rfl rfl ⟨_, _, rfl, hb75, (SH.take 1 (SH.front 1 hS73))⟩
  have hm := iteT hm hc47
  refine WP.seq (fun K48 hK48 => ?_)
  refine WP.region ?_
  refine WL.runk 3 [17, 18, 19] [(17, .slice a16 x14.1.length c17), (18, .string (bs x27.1)), (19, .pointer (some ⟨b5, 0, none⟩))] (by kernel_rfl) ?_
  refine WL.row fInt 2 ([(-1), 0, 1, 1000000, 1000001] : List Int) 5 #[.int .i64 (-1), .int .i64 0, .int .i64 1, .int .i64 1000000, .int .i64 1000001] 20 (by kernel_rfl) rfl rfl rfl rfl rfl rfl rfl ?_
  intro a49 c50 w51 hE52 hR53
  have hb55 : Ext w w51 := Ext.trans hb45 hE52
  have hL56 : w.heap.size ≤ w51.heap.size := Nat.le_trans hL46 hE52.size
  have hS57 : SH w51 w.heap.size [aOwn fInt 2 a49 c50 ([(-1), 0, 1, 1000000, 1000001] : List Int), aBox 105 b5 [.slice a0' code_0.length c0', .int .i64 x38.2.1, .int .u64 x38.2.2], aOwn fGood 56 a16 c17 x14.1] := SH.add hS43 hE52 hL46 hR53
  obtain ⟨x58, hx59, hm⟩ := bindE hm
  refine WL.call 78 #[.pointer (some ⟨b5, 0, none⟩), .slice a49 (([(-1), 0, 1, 1000000, 1000001] : List Int).length) c50] rfl rfl (by kernel_rfl) (c_78_o1 n code_0 a0' c0' x38.2.1 x38.2.2 b5 ([(-1), 0, 1, 1000000, 1000001] : List Int) a49 c50 w51 w w.heap.size [aOwn fGood 56 a16 c17 x14.1] hx59 hb55 (Nat.le_refl _) hL56 h0 hle0 (SH.front 2 (SH.front 1 (SH.front 2 hS57)))) ?_
  rintro _ w60 ⟨rfl, hB64, hS63⟩
  refine ⟨_, rfl, ?_⟩
  have hb65 : Ext w w60 := Below.trans hb55 hB64
  have hL66 : w.heap.size ≤ w60.heap.size := Nat.le_trans hL56 hB64.size
  refine WL.runk 3 [2, 3, 4] [(2, .slice a16 x14.1.length c17), (3, .string (bs x27.1)), (4, .int .i64 x58.1)] (by kernel_rfl) ?_
  refine WL.nil ?_
  refine WQ.then_normal (hK48 _ _ _ ?_)
  refine WP.ret ?_
  refine WQ.then_ret ?_
  obtain rfl := Option.some.inj hm
  exact WQ.ret3 _ _ _ rfl rfl rfl rfl ⟨_, _, rfl, hb65, (SH.take 1 (SH.front 2 hS63))⟩

theorem c_46 (n : Nat) (code_0 : List Int) (a0' : Option Addr) (c0' : Nat) (w : World) {r : List SGood × List UInt8 × Int} (hm : m_spec_DrawReserveGood n code_0 = some r) (h0 : Rd fU8.ty w a0' code_0) (hle0 : code_0.length ≤ c0') :
    CallV Try.prog 46 #[.slice a0' code_0.length c0'] w (fun v w' => ∃ (ra0 : Option Addr) (rc0 : Nat), v = .tuple #[.slice ra0 r.1.length rc0, .string (bs r.2.1), .int .i64 r.2.2] ∧ Ext w w' ∧ SH w' w.heap.size [aOwn fGood 56 ra0 rc0 r.1]) := by
  unfold m_spec_DrawReserveGood at hm
  refine CallV.enter Try.func46 rfl (by kernel_rfl) Try.ntmps46 (env := [(0, .slice a0' code_0.length c0')]) ⟨rfl, trivial⟩ ?_
  refine WP.seq (fun K1 hK1 => ?_)
  refine WP.region ?_
  refine WL.runk 3 [0] [(0, .slice a0' code_0.length c0')] (by kernel_rfl) ?_
  refine WL.nil ?_
  refine WQ.then_normal (hK1 _ _ _ ?_)
  refine WP.seq (fun K2 hK2 => ?_)
  refine WP.region ?_
  refine WL.runk 1 [5] [(5, .slice a0' code_0.length c0')] (by kernel_rfl) ?_
  obtain ⟨x3, hx4, hm⟩ := bindE hm
  refine WL.call 72 #[.slice a0' code_0.length c0'] rfl rfl (by kernel_rfl) (c_72 n code_0 a0' c0' w hx4 (Rd.below h0 (Ext.refl w)) hle0) ?_
  rintro _ w8 ⟨a5, c6, rfl, hE9, hR10⟩
  refine ⟨_, rfl, ?_⟩
  have hb11 : Ext w w8 := Ext.trans (Ext.refl w) hE9
  have hL12 : w.heap.size ≤ w8.heap.size := Nat.le_trans (Nat.le_refl _) hE9.size
  have hS13 : SH w8 w.heap.size [aOwn fGood 56 a5 c6 x3.1] := SH.add (SH.nil _ _) hE9 (Nat.le_refl _) hR10
  refine WL.runk 6 [2, 3, 4] [(2, .slice a5 x3.1.length c6), (3, .string (bs x3.2.1)), (4, .int .i64 x3.2.2)] (by kernel_rfl) ?_
  refine WL.nil ?_
  refine WQ.then_normal (hK2 _ _ _ ?_)
  refine WP.ret ?_
  obtain rfl := Option.some.inj hm
  exact WQ.ret3 _ _ _ rfl rfl rfl rfl ⟨_, _, rfl, hb11, hS13⟩

theorem c_47 (n : Nat) (code_0 : List Int) (a0' : Option Addr) (c0' : Nat) (w : World) {r : List SGood × List UInt8 × Int} (hm : m_spec_DrawUseReserved n code_0 = some r) (h0 : Rd fU8.ty w a0' code_0) (hle0 : code_0.length ≤ c0') :
    CallV Try.prog 47 #[.slice a0' code_0.length c0'] w (fun v w' => ∃ (ra0 : Option Addr) (rc0 : Nat), v = .tuple #[.slice ra0 r.1.length rc0, .string (bs r.2.1), .int .i64 r.2.2] ∧ Ext w w' ∧ SH w' w.heap.size [aOwn fGood 56 ra0 rc0 r.1]) := by
  unfold m_spec_DrawUseReserved at hm
  refine CallV.enter Try.func47 rfl (by kernel_rfl) Try.ntmps47 (env := [(0, .slice a0' code_0.length c0')]) ⟨rfl, trivial⟩ ?_
  refine WP.seq (fun K1 hK1 => ?_)
  refine WP.region ?_
  refine WL.runk 3 [0] [(0, .slice a0' code_0.length c0')] (by kernel_rfl) ?_
  refine WL.nil ?_
  refine WQ.then_normal (hK1 _ _ _ ?_)
  refine WP.seq (fun K2 hK2 => ?_)
  refine WP.region ?_
  refine WL.runk 1 [5] [(5, .slice a0' code_0.length c0')] (by kernel_rfl) ?_
  obtain ⟨x3, hx4, hm⟩ := bindE hm
  refine WL.call 72 #[.slice a0' code_0.length c0'] rfl rfl (by kernel_rfl) (c_72 n code_0 a0' c0' w hx4 (Rd.below h0 (Ext.refl w)) hle0) ?_
  rintro _ w8 ⟨a5, c6, rfl, hE9, hR10⟩
  refine ⟨_, rfl, ?_⟩
  have hb11 : Ext w w8 := Ext.trans (Ext.refl w) hE9
  have hL12 : w.heap.size ≤ w8.heap.size := Nat.le_trans (Nat.le_refl _) hE9.size
  have hS13 : SH w8 w.heap.size [aOwn fGood 56 a5 c6 x3.1] := SH.add (SH.nil _ _) hE9 (Nat.le_refl _) hR10
  refine WL.runk 6 [2, 3, 4] [(2, .slice a5 x3.1.length c6), (3, .string (bs x3.2.1)), (4, .int .i64 x3.2.2)] (by kernel_rfl) ?_
  refine WL.nil ?_
  refine WQ.then_normal (hK2 _ _ _ ?_)
  refine WP.ret ?_
  obtain rfl := Option.some.inj hm
  exact WQ.ret3 _ _ _ rfl rfl rfl rfl ⟨_, _, rfl, hb11, hS13⟩

theorem c_48 (n : Nat) (code_0 : List Int) (a0' : Option Addr) (c0' : Nat) (w : World) {r : List SGood} (hm : m_spec_DrawShortGoods n code_0 = some r) (h0 : Rd fU8.ty w a0' code_0) (hle0 : code_0.length ≤ c0') :
    CallV Try.prog 48 #[.slice a0' code_0.length c0'] w (fun v w' => ∃ (ra0 : Option Addr) (rc0 : Nat), v = .slice ra0 r.length rc0 ∧ Ext w w' ∧ SH w' w.heap.size [aOwn fGood 56 ra0 rc0 r]) := by
  unfold m_spec_DrawShortGoods at hm
  refine CallV.enter Try.func48 rfl (by kernel_rfl) Try.ntmps48 (env := [(0, .slice a0' code_0.length c0')]) ⟨rfl, trivial⟩ ?_
  refine WP.seq (fun K1 hK1 => ?_)
  refine WP.region ?_
  refine WL.runk 1 [0] [(0, .slice a0' code_0.length c0')] (by kernel_rfl) ?_
  refine WL.nil ?_
  refine WQ.then_normal (hK1 _ _ _ ?_)
  refine WP.seq (fun K2 hK2 => ?_)
  refine WP.region ?_
  refine WL.runk 1 [3] [(3, .slice a0' code_0.length c0')] (by kernel_rfl) ?_
  obtain ⟨x3, hx4, hm⟩ := bindE hm
  refine WL.call 74 #[.slice a0' code_0.length c0'] rfl rfl (by kernel_rfl) (c_74 n code_0 a0' c0' w hx4 (Rd.below h0 (Ext.refl w)) hle0) ?_
  rintro _ w7 ⟨b5, rfl, hE8, hR9⟩
  refine ⟨_, rfl, ?_⟩
  have hb10 : Ext w w7 := Ext.trans (Ext.refl w) hE8
  have hL11 : w.heap.size ≤ w7.heap.size := Nat.le_trans (Nat.le_refl _) hE8.size
  have hS12 : SH w7 w.heap.size [aBox 105 b5 [.slice a0' code_0.length c0', .int .i64 x3.1, .int .u64 x3.2]] := SH.add (SH.nil _ _) hE8 (Nat.le_refl _) hR9
  obtain ⟨x13, hx14, hm⟩ := bindE hm
  refine WL.call 73 #[.pointer (some ⟨b5, 0, none⟩)] rfl rfl (by kernel_rfl) (c_73 n code_0 a0' c0' x3.1 x3.2 b5 w7 w w.heap.size [] hx14 hb10 (Nat.le_refl _) hL11 h0 hle0 hS12) ?_
  rintro _ w18 ⟨a15, c16, rfl, hB22, hS21⟩
  refine ⟨_, rfl, ?_⟩
  have hb23 : Ext w w18 := Below.trans hb10 hB22
  have hL24 : w.heap.size ≤ w18.heap.size := Nat.le_trans hL11 hB22.size
  refine WL.runk 1 [2] [(2, .slice a15 x13.1.length c16)] (by kernel_rfl) ?_
  refine WL.nil ?_
  refine WQ.then_normal (hK2 _ _ _ ?_)
  refine WP.ret ?_
  obtain rfl := Option.some.inj hm
  exact WQ.ret1 _ rfl rfl ⟨_, _, rfl, hb23, (SH.take 1 hS21)⟩

theorem c_49 (n : Nat) (code_0 : List Int) (a0' : Option Addr) (c0' : Nat) (w : World) {r : List SGood × List STake} (hm : m_spec_DrawCanMake n code_0 = some r) (h0 : Rd fU8.ty w a0' code_0) (hle0 : code_0.length ≤ c0') :
    CallV Try.prog 49 #[.slice a0' code_0.length c0'] w (fun v w' => ∃ (ra0 : Option Addr) (rc0 : Nat) (ra1 : Option Addr) (rc1 : Nat), v = .tuple #[.slice ra0 r.1.length rc0, .slice ra1 r.2.length rc1] ∧ Ext w w' ∧ SH w' w.heap.size [aOwn fGood 56 ra0 rc0 r.1, aOwn fTake 43 ra1 rc1 r.2]) := by
  unfold m_spec_DrawCanMake at hm
  refine CallV.enter Try.func49 rfl (by kernel_rfl) Try.ntmps49 (env := [(0, .slice a0' code_0.length c0')]) ⟨rfl, trivial⟩ ?_
  refine WP.seq (fun K1 hK1 => ?_)
  refine WP.region ?_
  refine WL.runk 2 [0] [(0, .slice a0' code_0.length c0')] (by kernel_rfl) ?_
  refine WL.nil ?_
  refine WQ.then_normal (hK1 _ _ _ ?_)
  refine WP.seq (fun K2 hK2 => ?_)
  refine WP.region ?_
  refine WL.runk 1 [9] [(9, .slice a0' code_0.length c0')] (by kernel_rfl) ?_
  obtain ⟨x3, hx4, hm⟩ := bindE hm
  refine WL.call 74 #[.slice a0' code_0.length c0'] rfl rfl (by kernel_rfl) (c_74 n code_0 a0' c0' w hx4 (Rd.below h0 (Ext.refl w)) hle0) ?_
  rintro _ w7 ⟨b5, rfl, hE8, hR9⟩
  refine ⟨_, rfl, ?_⟩
  have hb10 : Ext w w7 := Ext.trans (Ext.refl w) hE8
  have hL11 : w.heap.size ≤ w7.heap.size := Nat.le_trans (Nat.le_refl _) hE8.size
  have hS12 : SH w7 w.heap.size [aBox 105 b5 [.slice a0' code_0.length c0', .int .i64 x3.1, .int .u64 x3.2]] := SH.add (SH.nil _ _) hE8 (Nat.le_refl _) hR9
  refine WL.runk 1 [4] [(4, .pointer (some ⟨b5, 0, none⟩))] (by kernel_rfl) ?_
  refine WL.nil ?_
  refine WQ.then_normal (hK2 _ _ _ ?_)
  refine WP.seq (fun K13 hK13 => ?_)
  refine WP.region ?_
  refine WL.runk 1 [4, 11] [(4, .pointer (some ⟨b5, 0, none⟩)), (11, .pointer (some ⟨b5, 0, none⟩))] (by kernel_rfl) ?_
  obtain ⟨x14, hx15, hm⟩ := bindE hm
  refine WL.call 73 #[.pointer (some ⟨b5, 0, none⟩)] rfl rfl (by kernel_rfl) (c_73 n code_0 a0' c0' x3.1 x3.2 b5 w7 w w.heap.size [] hx15 hb10 (Nat.le_refl _) hL11 h0 hle0 hS12) ?_
  rintro _ w19 ⟨a16, c17, rfl, hB23, hS22⟩
  refine ⟨_, rfl, ?_⟩
  have hb24 : Ext w w19 := Below.trans hb10 hB23
  have hL25 : w.heap.size ≤ w19.heap.size := Nat.le_trans hL11 hB23.size
  refine WL.runk 1 [4, 5] [(4, .pointer (some ⟨b5, 0, none⟩)), (5, .slice a16 x14.1.length c17)] (by kernel_rfl) ?_
  refine WL.nil ?_
  refine WQ.then_normal (hK13 _ _ _ ?_)
  refine WP.seq (fun K26 hK26 => ?_)
  refine WP.region ?_
  refine WL.row fTake 43 ([] : List STake) 0 #[] 13 (by kernel_rfl) rfl rfl rfl rfl rfl rfl rfl ?_
  intro a27 c28 w29 hE30 hR31
  have hb33 : Ext w w29 := Ext.trans hb24 hE30
  have hL34 : w.heap.size ≤ w29.heap.size := Nat.le_trans hL25 hE30.size
  have hS35 : SH w29 w.heap.size [aOwn fTake 43 a27 c28 ([] : List STake), aOwn fGood 56 a16 c17 x14.1, aBox 105 b5 [.slice a0' code_0.length c0', .int .i64 x14.2.1, .int .u64 x14.2.2]] := SH.add hS22 hE30 hL25 hR31
  refine WL.runk 1 [4, 5, 6] [(4, .pointer (some ⟨b5, 0, none⟩)), (5, .slice a16 x14.1.length c17), (6, .slice a27 (([] : List STake).length) c28)] (by kernel_rfl) ?_
  refine WL.nil ?_
  refine WQ.then_normal (hK26 _ _ _ ?_)
  refine WP.seq (fun K36 hK36 => ?_)
  refine WP.seq (fun K37 hK37 => ?_)
  refine WP.region ?_
  refine WL.runk 1 [4, 5, 6, 14] [(4, .pointer (some ⟨b5, 0, none⟩)), (5, .slice a16 x14.1.length c17), (6, .slice a27 (([] : List STake).length) c28), (14, .pointer (some ⟨b5, 0, none⟩))] (by kernel_rfl) ?_
  obtain ⟨x38, hx39, hm⟩ := bindE hm
  refine WL.call 75 #[.pointer (some ⟨b5, 0, none⟩), .int .i64 5] rfl rfl (by kernel_rfl) (c_75 n code_0 a0' c0' x14.2.1 x14.2.2 b5 5 w29 w w.heap.size [aOwn fTake 43 a27 c28 ([] : List STake), aOwn fGood 56 a16 c17 x14.1] hx39 hb33 (Nat.le_refl _) hL34 h0 hle0 (SH.front 2 (SH.front 1 (SH.front 1 hS35)))) ?_
  rintro _ w40 ⟨rfl, hB44, hS43⟩
  refine ⟨_, rfl, ?_⟩
  have hb45 : Ext w w40 := Below.trans hb33 hB44
  have hL46 : w.heap.size ≤ w40.heap.size := Nat.le_trans hL34 hB44.size
  refine WL.runk 1 [4, 5, 6, 7] [(4, .pointer (some ⟨b5, 0, none⟩)), (5, .slice a16 x14.1.length c17), (6, .slice a27 (([] : List STake).length) c28), (7, .int .i64 x38.1)] (by kernel_rfl) ?_
  refine WL.nil ?_
  refine WQ.then_normal (hK37 _ _ _ ?_)
  refine WP.block ?_
  obtain ⟨t297, ht298, hm⟩ := bindE hm
  have hmo292 := hm; clear hm
  refine WP.sub [(4, .pointer (some ⟨b5, 0, none⟩)), (5, .slice a16 x14.1.length c17), (6, .slice a27 (([] : List STake).length) c28), (7, .int .i64 x38.1)] ⟨rfl, rfl, rfl, rfl, trivial⟩ ?_
  refine WP.loop (fun n' env' w' => ∃ (st283 : List STake × Int × Int × Int) (a284 : Option Addr) (c285 : Nat), env' = [(4, .pointer (some ⟨b5, 0, none⟩)), (5, .slice a16 x14.1.length c17), (6, .slice a284 st283.1.length c285), (7, .int .i64 st283.2.1)] ∧ Ext w w' ∧ w.heap.size ≤ w'.heap.size ∧ SH w' w.heap.size [aOwn fTake 43 a284 c285 st283.1, aBox 105 b5 [.slice a0' code_0.length c0', .int .i64 st283.2.2.1, .int .u64 st283.2.2.2], aOwn fGood 56 a16 c17 x14.1] ∧ loopN (m_spec_DrawCanMake_l1 n code_0 x14) n' st283 = some t297) n ⟨(([] : List STake), x38.1, x38.2.1, x38.2.2), _, _, rfl, hb45, hL46, (SH.front 2 (SH.front 1 (SH.front 2 hS43))), ht298⟩ ?_
  rintro n294 _ w287 ⟨st283, a284, c285, rfl, hb288, hL289, hS290, hl291⟩ K293 hK293
  obtain ⟨n295, s296, rfl, hm, hl291⟩ := loopN_some hl291
  unfold m_spec_DrawCanMake_l1 at hm
  refine WP.seq (fun K299 hK299 => ?_)
  refine WP.seq (fun K300 hK300 => ?_)
  refine WP.region ?_
  refine WL.runk 2 [4, 5, 6, 7, 17] [(4, .pointer (some ⟨b5, 0, none⟩)), (5, .slice a16 x14.1.length c17), (6, .slice a284 st283.1.length c285), (7, .int .i64 st283.2.1), (17, .bool (decide (st283.2.1 > 0)))] (by kernel_rfl) ?_
  refine WL.nil ?_
  refine WQ.then_normal (hK300 _ _ _ ?_)
  refine WP.cond (decide (st283.2.1 > 0)) rfl rfl (fun hc301 => ?_) (fun hc301 => ?_)
  · have hm := iteT hm hc301
    refine WP.skip ?_
    refine WQ.then_normal (hK299 _ _ _ ?_)
    refine WP.seq (fun K302 hK302 => ?_)
    refine WP.block ?_
    refine WP.seq (fun K303 hK303 => ?_)
    refine WP.region ?_
    refine WL.runk 2 [4, 5, 6, 7, 20, 21] [(4, .pointer (some ⟨b5, 0, none⟩)), (5, .slice a16 x14.1.length c17), (6, .slice a284 st283.1.length c285), (7, .int .i64 st283.2.1), (20, .pointer (some ⟨b5, 0, none⟩)), (21, .slice a16 x14.1.length c17)] (by kernel_rfl) ?_
    obtain ⟨x304, hx305, hm⟩ := bindE hm
    refine WL.call 76 #[.pointer (some ⟨b5, 0, none⟩), .slice a16 x14.1.length c17] rfl rfl (by kernel_rfl) (c_76_o1 n code_0 a0' c0' st283.2.2.1 st283.2.2.2 b5 x14.1 a16 c17 w287 w w.heap.size [aOwn fTake 43 a284 c285 st283.1] hx305 hb288 (Nat.le_refl _) hL289 h0 hle0 (SH.front 2 (SH.front 2 hS290))) ?_
    rintro _ w306 ⟨rfl, hB310, hS309⟩
    refine ⟨_, rfl, ?_⟩
    have hb311 : Ext w w306 := Below.trans hb288 hB310
    have hL312 : w.heap.size ≤ w306.heap.size := Nat.le_trans hL289 hB310.size
    refine WL.runk 1 [4, 5, 6, 7, 23] [(4, .pointer (some ⟨b5, 0, none⟩)), (5, .slice a16 x14.1.length c17), (6, .slice a284 st283.1.length c285), (7, .int .i64 st283.2.1), (23, .agg #[.string (bs x304.1), .int .i64 0])] (by kernel_rfl) ?_
    refine WL.box 43 [.string (bs []), .int .i64 0] 8 (by kernel_rfl) rfl rfl rfl rfl ?_
    intro b313 w314 hE315 hR316
    have hb318 : Ext w w314 := Ext.trans hb311 hE315
    have hL319 : w.heap.size ≤ w314.heap.size := Nat.le_trans hL312 hE315.size
    have hS320 : SH w314 w.heap.size [aBox 43 b313 [.string (bs []), .int .i64 0], aBox 105 b5 [.slice a0' code_0.length c0', .int .i64 x304.2.1, .int .u64 x304.2.2], aOwn fGood 56 a16 c17 x14.1, aOwn fTake 43 a284 c285 st283.1] := SH.add hS309 hE315 hL312 hR316
    refine WL.boxStore 0 [.string (bs x304.1), .int .i64 0] [.string (bs x304.1), .int .i64 0] (SH.front 0 hS320) hL319 rfl rfl rfl rfl rfl rfl rfl (info43).1 (info43).2.1 rfl rfl rfl ?_
    intro w321 hB322 hS323
    have hb324 : Ext w w321 := Below.trans hb318 hB322
    have hL325 : w.heap.size ≤ w321.heap.size := Nat.le_trans hL319 hB322.size
    refine WL.sub [(4, .pointer (some ⟨b5, 0, none⟩)), (5, .slice a16 x14.1.length c17), (6, .slice a284 st283.1.length c285), (7, .int .i64 st283.2.1), (8, .pointer (some ⟨b313, 0, none⟩))] ⟨rfl, rfl, rfl, rfl, rfl, trivial⟩ ?_
    refine WL.nil ?_
    refine WQ.then_normal (hK303 _ _ _ ?_)
    refine WP.seq (fun K326 hK326 => ?_)
    refine WP.region ?_
    refine WL.runk 1 [4, 5, 6, 7, 8, 24] [(4, .pointer (some ⟨b5, 0, none⟩)), (5, .slice a16 x14.1.length c17), (6, .slice a284 st283.1.length c285), (7, .int .i64 st283.2.1), (8, .pointer (some ⟨b313, 0, none⟩)), (24, .pointer (some ⟨b5, 0, none⟩))] (by kernel_rfl) ?_
    obtain ⟨x327, hx328, hm⟩ := bindE hm
    refine WL.call 75 #[.pointer (some ⟨b5, 0, none⟩), .int .i64 9] rfl rfl (by kernel_rfl) (c_75 n code_0 a0' c0' x304.2.1 x304.2.2 b5 9 w321 w w.heap.size [aBox 43 b313 [.string (bs x304.1), .int .i64 0], aOwn fGood 56 a16 c17 x14.1, aOwn fTake 43 a284 c285 st283.1] hx328 hb324 (Nat.le_refl _) hL325 h0 hle0 (SH.front 3 (SH.front 2 (SH.front 3 (SH.front 3 hS323))))) ?_
    rintro _ w329 ⟨rfl, hB333, hS332⟩
    refine ⟨_, rfl, ?_⟩
    have hb334 : Ext w w329 := Below.trans hb324 hB333
    have hL335 : w.heap.size ≤ w329.heap.size := Nat.le_trans hL325 hB333.size
    refine WL.runk 2 [4, 5, 6, 7, 8, 26, 27] [(4, .pointer (some ⟨b5, 0, none⟩)), (5, .slice a16 x14.1.length c17), (6, .slice a284 st283.1.length c285), (7, .int .i64 st283.2.1), (8, .pointer (some ⟨b313, 0, none⟩)), (26, .int .i64 (wI64 (1 + x327.1))), (27, .pointer (some ⟨b313, 1, none⟩))] (by kernel_rfl) ?_
    refine WL.boxStore 1 [.int .i64 (wI64 (1 + x327.1))] [.string (bs x304.1), .int .i64 (wI64 (1 + x327.1))] (SH.front 1 hS332) hL335 rfl rfl rfl rfl rfl rfl rfl (info2).1 (info2).2.1 rfl rfl rfl ?_
    intro w336 hB337 hS338
    have hb339 : Ext w w336 := Below.trans hb334 hB337
    have hL340 : w.heap.size ≤ w336.heap.size := Nat.le_trans hL335 hB337.size
    refine WL.sub [(4, .pointer (some ⟨b5, 0, none⟩)), (5, .slice a16 x14.1.length c17), (6, .slice a284 st283.1.length c285), (7, .int .i64 st283.2.1), (8, .pointer (some ⟨b313, 0, none⟩))] ⟨rfl, rfl, rfl, rfl, rfl, trivial⟩ ?_
    refine WL.nil ?_
    refine WQ.then_normal (hK326 _ _ _ ?_)
    refine WP.region ?_
    refine WL.runk 1 [4, 5, 7, 8, 28] [(4, .pointer (some ⟨b5, 0, none⟩)), (5, .slice a16 x14.1.length c17), (7, .int .i64 st283.2.1), (8, .pointer (some ⟨b313, 0, none⟩)), (28, .slice a284 st283.1.length c285)] (by kernel_rfl) ?_
    refine WL.st (.agg #[.string (bs x304.1), .int .i64 (wI64 (1 + x327.1))]) (ST.loadAgg (vs := [.string (bs x304.1), .int .i64 (wI64 (1 + x327.1))]) (fun j v hv => SH.boxPart (us := [.string (bs x304.1), .int .i64 (wI64 (1 + x327.1))]) (SH.front 0 hS338) 0 rfl j v hv) rfl rfl rfl Try.underlying43 rfl (info43).1 (info43).2.1) rfl rfl rfl ?_
    refine WL.row fTake 43 ([(STake.mk x304.1 (wI64 (1 + x327.1)))] : List STake) 1 #[.string (bs x304.1), .int .i64 (wI64 (1 + x327.1))] 30 (by kernel_rfl) rfl rfl rfl rfl rfl rfl rfl ?_
    intro a341 c342 w343 hE344 hR345
    have hb347 : Ext w w343 := Ext.trans hb339 hE344
    have hL348 : w.heap.size ≤ w343.heap.size := Nat.le_trans hL340 hE344.size
    have hS349 : SH w343 w.heap.size [aOwn fTake 43 a341 c342 ([(STake.mk x304.1 (wI64 (1 + x327.1)))] : List STake), aBox 43 b313 [.string (bs x304.1), .int .i64 (wI64 (1 + x327.1))], aBox 105 b5 [.slice a0' code_0.length c0', .int .i64 x327.2.1, .int .u64 x327.2.2], aOwn fGood 56 a16 c17 x14.1, aOwn fTake 43 a284 c285 st283.1] := SH.add hS338 hE344 hL340 hR345
    obtain ⟨x350, hx351, hm⟩ := bindE hm
    refine WL.append (F := fTake) (xs := st283.1) (ys := ([(STake.mk x304.1 (wI64 (1 + x327.1)))] : List STake)) 31 (SH.front 4 hS349) hL348 (SH.rd (SH.front 0 hS349)) hx351 rfl rfl rfl Try.underlying30 (info43).1 (info43).2.2.1 (info43).2.1 (info43).2.2.2 rfl rfl rfl rfl rfl ?_
    intro a352 c353 w354 hB355 hS356
    have hb357 : Ext w w354 := Below.trans hb347 hB355
    have hL358 : w.heap.size ≤ w354.heap.size := Nat.le_trans hL348 hB355.size
    refine WL.runk 1 [4, 5, 6, 7] [(4, .pointer (some ⟨b5, 0, none⟩)), (5, .slice a16 x14.1.length c17), (7, .int .i64 st283.2.1), (6, .slice a352 x350.length c353)] (by kernel_rfl) ?_
    refine WL.nil ?_
    refine WQ.block_normal ?_
    refine WQ.then_normal (hK302 _ _ _ ?_)
    refine WP.region ?_
    refine WL.runk 3 [4, 5, 6, 7] [(4, .pointer (some ⟨b5, 0, none⟩)), (5, .slice a16 x14.1.length c17), (7, .int .i64 (wI64 (st283.2.1 - 1))), (6, .slice a352 x350.length c353)] (by kernel_rfl) ?_
    refine WL.nil ?_
    obtain rfl := Option.some.inj hm
    exact WQ.round hK293 ⟨(x350, (wI64 (st283.2.1 - 1)), x327.2.1, x327.2.2), _, _, rfl, hb357, hL358, (SH.take 3 (SH.front 2 (SH.front 4 (SH.front 4 hS356)))), hl291⟩ (Nat.lt_succ_self _) ⟨rfl, rfl, rfl, rfl, trivial⟩
  have hm := iteF hm hc301
  refine WP.exit ?_
  refine WQ.then_exit ?_
  refine WQ.then_exit ?_
  refine WQ.block_here ?_
  obtain rfl := Option.some.inj hm
  obtain rfl := afterN_done hl291
  have hm := hmo292
  refine WQ.then_normal (hK36 _ _ _ ?_)
  refine WP.seq (fun K359 hK359 => ?_)
  refine WP.seq (fun K360 hK360 => ?_)
  obtain ⟨x393, hx394, hm⟩ := bindE hm
  refine WP.cut (fun env' w' => env' = [(4, .pointer (some ⟨b5, 0, none⟩)), (5, .slice a16 x14.1.length c17), (6, .slice a284 st283.1.length c285), (38, .bool x393.1)] ∧ Ext w w' ∧ w.heap.size ≤ w'.heap.size ∧ SH w' w.heap.size [aOwn fTake 43 a284 c285 st283.1, aBox 105 b5 [.slice a0' code_0.length c0', .int .i64 x393.2.1, .int .u64 x393.2.2], aOwn fGood 56 a16 c17 x14.1]) ?_ ?_
  · have hm := hx394; clear hx394
    refine WP.region ?_
    refine WL.runk 4 [4, 5, 6, 35] [(4, .pointer (some ⟨b5, 0, none⟩)), (5, .slice a16 x14.1.length c17), (6, .slice a284 st283.1.length c285), (35, .bool (decide ((st283.1.length : Int) > 0)))] (by kernel_rfl) ?_
    refine WL.case (decide ((st283.1.length : Int) > 0)) [35] ⟨rfl, trivial⟩ (fun hc395 => ?_) (fun hc395 => ?_)
    rotate_left
    · have hm := iteF hm hc395
      refine WL.runk 3 [4, 5, 6, 38] [(4, .pointer (some ⟨b5, 0, none⟩)), (5, .slice a16 x14.1.length c17), (6, .slice a284 st283.1.length c285), (38, .bool false)] (by kernel_rfl) ?_
      refine WL.nil ?_
      obtain rfl := Option.some.inj hm
      exact WQ.post' ⟨rfl, hb288, hL289, hS290⟩ ⟨rfl, rfl, rfl, rfl, trivial⟩
    have hm := iteT hm hc395
    refine WL.runk 1 [4, 5, 6, 35, 36] [(4, .pointer (some ⟨b5, 0, none⟩)), (5, .slice a16 x14.1.length c17), (6, .slice a284 st283.1.length c285), (35, .bool true), (36, .pointer (some ⟨b5, 0, none⟩))] (by kernel_rfl) ?_
    obtain ⟨x396, hx397, hm⟩ := bindE hm
    refine WL.call 77 #[.pointer (some ⟨b5, 0, none⟩), .int .i64 10] rfl rfl (by kernel_rfl) (c_77 n code_0 a0' c0' st283.2.2.1 st283.2.2.2 b5 10 w287 w w.heap.size [aOwn fTake 43 a284 c285 st283.1, aOwn fGood 56 a16 c17 x14.1] hx397 hb288 (Nat.le_refl _) hL289 h0 hle0 (SH.front 2 (SH.front 1 (SH.front 2 hS290)))) ?_
    rintro _ w398 ⟨rfl, hB402, hS401⟩
    refine ⟨_, rfl, ?_⟩
    have hb403 : Ext w w398 := Below.trans hb288 hB402
    have hL404 : w.heap.size ≤ w398.heap.size := Nat.le_trans hL289 hB402.size
    refine WL.runk 1 [4, 5, 6, 38] [(4, .pointer (some ⟨b5, 0, none⟩)), (5, .slice a16 x14.1.length c17), (6, .slice a284 st283.1.length c285), (38, .bool x396.1)] (by kernel_rfl) ?_
    refine WL.nil ?_
    obtain rfl := Option.some.inj hm
    exact WQ.post' ⟨rfl, hb403, hL404, (SH.front 2 (SH.front 1 (SH.front 2 hS401)))⟩ ⟨rfl, rfl, rfl, rfl, trivial⟩
  clear hx394
  rintro _ w405 ⟨rfl, hb406, hL407, hS408⟩
  refine WQ.then_normal (hK360 _ _ _ ?_)
  obtain ⟨x487, hx488, hm⟩ := bindE hm
  refine WP.cut (fun env' w' => env' = [(5, .slice a16 x14.1.length c17), (6, .slice a284 x487.1.length c285)] ∧ Ext w w' ∧ w.heap.size ≤ w'.heap.size ∧ SH w' w.heap.size [aOwn fTake 43 a284 c285 x487.1, aBox 105 b5 [.slice a0' code_0.length c0', .int .i64 x487.2.1, .int .u64 x487.2.2], aOwn fGood 56 a16 c17 x14.1]) ?_ ?_
  rotate_left
  · clear hx488
    rintro _ w514 ⟨rfl, hb515, hL516, hS517⟩
    refine WQ.then_normal (hK359 _ _ _ ?_)
    refine WP.seq (fun K518 hK518 => ?_)
    refine WP.region ?_
    refine WL.runk 4 [2, 3] [(2, .slice a16 x14.1.length c17), (3, .slice a284 x487.1.length c285)] (by kernel_rfl) ?_
    refine WL.nil ?_
    refine WQ.then_normal (hK518 _ _ _ ?_)
    refine WP.ret ?_
    obtain rfl := Option.some.inj hm
    exact WQ.ret2 _ _ rfl rfl rfl ⟨_, _, _, _, rfl, hb515, (SH.take 2 (SH.front 2 hS517))⟩
  have hm := hx488; clear hx488
  refine WP.cond x393.1 rfl rfl (fun hc409 => ?_) (fun hc409 => ?_)
  rotate_left
  · have hm := iteF hm hc409
    refine WP.skip ?_
    obtain rfl := Option.some.inj hm
    exact WQ.post' ⟨rfl, hb406, hL407, hS408⟩ ⟨rfl, rfl, trivial⟩
  have hm := iteT hm hc409
  refine WP.region ?_
  refine WL.runk 2 [5, 6, 39, 40] [(5, .slice a16 x14.1.length c17), (6, .slice a284 st283.1.length c285), (39, .slice a284 st283.1.length c285), (40, .pointer (some ⟨b5, 0, none⟩))] (by kernel_rfl) ?_
  refine WL.row fInt 2 ([(-1), 0, 1, 1000000, 1000001] : List Int) 5 #[.int .i64 (-1), .int .i64 0, .int .i64 1, .int .i64 1000000, .int .i64 1000001] 41 (by kernel_rfl) rfl rfl rfl rfl rfl rfl rfl ?_
  intro a489 c490 w491 hE492 hR493
  have hb495 : Ext w w491 := Ext.trans hb406 hE492
  have hL496 : w.heap.size ≤ w491.heap.size := Nat.le_trans hL407 hE492.size
  have hS497 : SH w491 w.heap.size [aOwn fInt 2 a489 c490 ([(-1), 0, 1, 1000000, 1000001] : List Int), aOwn fTake 43 a284 c285 st283.1, aBox 105 b5 [.slice a0' code_0.length c0', .int .i64 x393.2.1, .int .u64 x393.2.2], aOwn fGood 56 a16 c17 x14.1] := SH.add hS408 hE492 hL407 hR493
  obtain ⟨x498, hx499, hm⟩ := bindE hm
  refine WL.call 78 #[.pointer (some ⟨b5, 0, none⟩), .slice a489 (([(-1), 0, 1, 1000000, 1000001] : List Int).length) c490] rfl rfl (by kernel_rfl) (c_78_o1 n code_0 a0' c0' x393.2.1 x393.2.2 b5 ([(-1), 0, 1, 1000000, 1000001] : List Int) a489 c490 w491 w w.heap.size [aOwn fTake 43 a284 c285 st283.1, aOwn fGood 56 a16 c17 x14.1] hx499 hb495 (Nat.le_refl _) hL496 h0 hle0 (SH.front 3 (SH.front 2 (SH.front 2 (SH.front 3 hS497))))) ?_
  rintro _ w500 ⟨rfl, hB504, hS503⟩
  refine ⟨_, rfl, ?_⟩
  have hb505 : Ext w w500 := Below.trans hb495 hB504
  have hL506 : w.heap.size ≤ w500.heap.size := Nat.le_trans hL496 hB504.size
  obtain ⟨x507, hx508, hm⟩ := bindE hm
  refine WL.st (.pointer (some (at_ a284 (Int.toNat 0 * 2)))) (ST.index (T := fTake.ty) (xs := st283.1) (SH.rd (SH.front 2 hS503)) hx508 rfl rfl rfl Try.underlying30 (info43).1 (info43).2.1) rfl rfl rfl ?_
  refine WL.runk 1 [5, 6, 42, 44] [(5, .slice a16 x14.1.length c17), (6, .slice a284 st283.1.length c285), (42, .int .i64 x498.1), (44, .pointer (some (at_ a284 (Int.toNat 0 * 2 + 1))))] (by kernel_rfl) ?_
  refine WL.store (F := fTake) (STake.mk x507.Name x498.1) 1 [.int .i64 x498.1] (SH.front 2 hS503) hL506 hx508 rfl rfl rfl rfl rfl rfl rfl (info2).1 (info2).2.1 rfl rfl rfl ?_
  intro w509 hB510 hS511
  have hb512 : Ext w w509 := Below.trans hb505 hB510
  have hL513 : w.heap.size ≤ w509.heap.size := Nat.le_trans hL506 hB510.size
  refine WL.sub [(5, .slice a16 x14.1.length c17), (6, .slice a284 ((st283.1.set (Int.toNat 0) (STake.mk x507.Name x498.1)).length) c285), (42, .int .i64 x498.1)] ⟨rfl, by first | (simp only [List.length_set]; done) | (simp only [List.length_set]; rfl), rfl, trivial⟩ ?_
  refine WL.sub [(5, .slice a16 x14.1.length c17), (6, .slice a284 ((st283.1.set (Int.toNat 0) (STake.mk x507.Name x498.1)).length) c285)] ⟨rfl, rfl, trivial⟩ ?_
  refine WL.nil ?_
  obtain rfl := Option.some.inj hm
  exact WQ.post' ⟨rfl, hb512, hL513, (SH.take 3 (SH.front 2 (SH.front 2 (SH.front 3 hS511))))⟩ ⟨rfl, rfl, trivial⟩

end Go.Proofs.Ytkpdicajinionaa
