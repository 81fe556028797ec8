/- Each call does what its Lean function says. -/
import Derived.Test.YtkpdicajinionaaGreatDoorKGoods1
import Derived.Test.YtkpdicajinionaaGreatDoorGn
set_option maxRecDepth 20000
set_option maxHeartbeats 40000000
namespace Go.Proofs.YtkpdicajinionaaGreatDoor
open Go Go.Gv Go.RowKit

theorem c_71 (n : Nat) (n_0 : Int) (low_1 : Int) (high_2 : Int) (w : World) {r : Bool} (hm : m_spec_l00In n n_0 low_1 high_2 = some r)  :
    CallV Tryz.prog 71 #[.int .i64 n_0, .int .i64 low_1, .int .i64 high_2] w (fun v w' => v = .bool r ∧ Ext w w') := by
  unfold m_spec_l00In at hm
  refine CallV.enter Tryz.func71 rfl (by kernel_rfl) Tryz.ntmps71 (env := [(0, .int .i64 n_0), (1, .int .i64 low_1), (2, .int .i64 high_2)]) ⟨rfl, rfl, rfl, trivial⟩ ?_
  refine WP.seq (fun K1 hK1 => ?_)
  refine WP.region ?_
  refine WL.runk 1 [0, 1, 2] [(0, .int .i64 n_0), (1, .int .i64 low_1), (2, .int .i64 high_2)] (by kernel_rfl) ?_
  refine WL.nil ?_
  refine WQ.then_normal (hK1 _ _ _ ?_)
  refine WP.seq (fun K2 hK2 => ?_)
  obtain ⟨x4, hx5, hm⟩ := bindE hm
  refine WP.cut (fun env' w' => env' = [(6, .bool x4)] ∧ Ext w w' ∧ w.heap.size ≤ w'.heap.size ∧ SH w' w.heap.size []) ?_ ?_
  rotate_left
  · clear hx5
    rintro _ w7 ⟨rfl, hb8, hL9, hS10⟩
    refine WQ.then_normal (hK2 _ _ _ ?_)
    refine WP.ret ?_
    obtain rfl := Option.some.inj hm
    exact WQ.ret1 _ rfl rfl ⟨rfl, hb8⟩
  have hm := hx5; clear hx5
  refine WP.region ?_
  refine WL.runk 4 [0, 2, 10] [(0, .int .i64 n_0), (2, .int .i64 high_2), (10, .bool (decide (n_0 ≥ low_1)))] (by kernel_rfl) ?_
  refine WL.case (decide (n_0 ≥ low_1)) [10] ⟨rfl, trivial⟩ (fun hc6 => ?_) (fun hc6 => ?_)
  · have hm := iteT hm hc6
    refine WL.runk 5 [6] [(6, .bool (decide (n_0 ≤ high_2)))] (by kernel_rfl) ?_
    refine WL.nil ?_
    obtain rfl := Option.some.inj hm
    exact WQ.post' ⟨rfl, (Ext.refl w), (Nat.le_refl _), (SH.nil _ _)⟩ ⟨rfl, trivial⟩
  have hm := iteF hm hc6
  refine WL.runk 5 [6] [(6, .bool false)] (by kernel_rfl) ?_
  refine WL.nil ?_
  obtain rfl := Option.some.inj hm
  exact WQ.post' ⟨rfl, (Ext.refl w), (Nat.le_refl _), (SH.nil _ _)⟩ ⟨rfl, trivial⟩

theorem c_63 (n : Nat) (n_0 : Int) (w : World) {r : Bool} (hm : m_spec_l23Many n n_0 = some r)  :
    CallV Tryz.prog 63 #[.int .i64 n_0] w (fun v w' => v = .bool r ∧ Ext w w') := by
  unfold m_spec_l23Many at hm
  refine CallV.enter Tryz.func63 rfl (by kernel_rfl) Tryz.ntmps63 (env := [(0, .int .i64 n_0)]) ⟨rfl, trivial⟩ ?_
  refine WP.seq (fun K1 hK1 => ?_)
  refine WP.region ?_
  refine WL.runk 1 [0] [(0, .int .i64 n_0)] (by kernel_rfl) ?_
  refine WL.nil ?_
  refine WQ.then_normal (hK1 _ _ _ ?_)
  refine WP.seq (fun K2 hK2 => ?_)
  refine WP.region ?_
  refine WL.runk 1 [3] [(3, .int .i64 n_0)] (by kernel_rfl) ?_
  obtain ⟨x3, hx4, hm⟩ := bindE hm
  refine WL.call 71 #[.int .i64 n_0, .int .i64 0, .int .i64 1000000] rfl rfl (by kernel_rfl) (c_71 n n_0 0 1000000 w hx4 ) ?_
  rintro _ w5 ⟨rfl, hE6⟩
  refine ⟨_, rfl, ?_⟩
  have hb8 : Ext w w5 := Ext.trans (Ext.refl w) hE6
  have hL9 : w.heap.size ≤ w5.heap.size := Nat.le_trans (Nat.le_refl _) hE6.size
  have hS10 : SH w5 w.heap.size [] := SH.ext (SH.nil _ _) hE6
  refine WL.runk 1 [2] [(2, .bool x3)] (by kernel_rfl) ?_
  refine WL.nil ?_
  refine WQ.then_normal (hK2 _ _ _ ?_)
  refine WP.ret ?_
  obtain rfl := Option.some.inj hm
  exact WQ.ret1 _ rfl rfl ⟨rfl, hb8⟩

theorem c_78 (n : Nat) (c_0 : Int) (w : World) {r : Bool} (hm : m_spec_l01Digit n c_0 = some r)  :
    CallV Tryz.prog 78 #[.int .u8 c_0] w (fun v w' => v = .bool r ∧ Ext w w') := by
  unfold m_spec_l01Digit at hm
  refine CallV.enter Tryz.func78 rfl (by kernel_rfl) Tryz.ntmps78 (env := [(0, .int .u8 c_0)]) ⟨rfl, trivial⟩ ?_
  refine WP.seq (fun K1 hK1 => ?_)
  refine WP.region ?_
  refine WL.runk 1 [0] [(0, .int .u8 c_0)] (by kernel_rfl) ?_
  refine WL.nil ?_
  refine WQ.then_normal (hK1 _ _ _ ?_)
  refine WP.seq (fun K2 hK2 => ?_)
  obtain ⟨x4, hx5, hm⟩ := bindE hm
  refine WP.cut (fun env' w' => env' = [(2, .bool x4)] ∧ Ext w w' ∧ w.heap.size ≤ w'.heap.size ∧ SH w' w.heap.size []) ?_ ?_
  rotate_left
  · clear hx5
    rintro _ w7 ⟨rfl, hb8, hL9, hS10⟩
    refine WQ.then_normal (hK2 _ _ _ ?_)
    refine WP.ret ?_
    obtain rfl := Option.some.inj hm
    exact WQ.ret1 _ rfl rfl ⟨rfl, hb8⟩
  have hm := hx5; clear hx5
  refine WP.region ?_
  refine WL.runk 3 [0, 5] [(0, .int .u8 c_0), (5, .bool (decide (c_0 ≥ 48)))] (by kernel_rfl) ?_
  refine WL.case (decide (c_0 ≥ 48)) [5] ⟨rfl, trivial⟩ (fun hc6 => ?_) (fun hc6 => ?_)
  · have hm := iteT hm hc6
    refine WL.runk 4 [2] [(2, .bool (decide (c_0 ≤ 57)))] (by kernel_rfl) ?_
    refine WL.nil ?_
    obtain rfl := Option.some.inj hm
    exact WQ.post' ⟨rfl, (Ext.refl w), (Nat.le_refl _), (SH.nil _ _)⟩ ⟨rfl, trivial⟩
  have hm := iteF hm hc6
  refine WL.runk 4 [2] [(2, .bool false)] (by kernel_rfl) ?_
  refine WL.nil ?_
  obtain rfl := Option.some.inj hm
  exact WQ.post' ⟨rfl, (Ext.refl w), (Nat.le_refl _), (SH.nil _ _)⟩ ⟨rfl, trivial⟩

theorem c_81 (n : Nat) (c_0 : Int) (w : World) {r : Bool} (hm : m_spec_l01Small n c_0 = some r)  :
    CallV Tryz.prog 81 #[.int .u8 c_0] w (fun v w' => v = .bool r ∧ Ext w w') := by
  unfold m_spec_l01Small at hm
  refine CallV.enter Tryz.func81 rfl (by kernel_rfl) Tryz.ntmps81 (env := [(0, .int .u8 c_0)]) ⟨rfl, trivial⟩ ?_
  refine WP.seq (fun K1 hK1 => ?_)
  refine WP.region ?_
  refine WL.runk 1 [0] [(0, .int .u8 c_0)] (by kernel_rfl) ?_
  refine WL.nil ?_
  refine WQ.then_normal (hK1 _ _ _ ?_)
  refine WP.seq (fun K2 hK2 => ?_)
  obtain ⟨x4, hx5, hm⟩ := bindE hm
  refine WP.cut (fun env' w' => env' = [(2, .bool x4)] ∧ Ext w w' ∧ w.heap.size ≤ w'.heap.size ∧ SH w' w.heap.size []) ?_ ?_
  rotate_left
  · clear hx5
    rintro _ w7 ⟨rfl, hb8, hL9, hS10⟩
    refine WQ.then_normal (hK2 _ _ _ ?_)
    refine WP.ret ?_
    obtain rfl := Option.some.inj hm
    exact WQ.ret1 _ rfl rfl ⟨rfl, hb8⟩
  have hm := hx5; clear hx5
  refine WP.region ?_
  refine WL.runk 3 [0, 5] [(0, .int .u8 c_0), (5, .bool (decide (c_0 ≥ 97)))] (by kernel_rfl) ?_
  refine WL.case (decide (c_0 ≥ 97)) [5] ⟨rfl, trivial⟩ (fun hc6 => ?_) (fun hc6 => ?_)
  · have hm := iteT hm hc6
    refine WL.runk 4 [2] [(2, .bool (decide (c_0 ≤ 122)))] (by kernel_rfl) ?_
    refine WL.nil ?_
    obtain rfl := Option.some.inj hm
    exact WQ.post' ⟨rfl, (Ext.refl w), (Nat.le_refl _), (SH.nil _ _)⟩ ⟨rfl, trivial⟩
  have hm := iteF hm hc6
  refine WL.runk 4 [2] [(2, .bool false)] (by kernel_rfl) ?_
  refine WL.nil ?_
  obtain rfl := Option.some.inj hm
  exact WQ.post' ⟨rfl, (Ext.refl w), (Nat.le_refl _), (SH.nil _ _)⟩ ⟨rfl, trivial⟩

theorem c_70 (n : Nat) (s_0 : List UInt8) (w : World) {r : Bool} (hm : m_spec_IsName n s_0 = some r)  :
    CallV Tryz.prog 70 #[.string (bs s_0)] w (fun v w' => v = .bool r ∧ Ext w w') := by
  unfold m_spec_IsName at hm
  refine CallV.enter Tryz.func70 rfl (by kernel_rfl) Tryz.ntmps70 (env := [(0, .string (bs s_0))]) ⟨rfl, trivial⟩ ?_
  refine WP.seq (fun K1 hK1 => ?_)
  refine WP.region ?_
  refine WL.runk 1 [0] [(0, .string (bs s_0))] (by kernel_rfl) ?_
  refine WL.nil ?_
  refine WQ.then_normal (hK1 _ _ _ ?_)
  refine WP.seq (fun K2 hK2 => ?_)
  refine WP.seq (fun K3 hK3 => ?_)
  obtain ⟨x16, hx17, hm⟩ := bindE hm
  refine WP.cut (fun env' w' => env' = [(0, .string (bs s_0)), (16, .bool x16)] ∧ Ext w w' ∧ w.heap.size ≤ w'.heap.size ∧ SH w' w.heap.size []) ?_ ?_
  · have hm := hx17; clear hx17
    refine WP.region ?_
    refine WL.runk 1 [0, 4] [(0, .string (bs s_0)), (4, .string (bs s_0))] (by kernel_rfl) ?_
    refine WL.st (.bool (s_0 == [])) (ST.streq (x := s_0) (y := []) rfl rfl rfl) rfl rfl rfl ?_
    refine WL.runk 1 [0, 6] [(0, .string (bs s_0)), (6, .bool (s_0 == []))] (by kernel_rfl) ?_
    refine WL.case (s_0 == []) [6] ⟨rfl, trivial⟩ (fun hc18 => ?_) (fun hc18 => ?_)
    · have hm := iteT hm hc18
      refine WL.runk 10 [0, 16] [(0, .string (bs s_0)), (16, .bool true)] (by kernel_rfl) ?_
      refine WL.nil ?_
      obtain rfl := Option.some.inj hm
      exact WQ.post' ⟨rfl, (Ext.refl w), (Nat.le_refl _), (SH.nil _ _)⟩ ⟨rfl, rfl, trivial⟩
    have hm := iteF hm hc18
    refine WL.runk 5 [0, 11] [(0, .string (bs s_0)), (11, .bool (decide ((s_0.length : Int) > 12)))] (by kernel_rfl) ?_
    refine WL.case (decide ((s_0.length : Int) > 12)) [11] ⟨rfl, trivial⟩ (fun hc19 => ?_) (fun hc19 => ?_)
    · have hm := iteT hm hc19
      refine WL.runk 5 [0, 16] [(0, .string (bs s_0)), (16, .bool true)] (by kernel_rfl) ?_
      refine WL.nil ?_
      obtain rfl := Option.some.inj hm
      exact WQ.post' ⟨rfl, (Ext.refl w), (Nat.le_refl _), (SH.nil _ _)⟩ ⟨rfl, rfl, trivial⟩
    have hm := iteF hm hc19
    refine WL.runk 1 [0, 11, 12] [(0, .string (bs s_0)), (11, .bool false), (12, .string (bs s_0))] (by kernel_rfl) ?_
    obtain ⟨x20, hx21, hm⟩ := bindE hm
    refine WL.st (.int .u8 (x20.toNat : Int)) (ST.sindex hx21 rfl rfl rfl Tryz.underlying9) rfl rfl rfl ?_
    obtain ⟨x22, hx23, hm⟩ := bindE hm
    refine WL.call 81 #[.int .u8 (x20.toNat : Int)] rfl rfl (by kernel_rfl) (c_81 n (x20.toNat : Int) w hx23 ) ?_
    rintro _ w24 ⟨rfl, hE25⟩
    refine ⟨_, rfl, ?_⟩
    have hb27 : Ext w w24 := Ext.trans (Ext.refl w) hE25
    have hL28 : w.heap.size ≤ w24.heap.size := Nat.le_trans (Nat.le_refl _) hE25.size
    have hS29 : SH w24 w.heap.size [] := SH.ext (SH.nil _ _) hE25
    refine WL.runk 2 [0, 16] [(0, .string (bs s_0)), (16, .bool (!x22))] (by kernel_rfl) ?_
    refine WL.nil ?_
    obtain rfl := Option.some.inj hm
    exact WQ.post' ⟨rfl, hb27, hL28, hS29⟩ ⟨rfl, rfl, trivial⟩
  clear hx17
  rintro _ w30 ⟨rfl, hb31, hL32, hS33⟩
  refine WQ.then_normal (hK3 _ _ _ ?_)
  refine WP.cond x16 rfl rfl (fun hc34 => ?_) (fun hc34 => ?_)
  · have hm := iteT hm hc34
    refine WP.seq (fun K35 hK35 => ?_)
    refine WP.region ?_
    refine WL.runk 1 [2] [(2, .bool false)] (by kernel_rfl) ?_
    refine WL.nil ?_
    refine WQ.then_normal (hK35 _ _ _ ?_)
    refine WP.ret ?_
    refine WQ.then_ret ?_
    obtain rfl := Option.some.inj hm
    exact WQ.ret1 _ rfl rfl ⟨rfl, hb31⟩
  have hm := iteF hm hc34
  refine WP.skip ?_
  refine WQ.then_normal (hK2 _ _ _ ?_)
  refine WP.seq (fun K36 hK36 => ?_)
  refine WP.seq (fun K37 hK37 => ?_)
  refine WP.region ?_
  refine WL.runk 1 [0, 3] [(0, .string (bs s_0)), (3, .int .i64 0)] (by kernel_rfl) ?_
  refine WL.nil ?_
  refine WQ.then_normal (hK37 _ _ _ ?_)
  refine WP.block ?_
  obtain ⟨t49, ht50, hm⟩ := bindE hm
  have hmo44 := hm; clear hm
  refine WP.sub [(0, .string (bs s_0)), (3, .int .i64 0)] ⟨rfl, rfl, trivial⟩ ?_
  refine WP.loop (fun n' env' w' => ∃ (st38 : Int) , env' = [(0, .string (bs s_0)), (3, .int .i64 st38)] ∧ Ext w w' ∧ w.heap.size ≤ w'.heap.size ∧ SH w' w.heap.size [] ∧ loopN (m_spec_IsName_l1 n s_0) n' st38 = some t49) n ⟨0, rfl, hb31, hL32, hS33, ht50⟩ ?_
  rintro n46 _ w39 ⟨st38, rfl, hb40, hL41, hS42, hl43⟩ K45 hK45
  obtain ⟨n47, s48, rfl, hm, hl43⟩ := loopN_some hl43
  unfold m_spec_IsName_l1 at hm
  refine WP.seq (fun K51 hK51 => ?_)
  refine WP.seq (fun K52 hK52 => ?_)
  refine WP.region ?_
  refine WL.runk 4 [0, 3, 20] [(0, .string (bs s_0)), (3, .int .i64 st38), (20, .bool (decide (st38 < (s_0.length : Int))))] (by kernel_rfl) ?_
  refine WL.nil ?_
  refine WQ.then_normal (hK52 _ _ _ ?_)
  refine WP.cond (decide (st38 < (s_0.length : Int))) rfl rfl (fun hc53 => ?_) (fun hc53 => ?_)
  rotate_left
  · have hm := iteF hm hc53
    refine WP.exit ?_
    refine WQ.then_exit ?_
    refine WQ.then_exit ?_
    refine WQ.block_here ?_
    obtain rfl := Option.some.inj hm
    obtain rfl := afterN_done hl43
    have hm := hmo44
    refine WQ.then_normal (hK36 _ _ _ ?_)
    refine WP.seq (fun K112 hK112 => ?_)
    refine WP.region ?_
    refine WL.runk 1 [2] [(2, .bool true)] (by kernel_rfl) ?_
    refine WL.nil ?_
    refine WQ.then_normal (hK112 _ _ _ ?_)
    refine WP.ret ?_
    obtain rfl := Option.some.inj hm
    exact WQ.ret1 _ rfl rfl ⟨rfl, hb40⟩
  have hm := iteT hm hc53
  refine WP.skip ?_
  refine WQ.then_normal (hK51 _ _ _ ?_)
  refine WP.seq (fun K54 hK54 => ?_)
  refine WP.block ?_
  refine WP.seq (fun K55 hK55 => ?_)
  obtain ⟨x80, hx81, hm⟩ := bindE hm
  refine WP.cut (fun env' w' => env' = [(0, .string (bs s_0)), (3, .int .i64 st38), (40, .bool x80)] ∧ Ext w w' ∧ w.heap.size ≤ w'.heap.size ∧ SH w' w.heap.size []) ?_ ?_
  rotate_left
  · clear hx81
    rintro _ w106 ⟨rfl, hb107, hL108, hS109⟩
    refine WQ.then_normal (hK55 _ _ _ ?_)
    refine WP.cond x80 rfl rfl (fun hc110 => ?_) (fun hc110 => ?_)
    rotate_left
    · have hm := iteF hm hc110
      refine WP.skip ?_
      refine WQ.block_normal ?_
      refine WQ.then_normal (hK54 _ _ _ ?_)
      refine WP.region ?_
      refine WL.runk 3 [0, 3] [(0, .string (bs s_0)), (3, .int .i64 (wI64 (st38 + 1)))] (by kernel_rfl) ?_
      refine WL.nil ?_
      obtain rfl := Option.some.inj hm
      exact WQ.round hK45 ⟨(wI64 (st38 + 1)), rfl, hb107, hL108, hS109, hl43⟩ (Nat.lt_succ_self _) ⟨rfl, rfl, trivial⟩
    have hm := iteT hm hc110
    refine WP.seq (fun K111 hK111 => ?_)
    refine WP.region ?_
    refine WL.runk 1 [2] [(2, .bool false)] (by kernel_rfl) ?_
    refine WL.nil ?_
    refine WQ.then_normal (hK111 _ _ _ ?_)
    refine WP.ret ?_
    refine WQ.block_ret ?_
    refine WQ.then_ret ?_
    refine WQ.then_ret ?_
    refine WQ.block_ret ?_
    refine WQ.then_ret ?_
    obtain rfl := Option.some.inj hm
    obtain rfl := afterN_done hl43
    have hm := hmo44
    obtain rfl := Option.some.inj hm
    exact WQ.ret1 _ rfl rfl ⟨rfl, hb107⟩
  have hm := hx81; clear hx81
  refine WP.region ?_
  refine WL.runk 2 [0, 3, 23, 24] [(0, .string (bs s_0)), (3, .int .i64 st38), (23, .string (bs s_0)), (24, .int .i64 st38)] (by kernel_rfl) ?_
  obtain ⟨x82, hx83, hm⟩ := bindE hm
  refine WL.st (.int .u8 (x82.toNat : Int)) (ST.sindex hx83 rfl rfl rfl Tryz.underlying9) rfl rfl rfl ?_
  obtain ⟨x84, hx85, hm⟩ := bindE hm
  refine WL.call 81 #[.int .u8 (x82.toNat : Int)] rfl rfl (by kernel_rfl) (c_81 n (x82.toNat : Int) w39 hx85 ) ?_
  rintro _ w86 ⟨rfl, hE87⟩
  refine ⟨_, rfl, ?_⟩
  have hb89 : Ext w w86 := Ext.trans hb40 hE87
  have hL90 : w.heap.size ≤ w86.heap.size := Nat.le_trans hL41 hE87.size
  have hS91 : SH w86 w.heap.size [] := SH.ext hS42 hE87
  refine WL.runk 2 [0, 3, 28] [(0, .string (bs s_0)), (3, .int .i64 st38), (28, .bool (!x84))] (by kernel_rfl) ?_
  refine WL.case (!x84) [28] ⟨rfl, trivial⟩ (fun hc92 => ?_) (fun hc92 => ?_)
  rotate_left
  · have hm := iteF hm hc92
    refine WL.runk 12 [0, 3, 40] [(0, .string (bs s_0)), (3, .int .i64 st38), (40, .bool false)] (by kernel_rfl) ?_
    refine WL.nil ?_
    obtain rfl := Option.some.inj hm
    exact WQ.post' ⟨rfl, hb89, hL90, hS91⟩ ⟨rfl, rfl, rfl, trivial⟩
  have hm := iteT hm hc92
  refine WL.runk 2 [0, 3, 28, 29, 30] [(0, .string (bs s_0)), (3, .int .i64 st38), (28, .bool true), (29, .string (bs s_0)), (30, .int .i64 st38)] (by kernel_rfl) ?_
  obtain ⟨x93, hx94, hm⟩ := bindE hm
  refine WL.st (.int .u8 (x93.toNat : Int)) (ST.sindex hx94 rfl rfl rfl Tryz.underlying9) rfl rfl rfl ?_
  obtain ⟨x95, hx96, hm⟩ := bindE hm
  refine WL.call 78 #[.int .u8 (x93.toNat : Int)] rfl rfl (by kernel_rfl) (c_78 n (x93.toNat : Int) w86 hx96 ) ?_
  rintro _ w97 ⟨rfl, hE98⟩
  refine ⟨_, rfl, ?_⟩
  have hb100 : Ext w w97 := Ext.trans hb89 hE98
  have hL101 : w.heap.size ≤ w97.heap.size := Nat.le_trans hL90 hE98.size
  have hS102 : SH w97 w.heap.size [] := SH.ext hS91 hE98
  refine WL.runk 3 [0, 3, 35] [(0, .string (bs s_0)), (3, .int .i64 st38), (35, .bool (!x95))] (by kernel_rfl) ?_
  refine WL.case (!x95) [35] ⟨rfl, trivial⟩ (fun hc103 => ?_) (fun hc103 => ?_)
  rotate_left
  · have hm := iteF hm hc103
    refine WL.runk 5 [0, 3, 40] [(0, .string (bs s_0)), (3, .int .i64 st38), (40, .bool false)] (by kernel_rfl) ?_
    refine WL.nil ?_
    obtain rfl := Option.some.inj hm
    exact WQ.post' ⟨rfl, hb100, hL101, hS102⟩ ⟨rfl, rfl, rfl, trivial⟩
  have hm := iteT hm hc103
  refine WL.runk 2 [0, 3, 35, 36, 37] [(0, .string (bs s_0)), (3, .int .i64 st38), (35, .bool true), (36, .string (bs s_0)), (37, .int .i64 st38)] (by kernel_rfl) ?_
  obtain ⟨x104, hx105, hm⟩ := bindE hm
  refine WL.st (.int .u8 (x104.toNat : Int)) (ST.sindex hx105 rfl rfl rfl Tryz.underlying9) rfl rfl rfl ?_
  refine WL.runk 2 [0, 3, 40] [(0, .string (bs s_0)), (3, .int .i64 st38), (40, .bool ((x104.toNat : Int) != 45))] (by kernel_rfl) ?_
  refine WL.nil ?_
  obtain rfl := Option.some.inj hm
  exact WQ.post' ⟨rfl, hb100, hL101, hS102⟩ ⟨rfl, rfl, rfl, trivial⟩

theorem c_45 (n : Nat) (g_0 : SGood) (b0' o0' : Nat) (w : World) {r : Bool} (hm : m_spec_l23One n g_0 = some r) (h0 : RdB w b0' o0' [.string (bs g_0.Name), .int .i64 g_0.OnHand, .int .i64 g_0.Reserved, .int .i64 g_0.Least]) :
    CallV Tryz.prog 45 #[.pointer (some ⟨b0', o0', none⟩)] w (fun v w' => v = .bool r ∧ Ext w w') := by
  unfold m_spec_l23One at hm
  refine CallV.enter Tryz.func45 rfl (by kernel_rfl) Tryz.ntmps45 (env := [(0, .pointer (some ⟨b0', o0', none⟩))]) ⟨rfl, trivial⟩ ?_
  refine WP.seq (fun K1 hK1 => ?_)
  refine WP.region ?_
  refine WL.runk 1 [0] [(0, .pointer (some ⟨b0', o0', none⟩))] (by kernel_rfl) ?_
  refine WL.nil ?_
  refine WQ.then_normal (hK1 _ _ _ ?_)
  refine WP.seq (fun K2 hK2 => ?_)
  obtain ⟨x42, hx43, hm⟩ := bindE hm
  refine WP.cut (fun env' w' => env' = [(2, .bool x42)] ∧ Ext w w' ∧ w.heap.size ≤ w'.heap.size ∧ SH w' w.heap.size []) ?_ ?_
  rotate_left
  · clear hx43
    rintro _ w83 ⟨rfl, hb84, hL85, hS86⟩
    refine WQ.then_normal (hK2 _ _ _ ?_)
    refine WP.ret ?_
    obtain rfl := Option.some.inj hm
    exact WQ.ret1 _ rfl rfl ⟨rfl, hb84⟩
  have hm := hx43; clear hx43
  refine WP.quiet (by kernel_rfl) (by kernel_rfl) ?_
  refine QL.step1v 3 (.pointer (some ⟨b0', o0', none⟩)) rfl (fun _ => by kernel_rfl) ?_
  refine QL.step1v 4 (.pointer (some ⟨b0', o0', none⟩)) rfl (fun _ => by kernel_rfl) ?_
  refine QL.step1v 5 (.pointer (some ⟨b0', o0', none⟩)) rfl (fun _ => by kernel_rfl) ?_
  refine QL.subk [0, 5] [(0, .pointer (some ⟨b0', o0', none⟩)), (5, .pointer (some ⟨b0', o0', none⟩))] (by kernel_rfl) ?_
  refine QL.st (.string (bs g_0.Name)) (ST.load (cell_ext (RdB.at (RdB.below h0 (Ext.refl w)) 0 _ rfl)) rfl rfl Tryz.underlying9 rfl) rfl rfl rfl ?_
  obtain ⟨x44, hx45, hm⟩ := bindE hm
  refine QL.call 70 #[.string (bs g_0.Name)] (.bool x44) (fun _ => by kernel_rfl) (fun w46 hE47 => c_70 n g_0.Name w46 hx45 ) rfl rfl rfl ?_
  refine QL.step1v 8 (.bool x44) rfl (fun _ => by kernel_rfl) ?_
  refine QL.subk [0, 8] [(0, .pointer (some ⟨b0', o0', none⟩)), (8, .bool x44)] (by kernel_rfl) ?_
  refine QL.case x44 [8] ⟨rfl, trivial⟩ (fun hc48 => ?_) (fun hc48 => ?_)
  rotate_left
  · have hm := iteF hm hc48
    refine QL.step1v 9 undef rfl (fun _ => by kernel_rfl) ?_
    refine QL.step1v 10 undef rfl (fun _ => by kernel_rfl) ?_
    refine QL.step1v 11 undef rfl (fun _ => by kernel_rfl) ?_
    refine QL.step1v 12 undef rfl (fun _ => by kernel_rfl) ?_
    refine QL.step1v 13 undef rfl (fun _ => by kernel_rfl) ?_
    refine QL.step1v 14 (.bool false) rfl (fun _ => by kernel_rfl) ?_
    refine QL.step1v 15 (.bool false) rfl (fun _ => by kernel_rfl) ?_
    refine QL.step1v 16 undef rfl (fun _ => by kernel_rfl) ?_
    refine QL.step1v 17 undef rfl (fun _ => by kernel_rfl) ?_
    refine QL.step1v 18 undef rfl (fun _ => by kernel_rfl) ?_
    refine QL.step1v 19 undef rfl (fun _ => by kernel_rfl) ?_
    refine QL.step1v 20 undef rfl (fun _ => by kernel_rfl) ?_
    refine QL.step1v 21 undef rfl (fun _ => by kernel_rfl) ?_
    refine QL.step1v 22 undef rfl (fun _ => by kernel_rfl) ?_
    refine QL.step1v 23 undef rfl (fun _ => by kernel_rfl) ?_
    refine QL.step1v 24 undef rfl (fun _ => by kernel_rfl) ?_
    refine QL.step1v 25 (.bool false) rfl (fun _ => by kernel_rfl) ?_
    refine QL.step1v 26 (.bool false) rfl (fun _ => by kernel_rfl) ?_
    refine QL.step1v 27 undef rfl (fun _ => by kernel_rfl) ?_
    refine QL.step1v 28 undef rfl (fun _ => by kernel_rfl) ?_
    refine QL.step1v 29 undef rfl (fun _ => by kernel_rfl) ?_
    refine QL.step1v 30 undef rfl (fun _ => by kernel_rfl) ?_
    refine QL.step1v 31 undef rfl (fun _ => by kernel_rfl) ?_
    refine QL.step1v 32 (.bool false) rfl (fun _ => by kernel_rfl) ?_
    refine QL.step1v 2 (.bool false) rfl (fun _ => by kernel_rfl) ?_
    refine QL.subk [2] [(2, .bool false)] (by kernel_rfl) ?_
    refine QL.nil ?_
    intro w78 hE79
    have hb80 : Ext w w78 := Ext.trans (Ext.refl w) hE79
    have hL81 : w.heap.size ≤ w78.heap.size := Nat.le_trans (Nat.le_refl _) hE79.size
    have hS82 : SH w78 w.heap.size [] := SH.ext (SH.nil _ _) hE79
    obtain rfl := Option.some.inj hm
    exact WQ.post' ⟨rfl, hb80, hL81, hS82⟩ ⟨rfl, trivial⟩
  have hm := iteT hm hc48
  refine QL.step1v 9 (.pointer (some ⟨b0', o0', none⟩)) rfl (fun _ => by kernel_rfl) ?_
  refine QL.step1v 10 (.pointer (some ⟨b0', o0', none⟩)) rfl (fun _ => by kernel_rfl) ?_
  refine QL.step1v 11 (.pointer (some ⟨b0', o0' + 1, none⟩)) rfl (fun _ => by kernel_rfl) ?_
  refine QL.subk [0, 8, 11] [(0, .pointer (some ⟨b0', o0', none⟩)), (8, .bool true), (11, .pointer (some ⟨b0', o0' + 1, none⟩))] (by kernel_rfl) ?_
  refine QL.st (.int .i64 g_0.OnHand) (ST.load (cell_ext (RdB.at (RdB.below h0 (Ext.refl w)) 1 _ rfl)) rfl rfl Tryz.underlying2 rfl) rfl rfl rfl ?_
  obtain ⟨x49, hx50, hm⟩ := bindE hm
  refine QL.call 63 #[.int .i64 g_0.OnHand] (.bool x49) (fun _ => by kernel_rfl) (fun w51 hE52 => c_63 n g_0.OnHand w51 hx50 ) rfl rfl rfl ?_
  refine QL.step1v 14 (.bool x49) rfl (fun _ => by kernel_rfl) ?_
  refine QL.step1v 15 (.bool x49) rfl (fun _ => by kernel_rfl) ?_
  refine QL.subk [0, 15] [(0, .pointer (some ⟨b0', o0', none⟩)), (15, .bool x49)] (by kernel_rfl) ?_
  refine QL.case x49 [15] ⟨rfl, trivial⟩ (fun hc53 => ?_) (fun hc53 => ?_)
  rotate_left
  · have hm := iteF hm hc53
    refine QL.step1v 16 undef rfl (fun _ => by kernel_rfl) ?_
    refine QL.step1v 17 undef rfl (fun _ => by kernel_rfl) ?_
    refine QL.step1v 18 undef rfl (fun _ => by kernel_rfl) ?_
    refine QL.step1v 19 undef rfl (fun _ => by kernel_rfl) ?_
    refine QL.step1v 20 undef rfl (fun _ => by kernel_rfl) ?_
    refine QL.step1v 21 undef rfl (fun _ => by kernel_rfl) ?_
    refine QL.step1v 22 undef rfl (fun _ => by kernel_rfl) ?_
    refine QL.step1v 23 undef rfl (fun _ => by kernel_rfl) ?_
    refine QL.step1v 24 undef rfl (fun _ => by kernel_rfl) ?_
    refine QL.step1v 25 (.bool false) rfl (fun _ => by kernel_rfl) ?_
    refine QL.step1v 26 (.bool false) rfl (fun _ => by kernel_rfl) ?_
    refine QL.step1v 27 undef rfl (fun _ => by kernel_rfl) ?_
    refine QL.step1v 28 undef rfl (fun _ => by kernel_rfl) ?_
    refine QL.step1v 29 undef rfl (fun _ => by kernel_rfl) ?_
    refine QL.step1v 30 undef rfl (fun _ => by kernel_rfl) ?_
    refine QL.step1v 31 undef rfl (fun _ => by kernel_rfl) ?_
    refine QL.step1v 32 (.bool false) rfl (fun _ => by kernel_rfl) ?_
    refine QL.step1v 2 (.bool false) rfl (fun _ => by kernel_rfl) ?_
    refine QL.subk [2] [(2, .bool false)] (by kernel_rfl) ?_
    refine QL.nil ?_
    intro w73 hE74
    have hb75 : Ext w w73 := Ext.trans (Ext.refl w) hE74
    have hL76 : w.heap.size ≤ w73.heap.size := Nat.le_trans (Nat.le_refl _) hE74.size
    have hS77 : SH w73 w.heap.size [] := SH.ext (SH.nil _ _) hE74
    obtain rfl := Option.some.inj hm
    exact WQ.post' ⟨rfl, hb75, hL76, hS77⟩ ⟨rfl, trivial⟩
  have hm := iteT hm hc53
  refine QL.step1v 16 (.pointer (some ⟨b0', o0', none⟩)) rfl (fun _ => by kernel_rfl) ?_
  refine QL.step1v 17 (.pointer (some ⟨b0', o0', none⟩)) rfl (fun _ => by kernel_rfl) ?_
  refine QL.step1v 18 (.pointer (some ⟨b0', o0' + 2, none⟩)) rfl (fun _ => by kernel_rfl) ?_
  refine QL.subk [0, 15, 18] [(0, .pointer (some ⟨b0', o0', none⟩)), (15, .bool true), (18, .pointer (some ⟨b0', o0' + 2, none⟩))] (by kernel_rfl) ?_
  refine QL.st (.int .i64 g_0.Reserved) (ST.load (cell_ext (RdB.at (RdB.below h0 (Ext.refl w)) 2 _ rfl)) rfl rfl Tryz.underlying2 rfl) rfl rfl rfl ?_
  refine QL.step1v 20 (.pointer (some ⟨b0', o0', none⟩)) rfl (fun _ => by kernel_rfl) ?_
  refine QL.step1v 21 (.pointer (some ⟨b0', o0', none⟩)) rfl (fun _ => by kernel_rfl) ?_
  refine QL.step1v 22 (.pointer (some ⟨b0', o0' + 1, none⟩)) rfl (fun _ => by kernel_rfl) ?_
  refine QL.subk [0, 15, 19, 22] [(0, .pointer (some ⟨b0', o0', none⟩)), (15, .bool true), (19, .int .i64 g_0.Reserved), (22, .pointer (some ⟨b0', o0' + 1, none⟩))] (by kernel_rfl) ?_
  refine QL.st (.int .i64 g_0.OnHand) (ST.load (cell_ext (RdB.at (RdB.below h0 (Ext.refl w)) 1 _ rfl)) rfl rfl Tryz.underlying2 rfl) rfl rfl rfl ?_
  obtain ⟨x54, hx55, hm⟩ := bindE hm
  refine QL.call 71 #[.int .i64 g_0.Reserved, .int .i64 0, .int .i64 g_0.OnHand] (.bool x54) (fun _ => by kernel_rfl) (fun w56 hE57 => c_71 n g_0.Reserved 0 g_0.OnHand w56 hx55 ) rfl rfl rfl ?_
  refine QL.step1v 25 (.bool x54) rfl (fun _ => by kernel_rfl) ?_
  refine QL.step1v 26 (.bool x54) rfl (fun _ => by kernel_rfl) ?_
  refine QL.subk [0, 26] [(0, .pointer (some ⟨b0', o0', none⟩)), (26, .bool x54)] (by kernel_rfl) ?_
  refine QL.case x54 [26] ⟨rfl, trivial⟩ (fun hc58 => ?_) (fun hc58 => ?_)
  rotate_left
  · have hm := iteF hm hc58
    refine QL.step1v 27 undef rfl (fun _ => by kernel_rfl) ?_
    refine QL.step1v 28 undef rfl (fun _ => by kernel_rfl) ?_
    refine QL.step1v 29 undef rfl (fun _ => by kernel_rfl) ?_
    refine QL.step1v 30 undef rfl (fun _ => by kernel_rfl) ?_
    refine QL.step1v 31 undef rfl (fun _ => by kernel_rfl) ?_
    refine QL.step1v 32 (.bool false) rfl (fun _ => by kernel_rfl) ?_
    refine QL.step1v 2 (.bool false) rfl (fun _ => by kernel_rfl) ?_
    refine QL.subk [2] [(2, .bool false)] (by kernel_rfl) ?_
    refine QL.nil ?_
    intro w68 hE69
    have hb70 : Ext w w68 := Ext.trans (Ext.refl w) hE69
    have hL71 : w.heap.size ≤ w68.heap.size := Nat.le_trans (Nat.le_refl _) hE69.size
    have hS72 : SH w68 w.heap.size [] := SH.ext (SH.nil _ _) hE69
    obtain rfl := Option.some.inj hm
    exact WQ.post' ⟨rfl, hb70, hL71, hS72⟩ ⟨rfl, trivial⟩
  have hm := iteT hm hc58
  refine QL.step1v 27 (.pointer (some ⟨b0', o0', none⟩)) rfl (fun _ => by kernel_rfl) ?_
  refine QL.step1v 28 (.pointer (some ⟨b0', o0', none⟩)) rfl (fun _ => by kernel_rfl) ?_
  refine QL.step1v 29 (.pointer (some ⟨b0', o0' + 3, none⟩)) rfl (fun _ => by kernel_rfl) ?_
  refine QL.subk [26, 29] [(26, .bool true), (29, .pointer (some ⟨b0', o0' + 3, none⟩))] (by kernel_rfl) ?_
  refine QL.st (.int .i64 g_0.Least) (ST.load (cell_ext (RdB.at (RdB.below h0 (Ext.refl w)) 3 _ rfl)) rfl rfl Tryz.underlying2 rfl) rfl rfl rfl ?_
  obtain ⟨x59, hx60, hm⟩ := bindE hm
  refine QL.call 63 #[.int .i64 g_0.Least] (.bool x59) (fun _ => by kernel_rfl) (fun w61 hE62 => c_63 n g_0.Least w61 hx60 ) rfl rfl rfl ?_
  refine QL.step1v 32 (.bool x59) rfl (fun _ => by kernel_rfl) ?_
  refine QL.step1v 2 (.bool x59) rfl (fun _ => by kernel_rfl) ?_
  refine QL.subk [2] [(2, .bool x59)] (by kernel_rfl) ?_
  refine QL.nil ?_
  intro w63 hE64
  have hb65 : Ext w w63 := Ext.trans (Ext.refl w) hE64
  have hL66 : w.heap.size ≤ w63.heap.size := Nat.le_trans (Nat.le_refl _) hE64.size
  have hS67 : SH w63 w.heap.size [] := SH.ext (SH.nil _ _) hE64
  obtain rfl := Option.some.inj hm
  exact WQ.post' ⟨rfl, hb65, hL66, hS67⟩ ⟨rfl, trivial⟩

theorem c_44 (n : Nat) (list_0 : List SGood) (a0' : Option Addr) (c0' : Nat) (w : World) {r : Bool} (hm : m_spec_l23Ok n list_0 = some r) (h0 : Rd fGood.ty w a0' list_0) (_hle0 : list_0.length ≤ c0') :
    CallV Tryz.prog 44 #[.slice a0' list_0.length c0'] w (fun v w' => v = .bool r ∧ Ext w w') := by
  unfold m_spec_l23Ok at hm
  refine CallV.enter Tryz.func44 rfl (by kernel_rfl) Tryz.ntmps44 (env := [(0, .slice a0' list_0.length c0')]) ⟨rfl, trivial⟩ ?_
  refine WP.seq (fun K1 hK1 => ?_)
  refine WP.region ?_
  refine WL.runk 1 [0] [(0, .slice a0' list_0.length c0')] (by kernel_rfl) ?_
  refine WL.nil ?_
  refine WQ.then_normal (hK1 _ _ _ ?_)
  refine WP.seq (fun K2 hK2 => ?_)
  refine WP.seq (fun K3 hK3 => ?_)
  refine WP.region ?_
  refine WL.runk 1 [0, 3] [(0, .slice a0' list_0.length c0'), (3, .int .i64 0)] (by kernel_rfl) ?_
  refine WL.nil ?_
  refine WQ.then_normal (hK3 _ _ _ ?_)
  refine WP.block ?_
  obtain ⟨t15, ht16, hm⟩ := bindE hm
  have hmo10 := hm; clear hm
  refine WP.sub [(0, .slice a0' list_0.length c0'), (3, .int .i64 0)] ⟨rfl, rfl, trivial⟩ ?_
  refine WP.loop (fun n' env' w' => ∃ (st4 : Int) , env' = [(0, .slice a0' list_0.length c0'), (3, .int .i64 st4)] ∧ Ext w w' ∧ w.heap.size ≤ w'.heap.size ∧ SH w' w.heap.size [] ∧ loopN (m_spec_l23Ok_l1 n list_0) n' st4 = some t15) n ⟨0, rfl, (Ext.refl w), (Nat.le_refl _), (SH.nil _ _), ht16⟩ ?_
  rintro n12 _ w5 ⟨st4, rfl, hb6, hL7, hS8, hl9⟩ K11 hK11
  obtain ⟨n13, s14, rfl, hm, hl9⟩ := loopN_some hl9
  unfold m_spec_l23Ok_l1 at hm
  refine WP.seq (fun K17 hK17 => ?_)
  refine WP.seq (fun K18 hK18 => ?_)
  refine WP.region ?_
  refine WL.runk 4 [0, 3, 7] [(0, .slice a0' list_0.length c0'), (3, .int .i64 st4), (7, .bool (decide (st4 < (list_0.length : Int))))] (by kernel_rfl) ?_
  refine WL.nil ?_
  refine WQ.then_normal (hK18 _ _ _ ?_)
  refine WP.cond (decide (st4 < (list_0.length : Int))) rfl rfl (fun hc19 => ?_) (fun hc19 => ?_)
  rotate_left
  · have hm := iteF hm hc19
    refine WP.exit ?_
    refine WQ.then_exit ?_
    refine WQ.then_exit ?_
    refine WQ.block_here ?_
    obtain rfl := Option.some.inj hm
    obtain rfl := afterN_done hl9
    have hm := hmo10
    refine WQ.then_normal (hK2 _ _ _ ?_)
    refine WP.seq (fun K84 hK84 => ?_)
    refine WP.region ?_
    refine WL.runk 4 [2] [(2, .bool (decide ((list_0.length : Int) ≤ 40)))] (by kernel_rfl) ?_
    refine WL.nil ?_
    refine WQ.then_normal (hK84 _ _ _ ?_)
    refine WP.ret ?_
    obtain rfl := Option.some.inj hm
    exact WQ.ret1 _ rfl rfl ⟨rfl, hb6⟩
  have hm := iteT hm hc19
  refine WP.skip ?_
  refine WQ.then_normal (hK17 _ _ _ ?_)
  refine WP.seq (fun K20 hK20 => ?_)
  refine WP.block ?_
  refine WP.seq (fun K21 hK21 => ?_)
  obtain ⟨x49, hx50, hm⟩ := bindE hm
  refine WP.cut (fun env' w' => env' = [(0, .slice a0' list_0.length c0'), (3, .int .i64 st4), (32, .bool x49)] ∧ Ext w w' ∧ w.heap.size ≤ w'.heap.size ∧ SH w' w.heap.size []) ?_ ?_
  rotate_left
  · clear hx50
    rintro _ w78 ⟨rfl, hb79, hL80, hS81⟩
    refine WQ.then_normal (hK21 _ _ _ ?_)
    refine WP.cond x49 rfl rfl (fun hc82 => ?_) (fun hc82 => ?_)
    rotate_left
    · have hm := iteF hm hc82
      refine WP.skip ?_
      refine WQ.block_normal ?_
      refine WQ.then_normal (hK20 _ _ _ ?_)
      refine WP.region ?_
      refine WL.runk 3 [0, 3] [(0, .slice a0' list_0.length c0'), (3, .int .i64 (wI64 (st4 + 1)))] (by kernel_rfl) ?_
      refine WL.nil ?_
      obtain rfl := Option.some.inj hm
      exact WQ.round hK11 ⟨(wI64 (st4 + 1)), rfl, hb79, hL80, hS81, hl9⟩ (Nat.lt_succ_self _) ⟨rfl, rfl, trivial⟩
    have hm := iteT hm hc82
    refine WP.seq (fun K83 hK83 => ?_)
    refine WP.region ?_
    refine WL.runk 1 [2] [(2, .bool false)] (by kernel_rfl) ?_
    refine WL.nil ?_
    refine WQ.then_normal (hK83 _ _ _ ?_)
    refine WP.ret ?_
    refine WQ.block_ret ?_
    refine WQ.then_ret ?_
    refine WQ.then_ret ?_
    refine WQ.block_ret ?_
    refine WQ.then_ret ?_
    obtain rfl := Option.some.inj hm
    obtain rfl := afterN_done hl9
    have hm := hmo10
    obtain rfl := Option.some.inj hm
    exact WQ.ret1 _ rfl rfl ⟨rfl, hb79⟩
  have hm := hx50; clear hx50
  refine WP.quiet (by kernel_rfl) (by kernel_rfl) ?_
  refine QL.step1v 10 (.slice a0' list_0.length c0') rfl (fun _ => by kernel_rfl) ?_
  refine QL.step1v 11 (.int .i64 st4) rfl (fun _ => by kernel_rfl) ?_
  refine QL.subk [0, 3, 10, 11] [(0, .slice a0' list_0.length c0'), (3, .int .i64 st4), (10, .slice a0' list_0.length c0'), (11, .int .i64 st4)] (by kernel_rfl) ?_
  obtain ⟨x51, hx52, hm⟩ := bindE hm
  refine QL.st (.pointer (some (at_ a0' (Int.toNat st4 * 4)))) (ST.index (T := fGood.ty) (xs := list_0) (Rd.below h0 hb6) hx52 rfl rfl rfl Tryz.underlying24 (info31).1 (info31).2.1) rfl rfl rfl ?_
  obtain ⟨x53, hx54, hm⟩ := bindE hm
  refine QL.call 45 #[.pointer (some (at_ a0' (Int.toNat st4 * 4)))] (.bool x53) (fun _ => by kernel_rfl) (fun w55 hE56 => c_45 n x51 ((ba a0').block) ((ba a0').off + Int.toNat st4 * 4) w55 hx54 (RdB.below (RdB.ofRd (F := fGood) (Rd.below h0 hb6) hx52) hE56)) rfl rfl rfl ?_
  refine QL.step1v 14 (.bool (!x53)) rfl (fun _ => by kernel_rfl) ?_
  refine QL.step1v 15 (.bool (!x53)) rfl (fun _ => by kernel_rfl) ?_
  refine QL.subk [0, 3, 15] [(0, .slice a0' list_0.length c0'), (3, .int .i64 st4), (15, .bool (!x53))] (by kernel_rfl) ?_
  refine QL.case (!x53) [15] ⟨rfl, trivial⟩ (fun hc57 => ?_) (fun hc57 => ?_)
  · have hm := iteT hm hc57
    refine QL.step1v 16 undef rfl (fun _ => by kernel_rfl) ?_
    refine QL.step1v 17 undef rfl (fun _ => by kernel_rfl) ?_
    refine QL.step1v 18 undef rfl (fun _ => by kernel_rfl) ?_
    refine QL.step1v 19 undef rfl (fun _ => by kernel_rfl) ?_
    refine QL.step1v 20 undef rfl (fun _ => by kernel_rfl) ?_
    refine QL.step1v 21 undef rfl (fun _ => by kernel_rfl) ?_
    refine QL.step1v 22 undef rfl (fun _ => by kernel_rfl) ?_
    refine QL.step1v 23 undef rfl (fun _ => by kernel_rfl) ?_
    refine QL.step1v 24 undef rfl (fun _ => by kernel_rfl) ?_
    refine QL.step1v 25 undef rfl (fun _ => by kernel_rfl) ?_
    refine QL.step1v 26 undef rfl (fun _ => by kernel_rfl) ?_
    refine QL.step1v 27 undef rfl (fun _ => by kernel_rfl) ?_
    refine QL.step1v 28 undef rfl (fun _ => by kernel_rfl) ?_
    refine QL.step1v 29 undef rfl (fun _ => by kernel_rfl) ?_
    refine QL.step1v 30 undef rfl (fun _ => by kernel_rfl) ?_
    refine QL.step1v 31 undef rfl (fun _ => by kernel_rfl) ?_
    refine QL.step1v 32 (.bool true) rfl (fun _ => by kernel_rfl) ?_
    refine QL.subk [0, 3, 32] [(0, .slice a0' list_0.length c0'), (3, .int .i64 st4), (32, .bool true)] (by kernel_rfl) ?_
    refine QL.nil ?_
    intro w58 hE59
    have hb60 : Ext w w58 := Ext.trans hb6 hE59
    have hL61 : w.heap.size ≤ w58.heap.size := Nat.le_trans hL7 hE59.size
    have hS62 : SH w58 w.heap.size [] := SH.ext hS8 hE59
    obtain rfl := Option.some.inj hm
    exact WQ.post' ⟨rfl, hb60, hL61, hS62⟩ ⟨rfl, rfl, rfl, trivial⟩
  have hm := iteF hm hc57
  refine QL.step1v 16 (.int .i64 st4) rfl (fun _ => by kernel_rfl) ?_
  refine QL.step1v 17 (.bool (decide (st4 > 0))) rfl (fun _ => by kernel_rfl) ?_
  refine QL.step1v 18 (.bool (decide (st4 > 0))) rfl (fun _ => by kernel_rfl) ?_
  refine QL.subk [0, 3, 15, 18] [(0, .slice a0' list_0.length c0'), (3, .int .i64 st4), (15, .bool false), (18, .bool (decide (st4 > 0)))] (by kernel_rfl) ?_
  refine QL.case (decide (st4 > 0)) [18] ⟨rfl, trivial⟩ (fun hc63 => ?_) (fun hc63 => ?_)
  rotate_left
  · have hm := iteF hm hc63
    refine QL.step1v 19 undef rfl (fun _ => by kernel_rfl) ?_
    refine QL.step1v 20 undef rfl (fun _ => by kernel_rfl) ?_
    refine QL.step1v 21 undef rfl (fun _ => by kernel_rfl) ?_
    refine QL.step1v 22 undef rfl (fun _ => by kernel_rfl) ?_
    refine QL.step1v 23 undef rfl (fun _ => by kernel_rfl) ?_
    refine QL.step1v 24 undef rfl (fun _ => by kernel_rfl) ?_
    refine QL.step1v 25 undef rfl (fun _ => by kernel_rfl) ?_
    refine QL.step1v 26 undef rfl (fun _ => by kernel_rfl) ?_
    refine QL.step1v 27 undef rfl (fun _ => by kernel_rfl) ?_
    refine QL.step1v 28 undef rfl (fun _ => by kernel_rfl) ?_
    refine QL.step1v 29 undef rfl (fun _ => by kernel_rfl) ?_
    refine QL.step1v 30 undef rfl (fun _ => by kernel_rfl) ?_
    refine QL.step1v 31 (.bool false) rfl (fun _ => by kernel_rfl) ?_
    refine QL.step1v 32 (.bool false) rfl (fun _ => by kernel_rfl) ?_
    refine QL.subk [0, 3, 32] [(0, .slice a0' list_0.length c0'), (3, .int .i64 st4), (32, .bool false)] (by kernel_rfl) ?_
    refine QL.nil ?_
    intro w73 hE74
    have hb75 : Ext w w73 := Ext.trans hb6 hE74
    have hL76 : w.heap.size ≤ w73.heap.size := Nat.le_trans hL7 hE74.size
    have hS77 : SH w73 w.heap.size [] := SH.ext hS8 hE74
    obtain rfl := Option.some.inj hm
    exact WQ.post' ⟨rfl, hb75, hL76, hS77⟩ ⟨rfl, rfl, rfl, trivial⟩
  have hm := iteT hm hc63
  refine QL.step1v 19 (.slice a0' list_0.length c0') rfl (fun _ => by kernel_rfl) ?_
  refine QL.step1v 20 (.int .i64 st4) rfl (fun _ => by kernel_rfl) ?_
  refine QL.step1v 21 (.int .i64 (wI64 (st4 - 1))) rfl (fun _ => by kernel_rfl) ?_
  refine QL.subk [0, 3, 15, 18, 19, 21] [(0, .slice a0' list_0.length c0'), (3, .int .i64 st4), (15, .bool false), (18, .bool true), (19, .slice a0' list_0.length c0'), (21, .int .i64 (wI64 (st4 - 1)))] (by kernel_rfl) ?_
  obtain ⟨x64, hx65, hm⟩ := bindE hm
  refine QL.st (.pointer (some (at_ a0' (Int.toNat (wI64 (st4 - 1)) * 4)))) (ST.index (T := fGood.ty) (xs := list_0) (Rd.below h0 hb6) hx65 rfl rfl rfl Tryz.underlying24 (info31).1 (info31).2.1) rfl rfl rfl ?_
  refine QL.step1v 23 (.pointer (some (at_ a0' (Int.toNat (wI64 (st4 - 1)) * 4)))) rfl (fun _ => by kernel_rfl) ?_
  refine QL.subk [0, 3, 15, 18, 23] [(0, .slice a0' list_0.length c0'), (3, .int .i64 st4), (15, .bool false), (18, .bool true), (23, .pointer (some (at_ a0' (Int.toNat (wI64 (st4 - 1)) * 4))))] (by kernel_rfl) ?_
  refine QL.st (.string (bs x64.Name)) (ST.load (cell_ext (Rd.flat (F := fGood) (Rd.below h0 hb6) hx65 0 rfl)) rfl rfl Tryz.underlying9 rfl) rfl rfl rfl ?_
  refine QL.step1v 25 (.slice a0' list_0.length c0') rfl (fun _ => by kernel_rfl) ?_
  refine QL.step1v 26 (.int .i64 st4) rfl (fun _ => by kernel_rfl) ?_
  refine QL.subk [0, 3, 15, 18, 24, 25, 26] [(0, .slice a0' list_0.length c0'), (3, .int .i64 st4), (15, .bool false), (18, .bool true), (24, .string (bs x64.Name)), (25, .slice a0' list_0.length c0'), (26, .int .i64 st4)] (by kernel_rfl) ?_
  obtain ⟨x66, hx67, hm⟩ := bindE hm
  refine QL.st (.pointer (some (at_ a0' (Int.toNat st4 * 4)))) (ST.index (T := fGood.ty) (xs := list_0) (Rd.below h0 hb6) hx67 rfl rfl rfl Tryz.underlying24 (info31).1 (info31).2.1) rfl rfl rfl ?_
  refine QL.step1v 28 (.pointer (some (at_ a0' (Int.toNat st4 * 4)))) rfl (fun _ => by kernel_rfl) ?_
  refine QL.subk [0, 3, 15, 18, 24, 28] [(0, .slice a0' list_0.length c0'), (3, .int .i64 st4), (15, .bool false), (18, .bool true), (24, .string (bs x64.Name)), (28, .pointer (some (at_ a0' (Int.toNat st4 * 4))))] (by kernel_rfl) ?_
  refine QL.st (.string (bs x66.Name)) (ST.load (cell_ext (Rd.flat (F := fGood) (Rd.below h0 hb6) hx67 0 rfl)) rfl rfl Tryz.underlying9 rfl) rfl rfl rfl ?_
  refine QL.st (.bool (!strLt x64.Name x66.Name)) (ST.strge (x := x64.Name) (y := x66.Name) rfl rfl rfl) rfl rfl rfl ?_
  refine QL.step1v 31 (.bool (!strLt x64.Name x66.Name)) rfl (fun _ => by kernel_rfl) ?_
  refine QL.step1v 32 (.bool (!strLt x64.Name x66.Name)) rfl (fun _ => by kernel_rfl) ?_
  refine QL.subk [0, 3, 32] [(0, .slice a0' list_0.length c0'), (3, .int .i64 st4), (32, .bool (!strLt x64.Name x66.Name))] (by kernel_rfl) ?_
  refine QL.nil ?_
  intro w68 hE69
  have hb70 : Ext w w68 := Ext.trans hb6 hE69
  have hL71 : w.heap.size ≤ w68.heap.size := Nat.le_trans hL7 hE69.size
  have hS72 : SH w68 w.heap.size [] := SH.ext hS8 hE69
  obtain rfl := Option.some.inj hm
  exact WQ.post' ⟨rfl, hb70, hL71, hS72⟩ ⟨rfl, rfl, rfl, trivial⟩

theorem c_47 (n : Nat) (t_0 : STake) (b0' o0' : Nat) (w : World) {r : Bool} (hm : m_spec_l23Take n t_0 = some r) (h0 : RdB w b0' o0' [.string (bs t_0.Name), .int .i64 t_0.Many]) :
    CallV Tryz.prog 47 #[.pointer (some ⟨b0', o0', none⟩)] w (fun v w' => v = .bool r ∧ Ext w w') := by
  unfold m_spec_l23Take at hm
  refine CallV.enter Tryz.func47 rfl (by kernel_rfl) Tryz.ntmps47 (env := [(0, .pointer (some ⟨b0', o0', none⟩))]) ⟨rfl, trivial⟩ ?_
  refine WP.seq (fun K1 hK1 => ?_)
  refine WP.region ?_
  refine WL.runk 1 [0] [(0, .pointer (some ⟨b0', o0', none⟩))] (by kernel_rfl) ?_
  refine WL.nil ?_
  refine WQ.then_normal (hK1 _ _ _ ?_)
  refine WP.seq (fun K2 hK2 => ?_)
  refine WP.region ?_
  refine WL.runk 3 [5] [(5, .pointer (some ⟨b0', o0' + 1, none⟩))] (by kernel_rfl) ?_
  refine WL.st (.int .i64 t_0.Many) (ST.load (cell_ext (RdB.at (RdB.below h0 (Ext.refl w)) 1 _ rfl)) rfl rfl Tryz.underlying2 rfl) rfl rfl rfl ?_
  obtain ⟨x3, hx4, hm⟩ := bindE hm
  refine WL.call 71 #[.int .i64 t_0.Many, .int .i64 (-1000000), .int .i64 1000000] rfl rfl (by kernel_rfl) (c_71 n t_0.Many (-1000000) 1000000 w hx4 ) ?_
  rintro _ w5 ⟨rfl, hE6⟩
  refine ⟨_, rfl, ?_⟩
  have hb8 : Ext w w5 := Ext.trans (Ext.refl w) hE6
  have hL9 : w.heap.size ≤ w5.heap.size := Nat.le_trans (Nat.le_refl _) hE6.size
  have hS10 : SH w5 w.heap.size [] := SH.ext (SH.nil _ _) hE6
  refine WL.runk 1 [2] [(2, .bool x3)] (by kernel_rfl) ?_
  refine WL.nil ?_
  refine WQ.then_normal (hK2 _ _ _ ?_)
  refine WP.ret ?_
  obtain rfl := Option.some.inj hm
  exact WQ.ret1 _ rfl rfl ⟨rfl, hb8⟩

theorem c_35 (n : Nat) (list_0 : List SGood) (a0' : Option Addr) (c0' : Nat) (takes_1 : List STake) (a1' : Option Addr) (c1' : Nat) (w : World) {r : Int} (hm : m_spec_l23Takes n list_0 takes_1 = some r) (h0 : Rd fGood.ty w a0' list_0) (hle0 : list_0.length ≤ c0') (h1 : Rd fTake.ty w a1' takes_1) (_hle1 : takes_1.length ≤ c1') :
    CallV Tryz.prog 35 #[.slice a0' list_0.length c0', .slice a1' takes_1.length c1'] w (fun v w' => v = .int .i64 r ∧ Ext w w') := by
  unfold m_spec_l23Takes at hm
  refine CallV.enter Tryz.func35 rfl (by kernel_rfl) Tryz.ntmps35 (env := [(0, .slice a0' list_0.length c0'), (1, .slice a1' takes_1.length c1')]) ⟨rfl, rfl, trivial⟩ ?_
  refine WP.seq (fun K1 hK1 => ?_)
  refine WP.region ?_
  refine WL.runk 1 [0, 1] [(0, .slice a0' list_0.length c0'), (1, .slice a1' takes_1.length c1')] (by kernel_rfl) ?_
  refine WL.nil ?_
  refine WQ.then_normal (hK1 _ _ _ ?_)
  refine WP.seq (fun K2 hK2 => ?_)
  refine WP.seq (fun K3 hK3 => ?_)
  refine WP.region ?_
  refine WL.runk 1 [1, 6] [(1, .slice a1' takes_1.length c1'), (6, .slice a0' list_0.length c0')] (by kernel_rfl) ?_
  obtain ⟨x4, hx5, hm⟩ := bindE hm
  refine WL.call 44 #[.slice a0' list_0.length c0'] rfl rfl (by kernel_rfl) (c_44 n list_0 a0' c0' w hx5 (Rd.below h0 (Ext.refl w)) hle0) ?_
  rintro _ w6 ⟨rfl, hE7⟩
  refine ⟨_, rfl, ?_⟩
  have hb9 : Ext w w6 := Ext.trans (Ext.refl w) hE7
  have hL10 : w.heap.size ≤ w6.heap.size := Nat.le_trans (Nat.le_refl _) hE7.size
  have hS11 : SH w6 w.heap.size [] := SH.ext (SH.nil _ _) hE7
  refine WL.runk 1 [1, 8] [(1, .slice a1' takes_1.length c1'), (8, .bool (!x4))] (by kernel_rfl) ?_
  refine WL.nil ?_
  refine WQ.then_normal (hK3 _ _ _ ?_)
  refine WP.cond (!x4) rfl rfl (fun hc12 => ?_) (fun hc12 => ?_)
  · have hm := iteT hm hc12
    refine WP.seq (fun K13 hK13 => ?_)
    refine WP.region ?_
    refine WL.runk 1 [4] [(4, .int .i64 1)] (by kernel_rfl) ?_
    refine WL.nil ?_
    refine WQ.then_normal (hK13 _ _ _ ?_)
    refine WP.ret ?_
    refine WQ.then_ret ?_
    obtain rfl := Option.some.inj hm
    exact WQ.ret1 _ rfl rfl ⟨rfl, hb9⟩
  have hm := iteF hm hc12
  refine WP.skip ?_
  refine WQ.then_normal (hK2 _ _ _ ?_)
  refine WP.seq (fun K14 hK14 => ?_)
  refine WP.seq (fun K15 hK15 => ?_)
  refine WP.region ?_
  refine WL.runk 1 [1, 5] [(1, .slice a1' takes_1.length c1'), (5, .int .i64 0)] (by kernel_rfl) ?_
  refine WL.nil ?_
  refine WQ.then_normal (hK15 _ _ _ ?_)
  refine WP.block ?_
  obtain ⟨t27, ht28, hm⟩ := bindE hm
  have hmo22 := hm; clear hm
  refine WP.sub [(1, .slice a1' takes_1.length c1'), (5, .int .i64 0)] ⟨rfl, rfl, trivial⟩ ?_
  refine WP.loop (fun n' env' w' => ∃ (st16 : Int) , env' = [(1, .slice a1' takes_1.length c1'), (5, .int .i64 st16)] ∧ Ext w w' ∧ w.heap.size ≤ w'.heap.size ∧ SH w' w.heap.size [] ∧ loopN (m_spec_l23Takes_l1 n takes_1) n' st16 = some t27) n ⟨0, rfl, hb9, hL10, hS11, ht28⟩ ?_
  rintro n24 _ w17 ⟨st16, rfl, hb18, hL19, hS20, hl21⟩ K23 hK23
  obtain ⟨n25, s26, rfl, hm, hl21⟩ := loopN_some hl21
  unfold m_spec_l23Takes_l1 at hm
  refine WP.seq (fun K29 hK29 => ?_)
  refine WP.seq (fun K30 hK30 => ?_)
  refine WP.region ?_
  refine WL.runk 4 [1, 5, 12] [(1, .slice a1' takes_1.length c1'), (5, .int .i64 st16), (12, .bool (decide (st16 < (takes_1.length : Int))))] (by kernel_rfl) ?_
  refine WL.nil ?_
  refine WQ.then_normal (hK30 _ _ _ ?_)
  refine WP.cond (decide (st16 < (takes_1.length : Int))) rfl rfl (fun hc31 => ?_) (fun hc31 => ?_)
  rotate_left
  · have hm := iteF hm hc31
    refine WP.exit ?_
    refine WQ.then_exit ?_
    refine WQ.then_exit ?_
    refine WQ.block_here ?_
    obtain rfl := Option.some.inj hm
    obtain rfl := afterN_done hl21
    have hm := hmo22
    refine WQ.then_normal (hK14 _ _ _ ?_)
    refine WP.seq (fun K46 hK46 => ?_)
    refine WP.seq (fun K47 hK47 => ?_)
    refine WP.region ?_
    refine WL.runk 3 [22] [(22, .bool (decide ((takes_1.length : Int) > 60)))] (by kernel_rfl) ?_
    refine WL.nil ?_
    refine WQ.then_normal (hK47 _ _ _ ?_)
    refine WP.cond (decide ((takes_1.length : Int) > 60)) rfl rfl (fun hc48 => ?_) (fun hc48 => ?_)
    · have hm := iteT hm hc48
      refine WP.seq (fun K49 hK49 => ?_)
      refine WP.region ?_
      refine WL.runk 1 [4] [(4, .int .i64 2)] (by kernel_rfl) ?_
      refine WL.nil ?_
      refine WQ.then_normal (hK49 _ _ _ ?_)
      refine WP.ret ?_
      refine WQ.then_ret ?_
      obtain rfl := Option.some.inj hm
      exact WQ.ret1 _ rfl rfl ⟨rfl, hb18⟩
    have hm := iteF hm hc48
    refine WP.skip ?_
    refine WQ.then_normal (hK46 _ _ _ ?_)
    refine WP.seq (fun K50 hK50 => ?_)
    refine WP.region ?_
    refine WL.runk 1 [4] [(4, .int .i64 0)] (by kernel_rfl) ?_
    refine WL.nil ?_
    refine WQ.then_normal (hK50 _ _ _ ?_)
    refine WP.ret ?_
    obtain rfl := Option.some.inj hm
    exact WQ.ret1 _ rfl rfl ⟨rfl, hb18⟩
  have hm := iteT hm hc31
  refine WP.skip ?_
  refine WQ.then_normal (hK29 _ _ _ ?_)
  refine WP.seq (fun K32 hK32 => ?_)
  refine WP.block ?_
  refine WP.seq (fun K33 hK33 => ?_)
  refine WP.region ?_
  refine WL.runk 2 [1, 5, 15, 16] [(1, .slice a1' takes_1.length c1'), (5, .int .i64 st16), (15, .slice a1' takes_1.length c1'), (16, .int .i64 st16)] (by kernel_rfl) ?_
  obtain ⟨x34, hx35, hm⟩ := bindE hm
  refine WL.st (.pointer (some (at_ a1' (Int.toNat st16 * 2)))) (ST.index (T := fTake.ty) (xs := takes_1) (Rd.below h1 hb18) hx35 rfl rfl rfl Tryz.underlying25 (info37).1 (info37).2.1) rfl rfl rfl ?_
  obtain ⟨x36, hx37, hm⟩ := bindE hm
  refine WL.call 47 #[.pointer (some (at_ a1' (Int.toNat st16 * 2)))] rfl rfl (by kernel_rfl) (c_47 n x34 ((ba a1').block) ((ba a1').off + Int.toNat st16 * 2) w17 hx37 (RdB.ofRd (F := fTake) (Rd.below h1 hb18) hx35)) ?_
  rintro _ w38 ⟨rfl, hE39⟩
  refine ⟨_, rfl, ?_⟩
  have hb41 : Ext w w38 := Ext.trans hb18 hE39
  have hL42 : w.heap.size ≤ w38.heap.size := Nat.le_trans hL19 hE39.size
  have hS43 : SH w38 w.heap.size [] := SH.ext hS20 hE39
  refine WL.runk 1 [1, 5, 19] [(1, .slice a1' takes_1.length c1'), (5, .int .i64 st16), (19, .bool (!x36))] (by kernel_rfl) ?_
  refine WL.nil ?_
  refine WQ.then_normal (hK33 _ _ _ ?_)
  refine WP.cond (!x36) rfl rfl (fun hc44 => ?_) (fun hc44 => ?_)
  rotate_left
  · have hm := iteF hm hc44
    refine WP.skip ?_
    refine WQ.block_normal ?_
    refine WQ.then_normal (hK32 _ _ _ ?_)
    refine WP.region ?_
    refine WL.runk 3 [1, 5] [(1, .slice a1' takes_1.length c1'), (5, .int .i64 (wI64 (st16 + 1)))] (by kernel_rfl) ?_
    refine WL.nil ?_
    obtain rfl := Option.some.inj hm
    exact WQ.round hK23 ⟨(wI64 (st16 + 1)), rfl, hb41, hL42, hS43, hl21⟩ (Nat.lt_succ_self _) ⟨rfl, rfl, trivial⟩
  have hm := iteT hm hc44
  refine WP.seq (fun K45 hK45 => ?_)
  refine WP.region ?_
  refine WL.runk 1 [4] [(4, .int .i64 2)] (by kernel_rfl) ?_
  refine WL.nil ?_
  refine WQ.then_normal (hK45 _ _ _ ?_)
  refine WP.ret ?_
  refine WQ.block_ret ?_
  refine WQ.then_ret ?_
  refine WQ.then_ret ?_
  refine WQ.block_ret ?_
  refine WQ.then_ret ?_
  obtain rfl := Option.some.inj hm
  obtain rfl := afterN_done hl21
  have hm := hmo22
  obtain rfl := Option.some.inj hm
  exact WQ.ret1 _ rfl rfl ⟨rfl, hb41⟩

theorem c_46 (n : Nat) (list_0 : List SGood) (a0' : Option Addr) (c0' : Nat) (name_1 : List UInt8) (w : World) {r : Int} (hm : m_spec_l23Find n list_0 name_1 = some r) (h0 : Rd fGood.ty w a0' list_0) (_hle0 : list_0.length ≤ c0') :
    CallV Tryz.prog 46 #[.slice a0' list_0.length c0', .string (bs name_1)] w (fun v w' => v = .int .i64 r ∧ Ext w w') := by
  unfold m_spec_l23Find at hm
  refine CallV.enter Tryz.func46 rfl (by kernel_rfl) Tryz.ntmps46 (env := [(0, .slice a0' list_0.length c0'), (1, .string (bs name_1))]) ⟨rfl, rfl, trivial⟩ ?_
  refine WP.seq (fun K1 hK1 => ?_)
  refine WP.region ?_
  refine WL.runk 1 [0, 1] [(0, .slice a0' list_0.length c0'), (1, .string (bs name_1))] (by kernel_rfl) ?_
  refine WL.nil ?_
  refine WQ.then_normal (hK1 _ _ _ ?_)
  refine WP.seq (fun K2 hK2 => ?_)
  refine WP.seq (fun K3 hK3 => ?_)
  refine WP.region ?_
  refine WL.runk 1 [0, 1, 5] [(0, .slice a0' list_0.length c0'), (1, .string (bs name_1)), (5, .int .i64 0)] (by kernel_rfl) ?_
  refine WL.nil ?_
  refine WQ.then_normal (hK3 _ _ _ ?_)
  refine WP.block ?_
  obtain ⟨t15, ht16, hm⟩ := bindE hm
  have hmo10 := hm; clear hm
  refine WP.sub [(0, .slice a0' list_0.length c0'), (1, .string (bs name_1)), (5, .int .i64 0)] ⟨rfl, rfl, rfl, trivial⟩ ?_
  refine WP.loop (fun n' env' w' => ∃ (st4 : Int) , env' = [(0, .slice a0' list_0.length c0'), (1, .string (bs name_1)), (5, .int .i64 st4)] ∧ Ext w w' ∧ w.heap.size ≤ w'.heap.size ∧ SH w' w.heap.size [] ∧ loopN (m_spec_l23Find_l1 n list_0 name_1) n' st4 = some t15) n ⟨0, rfl, (Ext.refl w), (Nat.le_refl _), (SH.nil _ _), ht16⟩ ?_
  rintro n12 _ w5 ⟨st4, rfl, hb6, hL7, hS8, hl9⟩ K11 hK11
  obtain ⟨n13, s14, rfl, hm, hl9⟩ := loopN_some hl9
  unfold m_spec_l23Find_l1 at hm
  refine WP.seq (fun K17 hK17 => ?_)
  refine WP.seq (fun K18 hK18 => ?_)
  refine WP.region ?_
  refine WL.runk 4 [0, 1, 5, 9] [(0, .slice a0' list_0.length c0'), (1, .string (bs name_1)), (5, .int .i64 st4), (9, .bool (decide (st4 < (list_0.length : Int))))] (by kernel_rfl) ?_
  refine WL.nil ?_
  refine WQ.then_normal (hK18 _ _ _ ?_)
  refine WP.cond (decide (st4 < (list_0.length : Int))) rfl rfl (fun hc19 => ?_) (fun hc19 => ?_)
  rotate_left
  · have hm := iteF hm hc19
    refine WP.exit ?_
    refine WQ.then_exit ?_
    refine WQ.then_exit ?_
    refine WQ.block_here ?_
    obtain rfl := Option.some.inj hm
    obtain rfl := afterN_done hl9
    have hm := hmo10
    refine WQ.then_normal (hK2 _ _ _ ?_)
    refine WP.seq (fun K26 hK26 => ?_)
    refine WP.region ?_
    refine WL.runk 1 [4] [(4, .int .i64 (-1))] (by kernel_rfl) ?_
    refine WL.nil ?_
    refine WQ.then_normal (hK26 _ _ _ ?_)
    refine WP.ret ?_
    obtain rfl := Option.some.inj hm
    exact WQ.ret1 _ rfl rfl ⟨rfl, hb6⟩
  have hm := iteT hm hc19
  refine WP.skip ?_
  refine WQ.then_normal (hK17 _ _ _ ?_)
  refine WP.seq (fun K20 hK20 => ?_)
  refine WP.block ?_
  refine WP.seq (fun K21 hK21 => ?_)
  refine WP.region ?_
  refine WL.runk 2 [0, 1, 5, 12, 13] [(0, .slice a0' list_0.length c0'), (1, .string (bs name_1)), (5, .int .i64 st4), (12, .slice a0' list_0.length c0'), (13, .int .i64 st4)] (by kernel_rfl) ?_
  obtain ⟨x22, hx23, hm⟩ := bindE hm
  refine WL.st (.pointer (some (at_ a0' (Int.toNat st4 * 4)))) (ST.index (T := fGood.ty) (xs := list_0) (Rd.below h0 hb6) hx23 rfl rfl rfl Tryz.underlying24 (info31).1 (info31).2.1) rfl rfl rfl ?_
  refine WL.runk 1 [0, 1, 5, 15] [(0, .slice a0' list_0.length c0'), (1, .string (bs name_1)), (5, .int .i64 st4), (15, .pointer (some (at_ a0' (Int.toNat st4 * 4))))] (by kernel_rfl) ?_
  refine WL.st (.string (bs x22.Name)) (ST.load (cell_ext (Rd.flat (F := fGood) (Rd.below h0 hb6) hx23 0 rfl)) rfl rfl Tryz.underlying9 rfl) rfl rfl rfl ?_
  refine WL.runk 1 [0, 1, 5, 16, 17] [(0, .slice a0' list_0.length c0'), (1, .string (bs name_1)), (5, .int .i64 st4), (16, .string (bs x22.Name)), (17, .string (bs name_1))] (by kernel_rfl) ?_
  refine WL.st (.bool (x22.Name == name_1)) (ST.streq (x := x22.Name) (y := name_1) rfl rfl rfl) rfl rfl rfl ?_
  refine WL.sub [(0, .slice a0' list_0.length c0'), (1, .string (bs name_1)), (5, .int .i64 st4), (18, .bool (x22.Name == name_1))] ⟨rfl, rfl, rfl, rfl, trivial⟩ ?_
  refine WL.nil ?_
  refine WQ.then_normal (hK21 _ _ _ ?_)
  refine WP.cond (x22.Name == name_1) rfl rfl (fun hc24 => ?_) (fun hc24 => ?_)
  rotate_left
  · have hm := iteF hm hc24
    refine WP.skip ?_
    refine WQ.block_normal ?_
    refine WQ.then_normal (hK20 _ _ _ ?_)
    refine WP.region ?_
    refine WL.runk 3 [0, 1, 5] [(0, .slice a0' list_0.length c0'), (1, .string (bs name_1)), (5, .int .i64 (wI64 (st4 + 1)))] (by kernel_rfl) ?_
    refine WL.nil ?_
    obtain rfl := Option.some.inj hm
    exact WQ.round hK11 ⟨(wI64 (st4 + 1)), rfl, hb6, hL7, hS8, hl9⟩ (Nat.lt_succ_self _) ⟨rfl, rfl, rfl, trivial⟩
  have hm := iteT hm hc24
  refine WP.seq (fun K25 hK25 => ?_)
  refine WP.region ?_
  refine WL.runk 2 [4] [(4, .int .i64 st4)] (by kernel_rfl) ?_
  refine WL.nil ?_
  refine WQ.then_normal (hK25 _ _ _ ?_)
  refine WP.ret ?_
  refine WQ.block_ret ?_
  refine WQ.then_ret ?_
  refine WQ.then_ret ?_
  refine WQ.block_ret ?_
  refine WQ.then_ret ?_
  obtain rfl := Option.some.inj hm
  obtain rfl := afterN_done hl9
  have hm := hmo10
  obtain rfl := Option.some.inj hm
  exact WQ.ret1 _ rfl rfl ⟨rfl, hb6⟩

theorem c_36 (n : Nat) (list_0 : List SGood) (a0' : Option Addr) (c0' : Nat) (t_1 : STake) (b1' o1' : Nat) (w : World) (w0 : World) (B : Nat) (L : List Asrt) {r : Int × List SGood} (hm : m_spec_l23Change n list_0 t_1 = some r) (hE0 : Ext w0 w) (hW : w0.heap.size ≤ B) (hL : B ≤ w.heap.size) (h1 : RdB w0 b1' o1' [.string (bs t_1.Name), .int .i64 t_1.Many]) (hS : SH w B (aOwn fGood 31 a0' c0' list_0 :: L)) :
    CallV Tryz.prog 36 #[.slice a0' list_0.length c0', .pointer (some ⟨b1', o1', none⟩)] w (fun v w' => v = .int .i64 r.1 ∧ Below B w w' ∧ SH w' B (aOwn fGood 31 a0' c0' r.2 :: L) ∧ r.2.length = list_0.length) := by
  unfold m_spec_l23Change at hm
  refine CallV.enter Tryz.func36 rfl (by kernel_rfl) Tryz.ntmps36 (env := [(0, .slice a0' list_0.length c0'), (1, .pointer (some ⟨b1', o1', none⟩))]) ⟨rfl, rfl, trivial⟩ ?_
  refine WP.seq (fun K1 hK1 => ?_)
  refine WP.region ?_
  refine WL.runk 1 [0, 1] [(0, .slice a0' list_0.length c0'), (1, .pointer (some ⟨b1', o1', none⟩))] (by kernel_rfl) ?_
  refine WL.nil ?_
  refine WQ.then_normal (hK1 _ _ _ ?_)
  refine WP.seq (fun K2 hK2 => ?_)
  refine WP.region ?_
  refine WL.runk 4 [0, 1, 7, 10] [(0, .slice a0' list_0.length c0'), (1, .pointer (some ⟨b1', o1', none⟩)), (7, .slice a0' list_0.length c0'), (10, .pointer (some ⟨b1', o1', none⟩))] (by kernel_rfl) ?_
  refine WL.st (.string (bs t_1.Name)) (ST.load (cell_ext (RdB.at (RdB.below h1 (Below.trans hE0 (Below.mono (Below.refl _ _) hW))) 0 _ rfl)) rfl rfl Tryz.underlying9 rfl) rfl rfl rfl ?_
  obtain ⟨x3, hx4, hm⟩ := bindE hm
  refine WL.call 46 #[.slice a0' list_0.length c0', .string (bs t_1.Name)] rfl rfl (by kernel_rfl) (c_46 n list_0 a0' c0' t_1.Name w hx4 (SH.rd (SH.front 0 hS)) (SH.le (SH.front 0 hS)).1) ?_
  rintro _ w5 ⟨rfl, hE6⟩
  refine ⟨_, rfl, ?_⟩
  have hb8 : Below B w w5 := Below.trans (Below.refl _ _) (Below.mono hE6 hL)
  have hL9 : B ≤ w5.heap.size := Nat.le_trans hL hE6.size
  have hS10 : SH w5 B (aOwn fGood 31 a0' c0' list_0 :: L) := SH.ext hS hE6
  refine WL.runk 1 [0, 1, 5] [(0, .slice a0' list_0.length c0'), (1, .pointer (some ⟨b1', o1', none⟩)), (5, .int .i64 x3)] (by kernel_rfl) ?_
  refine WL.nil ?_
  refine WQ.then_normal (hK2 _ _ _ ?_)
  refine WP.seq (fun K11 hK11 => ?_)
  refine WP.seq (fun K12 hK12 => ?_)
  refine WP.region ?_
  refine WL.runk 2 [0, 1, 5, 14] [(0, .slice a0' list_0.length c0'), (1, .pointer (some ⟨b1', o1', none⟩)), (5, .int .i64 x3), (14, .bool (decide (x3 < 0)))] (by kernel_rfl) ?_
  refine WL.nil ?_
  refine WQ.then_normal (hK12 _ _ _ ?_)
  refine WP.cond (decide (x3 < 0)) rfl rfl (fun hc13 => ?_) (fun hc13 => ?_)
  · have hm := iteT hm hc13
    refine WP.seq (fun K14 hK14 => ?_)
    refine WP.region ?_
    refine WL.runk 1 [4] [(4, .int .i64 3)] (by kernel_rfl) ?_
    refine WL.nil ?_
    refine WQ.then_normal (hK14 _ _ _ ?_)
    refine WP.ret ?_
    refine WQ.then_ret ?_
    obtain rfl := Option.some.inj hm
    exact WQ.ret1 _ rfl rfl ⟨rfl, hb8, hS10, rfl⟩
  have hm := iteF hm hc13
  refine WP.skip ?_
  refine WQ.then_normal (hK11 _ _ _ ?_)
  refine WP.seq (fun K15 hK15 => ?_)
  refine WP.region ?_
  refine WL.runk 2 [0, 1, 5, 15, 16] [(0, .slice a0' list_0.length c0'), (1, .pointer (some ⟨b1', o1', none⟩)), (5, .int .i64 x3), (15, .slice a0' list_0.length c0'), (16, .int .i64 x3)] (by kernel_rfl) ?_
  obtain ⟨x16, hx17, hm⟩ := bindE hm
  refine WL.st (.pointer (some (at_ a0' (Int.toNat x3 * 4)))) (ST.index (T := fGood.ty) (xs := list_0) (SH.rd (SH.front 0 hS10)) hx17 rfl rfl rfl Tryz.underlying24 (info31).1 (info31).2.1) rfl rfl rfl ?_
  refine WL.st (.agg #[.string (bs x16.Name), .int .i64 x16.OnHand, .int .i64 x16.Reserved, .int .i64 x16.Least]) (ST.loadAgg (vs := fGood.leaf x16) (fun j v hv => Rd.flatA (F := fGood) (SH.rd (SH.front 0 hS10)) hx17 j hv) rfl rfl rfl Tryz.underlying31 rfl (info31).1 (info31).2.1) rfl rfl rfl ?_
  refine WL.box 31 [.string (bs []), .int .i64 0, .int .i64 0, .int .i64 0] 6 (by kernel_rfl) rfl rfl rfl rfl ?_
  intro b18 w19 hE20 hR21
  have hb23 : Below B w w19 := Below.trans hb8 (Below.mono hE20 hL9)
  have hL24 : B ≤ w19.heap.size := Nat.le_trans hL9 hE20.size
  have hS25 : SH w19 B (aBox 31 b18 [.string (bs []), .int .i64 0, .int .i64 0, .int .i64 0] :: aOwn fGood 31 a0' c0' list_0 :: L) := SH.add hS10 hE20 hL9 hR21
  refine WL.boxStore 0 [.string (bs x16.Name), .int .i64 x16.OnHand, .int .i64 x16.Reserved, .int .i64 x16.Least] [.string (bs x16.Name), .int .i64 x16.OnHand, .int .i64 x16.Reserved, .int .i64 x16.Least] (SH.front 0 hS25) hL24 rfl rfl rfl rfl rfl rfl rfl (info31).1 (info31).2.1 rfl rfl rfl ?_
  intro w26 hB27 hS28
  have hb29 : Below B w w26 := Below.trans hb23 hB27
  have hL30 : B ≤ w26.heap.size := Nat.le_trans hL24 hB27.size
  refine WL.sub [(0, .slice a0' list_0.length c0'), (1, .pointer (some ⟨b1', o1', none⟩)), (5, .int .i64 x3), (6, .pointer (some ⟨b18, 0, none⟩))] ⟨rfl, rfl, rfl, rfl, trivial⟩ ?_
  refine WL.nil ?_
  refine WQ.then_normal (hK15 _ _ _ ?_)
  refine WP.seq (fun K31 hK31 => ?_)
  refine WP.open (n := 9) (by kernel_rfl) rfl (fun w32 hE33 => ?_)
  have hb34 : Below B w w32 := Below.trans hb29 (Below.mono hE33 hL30)
  have hL35 : B ≤ w32.heap.size := Nat.le_trans hL30 hE33.size
  have hS36 : SH w32 B (aBox 31 b18 [.string (bs x16.Name), .int .i64 x16.OnHand, .int .i64 x16.Reserved, .int .i64 x16.Least] :: aOwn fGood 31 a0' c0' list_0 :: L) := SH.ext hS28 hE33
  refine WA.quiet (f' := 1) (D' := [0, 1, 2, 3, 4, 5, 6, 7]) [0, 1, 2, 3, 4, 5, 6, 7] rfl rfl (by kernel_rfl) ?_
  refine QL.step1v 19 (.pointer (some ⟨b18, 1, none⟩)) rfl (fun _ => by kernel_rfl) ?_
  refine QL.subk [0, 1, 5, 6, 19] [(0, .slice a0' list_0.length c0'), (1, .pointer (some ⟨b1', o1', none⟩)), (5, .int .i64 x3), (6, .pointer (some ⟨b18, 0, none⟩)), (19, .pointer (some ⟨b18, 1, none⟩))] (by kernel_rfl) ?_
  refine QL.st (.int .i64 x16.OnHand) (ST.load (cell_ext (SH.boxAt (SH.front 0 hS36) 1 _ rfl)) rfl rfl Tryz.underlying2 rfl) rfl rfl rfl ?_
  refine QL.step1v 21 (.pointer (some ⟨b1', o1', none⟩)) rfl (fun _ => by kernel_rfl) ?_
  refine QL.step1v 22 (.pointer (some ⟨b1', o1', none⟩)) rfl (fun _ => by kernel_rfl) ?_
  refine QL.step1v 23 (.pointer (some ⟨b1', o1' + 1, none⟩)) rfl (fun _ => by kernel_rfl) ?_
  refine QL.subk [0, 5, 6, 20, 23] [(0, .slice a0' list_0.length c0'), (5, .int .i64 x3), (6, .pointer (some ⟨b18, 0, none⟩)), (20, .int .i64 x16.OnHand), (23, .pointer (some ⟨b1', o1' + 1, none⟩))] (by kernel_rfl) ?_
  refine QL.st (.int .i64 t_1.Many) (ST.load (cell_ext (RdB.at (RdB.below h1 (Below.trans hE0 (Below.mono hb34 hW))) 1 _ rfl)) rfl rfl Tryz.underlying2 rfl) rfl rfl rfl ?_
  refine QL.step1v 25 (.int .i64 (wI64 (x16.OnHand + t_1.Many))) rfl (fun _ => by kernel_rfl) ?_
  refine QL.step1v 26 (.pointer (some ⟨b18, 1, none⟩)) rfl (fun _ => by kernel_rfl) ?_
  refine QL.subk [0, 5, 6, 25, 26] [(0, .slice a0' list_0.length c0'), (5, .int .i64 x3), (6, .pointer (some ⟨b18, 0, none⟩)), (25, .int .i64 (wI64 (x16.OnHand + t_1.Many))), (26, .pointer (some ⟨b18, 1, none⟩))] (by kernel_rfl) ?_
  refine QL.nil ?_
  intro w37 hE38
  have hb39 : Below B w w37 := Below.trans hb34 (Below.mono hE38 hL35)
  have hL40 : B ≤ w37.heap.size := Nat.le_trans hL35 hE38.size
  have hS41 : SH w37 B (aBox 31 b18 [.string (bs x16.Name), .int .i64 x16.OnHand, .int .i64 x16.Reserved, .int .i64 x16.Least] :: aOwn fGood 31 a0' c0' list_0 :: L) := SH.ext hS36 hE38
  refine WA.one (i := 8) (D' := [0, 1, 2, 3, 4, 5, 6, 7, 8]) rfl rfl (by kernel_rfl) ?_
  refine WL.boxStore 1 [.int .i64 (wI64 (x16.OnHand + t_1.Many))] [.string (bs x16.Name), .int .i64 (wI64 (x16.OnHand + t_1.Many)), .int .i64 x16.Reserved, .int .i64 x16.Least] (SH.front 0 hS41) hL40 rfl rfl rfl rfl rfl rfl rfl (info2).1 (info2).2.1 rfl rfl rfl ?_
  intro w42 hB43 hS44
  have hb45 : Below B w w42 := Below.trans hb39 hB43
  have hL46 : B ≤ w42.heap.size := Nat.le_trans hL40 hB43.size
  refine WL.sub [(0, .slice a0' list_0.length c0'), (5, .int .i64 x3), (6, .pointer (some ⟨b18, 0, none⟩))] ⟨rfl, rfl, rfl, trivial⟩ ?_
  refine WL.nil ?_
  refine WA.done (by kernel_rfl) ?_
  refine WQ.then_normal (hK31 _ _ _ ?_)
  refine WP.seq (fun K47 hK47 => ?_)
  refine WP.seq (fun K48 hK48 => ?_)
  refine WP.region ?_
  refine WL.runk 1 [0, 5, 6, 27] [(0, .slice a0' list_0.length c0'), (5, .int .i64 x3), (6, .pointer (some ⟨b18, 0, none⟩)), (27, .pointer (some ⟨b18, 1, none⟩))] (by kernel_rfl) ?_
  refine WL.st (.int .i64 (wI64 (x16.OnHand + t_1.Many))) (ST.load (cell_ext (SH.boxAt (SH.front 0 hS44) 1 _ rfl)) rfl rfl Tryz.underlying2 rfl) rfl rfl rfl ?_
  refine WL.runk 1 [0, 5, 6, 28, 29] [(0, .slice a0' list_0.length c0'), (5, .int .i64 x3), (6, .pointer (some ⟨b18, 0, none⟩)), (28, .int .i64 (wI64 (x16.OnHand + t_1.Many))), (29, .pointer (some ⟨b18, 2, none⟩))] (by kernel_rfl) ?_
  refine WL.st (.int .i64 x16.Reserved) (ST.load (cell_ext (SH.boxAt (SH.front 0 hS44) 2 _ rfl)) rfl rfl Tryz.underlying2 rfl) rfl rfl rfl ?_
  refine WL.runk 1 [0, 5, 6, 31] [(0, .slice a0' list_0.length c0'), (5, .int .i64 x3), (6, .pointer (some ⟨b18, 0, none⟩)), (31, .bool (decide ((wI64 (x16.OnHand + t_1.Many)) < x16.Reserved)))] (by kernel_rfl) ?_
  refine WL.nil ?_
  refine WQ.then_normal (hK48 _ _ _ ?_)
  refine WP.cond (decide ((wI64 (x16.OnHand + t_1.Many)) < x16.Reserved)) rfl rfl (fun hc49 => ?_) (fun hc49 => ?_)
  · have hm := iteT hm hc49
    refine WP.seq (fun K50 hK50 => ?_)
    refine WP.region ?_
    refine WL.runk 1 [4] [(4, .int .i64 6)] (by kernel_rfl) ?_
    refine WL.nil ?_
    refine WQ.then_normal (hK50 _ _ _ ?_)
    refine WP.ret ?_
    refine WQ.then_ret ?_
    obtain rfl := Option.some.inj hm
    exact WQ.ret1 _ rfl rfl ⟨rfl, hb45, (SH.cutOut 1 1 (SH.front 1 hS44)), rfl⟩
  have hm := iteF hm hc49
  refine WP.skip ?_
  refine WQ.then_normal (hK47 _ _ _ ?_)
  refine WP.seq (fun K51 hK51 => ?_)
  refine WP.seq (fun K52 hK52 => ?_)
  refine WP.region ?_
  refine WL.runk 1 [0, 5, 6, 32] [(0, .slice a0' list_0.length c0'), (5, .int .i64 x3), (6, .pointer (some ⟨b18, 0, none⟩)), (32, .pointer (some ⟨b18, 1, none⟩))] (by kernel_rfl) ?_
  refine WL.st (.int .i64 (wI64 (x16.OnHand + t_1.Many))) (ST.load (cell_ext (SH.boxAt (SH.front 0 hS44) 1 _ rfl)) rfl rfl Tryz.underlying2 rfl) rfl rfl rfl ?_
  obtain ⟨x53, hx54, hm⟩ := bindE hm
  refine WL.call 63 #[.int .i64 (wI64 (x16.OnHand + t_1.Many))] rfl rfl (by kernel_rfl) (c_63 n (wI64 (x16.OnHand + t_1.Many)) w42 hx54 ) ?_
  rintro _ w55 ⟨rfl, hE56⟩
  refine ⟨_, rfl, ?_⟩
  have hb58 : Below B w w55 := Below.trans hb45 (Below.mono hE56 hL46)
  have hL59 : B ≤ w55.heap.size := Nat.le_trans hL46 hE56.size
  have hS60 : SH w55 B (aBox 31 b18 [.string (bs x16.Name), .int .i64 (wI64 (x16.OnHand + t_1.Many)), .int .i64 x16.Reserved, .int .i64 x16.Least] :: aOwn fGood 31 a0' c0' list_0 :: L) := SH.ext hS44 hE56
  refine WL.runk 1 [0, 5, 6, 35] [(0, .slice a0' list_0.length c0'), (5, .int .i64 x3), (6, .pointer (some ⟨b18, 0, none⟩)), (35, .bool (!x53))] (by kernel_rfl) ?_
  refine WL.nil ?_
  refine WQ.then_normal (hK52 _ _ _ ?_)
  refine WP.cond (!x53) rfl rfl (fun hc61 => ?_) (fun hc61 => ?_)
  · have hm := iteT hm hc61
    refine WP.seq (fun K62 hK62 => ?_)
    refine WP.region ?_
    refine WL.runk 1 [4] [(4, .int .i64 5)] (by kernel_rfl) ?_
    refine WL.nil ?_
    refine WQ.then_normal (hK62 _ _ _ ?_)
    refine WP.ret ?_
    refine WQ.then_ret ?_
    obtain rfl := Option.some.inj hm
    exact WQ.ret1 _ rfl rfl ⟨rfl, hb58, (SH.cutOut 1 1 (SH.front 1 hS60)), rfl⟩
  have hm := iteF hm hc61
  refine WP.skip ?_
  refine WQ.then_normal (hK51 _ _ _ ?_)
  refine WP.seq (fun K63 hK63 => ?_)
  refine WP.region ?_
  refine WL.runk 2 [6, 36, 37] [(6, .pointer (some ⟨b18, 0, none⟩)), (36, .slice a0' list_0.length c0'), (37, .int .i64 x3)] (by kernel_rfl) ?_
  refine WL.st (.agg #[.string (bs x16.Name), .int .i64 (wI64 (x16.OnHand + t_1.Many)), .int .i64 x16.Reserved, .int .i64 x16.Least]) (ST.loadAgg (vs := [.string (bs x16.Name), .int .i64 (wI64 (x16.OnHand + t_1.Many)), .int .i64 x16.Reserved, .int .i64 x16.Least]) (fun j v hv => SH.boxPart (us := [.string (bs x16.Name), .int .i64 (wI64 (x16.OnHand + t_1.Many)), .int .i64 x16.Reserved, .int .i64 x16.Least]) (SH.front 0 hS60) 0 rfl j v hv) rfl rfl rfl Tryz.underlying31 rfl (info31).1 (info31).2.1) rfl rfl rfl ?_
  obtain ⟨x64, hx65, hm⟩ := bindE hm
  refine WL.st (.pointer (some (at_ a0' (Int.toNat x3 * 4)))) (ST.index (T := fGood.ty) (xs := list_0) (SH.rd (SH.front 1 hS60)) hx65 rfl rfl rfl Tryz.underlying24 (info31).1 (info31).2.1) rfl rfl rfl ?_
  refine WL.store (F := fGood) (SGood.mk x16.Name (wI64 (x16.OnHand + t_1.Many)) x16.Reserved x16.Least) 0 [.string (bs x16.Name), .int .i64 (wI64 (x16.OnHand + t_1.Many)), .int .i64 x16.Reserved, .int .i64 x16.Least] (SH.front 1 hS60) hL59 hx65 rfl rfl rfl rfl rfl rfl rfl (info31).1 (info31).2.1 rfl rfl rfl ?_
  intro w66 hB67 hS68
  have hb69 : Below B w w66 := Below.trans hb58 hB67
  have hL70 : B ≤ w66.heap.size := Nat.le_trans hL59 hB67.size
  refine WL.sub [(6, .pointer (some ⟨b18, 0, none⟩)), (36, .slice a0' ((list_0.set (Int.toNat x3) (SGood.mk x16.Name (wI64 (x16.OnHand + t_1.Many)) x16.Reserved x16.Least)).length) c0'), (37, .int .i64 x3), (38, .agg #[.string (bs x16.Name), .int .i64 (wI64 (x16.OnHand + t_1.Many)), .int .i64 x16.Reserved, .int .i64 x16.Least])] ⟨rfl, by first | (simp only [List.length_set]; done) | (simp only [List.length_set]; rfl), rfl, rfl, trivial⟩ ?_
  have hn71 : (list_0.set (Int.toNat x3) (SGood.mk x16.Name (wI64 (x16.OnHand + t_1.Many)) x16.Reserved x16.Least)).length = list_0.length := List.length_set.trans rfl
  refine WL.sub [] trivial ?_
  refine WL.nil ?_
  refine WQ.then_normal (hK63 _ _ _ ?_)
  refine WP.seq (fun K72 hK72 => ?_)
  refine WP.region ?_
  refine WL.runk 1 [4] [(4, .int .i64 0)] (by kernel_rfl) ?_
  refine WL.nil ?_
  refine WQ.then_normal (hK72 _ _ _ ?_)
  refine WP.ret ?_
  obtain rfl := Option.some.inj hm
  exact WQ.ret1 _ rfl rfl ⟨rfl, hb69, (SH.cutOut 1 1 hS68), hn71⟩

theorem c_7 (n : Nat) (list_0 : List SGood) (a0' : Option Addr) (c0' : Nat) (takes_1 : List STake) (a1' : Option Addr) (c1' : Nat) (w : World) {r : List SGood × Int × Int} (hm : m_spec_ChangeGoods n list_0 takes_1 = some r) (h0 : Rd fGood.ty w a0' list_0) (hle0 : list_0.length ≤ c0') (h1 : Rd fTake.ty w a1' takes_1) (hle1 : takes_1.length ≤ c1') :
    CallV Tryz.prog 7 #[.slice a0' list_0.length c0', .slice a1' takes_1.length c1'] w (fun v w' => ∃ (ra0 : Option Addr) (rc0 : Nat), v = .tuple #[.slice ra0 r.1.length rc0, .int .i64 r.2.1, .int .i64 r.2.2] ∧ Ext w w' ∧ SH w' w.heap.size [aOwn fGood 31 ra0 rc0 r.1]) := by
  unfold m_spec_ChangeGoods at hm
  refine CallV.enter Tryz.func7 rfl (by kernel_rfl) Tryz.ntmps7 (env := [(0, .slice a0' list_0.length c0'), (1, .slice a1' takes_1.length c1')]) ⟨rfl, rfl, trivial⟩ ?_
  refine WP.seq (fun K1 hK1 => ?_)
  refine WP.region ?_
  refine WL.runk 3 [0, 1] [(0, .slice a0' list_0.length c0'), (1, .slice a1' takes_1.length c1')] (by kernel_rfl) ?_
  refine WL.nil ?_
  refine WQ.then_normal (hK1 _ _ _ ?_)
  refine WP.seq (fun K2 hK2 => ?_)
  refine WP.region ?_
  refine WL.runk 2 [0, 1, 10, 11] [(0, .slice a0' list_0.length c0'), (1, .slice a1' takes_1.length c1'), (10, .slice a0' list_0.length c0'), (11, .slice a1' takes_1.length c1')] (by kernel_rfl) ?_
  obtain ⟨x3, hx4, hm⟩ := bindE hm
  refine WL.call 35 #[.slice a0' list_0.length c0', .slice a1' takes_1.length c1'] rfl rfl (by kernel_rfl) (c_35 n list_0 a0' c0' takes_1 a1' c1' w hx4 (Rd.below h0 (Ext.refl w)) hle0 (Rd.below h1 (Ext.refl w)) hle1) ?_
  rintro _ w5 ⟨rfl, hE6⟩
  refine ⟨_, rfl, ?_⟩
  have hb8 : Ext w w5 := Ext.trans (Ext.refl w) hE6
  have hL9 : w.heap.size ≤ w5.heap.size := Nat.le_trans (Nat.le_refl _) hE6.size
  have hS10 : SH w5 w.heap.size [] := SH.ext (SH.nil _ _) hE6
  refine WL.runk 1 [0, 1, 7] [(0, .slice a0' list_0.length c0'), (1, .slice a1' takes_1.length c1'), (7, .int .i64 x3)] (by kernel_rfl) ?_
  refine WL.nil ?_
  refine WQ.then_normal (hK2 _ _ _ ?_)
  refine WP.seq (fun K11 hK11 => ?_)
  refine WP.seq (fun K12 hK12 => ?_)
  refine WP.region ?_
  refine WL.runk 2 [0, 1, 7, 14] [(0, .slice a0' list_0.length c0'), (1, .slice a1' takes_1.length c1'), (7, .int .i64 x3), (14, .bool (x3 != 0))] (by kernel_rfl) ?_
  refine WL.nil ?_
  refine WQ.then_normal (hK12 _ _ _ ?_)
  refine WP.cond (x3 != 0) rfl rfl (fun hc13 => ?_) (fun hc13 => ?_)
  · have hm := iteT hm hc13
    refine WP.seq (fun K14 hK14 => ?_)
    refine WP.region ?_
    refine WL.runk 4 [4, 5, 6] [(4, .slice none 0 0), (5, .int .i64 0), (6, .int .i64 x3)] (by kernel_rfl) ?_
    refine WL.nil ?_
    refine WQ.then_normal (hK14 _ _ _ ?_)
    refine WP.ret ?_
    refine WQ.then_ret ?_
    obtain rfl := Option.some.inj hm
    have hS16 : SH w5 w.heap.size [aOwn fGood 31 none 0 ([] : List SGood)] := SH.nilOwn hS10
    exact WQ.ret3 _ _ _ rfl rfl rfl rfl ⟨_, _, rfl, hb8, hS16⟩
  have hm := iteF hm hc13
  refine WP.skip ?_
  refine WQ.then_normal (hK11 _ _ _ ?_)
  refine WP.seq (fun K17 hK17 => ?_)
  refine WP.region ?_
  refine WL.row fGood 31 ([] : List SGood) 0 #[] 16 (by kernel_rfl) rfl rfl rfl rfl rfl rfl rfl ?_
  intro a18 c19 w20 hE21 hR22
  have hb24 : Ext w w20 := Ext.trans hb8 hE21
  have hL25 : w.heap.size ≤ w20.heap.size := Nat.le_trans hL9 hE21.size
  have hS26 : SH w20 w.heap.size [aOwn fGood 31 a18 c19 ([] : List SGood)] := SH.add hS10 hE21 hL9 hR22
  refine WL.runk 1 [0, 1, 16, 17] [(0, .slice a0' list_0.length c0'), (1, .slice a1' takes_1.length c1'), (16, .slice a18 (([] : List SGood).length) c19), (17, .slice a0' list_0.length c0')] (by kernel_rfl) ?_
  obtain ⟨x27, hx28, hm⟩ := bindE hm
  refine WL.append (F := fGood) (xs := ([] : List SGood)) (ys := list_0) 18 (SH.front 0 hS26) hL25 (Rd.below h0 hb24) hx28 rfl rfl rfl Tryz.underlying24 (info31).1 (info31).2.2.1 (info31).2.1 (info31).2.2.2 rfl rfl rfl rfl rfl ?_
  intro a29 c30 w31 hB32 hS33
  have hb34 : Ext w w31 := Below.trans hb24 hB32
  have hL35 : w.heap.size ≤ w31.heap.size := Nat.le_trans hL25 hB32.size
  refine WL.runk 1 [0, 1, 8] [(0, .slice a0' list_0.length c0'), (1, .slice a1' takes_1.length c1'), (8, .slice a29 x27.length c30)] (by kernel_rfl) ?_
  refine WL.nil ?_
  refine WQ.then_normal (hK17 _ _ _ ?_)
  refine WP.seq (fun K36 hK36 => ?_)
  refine WP.seq (fun K37 hK37 => ?_)
  refine WP.region ?_
  refine WL.runk 1 [0, 1, 8, 9] [(0, .slice a0' list_0.length c0'), (1, .slice a1' takes_1.length c1'), (8, .slice a29 x27.length c30), (9, .int .i64 0)] (by kernel_rfl) ?_
  refine WL.nil ?_
  refine WQ.then_normal (hK37 _ _ _ ?_)
  refine WP.block ?_
  obtain ⟨t100, ht101, hm⟩ := bindE hm
  have hmo95 := hm; clear hm
  refine WP.sub [(0, .slice a0' list_0.length c0'), (1, .slice a1' takes_1.length c1'), (8, .slice a29 x27.length c30), (9, .int .i64 0)] ⟨rfl, rfl, rfl, rfl, trivial⟩ ?_
  refine WP.loop (fun n' env' w' => ∃ (st89 : Int × List SGood) , env' = [(0, .slice a0' list_0.length c0'), (1, .slice a1' takes_1.length c1'), (8, .slice a29 st89.2.length c30), (9, .int .i64 st89.1)] ∧ Ext w w' ∧ w.heap.size ≤ w'.heap.size ∧ SH w' w.heap.size [aOwn fGood 31 a29 c30 st89.2] ∧ loopN (m_spec_ChangeGoods_l1 n list_0 takes_1) n' st89 = some t100) n ⟨(0, x27), rfl, hb34, hL35, hS33, ht101⟩ ?_
  rintro n97 _ w90 ⟨st89, rfl, hb91, hL92, hS93, hl94⟩ K96 hK96
  obtain ⟨n98, s99, rfl, hm, hl94⟩ := loopN_some hl94
  unfold m_spec_ChangeGoods_l1 at hm
  refine WP.seq (fun K102 hK102 => ?_)
  refine WP.seq (fun K103 hK103 => ?_)
  refine WP.region ?_
  refine WL.runk 4 [0, 1, 8, 9, 22] [(0, .slice a0' list_0.length c0'), (1, .slice a1' takes_1.length c1'), (8, .slice a29 st89.2.length c30), (9, .int .i64 st89.1), (22, .bool (decide (st89.1 < (takes_1.length : Int))))] (by kernel_rfl) ?_
  refine WL.nil ?_
  refine WQ.then_normal (hK103 _ _ _ ?_)
  refine WP.cond (decide (st89.1 < (takes_1.length : Int))) rfl rfl (fun hc104 => ?_) (fun hc104 => ?_)
  rotate_left
  · have hm := iteF hm hc104
    refine WP.exit ?_
    refine WQ.then_exit ?_
    refine WQ.then_exit ?_
    refine WQ.block_here ?_
    obtain rfl := Option.some.inj hm
    obtain rfl := afterN_done hl94
    have hm := hmo95
    refine WQ.then_normal (hK36 _ _ _ ?_)
    refine WP.seq (fun K139 hK139 => ?_)
    refine WP.region ?_
    refine WL.runk 4 [4, 5, 6] [(4, .slice a29 st89.2.length c30), (5, .int .i64 (-1)), (6, .int .i64 0)] (by kernel_rfl) ?_
    refine WL.nil ?_
    refine WQ.then_normal (hK139 _ _ _ ?_)
    refine WP.ret ?_
    obtain rfl := Option.some.inj hm
    exact WQ.ret3 _ _ _ rfl rfl rfl rfl ⟨_, _, rfl, hb91, hS93⟩
  have hm := iteT hm hc104
  refine WP.skip ?_
  refine WQ.then_normal (hK102 _ _ _ ?_)
  refine WP.seq (fun K105 hK105 => ?_)
  refine WP.block ?_
  refine WP.seq (fun K106 hK106 => ?_)
  refine WP.region ?_
  refine WL.runk 3 [0, 1, 8, 9, 25, 26, 27] [(0, .slice a0' list_0.length c0'), (1, .slice a1' takes_1.length c1'), (8, .slice a29 st89.2.length c30), (9, .int .i64 st89.1), (25, .slice a29 st89.2.length c30), (26, .slice a1' takes_1.length c1'), (27, .int .i64 st89.1)] (by kernel_rfl) ?_
  obtain ⟨x107, hx108, hm⟩ := bindE hm
  refine WL.st (.pointer (some (at_ a1' (Int.toNat st89.1 * 2)))) (ST.index (T := fTake.ty) (xs := takes_1) (Rd.below h1 hb91) hx108 rfl rfl rfl Tryz.underlying25 (info37).1 (info37).2.1) rfl rfl rfl ?_
  obtain ⟨x109, hx110, hm⟩ := bindE hm
  refine WL.call 36 #[.slice a29 st89.2.length c30, .pointer (some (at_ a1' (Int.toNat st89.1 * 2)))] rfl rfl (by kernel_rfl) (c_36 n st89.2 a29 c30 x107 ((ba a1').block) ((ba a1').off + Int.toNat st89.1 * 2) w90 w w.heap.size [] hx110 hb91 (Nat.le_refl _) hL92 (RdB.ofRd (F := fTake) h1 hx108) hS93) ?_
  rintro _ w111 ⟨rfl, hB115, hS114, hlen116⟩
  refine ⟨_, rfl, ?_⟩
  have hb117 : Ext w w111 := Below.trans hb91 hB115
  have hL118 : w.heap.size ≤ w111.heap.size := Nat.le_trans hL92 hB115.size
  refine WL.sub [(0, .slice a0' list_0.length c0'), (1, .slice a1' takes_1.length c1'), (8, .slice a29 x109.2.length c30), (9, .int .i64 st89.1), (25, .slice a29 x109.2.length c30), (26, .slice a1' takes_1.length c1'), (27, .int .i64 st89.1), (28, .pointer (some (at_ a1' (Int.toNat st89.1 * 2)))), (29, .int .i64 x109.1)] ⟨rfl, rfl, by rw [hlen116]; rfl, rfl, by rw [hlen116]; rfl, rfl, rfl, rfl, rfl, trivial⟩ ?_
  refine WL.runk 1 [0, 1, 8, 9, 30] [(0, .slice a0' list_0.length c0'), (1, .slice a1' takes_1.length c1'), (8, .slice a29 x109.2.length c30), (9, .int .i64 st89.1), (30, .bool (x109.1 != 0))] (by kernel_rfl) ?_
  refine WL.nil ?_
  refine WQ.then_normal (hK106 _ _ _ ?_)
  refine WP.cond (x109.1 != 0) rfl rfl (fun hc119 => ?_) (fun hc119 => ?_)
  rotate_left
  · have hm := iteF hm hc119
    refine WP.skip ?_
    refine WQ.block_normal ?_
    refine WQ.then_normal (hK105 _ _ _ ?_)
    refine WP.region ?_
    refine WL.runk 3 [0, 1, 8, 9] [(0, .slice a0' list_0.length c0'), (1, .slice a1' takes_1.length c1'), (8, .slice a29 x109.2.length c30), (9, .int .i64 (wI64 (st89.1 + 1)))] (by kernel_rfl) ?_
    refine WL.nil ?_
    obtain rfl := Option.some.inj hm
    exact WQ.round hK96 ⟨((wI64 (st89.1 + 1)), x109.2), rfl, hb117, hL118, hS114, hl94⟩ (Nat.lt_succ_self _) ⟨rfl, rfl, rfl, rfl, trivial⟩
  have hm := iteT hm hc119
  refine WP.seq (fun K120 hK120 => ?_)
  refine WP.region ?_
  refine WL.row fGood 31 ([] : List SGood) 0 #[] 31 (by kernel_rfl) rfl rfl rfl rfl rfl rfl rfl ?_
  intro a121 c122 w123 hE124 hR125
  have hb127 : Ext w w123 := Ext.trans hb117 hE124
  have hL128 : w.heap.size ≤ w123.heap.size := Nat.le_trans hL118 hE124.size
  have hS129 : SH w123 w.heap.size [aOwn fGood 31 a121 c122 ([] : List SGood), aOwn fGood 31 a29 c30 x109.2] := SH.add hS114 hE124 hL118 hR125
  refine WL.runk 1 [9, 31, 32] [(9, .int .i64 st89.1), (31, .slice a121 (([] : List SGood).length) c122), (32, .slice a0' list_0.length c0')] (by kernel_rfl) ?_
  obtain ⟨x130, hx131, hm⟩ := bindE hm
  refine WL.append (F := fGood) (xs := ([] : List SGood)) (ys := list_0) 33 (SH.front 0 hS129) hL128 (Rd.below h0 hb127) hx131 rfl rfl rfl Tryz.underlying24 (info31).1 (info31).2.2.1 (info31).2.1 (info31).2.2.2 rfl rfl rfl rfl rfl ?_
  intro a132 c133 w134 hB135 hS136
  have hb137 : Ext w w134 := Below.trans hb127 hB135
  have hL138 : w.heap.size ≤ w134.heap.size := Nat.le_trans hL128 hB135.size
  refine WL.runk 4 [4, 5, 6] [(4, .slice a132 x130.length c133), (5, .int .i64 st89.1), (6, .int .i64 0)] (by kernel_rfl) ?_
  refine WL.nil ?_
  refine WQ.then_normal (hK120 _ _ _ ?_)
  refine WP.ret ?_
  refine WQ.block_ret ?_
  refine WQ.then_ret ?_
  refine WQ.then_ret ?_
  refine WQ.block_ret ?_
  refine WQ.then_ret ?_
  obtain rfl := Option.some.inj hm
  obtain rfl := afterN_done hl94
  have hm := hmo95
  obtain rfl := Option.some.inj hm
  exact WQ.ret3 _ _ _ rfl rfl rfl rfl ⟨_, _, rfl, hb137, (SH.take 1 hS136)⟩

theorem c_8 (n : Nat) (code_0 : List Int) (a0' : Option Addr) (c0' : Nat) (w : World) {r : List SGood × SGood} (hm : m_spec_DrawAddGood n code_0 = some r) (h0 : Rd fU8.ty w a0' code_0) (hle0 : code_0.length ≤ c0') :
    CallV Tryz.prog 8 #[.slice a0' code_0.length c0'] w (fun v w' => ∃ (ra0 : Option Addr) (rc0 : Nat), v = .tuple #[.slice ra0 r.1.length rc0, .agg #[.string (bs r.2.Name), .int .i64 r.2.OnHand, .int .i64 r.2.Reserved, .int .i64 r.2.Least]] ∧ Ext w w' ∧ SH w' w.heap.size [aOwn fGood 31 ra0 rc0 r.1]) := by
  unfold m_spec_DrawAddGood at hm
  refine CallV.enter Tryz.func8 rfl (by kernel_rfl) Tryz.ntmps8 (env := [(0, .slice a0' code_0.length c0')]) ⟨rfl, trivial⟩ ?_
  refine WP.seq (fun K1 hK1 => ?_)
  refine WP.region ?_
  refine WL.runk 1 [0] [(0, .slice a0' code_0.length c0')] (by kernel_rfl) ?_
  refine WL.box 31 [.string (bs []), .int .i64 0, .int .i64 0, .int .i64 0] 3 (by kernel_rfl) rfl rfl rfl rfl ?_
  intro b2 w3 hE4 hR5
  have hb7 : Ext w w3 := Ext.trans (Ext.refl w) hE4
  have hL8 : w.heap.size ≤ w3.heap.size := Nat.le_trans (Nat.le_refl _) hE4.size
  have hS9 : SH w3 w.heap.size [aBox 31 b2 [.string (bs []), .int .i64 0, .int .i64 0, .int .i64 0]] := SH.add (SH.nil _ _) hE4 (Nat.le_refl _) hR5
  refine WL.sub [(0, .slice a0' code_0.length c0'), (3, .pointer (some ⟨b2, 0, none⟩))] ⟨rfl, rfl, trivial⟩ ?_
  refine WL.nil ?_
  refine WQ.then_normal (hK1 _ _ _ ?_)
  refine WP.seq (fun K10 hK10 => ?_)
  refine WP.region ?_
  refine WL.runk 1 [3, 8] [(3, .pointer (some ⟨b2, 0, none⟩)), (8, .slice a0' code_0.length c0')] (by kernel_rfl) ?_
  obtain ⟨x11, hx12, hm⟩ := bindE hm
  refine WL.call 25 #[.slice a0' code_0.length c0'] rfl rfl (by kernel_rfl) (c_25 n code_0 a0' c0' w3 hx12 (Rd.below h0 hb7) hle0) ?_
  rintro _ w15 ⟨b13, rfl, hE16, hR17⟩
  refine ⟨_, rfl, ?_⟩
  have hb18 : Ext w w15 := Ext.trans hb7 hE16
  have hL19 : w.heap.size ≤ w15.heap.size := Nat.le_trans hL8 hE16.size
  have hS20 : SH w15 w.heap.size [aBox 87 b13 [.slice a0' code_0.length c0', .int .i64 x11.1, .int .u64 x11.2], aBox 31 b2 [.string (bs []), .int .i64 0, .int .i64 0, .int .i64 0]] := SH.add hS9 hE16 hL8 hR17
  refine WL.runk 1 [3, 4] [(3, .pointer (some ⟨b2, 0, none⟩)), (4, .pointer (some ⟨b13, 0, none⟩))] (by kernel_rfl) ?_
  refine WL.nil ?_
  refine WQ.then_normal (hK10 _ _ _ ?_)
  refine WP.seq (fun K21 hK21 => ?_)
  refine WP.region ?_
  refine WL.runk 1 [3, 4, 10] [(3, .pointer (some ⟨b2, 0, none⟩)), (4, .pointer (some ⟨b13, 0, none⟩)), (10, .pointer (some ⟨b13, 0, none⟩))] (by kernel_rfl) ?_
  obtain ⟨x22, hx23, hm⟩ := bindE hm
  refine WL.call 26 #[.pointer (some ⟨b13, 0, none⟩)] rfl rfl (by kernel_rfl) (c_26 n code_0 a0' c0' x11.1 x11.2 b13 w15 w w.heap.size [aBox 31 b2 [.string (bs []), .int .i64 0, .int .i64 0, .int .i64 0]] hx23 hb18 (Nat.le_refl _) hL19 h0 hle0 hS20) ?_
  rintro _ w27 ⟨a24, c25, rfl, hB31, hS30⟩
  refine ⟨_, rfl, ?_⟩
  have hb32 : Ext w w27 := Below.trans hb18 hB31
  have hL33 : w.heap.size ≤ w27.heap.size := Nat.le_trans hL19 hB31.size
  refine WL.runk 1 [3, 4, 5] [(3, .pointer (some ⟨b2, 0, none⟩)), (4, .pointer (some ⟨b13, 0, none⟩)), (5, .slice a24 x22.1.length c25)] (by kernel_rfl) ?_
  refine WL.nil ?_
  refine WQ.then_normal (hK21 _ _ _ ?_)
  refine WP.seq (fun K34 hK34 => ?_)
  refine WP.region ?_
  refine WL.runk 1 [3, 4, 5, 12] [(3, .pointer (some ⟨b2, 0, none⟩)), (4, .pointer (some ⟨b13, 0, none⟩)), (5, .slice a24 x22.1.length c25), (12, .pointer (some ⟨b13, 0, none⟩))] (by kernel_rfl) ?_
  obtain ⟨x35, hx36, hm⟩ := bindE hm
  refine WL.call 38 #[] rfl rfl (by kernel_rfl) (c_38 n  w27 hx36 ) ?_
  rintro _ w40 ⟨a37, c38, rfl, hE41, hR42⟩
  refine ⟨_, rfl, ?_⟩
  have hb43 : Ext w w40 := Ext.trans hb32 hE41
  have hL44 : w.heap.size ≤ w40.heap.size := Nat.le_trans hL33 hE41.size
  have hS45 : SH w40 w.heap.size [aOwn fStr 9 a37 c38 x35, aOwn fGood 31 a24 c25 x22.1, aBox 87 b13 [.slice a0' code_0.length c0', .int .i64 x22.2.1, .int .u64 x22.2.2], aBox 31 b2 [.string (bs []), .int .i64 0, .int .i64 0, .int .i64 0]] := SH.add hS30 hE41 hL33 hR42
  obtain ⟨x46, hx47, hm⟩ := bindE hm
  refine WL.call 37 #[.pointer (some ⟨b13, 0, none⟩), .slice a37 x35.length c38] rfl rfl (by kernel_rfl) (c_37_o1 n code_0 a0' c0' x22.2.1 x22.2.2 b13 x35 a37 c38 w40 w w.heap.size [aOwn fGood 31 a24 c25 x22.1, aBox 31 b2 [.string (bs []), .int .i64 0, .int .i64 0, .int .i64 0]] hx47 hb43 (Nat.le_refl _) hL44 h0 hle0 (SH.front 3 (SH.front 2 (SH.front 2 (SH.front 3 hS45))))) ?_
  rintro _ w48 ⟨rfl, hB52, hS51⟩
  refine ⟨_, rfl, ?_⟩
  have hb53 : Ext w w48 := Below.trans hb43 hB52
  have hL54 : w.heap.size ≤ w48.heap.size := Nat.le_trans hL44 hB52.size
  refine WL.runk 1 [3, 4, 5, 6] [(3, .pointer (some ⟨b2, 0, none⟩)), (4, .pointer (some ⟨b13, 0, none⟩)), (5, .slice a24 x22.1.length c25), (6, .string (bs x46.1))] (by kernel_rfl) ?_
  refine WL.nil ?_
  refine WQ.then_normal (hK34 _ _ _ ?_)
  refine WP.seq (fun K55 hK55 => ?_)
  refine WP.region ?_
  refine WL.runk 2 [3, 4, 5, 15, 16] [(3, .pointer (some ⟨b2, 0, none⟩)), (4, .pointer (some ⟨b13, 0, none⟩)), (5, .slice a24 x22.1.length c25), (15, .pointer (some ⟨b13, 0, none⟩)), (16, .string (bs x46.1))] (by kernel_rfl) ?_
  obtain ⟨x56, hx57, hm⟩ := bindE hm
  refine WL.call 39 #[.pointer (some ⟨b13, 0, none⟩), .string (bs x46.1)] rfl rfl (by kernel_rfl) (c_39 n code_0 a0' c0' x46.2.1 x46.2.2 b13 x46.1 w48 w w.heap.size [aOwn fStr 9 a37 c38 x35, aOwn fGood 31 a24 c25 x22.1, aBox 31 b2 [.string (bs []), .int .i64 0, .int .i64 0, .int .i64 0]] hx57 hb53 (Nat.le_refl _) hL54 h0 hle0 hS51) ?_
  rintro _ w58 ⟨rfl, hB62, hS61⟩
  refine ⟨_, rfl, ?_⟩
  have hb63 : Ext w w58 := Below.trans hb53 hB62
  have hL64 : w.heap.size ≤ w58.heap.size := Nat.le_trans hL54 hB62.size
  refine WL.box 31 [.string (bs []), .int .i64 0, .int .i64 0, .int .i64 0] 7 (by kernel_rfl) rfl rfl rfl rfl ?_
  intro b65 w66 hE67 hR68
  have hb70 : Ext w w66 := Ext.trans hb63 hE67
  have hL71 : w.heap.size ≤ w66.heap.size := Nat.le_trans hL64 hE67.size
  have hS72 : SH w66 w.heap.size [aBox 31 b65 [.string (bs []), .int .i64 0, .int .i64 0, .int .i64 0], aBox 87 b13 [.slice a0' code_0.length c0', .int .i64 x56.2.1, .int .u64 x56.2.2], aOwn fStr 9 a37 c38 x35, aOwn fGood 31 a24 c25 x22.1, aBox 31 b2 [.string (bs []), .int .i64 0, .int .i64 0, .int .i64 0]] := SH.add hS61 hE67 hL64 hR68
  refine WL.boxStore 0 [.string (bs x56.1.Name), .int .i64 x56.1.OnHand, .int .i64 x56.1.Reserved, .int .i64 x56.1.Least] [.string (bs x56.1.Name), .int .i64 x56.1.OnHand, .int .i64 x56.1.Reserved, .int .i64 x56.1.Least] (SH.front 0 hS72) hL71 rfl rfl rfl rfl rfl rfl rfl (info31).1 (info31).2.1 rfl rfl rfl ?_
  intro w73 hB74 hS75
  have hb76 : Ext w w73 := Below.trans hb70 hB74
  have hL77 : w.heap.size ≤ w73.heap.size := Nat.le_trans hL71 hB74.size
  refine WL.sub [(3, .pointer (some ⟨b2, 0, none⟩)), (4, .pointer (some ⟨b13, 0, none⟩)), (5, .slice a24 x22.1.length c25), (7, .pointer (some ⟨b65, 0, none⟩))] ⟨rfl, rfl, rfl, rfl, trivial⟩ ?_
  refine WL.nil ?_
  refine WQ.then_normal (hK55 _ _ _ ?_)
  refine WP.seq (fun K78 hK78 => ?_)
  refine WP.seq (fun K79 hK79 => ?_)
  refine WP.region ?_
  refine WL.runk 1 [3, 4, 5, 7, 18] [(3, .pointer (some ⟨b2, 0, none⟩)), (4, .pointer (some ⟨b13, 0, none⟩)), (5, .slice a24 x22.1.length c25), (7, .pointer (some ⟨b65, 0, none⟩)), (18, .pointer (some ⟨b13, 0, none⟩))] (by kernel_rfl) ?_
  obtain ⟨x80, hx81, hm⟩ := bindE hm
  refine WL.call 29 #[.pointer (some ⟨b13, 0, none⟩), .int .i64 8] rfl rfl (by kernel_rfl) (c_29 n code_0 a0' c0' x56.2.1 x56.2.2 b13 8 w73 w w.heap.size [aBox 31 b65 [.string (bs x56.1.Name), .int .i64 x56.1.OnHand, .int .i64 x56.1.Reserved, .int .i64 x56.1.Least], aOwn fStr 9 a37 c38 x35, aOwn fGood 31 a24 c25 x22.1, aBox 31 b2 [.string (bs []), .int .i64 0, .int .i64 0, .int .i64 0]] hx81 hb76 (Nat.le_refl _) hL77 h0 hle0 (SH.front 4 (SH.front 3 (SH.front 4 (SH.front 4 (SH.front 4 hS75)))))) ?_
  rintro _ w82 ⟨rfl, hB86, hS85⟩
  refine ⟨_, rfl, ?_⟩
  have hb87 : Ext w w82 := Below.trans hb76 hB86
  have hL88 : w.heap.size ≤ w82.heap.size := Nat.le_trans hL77 hB86.size
  refine WL.sub [(3, .pointer (some ⟨b2, 0, none⟩)), (4, .pointer (some ⟨b13, 0, none⟩)), (5, .slice a24 x22.1.length c25), (7, .pointer (some ⟨b65, 0, none⟩)), (19, .bool x80.1)] ⟨rfl, rfl, rfl, rfl, rfl, trivial⟩ ?_
  refine WL.nil ?_
  refine WQ.then_normal (hK79 _ _ _ ?_)
  obtain ⟨x119, hx120, hm⟩ := bindE hm
  refine WP.cut (fun env' w' => env' = [(3, .pointer (some ⟨b2, 0, none⟩)), (5, .slice a24 x22.1.length c25), (7, .pointer (some ⟨b65, 0, none⟩))] ∧ Ext w w' ∧ w.heap.size ≤ w'.heap.size ∧ SH w' w.heap.size [aBox 87 b13 [.slice a0' code_0.length c0', .int .i64 x119.1, .int .u64 x119.2.1], aBox 31 b65 [.string (bs x119.2.2.1), .int .i64 x119.2.2.2.1, .int .i64 x119.2.2.2.2.1, .int .i64 x119.2.2.2.2.2], aOwn fGood 31 a24 c25 x22.1, aBox 31 b2 [.string (bs []), .int .i64 0, .int .i64 0, .int .i64 0]]) ?_ ?_
  · have hm := hx120; clear hx120
    refine WP.cond x80.1 rfl rfl (fun hc89 => ?_) (fun hc89 => ?_)
    rotate_left
    · have hm := iteF hm hc89
      refine WP.skip ?_
      obtain rfl := Option.some.inj hm
      exact WQ.post' ⟨rfl, hb87, hL88, (SH.take 4 (SH.front 3 (SH.front 3 (SH.front 4 (SH.front 4 hS85)))))⟩ ⟨rfl, rfl, rfl, trivial⟩
    have hm := iteT hm hc89
    refine WP.region ?_
    refine WL.runk 1 [3, 5, 7, 20] [(3, .pointer (some ⟨b2, 0, none⟩)), (5, .slice a24 x22.1.length c25), (7, .pointer (some ⟨b65, 0, none⟩)), (20, .pointer (some ⟨b13, 0, none⟩))] (by kernel_rfl) ?_
    obtain ⟨x121, hx122, hm⟩ := bindE hm
    refine WL.call 40 #[.pointer (some ⟨b13, 0, none⟩), .pointer (some ⟨b65, 0, none⟩)] rfl rfl (by kernel_rfl) (c_40 n code_0 a0' c0' x80.2.1 x80.2.2 b13 x56.1.Name x56.1.OnHand x56.1.Reserved x56.1.Least b65 w82 w w.heap.size [aOwn fStr 9 a37 c38 x35, aOwn fGood 31 a24 c25 x22.1, aBox 31 b2 [.string (bs []), .int .i64 0, .int .i64 0, .int .i64 0]] hx122 hb87 (Nat.le_refl _) hL88 h0 hle0 hS85) ?_
    rintro _ w123 ⟨rfl, hB127, hS126⟩
    refine ⟨_, rfl, ?_⟩
    have hb128 : Ext w w123 := Below.trans hb87 hB127
    have hL129 : w.heap.size ≤ w123.heap.size := Nat.le_trans hL88 hB127.size
    refine WL.sub [(3, .pointer (some ⟨b2, 0, none⟩)), (5, .slice a24 x22.1.length c25), (7, .pointer (some ⟨b65, 0, none⟩))] ⟨rfl, rfl, rfl, trivial⟩ ?_
    refine WL.nil ?_
    obtain rfl := Option.some.inj hm
    exact WQ.post' ⟨rfl, hb128, hL129, (SH.take 4 (SH.front 3 (SH.front 3 (SH.front 4 (SH.front 4 hS126)))))⟩ ⟨rfl, rfl, rfl, trivial⟩
  clear hx120
  rintro _ w130 ⟨rfl, hb131, hL132, hS133⟩
  refine WQ.then_normal (hK78 _ _ _ ?_)
  refine WP.seq (fun K134 hK134 => ?_)
  refine WP.open (n := 4) (by kernel_rfl) rfl (fun w135 hE136 => ?_)
  have hb137 : Ext w w135 := Ext.trans hb131 hE136
  have hL138 : w.heap.size ≤ w135.heap.size := Nat.le_trans hL132 hE136.size
  have hS139 : SH w135 w.heap.size [aBox 87 b13 [.slice a0' code_0.length c0', .int .i64 x119.1, .int .u64 x119.2.1], aBox 31 b65 [.string (bs x119.2.2.1), .int .i64 x119.2.2.2.1, .int .i64 x119.2.2.2.2.1, .int .i64 x119.2.2.2.2.2], aOwn fGood 31 a24 c25 x22.1, aBox 31 b2 [.string (bs []), .int .i64 0, .int .i64 0, .int .i64 0]] := SH.ext hS133 hE136
  refine WA.quiet (f' := 1) (D' := [0, 1, 2]) [0, 1, 2] rfl rfl (by kernel_rfl) ?_
  refine QL.step1v 22 (.slice a24 x22.1.length c25) rfl (fun _ => by kernel_rfl) ?_
  refine QL.subk [3, 7, 22] [(3, .pointer (some ⟨b2, 0, none⟩)), (7, .pointer (some ⟨b65, 0, none⟩)), (22, .slice a24 x22.1.length c25)] (by kernel_rfl) ?_
  refine QL.st (.agg #[.string (bs x119.2.2.1), .int .i64 x119.2.2.2.1, .int .i64 x119.2.2.2.2.1, .int .i64 x119.2.2.2.2.2]) (ST.loadAgg (vs := [.string (bs x119.2.2.1), .int .i64 x119.2.2.2.1, .int .i64 x119.2.2.2.2.1, .int .i64 x119.2.2.2.2.2]) (fun j v hv => SH.boxPart (us := [.string (bs x119.2.2.1), .int .i64 x119.2.2.2.1, .int .i64 x119.2.2.2.2.1, .int .i64 x119.2.2.2.2.2]) (SH.front 1 hS139) 0 rfl j v hv) rfl rfl rfl Tryz.underlying31 rfl (info31).1 (info31).2.1) rfl rfl rfl ?_
  refine QL.step1v 2 (.slice a24 x22.1.length c25) rfl (fun _ => by kernel_rfl) ?_
  refine QL.subk [3, 23, 2] [(3, .pointer (some ⟨b2, 0, none⟩)), (23, .agg #[.string (bs x119.2.2.1), .int .i64 x119.2.2.2.1, .int .i64 x119.2.2.2.2.1, .int .i64 x119.2.2.2.2.2]), (2, .slice a24 x22.1.length c25)] (by kernel_rfl) ?_
  refine QL.nil ?_
  intro w140 hE141
  have hb142 : Ext w w140 := Ext.trans hb137 hE141
  have hL143 : w.heap.size ≤ w140.heap.size := Nat.le_trans hL138 hE141.size
  have hS144 : SH w140 w.heap.size [aBox 87 b13 [.slice a0' code_0.length c0', .int .i64 x119.1, .int .u64 x119.2.1], aBox 31 b65 [.string (bs x119.2.2.1), .int .i64 x119.2.2.2.1, .int .i64 x119.2.2.2.2.1, .int .i64 x119.2.2.2.2.2], aOwn fGood 31 a24 c25 x22.1, aBox 31 b2 [.string (bs []), .int .i64 0, .int .i64 0, .int .i64 0]] := SH.ext hS139 hE141
  refine WA.one (i := 3) (D' := [0, 1, 2, 3]) rfl rfl (by kernel_rfl) ?_
  refine WL.boxStore 0 [.string (bs x119.2.2.1), .int .i64 x119.2.2.2.1, .int .i64 x119.2.2.2.2.1, .int .i64 x119.2.2.2.2.2] [.string (bs x119.2.2.1), .int .i64 x119.2.2.2.1, .int .i64 x119.2.2.2.2.1, .int .i64 x119.2.2.2.2.2] (SH.front 3 hS144) hL143 rfl rfl rfl rfl rfl rfl rfl (info31).1 (info31).2.1 rfl rfl rfl ?_
  intro w145 hB146 hS147
  have hb148 : Ext w w145 := Below.trans hb142 hB146
  have hL149 : w.heap.size ≤ w145.heap.size := Nat.le_trans hL143 hB146.size
  refine WL.sub [(3, .pointer (some ⟨b2, 0, none⟩)), (2, .slice a24 x22.1.length c25)] ⟨rfl, rfl, trivial⟩ ?_
  refine WL.nil ?_
  refine WA.done (by kernel_rfl) ?_
  refine WQ.then_normal (hK134 _ _ _ ?_)
  refine WP.ret ?_
  obtain rfl := Option.some.inj hm
  exact WQ.retv2 _ _ rfl (RVal.tmp rfl) (RVal.box (SH.front 0 hS147) rfl Tryz.underlying31 rfl (info31).1 (info31).2.1) ⟨_, _, rfl, hb148, (SH.take 1 (SH.front 3 hS147))⟩


theorem c_43 (n : Nat) (s_0 : List SGood) (a0' : Option Addr) (c0' : Nat) (i_1 : Int) (v_2 : List SGood) (a2' : Option Addr) (c2' : Nat) (w : World) (w0 : World) (B : Nat) (L : List Asrt) {r : List SGood} (hm : m_slices_Insert_impl_Good_impl_Good n s_0 i_1 v_2 = some r) (_hE0 : Ext w0 w) (_hW : w0.heap.size ≤ B) (hL : B ≤ w.heap.size) (hS : SH w B (aOwn fGood 31 a0' c0' s_0 :: aOwn fGood 31 a2' c2' v_2 :: L)) :
    CallV Tryz.prog 43 #[.slice a0' s_0.length c0', .int .i64 i_1, .slice a2' v_2.length c2'] w (fun v w' => ∃ (ra0 : Option Addr) (rc0 : Nat), v = .slice ra0 r.length rc0 ∧ Below B w w' ∧ SH w' B (aOwn fGood 31 ra0 rc0 r :: L)) := by
  have hm : insM s_0 i_1 v_2 = some r := hm
  obtain ⟨k, rfl, hk, hm0, hbig, rfl⟩ := insM_some hm
  clear hm
  have hle := (SH.le hS).1
  have hRv : Rd fGood.ty w a2' v_2 := SH.rd (SH.front 1 hS)
  have hS1 : SH w B (aOwn fGood 31 a0' c0' s_0 :: L) := SH.cutOut 1 1 hS
  obtain ⟨S2, hV, hSV, -⟩ := (SH.front 1 hS).upd
  rcases own_shape hV with ⟨_, rfl, _⟩ | ⟨g2, cur2, rfl, hg2, hh2, v1, v2, v3, v4⟩
  · simp at hm0
  have hg2l : g2 < w.heap.size := (hSV _ hg2).2
  have hlz : (s_0.take k ++ v_2 ++ s_0.drop k).length = s_0.length + v_2.length := by simp; omega
  have hw1 : wI64 ((s_0.length : Int) + (v_2.length : Int)) = ((s_0.length + v_2.length : Nat) : Int) := by
    show IntKind.i64.wrap _ = _; rw [IntKind.wrap_i64]; omega
  have hw2 : wI64 ((k : Int) + (v_2.length : Int)) = ((k + v_2.length : Nat) : Int) := by
    show IntKind.i64.wrap _ = _; rw [IntKind.wrap_i64]; omega
  have hw3 : wI64 (((s_0.length + v_2.length : Nat) : Int) - (k : Int)) = ((s_0.length + v_2.length - k : Nat) : Int) := by
    show IntKind.i64.wrap _ = _; rw [IntKind.wrap_i64]; omega
  refine CallV.enter Tryz.func43 rfl (by kernel_rfl) Tryz.ntmps43 (env := [(0, .slice a0' s_0.length c0'), (1, .int .i64 (k : Int)), (2, .slice (some ⟨g2, 0, none⟩) v_2.length c2')]) ⟨rfl, rfl, rfl, trivial⟩ ?_
  -- 0
  refine WP.seq (fun K0 hK0 => ?_)
  refine WP.region ?_
  refine WL.runk 1 [0, 1, 2] [(0, .slice a0' s_0.length c0'), (1, .int .i64 (k : Int)), (2, .slice (some ⟨g2, 0, none⟩) v_2.length c2')] (by kernel_rfl) ?_
  refine WL.nil ?_
  refine WQ.then_normal (hK0 _ _ _ ?_)
  -- 1
  refine WP.seq (fun K1 hK1 => ?_)
  refine WP.region ?_
  refine WL.runk 2 [0, 1, 2, 10, 11] [(0, .slice a0' s_0.length c0'), (1, .int .i64 (k : Int)), (2, .slice (some ⟨g2, 0, none⟩) v_2.length c2'), (10, .slice a0' s_0.length c0'), (11, .int .i64 (k : Int))] (by kernel_rfl) ?_
  refine WL.st _ (ST.cut (F := fGood) (i := (k : Int)) (j := (s_0.length : Int)) rfl rfl Tryz.underlying24 (info31).1 (info31).2.1 ⟨_, rfl⟩ rfl (by omega) (by omega) (by omega)) rfl rfl rfl ?_
  refine WL.sub [(0, .slice a0' s_0.length c0'), (1, .int .i64 (k : Int)), (2, .slice (some ⟨g2, 0, none⟩) v_2.length c2')] ⟨rfl, rfl, rfl, trivial⟩ ?_
  refine WL.nil ?_
  refine WQ.then_normal (hK1 _ _ _ ?_)
  -- 2
  refine WP.seq (fun K2 hK2 => ?_)
  refine WP.region ?_
  refine WL.runk 3 [0, 1, 2, 7] [(0, .slice a0' s_0.length c0'), (1, .int .i64 (k : Int)), (2, .slice (some ⟨g2, 0, none⟩) v_2.length c2'), (7, .int .i64 (v_2.length : Int))] (by kernel_rfl) ?_
  refine WL.nil ?_
  refine WQ.then_normal (hK2 _ _ _ ?_)
  -- 3
  refine WP.seq (fun K3 hK3 => ?_)
  refine WP.seq (fun K3' hK3' => ?_)
  refine WP.region ?_
  refine WL.runk 2 [0, 1, 2, 7, 16] [(0, .slice a0' s_0.length c0'), (1, .int .i64 (k : Int)), (2, .slice (some ⟨g2, 0, none⟩) v_2.length c2'), (7, .int .i64 (v_2.length : Int)), (16, .bool ((v_2.length : Int) == 0))] (by kernel_rfl) ?_
  refine WL.nil ?_
  refine WQ.then_normal (hK3' _ _ _ ?_)
  refine WP.cond ((v_2.length : Int) == 0) rfl rfl (fun hc => ?_) (fun _ => ?_)
  · exfalso; have := eq_of_beq hc; omega
  refine WP.skip ?_
  refine WQ.then_normal (hK3 _ _ _ ?_)
  -- 5
  refine WP.seq (fun K5 hK5 => ?_)
  refine WP.region ?_
  refine WL.runk 3 [0, 1, 2, 7, 8] [(0, .slice a0' s_0.length c0'), (1, .int .i64 (k : Int)), (2, .slice (some ⟨g2, 0, none⟩) v_2.length c2'), (7, .int .i64 (v_2.length : Int)), (8, .int .i64 (s_0.length : Int))] (by kernel_rfl) ?_
  refine WL.nil ?_
  refine WQ.then_normal (hK5 _ _ _ ?_)
  -- 6
  refine WP.seq (fun K6 hK6 => ?_)
  refine WP.seq (fun K6' hK6' => ?_)
  refine WP.region ?_
  refine WL.runk 3 [0, 1, 2, 7, 8, 22] [(0, .slice a0' s_0.length c0'), (1, .int .i64 (k : Int)), (2, .slice (some ⟨g2, 0, none⟩) v_2.length c2'), (7, .int .i64 (v_2.length : Int)), (8, .int .i64 (s_0.length : Int)), (22, .bool ((k : Int) == (s_0.length : Int)))] (by kernel_rfl) ?_
  refine WL.nil ?_
  refine WQ.then_normal (hK6' _ _ _ ?_)
  refine WP.cond ((k : Int) == (s_0.length : Int)) rfl rfl (fun hc => ?_) (fun hc => ?_)
  · -- at the end
    have hkn : k = s_0.length := by have := eq_of_beq hc; omega
    subst hkn
    have happ : app s_0 v_2 = some (s_0.take s_0.length ++ v_2 ++ s_0.drop s_0.length) := by
      unfold app big; rw [if_pos hbig]; simp
    refine WP.seq (fun K7 hK7 => ?_)
    refine WP.region ?_
    refine WL.runk 2 [23, 24] [(23, .slice a0' s_0.length c0'), (24, .slice (some ⟨g2, 0, none⟩) v_2.length c2')] (by kernel_rfl) ?_
    refine WL.append (F := fGood) (xs := s_0) (ys := v_2) 25 hS1 hL hRv happ rfl rfl rfl Tryz.underlying24 (info31).1 (info31).2.2.1 (info31).2.1 (info31).2.2.2 rfl rfl rfl rfl rfl ?_
    intro a' c' w' hb hS'
    refine WL.runk 1 [6] [(6, .slice a' (s_0.take s_0.length ++ v_2 ++ s_0.drop s_0.length).length c')] (by kernel_rfl) ?_
    refine WL.nil ?_
    refine WQ.then_normal (hK7 _ _ _ ?_)
    refine WP.ret ?_
    refine WQ.then_ret ?_
    exact WQ.ret1 _ rfl rfl ⟨_, _, rfl, hb, hS'⟩
  have hkn : k < s_0.length := by
    have : ¬ (k : Int) = (s_0.length : Int) := by intro h; rw [h] at hc; simp at hc
    omega
  refine WP.skip ?_
  refine WQ.then_normal (hK6 _ _ _ ?_)
  -- the row
  obtain ⟨S, hA, hSS, hup⟩ := SH.turnRow (α := SGood) (F := fGood) (e := 31) hS1 hL
  rcases own_shape hA with ⟨_, rfl, _⟩ | ⟨g, cur, rfl, hg, hh, h1, h2, h3, h4⟩
  · simp at hkn
  have hgl : g < w.heap.size := (hSS _ hg).2
  have hne : g2 ≠ g := SH.apart hS
  obtain ⟨sz, hsz⟩ : ∃ sz, sz = fGood.sz := ⟨_, rfl⟩
  have hsp : 0 < sz := by rw [hsz]; exact fGood.pos
  obtain ⟨V, hV⟩ : ∃ V, V = v_2.flatMap fGood.leaf := ⟨_, rfl⟩
  obtain ⟨X, hX⟩ : ∃ X, X = (s_0.drop k).flatMap fGood.leaf := ⟨_, rfl⟩
  obtain ⟨A, hAe⟩ : ∃ A, A = (s_0.take k).flatMap fGood.leaf := ⟨_, rfl⟩
  have hlV : V.length = v_2.length * sz := by rw [hV, flat_len, hsz]
  have hlX : X.length = (s_0.length - k) * sz := by rw [hX, flat_len, List.length_drop, hsz]
  have hlA : A.length = k * sz := by rw [hAe, flat_len, List.length_take, Nat.min_eq_left hk, hsz]
  have hflat : (s_0.take k ++ v_2 ++ s_0.drop k).flatMap fGood.leaf = A ++ V ++ X := by rw [List.flatMap_append, List.flatMap_append, hV, hX, hAe]
  have hsum : A.length + V.length + X.length = (s_0.length + v_2.length) * sz := by
    rw [hlA, hlV, hlX, ← Nat.add_mul, ← Nat.add_mul]; congr 1; omega
  have hAV : A.length + V.length = (k + v_2.length) * sz := by rw [hlA, hlV, ← Nat.add_mul]
  have hzl : (s_0.take k ++ v_2 ++ s_0.drop k).length * fGood.sz = A.length + V.length + X.length := by rw [hlz, ← hsz, hsum]
  have hcv : ∀ (w' : World), w'.heap[g2]? = w.heap[g2]? → ∀ j v, V[j]? = some v → w'.cell? ((⟨g2, 0, none⟩ : Addr).add j) = some v := by
    intro w' he j v hj
    have := row_src (F := fGood) (xs := v_2) (k := 0) (by rw [he]; exact hh2) v4 (Nat.zero_le _) j v (by simpa [hV] using hj)
    simpa using this
  have hcx : ∀ (w' : World), w'.heap[g]? = w.heap[g]? → ∀ j v, X[j]? = some v → w'.cell? ((⟨g, k * fGood.sz, none⟩ : Addr).add j) = some v := by
    intro w' he j v hj
    exact row_src (F := fGood) (xs := s_0) (k := k) (by rw [he]; exact hh) h4 hk j v (by rw [← hX]; exact hj)
  have oneV : ∀ u ∈ V, u.oneCell' = true := fun u hu => flat_one (F := fGood) v_2 u (by rw [← hV]; exact hu)
  have oneX : ∀ u ∈ X, u.oneCell' = true := fun u hu => flat_one (F := fGood) (s_0.drop k) u (by rw [← hX]; exact hu)
  -- 8
  refine WP.seq (fun K8 hK8 => ?_)
  refine WP.seq (fun K8' hK8' => ?_)
  refine WP.region ?_
  refine WL.runk 6 [0, 1, 2, 7, 8, 31] [(0, .slice (some ⟨g, 0, none⟩) s_0.length c0'), (1, .int .i64 (k : Int)), (2, .slice (some ⟨g2, 0, none⟩) v_2.length c2'), (7, .int .i64 (v_2.length : Int)), (8, .int .i64 (s_0.length : Int)), (31, .bool (decide (wI64 ((s_0.length : Int) + (v_2.length : Int)) > (c0' : Int))))] (by kernel_rfl) ?_
  refine WL.nil ?_
  refine WQ.then_normal (hK8' _ _ _ ?_)
  refine WP.cond (decide (wI64 ((s_0.length : Int) + (v_2.length : Int)) > (c0' : Int))) rfl rfl (fun hc => ?_) (fun hc => ?_)
  · -- no room: a new row
    have hroom : c0' < s_0.length + v_2.length := by
      have := of_decide_eq_true hc
      rw [hw1] at this; omega
    have hkz : k + (s_0.length + v_2.length - k) = s_0.length + v_2.length := by omega
    refine WP.seq (fun K9 hK9 => ?_)
    refine WP.region ?_
    refine WL.runk 2 [0, 1, 2, 7, 8, 32, 33] [(0, .slice (some ⟨g, 0, none⟩) s_0.length c0'), (1, .int .i64 (k : Int)), (2, .slice (some ⟨g2, 0, none⟩) v_2.length c2'), (7, .int .i64 (v_2.length : Int)), (8, .int .i64 (s_0.length : Int)), (32, .slice (some ⟨g, 0, none⟩) s_0.length c0'), (33, .int .i64 (k : Int))] (by kernel_rfl) ?_
    refine WL.st (.slice (some ⟨g, 0, none⟩) k c0') (ST.cutTo (F := fGood) rfl rfl Tryz.underlying24 (info31).1 (info31).2.1 ⟨_, rfl⟩ (by omega)) rfl rfl rfl ?_
    refine WL.runk 5 [0, 1, 2, 7, 8, 34, 39] [(0, .slice (some ⟨g, 0, none⟩) s_0.length c0'), (1, .int .i64 (k : Int)), (2, .slice (some ⟨g2, 0, none⟩) v_2.length c2'), (7, .int .i64 (v_2.length : Int)), (8, .int .i64 (s_0.length : Int)), (34, .slice (some ⟨g, 0, none⟩) k c0'), (39, .int .i64 (wI64 (wI64 ((s_0.length : Int) + (v_2.length : Int)) - (k : Int))))] (by kernel_rfl) ?_
    rw [hw1, hw3]
    refine WL.growZ (F := fGood) (xs := s_0.take k) (SGood.mk [] 0 0 0) 40 g k c0' (s_0.length + v_2.length - k) cur hh ?_ ?_ rfl rfl rfl Tryz.underlying24 Tryz.underlying3 (info31).1 (info31).2.2.1 (info31).2.1 (info31).2.2.2 rfl (by omega) (by omega) (by omega) rfl rfl rfl rfl ?_
    · rw [flat_take k hk, ← h4, List.take_take, Nat.min_eq_left (Nat.mul_le_mul_right _ hk)]
    · rw [List.length_take, Nat.min_eq_left hk]
    intro cap cur1 w1 hE1 hcap hcm hh1 hs1 hp1
    rw [← hAe] at hp1
    rw [hkz] at hcap ⊢
    obtain ⟨N, hN⟩ : ∃ N, N = w.heap.size := ⟨_, rfl⟩
    rw [← hN] at hh1 ⊢
    refine WL.runk 1 [0, 1, 2, 7, 9] [(0, .slice (some ⟨g, 0, none⟩) s_0.length c0'), (1, .int .i64 (k : Int)), (2, .slice (some ⟨g2, 0, none⟩) v_2.length c2'), (7, .int .i64 (v_2.length : Int)), (9, .slice (some ⟨N, 0, none⟩) (s_0.length + v_2.length) cap)] (by kernel_rfl) ?_
    refine WL.nil ?_
    refine WQ.then_normal (hK9 _ _ _ ?_)
    have hsz1 : cur1.toList.length = cap * sz := by rw [Array.length_toList, hs1, hsz]
    have hT : A.length + V.length + X.length ≤ cur1.toList.length := by rw [hsz1, hsum]; exact Nat.mul_le_mul_right _ hcap
    -- 10
    refine WP.seq (fun K10 hK10 => ?_)
    refine WP.region ?_
    refine WL.runk 2 [0, 1, 2, 7, 9, 41, 42] [(0, .slice (some ⟨g, 0, none⟩) s_0.length c0'), (1, .int .i64 (k : Int)), (2, .slice (some ⟨g2, 0, none⟩) v_2.length c2'), (7, .int .i64 (v_2.length : Int)), (9, .slice (some ⟨N, 0, none⟩) (s_0.length + v_2.length) cap), (41, .slice (some ⟨N, 0, none⟩) (s_0.length + v_2.length) cap), (42, .int .i64 (k : Int))] (by kernel_rfl) ?_
    refine WL.st (.slice (some ⟨N, k * fGood.sz, none⟩) (s_0.length + v_2.length - k) (cap - k)) (ST.cutFrom (F := fGood) rfl rfl Tryz.underlying24 (info31).1 (info31).2.1 ⟨_, rfl⟩ (by omega) hcap (by omega)) rfl rfl rfl ?_
    refine WL.runk 1 [0, 1, 2, 7, 9, 43, 44] [(0, .slice (some ⟨g, 0, none⟩) s_0.length c0'), (1, .int .i64 (k : Int)), (2, .slice (some ⟨g2, 0, none⟩) v_2.length c2'), (7, .int .i64 (v_2.length : Int)), (9, .slice (some ⟨N, 0, none⟩) (s_0.length + v_2.length) cap), (43, .slice (some ⟨N, k * fGood.sz, none⟩) (s_0.length + v_2.length - k) (cap - k)), (44, .slice (some ⟨g2, 0, none⟩) v_2.length c2')] (by kernel_rfl) ?_
    refine WL.copyH (F := fGood) 45 N (k * fGood.sz) (s_0.length + v_2.length - k) (cap - k) ⟨g2, 0, none⟩ v_2.length c2' cur1 V v_2.length rfl rfl rfl Tryz.underlying24 (info31).1 (info31).2.1 hh1 (Nat.min_eq_left (by omega)) (by rw [hlV, hsz]) (hcv w1 (hE1.block g2 hg2l)) ?_ oneV rfl rfl rfl rfl ?_
    · have e1 : cur1.toList.length = cur1.size := Array.length_toList
      rw [← hsz, ← hlA]; omega
    have hlA' : k * fGood.sz = A.length := by rw [hlA, hsz]
    rw [hlA']
    obtain ⟨cur2, hc2⟩ : ∃ cur2, cur2 = (ins cur1.toList A.length V).toArray := ⟨_, rfl⟩
    rw [← hc2]
    have hE2 : Ext w (w1.setRow N cur2) := Ext.row hE1 (by omega) _
    have hh2' : (w1.setRow N cur2).heap[N]? = some (.cells cur2 31 (0, 0)) := setRow_heap w1 N cur1 _ 31 _ hh1
    obtain ⟨w2, hw2e⟩ : ∃ w2, w2 = w1.setRow N cur2 := ⟨_, rfl⟩
    rw [← hw2e] at hE2 hh2' ⊢
    have hl2 : cur2.toList.length = cur1.toList.length := by rw [hc2]; exact ins_len (by omega)
    refine WL.sub [(0, .slice (some ⟨g, 0, none⟩) s_0.length c0'), (1, .int .i64 (k : Int)), (2, .slice (some ⟨g2, 0, none⟩) v_2.length c2'), (7, .int .i64 (v_2.length : Int)), (9, .slice (some ⟨N, 0, none⟩) (s_0.length + v_2.length) cap)] ⟨rfl, rfl, rfl, rfl, rfl, trivial⟩ ?_
    refine WL.nil ?_
    refine WQ.then_normal (hK10 _ _ _ ?_)
    -- 11
    refine WP.seq (fun K11 hK11 => ?_)
    refine WP.open (n := 9) (by kernel_rfl) rfl (fun w3 hE3 => ?_)
    have hN2 : N < w2.heap.size := (Array.getElem?_eq_some_iff.1 hh2').1
    have hh3 := (hE3.block N hN2).trans hh2'
    have hEw3 : Ext w w3 := Ext.trans hE2 hE3
    refine WA.quiet (f' := 1) (D' := [0, 1, 2, 3, 4, 5, 6, 7]) [0, 1, 2, 3, 4, 5, 6, 7] rfl rfl (by kernel_rfl) ?_
    refine QL.step1v 46 (.slice (some ⟨N, 0, none⟩) (s_0.length + v_2.length) cap) rfl (fun _ => by kernel_rfl) ?_
    refine QL.step1v 47 (.int .i64 (k : Int)) rfl (fun _ => by kernel_rfl) ?_
    refine QL.step1v 48 (.int .i64 (v_2.length : Int)) rfl (fun _ => by kernel_rfl) ?_
    refine QL.step1v 49 (.int .i64 (wI64 ((k : Int) + (v_2.length : Int)))) rfl (fun _ => by kernel_rfl) ?_
    rw [hw2]
    refine QL.subk [0, 1, 9, 46, 49] [(0, .slice (some ⟨g, 0, none⟩) s_0.length c0'), (1, .int .i64 (k : Int)), (9, .slice (some ⟨N, 0, none⟩) (s_0.length + v_2.length) cap), (46, .slice (some ⟨N, 0, none⟩) (s_0.length + v_2.length) cap), (49, .int .i64 ((k + v_2.length : Nat) : Int))] (by kernel_rfl) ?_
    refine QL.st (.slice (some ⟨N, (k + v_2.length) * fGood.sz, none⟩) (s_0.length + v_2.length - (k + v_2.length)) (cap - (k + v_2.length))) (ST.cutFrom (F := fGood) rfl rfl Tryz.underlying24 (info31).1 (info31).2.1 ⟨_, rfl⟩ (by omega) hcap (by omega)) rfl rfl rfl ?_
    refine QL.step1v 51 (.slice (some ⟨g, 0, none⟩) s_0.length c0') rfl (fun _ => by kernel_rfl) ?_
    refine QL.step1v 52 (.int .i64 (k : Int)) rfl (fun _ => by kernel_rfl) ?_
    refine QL.subk [9, 50, 51, 52] [(9, .slice (some ⟨N, 0, none⟩) (s_0.length + v_2.length) cap), (50, .slice (some ⟨N, (k + v_2.length) * fGood.sz, none⟩) (s_0.length + v_2.length - (k + v_2.length)) (cap - (k + v_2.length))), (51, .slice (some ⟨g, 0, none⟩) s_0.length c0'), (52, .int .i64 (k : Int))] (by kernel_rfl) ?_
    refine QL.st (.slice (some ⟨g, k * fGood.sz, none⟩) (s_0.length - k) (c0' - k)) (ST.cutFrom (F := fGood) rfl rfl Tryz.underlying24 (info31).1 (info31).2.1 ⟨_, rfl⟩ (by omega) hle (by omega)) rfl rfl rfl ?_
    refine QL.subk [9, 50, 53] [(9, .slice (some ⟨N, 0, none⟩) (s_0.length + v_2.length) cap), (50, .slice (some ⟨N, (k + v_2.length) * fGood.sz, none⟩) (s_0.length + v_2.length - (k + v_2.length)) (cap - (k + v_2.length))), (53, .slice (some ⟨g, k * fGood.sz, none⟩) (s_0.length - k) (c0' - k))] (by kernel_rfl) ?_
    refine QL.nil ?_
    intro w4 hE4
    have hN3 : N < w3.heap.size := (Array.getElem?_eq_some_iff.1 hh3).1
    have hh4 := (hE4.block N hN3).trans hh3
    have hEw4 : Ext w w4 := Ext.trans hEw3 hE4
    refine WA.one (i := 8) (D' := [0, 1, 2, 3, 4, 5, 6, 7, 8]) rfl rfl (by kernel_rfl) ?_
    refine WL.copyH (F := fGood) 54 N ((k + v_2.length) * fGood.sz) (s_0.length + v_2.length - (k + v_2.length)) (cap - (k + v_2.length)) ⟨g, k * fGood.sz, none⟩ (s_0.length - k) (c0' - k) cur2 X (s_0.length - k) rfl rfl rfl Tryz.underlying24 (info31).1 (info31).2.1 hh4 (Nat.min_eq_left (by omega)) (by rw [hlX, hsz]) (hcx w4 (hEw4.block g hgl)) ?_ oneX rfl rfl rfl rfl ?_
    · have e1 : cur2.toList.length = cur2.size := Array.length_toList
      rw [← hsz, ← hAV]; omega
    have hAV' : (k + v_2.length) * fGood.sz = A.length + V.length := by rw [hAV, hsz]
    rw [hAV']
    obtain ⟨cur3, hc3⟩ : ∃ cur3, cur3 = (ins cur2.toList (A.length + V.length) X).toArray := ⟨_, rfl⟩
    rw [← hc3]
    refine WL.sub [(9, .slice (some ⟨N, 0, none⟩) (s_0.length + v_2.length) cap)] ⟨rfl, trivial⟩ ?_
    refine WL.nil ?_
    refine WA.done (by kernel_rfl) ?_
    refine WQ.then_normal (hK11 _ _ _ ?_)
    have hE5 : Ext w (w4.setRow N cur3) := Ext.row hEw4 (by omega) _
    have hh5 : (w4.setRow N cur3).heap[N]? = some (.cells cur3 31 (0, 0)) := setRow_heap w4 N cur2 _ 31 _ hh4
    have hl3 : cur3.size = cap * fGood.sz := by
      rw [hc3, ins_arr (by rw [hl2]; exact hT), hl2, hsz1, hsz]
    have htk : cur3.toList.take ((s_0.take k ++ v_2 ++ s_0.drop k).length * fGood.sz) = (s_0.take k ++ v_2 ++ s_0.drop k).flatMap fGood.leaf := by
      rw [hzl, hflat, hc3, hc2]
      exact ins_grow (by rw [hlA, ← hp1, hsz]) hT
    obtain ⟨hB5, hS5⟩ := hup (w4.setRow N cur3) N cur3 cap (s_0.take k ++ v_2 ++ s_0.drop k) hE5.mod (.inr (by omega)) hh5 (by rw [hlz]; exact hcap) hcm hl3 htk
    refine WP.seq (fun K12 hK12 => ?_)
    refine WP.region ?_
    refine WL.runk 2 [6] [(6, .slice (some ⟨N, 0, none⟩) (s_0.length + v_2.length) cap)] (by kernel_rfl) ?_
    refine WL.nil ?_
    refine WQ.then_normal (hK12 _ _ _ ?_)
    refine WP.ret ?_
    refine WQ.then_ret ?_
    exact WQ.ret1 _ rfl rfl ⟨_, _, by rw [hlz], hB5, hS5⟩
  -- room
  have hroom : s_0.length + v_2.length ≤ c0' := by
    have := of_decide_eq_false hc
    rw [hw1] at this; omega
  have hT : A.length + V.length + X.length ≤ cur.toList.length := by
    have e1 : cur.toList.length = cur.size := Array.length_toList
    rw [e1, h3, ← hsz, hsum]; exact Nat.mul_le_mul_right _ hroom
  refine WP.skip ?_
  refine WQ.then_normal (hK8 _ _ _ ?_)
  -- 13
  refine WP.seq (fun K13 hK13 => ?_)
  refine WP.region ?_
  refine WL.runk 4 [1, 2, 7, 56, 59] [(1, .int .i64 (k : Int)), (2, .slice (some ⟨g2, 0, none⟩) v_2.length c2'), (7, .int .i64 (v_2.length : Int)), (56, .slice (some ⟨g, 0, none⟩) s_0.length c0'), (59, .int .i64 (wI64 ((s_0.length : Int) + (v_2.length : Int))))] (by kernel_rfl) ?_
  rw [hw1]
  refine WL.st (.slice (some ⟨g, 0, none⟩) (s_0.length + v_2.length) c0') (ST.cutTo (F := fGood) rfl rfl Tryz.underlying24 (info31).1 (info31).2.1 ⟨_, rfl⟩ hroom) rfl rfl rfl ?_
  refine WL.runk 1 [0, 1, 2, 7] [(1, .int .i64 (k : Int)), (2, .slice (some ⟨g2, 0, none⟩) v_2.length c2'), (7, .int .i64 (v_2.length : Int)), (0, .slice (some ⟨g, 0, none⟩) (s_0.length + v_2.length) c0')] (by kernel_rfl) ?_
  refine WL.nil ?_
  refine WQ.then_normal (hK13 _ _ _ ?_)
  -- 14
  refine WP.seq (fun K14 hK14 => ?_)
  refine WP.seq (fun K14' hK14' => ?_)
  refine WP.region ?_
  refine WL.runk 5 [0, 1, 2, 7, 61, 62, 65] [(1, .int .i64 (k : Int)), (2, .slice (some ⟨g2, 0, none⟩) v_2.length c2'), (7, .int .i64 (v_2.length : Int)), (0, .slice (some ⟨g, 0, none⟩) (s_0.length + v_2.length) c0'), (61, .slice (some ⟨g2, 0, none⟩) v_2.length c2'), (62, .slice (some ⟨g, 0, none⟩) (s_0.length + v_2.length) c0'), (65, .int .i64 (wI64 ((k : Int) + (v_2.length : Int))))] (by kernel_rfl) ?_
  rw [hw2]
  refine WL.st (.slice (some ⟨g, (k + v_2.length) * fGood.sz, none⟩) (s_0.length + v_2.length - (k + v_2.length)) (c0' - (k + v_2.length))) (ST.cutFrom (F := fGood) rfl rfl Tryz.underlying24 (info31).1 (info31).2.1 ⟨_, rfl⟩ (by omega) hroom (by omega)) rfl rfl rfl ?_
  refine WL.apart (f := 68) (fn := Tryz.f68) (t := 24) (tR := 4) 67 rfl rfl rfl Tryz.func68 (by kernel_rfl) rfl (by kernel_rfl) rfl Tryz.underlying24 (info31).1 hne hh2 hh (by rw [h3]; have := Nat.mul_pos (by omega : 0 < c0') fGood.pos; omega) rfl rfl rfl rfl ?_
  refine WL.runk 1 [0, 1, 2, 7, 68] [(1, .int .i64 (k : Int)), (2, .slice (some ⟨g2, 0, none⟩) v_2.length c2'), (7, .int .i64 (v_2.length : Int)), (0, .slice (some ⟨g, 0, none⟩) (s_0.length + v_2.length) c0'), (68, .bool true)] (by kernel_rfl) ?_
  refine WL.nil ?_
  refine WQ.then_normal (hK14' _ _ _ ?_)
  refine WP.cond true rfl rfl (fun _ => ?_) (fun h => by cases h)
  -- 15
  refine WP.seq (fun K15 hK15 => ?_)
  refine WP.open (n := 9) (by kernel_rfl) rfl (fun w3 hE3 => ?_)
  refine WA.quiet (f' := 1) (D' := [0, 1, 2, 3, 4, 5, 6, 7]) [0, 1, 2, 3, 4, 5, 6, 7] rfl rfl (by kernel_rfl) ?_
  refine QL.step1v 69 (.slice (some ⟨g, 0, none⟩) (s_0.length + v_2.length) c0') rfl (fun _ => by kernel_rfl) ?_
  refine QL.step1v 70 (.int .i64 (k : Int)) rfl (fun _ => by kernel_rfl) ?_
  refine QL.step1v 71 (.int .i64 (v_2.length : Int)) rfl (fun _ => by kernel_rfl) ?_
  refine QL.step1v 72 (.int .i64 (wI64 ((k : Int) + (v_2.length : Int)))) rfl (fun _ => by kernel_rfl) ?_
  rw [hw2]
  refine QL.subk [1, 2, 0, 69, 72] [(1, .int .i64 (k : Int)), (2, .slice (some ⟨g2, 0, none⟩) v_2.length c2'), (0, .slice (some ⟨g, 0, none⟩) (s_0.length + v_2.length) c0'), (69, .slice (some ⟨g, 0, none⟩) (s_0.length + v_2.length) c0'), (72, .int .i64 ((k + v_2.length : Nat) : Int))] (by kernel_rfl) ?_
  refine QL.st (.slice (some ⟨g, (k + v_2.length) * fGood.sz, none⟩) (s_0.length + v_2.length - (k + v_2.length)) (c0' - (k + v_2.length))) (ST.cutFrom (F := fGood) rfl rfl Tryz.underlying24 (info31).1 (info31).2.1 ⟨_, rfl⟩ (by omega) hroom (by omega)) rfl rfl rfl ?_
  refine QL.step1v 74 (.slice (some ⟨g, 0, none⟩) (s_0.length + v_2.length) c0') rfl (fun _ => by kernel_rfl) ?_
  refine QL.step1v 75 (.int .i64 (k : Int)) rfl (fun _ => by kernel_rfl) ?_
  refine QL.subk [1, 2, 0, 73, 74, 75] [(1, .int .i64 (k : Int)), (2, .slice (some ⟨g2, 0, none⟩) v_2.length c2'), (0, .slice (some ⟨g, 0, none⟩) (s_0.length + v_2.length) c0'), (73, .slice (some ⟨g, (k + v_2.length) * fGood.sz, none⟩) (s_0.length + v_2.length - (k + v_2.length)) (c0' - (k + v_2.length))), (74, .slice (some ⟨g, 0, none⟩) (s_0.length + v_2.length) c0'), (75, .int .i64 (k : Int))] (by kernel_rfl) ?_
  refine QL.st (.slice (some ⟨g, k * fGood.sz, none⟩) (s_0.length + v_2.length - k) (c0' - k)) (ST.cutFrom (F := fGood) rfl rfl Tryz.underlying24 (info31).1 (info31).2.1 ⟨_, rfl⟩ (by omega) hroom (by omega)) rfl rfl rfl ?_
  refine QL.subk [1, 2, 0, 73, 76] [(1, .int .i64 (k : Int)), (2, .slice (some ⟨g2, 0, none⟩) v_2.length c2'), (0, .slice (some ⟨g, 0, none⟩) (s_0.length + v_2.length) c0'), (73, .slice (some ⟨g, (k + v_2.length) * fGood.sz, none⟩) (s_0.length + v_2.length - (k + v_2.length)) (c0' - (k + v_2.length))), (76, .slice (some ⟨g, k * fGood.sz, none⟩) (s_0.length + v_2.length - k) (c0' - k))] (by kernel_rfl) ?_
  refine QL.nil ?_
  intro w4 hE4
  have hEw4 : Ext w w4 := Ext.trans hE3 hE4
  have hh4 := (hEw4.block g hgl).trans hh
  refine WA.one (i := 8) (D' := [0, 1, 2, 3, 4, 5, 6, 7, 8]) rfl rfl (by kernel_rfl) ?_
  refine WL.copyH (F := fGood) 77 g ((k + v_2.length) * fGood.sz) (s_0.length + v_2.length - (k + v_2.length)) (c0' - (k + v_2.length)) ⟨g, k * fGood.sz, none⟩ (s_0.length + v_2.length - k) (c0' - k) cur X (s_0.length - k) rfl rfl rfl Tryz.underlying24 (info31).1 (info31).2.1 hh4 (by rw [show s_0.length + v_2.length - (k + v_2.length) = s_0.length - k by omega]; exact Nat.min_eq_right (by omega)) (by rw [hlX, hsz]) (hcx w4 (hEw4.block g hgl)) ?_ oneX rfl rfl rfl rfl ?_
  · have e1 : cur.toList.length = cur.size := Array.length_toList
    rw [← hsz, ← hAV]; omega
  have hAV' : (k + v_2.length) * fGood.sz = A.length + V.length := by rw [hAV, hsz]
  rw [hAV']
  obtain ⟨cur5, hc5⟩ : ∃ cur5, cur5 = (ins cur.toList (A.length + V.length) X).toArray := ⟨_, rfl⟩
  rw [← hc5]
  have hm5 : Mod S w (w4.setRow g cur5) := Mod.trans hEw4.mod (Mod.row cur5 hg)
  have hh5 : (w4.setRow g cur5).heap[g]? = some (.cells cur5 31 (0, 0)) := setRow_heap w4 g cur _ 31 _ hh4
  have hv5 : (w4.setRow g cur5).heap[g2]? = w.heap[g2]? := (setRow_other w4 g g2 _ (fun e => hne e)).trans (hEw4.block g2 hg2l)
  obtain ⟨w5, hw5e⟩ : ∃ w5, w5 = w4.setRow g cur5 := ⟨_, rfl⟩
  rw [← hw5e] at hm5 hh5 hv5 ⊢
  have hl5 : cur5.toList.length = cur.toList.length := by rw [hc5]; exact ins_len hT
  refine WL.sub [(1, .int .i64 (k : Int)), (2, .slice (some ⟨g2, 0, none⟩) v_2.length c2'), (0, .slice (some ⟨g, 0, none⟩) (s_0.length + v_2.length) c0')] ⟨rfl, rfl, rfl, trivial⟩ ?_
  refine WL.nil ?_
  refine WA.done (by kernel_rfl) ?_
  refine WQ.then_normal (hK15 _ _ _ ?_)
  -- 16
  refine WP.seq (fun K16 hK16 => ?_)
  refine WP.region ?_
  refine WL.runk 2 [2, 0, 78, 79] [(2, .slice (some ⟨g2, 0, none⟩) v_2.length c2'), (0, .slice (some ⟨g, 0, none⟩) (s_0.length + v_2.length) c0'), (78, .slice (some ⟨g, 0, none⟩) (s_0.length + v_2.length) c0'), (79, .int .i64 (k : Int))] (by kernel_rfl) ?_
  refine WL.st (.slice (some ⟨g, k * fGood.sz, none⟩) (s_0.length + v_2.length - k) (c0' - k)) (ST.cutFrom (F := fGood) rfl rfl Tryz.underlying24 (info31).1 (info31).2.1 ⟨_, rfl⟩ (by omega) hroom (by omega)) rfl rfl rfl ?_
  refine WL.runk 1 [0, 80, 81] [(0, .slice (some ⟨g, 0, none⟩) (s_0.length + v_2.length) c0'), (80, .slice (some ⟨g, k * fGood.sz, none⟩) (s_0.length + v_2.length - k) (c0' - k)), (81, .slice (some ⟨g2, 0, none⟩) v_2.length c2')] (by kernel_rfl) ?_
  refine WL.copyH (F := fGood) 82 g (k * fGood.sz) (s_0.length + v_2.length - k) (c0' - k) ⟨g2, 0, none⟩ v_2.length c2' cur5 V v_2.length rfl rfl rfl Tryz.underlying24 (info31).1 (info31).2.1 hh5 (Nat.min_eq_left (by omega)) (by rw [hlV, hsz]) (hcv w5 hv5) ?_ oneV rfl rfl rfl rfl ?_
  · have e1 : cur5.toList.length = cur5.size := Array.length_toList
    rw [← hsz, ← hlA]; omega
  have hlA' : k * fGood.sz = A.length := by rw [hlA, hsz]
  rw [hlA']
  obtain ⟨cur6, hc6⟩ : ∃ cur6, cur6 = (ins cur5.toList A.length V).toArray := ⟨_, rfl⟩
  rw [← hc6]
  have hm6 : Mod S w (w5.setRow g cur6) := Mod.trans hm5 (Mod.row cur6 hg)
  have hh6 : (w5.setRow g cur6).heap[g]? = some (.cells cur6 31 (0, 0)) := setRow_heap w5 g cur5 _ 31 _ hh5
  have hl6 : cur6.size = c0' * fGood.sz := by
    rw [hc6, ins_arr (by rw [hl5]; omega), hl5, Array.length_toList, h3]
  have htk : cur6.toList.take ((s_0.take k ++ v_2 ++ s_0.drop k).length * fGood.sz) = (s_0.take k ++ v_2 ++ s_0.drop k).flatMap fGood.leaf := by
    rw [hzl, hflat, hc6, hc5]
    exact ins_room (by rw [hlA, hAe, flat_take k hk, ← h4, List.take_take, Nat.min_eq_left (Nat.mul_le_mul_right _ hk), hsz]) hT
  obtain ⟨hB6, hS6⟩ := hup (w5.setRow g cur6) g cur6 c0' (s_0.take k ++ v_2 ++ s_0.drop k) hm6 (.inl hg) hh6 (by rw [hlz]; exact hroom) h2 hl6 htk
  refine WL.sub [(0, .slice (some ⟨g, 0, none⟩) (s_0.length + v_2.length) c0')] ⟨rfl, trivial⟩ ?_
  refine WL.nil ?_
  refine WQ.then_normal (hK16 _ _ _ ?_)
  refine WP.seq (fun K17 hK17 => ?_)
  refine WP.region ?_
  refine WL.runk 2 [6] [(6, .slice (some ⟨g, 0, none⟩) (s_0.length + v_2.length) c0')] (by kernel_rfl) ?_
  refine WL.nil ?_
  refine WQ.then_normal (hK17 _ _ _ ?_)
  refine WP.ret ?_
  refine WQ.then_ret ?_
  exact WQ.ret1 _ rfl rfl ⟨_, _, by rw [hlz], hB6, hS6⟩

theorem c_9 (n : Nat) (list_0 : List SGood) (a0' : Option Addr) (c0' : Nat) (g_1 : SGood) (w : World) {r : List SGood × Int} (hm : m_impl_AddGood n list_0 g_1 = some r) (h0 : Rd fGood.ty w a0' list_0) (hle0 : list_0.length ≤ c0') :
    CallV Tryz.prog 9 #[.slice a0' list_0.length c0', .agg #[.string (bs g_1.Name), .int .i64 g_1.OnHand, .int .i64 g_1.Reserved, .int .i64 g_1.Least]] w (fun v w' => ∃ (ra0 : Option Addr) (rc0 : Nat), v = .tuple #[.slice ra0 r.1.length rc0, .int .i64 r.2] ∧ Ext w w' ∧ SH w' w.heap.size [aOwn fGood 31 ra0 rc0 r.1]) := by
  unfold m_impl_AddGood at hm
  refine CallV.enter Tryz.func9 rfl (by kernel_rfl) Tryz.ntmps9 (env := [(0, .slice a0' list_0.length c0'), (1, .agg #[.string (bs g_1.Name), .int .i64 g_1.OnHand, .int .i64 g_1.Reserved, .int .i64 g_1.Least])]) ⟨rfl, rfl, trivial⟩ ?_
  refine WP.seq (fun K1 hK1 => ?_)
  refine WP.region ?_
  refine WL.box 31 [.string (bs g_1.Name), .int .i64 g_1.OnHand, .int .i64 g_1.Reserved, .int .i64 g_1.Least] 3 (by kernel_rfl) rfl rfl rfl rfl ?_
  intro b2 w3 hE4 hR5
  have hb7 : Ext w w3 := Ext.trans (Ext.refl w) hE4
  have hL8 : w.heap.size ≤ w3.heap.size := Nat.le_trans (Nat.le_refl _) hE4.size
  have hS9 : SH w3 w.heap.size [aBox 31 b2 [.string (bs g_1.Name), .int .i64 g_1.OnHand, .int .i64 g_1.Reserved, .int .i64 g_1.Least]] := SH.add (SH.nil _ _) hE4 (Nat.le_refl _) hR5
  refine WL.runk 2 [0, 3] [(0, .slice a0' list_0.length c0'), (3, .pointer (some ⟨b2, 0, none⟩))] (by kernel_rfl) ?_
  refine WL.nil ?_
  refine WQ.then_normal (hK1 _ _ _ ?_)
  refine WP.seq (fun K10 hK10 => ?_)
  refine WP.block ?_
  refine WP.seq (fun K11 hK11 => ?_)
  refine WP.region ?_
  refine WL.runk 1 [0, 3, 9] [(0, .slice a0' list_0.length c0'), (3, .pointer (some ⟨b2, 0, none⟩)), (9, .slice a0' list_0.length c0')] (by kernel_rfl) ?_
  obtain ⟨x12, hx13, hm⟩ := bindE hm
  refine WL.call 23 #[.slice a0' list_0.length c0'] rfl rfl (by kernel_rfl) (c_23 n list_0 a0' c0' w3 hx13 (Rd.below h0 hb7) hle0) ?_
  rintro _ w14 ⟨rfl, hE15⟩
  refine ⟨_, rfl, ?_⟩
  have hb17 : Ext w w14 := Ext.trans hb7 hE15
  have hL18 : w.heap.size ≤ w14.heap.size := Nat.le_trans hL8 hE15.size
  have hS19 : SH w14 w.heap.size [aBox 31 b2 [.string (bs g_1.Name), .int .i64 g_1.OnHand, .int .i64 g_1.Reserved, .int .i64 g_1.Least]] := SH.ext hS9 hE15
  refine WL.runk 2 [0, 3, 8] [(0, .slice a0' list_0.length c0'), (3, .pointer (some ⟨b2, 0, none⟩)), (8, .bool (!x12))] (by kernel_rfl) ?_
  refine WL.nil ?_
  refine WQ.then_normal (hK11 _ _ _ ?_)
  refine WP.cond (!x12) rfl rfl (fun hc20 => ?_) (fun hc20 => ?_)
  · have hm := iteT hm hc20
    refine WP.seq (fun K21 hK21 => ?_)
    refine WP.region ?_
    refine WL.runk 2 [4, 5] [(4, .slice none 0 0), (5, .int .i64 1)] (by kernel_rfl) ?_
    refine WL.nil ?_
    refine WQ.then_normal (hK21 _ _ _ ?_)
    refine WP.ret ?_
    refine WQ.block_ret ?_
    refine WQ.then_ret ?_
    obtain rfl := Option.some.inj hm
    have hS23 : SH w14 w.heap.size [aOwn fGood 31 none 0 ([] : List SGood), aBox 31 b2 [.string (bs g_1.Name), .int .i64 g_1.OnHand, .int .i64 g_1.Reserved, .int .i64 g_1.Least]] := SH.nilOwn hS19
    exact WQ.ret2 _ _ rfl rfl rfl ⟨_, _, rfl, hb17, (SH.take 1 hS23)⟩
  have hm := iteF hm hc20
  refine WP.seq (fun K24 hK24 => ?_)
  refine WP.region ?_
  refine WL.st (.agg #[.string (bs g_1.Name), .int .i64 g_1.OnHand, .int .i64 g_1.Reserved, .int .i64 g_1.Least]) (ST.loadAgg (vs := [.string (bs g_1.Name), .int .i64 g_1.OnHand, .int .i64 g_1.Reserved, .int .i64 g_1.Least]) (fun j v hv => SH.boxPart (us := [.string (bs g_1.Name), .int .i64 g_1.OnHand, .int .i64 g_1.Reserved, .int .i64 g_1.Least]) (SH.front 0 hS19) 0 rfl j v hv) rfl rfl rfl Tryz.underlying31 rfl (info31).1 (info31).2.1) rfl rfl rfl ?_
  obtain ⟨x25, hx26, hm⟩ := bindE hm
  refine WL.call 41 #[.agg #[.string (bs g_1.Name), .int .i64 g_1.OnHand, .int .i64 g_1.Reserved, .int .i64 g_1.Least]] rfl rfl (by kernel_rfl) (c_41 n g_1 w14 hx26 ) ?_
  rintro _ w27 ⟨rfl, hE28⟩
  refine ⟨_, rfl, ?_⟩
  have hb30 : Ext w w27 := Ext.trans hb17 hE28
  have hL31 : w.heap.size ≤ w27.heap.size := Nat.le_trans hL18 hE28.size
  have hS32 : SH w27 w.heap.size [aBox 31 b2 [.string (bs g_1.Name), .int .i64 g_1.OnHand, .int .i64 g_1.Reserved, .int .i64 g_1.Least]] := SH.ext hS19 hE28
  refine WL.runk 2 [0, 3, 12] [(0, .slice a0' list_0.length c0'), (3, .pointer (some ⟨b2, 0, none⟩)), (12, .bool (!x25))] (by kernel_rfl) ?_
  refine WL.nil ?_
  refine WQ.then_normal (hK24 _ _ _ ?_)
  refine WP.cond (!x25) rfl rfl (fun hc33 => ?_) (fun hc33 => ?_)
  · have hm := iteT hm hc33
    refine WP.seq (fun K34 hK34 => ?_)
    refine WP.region ?_
    refine WL.runk 2 [4, 5] [(4, .slice none 0 0), (5, .int .i64 2)] (by kernel_rfl) ?_
    refine WL.nil ?_
    refine WQ.then_normal (hK34 _ _ _ ?_)
    refine WP.ret ?_
    refine WQ.block_ret ?_
    refine WQ.then_ret ?_
    obtain rfl := Option.some.inj hm
    have hS36 : SH w27 w.heap.size [aOwn fGood 31 none 0 ([] : List SGood), aBox 31 b2 [.string (bs g_1.Name), .int .i64 g_1.OnHand, .int .i64 g_1.Reserved, .int .i64 g_1.Least]] := SH.nilOwn hS32
    exact WQ.ret2 _ _ rfl rfl rfl ⟨_, _, rfl, hb30, (SH.take 1 hS36)⟩
  have hm := iteF hm hc33
  refine WP.skip ?_
  refine WQ.block_normal ?_
  refine WQ.then_normal (hK10 _ _ _ ?_)
  refine WP.seq (fun K37 hK37 => ?_)
  refine WP.region ?_
  refine WL.runk 2 [0, 3, 17, 18] [(0, .slice a0' list_0.length c0'), (3, .pointer (some ⟨b2, 0, none⟩)), (17, .slice a0' list_0.length c0'), (18, .pointer (some ⟨b2, 0, none⟩))] (by kernel_rfl) ?_
  refine WL.st (.string (bs g_1.Name)) (ST.load (cell_ext (SH.boxAt (SH.front 0 hS32) 0 _ rfl)) rfl rfl Tryz.underlying9 rfl) rfl rfl rfl ?_
  obtain ⟨x38, hx39, hm⟩ := bindE hm
  refine WL.call 42 #[.slice a0' list_0.length c0', .string (bs g_1.Name)] rfl rfl (by kernel_rfl) (c_42 n list_0 a0' c0' g_1.Name w27 hx39 (Rd.below h0 hb30) hle0) ?_
  rintro _ w40 ⟨rfl, hE41⟩
  refine ⟨_, rfl, ?_⟩
  have hb43 : Ext w w40 := Ext.trans hb30 hE41
  have hL44 : w.heap.size ≤ w40.heap.size := Nat.le_trans hL31 hE41.size
  have hS45 : SH w40 w.heap.size [aBox 31 b2 [.string (bs g_1.Name), .int .i64 g_1.OnHand, .int .i64 g_1.Reserved, .int .i64 g_1.Least]] := SH.ext hS32 hE41
  refine WL.runk 5 [0, 3, 6, 7] [(0, .slice a0' list_0.length c0'), (3, .pointer (some ⟨b2, 0, none⟩)), (6, .int .i64 x38.1), (7, .bool x38.2)] (by kernel_rfl) ?_
  refine WL.nil ?_
  refine WQ.then_normal (hK37 _ _ _ ?_)
  refine WP.seq (fun K46 hK46 => ?_)
  refine WP.block ?_
  refine WP.seq (fun K47 hK47 => ?_)
  refine WP.region ?_
  refine WL.runk 2 [0, 3, 6, 23] [(0, .slice a0' list_0.length c0'), (3, .pointer (some ⟨b2, 0, none⟩)), (6, .int .i64 x38.1), (23, .bool x38.2)] (by kernel_rfl) ?_
  refine WL.nil ?_
  refine WQ.then_normal (hK47 _ _ _ ?_)
  refine WP.cond x38.2 rfl rfl (fun hc48 => ?_) (fun hc48 => ?_)
  · have hm := iteT hm hc48
    refine WP.seq (fun K49 hK49 => ?_)
    refine WP.region ?_
    refine WL.runk 2 [4, 5] [(4, .slice none 0 0), (5, .int .i64 4)] (by kernel_rfl) ?_
    refine WL.nil ?_
    refine WQ.then_normal (hK49 _ _ _ ?_)
    refine WP.ret ?_
    refine WQ.block_ret ?_
    refine WQ.then_ret ?_
    obtain rfl := Option.some.inj hm
    have hS51 : SH w40 w.heap.size [aOwn fGood 31 none 0 ([] : List SGood), aBox 31 b2 [.string (bs g_1.Name), .int .i64 g_1.OnHand, .int .i64 g_1.Reserved, .int .i64 g_1.Least]] := SH.nilOwn hS45
    exact WQ.ret2 _ _ rfl rfl rfl ⟨_, _, rfl, hb43, (SH.take 1 hS51)⟩
  have hm := iteF hm hc48
  refine WP.seq (fun K52 hK52 => ?_)
  refine WP.region ?_
  refine WL.runk 4 [0, 3, 6, 25] [(0, .slice a0' list_0.length c0'), (3, .pointer (some ⟨b2, 0, none⟩)), (6, .int .i64 x38.1), (25, .bool ((list_0.length : Int) == 40))] (by kernel_rfl) ?_
  refine WL.nil ?_
  refine WQ.then_normal (hK52 _ _ _ ?_)
  refine WP.cond ((list_0.length : Int) == 40) rfl rfl (fun hc53 => ?_) (fun hc53 => ?_)
  · have hm := iteT hm hc53
    refine WP.seq (fun K54 hK54 => ?_)
    refine WP.region ?_
    refine WL.runk 2 [4, 5] [(4, .slice none 0 0), (5, .int .i64 5)] (by kernel_rfl) ?_
    refine WL.nil ?_
    refine WQ.then_normal (hK54 _ _ _ ?_)
    refine WP.ret ?_
    refine WQ.block_ret ?_
    refine WQ.then_ret ?_
    obtain rfl := Option.some.inj hm
    have hS56 : SH w40 w.heap.size [aOwn fGood 31 none 0 ([] : List SGood), aBox 31 b2 [.string (bs g_1.Name), .int .i64 g_1.OnHand, .int .i64 g_1.Reserved, .int .i64 g_1.Least]] := SH.nilOwn hS45
    exact WQ.ret2 _ _ rfl rfl rfl ⟨_, _, rfl, hb43, (SH.take 1 hS56)⟩
  have hm := iteF hm hc53
  refine WP.skip ?_
  refine WQ.block_normal ?_
  refine WQ.then_normal (hK46 _ _ _ ?_)
  refine WP.seq (fun K57 hK57 => ?_)
  refine WP.open (n := 8) (by kernel_rfl) rfl (fun w58 hE59 => ?_)
  have hb60 : Ext w w58 := Ext.trans hb43 hE59
  have hL61 : w.heap.size ≤ w58.heap.size := Nat.le_trans hL44 hE59.size
  have hS62 : SH w58 w.heap.size [aBox 31 b2 [.string (bs g_1.Name), .int .i64 g_1.OnHand, .int .i64 g_1.Reserved, .int .i64 g_1.Least]] := SH.ext hS45 hE59
  obtain ⟨x77, hx78, hm⟩ := bindE hm
  refine WA.par (R := []) (f' := 3) (D' := [0, 1, 2, 3, 4]) [⟨0, [], fun _ => .slice a0' list_0.length c0'⟩, ⟨1, [1], fun g63 => .slice ((g63 1 0).1) x77.length ((g63 1 0).2)⟩, ⟨2, [], fun _ => .int .i64 x38.1⟩, ⟨3, [], fun _ => .agg #[.string (bs g_1.Name), .int .i64 g_1.OnHand, .int .i64 g_1.Reserved, .int .i64 g_1.Least]⟩, ⟨4, [4], fun g63 => .slice ((g63 4 0).1) (([g_1] : List SGood).length) ((g63 4 0).2)⟩] [⟨[aBox 31 b2 [.string (bs g_1.Name), .int .i64 g_1.OnHand, .int .i64 g_1.Reserved, .int .i64 g_1.Least]], []⟩, ⟨[], [⟨1, [1], fun g63 => [aOwn fGood 31 ((g63 1 0).1) ((g63 1 0).2) x77]⟩]⟩, ⟨[], [⟨4, [4], fun g63 => [aOwn fGood 31 ((g63 4 0).1) ((g63 4 0).2) ([g_1] : List SGood)]⟩]⟩] rfl rfl hS62 (by kernel_rfl) (by kernel_rfl) ⟨?_, ?_, ?_, ?_, ?_, trivial⟩ ?_
  · intro g63 w65 R64 hB66 hS67
    have hS68 : SH w65 w.heap.size (aBox 31 b2 [.string (bs g_1.Name), .int .i64 g_1.OnHand, .int .i64 g_1.Reserved, .int .i64 g_1.Least] :: R64) := memEq hS67 (by kernel_rfl)
    have hb69 : Ext w w65 := Below.trans hb60 hB66
    have hL70 : w.heap.size ≤ w65.heap.size := Nat.le_trans hL61 hB66.size
    refine WL.subk [0] [(0, .slice a0' list_0.length c0')] (by kernel_rfl) ?_
    refine WL.runk 1 [29] [(29, .slice a0' list_0.length c0')] (by kernel_rfl) ?_
    refine WL.nil ?_
    exact QP.intro (fun k => ([] : List (Option Addr × Nat)).getD k (none, 0)) (d := 29) (by kernel_rfl) (by kernel_rfl) (Below.refl _ _) hS68 (by kernel_rfl)
  · intro g63 w71 R64 hB72 hS73
    have hS74 : SH w71 w.heap.size (aBox 31 b2 [.string (bs g_1.Name), .int .i64 g_1.OnHand, .int .i64 g_1.Reserved, .int .i64 g_1.Least] :: R64) := memEq hS73 (by kernel_rfl)
    have hb75 : Ext w w71 := Below.trans hb60 hB72
    have hL76 : w.heap.size ≤ w71.heap.size := Nat.le_trans hL61 hB72.size
    refine WL.subk [29] [(29, .slice a0' list_0.length c0')] (by kernel_rfl) ?_
    refine WL.call 33 #[.slice a0' list_0.length c0'] rfl rfl (by kernel_rfl) (c_33 n list_0 a0' c0' w71 hx78 (Rd.below h0 hb75) hle0) ?_
    rintro _ w82 ⟨a79, c80, rfl, hE83, hR84⟩
    refine ⟨_, rfl, ?_⟩
    have hb85 : Ext w w82 := Ext.trans hb75 hE83
    have hL86 : w.heap.size ≤ w82.heap.size := Nat.le_trans hL76 hE83.size
    have hS87 : SH w82 w.heap.size (aOwn fGood 31 a79 c80 x77 :: aBox 31 b2 [.string (bs g_1.Name), .int .i64 g_1.OnHand, .int .i64 g_1.Reserved, .int .i64 g_1.Least] :: R64) := SH.add hS74 hE83 hL76 hR84
    refine WL.nil ?_
    exact QP.intro (fun k => ([(a79, c80)] : List (Option Addr × Nat)).getD k (none, 0)) (d := 30) (by kernel_rfl) (by kernel_rfl) (Below.mono hE83 hL76) (SH.front 1 hS87) (by kernel_rfl)
  · intro g63 w88 R64 hB89 hS90
    have hS91 : SH w88 w.heap.size (aBox 31 b2 [.string (bs g_1.Name), .int .i64 g_1.OnHand, .int .i64 g_1.Reserved, .int .i64 g_1.Least] :: R64) := memEq hS90 (by kernel_rfl)
    have hb92 : Ext w w88 := Below.trans hb60 hB89
    have hL93 : w.heap.size ≤ w88.heap.size := Nat.le_trans hL61 hB89.size
    refine WL.subk [6] [(6, .int .i64 x38.1)] (by kernel_rfl) ?_
    refine WL.runk 1 [31] [(31, .int .i64 x38.1)] (by kernel_rfl) ?_
    refine WL.nil ?_
    exact QP.intro (fun k => ([] : List (Option Addr × Nat)).getD k (none, 0)) (d := 31) (by kernel_rfl) (by kernel_rfl) (Below.refl _ _) hS91 (by kernel_rfl)
  · intro g63 w94 R64 hB95 hS96
    have hS97 : SH w94 w.heap.size (aBox 31 b2 [.string (bs g_1.Name), .int .i64 g_1.OnHand, .int .i64 g_1.Reserved, .int .i64 g_1.Least] :: R64) := memEq hS96 (by kernel_rfl)
    have hb98 : Ext w w94 := Below.trans hb60 hB95
    have hL99 : w.heap.size ≤ w94.heap.size := Nat.le_trans hL61 hB95.size
    refine WL.subk [3] [(3, .pointer (some ⟨b2, 0, none⟩))] (by kernel_rfl) ?_
    refine WL.st (.agg #[.string (bs g_1.Name), .int .i64 g_1.OnHand, .int .i64 g_1.Reserved, .int .i64 g_1.Least]) (ST.loadAgg (vs := [.string (bs g_1.Name), .int .i64 g_1.OnHand, .int .i64 g_1.Reserved, .int .i64 g_1.Least]) (fun j v hv => SH.boxPart (us := [.string (bs g_1.Name), .int .i64 g_1.OnHand, .int .i64 g_1.Reserved, .int .i64 g_1.Least]) (SH.front 0 hS97) 0 rfl j v hv) rfl rfl rfl Tryz.underlying31 rfl (info31).1 (info31).2.1) rfl rfl rfl ?_
    refine WL.nil ?_
    exact QP.intro (fun k => ([] : List (Option Addr × Nat)).getD k (none, 0)) (d := 32) (by kernel_rfl) (by kernel_rfl) (Below.refl _ _) hS97 (by kernel_rfl)
  · intro g63 w100 R64 hB101 hS102
    have hS103 : SH w100 w.heap.size (aBox 31 b2 [.string (bs g_1.Name), .int .i64 g_1.OnHand, .int .i64 g_1.Reserved, .int .i64 g_1.Least] :: R64) := memEq hS102 (by kernel_rfl)
    have hb104 : Ext w w100 := Below.trans hb60 hB101
    have hL105 : w.heap.size ≤ w100.heap.size := Nat.le_trans hL61 hB101.size
    refine WL.subk [32] [(32, .agg #[.string (bs g_1.Name), .int .i64 g_1.OnHand, .int .i64 g_1.Reserved, .int .i64 g_1.Least])] (by kernel_rfl) ?_
    refine WL.row fGood 31 ([g_1] : List SGood) 1 #[.string (bs g_1.Name), .int .i64 g_1.OnHand, .int .i64 g_1.Reserved, .int .i64 g_1.Least] 33 (by kernel_rfl) rfl rfl rfl rfl rfl rfl rfl ?_
    intro a106 c107 w108 hE109 hR110
    have hb112 : Ext w w108 := Ext.trans hb104 hE109
    have hL113 : w.heap.size ≤ w108.heap.size := Nat.le_trans hL105 hE109.size
    have hS114 : SH w108 w.heap.size (aOwn fGood 31 a106 c107 ([g_1] : List SGood) :: aBox 31 b2 [.string (bs g_1.Name), .int .i64 g_1.OnHand, .int .i64 g_1.Reserved, .int .i64 g_1.Least] :: R64) := SH.add hS103 hE109 hL105 hR110
    refine WL.nil ?_
    exact QP.intro (fun k => ([(a106, c107)] : List (Option Addr × Nat)).getD k (none, 0)) (d := 33) (by kernel_rfl) (by kernel_rfl) (Below.mono hE109 hL105) (SH.front 1 hS114) (by kernel_rfl)
  intro g63 w115 hB116 hS117
  have hS118 : SH w115 w.heap.size [aBox 31 b2 [.string (bs g_1.Name), .int .i64 g_1.OnHand, .int .i64 g_1.Reserved, .int .i64 g_1.Least], aOwn fGood 31 ((g63 1 0).1) ((g63 1 0).2) x77, aOwn fGood 31 ((g63 4 0).1) ((g63 4 0).2) ([g_1] : List SGood)] := memEq hS117 (by kernel_rfl)
  have hb119 : Ext w w115 := Below.trans hb60 hB116
  have hL120 : w.heap.size ≤ w115.heap.size := Nat.le_trans hL61 hB116.size
  refine WQ.subk [30, 31, 33] [(30, .slice ((g63 1 0).1) x77.length ((g63 1 0).2)), (31, .int .i64 x38.1), (33, .slice ((g63 4 0).1) (([g_1] : List SGood).length) ((g63 4 0).2))] (by kernel_rfl) ?_
  refine WA.one (i := 5) (D' := [0, 1, 2, 3, 4, 5]) rfl rfl (by kernel_rfl) ?_
  obtain ⟨x121, hx122, hm⟩ := bindE hm
  refine WL.call 43 #[.slice ((g63 1 0).1) x77.length ((g63 1 0).2), .int .i64 x38.1, .slice ((g63 4 0).1) (([g_1] : List SGood).length) ((g63 4 0).2)] rfl rfl (by kernel_rfl) (c_43 n x77 ((g63 1 0).1) ((g63 1 0).2) x38.1 ([g_1] : List SGood) ((g63 4 0).1) ((g63 4 0).2) w115 w w.heap.size [aBox 31 b2 [.string (bs g_1.Name), .int .i64 g_1.OnHand, .int .i64 g_1.Reserved, .int .i64 g_1.Least]] hx122 hb119 (Nat.le_refl _) hL120  (SH.front 2 (SH.front 2 hS118))) ?_
  rintro _ w126 ⟨a123, c124, rfl, hB130, hS129⟩
  refine ⟨_, rfl, ?_⟩
  have hb131 : Ext w w126 := Below.trans hb119 hB130
  have hL132 : w.heap.size ≤ w126.heap.size := Nat.le_trans hL120 hB130.size
  refine WL.sub [(34, .slice a123 x121.length c124)] ⟨rfl, trivial⟩ ?_
  refine WL.nil ?_
  refine WA.one (i := 6) (D' := [0, 1, 2, 3, 4, 5, 6]) rfl rfl (by kernel_rfl) ?_
  refine WL.runk 1 [4, 5] [(4, .slice a123 x121.length c124)] (by kernel_rfl) ?_
  refine WL.nil ?_
  refine WA.one (i := 7) (D' := [0, 1, 2, 3, 4, 5, 6, 7]) rfl rfl (by kernel_rfl) ?_
  refine WL.runk 1 [4, 5] [(4, .slice a123 x121.length c124), (5, .int .i64 0)] (by kernel_rfl) ?_
  refine WL.nil ?_
  refine WA.done (by kernel_rfl) ?_
  refine WQ.then_normal (hK57 _ _ _ ?_)
  refine WP.ret ?_
  obtain rfl := Option.some.inj hm
  exact WQ.ret2 _ _ rfl rfl rfl ⟨_, _, rfl, hb131, (SH.take 1 hS129)⟩

theorem c_10 (n : Nat) (list_0 : List SGood) (a0' : Option Addr) (c0' : Nat) (g_1 : SGood) (w : World) {r : List SGood × Int} (hm : m_spec_AddGood n list_0 g_1 = some r) (h0 : Rd fGood.ty w a0' list_0) (hle0 : list_0.length ≤ c0') :
    CallV Tryz.prog 10 #[.slice a0' list_0.length c0', .agg #[.string (bs g_1.Name), .int .i64 g_1.OnHand, .int .i64 g_1.Reserved, .int .i64 g_1.Least]] w (fun v w' => ∃ (ra0 : Option Addr) (rc0 : Nat), v = .tuple #[.slice ra0 r.1.length rc0, .int .i64 r.2] ∧ Ext w w' ∧ SH w' w.heap.size [aOwn fGood 31 ra0 rc0 r.1]) := by
  unfold m_spec_AddGood at hm
  refine CallV.enter Tryz.func10 rfl (by kernel_rfl) Tryz.ntmps10 (env := [(0, .slice a0' list_0.length c0'), (1, .agg #[.string (bs g_1.Name), .int .i64 g_1.OnHand, .int .i64 g_1.Reserved, .int .i64 g_1.Least])]) ⟨rfl, rfl, trivial⟩ ?_
  refine WP.seq (fun K1 hK1 => ?_)
  refine WP.region ?_
  refine WL.box 31 [.string (bs g_1.Name), .int .i64 g_1.OnHand, .int .i64 g_1.Reserved, .int .i64 g_1.Least] 3 (by kernel_rfl) rfl rfl rfl rfl ?_
  intro b2 w3 hE4 hR5
  have hb7 : Ext w w3 := Ext.trans (Ext.refl w) hE4
  have hL8 : w.heap.size ≤ w3.heap.size := Nat.le_trans (Nat.le_refl _) hE4.size
  have hS9 : SH w3 w.heap.size [aBox 31 b2 [.string (bs g_1.Name), .int .i64 g_1.OnHand, .int .i64 g_1.Reserved, .int .i64 g_1.Least]] := SH.add (SH.nil _ _) hE4 (Nat.le_refl _) hR5
  refine WL.runk 2 [0, 3] [(0, .slice a0' list_0.length c0'), (3, .pointer (some ⟨b2, 0, none⟩))] (by kernel_rfl) ?_
  refine WL.nil ?_
  refine WQ.then_normal (hK1 _ _ _ ?_)
  refine WP.seq (fun K10 hK10 => ?_)
  refine WP.seq (fun K11 hK11 => ?_)
  refine WP.region ?_
  refine WL.runk 1 [0, 3, 8] [(0, .slice a0' list_0.length c0'), (3, .pointer (some ⟨b2, 0, none⟩)), (8, .slice a0' list_0.length c0')] (by kernel_rfl) ?_
  obtain ⟨x12, hx13, hm⟩ := bindE hm
  refine WL.call 44 #[.slice a0' list_0.length c0'] rfl rfl (by kernel_rfl) (c_44 n list_0 a0' c0' w3 hx13 (Rd.below h0 hb7) hle0) ?_
  rintro _ w14 ⟨rfl, hE15⟩
  refine ⟨_, rfl, ?_⟩
  have hb17 : Ext w w14 := Ext.trans hb7 hE15
  have hL18 : w.heap.size ≤ w14.heap.size := Nat.le_trans hL8 hE15.size
  have hS19 : SH w14 w.heap.size [aBox 31 b2 [.string (bs g_1.Name), .int .i64 g_1.OnHand, .int .i64 g_1.Reserved, .int .i64 g_1.Least]] := SH.ext hS9 hE15
  refine WL.runk 1 [0, 3, 10] [(0, .slice a0' list_0.length c0'), (3, .pointer (some ⟨b2, 0, none⟩)), (10, .bool (!x12))] (by kernel_rfl) ?_
  refine WL.nil ?_
  refine WQ.then_normal (hK11 _ _ _ ?_)
  refine WP.cond (!x12) rfl rfl (fun hc20 => ?_) (fun hc20 => ?_)
  · have hm := iteT hm hc20
    refine WP.seq (fun K21 hK21 => ?_)
    refine WP.region ?_
    refine WL.runk 2 [4, 5] [(4, .slice none 0 0), (5, .int .i64 1)] (by kernel_rfl) ?_
    refine WL.nil ?_
    refine WQ.then_normal (hK21 _ _ _ ?_)
    refine WP.ret ?_
    refine WQ.then_ret ?_
    obtain rfl := Option.some.inj hm
    have hS23 : SH w14 w.heap.size [aOwn fGood 31 none 0 ([] : List SGood), aBox 31 b2 [.string (bs g_1.Name), .int .i64 g_1.OnHand, .int .i64 g_1.Reserved, .int .i64 g_1.Least]] := SH.nilOwn hS19
    exact WQ.ret2 _ _ rfl rfl rfl ⟨_, _, rfl, hb17, (SH.take 1 hS23)⟩
  have hm := iteF hm hc20
  refine WP.skip ?_
  refine WQ.then_normal (hK10 _ _ _ ?_)
  refine WP.seq (fun K24 hK24 => ?_)
  refine WP.seq (fun K25 hK25 => ?_)
  refine WP.region ?_
  obtain ⟨x26, hx27, hm⟩ := bindE hm
  refine WL.call 45 #[.pointer (some ⟨b2, 0, none⟩)] rfl rfl (by kernel_rfl) (c_45 n g_1 b2 0 w14 hx27 (SH.boxRd (SH.front 0 hS19))) ?_
  rintro _ w28 ⟨rfl, hE29⟩
  refine ⟨_, rfl, ?_⟩
  have hb31 : Ext w w28 := Ext.trans hb17 hE29
  have hL32 : w.heap.size ≤ w28.heap.size := Nat.le_trans hL18 hE29.size
  have hS33 : SH w28 w.heap.size [aBox 31 b2 [.string (bs g_1.Name), .int .i64 g_1.OnHand, .int .i64 g_1.Reserved, .int .i64 g_1.Least]] := SH.ext hS19 hE29
  refine WL.runk 1 [0, 3, 12] [(0, .slice a0' list_0.length c0'), (3, .pointer (some ⟨b2, 0, none⟩)), (12, .bool (!x26))] (by kernel_rfl) ?_
  refine WL.nil ?_
  refine WQ.then_normal (hK25 _ _ _ ?_)
  refine WP.cond (!x26) rfl rfl (fun hc34 => ?_) (fun hc34 => ?_)
  · have hm := iteT hm hc34
    refine WP.seq (fun K35 hK35 => ?_)
    refine WP.region ?_
    refine WL.runk 2 [4, 5] [(4, .slice none 0 0), (5, .int .i64 2)] (by kernel_rfl) ?_
    refine WL.nil ?_
    refine WQ.then_normal (hK35 _ _ _ ?_)
    refine WP.ret ?_
    refine WQ.then_ret ?_
    obtain rfl := Option.some.inj hm
    have hS37 : SH w28 w.heap.size [aOwn fGood 31 none 0 ([] : List SGood), aBox 31 b2 [.string (bs g_1.Name), .int .i64 g_1.OnHand, .int .i64 g_1.Reserved, .int .i64 g_1.Least]] := SH.nilOwn hS33
    exact WQ.ret2 _ _ rfl rfl rfl ⟨_, _, rfl, hb31, (SH.take 1 hS37)⟩
  have hm := iteF hm hc34
  refine WP.skip ?_
  refine WQ.then_normal (hK24 _ _ _ ?_)
  refine WP.seq (fun K38 hK38 => ?_)
  refine WP.seq (fun K39 hK39 => ?_)
  refine WP.region ?_
  refine WL.runk 2 [0, 3, 13, 14] [(0, .slice a0' list_0.length c0'), (3, .pointer (some ⟨b2, 0, none⟩)), (13, .slice a0' list_0.length c0'), (14, .pointer (some ⟨b2, 0, none⟩))] (by kernel_rfl) ?_
  refine WL.st (.string (bs g_1.Name)) (ST.load (cell_ext (SH.boxAt (SH.front 0 hS33) 0 _ rfl)) rfl rfl Tryz.underlying9 rfl) rfl rfl rfl ?_
  obtain ⟨x40, hx41, hm⟩ := bindE hm
  refine WL.call 46 #[.slice a0' list_0.length c0', .string (bs g_1.Name)] rfl rfl (by kernel_rfl) (c_46 n list_0 a0' c0' g_1.Name w28 hx41 (Rd.below h0 hb31) hle0) ?_
  rintro _ w42 ⟨rfl, hE43⟩
  refine ⟨_, rfl, ?_⟩
  have hb45 : Ext w w42 := Ext.trans hb31 hE43
  have hL46 : w.heap.size ≤ w42.heap.size := Nat.le_trans hL32 hE43.size
  have hS47 : SH w42 w.heap.size [aBox 31 b2 [.string (bs g_1.Name), .int .i64 g_1.OnHand, .int .i64 g_1.Reserved, .int .i64 g_1.Least]] := SH.ext hS33 hE43
  refine WL.runk 1 [0, 3, 17] [(0, .slice a0' list_0.length c0'), (3, .pointer (some ⟨b2, 0, none⟩)), (17, .bool (decide (x40 ≥ 0)))] (by kernel_rfl) ?_
  refine WL.nil ?_
  refine WQ.then_normal (hK39 _ _ _ ?_)
  refine WP.cond (decide (x40 ≥ 0)) rfl rfl (fun hc48 => ?_) (fun hc48 => ?_)
  · have hm := iteT hm hc48
    refine WP.seq (fun K49 hK49 => ?_)
    refine WP.region ?_
    refine WL.runk 2 [4, 5] [(4, .slice none 0 0), (5, .int .i64 4)] (by kernel_rfl) ?_
    refine WL.nil ?_
    refine WQ.then_normal (hK49 _ _ _ ?_)
    refine WP.ret ?_
    refine WQ.then_ret ?_
    obtain rfl := Option.some.inj hm
    have hS51 : SH w42 w.heap.size [aOwn fGood 31 none 0 ([] : List SGood), aBox 31 b2 [.string (bs g_1.Name), .int .i64 g_1.OnHand, .int .i64 g_1.Reserved, .int .i64 g_1.Least]] := SH.nilOwn hS47
    exact WQ.ret2 _ _ rfl rfl rfl ⟨_, _, rfl, hb45, (SH.take 1 hS51)⟩
  have hm := iteF hm hc48
  refine WP.skip ?_
  refine WQ.then_normal (hK38 _ _ _ ?_)
  refine WP.seq (fun K52 hK52 => ?_)
  refine WP.seq (fun K53 hK53 => ?_)
  refine WP.region ?_
  refine WL.runk 3 [0, 3, 20] [(0, .slice a0' list_0.length c0'), (3, .pointer (some ⟨b2, 0, none⟩)), (20, .bool (decide ((list_0.length : Int) ≥ 40)))] (by kernel_rfl) ?_
  refine WL.nil ?_
  refine WQ.then_normal (hK53 _ _ _ ?_)
  refine WP.cond (decide ((list_0.length : Int) ≥ 40)) rfl rfl (fun hc54 => ?_) (fun hc54 => ?_)
  · have hm := iteT hm hc54
    refine WP.seq (fun K55 hK55 => ?_)
    refine WP.region ?_
    refine WL.runk 2 [4, 5] [(4, .slice none 0 0), (5, .int .i64 5)] (by kernel_rfl) ?_
    refine WL.nil ?_
    refine WQ.then_normal (hK55 _ _ _ ?_)
    refine WP.ret ?_
    refine WQ.then_ret ?_
    obtain rfl := Option.some.inj hm
    have hS57 : SH w42 w.heap.size [aOwn fGood 31 none 0 ([] : List SGood), aBox 31 b2 [.string (bs g_1.Name), .int .i64 g_1.OnHand, .int .i64 g_1.Reserved, .int .i64 g_1.Least]] := SH.nilOwn hS47
    exact WQ.ret2 _ _ rfl rfl rfl ⟨_, _, rfl, hb45, (SH.take 1 hS57)⟩
  have hm := iteF hm hc54
  refine WP.skip ?_
  refine WQ.then_normal (hK52 _ _ _ ?_)
  refine WP.seq (fun K58 hK58 => ?_)
  refine WP.region ?_
  refine WL.runk 3 [0, 3, 6] [(0, .slice a0' list_0.length c0'), (3, .pointer (some ⟨b2, 0, none⟩)), (6, .int .i64 (list_0.length : Int))] (by kernel_rfl) ?_
  refine WL.nil ?_
  refine WQ.then_normal (hK58 _ _ _ ?_)
  refine WP.seq (fun K59 hK59 => ?_)
  refine WP.block ?_
  obtain ⟨t71, ht72, hm⟩ := bindE hm
  have hmo66 := hm; clear hm
  refine WP.sub [(0, .slice a0' list_0.length c0'), (3, .pointer (some ⟨b2, 0, none⟩)), (6, .int .i64 (list_0.length : Int))] ⟨rfl, rfl, rfl, trivial⟩ ?_
  refine WP.loop (fun n' env' w' => ∃ (st60 : Int) , env' = [(0, .slice a0' list_0.length c0'), (3, .pointer (some ⟨b2, 0, none⟩)), (6, .int .i64 st60)] ∧ Ext w w' ∧ w.heap.size ≤ w'.heap.size ∧ SH w' w.heap.size [aBox 31 b2 [.string (bs g_1.Name), .int .i64 g_1.OnHand, .int .i64 g_1.Reserved, .int .i64 g_1.Least]] ∧ loopN (m_spec_AddGood_l1 n list_0 g_1) n' st60 = some t71) n ⟨(list_0.length : Int), rfl, hb45, hL46, hS47, ht72⟩ ?_
  rintro n68 _ w61 ⟨st60, rfl, hb62, hL63, hS64, hl65⟩ K67 hK67
  obtain ⟨n69, s70, rfl, hm, hl65⟩ := loopN_some hl65
  unfold m_spec_AddGood_l1 at hm
  refine WP.seq (fun K73 hK73 => ?_)
  refine WP.seq (fun K74 hK74 => ?_)
  obtain ⟨x88, hx89, hm⟩ := bindE hm
  refine WP.cut (fun env' w' => env' = [(0, .slice a0' list_0.length c0'), (3, .pointer (some ⟨b2, 0, none⟩)), (6, .int .i64 st60), (35, .bool x88)] ∧ Ext w w' ∧ w.heap.size ≤ w'.heap.size ∧ SH w' w.heap.size [aBox 31 b2 [.string (bs g_1.Name), .int .i64 g_1.OnHand, .int .i64 g_1.Reserved, .int .i64 g_1.Least]]) ?_ ?_
  · have hm := hx89; clear hx89
    refine WP.quiet (by kernel_rfl) (by kernel_rfl) ?_
    refine QL.step1v 23 (.int .i64 st60) rfl (fun _ => by kernel_rfl) ?_
    refine QL.step1v 24 (.bool (decide (st60 > 0))) rfl (fun _ => by kernel_rfl) ?_
    refine QL.step1v 25 (.bool (decide (st60 > 0))) rfl (fun _ => by kernel_rfl) ?_
    refine QL.subk [0, 3, 6, 25] [(0, .slice a0' list_0.length c0'), (3, .pointer (some ⟨b2, 0, none⟩)), (6, .int .i64 st60), (25, .bool (decide (st60 > 0)))] (by kernel_rfl) ?_
    refine QL.case (decide (st60 > 0)) [25] ⟨rfl, trivial⟩ (fun hc90 => ?_) (fun hc90 => ?_)
    rotate_left
    · have hm := iteF hm hc90
      refine QL.step1v 26 undef rfl (fun _ => by kernel_rfl) ?_
      refine QL.step1v 27 undef rfl (fun _ => by kernel_rfl) ?_
      refine QL.step1v 28 undef rfl (fun _ => by kernel_rfl) ?_
      refine QL.step1v 29 undef rfl (fun _ => by kernel_rfl) ?_
      refine QL.step1v 30 undef rfl (fun _ => by kernel_rfl) ?_
      refine QL.step1v 31 undef rfl (fun _ => by kernel_rfl) ?_
      refine QL.step1v 32 undef rfl (fun _ => by kernel_rfl) ?_
      refine QL.step1v 33 undef rfl (fun _ => by kernel_rfl) ?_
      refine QL.step1v 34 undef rfl (fun _ => by kernel_rfl) ?_
      refine QL.step1v 35 (.bool false) rfl (fun _ => by kernel_rfl) ?_
      refine QL.subk [0, 3, 6, 35] [(0, .slice a0' list_0.length c0'), (3, .pointer (some ⟨b2, 0, none⟩)), (6, .int .i64 st60), (35, .bool false)] (by kernel_rfl) ?_
      refine QL.nil ?_
      intro w98 hE99
      have hb100 : Ext w w98 := Ext.trans hb62 hE99
      have hL101 : w.heap.size ≤ w98.heap.size := Nat.le_trans hL63 hE99.size
      have hS102 : SH w98 w.heap.size [aBox 31 b2 [.string (bs g_1.Name), .int .i64 g_1.OnHand, .int .i64 g_1.Reserved, .int .i64 g_1.Least]] := SH.ext hS64 hE99
      obtain rfl := Option.some.inj hm
      exact WQ.post' ⟨rfl, hb100, hL101, hS102⟩ ⟨rfl, rfl, rfl, rfl, trivial⟩
    have hm := iteT hm hc90
    refine QL.step1v 26 (.slice a0' list_0.length c0') rfl (fun _ => by kernel_rfl) ?_
    refine QL.step1v 27 (.int .i64 st60) rfl (fun _ => by kernel_rfl) ?_
    refine QL.step1v 28 (.int .i64 (wI64 (st60 - 1))) rfl (fun _ => by kernel_rfl) ?_
    refine QL.subk [0, 3, 6, 25, 26, 28] [(0, .slice a0' list_0.length c0'), (3, .pointer (some ⟨b2, 0, none⟩)), (6, .int .i64 st60), (25, .bool true), (26, .slice a0' list_0.length c0'), (28, .int .i64 (wI64 (st60 - 1)))] (by kernel_rfl) ?_
    obtain ⟨x91, hx92, hm⟩ := bindE hm
    refine QL.st (.pointer (some (at_ a0' (Int.toNat (wI64 (st60 - 1)) * 4)))) (ST.index (T := fGood.ty) (xs := list_0) (Rd.below h0 hb62) hx92 rfl rfl rfl Tryz.underlying24 (info31).1 (info31).2.1) rfl rfl rfl ?_
    refine QL.step1v 30 (.pointer (some (at_ a0' (Int.toNat (wI64 (st60 - 1)) * 4)))) rfl (fun _ => by kernel_rfl) ?_
    refine QL.subk [0, 3, 6, 25, 30] [(0, .slice a0' list_0.length c0'), (3, .pointer (some ⟨b2, 0, none⟩)), (6, .int .i64 st60), (25, .bool true), (30, .pointer (some (at_ a0' (Int.toNat (wI64 (st60 - 1)) * 4))))] (by kernel_rfl) ?_
    refine QL.st (.string (bs x91.Name)) (ST.load (cell_ext (Rd.flat (F := fGood) (Rd.below h0 hb62) hx92 0 rfl)) rfl rfl Tryz.underlying9 rfl) rfl rfl rfl ?_
    refine QL.step1v 32 (.pointer (some ⟨b2, 0, none⟩)) rfl (fun _ => by kernel_rfl) ?_
    refine QL.subk [0, 3, 6, 25, 31, 32] [(0, .slice a0' list_0.length c0'), (3, .pointer (some ⟨b2, 0, none⟩)), (6, .int .i64 st60), (25, .bool true), (31, .string (bs x91.Name)), (32, .pointer (some ⟨b2, 0, none⟩))] (by kernel_rfl) ?_
    refine QL.st (.string (bs g_1.Name)) (ST.load (cell_ext (SH.boxAt (SH.front 0 hS64) 0 _ rfl)) rfl rfl Tryz.underlying9 rfl) rfl rfl rfl ?_
    refine QL.st (.bool (!(strLt x91.Name g_1.Name || x91.Name == g_1.Name))) (ST.strgt (x := x91.Name) (y := g_1.Name) rfl rfl rfl) rfl rfl rfl ?_
    refine QL.step1v 35 (.bool (!(strLt x91.Name g_1.Name || x91.Name == g_1.Name))) rfl (fun _ => by kernel_rfl) ?_
    refine QL.subk [0, 3, 6, 35] [(0, .slice a0' list_0.length c0'), (3, .pointer (some ⟨b2, 0, none⟩)), (6, .int .i64 st60), (35, .bool (!(strLt x91.Name g_1.Name || x91.Name == g_1.Name)))] (by kernel_rfl) ?_
    refine QL.nil ?_
    intro w93 hE94
    have hb95 : Ext w w93 := Ext.trans hb62 hE94
    have hL96 : w.heap.size ≤ w93.heap.size := Nat.le_trans hL63 hE94.size
    have hS97 : SH w93 w.heap.size [aBox 31 b2 [.string (bs g_1.Name), .int .i64 g_1.OnHand, .int .i64 g_1.Reserved, .int .i64 g_1.Least]] := SH.ext hS64 hE94
    obtain rfl := Option.some.inj hm
    exact WQ.post' ⟨rfl, hb95, hL96, hS97⟩ ⟨rfl, rfl, rfl, rfl, trivial⟩
  clear hx89
  rintro _ w103 ⟨rfl, hb104, hL105, hS106⟩
  refine WQ.then_normal (hK74 _ _ _ ?_)
  refine WP.cond x88 rfl rfl (fun hc107 => ?_) (fun hc107 => ?_)
  · have hm := iteT hm hc107
    refine WP.skip ?_
    refine WQ.then_normal (hK73 _ _ _ ?_)
    refine WP.block ?_
    refine WP.region ?_
    refine WL.runk 3 [0, 3, 6] [(0, .slice a0' list_0.length c0'), (3, .pointer (some ⟨b2, 0, none⟩)), (6, .int .i64 (wI64 (st60 - 1)))] (by kernel_rfl) ?_
    refine WL.nil ?_
    refine WQ.block_normal ?_
    obtain rfl := Option.some.inj hm
    exact WQ.round hK67 ⟨(wI64 (st60 - 1)), rfl, hb104, hL105, hS106, hl65⟩ (Nat.lt_succ_self _) ⟨rfl, rfl, rfl, trivial⟩
  have hm := iteF hm hc107
  refine WP.exit ?_
  refine WQ.then_exit ?_
  refine WQ.then_exit ?_
  refine WQ.block_here ?_
  obtain rfl := Option.some.inj hm
  obtain rfl := afterN_done hl65
  have hm := hmo66
  refine WQ.then_normal (hK59 _ _ _ ?_)
  refine WP.seq (fun K108 hK108 => ?_)
  refine WP.region ?_
  refine WL.row fGood 31 ([] : List SGood) 0 #[] 38 (by kernel_rfl) rfl rfl rfl rfl rfl rfl rfl ?_
  intro a109 c110 w111 hE112 hR113
  have hb115 : Ext w w111 := Ext.trans hb104 hE112
  have hL116 : w.heap.size ≤ w111.heap.size := Nat.le_trans hL105 hE112.size
  have hS117 : SH w111 w.heap.size [aOwn fGood 31 a109 c110 ([] : List SGood), aBox 31 b2 [.string (bs g_1.Name), .int .i64 g_1.OnHand, .int .i64 g_1.Reserved, .int .i64 g_1.Least]] := SH.add hS106 hE112 hL105 hR113
  refine WL.runk 2 [0, 3, 6, 38, 39, 40] [(0, .slice a0' list_0.length c0'), (3, .pointer (some ⟨b2, 0, none⟩)), (6, .int .i64 st60), (38, .slice a109 (([] : List SGood).length) c110), (39, .slice a0' list_0.length c0'), (40, .int .i64 st60)] (by kernel_rfl) ?_
  obtain ⟨x118, hx119, hm⟩ := bindE hm
  refine WL.rsub (T := fGood.ty) 41 h0 hb115 hle0 hx119 rfl rfl Tryz.underlying24 (info31).1 (info31).2.1 rfl ⟨_, rfl⟩ rfl rfl rfl rfl ?_
  intro a120 c121 hR123 hle124
  obtain ⟨x126, hx127, hm⟩ := bindE hm
  refine WL.append (F := fGood) (xs := ([] : List SGood)) (ys := x118) 42 (SH.front 0 hS117) hL116 (Rd.below hR123 hb115) hx127 rfl rfl rfl Tryz.underlying24 (info31).1 (info31).2.2.1 (info31).2.1 (info31).2.2.2 rfl rfl rfl rfl rfl ?_
  intro a128 c129 w130 hB131 hS132
  have hb133 : Ext w w130 := Below.trans hb115 hB131
  have hL134 : w.heap.size ≤ w130.heap.size := Nat.le_trans hL116 hB131.size
  refine WL.runk 1 [0, 3, 6, 7] [(0, .slice a0' list_0.length c0'), (3, .pointer (some ⟨b2, 0, none⟩)), (6, .int .i64 st60), (7, .slice a128 x126.length c129)] (by kernel_rfl) ?_
  refine WL.nil ?_
  refine WQ.then_normal (hK108 _ _ _ ?_)
  refine WP.seq (fun K135 hK135 => ?_)
  refine WP.region ?_
  refine WL.runk 1 [0, 3, 6, 43] [(0, .slice a0' list_0.length c0'), (3, .pointer (some ⟨b2, 0, none⟩)), (6, .int .i64 st60), (43, .slice a128 x126.length c129)] (by kernel_rfl) ?_
  refine WL.st (.agg #[.string (bs g_1.Name), .int .i64 g_1.OnHand, .int .i64 g_1.Reserved, .int .i64 g_1.Least]) (ST.loadAgg (vs := [.string (bs g_1.Name), .int .i64 g_1.OnHand, .int .i64 g_1.Reserved, .int .i64 g_1.Least]) (fun j v hv => SH.boxPart (us := [.string (bs g_1.Name), .int .i64 g_1.OnHand, .int .i64 g_1.Reserved, .int .i64 g_1.Least]) (SH.front 1 hS132) 0 rfl j v hv) rfl rfl rfl Tryz.underlying31 rfl (info31).1 (info31).2.1) rfl rfl rfl ?_
  refine WL.row fGood 31 ([g_1] : List SGood) 1 #[.string (bs g_1.Name), .int .i64 g_1.OnHand, .int .i64 g_1.Reserved, .int .i64 g_1.Least] 45 (by kernel_rfl) rfl rfl rfl rfl rfl rfl rfl ?_
  intro a136 c137 w138 hE139 hR140
  have hb142 : Ext w w138 := Ext.trans hb133 hE139
  have hL143 : w.heap.size ≤ w138.heap.size := Nat.le_trans hL134 hE139.size
  have hS144 : SH w138 w.heap.size [aOwn fGood 31 a136 c137 ([g_1] : List SGood), aOwn fGood 31 a128 c129 x126, aBox 31 b2 [.string (bs g_1.Name), .int .i64 g_1.OnHand, .int .i64 g_1.Reserved, .int .i64 g_1.Least]] := SH.add hS132 hE139 hL134 hR140
  obtain ⟨x145, hx146, hm⟩ := bindE hm
  refine WL.append (F := fGood) (xs := x126) (ys := ([g_1] : List SGood)) 46 (SH.front 1 hS144) hL143 (SH.rd (SH.front 0 hS144)) hx146 rfl rfl rfl Tryz.underlying24 (info31).1 (info31).2.2.1 (info31).2.1 (info31).2.2.2 rfl rfl rfl rfl rfl ?_
  intro a147 c148 w149 hB150 hS151
  have hb152 : Ext w w149 := Below.trans hb142 hB150
  have hL153 : w.heap.size ≤ w149.heap.size := Nat.le_trans hL143 hB150.size
  refine WL.runk 1 [0, 6, 7] [(0, .slice a0' list_0.length c0'), (6, .int .i64 st60), (7, .slice a147 x145.length c148)] (by kernel_rfl) ?_
  refine WL.nil ?_
  refine WQ.then_normal (hK135 _ _ _ ?_)
  refine WP.seq (fun K154 hK154 => ?_)
  refine WP.region ?_
  refine WL.runk 3 [47, 48, 49] [(47, .slice a147 x145.length c148), (48, .slice a0' list_0.length c0'), (49, .int .i64 st60)] (by kernel_rfl) ?_
  obtain ⟨x155, hx156, hm⟩ := bindE hm
  refine WL.rsub (T := fGood.ty) 50 h0 hb152 hle0 hx156 rfl rfl Tryz.underlying24 (info31).1 (info31).2.1 ⟨_, rfl⟩ rfl rfl rfl rfl rfl ?_
  intro a157 c158 hR160 hle161
  obtain ⟨x163, hx164, hm⟩ := bindE hm
  refine WL.append (F := fGood) (xs := x145) (ys := x155) 51 (SH.front 0 hS151) hL153 (Rd.below hR160 hb152) hx164 rfl rfl rfl Tryz.underlying24 (info31).1 (info31).2.2.1 (info31).2.1 (info31).2.2.2 rfl rfl rfl rfl rfl ?_
  intro a165 c166 w167 hB168 hS169
  have hb170 : Ext w w167 := Below.trans hb152 hB168
  have hL171 : w.heap.size ≤ w167.heap.size := Nat.le_trans hL153 hB168.size
  refine WL.runk 2 [4, 5] [(4, .slice a165 x163.length c166), (5, .int .i64 0)] (by kernel_rfl) ?_
  refine WL.nil ?_
  refine WQ.then_normal (hK154 _ _ _ ?_)
  refine WP.ret ?_
  obtain rfl := Option.some.inj hm
  exact WQ.ret2 _ _ rfl rfl rfl ⟨_, _, rfl, hb170, (SH.take 1 hS169)⟩

theorem c_11 (n : Nat) (code_0 : List Int) (a0' : Option Addr) (c0' : Nat) (w : World) {r : List SGood × STake} (hm : m_spec_DrawChangeGood n code_0 = some r) (h0 : Rd fU8.ty w a0' code_0) (hle0 : code_0.length ≤ c0') :
    CallV Tryz.prog 11 #[.slice a0' code_0.length c0'] w (fun v w' => ∃ (ra0 : Option Addr) (rc0 : Nat), v = .tuple #[.slice ra0 r.1.length rc0, .agg #[.string (bs r.2.Name), .int .i64 r.2.Many]] ∧ Ext w w' ∧ SH w' w.heap.size [aOwn fGood 31 ra0 rc0 r.1]) := by
  unfold m_spec_DrawChangeGood at hm
  refine CallV.enter Tryz.func11 rfl (by kernel_rfl) Tryz.ntmps11 (env := [(0, .slice a0' code_0.length c0')]) ⟨rfl, trivial⟩ ?_
  refine WP.seq (fun K1 hK1 => ?_)
  refine WP.region ?_
  refine WL.runk 1 [0] [(0, .slice a0' code_0.length c0')] (by kernel_rfl) ?_
  refine WL.box 37 [.string (bs []), .int .i64 0] 3 (by kernel_rfl) rfl rfl rfl rfl ?_
  intro b2 w3 hE4 hR5
  have hb7 : Ext w w3 := Ext.trans (Ext.refl w) hE4
  have hL8 : w.heap.size ≤ w3.heap.size := Nat.le_trans (Nat.le_refl _) hE4.size
  have hS9 : SH w3 w.heap.size [aBox 37 b2 [.string (bs []), .int .i64 0]] := SH.add (SH.nil _ _) hE4 (Nat.le_refl _) hR5
  refine WL.sub [(0, .slice a0' code_0.length c0'), (3, .pointer (some ⟨b2, 0, none⟩))] ⟨rfl, rfl, trivial⟩ ?_
  refine WL.nil ?_
  refine WQ.then_normal (hK1 _ _ _ ?_)
  refine WP.seq (fun K10 hK10 => ?_)
  refine WP.region ?_
  refine WL.runk 1 [3, 6] [(3, .pointer (some ⟨b2, 0, none⟩)), (6, .slice a0' code_0.length c0')] (by kernel_rfl) ?_
  obtain ⟨x11, hx12, hm⟩ := bindE hm
  refine WL.call 25 #[.slice a0' code_0.length c0'] rfl rfl (by kernel_rfl) (c_25 n code_0 a0' c0' w3 hx12 (Rd.below h0 hb7) hle0) ?_
  rintro _ w15 ⟨b13, rfl, hE16, hR17⟩
  refine ⟨_, rfl, ?_⟩
  have hb18 : Ext w w15 := Ext.trans hb7 hE16
  have hL19 : w.heap.size ≤ w15.heap.size := Nat.le_trans hL8 hE16.size
  have hS20 : SH w15 w.heap.size [aBox 87 b13 [.slice a0' code_0.length c0', .int .i64 x11.1, .int .u64 x11.2], aBox 37 b2 [.string (bs []), .int .i64 0]] := SH.add hS9 hE16 hL8 hR17
  refine WL.runk 1 [3, 4] [(3, .pointer (some ⟨b2, 0, none⟩)), (4, .pointer (some ⟨b13, 0, none⟩))] (by kernel_rfl) ?_
  refine WL.nil ?_
  refine WQ.then_normal (hK10 _ _ _ ?_)
  refine WP.seq (fun K21 hK21 => ?_)
  refine WP.region ?_
  refine WL.runk 1 [3, 4, 8] [(3, .pointer (some ⟨b2, 0, none⟩)), (4, .pointer (some ⟨b13, 0, none⟩)), (8, .pointer (some ⟨b13, 0, none⟩))] (by kernel_rfl) ?_
  obtain ⟨x22, hx23, hm⟩ := bindE hm
  refine WL.call 26 #[.pointer (some ⟨b13, 0, none⟩)] rfl rfl (by kernel_rfl) (c_26 n code_0 a0' c0' x11.1 x11.2 b13 w15 w w.heap.size [aBox 37 b2 [.string (bs []), .int .i64 0]] hx23 hb18 (Nat.le_refl _) hL19 h0 hle0 hS20) ?_
  rintro _ w27 ⟨a24, c25, rfl, hB31, hS30⟩
  refine ⟨_, rfl, ?_⟩
  have hb32 : Ext w w27 := Below.trans hb18 hB31
  have hL33 : w.heap.size ≤ w27.heap.size := Nat.le_trans hL19 hB31.size
  refine WL.runk 1 [3, 4, 5] [(3, .pointer (some ⟨b2, 0, none⟩)), (4, .pointer (some ⟨b13, 0, none⟩)), (5, .slice a24 x22.1.length c25)] (by kernel_rfl) ?_
  refine WL.nil ?_
  refine WQ.then_normal (hK21 _ _ _ ?_)
  refine WP.seq (fun K34 hK34 => ?_)
  refine WP.region ?_
  refine WL.runk 3 [3, 10, 11, 12] [(3, .pointer (some ⟨b2, 0, none⟩)), (10, .slice a24 x22.1.length c25), (11, .pointer (some ⟨b13, 0, none⟩)), (12, .slice a24 x22.1.length c25)] (by kernel_rfl) ?_
  obtain ⟨x35, hx36, hm⟩ := bindE hm
  refine WL.call 28 #[.pointer (some ⟨b13, 0, none⟩), .slice a24 x22.1.length c25] rfl rfl (by kernel_rfl) (c_28_o1 n code_0 a0' c0' x22.2.1 x22.2.2 b13 x22.1 a24 c25 w27 w w.heap.size [aBox 37 b2 [.string (bs []), .int .i64 0]] hx36 hb32 (Nat.le_refl _) hL33 h0 hle0 (SH.front 2 (SH.front 1 (SH.front 2 hS30)))) ?_
  rintro _ w37 ⟨rfl, hB41, hS40⟩
  refine ⟨_, rfl, ?_⟩
  have hb42 : Ext w w37 := Below.trans hb32 hB41
  have hL43 : w.heap.size ≤ w37.heap.size := Nat.le_trans hL33 hB41.size
  refine WL.runk 1 [2, 3, 13] [(3, .pointer (some ⟨b2, 0, none⟩)), (13, .agg #[.string (bs x35.1.Name), .int .i64 x35.1.Many]), (2, .slice a24 x22.1.length c25)] (by kernel_rfl) ?_
  refine WL.boxStore 0 [.string (bs x35.1.Name), .int .i64 x35.1.Many] [.string (bs x35.1.Name), .int .i64 x35.1.Many] (SH.front 2 hS40) hL43 rfl rfl rfl rfl rfl rfl rfl (info37).1 (info37).2.1 rfl rfl rfl ?_
  intro w44 hB45 hS46
  have hb47 : Ext w w44 := Below.trans hb42 hB45
  have hL48 : w.heap.size ≤ w44.heap.size := Nat.le_trans hL43 hB45.size
  refine WL.sub [(3, .pointer (some ⟨b2, 0, none⟩)), (2, .slice a24 x22.1.length c25)] ⟨rfl, rfl, trivial⟩ ?_
  refine WL.nil ?_
  refine WQ.then_normal (hK34 _ _ _ ?_)
  refine WP.ret ?_
  obtain rfl := Option.some.inj hm
  exact WQ.retv2 _ _ rfl (RVal.tmp rfl) (RVal.box (SH.front 0 hS46) rfl Tryz.underlying37 rfl (info37).1 (info37).2.1) ⟨_, _, rfl, hb47, (SH.take 1 (SH.front 2 hS46))⟩

theorem c_12 (n : Nat) (list_0 : List SGood) (a0' : Option Addr) (c0' : Nat) (t_1 : STake) (w : World) {r : List SGood × Int} (hm : m_impl_ChangeGood n list_0 t_1 = some r) (h0 : Rd fGood.ty w a0' list_0) (hle0 : list_0.length ≤ c0') :
    CallV Tryz.prog 12 #[.slice a0' list_0.length c0', .agg #[.string (bs t_1.Name), .int .i64 t_1.Many]] w (fun v w' => ∃ (ra0 : Option Addr) (rc0 : Nat), v = .tuple #[.slice ra0 r.1.length rc0, .int .i64 r.2] ∧ Ext w w' ∧ SH w' w.heap.size [aOwn fGood 31 ra0 rc0 r.1]) := by
  unfold m_impl_ChangeGood at hm
  refine CallV.enter Tryz.func12 rfl (by kernel_rfl) Tryz.ntmps12 (env := [(0, .slice a0' list_0.length c0'), (1, .agg #[.string (bs t_1.Name), .int .i64 t_1.Many])]) ⟨rfl, rfl, trivial⟩ ?_
  refine WP.seq (fun K1 hK1 => ?_)
  refine WP.region ?_
  refine WL.box 37 [.string (bs t_1.Name), .int .i64 t_1.Many] 3 (by kernel_rfl) rfl rfl rfl rfl ?_
  intro b2 w3 hE4 hR5
  have hb7 : Ext w w3 := Ext.trans (Ext.refl w) hE4
  have hL8 : w.heap.size ≤ w3.heap.size := Nat.le_trans (Nat.le_refl _) hE4.size
  have hS9 : SH w3 w.heap.size [aBox 37 b2 [.string (bs t_1.Name), .int .i64 t_1.Many]] := SH.add (SH.nil _ _) hE4 (Nat.le_refl _) hR5
  refine WL.runk 2 [0, 3] [(0, .slice a0' list_0.length c0'), (3, .pointer (some ⟨b2, 0, none⟩))] (by kernel_rfl) ?_
  refine WL.nil ?_
  refine WQ.then_normal (hK1 _ _ _ ?_)
  refine WP.seq (fun K10 hK10 => ?_)
  refine WP.block ?_
  refine WP.seq (fun K11 hK11 => ?_)
  refine WP.region ?_
  refine WL.runk 1 [0, 3, 7] [(0, .slice a0' list_0.length c0'), (3, .pointer (some ⟨b2, 0, none⟩)), (7, .slice a0' list_0.length c0')] (by kernel_rfl) ?_
  obtain ⟨x12, hx13, hm⟩ := bindE hm
  refine WL.call 23 #[.slice a0' list_0.length c0'] rfl rfl (by kernel_rfl) (c_23 n list_0 a0' c0' w3 hx13 (Rd.below h0 hb7) hle0) ?_
  rintro _ w14 ⟨rfl, hE15⟩
  refine ⟨_, rfl, ?_⟩
  have hb17 : Ext w w14 := Ext.trans hb7 hE15
  have hL18 : w.heap.size ≤ w14.heap.size := Nat.le_trans hL8 hE15.size
  have hS19 : SH w14 w.heap.size [aBox 37 b2 [.string (bs t_1.Name), .int .i64 t_1.Many]] := SH.ext hS9 hE15
  refine WL.runk 2 [0, 3, 6] [(0, .slice a0' list_0.length c0'), (3, .pointer (some ⟨b2, 0, none⟩)), (6, .bool (!x12))] (by kernel_rfl) ?_
  refine WL.nil ?_
  refine WQ.then_normal (hK11 _ _ _ ?_)
  refine WP.cond (!x12) rfl rfl (fun hc20 => ?_) (fun hc20 => ?_)
  · have hm := iteT hm hc20
    refine WP.seq (fun K21 hK21 => ?_)
    refine WP.region ?_
    refine WL.runk 2 [4, 5] [(4, .slice none 0 0), (5, .int .i64 1)] (by kernel_rfl) ?_
    refine WL.nil ?_
    refine WQ.then_normal (hK21 _ _ _ ?_)
    refine WP.ret ?_
    refine WQ.block_ret ?_
    refine WQ.then_ret ?_
    obtain rfl := Option.some.inj hm
    have hS23 : SH w14 w.heap.size [aOwn fGood 31 none 0 ([] : List SGood), aBox 37 b2 [.string (bs t_1.Name), .int .i64 t_1.Many]] := SH.nilOwn hS19
    exact WQ.ret2 _ _ rfl rfl rfl ⟨_, _, rfl, hb17, (SH.take 1 hS23)⟩
  have hm := iteF hm hc20
  refine WP.seq (fun K24 hK24 => ?_)
  refine WP.region ?_
  refine WL.st (.agg #[.string (bs t_1.Name), .int .i64 t_1.Many]) (ST.loadAgg (vs := [.string (bs t_1.Name), .int .i64 t_1.Many]) (fun j v hv => SH.boxPart (us := [.string (bs t_1.Name), .int .i64 t_1.Many]) (SH.front 0 hS19) 0 rfl j v hv) rfl rfl rfl Tryz.underlying37 rfl (info37).1 (info37).2.1) rfl rfl rfl ?_
  obtain ⟨x25, hx26, hm⟩ := bindE hm
  refine WL.call 32 #[.agg #[.string (bs t_1.Name), .int .i64 t_1.Many]] rfl rfl (by kernel_rfl) (c_32 n t_1 w14 hx26 ) ?_
  rintro _ w27 ⟨rfl, hE28⟩
  refine ⟨_, rfl, ?_⟩
  have hb30 : Ext w w27 := Ext.trans hb17 hE28
  have hL31 : w.heap.size ≤ w27.heap.size := Nat.le_trans hL18 hE28.size
  have hS32 : SH w27 w.heap.size [aBox 37 b2 [.string (bs t_1.Name), .int .i64 t_1.Many]] := SH.ext hS19 hE28
  refine WL.runk 2 [0, 3, 10] [(0, .slice a0' list_0.length c0'), (3, .pointer (some ⟨b2, 0, none⟩)), (10, .bool (!x25))] (by kernel_rfl) ?_
  refine WL.nil ?_
  refine WQ.then_normal (hK24 _ _ _ ?_)
  refine WP.cond (!x25) rfl rfl (fun hc33 => ?_) (fun hc33 => ?_)
  · have hm := iteT hm hc33
    refine WP.seq (fun K34 hK34 => ?_)
    refine WP.region ?_
    refine WL.runk 2 [4, 5] [(4, .slice none 0 0), (5, .int .i64 2)] (by kernel_rfl) ?_
    refine WL.nil ?_
    refine WQ.then_normal (hK34 _ _ _ ?_)
    refine WP.ret ?_
    refine WQ.block_ret ?_
    refine WQ.then_ret ?_
    obtain rfl := Option.some.inj hm
    have hS36 : SH w27 w.heap.size [aOwn fGood 31 none 0 ([] : List SGood), aBox 37 b2 [.string (bs t_1.Name), .int .i64 t_1.Many]] := SH.nilOwn hS32
    exact WQ.ret2 _ _ rfl rfl rfl ⟨_, _, rfl, hb30, (SH.take 1 hS36)⟩
  have hm := iteF hm hc33
  refine WP.skip ?_
  refine WQ.block_normal ?_
  refine WQ.then_normal (hK10 _ _ _ ?_)
  refine WP.seq (fun K37 hK37 => ?_)
  refine WP.region ?_
  refine WL.runk 1 [3, 14] [(3, .pointer (some ⟨b2, 0, none⟩)), (14, .slice a0' list_0.length c0')] (by kernel_rfl) ?_
  refine WL.st (.agg #[.string (bs t_1.Name), .int .i64 t_1.Many]) (ST.loadAgg (vs := [.string (bs t_1.Name), .int .i64 t_1.Many]) (fun j v hv => SH.boxPart (us := [.string (bs t_1.Name), .int .i64 t_1.Many]) (SH.front 0 hS32) 0 rfl j v hv) rfl rfl rfl Tryz.underlying37 rfl (info37).1 (info37).2.1) rfl rfl rfl ?_
  obtain ⟨x38, hx39, hm⟩ := bindE hm
  refine WL.call 34 #[.slice a0' list_0.length c0', .agg #[.string (bs t_1.Name), .int .i64 t_1.Many]] rfl rfl (by kernel_rfl) (c_34 n list_0 a0' c0' t_1 w27 hx39 (Rd.below h0 hb30) hle0) ?_
  rintro _ w43 ⟨a40, c41, rfl, hE44, hR45⟩
  refine ⟨_, rfl, ?_⟩
  have hb46 : Ext w w43 := Ext.trans hb30 hE44
  have hL47 : w.heap.size ≤ w43.heap.size := Nat.le_trans hL31 hE44.size
  have hS48 : SH w43 w.heap.size [aOwn fGood 31 a40 c41 x38.1, aBox 37 b2 [.string (bs t_1.Name), .int .i64 t_1.Many]] := SH.add hS32 hE44 hL31 hR45
  refine WL.runk 4 [4, 5] [(4, .slice a40 x38.1.length c41), (5, .int .i64 x38.2)] (by kernel_rfl) ?_
  refine WL.nil ?_
  refine WQ.then_normal (hK37 _ _ _ ?_)
  refine WP.ret ?_
  obtain rfl := Option.some.inj hm
  exact WQ.ret2 _ _ rfl rfl rfl ⟨_, _, rfl, hb46, (SH.take 1 hS48)⟩

theorem c_36_o1 (n : Nat) (list_0 : List SGood) (a0' : Option Addr) (c0' : Nat) (t_1 : STake) (b1' : Nat) (w : World) (w0 : World) (B : Nat) (L : List Asrt) {r : Int × List SGood} (hm : m_spec_l23Change_o1 n list_0 t_1 = some r) (_hE0 : Ext w0 w) (_hW : w0.heap.size ≤ B) (hL : B ≤ w.heap.size) (hS : SH w B (aOwn fGood 31 a0' c0' list_0 :: aBox 37 b1' [.string (bs t_1.Name), .int .i64 t_1.Many] :: L)) :
    CallV Tryz.prog 36 #[.slice a0' list_0.length c0', .pointer (some ⟨b1', 0, none⟩)] w (fun v w' => v = .int .i64 r.1 ∧ Below B w w' ∧ SH w' B (aOwn fGood 31 a0' c0' r.2 :: aBox 37 b1' [.string (bs t_1.Name), .int .i64 t_1.Many] :: L) ∧ r.2.length = list_0.length) := by
  unfold m_spec_l23Change_o1 at hm
  refine CallV.enter Tryz.func36 rfl (by kernel_rfl) Tryz.ntmps36 (env := [(0, .slice a0' list_0.length c0'), (1, .pointer (some ⟨b1', 0, none⟩))]) ⟨rfl, rfl, trivial⟩ ?_
  refine WP.seq (fun K1 hK1 => ?_)
  refine WP.region ?_
  refine WL.runk 1 [0, 1] [(0, .slice a0' list_0.length c0'), (1, .pointer (some ⟨b1', 0, none⟩))] (by kernel_rfl) ?_
  refine WL.nil ?_
  refine WQ.then_normal (hK1 _ _ _ ?_)
  refine WP.seq (fun K2 hK2 => ?_)
  refine WP.region ?_
  refine WL.runk 4 [0, 1, 7, 10] [(0, .slice a0' list_0.length c0'), (1, .pointer (some ⟨b1', 0, none⟩)), (7, .slice a0' list_0.length c0'), (10, .pointer (some ⟨b1', 0, none⟩))] (by kernel_rfl) ?_
  refine WL.st (.string (bs t_1.Name)) (ST.load (cell_ext (SH.boxAt (SH.front 1 hS) 0 _ rfl)) rfl rfl Tryz.underlying9 rfl) rfl rfl rfl ?_
  obtain ⟨x3, hx4, hm⟩ := bindE hm
  refine WL.call 46 #[.slice a0' list_0.length c0', .string (bs t_1.Name)] rfl rfl (by kernel_rfl) (c_46 n list_0 a0' c0' t_1.Name w hx4 (SH.rd (SH.front 0 hS)) (SH.le (SH.front 0 hS)).1) ?_
  rintro _ w5 ⟨rfl, hE6⟩
  refine ⟨_, rfl, ?_⟩
  have hb8 : Below B w w5 := Below.trans (Below.refl _ _) (Below.mono hE6 hL)
  have hL9 : B ≤ w5.heap.size := Nat.le_trans hL hE6.size
  have hS10 : SH w5 B (aOwn fGood 31 a0' c0' list_0 :: aBox 37 b1' [.string (bs t_1.Name), .int .i64 t_1.Many] :: L) := SH.ext hS hE6
  refine WL.runk 1 [0, 1, 5] [(0, .slice a0' list_0.length c0'), (1, .pointer (some ⟨b1', 0, none⟩)), (5, .int .i64 x3)] (by kernel_rfl) ?_
  refine WL.nil ?_
  refine WQ.then_normal (hK2 _ _ _ ?_)
  refine WP.seq (fun K11 hK11 => ?_)
  refine WP.seq (fun K12 hK12 => ?_)
  refine WP.region ?_
  refine WL.runk 2 [0, 1, 5, 14] [(0, .slice a0' list_0.length c0'), (1, .pointer (some ⟨b1', 0, none⟩)), (5, .int .i64 x3), (14, .bool (decide (x3 < 0)))] (by kernel_rfl) ?_
  refine WL.nil ?_
  refine WQ.then_normal (hK12 _ _ _ ?_)
  refine WP.cond (decide (x3 < 0)) rfl rfl (fun hc13 => ?_) (fun hc13 => ?_)
  · have hm := iteT hm hc13
    refine WP.seq (fun K14 hK14 => ?_)
    refine WP.region ?_
    refine WL.runk 1 [4] [(4, .int .i64 3)] (by kernel_rfl) ?_
    refine WL.nil ?_
    refine WQ.then_normal (hK14 _ _ _ ?_)
    refine WP.ret ?_
    refine WQ.then_ret ?_
    obtain rfl := Option.some.inj hm
    exact WQ.ret1 _ rfl rfl ⟨rfl, hb8, hS10, rfl⟩
  have hm := iteF hm hc13
  refine WP.skip ?_
  refine WQ.then_normal (hK11 _ _ _ ?_)
  refine WP.seq (fun K15 hK15 => ?_)
  refine WP.region ?_
  refine WL.runk 2 [0, 1, 5, 15, 16] [(0, .slice a0' list_0.length c0'), (1, .pointer (some ⟨b1', 0, none⟩)), (5, .int .i64 x3), (15, .slice a0' list_0.length c0'), (16, .int .i64 x3)] (by kernel_rfl) ?_
  obtain ⟨x16, hx17, hm⟩ := bindE hm
  refine WL.st (.pointer (some (at_ a0' (Int.toNat x3 * 4)))) (ST.index (T := fGood.ty) (xs := list_0) (SH.rd (SH.front 0 hS10)) hx17 rfl rfl rfl Tryz.underlying24 (info31).1 (info31).2.1) rfl rfl rfl ?_
  refine WL.st (.agg #[.string (bs x16.Name), .int .i64 x16.OnHand, .int .i64 x16.Reserved, .int .i64 x16.Least]) (ST.loadAgg (vs := fGood.leaf x16) (fun j v hv => Rd.flatA (F := fGood) (SH.rd (SH.front 0 hS10)) hx17 j hv) rfl rfl rfl Tryz.underlying31 rfl (info31).1 (info31).2.1) rfl rfl rfl ?_
  refine WL.box 31 [.string (bs []), .int .i64 0, .int .i64 0, .int .i64 0] 6 (by kernel_rfl) rfl rfl rfl rfl ?_
  intro b18 w19 hE20 hR21
  have hb23 : Below B w w19 := Below.trans hb8 (Below.mono hE20 hL9)
  have hL24 : B ≤ w19.heap.size := Nat.le_trans hL9 hE20.size
  have hS25 : SH w19 B (aBox 31 b18 [.string (bs []), .int .i64 0, .int .i64 0, .int .i64 0] :: aOwn fGood 31 a0' c0' list_0 :: aBox 37 b1' [.string (bs t_1.Name), .int .i64 t_1.Many] :: L) := SH.add hS10 hE20 hL9 hR21
  refine WL.boxStore 0 [.string (bs x16.Name), .int .i64 x16.OnHand, .int .i64 x16.Reserved, .int .i64 x16.Least] [.string (bs x16.Name), .int .i64 x16.OnHand, .int .i64 x16.Reserved, .int .i64 x16.Least] (SH.front 0 hS25) hL24 rfl rfl rfl rfl rfl rfl rfl (info31).1 (info31).2.1 rfl rfl rfl ?_
  intro w26 hB27 hS28
  have hb29 : Below B w w26 := Below.trans hb23 hB27
  have hL30 : B ≤ w26.heap.size := Nat.le_trans hL24 hB27.size
  refine WL.sub [(0, .slice a0' list_0.length c0'), (1, .pointer (some ⟨b1', 0, none⟩)), (5, .int .i64 x3), (6, .pointer (some ⟨b18, 0, none⟩))] ⟨rfl, rfl, rfl, rfl, trivial⟩ ?_
  refine WL.nil ?_
  refine WQ.then_normal (hK15 _ _ _ ?_)
  refine WP.seq (fun K31 hK31 => ?_)
  refine WP.open (n := 9) (by kernel_rfl) rfl (fun w32 hE33 => ?_)
  have hb34 : Below B w w32 := Below.trans hb29 (Below.mono hE33 hL30)
  have hL35 : B ≤ w32.heap.size := Nat.le_trans hL30 hE33.size
  have hS36 : SH w32 B (aBox 31 b18 [.string (bs x16.Name), .int .i64 x16.OnHand, .int .i64 x16.Reserved, .int .i64 x16.Least] :: aOwn fGood 31 a0' c0' list_0 :: aBox 37 b1' [.string (bs t_1.Name), .int .i64 t_1.Many] :: L) := SH.ext hS28 hE33
  refine WA.quiet (f' := 1) (D' := [0, 1, 2, 3, 4, 5, 6, 7]) [0, 1, 2, 3, 4, 5, 6, 7] rfl rfl (by kernel_rfl) ?_
  refine QL.step1v 19 (.pointer (some ⟨b18, 1, none⟩)) rfl (fun _ => by kernel_rfl) ?_
  refine QL.subk [0, 1, 5, 6, 19] [(0, .slice a0' list_0.length c0'), (1, .pointer (some ⟨b1', 0, none⟩)), (5, .int .i64 x3), (6, .pointer (some ⟨b18, 0, none⟩)), (19, .pointer (some ⟨b18, 1, none⟩))] (by kernel_rfl) ?_
  refine QL.st (.int .i64 x16.OnHand) (ST.load (cell_ext (SH.boxAt (SH.front 0 hS36) 1 _ rfl)) rfl rfl Tryz.underlying2 rfl) rfl rfl rfl ?_
  refine QL.step1v 21 (.pointer (some ⟨b1', 0, none⟩)) rfl (fun _ => by kernel_rfl) ?_
  refine QL.step1v 22 (.pointer (some ⟨b1', 0, none⟩)) rfl (fun _ => by kernel_rfl) ?_
  refine QL.step1v 23 (.pointer (some ⟨b1', 1, none⟩)) rfl (fun _ => by kernel_rfl) ?_
  refine QL.subk [0, 5, 6, 20, 23] [(0, .slice a0' list_0.length c0'), (5, .int .i64 x3), (6, .pointer (some ⟨b18, 0, none⟩)), (20, .int .i64 x16.OnHand), (23, .pointer (some ⟨b1', 1, none⟩))] (by kernel_rfl) ?_
  refine QL.st (.int .i64 t_1.Many) (ST.load (cell_ext (SH.boxAt (SH.front 2 hS36) 1 _ rfl)) rfl rfl Tryz.underlying2 rfl) rfl rfl rfl ?_
  refine QL.step1v 25 (.int .i64 (wI64 (x16.OnHand + t_1.Many))) rfl (fun _ => by kernel_rfl) ?_
  refine QL.step1v 26 (.pointer (some ⟨b18, 1, none⟩)) rfl (fun _ => by kernel_rfl) ?_
  refine QL.subk [0, 5, 6, 25, 26] [(0, .slice a0' list_0.length c0'), (5, .int .i64 x3), (6, .pointer (some ⟨b18, 0, none⟩)), (25, .int .i64 (wI64 (x16.OnHand + t_1.Many))), (26, .pointer (some ⟨b18, 1, none⟩))] (by kernel_rfl) ?_
  refine QL.nil ?_
  intro w37 hE38
  have hb39 : Below B w w37 := Below.trans hb34 (Below.mono hE38 hL35)
  have hL40 : B ≤ w37.heap.size := Nat.le_trans hL35 hE38.size
  have hS41 : SH w37 B (aBox 31 b18 [.string (bs x16.Name), .int .i64 x16.OnHand, .int .i64 x16.Reserved, .int .i64 x16.Least] :: aOwn fGood 31 a0' c0' list_0 :: aBox 37 b1' [.string (bs t_1.Name), .int .i64 t_1.Many] :: L) := SH.ext hS36 hE38
  refine WA.one (i := 8) (D' := [0, 1, 2, 3, 4, 5, 6, 7, 8]) rfl rfl (by kernel_rfl) ?_
  refine WL.boxStore 1 [.int .i64 (wI64 (x16.OnHand + t_1.Many))] [.string (bs x16.Name), .int .i64 (wI64 (x16.OnHand + t_1.Many)), .int .i64 x16.Reserved, .int .i64 x16.Least] (SH.front 0 hS41) hL40 rfl rfl rfl rfl rfl rfl rfl (info2).1 (info2).2.1 rfl rfl rfl ?_
  intro w42 hB43 hS44
  have hb45 : Below B w w42 := Below.trans hb39 hB43
  have hL46 : B ≤ w42.heap.size := Nat.le_trans hL40 hB43.size
  refine WL.sub [(0, .slice a0' list_0.length c0'), (5, .int .i64 x3), (6, .pointer (some ⟨b18, 0, none⟩))] ⟨rfl, rfl, rfl, trivial⟩ ?_
  refine WL.nil ?_
  refine WA.done (by kernel_rfl) ?_
  refine WQ.then_normal (hK31 _ _ _ ?_)
  refine WP.seq (fun K47 hK47 => ?_)
  refine WP.seq (fun K48 hK48 => ?_)
  refine WP.region ?_
  refine WL.runk 1 [0, 5, 6, 27] [(0, .slice a0' list_0.length c0'), (5, .int .i64 x3), (6, .pointer (some ⟨b18, 0, none⟩)), (27, .pointer (some ⟨b18, 1, none⟩))] (by kernel_rfl) ?_
  refine WL.st (.int .i64 (wI64 (x16.OnHand + t_1.Many))) (ST.load (cell_ext (SH.boxAt (SH.front 0 hS44) 1 _ rfl)) rfl rfl Tryz.underlying2 rfl) rfl rfl rfl ?_
  refine WL.runk 1 [0, 5, 6, 28, 29] [(0, .slice a0' list_0.length c0'), (5, .int .i64 x3), (6, .pointer (some ⟨b18, 0, none⟩)), (28, .int .i64 (wI64 (x16.OnHand + t_1.Many))), (29, .pointer (some ⟨b18, 2, none⟩))] (by kernel_rfl) ?_
  refine WL.st (.int .i64 x16.Reserved) (ST.load (cell_ext (SH.boxAt (SH.front 0 hS44) 2 _ rfl)) rfl rfl Tryz.underlying2 rfl) rfl rfl rfl ?_
  refine WL.runk 1 [0, 5, 6, 31] [(0, .slice a0' list_0.length c0'), (5, .int .i64 x3), (6, .pointer (some ⟨b18, 0, none⟩)), (31, .bool (decide ((wI64 (x16.OnHand + t_1.Many)) < x16.Reserved)))] (by kernel_rfl) ?_
  refine WL.nil ?_
  refine WQ.then_normal (hK48 _ _ _ ?_)
  refine WP.cond (decide ((wI64 (x16.OnHand + t_1.Many)) < x16.Reserved)) rfl rfl (fun hc49 => ?_) (fun hc49 => ?_)
  · have hm := iteT hm hc49
    refine WP.seq (fun K50 hK50 => ?_)
    refine WP.region ?_
    refine WL.runk 1 [4] [(4, .int .i64 6)] (by kernel_rfl) ?_
    refine WL.nil ?_
    refine WQ.then_normal (hK50 _ _ _ ?_)
    refine WP.ret ?_
    refine WQ.then_ret ?_
    obtain rfl := Option.some.inj hm
    exact WQ.ret1 _ rfl rfl ⟨rfl, hb45, (SH.cutOut 2 1 (SH.front 2 (SH.front 2 hS44))), rfl⟩
  have hm := iteF hm hc49
  refine WP.skip ?_
  refine WQ.then_normal (hK47 _ _ _ ?_)
  refine WP.seq (fun K51 hK51 => ?_)
  refine WP.seq (fun K52 hK52 => ?_)
  refine WP.region ?_
  refine WL.runk 1 [0, 5, 6, 32] [(0, .slice a0' list_0.length c0'), (5, .int .i64 x3), (6, .pointer (some ⟨b18, 0, none⟩)), (32, .pointer (some ⟨b18, 1, none⟩))] (by kernel_rfl) ?_
  refine WL.st (.int .i64 (wI64 (x16.OnHand + t_1.Many))) (ST.load (cell_ext (SH.boxAt (SH.front 0 hS44) 1 _ rfl)) rfl rfl Tryz.underlying2 rfl) rfl rfl rfl ?_
  obtain ⟨x53, hx54, hm⟩ := bindE hm
  refine WL.call 63 #[.int .i64 (wI64 (x16.OnHand + t_1.Many))] rfl rfl (by kernel_rfl) (c_63 n (wI64 (x16.OnHand + t_1.Many)) w42 hx54 ) ?_
  rintro _ w55 ⟨rfl, hE56⟩
  refine ⟨_, rfl, ?_⟩
  have hb58 : Below B w w55 := Below.trans hb45 (Below.mono hE56 hL46)
  have hL59 : B ≤ w55.heap.size := Nat.le_trans hL46 hE56.size
  have hS60 : SH w55 B (aBox 31 b18 [.string (bs x16.Name), .int .i64 (wI64 (x16.OnHand + t_1.Many)), .int .i64 x16.Reserved, .int .i64 x16.Least] :: aOwn fGood 31 a0' c0' list_0 :: aBox 37 b1' [.string (bs t_1.Name), .int .i64 t_1.Many] :: L) := SH.ext hS44 hE56
  refine WL.runk 1 [0, 5, 6, 35] [(0, .slice a0' list_0.length c0'), (5, .int .i64 x3), (6, .pointer (some ⟨b18, 0, none⟩)), (35, .bool (!x53))] (by kernel_rfl) ?_
  refine WL.nil ?_
  refine WQ.then_normal (hK52 _ _ _ ?_)
  refine WP.cond (!x53) rfl rfl (fun hc61 => ?_) (fun hc61 => ?_)
  · have hm := iteT hm hc61
    refine WP.seq (fun K62 hK62 => ?_)
    refine WP.region ?_
    refine WL.runk 1 [4] [(4, .int .i64 5)] (by kernel_rfl) ?_
    refine WL.nil ?_
    refine WQ.then_normal (hK62 _ _ _ ?_)
    refine WP.ret ?_
    refine WQ.then_ret ?_
    obtain rfl := Option.some.inj hm
    exact WQ.ret1 _ rfl rfl ⟨rfl, hb58, (SH.cutOut 2 1 (SH.front 2 (SH.front 2 hS60))), rfl⟩
  have hm := iteF hm hc61
  refine WP.skip ?_
  refine WQ.then_normal (hK51 _ _ _ ?_)
  refine WP.seq (fun K63 hK63 => ?_)
  refine WP.region ?_
  refine WL.runk 2 [6, 36, 37] [(6, .pointer (some ⟨b18, 0, none⟩)), (36, .slice a0' list_0.length c0'), (37, .int .i64 x3)] (by kernel_rfl) ?_
  refine WL.st (.agg #[.string (bs x16.Name), .int .i64 (wI64 (x16.OnHand + t_1.Many)), .int .i64 x16.Reserved, .int .i64 x16.Least]) (ST.loadAgg (vs := [.string (bs x16.Name), .int .i64 (wI64 (x16.OnHand + t_1.Many)), .int .i64 x16.Reserved, .int .i64 x16.Least]) (fun j v hv => SH.boxPart (us := [.string (bs x16.Name), .int .i64 (wI64 (x16.OnHand + t_1.Many)), .int .i64 x16.Reserved, .int .i64 x16.Least]) (SH.front 0 hS60) 0 rfl j v hv) rfl rfl rfl Tryz.underlying31 rfl (info31).1 (info31).2.1) rfl rfl rfl ?_
  obtain ⟨x64, hx65, hm⟩ := bindE hm
  refine WL.st (.pointer (some (at_ a0' (Int.toNat x3 * 4)))) (ST.index (T := fGood.ty) (xs := list_0) (SH.rd (SH.front 1 hS60)) hx65 rfl rfl rfl Tryz.underlying24 (info31).1 (info31).2.1) rfl rfl rfl ?_
  refine WL.store (F := fGood) (SGood.mk x16.Name (wI64 (x16.OnHand + t_1.Many)) x16.Reserved x16.Least) 0 [.string (bs x16.Name), .int .i64 (wI64 (x16.OnHand + t_1.Many)), .int .i64 x16.Reserved, .int .i64 x16.Least] (SH.front 1 hS60) hL59 hx65 rfl rfl rfl rfl rfl rfl rfl (info31).1 (info31).2.1 rfl rfl rfl ?_
  intro w66 hB67 hS68
  have hb69 : Below B w w66 := Below.trans hb58 hB67
  have hL70 : B ≤ w66.heap.size := Nat.le_trans hL59 hB67.size
  refine WL.sub [(6, .pointer (some ⟨b18, 0, none⟩)), (36, .slice a0' ((list_0.set (Int.toNat x3) (SGood.mk x16.Name (wI64 (x16.OnHand + t_1.Many)) x16.Reserved x16.Least)).length) c0'), (37, .int .i64 x3), (38, .agg #[.string (bs x16.Name), .int .i64 (wI64 (x16.OnHand + t_1.Many)), .int .i64 x16.Reserved, .int .i64 x16.Least])] ⟨rfl, by first | (simp only [List.length_set]; done) | (simp only [List.length_set]; rfl), rfl, rfl, trivial⟩ ?_
  have hn71 : (list_0.set (Int.toNat x3) (SGood.mk x16.Name (wI64 (x16.OnHand + t_1.Many)) x16.Reserved x16.Least)).length = list_0.length := List.length_set.trans rfl
  refine WL.sub [] trivial ?_
  refine WL.nil ?_
  refine WQ.then_normal (hK63 _ _ _ ?_)
  refine WP.seq (fun K72 hK72 => ?_)
  refine WP.region ?_
  refine WL.runk 1 [4] [(4, .int .i64 0)] (by kernel_rfl) ?_
  refine WL.nil ?_
  refine WQ.then_normal (hK72 _ _ _ ?_)
  refine WP.ret ?_
  obtain rfl := Option.some.inj hm
  exact WQ.ret1 _ rfl rfl ⟨rfl, hb69, (SH.cutOut 2 1 (SH.front 1 (SH.front 2 hS68))), hn71⟩

theorem c_13 (n : Nat) (list_0 : List SGood) (a0' : Option Addr) (c0' : Nat) (t_1 : STake) (w : World) {r : List SGood × Int} (hm : m_spec_ChangeGood n list_0 t_1 = some r) (h0 : Rd fGood.ty w a0' list_0) (hle0 : list_0.length ≤ c0') :
    CallV Tryz.prog 13 #[.slice a0' list_0.length c0', .agg #[.string (bs t_1.Name), .int .i64 t_1.Many]] w (fun v w' => ∃ (ra0 : Option Addr) (rc0 : Nat), v = .tuple #[.slice ra0 r.1.length rc0, .int .i64 r.2] ∧ Ext w w' ∧ SH w' w.heap.size [aOwn fGood 31 ra0 rc0 r.1]) := by
  unfold m_spec_ChangeGood at hm
  refine CallV.enter Tryz.func13 rfl (by kernel_rfl) Tryz.ntmps13 (env := [(0, .slice a0' list_0.length c0'), (1, .agg #[.string (bs t_1.Name), .int .i64 t_1.Many])]) ⟨rfl, rfl, trivial⟩ ?_
  refine WP.seq (fun K1 hK1 => ?_)
  refine WP.region ?_
  refine WL.box 37 [.string (bs t_1.Name), .int .i64 t_1.Many] 3 (by kernel_rfl) rfl rfl rfl rfl ?_
  intro b2 w3 hE4 hR5
  have hb7 : Ext w w3 := Ext.trans (Ext.refl w) hE4
  have hL8 : w.heap.size ≤ w3.heap.size := Nat.le_trans (Nat.le_refl _) hE4.size
  have hS9 : SH w3 w.heap.size [aBox 37 b2 [.string (bs t_1.Name), .int .i64 t_1.Many]] := SH.add (SH.nil _ _) hE4 (Nat.le_refl _) hR5
  refine WL.runk 2 [0, 3] [(0, .slice a0' list_0.length c0'), (3, .pointer (some ⟨b2, 0, none⟩))] (by kernel_rfl) ?_
  refine WL.nil ?_
  refine WQ.then_normal (hK1 _ _ _ ?_)
  refine WP.seq (fun K10 hK10 => ?_)
  refine WP.seq (fun K11 hK11 => ?_)
  refine WP.region ?_
  refine WL.runk 1 [0, 3, 8] [(0, .slice a0' list_0.length c0'), (3, .pointer (some ⟨b2, 0, none⟩)), (8, .slice a0' list_0.length c0')] (by kernel_rfl) ?_
  obtain ⟨x12, hx13, hm⟩ := bindE hm
  refine WL.call 44 #[.slice a0' list_0.length c0'] rfl rfl (by kernel_rfl) (c_44 n list_0 a0' c0' w3 hx13 (Rd.below h0 hb7) hle0) ?_
  rintro _ w14 ⟨rfl, hE15⟩
  refine ⟨_, rfl, ?_⟩
  have hb17 : Ext w w14 := Ext.trans hb7 hE15
  have hL18 : w.heap.size ≤ w14.heap.size := Nat.le_trans hL8 hE15.size
  have hS19 : SH w14 w.heap.size [aBox 37 b2 [.string (bs t_1.Name), .int .i64 t_1.Many]] := SH.ext hS9 hE15
  refine WL.runk 1 [0, 3, 10] [(0, .slice a0' list_0.length c0'), (3, .pointer (some ⟨b2, 0, none⟩)), (10, .bool (!x12))] (by kernel_rfl) ?_
  refine WL.nil ?_
  refine WQ.then_normal (hK11 _ _ _ ?_)
  refine WP.cond (!x12) rfl rfl (fun hc20 => ?_) (fun hc20 => ?_)
  · have hm := iteT hm hc20
    refine WP.seq (fun K21 hK21 => ?_)
    refine WP.region ?_
    refine WL.runk 2 [4, 5] [(4, .slice none 0 0), (5, .int .i64 1)] (by kernel_rfl) ?_
    refine WL.nil ?_
    refine WQ.then_normal (hK21 _ _ _ ?_)
    refine WP.ret ?_
    refine WQ.then_ret ?_
    obtain rfl := Option.some.inj hm
    have hS23 : SH w14 w.heap.size [aOwn fGood 31 none 0 ([] : List SGood), aBox 37 b2 [.string (bs t_1.Name), .int .i64 t_1.Many]] := SH.nilOwn hS19
    exact WQ.ret2 _ _ rfl rfl rfl ⟨_, _, rfl, hb17, (SH.take 1 hS23)⟩
  have hm := iteF hm hc20
  refine WP.skip ?_
  refine WQ.then_normal (hK10 _ _ _ ?_)
  refine WP.seq (fun K24 hK24 => ?_)
  refine WP.seq (fun K25 hK25 => ?_)
  refine WP.region ?_
  obtain ⟨x26, hx27, hm⟩ := bindE hm
  refine WL.call 47 #[.pointer (some ⟨b2, 0, none⟩)] rfl rfl (by kernel_rfl) (c_47 n t_1 b2 0 w14 hx27 (SH.boxRd (SH.front 0 hS19))) ?_
  rintro _ w28 ⟨rfl, hE29⟩
  refine ⟨_, rfl, ?_⟩
  have hb31 : Ext w w28 := Ext.trans hb17 hE29
  have hL32 : w.heap.size ≤ w28.heap.size := Nat.le_trans hL18 hE29.size
  have hS33 : SH w28 w.heap.size [aBox 37 b2 [.string (bs t_1.Name), .int .i64 t_1.Many]] := SH.ext hS19 hE29
  refine WL.runk 1 [0, 3, 12] [(0, .slice a0' list_0.length c0'), (3, .pointer (some ⟨b2, 0, none⟩)), (12, .bool (!x26))] (by kernel_rfl) ?_
  refine WL.nil ?_
  refine WQ.then_normal (hK25 _ _ _ ?_)
  refine WP.cond (!x26) rfl rfl (fun hc34 => ?_) (fun hc34 => ?_)
  · have hm := iteT hm hc34
    refine WP.seq (fun K35 hK35 => ?_)
    refine WP.region ?_
    refine WL.runk 2 [4, 5] [(4, .slice none 0 0), (5, .int .i64 2)] (by kernel_rfl) ?_
    refine WL.nil ?_
    refine WQ.then_normal (hK35 _ _ _ ?_)
    refine WP.ret ?_
    refine WQ.then_ret ?_
    obtain rfl := Option.some.inj hm
    have hS37 : SH w28 w.heap.size [aOwn fGood 31 none 0 ([] : List SGood), aBox 37 b2 [.string (bs t_1.Name), .int .i64 t_1.Many]] := SH.nilOwn hS33
    exact WQ.ret2 _ _ rfl rfl rfl ⟨_, _, rfl, hb31, (SH.take 1 hS37)⟩
  have hm := iteF hm hc34
  refine WP.skip ?_
  refine WQ.then_normal (hK24 _ _ _ ?_)
  refine WP.seq (fun K38 hK38 => ?_)
  refine WP.region ?_
  refine WL.row fGood 31 ([] : List SGood) 0 #[] 13 (by kernel_rfl) rfl rfl rfl rfl rfl rfl rfl ?_
  intro a39 c40 w41 hE42 hR43
  have hb45 : Ext w w41 := Ext.trans hb31 hE42
  have hL46 : w.heap.size ≤ w41.heap.size := Nat.le_trans hL32 hE42.size
  have hS47 : SH w41 w.heap.size [aOwn fGood 31 a39 c40 ([] : List SGood), aBox 37 b2 [.string (bs t_1.Name), .int .i64 t_1.Many]] := SH.add hS33 hE42 hL32 hR43
  refine WL.runk 1 [3, 13, 14] [(3, .pointer (some ⟨b2, 0, none⟩)), (13, .slice a39 (([] : List SGood).length) c40), (14, .slice a0' list_0.length c0')] (by kernel_rfl) ?_
  obtain ⟨x48, hx49, hm⟩ := bindE hm
  refine WL.append (F := fGood) (xs := ([] : List SGood)) (ys := list_0) 15 (SH.front 0 hS47) hL46 (Rd.below h0 hb45) hx49 rfl rfl rfl Tryz.underlying24 (info31).1 (info31).2.2.1 (info31).2.1 (info31).2.2.2 rfl rfl rfl rfl rfl ?_
  intro a50 c51 w52 hB53 hS54
  have hb55 : Ext w w52 := Below.trans hb45 hB53
  have hL56 : w.heap.size ≤ w52.heap.size := Nat.le_trans hL46 hB53.size
  refine WL.runk 1 [3, 6] [(3, .pointer (some ⟨b2, 0, none⟩)), (6, .slice a50 x48.length c51)] (by kernel_rfl) ?_
  refine WL.nil ?_
  refine WQ.then_normal (hK38 _ _ _ ?_)
  refine WP.seq (fun K57 hK57 => ?_)
  refine WP.region ?_
  refine WL.runk 1 [3, 6, 16] [(3, .pointer (some ⟨b2, 0, none⟩)), (6, .slice a50 x48.length c51), (16, .slice a50 x48.length c51)] (by kernel_rfl) ?_
  obtain ⟨x58, hx59, hm⟩ := bindE hm
  refine WL.call 36 #[.slice a50 x48.length c51, .pointer (some ⟨b2, 0, none⟩)] rfl rfl (by kernel_rfl) (c_36_o1 n x48 a50 c51 t_1 b2 w52 w w.heap.size [] hx59 hb55 (Nat.le_refl _) hL56  hS54) ?_
  rintro _ w60 ⟨rfl, hB64, hS63, hlen65⟩
  refine ⟨_, rfl, ?_⟩
  have hb66 : Ext w w60 := Below.trans hb55 hB64
  have hL67 : w.heap.size ≤ w60.heap.size := Nat.le_trans hL56 hB64.size
  refine WL.sub [(3, .pointer (some ⟨b2, 0, none⟩)), (6, .slice a50 x58.2.length c51), (16, .slice a50 x58.2.length c51), (17, .int .i64 x58.1)] ⟨rfl, by rw [hlen65]; rfl, by rw [hlen65]; rfl, rfl, trivial⟩ ?_
  refine WL.runk 1 [6, 7] [(6, .slice a50 x58.2.length c51), (7, .int .i64 x58.1)] (by kernel_rfl) ?_
  refine WL.nil ?_
  refine WQ.then_normal (hK57 _ _ _ ?_)
  refine WP.seq (fun K68 hK68 => ?_)
  refine WP.seq (fun K69 hK69 => ?_)
  refine WP.region ?_
  refine WL.runk 2 [6, 7, 19] [(6, .slice a50 x58.2.length c51), (7, .int .i64 x58.1), (19, .bool (x58.1 != 0))] (by kernel_rfl) ?_
  refine WL.nil ?_
  refine WQ.then_normal (hK69 _ _ _ ?_)
  refine WP.cond (x58.1 != 0) rfl rfl (fun hc70 => ?_) (fun hc70 => ?_)
  · have hm := iteT hm hc70
    refine WP.seq (fun K71 hK71 => ?_)
    refine WP.region ?_
    refine WL.runk 3 [4, 5] [(4, .slice none 0 0), (5, .int .i64 x58.1)] (by kernel_rfl) ?_
    refine WL.nil ?_
    refine WQ.then_normal (hK71 _ _ _ ?_)
    refine WP.ret ?_
    refine WQ.then_ret ?_
    obtain rfl := Option.some.inj hm
    have hS73 : SH w60 w.heap.size [aOwn fGood 31 none 0 ([] : List SGood), aOwn fGood 31 a50 c51 x58.2, aBox 37 b2 [.string (bs t_1.Name), .int .i64 t_1.Many]] := SH.nilOwn hS63
    exact WQ.ret2 _ _ rfl rfl rfl ⟨_, _, rfl, hb66, (SH.take 1 hS73)⟩
  have hm := iteF hm hc70
  refine WP.skip ?_
  refine WQ.then_normal (hK68 _ _ _ ?_)
  refine WP.seq (fun K74 hK74 => ?_)
  refine WP.region ?_
  refine WL.runk 3 [4, 5] [(4, .slice a50 x58.2.length c51), (5, .int .i64 0)] (by kernel_rfl) ?_
  refine WL.nil ?_
  refine WQ.then_normal (hK74 _ _ _ ?_)
  refine WP.ret ?_
  obtain rfl := Option.some.inj hm
  exact WQ.ret2 _ _ rfl rfl rfl ⟨_, _, rfl, hb66, (SH.take 1 hS63)⟩

theorem c_14 (n : Nat) (code_0 : List Int) (a0' : Option Addr) (c0' : Nat) (w : World) {r : SGood} (hm : m_spec_DrawGoodText n code_0 = some r) (h0 : Rd fU8.ty w a0' code_0) (hle0 : code_0.length ≤ c0') :
    CallV Tryz.prog 14 #[.slice a0' code_0.length c0'] w (fun v w' => v = .agg #[.string (bs r.Name), .int .i64 r.OnHand, .int .i64 r.Reserved, .int .i64 r.Least] ∧ Ext w w') := by
  unfold m_spec_DrawGoodText at hm
  refine CallV.enter Tryz.func14 rfl (by kernel_rfl) Tryz.ntmps14 (env := [(0, .slice a0' code_0.length c0')]) ⟨rfl, trivial⟩ ?_
  refine WP.seq (fun K1 hK1 => ?_)
  refine WP.region ?_
  refine WL.box 31 [.string (bs []), .int .i64 0, .int .i64 0, .int .i64 0] 2 (by kernel_rfl) rfl rfl rfl rfl ?_
  intro b2 w3 hE4 hR5
  have hb7 : Ext w w3 := Ext.trans (Ext.refl w) hE4
  have hL8 : w.heap.size ≤ w3.heap.size := Nat.le_trans (Nat.le_refl _) hE4.size
  have hS9 : SH w3 w.heap.size [aBox 31 b2 [.string (bs []), .int .i64 0, .int .i64 0, .int .i64 0]] := SH.add (SH.nil _ _) hE4 (Nat.le_refl _) hR5
  refine WL.sub [(0, .slice a0' code_0.length c0'), (2, .pointer (some ⟨b2, 0, none⟩))] ⟨rfl, rfl, trivial⟩ ?_
  refine WL.nil ?_
  refine WQ.then_normal (hK1 _ _ _ ?_)
  refine WP.seq (fun K10 hK10 => ?_)
  refine WP.region ?_
  refine WL.runk 1 [2, 5] [(2, .pointer (some ⟨b2, 0, none⟩)), (5, .slice a0' code_0.length c0')] (by kernel_rfl) ?_
  obtain ⟨x11, hx12, hm⟩ := bindE hm
  refine WL.call 25 #[.slice a0' code_0.length c0'] rfl rfl (by kernel_rfl) (c_25 n code_0 a0' c0' w3 hx12 (Rd.below h0 hb7) hle0) ?_
  rintro _ w15 ⟨b13, rfl, hE16, hR17⟩
  refine ⟨_, rfl, ?_⟩
  have hb18 : Ext w w15 := Ext.trans hb7 hE16
  have hL19 : w.heap.size ≤ w15.heap.size := Nat.le_trans hL8 hE16.size
  have hS20 : SH w15 w.heap.size [aBox 87 b13 [.slice a0' code_0.length c0', .int .i64 x11.1, .int .u64 x11.2], aBox 31 b2 [.string (bs []), .int .i64 0, .int .i64 0, .int .i64 0]] := SH.add hS9 hE16 hL8 hR17
  refine WL.runk 1 [2, 3] [(2, .pointer (some ⟨b2, 0, none⟩)), (3, .pointer (some ⟨b13, 0, none⟩))] (by kernel_rfl) ?_
  refine WL.nil ?_
  refine WQ.then_normal (hK10 _ _ _ ?_)
  refine WP.seq (fun K21 hK21 => ?_)
  refine WP.region ?_
  refine WL.runk 1 [2, 3, 7] [(2, .pointer (some ⟨b2, 0, none⟩)), (3, .pointer (some ⟨b13, 0, none⟩)), (7, .pointer (some ⟨b13, 0, none⟩))] (by kernel_rfl) ?_
  obtain ⟨x22, hx23, hm⟩ := bindE hm
  refine WL.call 39 #[.pointer (some ⟨b13, 0, none⟩), .string (bs [104, 101, 101, 108, 45, 51])] rfl rfl (by kernel_rfl) (c_39 n code_0 a0' c0' x11.1 x11.2 b13 [104, 101, 101, 108, 45, 51] w15 w w.heap.size [aBox 31 b2 [.string (bs []), .int .i64 0, .int .i64 0, .int .i64 0]] hx23 hb18 (Nat.le_refl _) hL19 h0 hle0 hS20) ?_
  rintro _ w24 ⟨rfl, hB28, hS27⟩
  refine ⟨_, rfl, ?_⟩
  have hb29 : Ext w w24 := Below.trans hb18 hB28
  have hL30 : w.heap.size ≤ w24.heap.size := Nat.le_trans hL19 hB28.size
  refine WL.box 31 [.string (bs []), .int .i64 0, .int .i64 0, .int .i64 0] 4 (by kernel_rfl) rfl rfl rfl rfl ?_
  intro b31 w32 hE33 hR34
  have hb36 : Ext w w32 := Ext.trans hb29 hE33
  have hL37 : w.heap.size ≤ w32.heap.size := Nat.le_trans hL30 hE33.size
  have hS38 : SH w32 w.heap.size [aBox 31 b31 [.string (bs []), .int .i64 0, .int .i64 0, .int .i64 0], aBox 87 b13 [.slice a0' code_0.length c0', .int .i64 x22.2.1, .int .u64 x22.2.2], aBox 31 b2 [.string (bs []), .int .i64 0, .int .i64 0, .int .i64 0]] := SH.add hS27 hE33 hL30 hR34
  refine WL.boxStore 0 [.string (bs x22.1.Name), .int .i64 x22.1.OnHand, .int .i64 x22.1.Reserved, .int .i64 x22.1.Least] [.string (bs x22.1.Name), .int .i64 x22.1.OnHand, .int .i64 x22.1.Reserved, .int .i64 x22.1.Least] (SH.front 0 hS38) hL37 rfl rfl rfl rfl rfl rfl rfl (info31).1 (info31).2.1 rfl rfl rfl ?_
  intro w39 hB40 hS41
  have hb42 : Ext w w39 := Below.trans hb36 hB40
  have hL43 : w.heap.size ≤ w39.heap.size := Nat.le_trans hL37 hB40.size
  refine WL.sub [(2, .pointer (some ⟨b2, 0, none⟩)), (3, .pointer (some ⟨b13, 0, none⟩)), (4, .pointer (some ⟨b31, 0, none⟩))] ⟨rfl, rfl, rfl, trivial⟩ ?_
  refine WL.nil ?_
  refine WQ.then_normal (hK21 _ _ _ ?_)
  refine WP.seq (fun K44 hK44 => ?_)
  refine WP.seq (fun K45 hK45 => ?_)
  refine WP.region ?_
  refine WL.runk 1 [2, 3, 4, 9] [(2, .pointer (some ⟨b2, 0, none⟩)), (3, .pointer (some ⟨b13, 0, none⟩)), (4, .pointer (some ⟨b31, 0, none⟩)), (9, .pointer (some ⟨b13, 0, none⟩))] (by kernel_rfl) ?_
  obtain ⟨x46, hx47, hm⟩ := bindE hm
  refine WL.call 29 #[.pointer (some ⟨b13, 0, none⟩), .int .i64 4] rfl rfl (by kernel_rfl) (c_29 n code_0 a0' c0' x22.2.1 x22.2.2 b13 4 w39 w w.heap.size [aBox 31 b31 [.string (bs x22.1.Name), .int .i64 x22.1.OnHand, .int .i64 x22.1.Reserved, .int .i64 x22.1.Least], aBox 31 b2 [.string (bs []), .int .i64 0, .int .i64 0, .int .i64 0]] hx47 hb42 (Nat.le_refl _) hL43 h0 hle0 (SH.front 2 (SH.front 1 (SH.front 2 hS41)))) ?_
  rintro _ w48 ⟨rfl, hB52, hS51⟩
  refine ⟨_, rfl, ?_⟩
  have hb53 : Ext w w48 := Below.trans hb42 hB52
  have hL54 : w.heap.size ≤ w48.heap.size := Nat.le_trans hL43 hB52.size
  refine WL.sub [(2, .pointer (some ⟨b2, 0, none⟩)), (3, .pointer (some ⟨b13, 0, none⟩)), (4, .pointer (some ⟨b31, 0, none⟩)), (10, .bool x46.1)] ⟨rfl, rfl, rfl, rfl, trivial⟩ ?_
  refine WL.nil ?_
  refine WQ.then_normal (hK45 _ _ _ ?_)
  obtain ⟨x85, hx86, hm⟩ := bindE hm
  refine WP.cut (fun env' w' => env' = [(2, .pointer (some ⟨b2, 0, none⟩)), (4, .pointer (some ⟨b31, 0, none⟩))] ∧ Ext w w' ∧ w.heap.size ≤ w'.heap.size ∧ SH w' w.heap.size [aBox 87 b13 [.slice a0' code_0.length c0', .int .i64 x85.1, .int .u64 x85.2.1], aBox 31 b31 [.string (bs x85.2.2.1), .int .i64 x85.2.2.2.1, .int .i64 x85.2.2.2.2.1, .int .i64 x85.2.2.2.2.2], aBox 31 b2 [.string (bs []), .int .i64 0, .int .i64 0, .int .i64 0]]) ?_ ?_
  rotate_left
  · clear hx86
    rintro _ w96 ⟨rfl, hb97, hL98, hS99⟩
    refine WQ.then_normal (hK44 _ _ _ ?_)
    refine WP.seq (fun K100 hK100 => ?_)
    refine WP.region ?_
    refine WL.st (.agg #[.string (bs x85.2.2.1), .int .i64 x85.2.2.2.1, .int .i64 x85.2.2.2.2.1, .int .i64 x85.2.2.2.2.2]) (ST.loadAgg (vs := [.string (bs x85.2.2.1), .int .i64 x85.2.2.2.1, .int .i64 x85.2.2.2.2.1, .int .i64 x85.2.2.2.2.2]) (fun j v hv => SH.boxPart (us := [.string (bs x85.2.2.1), .int .i64 x85.2.2.2.1, .int .i64 x85.2.2.2.2.1, .int .i64 x85.2.2.2.2.2]) (SH.front 1 hS99) 0 rfl j v hv) rfl rfl rfl Tryz.underlying31 rfl (info31).1 (info31).2.1) rfl rfl rfl ?_
    refine WL.boxStore 0 [.string (bs x85.2.2.1), .int .i64 x85.2.2.2.1, .int .i64 x85.2.2.2.2.1, .int .i64 x85.2.2.2.2.2] [.string (bs x85.2.2.1), .int .i64 x85.2.2.2.1, .int .i64 x85.2.2.2.2.1, .int .i64 x85.2.2.2.2.2] (SH.front 2 hS99) hL98 rfl rfl rfl rfl rfl rfl rfl (info31).1 (info31).2.1 rfl rfl rfl ?_
    intro w101 hB102 hS103
    have hb104 : Ext w w101 := Below.trans hb97 hB102
    have hL105 : w.heap.size ≤ w101.heap.size := Nat.le_trans hL98 hB102.size
    refine WL.sub [(2, .pointer (some ⟨b2, 0, none⟩))] ⟨rfl, trivial⟩ ?_
    refine WL.nil ?_
    refine WQ.then_normal (hK100 _ _ _ ?_)
    refine WP.ret ?_
    obtain rfl := Option.some.inj hm
    exact WQ.retv1 _ rfl (RVal.box (SH.front 0 hS103) rfl Tryz.underlying31 rfl (info31).1 (info31).2.1) ⟨rfl, hb104⟩
  have hm := hx86; clear hx86
  refine WP.cond x46.1 rfl rfl (fun hc55 => ?_) (fun hc55 => ?_)
  rotate_left
  · have hm := iteF hm hc55
    refine WP.skip ?_
    obtain rfl := Option.some.inj hm
    exact WQ.post' ⟨rfl, hb53, hL54, hS51⟩ ⟨rfl, rfl, trivial⟩
  have hm := iteT hm hc55
  refine WP.region ?_
  refine WL.runk 1 [2, 4, 11] [(2, .pointer (some ⟨b2, 0, none⟩)), (4, .pointer (some ⟨b31, 0, none⟩)), (11, .pointer (some ⟨b13, 0, none⟩))] (by kernel_rfl) ?_
  obtain ⟨x87, hx88, hm⟩ := bindE hm
  refine WL.call 40 #[.pointer (some ⟨b13, 0, none⟩), .pointer (some ⟨b31, 0, none⟩)] rfl rfl (by kernel_rfl) (c_40 n code_0 a0' c0' x46.2.1 x46.2.2 b13 x22.1.Name x22.1.OnHand x22.1.Reserved x22.1.Least b31 w48 w w.heap.size [aBox 31 b2 [.string (bs []), .int .i64 0, .int .i64 0, .int .i64 0]] hx88 hb53 (Nat.le_refl _) hL54 h0 hle0 hS51) ?_
  rintro _ w89 ⟨rfl, hB93, hS92⟩
  refine ⟨_, rfl, ?_⟩
  have hb94 : Ext w w89 := Below.trans hb53 hB93
  have hL95 : w.heap.size ≤ w89.heap.size := Nat.le_trans hL54 hB93.size
  refine WL.sub [(2, .pointer (some ⟨b2, 0, none⟩)), (4, .pointer (some ⟨b31, 0, none⟩))] ⟨rfl, rfl, trivial⟩ ?_
  refine WL.nil ?_
  obtain rfl := Option.some.inj hm
  exact WQ.post' ⟨rfl, hb94, hL95, hS92⟩ ⟨rfl, rfl, trivial⟩

theorem c_48 (n : Nat) (n_0 : Int) (w : World) {r : List UInt8} (hm : m_impl_Decimal n n_0 = some r) (hG : GL 2 w) :
    CallV Tryz.prog 48 #[.int .i64 n_0] w (fun v w' => v = .string (bs r) ∧ Ext w w') := by
  unfold m_impl_Decimal at hm
  refine CallV.enter Tryz.func48 rfl (by kernel_rfl) Tryz.ntmps48 (env := [(0, .int .i64 n_0)]) ⟨rfl, trivial⟩ ?_
  refine WP.seq (fun K1 hK1 => ?_)
  refine WP.region ?_
  refine WL.runk 1 [0] [(0, .int .i64 n_0)] (by kernel_rfl) ?_
  refine WL.nil ?_
  refine WQ.then_normal (hK1 _ _ _ ?_)
  refine WP.seq (fun K2 hK2 => ?_)
  refine WP.region ?_
  refine WL.runk 1 [3] [(3, .int .i64 n_0)] (by kernel_rfl) ?_
  obtain ⟨x3, hx4, hm⟩ := bindE hm
  refine WL.call 72 #[.int .i64 n_0, .int .i64 10] rfl rfl (by kernel_rfl) (c_72 n n_0 10 w hx4 (GL.below hG (Ext.refl w))) ?_
  rintro _ w5 ⟨rfl, hE6⟩
  refine ⟨_, rfl, ?_⟩
  have hb8 : Ext w w5 := Ext.trans (Ext.refl w) hE6
  have hL9 : w.heap.size ≤ w5.heap.size := Nat.le_trans (Nat.le_refl _) hE6.size
  have hS10 : SH w5 w.heap.size [] := SH.ext (SH.nil _ _) hE6
  refine WL.runk 1 [2] [(2, .string (bs x3))] (by kernel_rfl) ?_
  refine WL.nil ?_
  refine WQ.then_normal (hK2 _ _ _ ?_)
  refine WP.ret ?_
  obtain rfl := Option.some.inj hm
  exact WQ.ret1 _ rfl rfl ⟨rfl, hb8⟩

theorem c_15 (n : Nat) (g_0 : SGood) (w : World) {r : List UInt8} (hm : m_impl_GoodText n g_0 = some r) (hG : GL 2 w) :
    CallV Tryz.prog 15 #[.agg #[.string (bs g_0.Name), .int .i64 g_0.OnHand, .int .i64 g_0.Reserved, .int .i64 g_0.Least]] w (fun v w' => v = .string (bs r) ∧ Ext w w') := by
  unfold m_impl_GoodText at hm
  refine CallV.enter Tryz.func15 rfl (by kernel_rfl) Tryz.ntmps15 (env := [(0, .agg #[.string (bs g_0.Name), .int .i64 g_0.OnHand, .int .i64 g_0.Reserved, .int .i64 g_0.Least])]) ⟨rfl, trivial⟩ ?_
  refine WP.seq (fun K1 hK1 => ?_)
  refine WP.region ?_
  refine WL.box 31 [.string (bs g_0.Name), .int .i64 g_0.OnHand, .int .i64 g_0.Reserved, .int .i64 g_0.Least] 1 (by kernel_rfl) rfl rfl rfl rfl ?_
  intro b2 w3 hE4 hR5
  have hb7 : Ext w w3 := Ext.trans (Ext.refl w) hE4
  have hL8 : w.heap.size ≤ w3.heap.size := Nat.le_trans (Nat.le_refl _) hE4.size
  have hS9 : SH w3 w.heap.size [aBox 31 b2 [.string (bs g_0.Name), .int .i64 g_0.OnHand, .int .i64 g_0.Reserved, .int .i64 g_0.Least]] := SH.add (SH.nil _ _) hE4 (Nat.le_refl _) hR5
  refine WL.runk 1 [1] [(1, .pointer (some ⟨b2, 0, none⟩))] (by kernel_rfl) ?_
  refine WL.nil ?_
  refine WQ.then_normal (hK1 _ _ _ ?_)
  refine WP.seq (fun K10 hK10 => ?_)
  refine WP.seq (fun K11 hK11 => ?_)
  refine WP.region ?_
  refine WL.st (.agg #[.string (bs g_0.Name), .int .i64 g_0.OnHand, .int .i64 g_0.Reserved, .int .i64 g_0.Least]) (ST.loadAgg (vs := [.string (bs g_0.Name), .int .i64 g_0.OnHand, .int .i64 g_0.Reserved, .int .i64 g_0.Least]) (fun j v hv => SH.boxPart (us := [.string (bs g_0.Name), .int .i64 g_0.OnHand, .int .i64 g_0.Reserved, .int .i64 g_0.Least]) (SH.front 0 hS9) 0 rfl j v hv) rfl rfl rfl Tryz.underlying31 rfl (info31).1 (info31).2.1) rfl rfl rfl ?_
  obtain ⟨x12, hx13, hm⟩ := bindE hm
  refine WL.call 41 #[.agg #[.string (bs g_0.Name), .int .i64 g_0.OnHand, .int .i64 g_0.Reserved, .int .i64 g_0.Least]] rfl rfl (by kernel_rfl) (c_41 n g_0 w3 hx13 ) ?_
  rintro _ w14 ⟨rfl, hE15⟩
  refine ⟨_, rfl, ?_⟩
  have hb17 : Ext w w14 := Ext.trans hb7 hE15
  have hL18 : w.heap.size ≤ w14.heap.size := Nat.le_trans hL8 hE15.size
  have hS19 : SH w14 w.heap.size [aBox 31 b2 [.string (bs g_0.Name), .int .i64 g_0.OnHand, .int .i64 g_0.Reserved, .int .i64 g_0.Least]] := SH.ext hS9 hE15
  refine WL.runk 1 [1, 5] [(1, .pointer (some ⟨b2, 0, none⟩)), (5, .bool (!x12))] (by kernel_rfl) ?_
  refine WL.nil ?_
  refine WQ.then_normal (hK11 _ _ _ ?_)
  refine WP.cond (!x12) rfl rfl (fun hc20 => ?_) (fun hc20 => ?_)
  · have hm := iteT hm hc20
    refine WP.seq (fun K21 hK21 => ?_)
    refine WP.region ?_
    refine WL.runk 1 [2] [(2, .string (bs []))] (by kernel_rfl) ?_
    refine WL.nil ?_
    refine WQ.then_normal (hK21 _ _ _ ?_)
    refine WP.ret ?_
    refine WQ.then_ret ?_
    obtain rfl := Option.some.inj hm
    exact WQ.ret1 _ rfl rfl ⟨rfl, hb17⟩
  have hm := iteF hm hc20
  refine WP.skip ?_
  refine WQ.then_normal (hK10 _ _ _ ?_)
  refine WP.seq (fun K22 hK22 => ?_)
  refine WP.quiet (by kernel_rfl) (by kernel_rfl) ?_
  refine QL.step1v 6 (.pointer (some ⟨b2, 0, none⟩)) rfl (fun _ => by kernel_rfl) ?_
  refine QL.subk [1, 6] [(1, .pointer (some ⟨b2, 0, none⟩)), (6, .pointer (some ⟨b2, 0, none⟩))] (by kernel_rfl) ?_
  refine QL.st (.string (bs g_0.Name)) (ST.load (cell_ext (SH.boxAt (SH.front 0 hS19) 0 _ rfl)) rfl rfl Tryz.underlying9 rfl) rfl rfl rfl ?_
  obtain ⟨x23, hx24, hm⟩ := bindE hm
  refine QL.st (.string (bs x23)) (ST.cat hx24 rfl rfl rfl) rfl rfl rfl ?_
  refine QL.step1v 9 (.pointer (some ⟨b2, 1, none⟩)) rfl (fun _ => by kernel_rfl) ?_
  refine QL.subk [1, 8, 9] [(1, .pointer (some ⟨b2, 0, none⟩)), (8, .string (bs x23)), (9, .pointer (some ⟨b2, 1, none⟩))] (by kernel_rfl) ?_
  refine QL.st (.int .i64 g_0.OnHand) (ST.load (cell_ext (SH.boxAt (SH.front 0 hS19) 1 _ rfl)) rfl rfl Tryz.underlying2 rfl) rfl rfl rfl ?_
  obtain ⟨x25, hx26, hm⟩ := bindE hm
  refine QL.call 48 #[.int .i64 g_0.OnHand] (.string (bs x25)) (fun _ => by kernel_rfl) (fun w27 hE28 => c_48 n g_0.OnHand w27 hx26 (GL.below (GL.below hG hb17) hE28)) rfl rfl rfl ?_
  obtain ⟨x29, hx30, hm⟩ := bindE hm
  refine QL.st (.string (bs x29)) (ST.cat hx30 rfl rfl rfl) rfl rfl rfl ?_
  obtain ⟨x31, hx32, hm⟩ := bindE hm
  refine QL.st (.string (bs x31)) (ST.cat hx32 rfl rfl rfl) rfl rfl rfl ?_
  refine QL.step1v 14 (.pointer (some ⟨b2, 2, none⟩)) rfl (fun _ => by kernel_rfl) ?_
  refine QL.subk [1, 13, 14] [(1, .pointer (some ⟨b2, 0, none⟩)), (13, .string (bs x31)), (14, .pointer (some ⟨b2, 2, none⟩))] (by kernel_rfl) ?_
  refine QL.st (.int .i64 g_0.Reserved) (ST.load (cell_ext (SH.boxAt (SH.front 0 hS19) 2 _ rfl)) rfl rfl Tryz.underlying2 rfl) rfl rfl rfl ?_
  obtain ⟨x33, hx34, hm⟩ := bindE hm
  refine QL.call 48 #[.int .i64 g_0.Reserved] (.string (bs x33)) (fun _ => by kernel_rfl) (fun w35 hE36 => c_48 n g_0.Reserved w35 hx34 (GL.below (GL.below hG hb17) hE36)) rfl rfl rfl ?_
  obtain ⟨x37, hx38, hm⟩ := bindE hm
  refine QL.st (.string (bs x37)) (ST.cat hx38 rfl rfl rfl) rfl rfl rfl ?_
  obtain ⟨x39, hx40, hm⟩ := bindE hm
  refine QL.st (.string (bs x39)) (ST.cat hx40 rfl rfl rfl) rfl rfl rfl ?_
  refine QL.step1v 19 (.pointer (some ⟨b2, 3, none⟩)) rfl (fun _ => by kernel_rfl) ?_
  refine QL.subk [18, 19] [(18, .string (bs x39)), (19, .pointer (some ⟨b2, 3, none⟩))] (by kernel_rfl) ?_
  refine QL.st (.int .i64 g_0.Least) (ST.load (cell_ext (SH.boxAt (SH.front 0 hS19) 3 _ rfl)) rfl rfl Tryz.underlying2 rfl) rfl rfl rfl ?_
  obtain ⟨x41, hx42, hm⟩ := bindE hm
  refine QL.call 48 #[.int .i64 g_0.Least] (.string (bs x41)) (fun _ => by kernel_rfl) (fun w43 hE44 => c_48 n g_0.Least w43 hx42 (GL.below (GL.below hG hb17) hE44)) rfl rfl rfl ?_
  obtain ⟨x45, hx46, hm⟩ := bindE hm
  refine QL.st (.string (bs x45)) (ST.cat hx46 rfl rfl rfl) rfl rfl rfl ?_
  refine QL.step1v 2 (.string (bs x45)) rfl (fun _ => by kernel_rfl) ?_
  refine QL.subk [2] [(2, .string (bs x45))] (by kernel_rfl) ?_
  refine QL.nil ?_
  intro w47 hE48
  have hb49 : Ext w w47 := Ext.trans hb17 hE48
  have hL50 : w.heap.size ≤ w47.heap.size := Nat.le_trans hL18 hE48.size
  have hS51 : SH w47 w.heap.size [aBox 31 b2 [.string (bs g_0.Name), .int .i64 g_0.OnHand, .int .i64 g_0.Reserved, .int .i64 g_0.Least]] := SH.ext hS19 hE48
  refine WQ.then_normal (hK22 _ _ _ ?_)
  refine WP.ret ?_
  obtain rfl := Option.some.inj hm
  exact WQ.ret1 _ rfl rfl ⟨rfl, hb49⟩

theorem c_51 (n : Nat) (s_0 : List UInt8) (w : World) {r : Int × Bool} (hm : m_impl_ReadDecimal n s_0 = some r) (hG : GL 4 w) :
    CallV Tryz.prog 51 #[.string (bs s_0)] w (fun v w' => v = .tuple #[.int .i64 r.1, .bool r.2] ∧ Ext w w') := by
  unfold m_impl_ReadDecimal at hm
  refine CallV.enter Tryz.func51 rfl (by kernel_rfl) Tryz.ntmps51 (env := [(0, .string (bs s_0))]) ⟨rfl, trivial⟩ ?_
  refine WP.seq (fun K1 hK1 => ?_)
  refine WP.region ?_
  refine WL.runk 2 [0] [(0, .string (bs s_0))] (by kernel_rfl) ?_
  refine WL.nil ?_
  refine WQ.then_normal (hK1 _ _ _ ?_)
  refine WP.seq (fun K2 hK2 => ?_)
  refine WP.seq (fun K3 hK3 => ?_)
  obtain ⟨x13, hx14, hm⟩ := bindE hm
  refine WP.cut (fun env' w' => env' = [(0, .string (bs s_0)), (14, .bool x13)] ∧ Ext w w' ∧ w.heap.size ≤ w'.heap.size ∧ SH w' w.heap.size []) ?_ ?_
  · have hm := hx14; clear hx14
    refine WP.region ?_
    refine WL.runk 4 [0, 9] [(0, .string (bs s_0)), (9, .bool (decide ((s_0.length : Int) > 19)))] (by kernel_rfl) ?_
    refine WL.case (decide ((s_0.length : Int) > 19)) [9] ⟨rfl, trivial⟩ (fun hc15 => ?_) (fun hc15 => ?_)
    · have hm := iteT hm hc15
      refine WL.runk 5 [0, 14] [(0, .string (bs s_0)), (14, .bool true)] (by kernel_rfl) ?_
      refine WL.nil ?_
      obtain rfl := Option.some.inj hm
      exact WQ.post' ⟨rfl, (Ext.refl w), (Nat.le_refl _), (SH.nil _ _)⟩ ⟨rfl, rfl, trivial⟩
    have hm := iteF hm hc15
    refine WL.runk 1 [0, 9, 10] [(0, .string (bs s_0)), (9, .bool false), (10, .string (bs s_0))] (by kernel_rfl) ?_
    obtain ⟨x16, hx17, hm⟩ := bindE hm
    refine WL.call 75 #[.string (bs s_0), .string (bs [45])] rfl rfl (by kernel_rfl) (c_75 n s_0 [45] w hx17 ) ?_
    rintro _ w18 ⟨rfl, hE19⟩
    refine ⟨_, rfl, ?_⟩
    have hb21 : Ext w w18 := Ext.trans (Ext.refl w) hE19
    have hL22 : w.heap.size ≤ w18.heap.size := Nat.le_trans (Nat.le_refl _) hE19.size
    have hS23 : SH w18 w.heap.size [] := SH.ext (SH.nil _ _) hE19
    refine WL.runk 3 [0, 14] [(0, .string (bs s_0)), (14, .bool (decide ((x16.length : Int) > 18)))] (by kernel_rfl) ?_
    refine WL.nil ?_
    obtain rfl := Option.some.inj hm
    exact WQ.post' ⟨rfl, hb21, hL22, hS23⟩ ⟨rfl, rfl, trivial⟩
  clear hx14
  rintro _ w24 ⟨rfl, hb25, hL26, hS27⟩
  refine WQ.then_normal (hK3 _ _ _ ?_)
  refine WP.cond x13 rfl rfl (fun hc28 => ?_) (fun hc28 => ?_)
  · have hm := iteT hm hc28
    refine WP.seq (fun K29 hK29 => ?_)
    refine WP.region ?_
    refine WL.runk 2 [2, 3] [(2, .int .i64 0), (3, .bool false)] (by kernel_rfl) ?_
    refine WL.nil ?_
    refine WQ.then_normal (hK29 _ _ _ ?_)
    refine WP.ret ?_
    refine WQ.then_ret ?_
    obtain rfl := Option.some.inj hm
    exact WQ.ret2 _ _ rfl rfl rfl ⟨rfl, hb25⟩
  have hm := iteF hm hc28
  refine WP.skip ?_
  refine WQ.then_normal (hK2 _ _ _ ?_)
  refine WP.seq (fun K30 hK30 => ?_)
  refine WP.region ?_
  refine WL.runk 1 [0, 16] [(0, .string (bs s_0)), (16, .string (bs s_0))] (by kernel_rfl) ?_
  obtain ⟨x31, hx32, hm⟩ := bindE hm
  refine WL.call 76 #[.string (bs s_0), .int .i64 10, .int .i64 64] rfl rfl (by kernel_rfl) (c_76 n s_0 10 64 w24 hx32 (GL.below hG hb25)) ?_
  rintro _ w35 ⟨ev33, rfl, hev34, hE36⟩
  refine ⟨_, rfl, ?_⟩
  have hb38 : Ext w w35 := Ext.trans hb25 hE36
  have hL39 : w.heap.size ≤ w35.heap.size := Nat.le_trans hL26 hE36.size
  have hS40 : SH w35 w.heap.size [] := SH.ext hS27 hE36
  refine WL.runk 5 [0, 4, 5] [(0, .string (bs s_0)), (4, .int .i64 x31.1), (5, ev33)] (by kernel_rfl) ?_
  refine WL.nil ?_
  refine WQ.then_normal (hK30 _ _ _ ?_)
  refine WP.seq (fun K41 hK41 => ?_)
  refine WP.seq (fun K42 hK42 => ?_)
  obtain ⟨x52, hx53, hm⟩ := bindE hm
  refine WP.cut (fun env' w' => env' = [(4, .int .i64 x31.1), (27, .bool x52)] ∧ Ext w w' ∧ w.heap.size ≤ w'.heap.size ∧ SH w' w.heap.size []) ?_ ?_
  rotate_left
  · clear hx53
    rintro _ w63 ⟨rfl, hb64, hL65, hS66⟩
    refine WQ.then_normal (hK42 _ _ _ ?_)
    refine WP.cond x52 rfl rfl (fun hc67 => ?_) (fun hc67 => ?_)
    · have hm := iteT hm hc67
      refine WP.seq (fun K68 hK68 => ?_)
      refine WP.region ?_
      refine WL.runk 2 [2, 3] [(2, .int .i64 0), (3, .bool false)] (by kernel_rfl) ?_
      refine WL.nil ?_
      refine WQ.then_normal (hK68 _ _ _ ?_)
      refine WP.ret ?_
      refine WQ.then_ret ?_
      obtain rfl := Option.some.inj hm
      exact WQ.ret2 _ _ rfl rfl rfl ⟨rfl, hb64⟩
    have hm := iteF hm hc67
    refine WP.skip ?_
    refine WQ.then_normal (hK41 _ _ _ ?_)
    refine WP.seq (fun K69 hK69 => ?_)
    refine WP.region ?_
    refine WL.runk 3 [2, 3] [(2, .int .i64 x31.1), (3, .bool true)] (by kernel_rfl) ?_
    refine WL.nil ?_
    refine WQ.then_normal (hK69 _ _ _ ?_)
    refine WP.ret ?_
    obtain rfl := Option.some.inj hm
    exact WQ.ret2 _ _ rfl rfl rfl ⟨rfl, hb64⟩
  have hm := hx53; clear hx53
  refine WP.region ?_
  refine WL.runk 1 [0, 4, 20] [(0, .string (bs s_0)), (4, .int .i64 x31.1), (20, ev33)] (by kernel_rfl) ?_
  refine WL.st (.bool x31.2) (ST.errne (b := x31.2) hev34 (by kernel_rfl) rfl rfl) rfl rfl rfl ?_
  refine WL.runk 1 [0, 4, 22] [(0, .string (bs s_0)), (4, .int .i64 x31.1), (22, .bool x31.2)] (by kernel_rfl) ?_
  refine WL.case x31.2 [22] ⟨rfl, trivial⟩ (fun hc54 => ?_) (fun hc54 => ?_)
  · have hm := iteT hm hc54
    refine WL.runk 5 [4, 27] [(4, .int .i64 x31.1), (27, .bool true)] (by kernel_rfl) ?_
    refine WL.nil ?_
    obtain rfl := Option.some.inj hm
    exact WQ.post' ⟨rfl, hb38, hL39, hS40⟩ ⟨rfl, rfl, trivial⟩
  have hm := iteF hm hc54
  refine WL.runk 1 [0, 4, 22, 23] [(0, .string (bs s_0)), (4, .int .i64 x31.1), (22, .bool false), (23, .int .i64 x31.1)] (by kernel_rfl) ?_
  obtain ⟨x55, hx56, hm⟩ := bindE hm
  refine WL.call 48 #[.int .i64 x31.1] rfl rfl (by kernel_rfl) (c_48 n x31.1 w35 hx56 (GL.below (GL.low (j := 2) hG rfl) hb38)) ?_
  rintro _ w57 ⟨rfl, hE58⟩
  refine ⟨_, rfl, ?_⟩
  have hb60 : Ext w w57 := Ext.trans hb38 hE58
  have hL61 : w.heap.size ≤ w57.heap.size := Nat.le_trans hL39 hE58.size
  have hS62 : SH w57 w.heap.size [] := SH.ext hS40 hE58
  refine WL.runk 1 [4, 22, 24, 25] [(4, .int .i64 x31.1), (22, .bool false), (24, .string (bs x55)), (25, .string (bs s_0))] (by kernel_rfl) ?_
  refine WL.st (.bool (!(x55 == s_0))) (ST.strne (x := x55) (y := s_0) rfl rfl rfl) rfl rfl rfl ?_
  refine WL.runk 1 [4, 27] [(4, .int .i64 x31.1), (27, .bool (!(x55 == s_0)))] (by kernel_rfl) ?_
  refine WL.nil ?_
  obtain rfl := Option.some.inj hm
  exact WQ.post' ⟨rfl, hb60, hL61, hS62⟩ ⟨rfl, rfl, trivial⟩

theorem c_50 (n : Nat) (s_0 : List UInt8) (separator_1 : List UInt8) (count_2 : Int) (w : World) {r : List Int × Bool} (hm : m_impl_readNumbers n s_0 separator_1 count_2 = some r) (hG : GL 4 w) :
    CallV Tryz.prog 50 #[.string (bs s_0), .string (bs separator_1), .int .i64 count_2] w (fun v w' => ∃ (ra0 : Option Addr) (rc0 : Nat), v = .tuple #[.slice ra0 r.1.length rc0, .bool r.2] ∧ Ext w w' ∧ SH w' w.heap.size [aOwn fInt 2 ra0 rc0 r.1]) := by
  unfold m_impl_readNumbers at hm
  refine CallV.enter Tryz.func50 rfl (by kernel_rfl) Tryz.ntmps50 (env := [(0, .string (bs s_0)), (1, .string (bs separator_1)), (2, .int .i64 count_2)]) ⟨rfl, rfl, rfl, trivial⟩ ?_
  refine WP.seq (fun K1 hK1 => ?_)
  refine WP.region ?_
  refine WL.runk 2 [0, 1, 2] [(0, .string (bs s_0)), (1, .string (bs separator_1)), (2, .int .i64 count_2)] (by kernel_rfl) ?_
  refine WL.nil ?_
  refine WQ.then_normal (hK1 _ _ _ ?_)
  refine WP.seq (fun K2 hK2 => ?_)
  refine WP.region ?_
  refine WL.runk 4 [2, 14, 15, 17] [(2, .int .i64 count_2), (14, .string (bs s_0)), (15, .string (bs separator_1)), (17, .int .i64 (wI64 (count_2 + 1)))] (by kernel_rfl) ?_
  obtain ⟨x3, hx4, hm⟩ := bindE hm
  refine WL.call 74 #[.string (bs s_0), .string (bs separator_1), .int .i64 (wI64 (count_2 + 1))] rfl rfl (by kernel_rfl) (c_74 n s_0 separator_1 (wI64 (count_2 + 1)) w hx4 (GL.below (GL.low (j := 1) hG rfl) (Ext.refl w))) ?_
  rintro _ w8 ⟨a5, c6, rfl, hE9, hR10⟩
  refine ⟨_, rfl, ?_⟩
  have hb11 : Ext w w8 := Ext.trans (Ext.refl w) hE9
  have hL12 : w.heap.size ≤ w8.heap.size := Nat.le_trans (Nat.le_refl _) hE9.size
  have hS13 : SH w8 w.heap.size [aOwn fStr 9 a5 c6 x3] := SH.add (SH.nil _ _) hE9 (Nat.le_refl _) hR10
  refine WL.runk 1 [2, 8] [(2, .int .i64 count_2), (8, .slice a5 x3.length c6)] (by kernel_rfl) ?_
  refine WL.nil ?_
  refine WQ.then_normal (hK2 _ _ _ ?_)
  refine WP.seq (fun K14 hK14 => ?_)
  refine WP.seq (fun K15 hK15 => ?_)
  refine WP.region ?_
  refine WL.runk 4 [8, 22] [(8, .slice a5 x3.length c6), (22, .bool ((x3.length : Int) != count_2))] (by kernel_rfl) ?_
  refine WL.nil ?_
  refine WQ.then_normal (hK15 _ _ _ ?_)
  refine WP.cond ((x3.length : Int) != count_2) rfl rfl (fun hc16 => ?_) (fun hc16 => ?_)
  · have hm := iteT hm hc16
    refine WP.seq (fun K17 hK17 => ?_)
    refine WP.region ?_
    refine WL.runk 2 [6, 7] [(6, .slice none 0 0), (7, .bool false)] (by kernel_rfl) ?_
    refine WL.nil ?_
    refine WQ.then_normal (hK17 _ _ _ ?_)
    refine WP.ret ?_
    refine WQ.then_ret ?_
    obtain rfl := Option.some.inj hm
    have hS19 : SH w8 w.heap.size [aOwn fInt 2 none 0 ([] : List Int), aOwn fStr 9 a5 c6 x3] := SH.nilOwn hS13
    exact WQ.ret2 _ _ rfl rfl rfl ⟨_, _, rfl, hb11, (SH.take 1 hS19)⟩
  have hm := iteF hm hc16
  refine WP.skip ?_
  refine WQ.then_normal (hK14 _ _ _ ?_)
  refine WP.seq (fun K20 hK20 => ?_)
  refine WP.region ?_
  refine WL.row fInt 2 ([] : List Int) 0 #[] 23 (by kernel_rfl) rfl rfl rfl rfl rfl rfl rfl ?_
  intro a21 c22 w23 hE24 hR25
  have hb27 : Ext w w23 := Ext.trans hb11 hE24
  have hL28 : w.heap.size ≤ w23.heap.size := Nat.le_trans hL12 hE24.size
  have hS29 : SH w23 w.heap.size [aOwn fInt 2 a21 c22 ([] : List Int), aOwn fStr 9 a5 c6 x3] := SH.add hS13 hE24 hL12 hR25
  refine WL.runk 1 [8, 9] [(8, .slice a5 x3.length c6), (9, .slice a21 (([] : List Int).length) c22)] (by kernel_rfl) ?_
  refine WL.nil ?_
  refine WQ.then_normal (hK20 _ _ _ ?_)
  refine WP.seq (fun K30 hK30 => ?_)
  refine WP.seq (fun K31 hK31 => ?_)
  refine WP.region ?_
  refine WL.runk 3 [9, 24, 25, 26] [(9, .slice a21 (([] : List Int).length) c22), (24, .slice a5 x3.length c6), (25, .int .i64 (x3.length : Int)), (26, .int .i64 0)] (by kernel_rfl) ?_
  refine WL.nil ?_
  refine WQ.then_normal (hK31 _ _ _ ?_)
  refine WP.block ?_
  obtain ⟨t46, ht47, hm⟩ := bindE hm
  have hmo41 := hm; clear hm
  refine WP.sub [(9, .slice a21 (([] : List Int).length) c22), (24, .slice a5 x3.length c6), (25, .int .i64 (x3.length : Int)), (26, .int .i64 0)] ⟨rfl, rfl, rfl, rfl, trivial⟩ ?_
  refine WP.loop (fun n' env' w' => ∃ (st32 : List Int × Int) (a33 : Option Addr) (c34 : Nat), env' = [(9, .slice a33 st32.1.length c34), (24, .slice a5 x3.length c6), (25, .int .i64 (x3.length : Int)), (26, .int .i64 st32.2)] ∧ Ext w w' ∧ w.heap.size ≤ w'.heap.size ∧ SH w' w.heap.size [aOwn fInt 2 a33 c34 st32.1, aOwn fStr 9 a5 c6 x3] ∧ loopN (m_impl_readNumbers_l1 n x3) n' st32 = some t46) n ⟨(([] : List Int), 0), _, _, rfl, hb27, hL28, hS29, ht47⟩ ?_
  rintro n43 _ w36 ⟨st32, a33, c34, rfl, hb37, hL38, hS39, hl40⟩ K42 hK42
  obtain ⟨n44, s45, rfl, hm, hl40⟩ := loopN_some hl40
  unfold m_impl_readNumbers_l1 at hm
  refine WP.seq (fun K48 hK48 => ?_)
  refine WP.region ?_
  refine WL.runk 1 [9, 24, 25, 26, 27] [(9, .slice a33 st32.1.length c34), (24, .slice a5 x3.length c6), (25, .int .i64 (x3.length : Int)), (26, .int .i64 st32.2), (27, .bool (decide (st32.2 < (x3.length : Int))))] (by kernel_rfl) ?_
  refine WL.nil ?_
  refine WQ.then_normal (hK48 _ _ _ ?_)
  refine WP.seq (fun K49 hK49 => ?_)
  refine WP.cond (decide (st32.2 < (x3.length : Int))) rfl rfl (fun hc50 => ?_) (fun hc50 => ?_)
  rotate_left
  · have hm := iteF hm hc50
    refine WP.exit ?_
    refine WQ.then_exit ?_
    refine WQ.then_exit ?_
    refine WQ.block_here ?_
    obtain rfl := Option.some.inj hm
    obtain rfl := afterN_done hl40
    have hm := hmo41
    refine WQ.then_normal (hK30 _ _ _ ?_)
    refine WP.seq (fun K88 hK88 => ?_)
    refine WP.region ?_
    refine WL.runk 3 [6, 7] [(6, .slice a33 st32.1.length c34), (7, .bool true)] (by kernel_rfl) ?_
    refine WL.nil ?_
    refine WQ.then_normal (hK88 _ _ _ ?_)
    refine WP.ret ?_
    obtain rfl := Option.some.inj hm
    exact WQ.ret2 _ _ rfl rfl rfl ⟨_, _, rfl, hb37, (SH.take 1 hS39)⟩
  have hm := iteT hm hc50
  refine WP.skip ?_
  refine WQ.then_normal (hK49 _ _ _ ?_)
  refine WP.seq (fun K51 hK51 => ?_)
  refine WP.block ?_
  refine WP.seq (fun K52 hK52 => ?_)
  refine WP.region ?_
  obtain ⟨x53, hx54, hm⟩ := bindE hm
  refine WL.st (.pointer (some (at_ a5 (Int.toNat st32.2 * 1)))) (ST.index (T := fStr.ty) (xs := x3) (SH.rd (SH.front 1 hS39)) hx54 rfl rfl rfl Tryz.underlying63 (info9).1 (info9).2.1) rfl rfl rfl ?_
  refine WL.st (.string (bs x53)) (ST.load (cell_ext (Rd.flat (F := fStr) (SH.rd (SH.front 1 hS39)) hx54 0 rfl)) rfl rfl Tryz.underlying9 rfl) rfl rfl rfl ?_
  refine WL.runk 1 [9, 11, 24, 25, 26] [(9, .slice a33 st32.1.length c34), (24, .slice a5 x3.length c6), (25, .int .i64 (x3.length : Int)), (26, .int .i64 st32.2), (11, .string (bs x53))] (by kernel_rfl) ?_
  refine WL.nil ?_
  refine WQ.then_normal (hK52 _ _ _ ?_)
  refine WP.seq (fun K55 hK55 => ?_)
  refine WP.region ?_
  refine WL.runk 1 [9, 24, 25, 26, 31] [(9, .slice a33 st32.1.length c34), (24, .slice a5 x3.length c6), (25, .int .i64 (x3.length : Int)), (26, .int .i64 st32.2), (31, .string (bs x53))] (by kernel_rfl) ?_
  obtain ⟨x56, hx57, hm⟩ := bindE hm
  refine WL.call 51 #[.string (bs x53)] rfl rfl (by kernel_rfl) (c_51 n x53 w36 hx57 (GL.below hG hb37)) ?_
  rintro _ w58 ⟨rfl, hE59⟩
  refine ⟨_, rfl, ?_⟩
  have hb61 : Ext w w58 := Ext.trans hb37 hE59
  have hL62 : w.heap.size ≤ w58.heap.size := Nat.le_trans hL38 hE59.size
  have hS63 : SH w58 w.heap.size [aOwn fInt 2 a33 c34 st32.1, aOwn fStr 9 a5 c6 x3] := SH.ext hS39 hE59
  refine WL.runk 5 [9, 12, 13, 24, 25, 26] [(9, .slice a33 st32.1.length c34), (24, .slice a5 x3.length c6), (25, .int .i64 (x3.length : Int)), (26, .int .i64 st32.2), (12, .int .i64 x56.1), (13, .bool x56.2)] (by kernel_rfl) ?_
  refine WL.nil ?_
  refine WQ.then_normal (hK55 _ _ _ ?_)
  refine WP.seq (fun K64 hK64 => ?_)
  refine WP.seq (fun K65 hK65 => ?_)
  refine WP.region ?_
  refine WL.runk 2 [9, 12, 24, 25, 26, 36] [(9, .slice a33 st32.1.length c34), (24, .slice a5 x3.length c6), (25, .int .i64 (x3.length : Int)), (26, .int .i64 st32.2), (12, .int .i64 x56.1), (36, .bool (!x56.2))] (by kernel_rfl) ?_
  refine WL.nil ?_
  refine WQ.then_normal (hK65 _ _ _ ?_)
  refine WP.cond (!x56.2) rfl rfl (fun hc66 => ?_) (fun hc66 => ?_)
  · have hm := iteT hm hc66
    refine WP.seq (fun K67 hK67 => ?_)
    refine WP.region ?_
    refine WL.runk 2 [6, 7] [(6, .slice none 0 0), (7, .bool false)] (by kernel_rfl) ?_
    refine WL.nil ?_
    refine WQ.then_normal (hK67 _ _ _ ?_)
    refine WP.ret ?_
    refine WQ.then_ret ?_
    refine WQ.block_ret ?_
    refine WQ.then_ret ?_
    refine WQ.then_ret ?_
    refine WQ.block_ret ?_
    refine WQ.then_ret ?_
    obtain rfl := Option.some.inj hm
    obtain rfl := afterN_done hl40
    have hm := hmo41
    obtain rfl := Option.some.inj hm
    have hS69 : SH w58 w.heap.size [aOwn fInt 2 none 0 ([] : List Int), aOwn fInt 2 a33 c34 st32.1, aOwn fStr 9 a5 c6 x3] := SH.nilOwn hS63
    exact WQ.ret2 _ _ rfl rfl rfl ⟨_, _, rfl, hb61, (SH.take 1 hS69)⟩
  have hm := iteF hm hc66
  refine WP.skip ?_
  refine WQ.then_normal (hK64 _ _ _ ?_)
  refine WP.region ?_
  refine WL.runk 2 [24, 25, 26, 37, 38] [(24, .slice a5 x3.length c6), (25, .int .i64 (x3.length : Int)), (26, .int .i64 st32.2), (37, .slice a33 st32.1.length c34), (38, .int .i64 x56.1)] (by kernel_rfl) ?_
  refine WL.row fInt 2 ([x56.1] : List Int) 1 #[.int .i64 x56.1] 39 (by kernel_rfl) rfl rfl rfl rfl rfl rfl rfl ?_
  intro a70 c71 w72 hE73 hR74
  have hb76 : Ext w w72 := Ext.trans hb61 hE73
  have hL77 : w.heap.size ≤ w72.heap.size := Nat.le_trans hL62 hE73.size
  have hS78 : SH w72 w.heap.size [aOwn fInt 2 a70 c71 ([x56.1] : List Int), aOwn fInt 2 a33 c34 st32.1, aOwn fStr 9 a5 c6 x3] := SH.add hS63 hE73 hL62 hR74
  obtain ⟨x79, hx80, hm⟩ := bindE hm
  refine WL.append (F := fInt) (xs := st32.1) (ys := ([x56.1] : List Int)) 40 (SH.front 1 hS78) hL77 (SH.rd (SH.front 0 hS78)) hx80 rfl rfl rfl Tryz.underlying77 (info2).1 (info2).2.2.1 (info2).2.1 (info2).2.2.2 rfl rfl rfl rfl rfl ?_
  intro a81 c82 w83 hB84 hS85
  have hb86 : Ext w w83 := Below.trans hb76 hB84
  have hL87 : w.heap.size ≤ w83.heap.size := Nat.le_trans hL77 hB84.size
  refine WL.runk 1 [9, 24, 25, 26] [(24, .slice a5 x3.length c6), (25, .int .i64 (x3.length : Int)), (26, .int .i64 st32.2), (9, .slice a81 x79.length c82)] (by kernel_rfl) ?_
  refine WL.nil ?_
  refine WQ.block_normal ?_
  refine WQ.then_normal (hK51 _ _ _ ?_)
  refine WP.region ?_
  refine WL.runk 2 [9, 24, 25, 26] [(24, .slice a5 x3.length c6), (25, .int .i64 (x3.length : Int)), (26, .int .i64 (wI64 (st32.2 + 1))), (9, .slice a81 x79.length c82)] (by kernel_rfl) ?_
  refine WL.nil ?_
  obtain rfl := Option.some.inj hm
  exact WQ.round hK42 ⟨(x79, (wI64 (st32.2 + 1))), _, _, rfl, hb86, hL87, (SH.take 2 (SH.front 1 (SH.front 2 hS85))), hl40⟩ (Nat.lt_succ_self _) ⟨rfl, rfl, rfl, rfl, trivial⟩

theorem c_16 (n : Nat) (s_0 : List UInt8) (w : World) {r : SGood × Bool} (hm : m_impl_ReadGood n s_0 = some r) (hG : GL 4 w) :
    CallV Tryz.prog 16 #[.string (bs s_0)] w (fun v w' => v = .tuple #[.agg #[.string (bs r.1.Name), .int .i64 r.1.OnHand, .int .i64 r.1.Reserved, .int .i64 r.1.Least], .bool r.2] ∧ Ext w w') := by
  unfold m_impl_ReadGood at hm
  refine CallV.enter Tryz.func16 rfl (by kernel_rfl) Tryz.ntmps16 (env := [(0, .string (bs s_0))]) ⟨rfl, trivial⟩ ?_
  refine WP.seq (fun K1 hK1 => ?_)
  refine WP.region ?_
  refine WL.box 31 [.string (bs []), .int .i64 0, .int .i64 0, .int .i64 0] 2 (by kernel_rfl) rfl rfl rfl rfl ?_
  intro b2 w3 hE4 hR5
  have hb7 : Ext w w3 := Ext.trans (Ext.refl w) hE4
  have hL8 : w.heap.size ≤ w3.heap.size := Nat.le_trans (Nat.le_refl _) hE4.size
  have hS9 : SH w3 w.heap.size [aBox 31 b2 [.string (bs []), .int .i64 0, .int .i64 0, .int .i64 0]] := SH.add (SH.nil _ _) hE4 (Nat.le_refl _) hR5
  refine WL.runk 1 [0, 2] [(0, .string (bs s_0)), (2, .pointer (some ⟨b2, 0, none⟩))] (by kernel_rfl) ?_
  refine WL.nil ?_
  refine WQ.then_normal (hK1 _ _ _ ?_)
  refine WP.seq (fun K10 hK10 => ?_)
  refine WP.region ?_
  refine WL.runk 1 [0, 2, 10] [(0, .string (bs s_0)), (2, .pointer (some ⟨b2, 0, none⟩)), (10, .string (bs s_0))] (by kernel_rfl) ?_
  obtain ⟨x11, hx12, hm⟩ := bindE hm
  refine WL.call 49 #[.string (bs s_0), .string (bs [32])] rfl rfl (by kernel_rfl) (c_49 n s_0 [32] w3 hx12 (GL.below (GL.low (j := 1) hG rfl) hb7)) ?_
  rintro _ w16 ⟨a13, c14, rfl, hE17, hR18⟩
  refine ⟨_, rfl, ?_⟩
  have hb19 : Ext w w16 := Ext.trans hb7 hE17
  have hL20 : w.heap.size ≤ w16.heap.size := Nat.le_trans hL8 hE17.size
  have hS21 : SH w16 w.heap.size [aOwn fStr 9 a13 c14 x11, aBox 31 b2 [.string (bs []), .int .i64 0, .int .i64 0, .int .i64 0]] := SH.add hS9 hE17 hL8 hR18
  refine WL.runk 1 [0, 2, 4] [(0, .string (bs s_0)), (2, .pointer (some ⟨b2, 0, none⟩)), (4, .slice a13 x11.length c14)] (by kernel_rfl) ?_
  refine WL.nil ?_
  refine WQ.then_normal (hK10 _ _ _ ?_)
  refine WP.seq (fun K22 hK22 => ?_)
  refine WP.seq (fun K23 hK23 => ?_)
  refine WP.region ?_
  refine WL.runk 3 [0, 2, 4, 14] [(0, .string (bs s_0)), (2, .pointer (some ⟨b2, 0, none⟩)), (4, .slice a13 x11.length c14), (14, .bool ((x11.length : Int) != 4))] (by kernel_rfl) ?_
  refine WL.nil ?_
  refine WQ.then_normal (hK23 _ _ _ ?_)
  refine WP.cond ((x11.length : Int) != 4) rfl rfl (fun hc24 => ?_) (fun hc24 => ?_)
  · have hm := iteT hm hc24
    refine WP.seq (fun K25 hK25 => ?_)
    refine WP.region ?_
    refine WL.runk 1 [2, 15] [(2, .pointer (some ⟨b2, 0, none⟩)), (15, .agg #[.string (bs []), .int .i64 0, .int .i64 0, .int .i64 0])] (by kernel_rfl) ?_
    refine WL.boxStore 0 [.string (bs []), .int .i64 0, .int .i64 0, .int .i64 0] [.string (bs []), .int .i64 0, .int .i64 0, .int .i64 0] (SH.front 1 hS21) hL20 rfl rfl rfl rfl rfl rfl rfl (info31).1 (info31).2.1 rfl rfl rfl ?_
    intro w26 hB27 hS28
    have hb29 : Ext w w26 := Below.trans hb19 hB27
    have hL30 : w.heap.size ≤ w26.heap.size := Nat.le_trans hL20 hB27.size
    refine WL.runk 1 [2, 3] [(2, .pointer (some ⟨b2, 0, none⟩)), (3, .bool false)] (by kernel_rfl) ?_
    refine WL.nil ?_
    refine WQ.then_normal (hK25 _ _ _ ?_)
    refine WP.ret ?_
    refine WQ.then_ret ?_
    obtain rfl := Option.some.inj hm
    exact WQ.retv2 _ _ rfl (RVal.box (SH.front 0 hS28) rfl Tryz.underlying31 rfl (info31).1 (info31).2.1) (RVal.tmp rfl) ⟨rfl, hb29⟩
  have hm := iteF hm hc24
  refine WP.skip ?_
  refine WQ.then_normal (hK22 _ _ _ ?_)
  refine WP.seq (fun K31 hK31 => ?_)
  refine WP.region ?_
  refine WL.runk 1 [0, 2, 4, 17] [(0, .string (bs s_0)), (2, .pointer (some ⟨b2, 0, none⟩)), (4, .slice a13 x11.length c14), (17, .slice a13 x11.length c14)] (by kernel_rfl) ?_
  obtain ⟨x32, hx33, hm⟩ := bindE hm
  refine WL.st (.pointer (some (at_ a13 (Int.toNat 1 * 1)))) (ST.index (T := fStr.ty) (xs := x11) (SH.rd (SH.front 0 hS21)) hx33 rfl rfl rfl Tryz.underlying63 (info9).1 (info9).2.1) rfl rfl rfl ?_
  refine WL.st (.string (bs x32)) (ST.load (cell_ext (Rd.flat (F := fStr) (SH.rd (SH.front 0 hS21)) hx33 0 rfl)) rfl rfl Tryz.underlying9 rfl) rfl rfl rfl ?_
  obtain ⟨x34, hx35, hm⟩ := bindE hm
  refine WL.call 50 #[.string (bs x32), .string (bs [45]), .int .i64 2] rfl rfl (by kernel_rfl) (c_50 n x32 [45] 2 w16 hx35 (GL.below hG hb19)) ?_
  rintro _ w39 ⟨a36, c37, rfl, hE40, hR41⟩
  refine ⟨_, rfl, ?_⟩
  have hb42 : Ext w w39 := Ext.trans hb19 hE40
  have hL43 : w.heap.size ≤ w39.heap.size := Nat.le_trans hL20 hE40.size
  have hS44 : SH w39 w.heap.size [aOwn fInt 2 a36 c37 x34.1, aOwn fStr 9 a13 c14 x11, aBox 31 b2 [.string (bs []), .int .i64 0, .int .i64 0, .int .i64 0]] := SH.add hS21 hE40 hL20 hR41
  refine WL.runk 5 [0, 2, 4, 5, 6] [(0, .string (bs s_0)), (2, .pointer (some ⟨b2, 0, none⟩)), (4, .slice a13 x11.length c14), (5, .slice a36 x34.1.length c37), (6, .bool x34.2)] (by kernel_rfl) ?_
  refine WL.nil ?_
  refine WQ.then_normal (hK31 _ _ _ ?_)
  refine WP.seq (fun K45 hK45 => ?_)
  refine WP.region ?_
  refine WL.runk 1 [0, 2, 4, 5, 6, 24] [(0, .string (bs s_0)), (2, .pointer (some ⟨b2, 0, none⟩)), (4, .slice a13 x11.length c14), (5, .slice a36 x34.1.length c37), (6, .bool x34.2), (24, .slice a13 x11.length c14)] (by kernel_rfl) ?_
  obtain ⟨x46, hx47, hm⟩ := bindE hm
  refine WL.st (.pointer (some (at_ a13 (Int.toNat 3 * 1)))) (ST.index (T := fStr.ty) (xs := x11) (SH.rd (SH.front 1 hS44)) hx47 rfl rfl rfl Tryz.underlying63 (info9).1 (info9).2.1) rfl rfl rfl ?_
  refine WL.st (.string (bs x46)) (ST.load (cell_ext (Rd.flat (F := fStr) (SH.rd (SH.front 1 hS44)) hx47 0 rfl)) rfl rfl Tryz.underlying9 rfl) rfl rfl rfl ?_
  obtain ⟨x48, hx49, hm⟩ := bindE hm
  refine WL.call 51 #[.string (bs x46)] rfl rfl (by kernel_rfl) (c_51 n x46 w39 hx49 (GL.below hG hb42)) ?_
  rintro _ w50 ⟨rfl, hE51⟩
  refine ⟨_, rfl, ?_⟩
  have hb53 : Ext w w50 := Ext.trans hb42 hE51
  have hL54 : w.heap.size ≤ w50.heap.size := Nat.le_trans hL43 hE51.size
  have hS55 : SH w50 w.heap.size [aOwn fInt 2 a36 c37 x34.1, aOwn fStr 9 a13 c14 x11, aBox 31 b2 [.string (bs []), .int .i64 0, .int .i64 0, .int .i64 0]] := SH.ext hS44 hE51
  refine WL.runk 5 [0, 2, 4, 5, 6, 7, 8] [(0, .string (bs s_0)), (2, .pointer (some ⟨b2, 0, none⟩)), (4, .slice a13 x11.length c14), (5, .slice a36 x34.1.length c37), (6, .bool x34.2), (7, .int .i64 x48.1), (8, .bool x48.2)] (by kernel_rfl) ?_
  refine WL.nil ?_
  refine WQ.then_normal (hK45 _ _ _ ?_)
  refine WP.seq (fun K56 hK56 => ?_)
  refine WP.seq (fun K57 hK57 => ?_)
  obtain ⟨x59, hx60, hm⟩ := bindE hm
  refine WP.cut (fun env' w' => env' = [(0, .string (bs s_0)), (2, .pointer (some ⟨b2, 0, none⟩)), (4, .slice a13 x11.length c14), (5, .slice a36 x34.1.length c37), (7, .int .i64 x48.1), (35, .bool x59)] ∧ Ext w w' ∧ w.heap.size ≤ w'.heap.size ∧ SH w' w.heap.size [aOwn fInt 2 a36 c37 x34.1, aOwn fStr 9 a13 c14 x11, aBox 31 b2 [.string (bs []), .int .i64 0, .int .i64 0, .int .i64 0]]) ?_ ?_
  · have hm := hx60; clear hx60
    refine WP.region ?_
    refine WL.runk 3 [0, 2, 4, 5, 7, 8, 32] [(0, .string (bs s_0)), (2, .pointer (some ⟨b2, 0, none⟩)), (4, .slice a13 x11.length c14), (5, .slice a36 x34.1.length c37), (7, .int .i64 x48.1), (8, .bool x48.2), (32, .bool (!x34.2))] (by kernel_rfl) ?_
    refine WL.case (!x34.2) [32] ⟨rfl, trivial⟩ (fun hc61 => ?_) (fun hc61 => ?_)
    · have hm := iteT hm hc61
      refine WL.runk 3 [0, 2, 4, 5, 7, 35] [(0, .string (bs s_0)), (2, .pointer (some ⟨b2, 0, none⟩)), (4, .slice a13 x11.length c14), (5, .slice a36 x34.1.length c37), (7, .int .i64 x48.1), (35, .bool true)] (by kernel_rfl) ?_
      refine WL.nil ?_
      obtain rfl := Option.some.inj hm
      exact WQ.post' ⟨rfl, hb53, hL54, hS55⟩ ⟨rfl, rfl, rfl, rfl, rfl, rfl, trivial⟩
    have hm := iteF hm hc61
    refine WL.runk 3 [0, 2, 4, 5, 7, 35] [(0, .string (bs s_0)), (2, .pointer (some ⟨b2, 0, none⟩)), (4, .slice a13 x11.length c14), (5, .slice a36 x34.1.length c37), (7, .int .i64 x48.1), (35, .bool (!x48.2))] (by kernel_rfl) ?_
    refine WL.nil ?_
    obtain rfl := Option.some.inj hm
    exact WQ.post' ⟨rfl, hb53, hL54, hS55⟩ ⟨rfl, rfl, rfl, rfl, rfl, rfl, trivial⟩
  clear hx60
  rintro _ w62 ⟨rfl, hb63, hL64, hS65⟩
  refine WQ.then_normal (hK57 _ _ _ ?_)
  refine WP.cond x59 rfl rfl (fun hc66 => ?_) (fun hc66 => ?_)
  · have hm := iteT hm hc66
    refine WP.seq (fun K67 hK67 => ?_)
    refine WP.region ?_
    refine WL.runk 1 [2, 36] [(2, .pointer (some ⟨b2, 0, none⟩)), (36, .agg #[.string (bs []), .int .i64 0, .int .i64 0, .int .i64 0])] (by kernel_rfl) ?_
    refine WL.boxStore 0 [.string (bs []), .int .i64 0, .int .i64 0, .int .i64 0] [.string (bs []), .int .i64 0, .int .i64 0, .int .i64 0] (SH.front 2 hS65) hL64 rfl rfl rfl rfl rfl rfl rfl (info31).1 (info31).2.1 rfl rfl rfl ?_
    intro w68 hB69 hS70
    have hb71 : Ext w w68 := Below.trans hb63 hB69
    have hL72 : w.heap.size ≤ w68.heap.size := Nat.le_trans hL64 hB69.size
    refine WL.runk 1 [2, 3] [(2, .pointer (some ⟨b2, 0, none⟩)), (3, .bool false)] (by kernel_rfl) ?_
    refine WL.nil ?_
    refine WQ.then_normal (hK67 _ _ _ ?_)
    refine WP.ret ?_
    refine WQ.then_ret ?_
    obtain rfl := Option.some.inj hm
    exact WQ.retv2 _ _ rfl (RVal.box (SH.front 0 hS70) rfl Tryz.underlying31 rfl (info31).1 (info31).2.1) (RVal.tmp rfl) ⟨rfl, hb71⟩
  have hm := iteF hm hc66
  refine WP.skip ?_
  refine WQ.then_normal (hK56 _ _ _ ?_)
  refine WP.seq (fun K73 hK73 => ?_)
  refine WP.open (n := 13) (by kernel_rfl) rfl (fun w74 hE75 => ?_)
  have hb76 : Ext w w74 := Ext.trans hb63 hE75
  have hL77 : w.heap.size ≤ w74.heap.size := Nat.le_trans hL64 hE75.size
  have hS78 : SH w74 w.heap.size [aOwn fInt 2 a36 c37 x34.1, aOwn fStr 9 a13 c14 x11, aBox 31 b2 [.string (bs []), .int .i64 0, .int .i64 0, .int .i64 0]] := SH.ext hS65 hE75
  refine WA.float (Φ := fun v w' => ∃ (b84 : Nat), v = .pointer (some ⟨b84, 0, none⟩) ∧ SH w' w74.heap.size [aBox 31 b84 [.string (bs []), .int .i64 0, .int .i64 0, .int .i64 0]]) (f := 11) (f' := 1) (D1 := [0, 1, 2, 3, 4, 5, 6, 7, 8, 9, 10]) (D' := [0, 1, 2, 3, 4, 5, 6, 7, 8, 9, 10, 11]) [0, 1, 2, 3, 4, 5, 6, 7, 8, 9, 10] [] (fun _ _ _ ⟨b84, e, h⟩ hE => ⟨b84, e, SH.ext h hE⟩) rfl rfl rfl rfl (by kernel_rfl) ?_
  refine QL.step1v 37 (.slice a13 x11.length c14) rfl (fun _ => by kernel_rfl) ?_
  refine QL.subk [0, 2, 5, 7, 37] [(0, .string (bs s_0)), (2, .pointer (some ⟨b2, 0, none⟩)), (5, .slice a36 x34.1.length c37), (7, .int .i64 x48.1), (37, .slice a13 x11.length c14)] (by kernel_rfl) ?_
  obtain ⟨x93, hx94, hm⟩ := bindE hm
  refine QL.st (.pointer (some (at_ a13 (Int.toNat 0 * 1)))) (ST.index (T := fStr.ty) (xs := x11) (SH.rd (SH.front 1 hS78)) hx94 rfl rfl rfl Tryz.underlying63 (info9).1 (info9).2.1) rfl rfl rfl ?_
  refine QL.st (.string (bs x93)) (ST.load (cell_ext (Rd.flat (F := fStr) (SH.rd (SH.front 1 hS78)) hx94 0 rfl)) rfl rfl Tryz.underlying9 rfl) rfl rfl rfl ?_
  refine QL.step1v 40 (.slice a36 x34.1.length c37) rfl (fun _ => by kernel_rfl) ?_
  refine QL.subk [0, 2, 5, 7, 39, 40] [(0, .string (bs s_0)), (2, .pointer (some ⟨b2, 0, none⟩)), (5, .slice a36 x34.1.length c37), (7, .int .i64 x48.1), (39, .string (bs x93)), (40, .slice a36 x34.1.length c37)] (by kernel_rfl) ?_
  obtain ⟨x95, hx96, hm⟩ := bindE hm
  refine QL.st (.pointer (some (at_ a36 (Int.toNat 0 * 1)))) (ST.index (T := fInt.ty) (xs := x34.1) (SH.rd (SH.front 0 hS78)) hx96 rfl rfl rfl Tryz.underlying77 (info2).1 (info2).2.1) rfl rfl rfl ?_
  refine QL.st (.int .i64 x95) (ST.load (cell_ext (Rd.flat (F := fInt) (SH.rd (SH.front 0 hS78)) hx96 0 rfl)) rfl rfl Tryz.underlying2 rfl) rfl rfl rfl ?_
  refine QL.step1v 43 (.slice a36 x34.1.length c37) rfl (fun _ => by kernel_rfl) ?_
  refine QL.subk [0, 2, 7, 39, 42, 43] [(0, .string (bs s_0)), (2, .pointer (some ⟨b2, 0, none⟩)), (7, .int .i64 x48.1), (39, .string (bs x93)), (42, .int .i64 x95), (43, .slice a36 x34.1.length c37)] (by kernel_rfl) ?_
  obtain ⟨x97, hx98, hm⟩ := bindE hm
  refine QL.st (.pointer (some (at_ a36 (Int.toNat 1 * 1)))) (ST.index (T := fInt.ty) (xs := x34.1) (SH.rd (SH.front 0 hS78)) hx98 rfl rfl rfl Tryz.underlying77 (info2).1 (info2).2.1) rfl rfl rfl ?_
  refine QL.st (.int .i64 x97) (ST.load (cell_ext (Rd.flat (F := fInt) (SH.rd (SH.front 0 hS78)) hx98 0 rfl)) rfl rfl Tryz.underlying2 rfl) rfl rfl rfl ?_
  refine QL.step1v 46 (.int .i64 x48.1) rfl (fun _ => by kernel_rfl) ?_
  refine QL.step1v 47 (.agg #[.string (bs x93), .int .i64 x95, .int .i64 x97, .int .i64 x48.1]) rfl (fun _ => by kernel_rfl) ?_
  refine QL.subk [0, 2, 47] [(0, .string (bs s_0)), (2, .pointer (some ⟨b2, 0, none⟩)), (47, .agg #[.string (bs x93), .int .i64 x95, .int .i64 x97, .int .i64 x48.1])] (by kernel_rfl) ?_
  refine QL.nil ?_
  intro w99 hE100
  refine QF.make (f' := 1) (hs := [0, 1, 2, 3, 4, 5, 6, 7, 8, 9, 10]) (D' := [0, 1, 2, 3, 4, 5, 6, 7, 8, 9, 10, 11]) (ex := []) (pre := [11]) (D'' := [0, 1, 2, 3, 4, 5, 6, 7, 8, 9, 10, 11]) 9 (fun w79 hE80 => ?_) (fun v101 => ⟨[(0, .string (bs s_0)), (2, .pointer (some ⟨b2, 0, none⟩)), (47, .agg #[.string (bs x93), .int .i64 x95, .int .i64 x97, .int .i64 x48.1]), (9, v101)], runP_nil, fun w102 hE103 hR104 => ?_⟩) rfl rfl rfl rfl rfl (by kernel_rfl)
  · have hb81 : Ext w w79 := Ext.trans hb76 hE80
    have hL82 : w.heap.size ≤ w79.heap.size := Nat.le_trans hL77 hE80.size
    have hS83 : SH w79 w.heap.size [aOwn fInt 2 a36 c37 x34.1, aOwn fStr 9 a13 c14 x11, aBox 31 b2 [.string (bs []), .int .i64 0, .int .i64 0, .int .i64 0]] := SH.ext hS78 hE80
    refine WL.box 31 [.string (bs []), .int .i64 0, .int .i64 0, .int .i64 0] 9 (by kernel_rfl) rfl rfl rfl rfl ?_
    intro b84 w85 hE86 hR87
    have hb89 : Ext w w85 := Ext.trans hb81 hE86
    have hL90 : w.heap.size ≤ w85.heap.size := Nat.le_trans hL82 hE86.size
    have hS91 : SH w85 w.heap.size [aBox 31 b84 [.string (bs []), .int .i64 0, .int .i64 0, .int .i64 0], aOwn fInt 2 a36 c37 x34.1, aOwn fStr 9 a13 c14 x11, aBox 31 b2 [.string (bs []), .int .i64 0, .int .i64 0, .int .i64 0]] := SH.add hS83 hE86 hL82 hR87
    have hx92 := hE86
    refine WL.nil ?_
    exact QΦ.intro (v := .pointer (some ⟨b84, 0, none⟩)) rfl hx92 ⟨b84, rfl, SH.low hR87 hE80.size⟩
  · obtain ⟨b84, rfl, hR104⟩ := hR104
    have hb105 : Ext w w102 := Ext.trans hb76 hE103
    have hL106 : w.heap.size ≤ w102.heap.size := Nat.le_trans hL77 hE103.size
    have hS107 : SH w102 w.heap.size [aBox 31 b84 [.string (bs []), .int .i64 0, .int .i64 0, .int .i64 0], aOwn fInt 2 a36 c37 x34.1, aOwn fStr 9 a13 c14 x11, aBox 31 b2 [.string (bs []), .int .i64 0, .int .i64 0, .int .i64 0]] := SH.add hS78 hE103 hL77 hR104
    refine WA.one (i := 12) (D' := [0, 1, 2, 3, 4, 5, 6, 7, 8, 9, 10, 11, 12]) rfl rfl (by kernel_rfl) ?_
    refine WL.boxStore 0 [.string (bs x93), .int .i64 x95, .int .i64 x97, .int .i64 x48.1] [.string (bs x93), .int .i64 x95, .int .i64 x97, .int .i64 x48.1] (SH.front 0 hS107) hL106 rfl rfl rfl rfl rfl rfl rfl (info31).1 (info31).2.1 rfl rfl rfl ?_
    intro w108 hB109 hS110
    have hb111 : Ext w w108 := Below.trans hb105 hB109
    have hL112 : w.heap.size ≤ w108.heap.size := Nat.le_trans hL106 hB109.size
    refine WL.sub [(0, .string (bs s_0)), (2, .pointer (some ⟨b2, 0, none⟩)), (9, .pointer (some ⟨b84, 0, none⟩))] ⟨rfl, rfl, rfl, trivial⟩ ?_
    refine WL.nil ?_
    refine WA.done (by kernel_rfl) ?_
    refine WQ.then_normal (hK73 _ _ _ ?_)
    refine WP.seq (fun K113 hK113 => ?_)
    refine WP.seq (fun K114 hK114 => ?_)
    refine WP.region ?_
    refine WL.st (.agg #[.string (bs x93), .int .i64 x95, .int .i64 x97, .int .i64 x48.1]) (ST.loadAgg (vs := [.string (bs x93), .int .i64 x95, .int .i64 x97, .int .i64 x48.1]) (fun j v hv => SH.boxPart (us := [.string (bs x93), .int .i64 x95, .int .i64 x97, .int .i64 x48.1]) (SH.front 0 hS110) 0 rfl j v hv) rfl rfl rfl Tryz.underlying31 rfl (info31).1 (info31).2.1) rfl rfl rfl ?_
    obtain ⟨x115, hx116, hm⟩ := bindE hm
    refine WL.call 15 #[.agg #[.string (bs x93), .int .i64 x95, .int .i64 x97, .int .i64 x48.1]] rfl rfl (by kernel_rfl) (c_15 n (SGood.mk x93 x95 x97 x48.1) w108 hx116 (GL.below (GL.low (j := 2) hG rfl) hb111)) ?_
    rintro _ w117 ⟨rfl, hE118⟩
    refine ⟨_, rfl, ?_⟩
    have hb120 : Ext w w117 := Ext.trans hb111 hE118
    have hL121 : w.heap.size ≤ w117.heap.size := Nat.le_trans hL112 hE118.size
    have hS122 : SH w117 w.heap.size [aBox 31 b84 [.string (bs x93), .int .i64 x95, .int .i64 x97, .int .i64 x48.1], aOwn fInt 2 a36 c37 x34.1, aOwn fStr 9 a13 c14 x11, aBox 31 b2 [.string (bs []), .int .i64 0, .int .i64 0, .int .i64 0]] := SH.ext hS110 hE118
    refine WL.runk 1 [2, 9, 49, 50] [(2, .pointer (some ⟨b2, 0, none⟩)), (9, .pointer (some ⟨b84, 0, none⟩)), (49, .string (bs x115)), (50, .string (bs s_0))] (by kernel_rfl) ?_
    refine WL.st (.bool (!(x115 == s_0))) (ST.strne (x := x115) (y := s_0) rfl rfl rfl) rfl rfl rfl ?_
    refine WL.sub [(2, .pointer (some ⟨b2, 0, none⟩)), (9, .pointer (some ⟨b84, 0, none⟩)), (51, .bool (!(x115 == s_0)))] ⟨rfl, rfl, rfl, trivial⟩ ?_
    refine WL.nil ?_
    refine WQ.then_normal (hK114 _ _ _ ?_)
    refine WP.cond (!(x115 == s_0)) rfl rfl (fun hc123 => ?_) (fun hc123 => ?_)
    · have hm := iteT hm hc123
      refine WP.seq (fun K124 hK124 => ?_)
      refine WP.region ?_
      refine WL.runk 1 [2, 52] [(2, .pointer (some ⟨b2, 0, none⟩)), (52, .agg #[.string (bs []), .int .i64 0, .int .i64 0, .int .i64 0])] (by kernel_rfl) ?_
      refine WL.boxStore 0 [.string (bs []), .int .i64 0, .int .i64 0, .int .i64 0] [.string (bs []), .int .i64 0, .int .i64 0, .int .i64 0] (SH.front 3 hS122) hL121 rfl rfl rfl rfl rfl rfl rfl (info31).1 (info31).2.1 rfl rfl rfl ?_
      intro w125 hB126 hS127
      have hb128 : Ext w w125 := Below.trans hb120 hB126
      have hL129 : w.heap.size ≤ w125.heap.size := Nat.le_trans hL121 hB126.size
      refine WL.runk 1 [2, 3] [(2, .pointer (some ⟨b2, 0, none⟩)), (3, .bool false)] (by kernel_rfl) ?_
      refine WL.nil ?_
      refine WQ.then_normal (hK124 _ _ _ ?_)
      refine WP.ret ?_
      refine WQ.then_ret ?_
      obtain rfl := Option.some.inj hm
      exact WQ.retv2 _ _ rfl (RVal.box (SH.front 0 hS127) rfl Tryz.underlying31 rfl (info31).1 (info31).2.1) (RVal.tmp rfl) ⟨rfl, hb128⟩
    have hm := iteF hm hc123
    refine WP.skip ?_
    refine WQ.then_normal (hK113 _ _ _ ?_)
    refine WP.seq (fun K130 hK130 => ?_)
    refine WP.region ?_
    refine WL.st (.agg #[.string (bs x93), .int .i64 x95, .int .i64 x97, .int .i64 x48.1]) (ST.loadAgg (vs := [.string (bs x93), .int .i64 x95, .int .i64 x97, .int .i64 x48.1]) (fun j v hv => SH.boxPart (us := [.string (bs x93), .int .i64 x95, .int .i64 x97, .int .i64 x48.1]) (SH.front 0 hS122) 0 rfl j v hv) rfl rfl rfl Tryz.underlying31 rfl (info31).1 (info31).2.1) rfl rfl rfl ?_
    refine WL.boxStore 0 [.string (bs x93), .int .i64 x95, .int .i64 x97, .int .i64 x48.1] [.string (bs x93), .int .i64 x95, .int .i64 x97, .int .i64 x48.1] (SH.front 3 hS122) hL121 rfl rfl rfl rfl rfl rfl rfl (info31).1 (info31).2.1 rfl rfl rfl ?_
    intro w131 hB132 hS133
    have hb134 : Ext w w131 := Below.trans hb120 hB132
    have hL135 : w.heap.size ≤ w131.heap.size := Nat.le_trans hL121 hB132.size
    refine WL.runk 1 [2, 3] [(2, .pointer (some ⟨b2, 0, none⟩)), (3, .bool true)] (by kernel_rfl) ?_
    refine WL.nil ?_
    refine WQ.then_normal (hK130 _ _ _ ?_)
    refine WP.ret ?_
    obtain rfl := Option.some.inj hm
    exact WQ.retv2 _ _ rfl (RVal.box (SH.front 0 hS133) rfl Tryz.underlying31 rfl (info31).1 (info31).2.1) (RVal.tmp rfl) ⟨rfl, hb134⟩

theorem c_77 (n : Nat) (n_0 : Int) (w : World) {r : List UInt8} (hm : m_spec_l01Dec n n_0 = some r)  :
    CallV Tryz.prog 77 #[.int .i64 n_0] w (fun v w' => v = .string (bs r) ∧ Ext w w') := by
  unfold m_spec_l01Dec at hm
  refine CallV.enter Tryz.func77 rfl (by kernel_rfl) Tryz.ntmps77 (env := [(0, .int .i64 n_0)]) ⟨rfl, trivial⟩ ?_
  refine WP.seq (fun K1 hK1 => ?_)
  refine WP.region ?_
  refine WL.runk 1 [0] [(0, .int .i64 n_0)] (by kernel_rfl) ?_
  refine WL.nil ?_
  refine WQ.then_normal (hK1 _ _ _ ?_)
  refine WP.seq (fun K2 hK2 => ?_)
  refine WP.region ?_
  refine WL.row fU8 5 ([] : List Int) 0 #[] 6 (by kernel_rfl) rfl rfl rfl rfl rfl rfl rfl ?_
  intro a3 c4 w5 hE6 hR7
  have hb9 : Ext w w5 := Ext.trans (Ext.refl w) hE6
  have hL10 : w.heap.size ≤ w5.heap.size := Nat.le_trans (Nat.le_refl _) hE6.size
  have hS11 : SH w5 w.heap.size [aOwn fU8 5 a3 c4 ([] : List Int)] := SH.add (SH.nil _ _) hE6 (Nat.le_refl _) hR7
  refine WL.runk 1 [0, 3] [(0, .int .i64 n_0), (3, .slice a3 (([] : List Int).length) c4)] (by kernel_rfl) ?_
  refine WL.nil ?_
  refine WQ.then_normal (hK2 _ _ _ ?_)
  refine WP.seq (fun K12 hK12 => ?_)
  refine WP.seq (fun K13 hK13 => ?_)
  refine WP.region ?_
  refine WL.runk 2 [0, 3, 4] [(0, .int .i64 n_0), (3, .slice a3 (([] : List Int).length) c4), (4, .int .i64 n_0)] (by kernel_rfl) ?_
  refine WL.nil ?_
  refine WQ.then_normal (hK13 _ _ _ ?_)
  refine WP.block ?_
  obtain ⟨t28, ht29, hm⟩ := bindE hm
  have hmo23 := hm; clear hm
  refine WP.sub [(0, .int .i64 n_0), (3, .slice a3 (([] : List Int).length) c4), (4, .int .i64 n_0)] ⟨rfl, rfl, rfl, trivial⟩ ?_
  refine WP.loop (fun n' env' w' => ∃ (st14 : List Int × Int) (a15 : Option Addr) (c16 : Nat), env' = [(0, .int .i64 n_0), (3, .slice a15 st14.1.length c16), (4, .int .i64 st14.2)] ∧ Ext w w' ∧ w.heap.size ≤ w'.heap.size ∧ SH w' w.heap.size [aOwn fU8 5 a15 c16 st14.1] ∧ loopN (m_spec_l01Dec_l1 n) n' st14 = some t28) n ⟨(([] : List Int), n_0), _, _, rfl, hb9, hL10, hS11, ht29⟩ ?_
  rintro n25 _ w18 ⟨st14, a15, c16, rfl, hb19, hL20, hS21, hl22⟩ K24 hK24
  obtain ⟨n26, s27, rfl, hm, hl22⟩ := loopN_some hl22
  unfold m_spec_l01Dec_l1 at hm
  refine WP.seq (fun K30 hK30 => ?_)
  refine WP.seq (fun K31 hK31 => ?_)
  refine WP.region ?_
  refine WL.runk 2 [0, 3, 4, 9] [(0, .int .i64 n_0), (3, .slice a15 st14.1.length c16), (4, .int .i64 st14.2), (9, .bool (st14.2 != 0))] (by kernel_rfl) ?_
  refine WL.nil ?_
  refine WQ.then_normal (hK31 _ _ _ ?_)
  refine WP.cond (st14.2 != 0) rfl rfl (fun hc32 => ?_) (fun hc32 => ?_)
  · have hm := iteT hm hc32
    refine WP.skip ?_
    refine WQ.then_normal (hK30 _ _ _ ?_)
    refine WP.seq (fun K33 hK33 => ?_)
    refine WP.block ?_
    refine WP.seq (fun K34 hK34 => ?_)
    refine WP.region ?_
    refine WL.runk 3 [0, 3, 4, 5] [(0, .int .i64 n_0), (3, .slice a15 st14.1.length c16), (4, .int .i64 st14.2), (5, .int .i64 (Int.tmod st14.2 10))] (by kernel_rfl) ?_
    refine WL.nil ?_
    refine WQ.then_normal (hK34 _ _ _ ?_)
    refine WP.seq (fun K35 hK35 => ?_)
    refine WP.seq (fun K36 hK36 => ?_)
    refine WP.region ?_
    refine WL.runk 2 [0, 3, 4, 5, 15] [(0, .int .i64 n_0), (3, .slice a15 st14.1.length c16), (4, .int .i64 st14.2), (5, .int .i64 (Int.tmod st14.2 10)), (15, .bool (decide ((Int.tmod st14.2 10) < 0)))] (by kernel_rfl) ?_
    refine WL.nil ?_
    refine WQ.then_normal (hK36 _ _ _ ?_)
    obtain ⟨x38, hx39, hm⟩ := bindE hm
    refine WP.cut (fun env' w' => env' = [(0, .int .i64 n_0), (3, .slice a15 st14.1.length c16), (4, .int .i64 st14.2), (5, .int .i64 x38)] ∧ Ext w w' ∧ w.heap.size ≤ w'.heap.size ∧ SH w' w.heap.size [aOwn fU8 5 a15 c16 st14.1]) ?_ ?_
    · have hm := hx39; clear hx39
      refine WP.cond (decide ((Int.tmod st14.2 10) < 0)) rfl rfl (fun hc37 => ?_) (fun hc37 => ?_)
      rotate_left
      · have hm := iteF hm hc37
        refine WP.skip ?_
        obtain rfl := Option.some.inj hm
        exact WQ.post' ⟨rfl, hb19, hL20, hS21⟩ ⟨rfl, rfl, rfl, rfl, trivial⟩
      have hm := iteT hm hc37
      refine WP.region ?_
      refine WL.runk 3 [0, 3, 4, 5] [(0, .int .i64 n_0), (3, .slice a15 st14.1.length c16), (4, .int .i64 st14.2), (5, .int .i64 (wI64 (0 - (Int.tmod st14.2 10))))] (by kernel_rfl) ?_
      refine WL.nil ?_
      obtain rfl := Option.some.inj hm
      exact WQ.post' ⟨rfl, hb19, hL20, hS21⟩ ⟨rfl, rfl, rfl, rfl, trivial⟩
    clear hx39
    rintro _ w40 ⟨rfl, hb41, hL42, hS43⟩
    refine WQ.then_normal (hK35 _ _ _ ?_)
    refine WP.region ?_
    refine WL.runk 3 [0, 3, 4, 20] [(0, .int .i64 n_0), (3, .slice a15 st14.1.length c16), (4, .int .i64 st14.2), (20, .int .u8 (IntKind.u8.wrap (wI64 (48 + x38))))] (by kernel_rfl) ?_
    refine WL.row fU8 5 ([(IntKind.u8.wrap (wI64 (48 + x38)))] : List Int) 1 #[.int .u8 (IntKind.u8.wrap (wI64 (48 + x38)))] 21 (by kernel_rfl) rfl rfl rfl rfl rfl rfl rfl ?_
    intro a44 c45 w46 hE47 hR48
    have hb50 : Ext w w46 := Ext.trans hb41 hE47
    have hL51 : w.heap.size ≤ w46.heap.size := Nat.le_trans hL42 hE47.size
    have hS52 : SH w46 w.heap.size [aOwn fU8 5 a44 c45 ([(IntKind.u8.wrap (wI64 (48 + x38)))] : List Int), aOwn fU8 5 a15 c16 st14.1] := SH.add hS43 hE47 hL42 hR48
    refine WL.runk 1 [0, 4, 21, 22] [(0, .int .i64 n_0), (4, .int .i64 st14.2), (21, .slice a44 (([(IntKind.u8.wrap (wI64 (48 + x38)))] : List Int).length) c45), (22, .slice a15 st14.1.length c16)] (by kernel_rfl) ?_
    obtain ⟨x53, hx54, hm⟩ := bindE hm
    refine WL.append (F := fU8) (xs := ([(IntKind.u8.wrap (wI64 (48 + x38)))] : List Int)) (ys := st14.1) 23 (SH.front 0 hS52) hL51 (SH.rd (SH.front 1 hS52)) hx54 rfl rfl rfl Tryz.underlying22 (info5).1 (info5).2.2.1 (info5).2.1 (info5).2.2.2 rfl rfl rfl rfl rfl ?_
    intro a55 c56 w57 hB58 hS59
    have hb60 : Ext w w57 := Below.trans hb50 hB58
    have hL61 : w.heap.size ≤ w57.heap.size := Nat.le_trans hL51 hB58.size
    refine WL.runk 1 [0, 3, 4] [(0, .int .i64 n_0), (4, .int .i64 st14.2), (3, .slice a55 x53.length c56)] (by kernel_rfl) ?_
    refine WL.nil ?_
    refine WQ.block_normal ?_
    refine WQ.then_normal (hK33 _ _ _ ?_)
    refine WP.region ?_
    refine WL.runk 3 [0, 3, 4] [(0, .int .i64 n_0), (4, .int .i64 (wI64 (Int.tdiv st14.2 10))), (3, .slice a55 x53.length c56)] (by kernel_rfl) ?_
    refine WL.nil ?_
    obtain rfl := Option.some.inj hm
    exact WQ.round hK24 ⟨(x53, (wI64 (Int.tdiv st14.2 10))), _, _, rfl, hb60, hL61, (SH.take 1 hS59), hl22⟩ (Nat.lt_succ_self _) ⟨rfl, rfl, rfl, trivial⟩
  have hm := iteF hm hc32
  refine WP.exit ?_
  refine WQ.then_exit ?_
  refine WQ.then_exit ?_
  refine WQ.block_here ?_
  obtain rfl := Option.some.inj hm
  obtain rfl := afterN_done hl22
  have hm := hmo23
  refine WQ.then_normal (hK12 _ _ _ ?_)
  refine WP.seq (fun K62 hK62 => ?_)
  refine WP.seq (fun K63 hK63 => ?_)
  refine WP.region ?_
  refine WL.runk 3 [0, 3, 26] [(0, .int .i64 n_0), (3, .slice a15 st14.1.length c16), (26, .bool ((st14.1.length : Int) == 0))] (by kernel_rfl) ?_
  refine WL.nil ?_
  refine WQ.then_normal (hK63 _ _ _ ?_)
  refine WP.cond ((st14.1.length : Int) == 0) rfl rfl (fun hc64 => ?_) (fun hc64 => ?_)
  · have hm := iteT hm hc64
    refine WP.seq (fun K65 hK65 => ?_)
    refine WP.region ?_
    refine WL.runk 1 [2] [(2, .string (bs [48]))] (by kernel_rfl) ?_
    refine WL.nil ?_
    refine WQ.then_normal (hK65 _ _ _ ?_)
    refine WP.ret ?_
    refine WQ.then_ret ?_
    obtain rfl := Option.some.inj hm
    exact WQ.ret1 _ rfl rfl ⟨rfl, hb19⟩
  have hm := iteF hm hc64
  refine WP.skip ?_
  refine WQ.then_normal (hK62 _ _ _ ?_)
  refine WP.seq (fun K66 hK66 => ?_)
  refine WP.seq (fun K67 hK67 => ?_)
  refine WP.region ?_
  refine WL.runk 2 [3, 28] [(3, .slice a15 st14.1.length c16), (28, .bool (decide (n_0 < 0)))] (by kernel_rfl) ?_
  refine WL.nil ?_
  refine WQ.then_normal (hK67 _ _ _ ?_)
  refine WP.cond (decide (n_0 < 0)) rfl rfl (fun hc68 => ?_) (fun hc68 => ?_)
  rotate_left
  · have hm := iteF hm hc68
    refine WP.skip ?_
    refine WQ.then_normal (hK66 _ _ _ ?_)
    refine WP.seq (fun K72 hK72 => ?_)
    refine WP.region ?_
    refine WL.runk 1 [32] [(32, .slice a15 st14.1.length c16)] (by kernel_rfl) ?_
    refine WL.st (.string (bs (ofBytes st14.1))) (ST.b2s (SH.rd (SH.front 0 hS21)) (SH.le (SH.front 0 hS21)).2 rfl rfl Tryz.underlying22 Tryz.underlying9 Tryz.underlying5) rfl rfl rfl ?_
    refine WL.runk 1 [2] [(2, .string (bs (ofBytes st14.1)))] (by kernel_rfl) ?_
    refine WL.nil ?_
    refine WQ.then_normal (hK72 _ _ _ ?_)
    refine WP.ret ?_
    obtain rfl := Option.some.inj hm
    exact WQ.ret1 _ rfl rfl ⟨rfl, hb19⟩
  have hm := iteT hm hc68
  refine WP.seq (fun K69 hK69 => ?_)
  refine WP.region ?_
  refine WL.runk 1 [29] [(29, .slice a15 st14.1.length c16)] (by kernel_rfl) ?_
  refine WL.st (.string (bs (ofBytes st14.1))) (ST.b2s (SH.rd (SH.front 0 hS21)) (SH.le (SH.front 0 hS21)).2 rfl rfl Tryz.underlying22 Tryz.underlying9 Tryz.underlying5) rfl rfl rfl ?_
  obtain ⟨x70, hx71, hm⟩ := bindE hm
  refine WL.st (.string (bs x70)) (ST.cat hx71 rfl rfl rfl) rfl rfl rfl ?_
  refine WL.runk 1 [2] [(2, .string (bs x70))] (by kernel_rfl) ?_
  refine WL.nil ?_
  refine WQ.then_normal (hK69 _ _ _ ?_)
  refine WP.ret ?_
  refine WQ.then_ret ?_
  obtain rfl := Option.some.inj hm
  exact WQ.ret1 _ rfl rfl ⟨rfl, hb19⟩

theorem c_52 (n : Nat) (g_0 : SGood) (b0' o0' : Nat) (w : World) {r : List UInt8} (hm : m_spec_l23Text n g_0 = some r) (h0 : RdB w b0' o0' [.string (bs g_0.Name), .int .i64 g_0.OnHand, .int .i64 g_0.Reserved, .int .i64 g_0.Least]) :
    CallV Tryz.prog 52 #[.pointer (some ⟨b0', o0', none⟩)] w (fun v w' => v = .string (bs r) ∧ Ext w w') := by
  unfold m_spec_l23Text at hm
  refine CallV.enter Tryz.func52 rfl (by kernel_rfl) Tryz.ntmps52 (env := [(0, .pointer (some ⟨b0', o0', none⟩))]) ⟨rfl, trivial⟩ ?_
  refine WP.seq (fun K1 hK1 => ?_)
  refine WP.region ?_
  refine WL.runk 1 [0] [(0, .pointer (some ⟨b0', o0', none⟩))] (by kernel_rfl) ?_
  refine WL.nil ?_
  refine WQ.then_normal (hK1 _ _ _ ?_)
  refine WP.seq (fun K2 hK2 => ?_)
  refine WP.quiet (by kernel_rfl) (by kernel_rfl) ?_
  refine QL.step1v 3 (.pointer (some ⟨b0', o0', none⟩)) rfl (fun _ => by kernel_rfl) ?_
  refine QL.step1v 4 (.pointer (some ⟨b0', o0', none⟩)) rfl (fun _ => by kernel_rfl) ?_
  refine QL.step1v 5 (.pointer (some ⟨b0', o0', none⟩)) rfl (fun _ => by kernel_rfl) ?_
  refine QL.subk [0, 5] [(0, .pointer (some ⟨b0', o0', none⟩)), (5, .pointer (some ⟨b0', o0', none⟩))] (by kernel_rfl) ?_
  refine QL.st (.string (bs g_0.Name)) (ST.load (cell_ext (RdB.at (RdB.below h0 (Ext.refl w)) 0 _ rfl)) rfl rfl Tryz.underlying9 rfl) rfl rfl rfl ?_
  obtain ⟨x3, hx4, hm⟩ := bindE hm
  refine QL.st (.string (bs x3)) (ST.cat hx4 rfl rfl rfl) rfl rfl rfl ?_
  refine QL.step1v 8 (.pointer (some ⟨b0', o0', none⟩)) rfl (fun _ => by kernel_rfl) ?_
  refine QL.step1v 9 (.pointer (some ⟨b0', o0', none⟩)) rfl (fun _ => by kernel_rfl) ?_
  refine QL.step1v 10 (.pointer (some ⟨b0', o0' + 1, none⟩)) rfl (fun _ => by kernel_rfl) ?_
  refine QL.subk [0, 7, 10] [(0, .pointer (some ⟨b0', o0', none⟩)), (7, .string (bs x3)), (10, .pointer (some ⟨b0', o0' + 1, none⟩))] (by kernel_rfl) ?_
  refine QL.st (.int .i64 g_0.OnHand) (ST.load (cell_ext (RdB.at (RdB.below h0 (Ext.refl w)) 1 _ rfl)) rfl rfl Tryz.underlying2 rfl) rfl rfl rfl ?_
  obtain ⟨x5, hx6, hm⟩ := bindE hm
  refine QL.call 77 #[.int .i64 g_0.OnHand] (.string (bs x5)) (fun _ => by kernel_rfl) (fun w7 hE8 => c_77 n g_0.OnHand w7 hx6 ) rfl rfl rfl ?_
  obtain ⟨x9, hx10, hm⟩ := bindE hm
  refine QL.st (.string (bs x9)) (ST.cat hx10 rfl rfl rfl) rfl rfl rfl ?_
  obtain ⟨x11, hx12, hm⟩ := bindE hm
  refine QL.st (.string (bs x11)) (ST.cat hx12 rfl rfl rfl) rfl rfl rfl ?_
  refine QL.step1v 15 (.pointer (some ⟨b0', o0', none⟩)) rfl (fun _ => by kernel_rfl) ?_
  refine QL.step1v 16 (.pointer (some ⟨b0', o0', none⟩)) rfl (fun _ => by kernel_rfl) ?_
  refine QL.step1v 17 (.pointer (some ⟨b0', o0' + 2, none⟩)) rfl (fun _ => by kernel_rfl) ?_
  refine QL.subk [0, 14, 17] [(0, .pointer (some ⟨b0', o0', none⟩)), (14, .string (bs x11)), (17, .pointer (some ⟨b0', o0' + 2, none⟩))] (by kernel_rfl) ?_
  refine QL.st (.int .i64 g_0.Reserved) (ST.load (cell_ext (RdB.at (RdB.below h0 (Ext.refl w)) 2 _ rfl)) rfl rfl Tryz.underlying2 rfl) rfl rfl rfl ?_
  obtain ⟨x13, hx14, hm⟩ := bindE hm
  refine QL.call 77 #[.int .i64 g_0.Reserved] (.string (bs x13)) (fun _ => by kernel_rfl) (fun w15 hE16 => c_77 n g_0.Reserved w15 hx14 ) rfl rfl rfl ?_
  obtain ⟨x17, hx18, hm⟩ := bindE hm
  refine QL.st (.string (bs x17)) (ST.cat hx18 rfl rfl rfl) rfl rfl rfl ?_
  obtain ⟨x19, hx20, hm⟩ := bindE hm
  refine QL.st (.string (bs x19)) (ST.cat hx20 rfl rfl rfl) rfl rfl rfl ?_
  refine QL.step1v 22 (.pointer (some ⟨b0', o0', none⟩)) rfl (fun _ => by kernel_rfl) ?_
  refine QL.step1v 23 (.pointer (some ⟨b0', o0', none⟩)) rfl (fun _ => by kernel_rfl) ?_
  refine QL.step1v 24 (.pointer (some ⟨b0', o0' + 3, none⟩)) rfl (fun _ => by kernel_rfl) ?_
  refine QL.subk [21, 24] [(21, .string (bs x19)), (24, .pointer (some ⟨b0', o0' + 3, none⟩))] (by kernel_rfl) ?_
  refine QL.st (.int .i64 g_0.Least) (ST.load (cell_ext (RdB.at (RdB.below h0 (Ext.refl w)) 3 _ rfl)) rfl rfl Tryz.underlying2 rfl) rfl rfl rfl ?_
  obtain ⟨x21, hx22, hm⟩ := bindE hm
  refine QL.call 77 #[.int .i64 g_0.Least] (.string (bs x21)) (fun _ => by kernel_rfl) (fun w23 hE24 => c_77 n g_0.Least w23 hx22 ) rfl rfl rfl ?_
  obtain ⟨x25, hx26, hm⟩ := bindE hm
  refine QL.st (.string (bs x25)) (ST.cat hx26 rfl rfl rfl) rfl rfl rfl ?_
  refine QL.step1v 2 (.string (bs x25)) rfl (fun _ => by kernel_rfl) ?_
  refine QL.subk [2] [(2, .string (bs x25))] (by kernel_rfl) ?_
  refine QL.nil ?_
  intro w27 hE28
  have hb29 : Ext w w27 := Ext.trans (Ext.refl w) hE28
  have hL30 : w.heap.size ≤ w27.heap.size := Nat.le_trans (Nat.le_refl _) hE28.size
  have hS31 : SH w27 w.heap.size [] := SH.ext (SH.nil _ _) hE28
  refine WQ.then_normal (hK2 _ _ _ ?_)
  refine WP.ret ?_
  obtain rfl := Option.some.inj hm
  exact WQ.ret1 _ rfl rfl ⟨rfl, hb29⟩

end Go.Proofs.YtkpdicajinionaaGreatDoor
