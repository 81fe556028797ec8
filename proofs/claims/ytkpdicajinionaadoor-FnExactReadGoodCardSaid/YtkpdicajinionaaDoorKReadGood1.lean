/- Each call does what its Lean function says. -/
import Derived.Test.YtkpdicajinionaaDoorTi
import Derived.Test.YtkpdicajinionaaDoorEq
import Derived.Test.YtkpdicajinionaaDoorMo
import Derived.Test.YtkpdicajinionaaDoorCh
set_option maxRecDepth 20000
set_option maxHeartbeats 40000000
namespace Go.Proofs.YtkpdicajinionaaDoor
open Go Go.Gv Go.RowKit

theorem c_28 (n : Nat) (c_0 : Int) (w : World) {r : Bool} (hm : m_spec_l01Digit n c_0 = some r)  :
    CallV Tryd.prog 28 #[.int .u8 c_0] w (fun v w' => v = .bool r ∧ Ext w w') := by
  unfold m_spec_l01Digit at hm
  refine CallV.enter Tryd.func28 rfl (by kernel_rfl) Tryd.ntmps28 (env := [(0, .int .u8 c_0)]) ⟨rfl, trivial⟩ ?_
  refine WP.seq (fun K1 hK1 => ?_)
  refine WP.region ?_
  refine WL.runk 1 [0] [(0, .int .u8 c_0)] (by kernel_rfl) ?_
  refine WL.nil ?_
  refine WQ.then_normal (hK1 _ _ _ ?_)
  refine WP.seq (fun K2 hK2 => ?_)
  obtain ⟨x4, hx5, hm⟩ := bindE hm
  refine WP.cut (fun env' w' => env' = [(2, .bool x4)] ∧ Ext w w' ∧ w.heap.size ≤ w'.heap.size ∧ SH w' w.heap.size []) ?_ ?_
  rotate_left
  · clear hx5
    rintro _ w7 ⟨rfl, hb8, hL9, hS10⟩
    refine WQ.then_normal (hK2 _ _ _ ?_)
    refine WP.ret ?_
    obtain rfl := Option.some.inj hm
    exact WQ.ret1 _ rfl rfl ⟨rfl, hb8⟩
  have hm := hx5; clear hx5
  refine WP.region ?_
  refine WL.runk 3 [0, 5] [(0, .int .u8 c_0), (5, .bool (decide (c_0 ≥ 48)))] (by kernel_rfl) ?_
  refine WL.case (decide (c_0 ≥ 48)) [5] ⟨rfl, trivial⟩ (fun hc6 => ?_) (fun hc6 => ?_)
  · have hm := iteT hm hc6
    refine WL.runk 4 [2] [(2, .bool (decide (c_0 ≤ 57)))] (by kernel_rfl) ?_
    refine WL.nil ?_
    obtain rfl := Option.some.inj hm
    exact WQ.post' ⟨rfl, (Ext.refl w), (Nat.le_refl _), (SH.nil _ _)⟩ ⟨rfl, trivial⟩
  have hm := iteF hm hc6
  refine WL.runk 4 [2] [(2, .bool false)] (by kernel_rfl) ?_
  refine WL.nil ?_
  obtain rfl := Option.some.inj hm
  exact WQ.post' ⟨rfl, (Ext.refl w), (Nat.le_refl _), (SH.nil _ _)⟩ ⟨rfl, trivial⟩

theorem c_33 (n : Nat) (c_0 : Int) (w : World) {r : Bool} (hm : m_spec_l01Small n c_0 = some r)  :
    CallV Tryd.prog 33 #[.int .u8 c_0] w (fun v w' => v = .bool r ∧ Ext w w') := by
  unfold m_spec_l01Small at hm
  refine CallV.enter Tryd.func33 rfl (by kernel_rfl) Tryd.ntmps33 (env := [(0, .int .u8 c_0)]) ⟨rfl, trivial⟩ ?_
  refine WP.seq (fun K1 hK1 => ?_)
  refine WP.region ?_
  refine WL.runk 1 [0] [(0, .int .u8 c_0)] (by kernel_rfl) ?_
  refine WL.nil ?_
  refine WQ.then_normal (hK1 _ _ _ ?_)
  refine WP.seq (fun K2 hK2 => ?_)
  obtain ⟨x4, hx5, hm⟩ := bindE hm
  refine WP.cut (fun env' w' => env' = [(2, .bool x4)] ∧ Ext w w' ∧ w.heap.size ≤ w'.heap.size ∧ SH w' w.heap.size []) ?_ ?_
  rotate_left
  · clear hx5
    rintro _ w7 ⟨rfl, hb8, hL9, hS10⟩
    refine WQ.then_normal (hK2 _ _ _ ?_)
    refine WP.ret ?_
    obtain rfl := Option.some.inj hm
    exact WQ.ret1 _ rfl rfl ⟨rfl, hb8⟩
  have hm := hx5; clear hx5
  refine WP.region ?_
  refine WL.runk 3 [0, 5] [(0, .int .u8 c_0), (5, .bool (decide (c_0 ≥ 97)))] (by kernel_rfl) ?_
  refine WL.case (decide (c_0 ≥ 97)) [5] ⟨rfl, trivial⟩ (fun hc6 => ?_) (fun hc6 => ?_)
  · have hm := iteT hm hc6
    refine WL.runk 4 [2] [(2, .bool (decide (c_0 ≤ 122)))] (by kernel_rfl) ?_
    refine WL.nil ?_
    obtain rfl := Option.some.inj hm
    exact WQ.post' ⟨rfl, (Ext.refl w), (Nat.le_refl _), (SH.nil _ _)⟩ ⟨rfl, trivial⟩
  have hm := iteF hm hc6
  refine WL.runk 4 [2] [(2, .bool false)] (by kernel_rfl) ?_
  refine WL.nil ?_
  obtain rfl := Option.some.inj hm
  exact WQ.post' ⟨rfl, (Ext.refl w), (Nat.le_refl _), (SH.nil _ _)⟩ ⟨rfl, trivial⟩

theorem c_21 (n : Nat) (s_0 : List UInt8) (w : World) {r : Bool} (hm : m_spec_IsName n s_0 = some r)  :
    CallV Tryd.prog 21 #[.string (bs s_0)] w (fun v w' => v = .bool r ∧ Ext w w') := by
  unfold m_spec_IsName at hm
  refine CallV.enter Tryd.func21 rfl (by kernel_rfl) Tryd.ntmps21 (env := [(0, .string (bs s_0))]) ⟨rfl, trivial⟩ ?_
  refine WP.seq (fun K1 hK1 => ?_)
  refine WP.region ?_
  refine WL.runk 1 [0] [(0, .string (bs s_0))] (by kernel_rfl) ?_
  refine WL.nil ?_
  refine WQ.then_normal (hK1 _ _ _ ?_)
  refine WP.seq (fun K2 hK2 => ?_)
  refine WP.seq (fun K3 hK3 => ?_)
  obtain ⟨x16, hx17, hm⟩ := bindE hm
  refine WP.cut (fun env' w' => env' = [(0, .string (bs s_0)), (16, .bool x16)] ∧ Ext w w' ∧ w.heap.size ≤ w'.heap.size ∧ SH w' w.heap.size []) ?_ ?_
  · have hm := hx17; clear hx17
    refine WP.region ?_
    refine WL.runk 1 [0, 4] [(0, .string (bs s_0)), (4, .string (bs s_0))] (by kernel_rfl) ?_
    refine WL.st (.bool (s_0 == [])) (ST.streq (x := s_0) (y := []) rfl rfl rfl) rfl rfl rfl ?_
    refine WL.runk 1 [0, 6] [(0, .string (bs s_0)), (6, .bool (s_0 == []))] (by kernel_rfl) ?_
    refine WL.case (s_0 == []) [6] ⟨rfl, trivial⟩ (fun hc18 => ?_) (fun hc18 => ?_)
    · have hm := iteT hm hc18
      refine WL.runk 10 [0, 16] [(0, .string (bs s_0)), (16, .bool true)] (by kernel_rfl) ?_
      refine WL.nil ?_
      obtain rfl := Option.some.inj hm
      exact WQ.post' ⟨rfl, (Ext.refl w), (Nat.le_refl _), (SH.nil _ _)⟩ ⟨rfl, rfl, trivial⟩
    have hm := iteF hm hc18
    refine WL.runk 5 [0, 11] [(0, .string (bs s_0)), (11, .bool (decide ((s_0.length : Int) > 12)))] (by kernel_rfl) ?_
    refine WL.case (decide ((s_0.length : Int) > 12)) [11] ⟨rfl, trivial⟩ (fun hc19 => ?_) (fun hc19 => ?_)
    · have hm := iteT hm hc19
      refine WL.runk 5 [0, 16] [(0, .string (bs s_0)), (16, .bool true)] (by kernel_rfl) ?_
      refine WL.nil ?_
      obtain rfl := Option.some.inj hm
      exact WQ.post' ⟨rfl, (Ext.refl w), (Nat.le_refl _), (SH.nil _ _)⟩ ⟨rfl, rfl, trivial⟩
    have hm := iteF hm hc19
    refine WL.runk 1 [0, 11, 12] [(0, .string (bs s_0)), (11, .bool false), (12, .string (bs s_0))] (by kernel_rfl) ?_
    obtain ⟨x20, hx21, hm⟩ := bindE hm
    refine WL.st (.int .u8 (x20.toNat : Int)) (ST.sindex hx21 rfl rfl rfl Tryd.underlying9) rfl rfl rfl ?_
    obtain ⟨x22, hx23, hm⟩ := bindE hm
    refine WL.call 33 #[.int .u8 (x20.toNat : Int)] rfl rfl (by kernel_rfl) (c_33 n (x20.toNat : Int) w hx23 ) ?_
    rintro _ w24 ⟨rfl, hE25⟩
    refine ⟨_, rfl, ?_⟩
    have hb27 : Ext w w24 := Ext.trans (Ext.refl w) hE25
    have hL28 : w.heap.size ≤ w24.heap.size := Nat.le_trans (Nat.le_refl _) hE25.size
    have hS29 : SH w24 w.heap.size [] := SH.ext (SH.nil _ _) hE25
    refine WL.runk 2 [0, 16] [(0, .string (bs s_0)), (16, .bool (!x22))] (by kernel_rfl) ?_
    refine WL.nil ?_
    obtain rfl := Option.some.inj hm
    exact WQ.post' ⟨rfl, hb27, hL28, hS29⟩ ⟨rfl, rfl, trivial⟩
  clear hx17
  rintro _ w30 ⟨rfl, hb31, hL32, hS33⟩
  refine WQ.then_normal (hK3 _ _ _ ?_)
  refine WP.cond x16 rfl rfl (fun hc34 => ?_) (fun hc34 => ?_)
  · have hm := iteT hm hc34
    refine WP.seq (fun K35 hK35 => ?_)
    refine WP.region ?_
    refine WL.runk 1 [2] [(2, .bool false)] (by kernel_rfl) ?_
    refine WL.nil ?_
    refine WQ.then_normal (hK35 _ _ _ ?_)
    refine WP.ret ?_
    refine WQ.then_ret ?_
    obtain rfl := Option.some.inj hm
    exact WQ.ret1 _ rfl rfl ⟨rfl, hb31⟩
  have hm := iteF hm hc34
  refine WP.skip ?_
  refine WQ.then_normal (hK2 _ _ _ ?_)
  refine WP.seq (fun K36 hK36 => ?_)
  refine WP.seq (fun K37 hK37 => ?_)
  refine WP.region ?_
  refine WL.runk 1 [0, 3] [(0, .string (bs s_0)), (3, .int .i64 0)] (by kernel_rfl) ?_
  refine WL.nil ?_
  refine WQ.then_normal (hK37 _ _ _ ?_)
  refine WP.block ?_
  obtain ⟨t49, ht50, hm⟩ := bindE hm
  have hmo44 := hm; clear hm
  refine WP.sub [(0, .string (bs s_0)), (3, .int .i64 0)] ⟨rfl, rfl, trivial⟩ ?_
  refine WP.loop (fun n' env' w' => ∃ (st38 : Int) , env' = [(0, .string (bs s_0)), (3, .int .i64 st38)] ∧ Ext w w' ∧ w.heap.size ≤ w'.heap.size ∧ SH w' w.heap.size [] ∧ loopN (m_spec_IsName_l1 n s_0) n' st38 = some t49) n ⟨0, rfl, hb31, hL32, hS33, ht50⟩ ?_
  rintro n46 _ w39 ⟨st38, rfl, hb40, hL41, hS42, hl43⟩ K45 hK45
  obtain ⟨n47, s48, rfl, hm, hl43⟩ := loopN_some hl43
  unfold m_spec_IsName_l1 at hm
  refine WP.seq (fun K51 hK51 => ?_)
  refine WP.seq (fun K52 hK52 => ?_)
  refine WP.region ?_
  refine WL.runk 4 [0, 3, 20] [(0, .string (bs s_0)), (3, .int .i64 st38), (20, .bool (decide (st38 < (s_0.length : Int))))] (by kernel_rfl) ?_
  refine WL.nil ?_
  refine WQ.then_normal (hK52 _ _ _ ?_)
  refine WP.cond (decide (st38 < (s_0.length : Int))) rfl rfl (fun hc53 => ?_) (fun hc53 => ?_)
  rotate_left
  · have hm := iteF hm hc53
    refine WP.exit ?_
    refine WQ.then_exit ?_
    refine WQ.then_exit ?_
    refine WQ.block_here ?_
    obtain rfl := Option.some.inj hm
    obtain rfl := afterN_done hl43
    have hm := hmo44
    refine WQ.then_normal (hK36 _ _ _ ?_)
    refine WP.seq (fun K112 hK112 => ?_)
    refine WP.region ?_
    refine WL.runk 1 [2] [(2, .bool true)] (by kernel_rfl) ?_
    refine WL.nil ?_
    refine WQ.then_normal (hK112 _ _ _ ?_)
    refine WP.ret ?_
    obtain rfl := Option.some.inj hm
    exact WQ.ret1 _ rfl rfl ⟨rfl, hb40⟩
  have hm := iteT hm hc53
  refine WP.skip ?_
  refine WQ.then_normal (hK51 _ _ _ ?_)
  refine WP.seq (fun K54 hK54 => ?_)
  refine WP.block ?_
  refine WP.seq (fun K55 hK55 => ?_)
  obtain ⟨x80, hx81, hm⟩ := bindE hm
  refine WP.cut (fun env' w' => env' = [(0, .string (bs s_0)), (3, .int .i64 st38), (40, .bool x80)] ∧ Ext w w' ∧ w.heap.size ≤ w'.heap.size ∧ SH w' w.heap.size []) ?_ ?_
  rotate_left
  · clear hx81
    rintro _ w106 ⟨rfl, hb107, hL108, hS109⟩
    refine WQ.then_normal (hK55 _ _ _ ?_)
    refine WP.cond x80 rfl rfl (fun hc110 => ?_) (fun hc110 => ?_)
    rotate_left
    · have hm := iteF hm hc110
      refine WP.skip ?_
      refine WQ.block_normal ?_
      refine WQ.then_normal (hK54 _ _ _ ?_)
      refine WP.region ?_
      refine WL.runk 3 [0, 3] [(0, .string (bs s_0)), (3, .int .i64 (wI64 (st38 + 1)))] (by kernel_rfl) ?_
      refine WL.nil ?_
      obtain rfl := Option.some.inj hm
      exact WQ.round hK45 ⟨(wI64 (st38 + 1)), rfl, hb107, hL108, hS109, hl43⟩ (Nat.lt_succ_self _) ⟨rfl, rfl, trivial⟩
    have hm := iteT hm hc110
    refine WP.seq (fun K111 hK111 => ?_)
    refine WP.region ?_
    refine WL.runk 1 [2] [(2, .bool false)] (by kernel_rfl) ?_
    refine WL.nil ?_
    refine WQ.then_normal (hK111 _ _ _ ?_)
    refine WP.ret ?_
    refine WQ.block_ret ?_
    refine WQ.then_ret ?_
    refine WQ.then_ret ?_
    refine WQ.block_ret ?_
    refine WQ.then_ret ?_
    obtain rfl := Option.some.inj hm
    obtain rfl := afterN_done hl43
    have hm := hmo44
    obtain rfl := Option.some.inj hm
    exact WQ.ret1 _ rfl rfl ⟨rfl, hb107⟩
  have hm := hx81; clear hx81
  refine WP.region ?_
  refine WL.runk 2 [0, 3, 23, 24] [(0, .string (bs s_0)), (3, .int .i64 st38), (23, .string (bs s_0)), (24, .int .i64 st38)] (by kernel_rfl) ?_
  obtain ⟨x82, hx83, hm⟩ := bindE hm
  refine WL.st (.int .u8 (x82.toNat : Int)) (ST.sindex hx83 rfl rfl rfl Tryd.underlying9) rfl rfl rfl ?_
  obtain ⟨x84, hx85, hm⟩ := bindE hm
  refine WL.call 33 #[.int .u8 (x82.toNat : Int)] rfl rfl (by kernel_rfl) (c_33 n (x82.toNat : Int) w39 hx85 ) ?_
  rintro _ w86 ⟨rfl, hE87⟩
  refine ⟨_, rfl, ?_⟩
  have hb89 : Ext w w86 := Ext.trans hb40 hE87
  have hL90 : w.heap.size ≤ w86.heap.size := Nat.le_trans hL41 hE87.size
  have hS91 : SH w86 w.heap.size [] := SH.ext hS42 hE87
  refine WL.runk 2 [0, 3, 28] [(0, .string (bs s_0)), (3, .int .i64 st38), (28, .bool (!x84))] (by kernel_rfl) ?_
  refine WL.case (!x84) [28] ⟨rfl, trivial⟩ (fun hc92 => ?_) (fun hc92 => ?_)
  rotate_left
  · have hm := iteF hm hc92
    refine WL.runk 12 [0, 3, 40] [(0, .string (bs s_0)), (3, .int .i64 st38), (40, .bool false)] (by kernel_rfl) ?_
    refine WL.nil ?_
    obtain rfl := Option.some.inj hm
    exact WQ.post' ⟨rfl, hb89, hL90, hS91⟩ ⟨rfl, rfl, rfl, trivial⟩
  have hm := iteT hm hc92
  refine WL.runk 2 [0, 3, 28, 29, 30] [(0, .string (bs s_0)), (3, .int .i64 st38), (28, .bool true), (29, .string (bs s_0)), (30, .int .i64 st38)] (by kernel_rfl) ?_
  obtain ⟨x93, hx94, hm⟩ := bindE hm
  refine WL.st (.int .u8 (x93.toNat : Int)) (ST.sindex hx94 rfl rfl rfl Tryd.underlying9) rfl rfl rfl ?_
  obtain ⟨x95, hx96, hm⟩ := bindE hm
  refine WL.call 28 #[.int .u8 (x93.toNat : Int)] rfl rfl (by kernel_rfl) (c_28 n (x93.toNat : Int) w86 hx96 ) ?_
  rintro _ w97 ⟨rfl, hE98⟩
  refine ⟨_, rfl, ?_⟩
  have hb100 : Ext w w97 := Ext.trans hb89 hE98
  have hL101 : w.heap.size ≤ w97.heap.size := Nat.le_trans hL90 hE98.size
  have hS102 : SH w97 w.heap.size [] := SH.ext hS91 hE98
  refine WL.runk 3 [0, 3, 35] [(0, .string (bs s_0)), (3, .int .i64 st38), (35, .bool (!x95))] (by kernel_rfl) ?_
  refine WL.case (!x95) [35] ⟨rfl, trivial⟩ (fun hc103 => ?_) (fun hc103 => ?_)
  rotate_left
  · have hm := iteF hm hc103
    refine WL.runk 5 [0, 3, 40] [(0, .string (bs s_0)), (3, .int .i64 st38), (40, .bool false)] (by kernel_rfl) ?_
    refine WL.nil ?_
    obtain rfl := Option.some.inj hm
    exact WQ.post' ⟨rfl, hb100, hL101, hS102⟩ ⟨rfl, rfl, rfl, trivial⟩
  have hm := iteT hm hc103
  refine WL.runk 2 [0, 3, 35, 36, 37] [(0, .string (bs s_0)), (3, .int .i64 st38), (35, .bool true), (36, .string (bs s_0)), (37, .int .i64 st38)] (by kernel_rfl) ?_
  obtain ⟨x104, hx105, hm⟩ := bindE hm
  refine WL.st (.int .u8 (x104.toNat : Int)) (ST.sindex hx105 rfl rfl rfl Tryd.underlying9) rfl rfl rfl ?_
  refine WL.runk 2 [0, 3, 40] [(0, .string (bs s_0)), (3, .int .i64 st38), (40, .bool ((x104.toNat : Int) != 45))] (by kernel_rfl) ?_
  refine WL.nil ?_
  obtain rfl := Option.some.inj hm
  exact WQ.post' ⟨rfl, hb100, hL101, hS102⟩ ⟨rfl, rfl, rfl, trivial⟩

theorem c_23 (n : Nat) (n_0 : Int) (low_1 : Int) (high_2 : Int) (w : World) {r : Bool} (hm : m_spec_l00In n n_0 low_1 high_2 = some r)  :
    CallV Tryd.prog 23 #[.int .i64 n_0, .int .i64 low_1, .int .i64 high_2] w (fun v w' => v = .bool r ∧ Ext w w') := by
  unfold m_spec_l00In at hm
  refine CallV.enter Tryd.func23 rfl (by kernel_rfl) Tryd.ntmps23 (env := [(0, .int .i64 n_0), (1, .int .i64 low_1), (2, .int .i64 high_2)]) ⟨rfl, rfl, rfl, trivial⟩ ?_
  refine WP.seq (fun K1 hK1 => ?_)
  refine WP.region ?_
  refine WL.runk 1 [0, 1, 2] [(0, .int .i64 n_0), (1, .int .i64 low_1), (2, .int .i64 high_2)] (by kernel_rfl) ?_
  refine WL.nil ?_
  refine WQ.then_normal (hK1 _ _ _ ?_)
  refine WP.seq (fun K2 hK2 => ?_)
  obtain ⟨x4, hx5, hm⟩ := bindE hm
  refine WP.cut (fun env' w' => env' = [(6, .bool x4)] ∧ Ext w w' ∧ w.heap.size ≤ w'.heap.size ∧ SH w' w.heap.size []) ?_ ?_
  rotate_left
  · clear hx5
    rintro _ w7 ⟨rfl, hb8, hL9, hS10⟩
    refine WQ.then_normal (hK2 _ _ _ ?_)
    refine WP.ret ?_
    obtain rfl := Option.some.inj hm
    exact WQ.ret1 _ rfl rfl ⟨rfl, hb8⟩
  have hm := hx5; clear hx5
  refine WP.region ?_
  refine WL.runk 4 [0, 2, 10] [(0, .int .i64 n_0), (2, .int .i64 high_2), (10, .bool (decide (n_0 ≥ low_1)))] (by kernel_rfl) ?_
  refine WL.case (decide (n_0 ≥ low_1)) [10] ⟨rfl, trivial⟩ (fun hc6 => ?_) (fun hc6 => ?_)
  · have hm := iteT hm hc6
    refine WL.runk 5 [6] [(6, .bool (decide (n_0 ≤ high_2)))] (by kernel_rfl) ?_
    refine WL.nil ?_
    obtain rfl := Option.some.inj hm
    exact WQ.post' ⟨rfl, (Ext.refl w), (Nat.le_refl _), (SH.nil _ _)⟩ ⟨rfl, trivial⟩
  have hm := iteF hm hc6
  refine WL.runk 5 [6] [(6, .bool false)] (by kernel_rfl) ?_
  refine WL.nil ?_
  obtain rfl := Option.some.inj hm
  exact WQ.post' ⟨rfl, (Ext.refl w), (Nat.le_refl _), (SH.nil _ _)⟩ ⟨rfl, trivial⟩

theorem c_22 (n : Nat) (n_0 : Int) (w : World) {r : Bool} (hm : m_spec_l23Many n n_0 = some r)  :
    CallV Tryd.prog 22 #[.int .i64 n_0] w (fun v w' => v = .bool r ∧ Ext w w') := by
  unfold m_spec_l23Many at hm
  refine CallV.enter Tryd.func22 rfl (by kernel_rfl) Tryd.ntmps22 (env := [(0, .int .i64 n_0)]) ⟨rfl, trivial⟩ ?_
  refine WP.seq (fun K1 hK1 => ?_)
  refine WP.region ?_
  refine WL.runk 1 [0] [(0, .int .i64 n_0)] (by kernel_rfl) ?_
  refine WL.nil ?_
  refine WQ.then_normal (hK1 _ _ _ ?_)
  refine WP.seq (fun K2 hK2 => ?_)
  refine WP.region ?_
  refine WL.runk 1 [3] [(3, .int .i64 n_0)] (by kernel_rfl) ?_
  obtain ⟨x3, hx4, hm⟩ := bindE hm
  refine WL.call 23 #[.int .i64 n_0, .int .i64 0, .int .i64 1000000] rfl rfl (by kernel_rfl) (c_23 n n_0 0 1000000 w hx4 ) ?_
  rintro _ w5 ⟨rfl, hE6⟩
  refine ⟨_, rfl, ?_⟩
  have hb8 : Ext w w5 := Ext.trans (Ext.refl w) hE6
  have hL9 : w.heap.size ≤ w5.heap.size := Nat.le_trans (Nat.le_refl _) hE6.size
  have hS10 : SH w5 w.heap.size [] := SH.ext (SH.nil _ _) hE6
  refine WL.runk 1 [2] [(2, .bool x3)] (by kernel_rfl) ?_
  refine WL.nil ?_
  refine WQ.then_normal (hK2 _ _ _ ?_)
  refine WP.ret ?_
  obtain rfl := Option.some.inj hm
  exact WQ.ret1 _ rfl rfl ⟨rfl, hb8⟩

theorem c_12 (n : Nat) (g_0 : SGood) (b0' o0' : Nat) (w : World) {r : Bool} (hm : m_spec_l23One n g_0 = some r) (h0 : RdB w b0' o0' [.string (bs g_0.Name), .int .i64 g_0.OnHand, .int .i64 g_0.Reserved, .int .i64 g_0.Least]) :
    CallV Tryd.prog 12 #[.pointer (some ⟨b0', o0', none⟩)] w (fun v w' => v = .bool r ∧ Ext w w') := by
  unfold m_spec_l23One at hm
  refine CallV.enter Tryd.func12 rfl (by kernel_rfl) Tryd.ntmps12 (env := [(0, .pointer (some ⟨b0', o0', none⟩))]) ⟨rfl, trivial⟩ ?_
  refine WP.seq (fun K1 hK1 => ?_)
  refine WP.region ?_
  refine WL.runk 1 [0] [(0, .pointer (some ⟨b0', o0', none⟩))] (by kernel_rfl) ?_
  refine WL.nil ?_
  refine WQ.then_normal (hK1 _ _ _ ?_)
  refine WP.seq (fun K2 hK2 => ?_)
  obtain ⟨x42, hx43, hm⟩ := bindE hm
  refine WP.cut (fun env' w' => env' = [(2, .bool x42)] ∧ Ext w w' ∧ w.heap.size ≤ w'.heap.size ∧ SH w' w.heap.size []) ?_ ?_
  rotate_left
  · clear hx43
    rintro _ w83 ⟨rfl, hb84, hL85, hS86⟩
    refine WQ.then_normal (hK2 _ _ _ ?_)
    refine WP.ret ?_
    obtain rfl := Option.some.inj hm
    exact WQ.ret1 _ rfl rfl ⟨rfl, hb84⟩
  have hm := hx43; clear hx43
  refine WP.quiet (by kernel_rfl) (by kernel_rfl) ?_
  refine QL.step1v 3 (.pointer (some ⟨b0', o0', none⟩)) rfl (fun _ => by kernel_rfl) ?_
  refine QL.step1v 4 (.pointer (some ⟨b0', o0', none⟩)) rfl (fun _ => by kernel_rfl) ?_
  refine QL.step1v 5 (.pointer (some ⟨b0', o0', none⟩)) rfl (fun _ => by kernel_rfl) ?_
  refine QL.subk [0, 5] [(0, .pointer (some ⟨b0', o0', none⟩)), (5, .pointer (some ⟨b0', o0', none⟩))] (by kernel_rfl) ?_
  refine QL.st (.string (bs g_0.Name)) (ST.load (cell_ext (RdB.at (RdB.below h0 (Ext.refl w)) 0 _ rfl)) rfl rfl Tryd.underlying9 rfl) rfl rfl rfl ?_
  obtain ⟨x44, hx45, hm⟩ := bindE hm
  refine QL.call 21 #[.string (bs g_0.Name)] (.bool x44) (fun _ => by kernel_rfl) (fun w46 hE47 => c_21 n g_0.Name w46 hx45 ) rfl rfl rfl ?_
  refine QL.step1v 8 (.bool x44) rfl (fun _ => by kernel_rfl) ?_
  refine QL.subk [0, 8] [(0, .pointer (some ⟨b0', o0', none⟩)), (8, .bool x44)] (by kernel_rfl) ?_
  refine QL.case x44 [8] ⟨rfl, trivial⟩ (fun hc48 => ?_) (fun hc48 => ?_)
  rotate_left
  · have hm := iteF hm hc48
    refine QL.step1v 9 undef rfl (fun _ => by kernel_rfl) ?_
    refine QL.step1v 10 undef rfl (fun _ => by kernel_rfl) ?_
    refine QL.step1v 11 undef rfl (fun _ => by kernel_rfl) ?_
    refine QL.step1v 12 undef rfl (fun _ => by kernel_rfl) ?_
    refine QL.step1v 13 undef rfl (fun _ => by kernel_rfl) ?_
    refine QL.step1v 14 (.bool false) rfl (fun _ => by kernel_rfl) ?_
    refine QL.step1v 15 (.bool false) rfl (fun _ => by kernel_rfl) ?_
    refine QL.step1v 16 undef rfl (fun _ => by kernel_rfl) ?_
    refine QL.step1v 17 undef rfl (fun _ => by kernel_rfl) ?_
    refine QL.step1v 18 undef rfl (fun _ => by kernel_rfl) ?_
    refine QL.step1v 19 undef rfl (fun _ => by kernel_rfl) ?_
    refine QL.step1v 20 undef rfl (fun _ => by kernel_rfl) ?_
    refine QL.step1v 21 undef rfl (fun _ => by kernel_rfl) ?_
    refine QL.step1v 22 undef rfl (fun _ => by kernel_rfl) ?_
    refine QL.step1v 23 undef rfl (fun _ => by kernel_rfl) ?_
    refine QL.step1v 24 undef rfl (fun _ => by kernel_rfl) ?_
    refine QL.step1v 25 (.bool false) rfl (fun _ => by kernel_rfl) ?_
    refine QL.step1v 26 (.bool false) rfl (fun _ => by kernel_rfl) ?_
    refine QL.step1v 27 undef rfl (fun _ => by kernel_rfl) ?_
    refine QL.step1v 28 undef rfl (fun _ => by kernel_rfl) ?_
    refine QL.step1v 29 undef rfl (fun _ => by kernel_rfl) ?_
    refine QL.step1v 30 undef rfl (fun _ => by kernel_rfl) ?_
    refine QL.step1v 31 undef rfl (fun _ => by kernel_rfl) ?_
    refine QL.step1v 32 (.bool false) rfl (fun _ => by kernel_rfl) ?_
    refine QL.step1v 2 (.bool false) rfl (fun _ => by kernel_rfl) ?_
    refine QL.subk [2] [(2, .bool false)] (by kernel_rfl) ?_
    refine QL.nil ?_
    intro w78 hE79
    have hb80 : Ext w w78 := Ext.trans (Ext.refl w) hE79
    have hL81 : w.heap.size ≤ w78.heap.size := Nat.le_trans (Nat.le_refl _) hE79.size
    have hS82 : SH w78 w.heap.size [] := SH.ext (SH.nil _ _) hE79
    obtain rfl := Option.some.inj hm
    exact WQ.post' ⟨rfl, hb80, hL81, hS82⟩ ⟨rfl, trivial⟩
  have hm := iteT hm hc48
  refine QL.step1v 9 (.pointer (some ⟨b0', o0', none⟩)) rfl (fun _ => by kernel_rfl) ?_
  refine QL.step1v 10 (.pointer (some ⟨b0', o0', none⟩)) rfl (fun _ => by kernel_rfl) ?_
  refine QL.step1v 11 (.pointer (some ⟨b0', o0' + 1, none⟩)) rfl (fun _ => by kernel_rfl) ?_
  refine QL.subk [0, 8, 11] [(0, .pointer (some ⟨b0', o0', none⟩)), (8, .bool true), (11, .pointer (some ⟨b0', o0' + 1, none⟩))] (by kernel_rfl) ?_
  refine QL.st (.int .i64 g_0.OnHand) (ST.load (cell_ext (RdB.at (RdB.below h0 (Ext.refl w)) 1 _ rfl)) rfl rfl Tryd.underlying2 rfl) rfl rfl rfl ?_
  obtain ⟨x49, hx50, hm⟩ := bindE hm
  refine QL.call 22 #[.int .i64 g_0.OnHand] (.bool x49) (fun _ => by kernel_rfl) (fun w51 hE52 => c_22 n g_0.OnHand w51 hx50 ) rfl rfl rfl ?_
  refine QL.step1v 14 (.bool x49) rfl (fun _ => by kernel_rfl) ?_
  refine QL.step1v 15 (.bool x49) rfl (fun _ => by kernel_rfl) ?_
  refine QL.subk [0, 15] [(0, .pointer (some ⟨b0', o0', none⟩)), (15, .bool x49)] (by kernel_rfl) ?_
  refine QL.case x49 [15] ⟨rfl, trivial⟩ (fun hc53 => ?_) (fun hc53 => ?_)
  rotate_left
  · have hm := iteF hm hc53
    refine QL.step1v 16 undef rfl (fun _ => by kernel_rfl) ?_
    refine QL.step1v 17 undef rfl (fun _ => by kernel_rfl) ?_
    refine QL.step1v 18 undef rfl (fun _ => by kernel_rfl) ?_
    refine QL.step1v 19 undef rfl (fun _ => by kernel_rfl) ?_
    refine QL.step1v 20 undef rfl (fun _ => by kernel_rfl) ?_
    refine QL.step1v 21 undef rfl (fun _ => by kernel_rfl) ?_
    refine QL.step1v 22 undef rfl (fun _ => by kernel_rfl) ?_
    refine QL.step1v 23 undef rfl (fun _ => by kernel_rfl) ?_
    refine QL.step1v 24 undef rfl (fun _ => by kernel_rfl) ?_
    refine QL.step1v 25 (.bool false) rfl (fun _ => by kernel_rfl) ?_
    refine QL.step1v 26 (.bool false) rfl (fun _ => by kernel_rfl) ?_
    refine QL.step1v 27 undef rfl (fun _ => by kernel_rfl) ?_
    refine QL.step1v 28 undef rfl (fun _ => by kernel_rfl) ?_
    refine QL.step1v 29 undef rfl (fun _ => by kernel_rfl) ?_
    refine QL.step1v 30 undef rfl (fun _ => by kernel_rfl) ?_
    refine QL.step1v 31 undef rfl (fun _ => by kernel_rfl) ?_
    refine QL.step1v 32 (.bool false) rfl (fun _ => by kernel_rfl) ?_
    refine QL.step1v 2 (.bool false) rfl (fun _ => by kernel_rfl) ?_
    refine QL.subk [2] [(2, .bool false)] (by kernel_rfl) ?_
    refine QL.nil ?_
    intro w73 hE74
    have hb75 : Ext w w73 := Ext.trans (Ext.refl w) hE74
    have hL76 : w.heap.size ≤ w73.heap.size := Nat.le_trans (Nat.le_refl _) hE74.size
    have hS77 : SH w73 w.heap.size [] := SH.ext (SH.nil _ _) hE74
    obtain rfl := Option.some.inj hm
    exact WQ.post' ⟨rfl, hb75, hL76, hS77⟩ ⟨rfl, trivial⟩
  have hm := iteT hm hc53
  refine QL.step1v 16 (.pointer (some ⟨b0', o0', none⟩)) rfl (fun _ => by kernel_rfl) ?_
  refine QL.step1v 17 (.pointer (some ⟨b0', o0', none⟩)) rfl (fun _ => by kernel_rfl) ?_
  refine QL.step1v 18 (.pointer (some ⟨b0', o0' + 2, none⟩)) rfl (fun _ => by kernel_rfl) ?_
  refine QL.subk [0, 15, 18] [(0, .pointer (some ⟨b0', o0', none⟩)), (15, .bool true), (18, .pointer (some ⟨b0', o0' + 2, none⟩))] (by kernel_rfl) ?_
  refine QL.st (.int .i64 g_0.Reserved) (ST.load (cell_ext (RdB.at (RdB.below h0 (Ext.refl w)) 2 _ rfl)) rfl rfl Tryd.underlying2 rfl) rfl rfl rfl ?_
  refine QL.step1v 20 (.pointer (some ⟨b0', o0', none⟩)) rfl (fun _ => by kernel_rfl) ?_
  refine QL.step1v 21 (.pointer (some ⟨b0', o0', none⟩)) rfl (fun _ => by kernel_rfl) ?_
  refine QL.step1v 22 (.pointer (some ⟨b0', o0' + 1, none⟩)) rfl (fun _ => by kernel_rfl) ?_
  refine QL.subk [0, 15, 19, 22] [(0, .pointer (some ⟨b0', o0', none⟩)), (15, .bool true), (19, .int .i64 g_0.Reserved), (22, .pointer (some ⟨b0', o0' + 1, none⟩))] (by kernel_rfl) ?_
  refine QL.st (.int .i64 g_0.OnHand) (ST.load (cell_ext (RdB.at (RdB.below h0 (Ext.refl w)) 1 _ rfl)) rfl rfl Tryd.underlying2 rfl) rfl rfl rfl ?_
  obtain ⟨x54, hx55, hm⟩ := bindE hm
  refine QL.call 23 #[.int .i64 g_0.Reserved, .int .i64 0, .int .i64 g_0.OnHand] (.bool x54) (fun _ => by kernel_rfl) (fun w56 hE57 => c_23 n g_0.Reserved 0 g_0.OnHand w56 hx55 ) rfl rfl rfl ?_
  refine QL.step1v 25 (.bool x54) rfl (fun _ => by kernel_rfl) ?_
  refine QL.step1v 26 (.bool x54) rfl (fun _ => by kernel_rfl) ?_
  refine QL.subk [0, 26] [(0, .pointer (some ⟨b0', o0', none⟩)), (26, .bool x54)] (by kernel_rfl) ?_
  refine QL.case x54 [26] ⟨rfl, trivial⟩ (fun hc58 => ?_) (fun hc58 => ?_)
  rotate_left
  · have hm := iteF hm hc58
    refine QL.step1v 27 undef rfl (fun _ => by kernel_rfl) ?_
    refine QL.step1v 28 undef rfl (fun _ => by kernel_rfl) ?_
    refine QL.step1v 29 undef rfl (fun _ => by kernel_rfl) ?_
    refine QL.step1v 30 undef rfl (fun _ => by kernel_rfl) ?_
    refine QL.step1v 31 undef rfl (fun _ => by kernel_rfl) ?_
    refine QL.step1v 32 (.bool false) rfl (fun _ => by kernel_rfl) ?_
    refine QL.step1v 2 (.bool false) rfl (fun _ => by kernel_rfl) ?_
    refine QL.subk [2] [(2, .bool false)] (by kernel_rfl) ?_
    refine QL.nil ?_
    intro w68 hE69
    have hb70 : Ext w w68 := Ext.trans (Ext.refl w) hE69
    have hL71 : w.heap.size ≤ w68.heap.size := Nat.le_trans (Nat.le_refl _) hE69.size
    have hS72 : SH w68 w.heap.size [] := SH.ext (SH.nil _ _) hE69
    obtain rfl := Option.some.inj hm
    exact WQ.post' ⟨rfl, hb70, hL71, hS72⟩ ⟨rfl, trivial⟩
  have hm := iteT hm hc58
  refine QL.step1v 27 (.pointer (some ⟨b0', o0', none⟩)) rfl (fun _ => by kernel_rfl) ?_
  refine QL.step1v 28 (.pointer (some ⟨b0', o0', none⟩)) rfl (fun _ => by kernel_rfl) ?_
  refine QL.step1v 29 (.pointer (some ⟨b0', o0' + 3, none⟩)) rfl (fun _ => by kernel_rfl) ?_
  refine QL.subk [26, 29] [(26, .bool true), (29, .pointer (some ⟨b0', o0' + 3, none⟩))] (by kernel_rfl) ?_
  refine QL.st (.int .i64 g_0.Least) (ST.load (cell_ext (RdB.at (RdB.below h0 (Ext.refl w)) 3 _ rfl)) rfl rfl Tryd.underlying2 rfl) rfl rfl rfl ?_
  obtain ⟨x59, hx60, hm⟩ := bindE hm
  refine QL.call 22 #[.int .i64 g_0.Least] (.bool x59) (fun _ => by kernel_rfl) (fun w61 hE62 => c_22 n g_0.Least w61 hx60 ) rfl rfl rfl ?_
  refine QL.step1v 32 (.bool x59) rfl (fun _ => by kernel_rfl) ?_
  refine QL.step1v 2 (.bool x59) rfl (fun _ => by kernel_rfl) ?_
  refine QL.subk [2] [(2, .bool x59)] (by kernel_rfl) ?_
  refine QL.nil ?_
  intro w63 hE64
  have hb65 : Ext w w63 := Ext.trans (Ext.refl w) hE64
  have hL66 : w.heap.size ≤ w63.heap.size := Nat.le_trans (Nat.le_refl _) hE64.size
  have hS67 : SH w63 w.heap.size [] := SH.ext (SH.nil _ _) hE64
  obtain rfl := Option.some.inj hm
  exact WQ.post' ⟨rfl, hb65, hL66, hS67⟩ ⟨rfl, trivial⟩

theorem c_24 (n : Nat) (n_0 : Int) (w : World) {r : List UInt8} (hm : m_spec_l01Dec n n_0 = some r)  :
    CallV Tryd.prog 24 #[.int .i64 n_0] w (fun v w' => v = .string (bs r) ∧ Ext w w') := by
  unfold m_spec_l01Dec at hm
  refine CallV.enter Tryd.func24 rfl (by kernel_rfl) Tryd.ntmps24 (env := [(0, .int .i64 n_0)]) ⟨rfl, trivial⟩ ?_
  refine WP.seq (fun K1 hK1 => ?_)
  refine WP.region ?_
  refine WL.runk 1 [0] [(0, .int .i64 n_0)] (by kernel_rfl) ?_
  refine WL.nil ?_
  refine WQ.then_normal (hK1 _ _ _ ?_)
  refine WP.seq (fun K2 hK2 => ?_)
  refine WP.region ?_
  refine WL.row fU8 5 ([] : List Int) 0 #[] 6 (by kernel_rfl) rfl rfl rfl rfl rfl rfl rfl ?_
  intro a3 c4 w5 hE6 hR7
  have hb9 : Ext w w5 := Ext.trans (Ext.refl w) hE6
  have hL10 : w.heap.size ≤ w5.heap.size := Nat.le_trans (Nat.le_refl _) hE6.size
  have hS11 : SH w5 w.heap.size [aOwn fU8 5 a3 c4 ([] : List Int)] := SH.add (SH.nil _ _) hE6 (Nat.le_refl _) hR7
  refine WL.runk 1 [0, 3] [(0, .int .i64 n_0), (3, .slice a3 (([] : List Int).length) c4)] (by kernel_rfl) ?_
  refine WL.nil ?_
  refine WQ.then_normal (hK2 _ _ _ ?_)
  refine WP.seq (fun K12 hK12 => ?_)
  refine WP.seq (fun K13 hK13 => ?_)
  refine WP.region ?_
  refine WL.runk 2 [0, 3, 4] [(0, .int .i64 n_0), (3, .slice a3 (([] : List Int).length) c4), (4, .int .i64 n_0)] (by kernel_rfl) ?_
  refine WL.nil ?_
  refine WQ.then_normal (hK13 _ _ _ ?_)
  refine WP.block ?_
  obtain ⟨t28, ht29, hm⟩ := bindE hm
  have hmo23 := hm; clear hm
  refine WP.sub [(0, .int .i64 n_0), (3, .slice a3 (([] : List Int).length) c4), (4, .int .i64 n_0)] ⟨rfl, rfl, rfl, trivial⟩ ?_
  refine WP.loop (fun n' env' w' => ∃ (st14 : List Int × Int) (a15 : Option Addr) (c16 : Nat), env' = [(0, .int .i64 n_0), (3, .slice a15 st14.1.length c16), (4, .int .i64 st14.2)] ∧ Ext w w' ∧ w.heap.size ≤ w'.heap.size ∧ SH w' w.heap.size [aOwn fU8 5 a15 c16 st14.1] ∧ loopN (m_spec_l01Dec_l1 n) n' st14 = some t28) n ⟨(([] : List Int), n_0), _, _, rfl, hb9, hL10, hS11, ht29⟩ ?_
  rintro n25 _ w18 ⟨st14, a15, c16, rfl, hb19, hL20, hS21, hl22⟩ K24 hK24
  obtain ⟨n26, s27, rfl, hm, hl22⟩ := loopN_some hl22
  unfold m_spec_l01Dec_l1 at hm
  refine WP.seq (fun K30 hK30 => ?_)
  refine WP.seq (fun K31 hK31 => ?_)
  refine WP.region ?_
  refine WL.runk 2 [0, 3, 4, 9] [(0, .int .i64 n_0), (3, .slice a15 st14.1.length c16), (4, .int .i64 st14.2), (9, .bool (st14.2 != 0))] (by kernel_rfl) ?_
  refine WL.nil ?_
  refine WQ.then_normal (hK31 _ _ _ ?_)
  refine WP.cond (st14.2 != 0) rfl rfl (fun hc32 => ?_) (fun hc32 => ?_)
  · have hm := iteT hm hc32
    refine WP.skip ?_
    refine WQ.then_normal (hK30 _ _ _ ?_)
    refine WP.seq (fun K33 hK33 => ?_)
    refine WP.block ?_
    refine WP.seq (fun K34 hK34 => ?_)
    refine WP.region ?_
    refine WL.runk 3 [0, 3, 4, 5] [(0, .int .i64 n_0), (3, .slice a15 st14.1.length c16), (4, .int .i64 st14.2), (5, .int .i64 (Int.tmod st14.2 10))] (by kernel_rfl) ?_
    refine WL.nil ?_
    refine WQ.then_normal (hK34 _ _ _ ?_)
    refine WP.seq (fun K35 hK35 => ?_)
    refine WP.seq (fun K36 hK36 => ?_)
    refine WP.region ?_
    refine WL.runk 2 [0, 3, 4, 5, 15] [(0, .int .i64 n_0), (3, .slice a15 st14.1.length c16), (4, .int .i64 st14.2), (5, .int .i64 (Int.tmod st14.2 10)), (15, .bool (decide ((Int.tmod st14.2 10) < 0)))] (by kernel_rfl) ?_
    refine WL.nil ?_
    refine WQ.then_normal (hK36 _ _ _ ?_)
    obtain ⟨x38, hx39, hm⟩ := bindE hm
    refine WP.cut (fun env' w' => env' = [(0, .int .i64 n_0), (3, .slice a15 st14.1.length c16), (4, .int .i64 st14.2), (5, .int .i64 x38)] ∧ Ext w w' ∧ w.heap.size ≤ w'.heap.size ∧ SH w' w.heap.size [aOwn fU8 5 a15 c16 st14.1]) ?_ ?_
    · have hm := hx39; clear hx39
      refine WP.cond (decide ((Int.tmod st14.2 10) < 0)) rfl rfl (fun hc37 => ?_) (fun hc37 => ?_)
      rotate_left
      · have hm := iteF hm hc37
        refine WP.skip ?_
        obtain rfl := Option.some.inj hm
        exact WQ.post' ⟨rfl, hb19, hL20, hS21⟩ ⟨rfl, rfl, rfl, rfl, trivial⟩
      have hm := iteT hm hc37
      refine WP.region ?_
      refine WL.runk 3 [0, 3, 4, 5] [(0, .int .i64 n_0), (3, .slice a15 st14.1.length c16), (4, .int .i64 st14.2), (5, .int .i64 (wI64 (0 - (Int.tmod st14.2 10))))] (by kernel_rfl) ?_
      refine WL.nil ?_
      obtain rfl := Option.some.inj hm
      exact WQ.post' ⟨rfl, hb19, hL20, hS21⟩ ⟨rfl, rfl, rfl, rfl, trivial⟩
    clear hx39
    rintro _ w40 ⟨rfl, hb41, hL42, hS43⟩
    refine WQ.then_normal (hK35 _ _ _ ?_)
    refine WP.region ?_
    refine WL.runk 3 [0, 3, 4, 20] [(0, .int .i64 n_0), (3, .slice a15 st14.1.length c16), (4, .int .i64 st14.2), (20, .int .u8 (IntKind.u8.wrap (wI64 (48 + x38))))] (by kernel_rfl) ?_
    refine WL.row fU8 5 ([(IntKind.u8.wrap (wI64 (48 + x38)))] : List Int) 1 #[.int .u8 (IntKind.u8.wrap (wI64 (48 + x38)))] 21 (by kernel_rfl) rfl rfl rfl rfl rfl rfl rfl ?_
    intro a44 c45 w46 hE47 hR48
    have hb50 : Ext w w46 := Ext.trans hb41 hE47
    have hL51 : w.heap.size ≤ w46.heap.size := Nat.le_trans hL42 hE47.size
    have hS52 : SH w46 w.heap.size [aOwn fU8 5 a44 c45 ([(IntKind.u8.wrap (wI64 (48 + x38)))] : List Int), aOwn fU8 5 a15 c16 st14.1] := SH.add hS43 hE47 hL42 hR48
    refine WL.runk 1 [0, 4, 21, 22] [(0, .int .i64 n_0), (4, .int .i64 st14.2), (21, .slice a44 (([(IntKind.u8.wrap (wI64 (48 + x38)))] : List Int).length) c45), (22, .slice a15 st14.1.length c16)] (by kernel_rfl) ?_
    obtain ⟨x53, hx54, hm⟩ := bindE hm
    refine WL.append (F := fU8) (xs := ([(IntKind.u8.wrap (wI64 (48 + x38)))] : List Int)) (ys := st14.1) 23 (SH.front 0 hS52) hL51 (SH.rd (SH.front 1 hS52)) hx54 rfl rfl rfl Tryd.underlying57 (info5).1 (info5).2.2.1 (info5).2.1 (info5).2.2.2 rfl rfl rfl rfl rfl ?_
    intro a55 c56 w57 hB58 hS59
    have hb60 : Ext w w57 := Below.trans hb50 hB58
    have hL61 : w.heap.size ≤ w57.heap.size := Nat.le_trans hL51 hB58.size
    refine WL.runk 1 [0, 3, 4] [(0, .int .i64 n_0), (4, .int .i64 st14.2), (3, .slice a55 x53.length c56)] (by kernel_rfl) ?_
    refine WL.nil ?_
    refine WQ.block_normal ?_
    refine WQ.then_normal (hK33 _ _ _ ?_)
    refine WP.region ?_
    refine WL.runk 3 [0, 3, 4] [(0, .int .i64 n_0), (4, .int .i64 (wI64 (Int.tdiv st14.2 10))), (3, .slice a55 x53.length c56)] (by kernel_rfl) ?_
    refine WL.nil ?_
    obtain rfl := Option.some.inj hm
    exact WQ.round hK24 ⟨(x53, (wI64 (Int.tdiv st14.2 10))), _, _, rfl, hb60, hL61, (SH.take 1 hS59), hl22⟩ (Nat.lt_succ_self _) ⟨rfl, rfl, rfl, trivial⟩
  have hm := iteF hm hc32
  refine WP.exit ?_
  refine WQ.then_exit ?_
  refine WQ.then_exit ?_
  refine WQ.block_here ?_
  obtain rfl := Option.some.inj hm
  obtain rfl := afterN_done hl22
  have hm := hmo23
  refine WQ.then_normal (hK12 _ _ _ ?_)
  refine WP.seq (fun K62 hK62 => ?_)
  refine WP.seq (fun K63 hK63 => ?_)
  refine WP.region ?_
  refine WL.runk 3 [0, 3, 26] [(0, .int .i64 n_0), (3, .slice a15 st14.1.length c16), (26, .bool ((st14.1.length : Int) == 0))] (by kernel_rfl) ?_
  refine WL.nil ?_
  refine WQ.then_normal (hK63 _ _ _ ?_)
  refine WP.cond ((st14.1.length : Int) == 0) rfl rfl (fun hc64 => ?_) (fun hc64 => ?_)
  · have hm := iteT hm hc64
    refine WP.seq (fun K65 hK65 => ?_)
    refine WP.region ?_
    refine WL.runk 1 [2] [(2, .string (bs [48]))] (by kernel_rfl) ?_
    refine WL.nil ?_
    refine WQ.then_normal (hK65 _ _ _ ?_)
    refine WP.ret ?_
    refine WQ.then_ret ?_
    obtain rfl := Option.some.inj hm
    exact WQ.ret1 _ rfl rfl ⟨rfl, hb19⟩
  have hm := iteF hm hc64
  refine WP.skip ?_
  refine WQ.then_normal (hK62 _ _ _ ?_)
  refine WP.seq (fun K66 hK66 => ?_)
  refine WP.seq (fun K67 hK67 => ?_)
  refine WP.region ?_
  refine WL.runk 2 [3, 28] [(3, .slice a15 st14.1.length c16), (28, .bool (decide (n_0 < 0)))] (by kernel_rfl) ?_
  refine WL.nil ?_
  refine WQ.then_normal (hK67 _ _ _ ?_)
  refine WP.cond (decide (n_0 < 0)) rfl rfl (fun hc68 => ?_) (fun hc68 => ?_)
  rotate_left
  · have hm := iteF hm hc68
    refine WP.skip ?_
    refine WQ.then_normal (hK66 _ _ _ ?_)
    refine WP.seq (fun K72 hK72 => ?_)
    refine WP.region ?_
    refine WL.runk 1 [32] [(32, .slice a15 st14.1.length c16)] (by kernel_rfl) ?_
    refine WL.st (.string (bs (ofBytes st14.1))) (ST.b2s (SH.rd (SH.front 0 hS21)) (SH.le (SH.front 0 hS21)).2 rfl rfl Tryd.underlying57 Tryd.underlying9 Tryd.underlying5) rfl rfl rfl ?_
    refine WL.runk 1 [2] [(2, .string (bs (ofBytes st14.1)))] (by kernel_rfl) ?_
    refine WL.nil ?_
    refine WQ.then_normal (hK72 _ _ _ ?_)
    refine WP.ret ?_
    obtain rfl := Option.some.inj hm
    exact WQ.ret1 _ rfl rfl ⟨rfl, hb19⟩
  have hm := iteT hm hc68
  refine WP.seq (fun K69 hK69 => ?_)
  refine WP.region ?_
  refine WL.runk 1 [29] [(29, .slice a15 st14.1.length c16)] (by kernel_rfl) ?_
  refine WL.st (.string (bs (ofBytes st14.1))) (ST.b2s (SH.rd (SH.front 0 hS21)) (SH.le (SH.front 0 hS21)).2 rfl rfl Tryd.underlying57 Tryd.underlying9 Tryd.underlying5) rfl rfl rfl ?_
  obtain ⟨x70, hx71, hm⟩ := bindE hm
  refine WL.st (.string (bs x70)) (ST.cat hx71 rfl rfl rfl) rfl rfl rfl ?_
  refine WL.runk 1 [2] [(2, .string (bs x70))] (by kernel_rfl) ?_
  refine WL.nil ?_
  refine WQ.then_normal (hK69 _ _ _ ?_)
  refine WP.ret ?_
  refine WQ.then_ret ?_
  obtain rfl := Option.some.inj hm
  exact WQ.ret1 _ rfl rfl ⟨rfl, hb19⟩

theorem c_25 (n : Nat) (s_0 : List UInt8) (w : World) {r : Bool} (hm : m_impl_IsName n s_0 = some r)  :
    CallV Tryd.prog 25 #[.string (bs s_0)] w (fun v w' => v = .bool r ∧ Ext w w') := by
  unfold m_impl_IsName at hm
  refine CallV.enter Tryd.func25 rfl (by kernel_rfl) Tryd.ntmps25 (env := [(0, .string (bs s_0))]) ⟨rfl, trivial⟩ ?_
  refine WP.seq (fun K1 hK1 => ?_)
  refine WP.region ?_
  refine WL.runk 1 [0] [(0, .string (bs s_0))] (by kernel_rfl) ?_
  refine WL.nil ?_
  refine WQ.then_normal (hK1 _ _ _ ?_)
  refine WP.seq (fun K2 hK2 => ?_)
  refine WP.seq (fun K3 hK3 => ?_)
  obtain ⟨x11, hx12, hm⟩ := bindE hm
  refine WP.cut (fun env' w' => env' = [(0, .string (bs s_0)), (21, .bool x11)] ∧ Ext w w' ∧ w.heap.size ≤ w'.heap.size ∧ SH w' w.heap.size []) ?_ ?_
  · have hm := hx12; clear hx12
    refine WP.region ?_
    refine WL.runk 4 [0, 7] [(0, .string (bs s_0)), (7, .bool (decide ((s_0.length : Int) < 1)))] (by kernel_rfl) ?_
    refine WL.case (decide ((s_0.length : Int) < 1)) [7] ⟨rfl, trivial⟩ (fun hc13 => ?_) (fun hc13 => ?_)
    · have hm := iteT hm hc13
      refine WL.runk 14 [0, 21] [(0, .string (bs s_0)), (21, .bool true)] (by kernel_rfl) ?_
      refine WL.nil ?_
      obtain rfl := Option.some.inj hm
      exact WQ.post' ⟨rfl, (Ext.refl w), (Nat.le_refl _), (SH.nil _ _)⟩ ⟨rfl, rfl, trivial⟩
    have hm := iteF hm hc13
    refine WL.runk 5 [0, 12] [(0, .string (bs s_0)), (12, .bool (decide ((s_0.length : Int) > 12)))] (by kernel_rfl) ?_
    refine WL.case (decide ((s_0.length : Int) > 12)) [12] ⟨rfl, trivial⟩ (fun hc14 => ?_) (fun hc14 => ?_)
    · have hm := iteT hm hc14
      refine WL.runk 9 [0, 21] [(0, .string (bs s_0)), (21, .bool true)] (by kernel_rfl) ?_
      refine WL.nil ?_
      obtain rfl := Option.some.inj hm
      exact WQ.post' ⟨rfl, (Ext.refl w), (Nat.le_refl _), (SH.nil _ _)⟩ ⟨rfl, rfl, trivial⟩
    have hm := iteF hm hc14
    refine WL.runk 1 [0, 12, 13] [(0, .string (bs s_0)), (12, .bool false), (13, .string (bs s_0))] (by kernel_rfl) ?_
    obtain ⟨x15, hx16, hm⟩ := bindE hm
    refine WL.st (.int .u8 (x15.toNat : Int)) (ST.sindex hx16 rfl rfl rfl Tryd.underlying9) rfl rfl rfl ?_
    refine WL.runk 3 [0, 17] [(0, .string (bs s_0)), (17, .bool (decide ((x15.toNat : Int) < 97)))] (by kernel_rfl) ?_
    refine WL.case (decide ((x15.toNat : Int) < 97)) [17] ⟨rfl, trivial⟩ (fun hc17 => ?_) (fun hc17 => ?_)
    · have hm := iteT hm hc17
      refine WL.runk 4 [0, 21] [(0, .string (bs s_0)), (21, .bool true)] (by kernel_rfl) ?_
      refine WL.nil ?_
      obtain rfl := Option.some.inj hm
      exact WQ.post' ⟨rfl, (Ext.refl w), (Nat.le_refl _), (SH.nil _ _)⟩ ⟨rfl, rfl, trivial⟩
    have hm := iteF hm hc17
    refine WL.runk 1 [0, 17, 18] [(0, .string (bs s_0)), (17, .bool false), (18, .string (bs s_0))] (by kernel_rfl) ?_
    obtain ⟨x18, hx19, hm⟩ := bindE hm
    refine WL.st (.int .u8 (x18.toNat : Int)) (ST.sindex hx19 rfl rfl rfl Tryd.underlying9) rfl rfl rfl ?_
    refine WL.runk 2 [0, 21] [(0, .string (bs s_0)), (21, .bool (decide ((x18.toNat : Int) > 122)))] (by kernel_rfl) ?_
    refine WL.nil ?_
    obtain rfl := Option.some.inj hm
    exact WQ.post' ⟨rfl, (Ext.refl w), (Nat.le_refl _), (SH.nil _ _)⟩ ⟨rfl, rfl, trivial⟩
  clear hx12
  rintro _ w20 ⟨rfl, hb21, hL22, hS23⟩
  refine WQ.then_normal (hK3 _ _ _ ?_)
  refine WP.cond x11 rfl rfl (fun hc24 => ?_) (fun hc24 => ?_)
  · have hm := iteT hm hc24
    refine WP.seq (fun K25 hK25 => ?_)
    refine WP.region ?_
    refine WL.runk 1 [2] [(2, .bool false)] (by kernel_rfl) ?_
    refine WL.nil ?_
    refine WQ.then_normal (hK25 _ _ _ ?_)
    refine WP.ret ?_
    refine WQ.then_ret ?_
    obtain rfl := Option.some.inj hm
    exact WQ.ret1 _ rfl rfl ⟨rfl, hb21⟩
  have hm := iteF hm hc24
  refine WP.skip ?_
  refine WQ.then_normal (hK2 _ _ _ ?_)
  refine WP.seq (fun K26 hK26 => ?_)
  refine WP.seq (fun K27 hK27 => ?_)
  refine WP.region ?_
  refine WL.runk 1 [0, 3] [(0, .string (bs s_0)), (3, .int .i64 1)] (by kernel_rfl) ?_
  refine WL.nil ?_
  refine WQ.then_normal (hK27 _ _ _ ?_)
  refine WP.block ?_
  obtain ⟨t39, ht40, hm⟩ := bindE hm
  have hmo34 := hm; clear hm
  refine WP.sub [(0, .string (bs s_0)), (3, .int .i64 1)] ⟨rfl, rfl, trivial⟩ ?_
  refine WP.loop (fun n' env' w' => ∃ (st28 : Int) , env' = [(0, .string (bs s_0)), (3, .int .i64 st28)] ∧ Ext w w' ∧ w.heap.size ≤ w'.heap.size ∧ SH w' w.heap.size [] ∧ loopN (m_impl_IsName_l1 n s_0) n' st28 = some t39) n ⟨1, rfl, hb21, hL22, hS23, ht40⟩ ?_
  rintro n36 _ w29 ⟨st28, rfl, hb30, hL31, hS32, hl33⟩ K35 hK35
  obtain ⟨n37, s38, rfl, hm, hl33⟩ := loopN_some hl33
  unfold m_impl_IsName_l1 at hm
  refine WP.seq (fun K41 hK41 => ?_)
  refine WP.seq (fun K42 hK42 => ?_)
  refine WP.region ?_
  refine WL.runk 4 [0, 3, 25] [(0, .string (bs s_0)), (3, .int .i64 st28), (25, .bool (decide (st28 < (s_0.length : Int))))] (by kernel_rfl) ?_
  refine WL.nil ?_
  refine WQ.then_normal (hK42 _ _ _ ?_)
  refine WP.cond (decide (st28 < (s_0.length : Int))) rfl rfl (fun hc43 => ?_) (fun hc43 => ?_)
  rotate_left
  · have hm := iteF hm hc43
    refine WP.exit ?_
    refine WQ.then_exit ?_
    refine WQ.then_exit ?_
    refine WQ.block_here ?_
    obtain rfl := Option.some.inj hm
    obtain rfl := afterN_done hl33
    have hm := hmo34
    refine WQ.then_normal (hK26 _ _ _ ?_)
    refine WP.seq (fun K106 hK106 => ?_)
    refine WP.region ?_
    refine WL.runk 1 [2] [(2, .bool true)] (by kernel_rfl) ?_
    refine WL.nil ?_
    refine WQ.then_normal (hK106 _ _ _ ?_)
    refine WP.ret ?_
    obtain rfl := Option.some.inj hm
    exact WQ.ret1 _ rfl rfl ⟨rfl, hb30⟩
  have hm := iteT hm hc43
  refine WP.skip ?_
  refine WQ.then_normal (hK41 _ _ _ ?_)
  refine WP.seq (fun K44 hK44 => ?_)
  refine WP.block ?_
  refine WP.seq (fun K45 hK45 => ?_)
  obtain ⟨x72, hx73, hm⟩ := bindE hm
  refine WP.cut (fun env' w' => env' = [(0, .string (bs s_0)), (3, .int .i64 st28), (55, .bool x72)] ∧ Ext w w' ∧ w.heap.size ≤ w'.heap.size ∧ SH w' w.heap.size []) ?_ ?_
  rotate_left
  · clear hx73
    rintro _ w100 ⟨rfl, hb101, hL102, hS103⟩
    refine WQ.then_normal (hK45 _ _ _ ?_)
    refine WP.cond x72 rfl rfl (fun hc104 => ?_) (fun hc104 => ?_)
    rotate_left
    · have hm := iteF hm hc104
      refine WP.skip ?_
      refine WQ.block_normal ?_
      refine WQ.then_normal (hK44 _ _ _ ?_)
      refine WP.region ?_
      refine WL.runk 3 [0, 3] [(0, .string (bs s_0)), (3, .int .i64 (wI64 (st28 + 1)))] (by kernel_rfl) ?_
      refine WL.nil ?_
      obtain rfl := Option.some.inj hm
      exact WQ.round hK35 ⟨(wI64 (st28 + 1)), rfl, hb101, hL102, hS103, hl33⟩ (Nat.lt_succ_self _) ⟨rfl, rfl, trivial⟩
    have hm := iteT hm hc104
    refine WP.seq (fun K105 hK105 => ?_)
    refine WP.region ?_
    refine WL.runk 1 [2] [(2, .bool false)] (by kernel_rfl) ?_
    refine WL.nil ?_
    refine WQ.then_normal (hK105 _ _ _ ?_)
    refine WP.ret ?_
    refine WQ.block_ret ?_
    refine WQ.then_ret ?_
    refine WQ.then_ret ?_
    refine WQ.block_ret ?_
    refine WQ.then_ret ?_
    obtain rfl := Option.some.inj hm
    obtain rfl := afterN_done hl33
    have hm := hmo34
    obtain rfl := Option.some.inj hm
    exact WQ.ret1 _ rfl rfl ⟨rfl, hb101⟩
  have hm := hx73; clear hx73
  refine WP.region ?_
  refine WL.runk 2 [0, 3, 28, 29] [(0, .string (bs s_0)), (3, .int .i64 st28), (28, .string (bs s_0)), (29, .int .i64 st28)] (by kernel_rfl) ?_
  obtain ⟨x74, hx75, hm⟩ := bindE hm
  refine WL.st (.int .u8 (x74.toNat : Int)) (ST.sindex hx75 rfl rfl rfl Tryd.underlying9) rfl rfl rfl ?_
  refine WL.runk 2 [0, 3, 32] [(0, .string (bs s_0)), (3, .int .i64 st28), (32, .bool (decide ((x74.toNat : Int) < 97)))] (by kernel_rfl) ?_
  refine WL.case (decide ((x74.toNat : Int) < 97)) [32] ⟨rfl, trivial⟩ (fun hc76 => ?_) (fun hc76 => ?_)
  · have hm := iteT hm hc76
    refine WL.runk 8 [0, 3, 38, 39, 40] [(0, .string (bs s_0)), (3, .int .i64 st28), (38, .bool true), (39, .string (bs s_0)), (40, .int .i64 st28)] (by kernel_rfl) ?_
    obtain ⟨x77, hx78, hm⟩ := bindE hm
    refine WL.st (.int .u8 (x77.toNat : Int)) (ST.sindex hx78 rfl rfl rfl Tryd.underlying9) rfl rfl rfl ?_
    refine WL.runk 2 [0, 3, 38, 43] [(0, .string (bs s_0)), (3, .int .i64 st28), (38, .bool true), (43, .bool (decide ((x77.toNat : Int) < 48)))] (by kernel_rfl) ?_
    refine WL.case (decide ((x77.toNat : Int) < 48)) [43] ⟨rfl, trivial⟩ (fun hc79 => ?_) (fun hc79 => ?_)
    · have hm := iteT hm hc79
      refine WL.runk 9 [0, 3, 50, 51, 52] [(0, .string (bs s_0)), (3, .int .i64 st28), (50, .bool true), (51, .string (bs s_0)), (52, .int .i64 st28)] (by kernel_rfl) ?_
      obtain ⟨x80, hx81, hm⟩ := bindE hm
      refine WL.st (.int .u8 (x80.toNat : Int)) (ST.sindex hx81 rfl rfl rfl Tryd.underlying9) rfl rfl rfl ?_
      refine WL.runk 2 [0, 3, 55] [(0, .string (bs s_0)), (3, .int .i64 st28), (55, .bool ((x80.toNat : Int) != 45))] (by kernel_rfl) ?_
      refine WL.nil ?_
      obtain rfl := Option.some.inj hm
      exact WQ.post' ⟨rfl, hb30, hL31, hS32⟩ ⟨rfl, rfl, rfl, trivial⟩
    have hm := iteF hm hc79
    refine WL.runk 2 [0, 3, 38, 43, 44, 45] [(0, .string (bs s_0)), (3, .int .i64 st28), (38, .bool true), (43, .bool false), (44, .string (bs s_0)), (45, .int .i64 st28)] (by kernel_rfl) ?_
    obtain ⟨x82, hx83, hm⟩ := bindE hm
    refine WL.st (.int .u8 (x82.toNat : Int)) (ST.sindex hx83 rfl rfl rfl Tryd.underlying9) rfl rfl rfl ?_
    refine WL.runk 4 [0, 3, 50] [(0, .string (bs s_0)), (3, .int .i64 st28), (50, .bool (decide ((x82.toNat : Int) > 57)))] (by kernel_rfl) ?_
    refine WL.case (decide ((x82.toNat : Int) > 57)) [50] ⟨rfl, trivial⟩ (fun hc84 => ?_) (fun hc84 => ?_)
    rotate_left
    · have hm := iteF hm hc84
      refine WL.runk 5 [0, 3, 55] [(0, .string (bs s_0)), (3, .int .i64 st28), (55, .bool false)] (by kernel_rfl) ?_
      refine WL.nil ?_
      obtain rfl := Option.some.inj hm
      exact WQ.post' ⟨rfl, hb30, hL31, hS32⟩ ⟨rfl, rfl, rfl, trivial⟩
    have hm := iteT hm hc84
    refine WL.runk 2 [0, 3, 50, 51, 52] [(0, .string (bs s_0)), (3, .int .i64 st28), (50, .bool true), (51, .string (bs s_0)), (52, .int .i64 st28)] (by kernel_rfl) ?_
    obtain ⟨x85, hx86, hm⟩ := bindE hm
    refine WL.st (.int .u8 (x85.toNat : Int)) (ST.sindex hx86 rfl rfl rfl Tryd.underlying9) rfl rfl rfl ?_
    refine WL.runk 2 [0, 3, 55] [(0, .string (bs s_0)), (3, .int .i64 st28), (55, .bool ((x85.toNat : Int) != 45))] (by kernel_rfl) ?_
    refine WL.nil ?_
    obtain rfl := Option.some.inj hm
    exact WQ.post' ⟨rfl, hb30, hL31, hS32⟩ ⟨rfl, rfl, rfl, trivial⟩
  have hm := iteF hm hc76
  refine WL.runk 2 [0, 3, 32, 33, 34] [(0, .string (bs s_0)), (3, .int .i64 st28), (32, .bool false), (33, .string (bs s_0)), (34, .int .i64 st28)] (by kernel_rfl) ?_
  obtain ⟨x87, hx88, hm⟩ := bindE hm
  refine WL.st (.int .u8 (x87.toNat : Int)) (ST.sindex hx88 rfl rfl rfl Tryd.underlying9) rfl rfl rfl ?_
  refine WL.runk 3 [0, 3, 38] [(0, .string (bs s_0)), (3, .int .i64 st28), (38, .bool (decide ((x87.toNat : Int) > 122)))] (by kernel_rfl) ?_
  refine WL.case (decide ((x87.toNat : Int) > 122)) [38] ⟨rfl, trivial⟩ (fun hc89 => ?_) (fun hc89 => ?_)
  rotate_left
  · have hm := iteF hm hc89
    refine WL.runk 17 [0, 3, 55] [(0, .string (bs s_0)), (3, .int .i64 st28), (55, .bool false)] (by kernel_rfl) ?_
    refine WL.nil ?_
    obtain rfl := Option.some.inj hm
    exact WQ.post' ⟨rfl, hb30, hL31, hS32⟩ ⟨rfl, rfl, rfl, trivial⟩
  have hm := iteT hm hc89
  refine WL.runk 2 [0, 3, 38, 39, 40] [(0, .string (bs s_0)), (3, .int .i64 st28), (38, .bool true), (39, .string (bs s_0)), (40, .int .i64 st28)] (by kernel_rfl) ?_
  obtain ⟨x90, hx91, hm⟩ := bindE hm
  refine WL.st (.int .u8 (x90.toNat : Int)) (ST.sindex hx91 rfl rfl rfl Tryd.underlying9) rfl rfl rfl ?_
  refine WL.runk 2 [0, 3, 38, 43] [(0, .string (bs s_0)), (3, .int .i64 st28), (38, .bool true), (43, .bool (decide ((x90.toNat : Int) < 48)))] (by kernel_rfl) ?_
  refine WL.case (decide ((x90.toNat : Int) < 48)) [43] ⟨rfl, trivial⟩ (fun hc92 => ?_) (fun hc92 => ?_)
  · have hm := iteT hm hc92
    refine WL.runk 9 [0, 3, 50, 51, 52] [(0, .string (bs s_0)), (3, .int .i64 st28), (50, .bool true), (51, .string (bs s_0)), (52, .int .i64 st28)] (by kernel_rfl) ?_
    obtain ⟨x93, hx94, hm⟩ := bindE hm
    refine WL.st (.int .u8 (x93.toNat : Int)) (ST.sindex hx94 rfl rfl rfl Tryd.underlying9) rfl rfl rfl ?_
    refine WL.runk 2 [0, 3, 55] [(0, .string (bs s_0)), (3, .int .i64 st28), (55, .bool ((x93.toNat : Int) != 45))] (by kernel_rfl) ?_
    refine WL.nil ?_
    obtain rfl := Option.some.inj hm
    exact WQ.post' ⟨rfl, hb30, hL31, hS32⟩ ⟨rfl, rfl, rfl, trivial⟩
  have hm := iteF hm hc92
  refine WL.runk 2 [0, 3, 38, 43, 44, 45] [(0, .string (bs s_0)), (3, .int .i64 st28), (38, .bool true), (43, .bool false), (44, .string (bs s_0)), (45, .int .i64 st28)] (by kernel_rfl) ?_
  obtain ⟨x95, hx96, hm⟩ := bindE hm
  refine WL.st (.int .u8 (x95.toNat : Int)) (ST.sindex hx96 rfl rfl rfl Tryd.underlying9) rfl rfl rfl ?_
  refine WL.runk 4 [0, 3, 50] [(0, .string (bs s_0)), (3, .int .i64 st28), (50, .bool (decide ((x95.toNat : Int) > 57)))] (by kernel_rfl) ?_
  refine WL.case (decide ((x95.toNat : Int) > 57)) [50] ⟨rfl, trivial⟩ (fun hc97 => ?_) (fun hc97 => ?_)
  rotate_left
  · have hm := iteF hm hc97
    refine WL.runk 5 [0, 3, 55] [(0, .string (bs s_0)), (3, .int .i64 st28), (55, .bool false)] (by kernel_rfl) ?_
    refine WL.nil ?_
    obtain rfl := Option.some.inj hm
    exact WQ.post' ⟨rfl, hb30, hL31, hS32⟩ ⟨rfl, rfl, rfl, trivial⟩
  have hm := iteT hm hc97
  refine WL.runk 2 [0, 3, 50, 51, 52] [(0, .string (bs s_0)), (3, .int .i64 st28), (50, .bool true), (51, .string (bs s_0)), (52, .int .i64 st28)] (by kernel_rfl) ?_
  obtain ⟨x98, hx99, hm⟩ := bindE hm
  refine WL.st (.int .u8 (x98.toNat : Int)) (ST.sindex hx99 rfl rfl rfl Tryd.underlying9) rfl rfl rfl ?_
  refine WL.runk 2 [0, 3, 55] [(0, .string (bs s_0)), (3, .int .i64 st28), (55, .bool ((x98.toNat : Int) != 45))] (by kernel_rfl) ?_
  refine WL.nil ?_
  obtain rfl := Option.some.inj hm
  exact WQ.post' ⟨rfl, hb30, hL31, hS32⟩ ⟨rfl, rfl, rfl, trivial⟩

theorem c_26 (n : Nat) (n_0 : Int) (low_1 : Int) (high_2 : Int) (w : World) {r : Bool} (hm : m_impl_within n n_0 low_1 high_2 = some r)  :
    CallV Tryd.prog 26 #[.int .i64 n_0, .int .i64 low_1, .int .i64 high_2] w (fun v w' => v = .bool r ∧ Ext w w') := by
  unfold m_impl_within at hm
  refine CallV.enter Tryd.func26 rfl (by kernel_rfl) Tryd.ntmps26 (env := [(0, .int .i64 n_0), (1, .int .i64 low_1), (2, .int .i64 high_2)]) ⟨rfl, rfl, rfl, trivial⟩ ?_
  refine WP.seq (fun K1 hK1 => ?_)
  refine WP.region ?_
  refine WL.runk 1 [0, 1, 2] [(0, .int .i64 n_0), (1, .int .i64 low_1), (2, .int .i64 high_2)] (by kernel_rfl) ?_
  refine WL.nil ?_
  refine WQ.then_normal (hK1 _ _ _ ?_)
  refine WP.seq (fun K2 hK2 => ?_)
  obtain ⟨x4, hx5, hm⟩ := bindE hm
  refine WP.cut (fun env' w' => env' = [(6, .bool x4)] ∧ Ext w w' ∧ w.heap.size ≤ w'.heap.size ∧ SH w' w.heap.size []) ?_ ?_
  rotate_left
  · clear hx5
    rintro _ w7 ⟨rfl, hb8, hL9, hS10⟩
    refine WQ.then_normal (hK2 _ _ _ ?_)
    refine WP.ret ?_
    obtain rfl := Option.some.inj hm
    exact WQ.ret1 _ rfl rfl ⟨rfl, hb8⟩
  have hm := hx5; clear hx5
  refine WP.region ?_
  refine WL.runk 4 [0, 2, 10] [(0, .int .i64 n_0), (2, .int .i64 high_2), (10, .bool (decide (n_0 ≥ low_1)))] (by kernel_rfl) ?_
  refine WL.case (decide (n_0 ≥ low_1)) [10] ⟨rfl, trivial⟩ (fun hc6 => ?_) (fun hc6 => ?_)
  · have hm := iteT hm hc6
    refine WL.runk 5 [6] [(6, .bool (decide (n_0 ≤ high_2)))] (by kernel_rfl) ?_
    refine WL.nil ?_
    obtain rfl := Option.some.inj hm
    exact WQ.post' ⟨rfl, (Ext.refl w), (Nat.le_refl _), (SH.nil _ _)⟩ ⟨rfl, trivial⟩
  have hm := iteF hm hc6
  refine WL.runk 5 [6] [(6, .bool false)] (by kernel_rfl) ?_
  refine WL.nil ?_
  obtain rfl := Option.some.inj hm
  exact WQ.post' ⟨rfl, (Ext.refl w), (Nat.le_refl _), (SH.nil _ _)⟩ ⟨rfl, trivial⟩

theorem c_14 (n : Nat) (g_0 : SGood) (w : World) {r : Bool} (hm : m_impl_validGood n g_0 = some r)  :
    CallV Tryd.prog 14 #[.agg #[.string (bs g_0.Name), .int .i64 g_0.OnHand, .int .i64 g_0.Reserved, .int .i64 g_0.Least]] w (fun v w' => v = .bool r ∧ Ext w w') := by
  unfold m_impl_validGood at hm
  refine CallV.enter Tryd.func14 rfl (by kernel_rfl) Tryd.ntmps14 (env := [(0, .agg #[.string (bs g_0.Name), .int .i64 g_0.OnHand, .int .i64 g_0.Reserved, .int .i64 g_0.Least])]) ⟨rfl, trivial⟩ ?_
  refine WP.seq (fun K1 hK1 => ?_)
  refine WP.region ?_
  refine WL.box 26 [.string (bs g_0.Name), .int .i64 g_0.OnHand, .int .i64 g_0.Reserved, .int .i64 g_0.Least] 1 (by kernel_rfl) rfl rfl rfl rfl ?_
  intro b2 w3 hE4 hR5
  have hb7 : Ext w w3 := Ext.trans (Ext.refl w) hE4
  have hL8 : w.heap.size ≤ w3.heap.size := Nat.le_trans (Nat.le_refl _) hE4.size
  have hS9 : SH w3 w.heap.size [aBox 26 b2 [.string (bs g_0.Name), .int .i64 g_0.OnHand, .int .i64 g_0.Reserved, .int .i64 g_0.Least]] := SH.add (SH.nil _ _) hE4 (Nat.le_refl _) hR5
  refine WL.runk 1 [1] [(1, .pointer (some ⟨b2, 0, none⟩))] (by kernel_rfl) ?_
  refine WL.nil ?_
  refine WQ.then_normal (hK1 _ _ _ ?_)
  refine WP.seq (fun K10 hK10 => ?_)
  obtain ⟨x46, hx47, hm⟩ := bindE hm
  refine WP.cut (fun env' w' => env' = [(2, .bool x46)] ∧ Ext w w' ∧ w.heap.size ≤ w'.heap.size ∧ SH w' w.heap.size [aBox 26 b2 [.string (bs g_0.Name), .int .i64 g_0.OnHand, .int .i64 g_0.Reserved, .int .i64 g_0.Least]]) ?_ ?_
  rotate_left
  · clear hx47
    rintro _ w83 ⟨rfl, hb84, hL85, hS86⟩
    refine WQ.then_normal (hK10 _ _ _ ?_)
    refine WP.ret ?_
    obtain rfl := Option.some.inj hm
    exact WQ.ret1 _ rfl rfl ⟨rfl, hb84⟩
  have hm := hx47; clear hx47
  refine WP.region ?_
  refine WL.runk 1 [1, 3] [(1, .pointer (some ⟨b2, 0, none⟩)), (3, .pointer (some ⟨b2, 0, none⟩))] (by kernel_rfl) ?_
  refine WL.st (.string (bs g_0.Name)) (ST.load (cell_ext (SH.boxAt (SH.front 0 hS9) 0 _ rfl)) rfl rfl Tryd.underlying9 rfl) rfl rfl rfl ?_
  obtain ⟨x48, hx49, hm⟩ := bindE hm
  refine WL.call 25 #[.string (bs g_0.Name)] rfl rfl (by kernel_rfl) (c_25 n g_0.Name w3 hx49 ) ?_
  rintro _ w50 ⟨rfl, hE51⟩
  refine ⟨_, rfl, ?_⟩
  have hb53 : Ext w w50 := Ext.trans hb7 hE51
  have hL54 : w.heap.size ≤ w50.heap.size := Nat.le_trans hL8 hE51.size
  have hS55 : SH w50 w.heap.size [aBox 26 b2 [.string (bs g_0.Name), .int .i64 g_0.OnHand, .int .i64 g_0.Reserved, .int .i64 g_0.Least]] := SH.ext hS9 hE51
  refine WL.runk 1 [1, 6] [(1, .pointer (some ⟨b2, 0, none⟩)), (6, .bool x48)] (by kernel_rfl) ?_
  refine WL.case x48 [6] ⟨rfl, trivial⟩ (fun hc56 => ?_) (fun hc56 => ?_)
  rotate_left
  · have hm := iteF hm hc56
    refine WL.runk 17 [2] [(2, .bool false)] (by kernel_rfl) ?_
    refine WL.nil ?_
    obtain rfl := Option.some.inj hm
    exact WQ.post' ⟨rfl, hb53, hL54, hS55⟩ ⟨rfl, trivial⟩
  have hm := iteT hm hc56
  refine WL.runk 1 [1, 6, 7] [(1, .pointer (some ⟨b2, 0, none⟩)), (6, .bool true), (7, .pointer (some ⟨b2, 1, none⟩))] (by kernel_rfl) ?_
  refine WL.st (.int .i64 g_0.OnHand) (ST.load (cell_ext (SH.boxAt (SH.front 0 hS55) 1 _ rfl)) rfl rfl Tryd.underlying2 rfl) rfl rfl rfl ?_
  obtain ⟨x57, hx58, hm⟩ := bindE hm
  refine WL.call 26 #[.int .i64 g_0.OnHand, .int .i64 0, .int .i64 1000000] rfl rfl (by kernel_rfl) (c_26 n g_0.OnHand 0 1000000 w50 hx58 ) ?_
  rintro _ w59 ⟨rfl, hE60⟩
  refine ⟨_, rfl, ?_⟩
  have hb62 : Ext w w59 := Ext.trans hb53 hE60
  have hL63 : w.heap.size ≤ w59.heap.size := Nat.le_trans hL54 hE60.size
  have hS64 : SH w59 w.heap.size [aBox 26 b2 [.string (bs g_0.Name), .int .i64 g_0.OnHand, .int .i64 g_0.Reserved, .int .i64 g_0.Least]] := SH.ext hS55 hE60
  refine WL.runk 2 [1, 11] [(1, .pointer (some ⟨b2, 0, none⟩)), (11, .bool x57)] (by kernel_rfl) ?_
  refine WL.case x57 [11] ⟨rfl, trivial⟩ (fun hc65 => ?_) (fun hc65 => ?_)
  rotate_left
  · have hm := iteF hm hc65
    refine WL.runk 12 [2] [(2, .bool false)] (by kernel_rfl) ?_
    refine WL.nil ?_
    obtain rfl := Option.some.inj hm
    exact WQ.post' ⟨rfl, hb62, hL63, hS64⟩ ⟨rfl, trivial⟩
  have hm := iteT hm hc65
  refine WL.runk 1 [1, 11, 12] [(1, .pointer (some ⟨b2, 0, none⟩)), (11, .bool true), (12, .pointer (some ⟨b2, 2, none⟩))] (by kernel_rfl) ?_
  refine WL.st (.int .i64 g_0.Reserved) (ST.load (cell_ext (SH.boxAt (SH.front 0 hS64) 2 _ rfl)) rfl rfl Tryd.underlying2 rfl) rfl rfl rfl ?_
  refine WL.runk 1 [1, 11, 13, 14] [(1, .pointer (some ⟨b2, 0, none⟩)), (11, .bool true), (13, .int .i64 g_0.Reserved), (14, .pointer (some ⟨b2, 1, none⟩))] (by kernel_rfl) ?_
  refine WL.st (.int .i64 g_0.OnHand) (ST.load (cell_ext (SH.boxAt (SH.front 0 hS64) 1 _ rfl)) rfl rfl Tryd.underlying2 rfl) rfl rfl rfl ?_
  obtain ⟨x66, hx67, hm⟩ := bindE hm
  refine WL.call 26 #[.int .i64 g_0.Reserved, .int .i64 0, .int .i64 g_0.OnHand] rfl rfl (by kernel_rfl) (c_26 n g_0.Reserved 0 g_0.OnHand w59 hx67 ) ?_
  rintro _ w68 ⟨rfl, hE69⟩
  refine ⟨_, rfl, ?_⟩
  have hb71 : Ext w w68 := Ext.trans hb62 hE69
  have hL72 : w.heap.size ≤ w68.heap.size := Nat.le_trans hL63 hE69.size
  have hS73 : SH w68 w.heap.size [aBox 26 b2 [.string (bs g_0.Name), .int .i64 g_0.OnHand, .int .i64 g_0.Reserved, .int .i64 g_0.Least]] := SH.ext hS64 hE69
  refine WL.runk 2 [1, 18] [(1, .pointer (some ⟨b2, 0, none⟩)), (18, .bool x66)] (by kernel_rfl) ?_
  refine WL.case x66 [18] ⟨rfl, trivial⟩ (fun hc74 => ?_) (fun hc74 => ?_)
  rotate_left
  · have hm := iteF hm hc74
    refine WL.runk 5 [2] [(2, .bool false)] (by kernel_rfl) ?_
    refine WL.nil ?_
    obtain rfl := Option.some.inj hm
    exact WQ.post' ⟨rfl, hb71, hL72, hS73⟩ ⟨rfl, trivial⟩
  have hm := iteT hm hc74
  refine WL.runk 1 [18, 19] [(18, .bool true), (19, .pointer (some ⟨b2, 3, none⟩))] (by kernel_rfl) ?_
  refine WL.st (.int .i64 g_0.Least) (ST.load (cell_ext (SH.boxAt (SH.front 0 hS73) 3 _ rfl)) rfl rfl Tryd.underlying2 rfl) rfl rfl rfl ?_
  obtain ⟨x75, hx76, hm⟩ := bindE hm
  refine WL.call 26 #[.int .i64 g_0.Least, .int .i64 0, .int .i64 1000000] rfl rfl (by kernel_rfl) (c_26 n g_0.Least 0 1000000 w68 hx76 ) ?_
  rintro _ w77 ⟨rfl, hE78⟩
  refine ⟨_, rfl, ?_⟩
  have hb80 : Ext w w77 := Ext.trans hb71 hE78
  have hL81 : w.heap.size ≤ w77.heap.size := Nat.le_trans hL72 hE78.size
  have hS82 : SH w77 w.heap.size [aBox 26 b2 [.string (bs g_0.Name), .int .i64 g_0.OnHand, .int .i64 g_0.Reserved, .int .i64 g_0.Least]] := SH.ext hS73 hE78
  refine WL.runk 2 [2] [(2, .bool x75)] (by kernel_rfl) ?_
  refine WL.nil ?_
  obtain rfl := Option.some.inj hm
  exact WQ.post' ⟨rfl, hb80, hL81, hS82⟩ ⟨rfl, trivial⟩

theorem c_15 (n : Nat) (n_0 : Int) (w : World) {r : List UInt8} (hm : m_impl_Decimal n n_0 = some r) (hG : GL 2 w) :
    CallV Tryd.prog 15 #[.int .i64 n_0] w (fun v w' => v = .string (bs r) ∧ Ext w w') := by
  unfold m_impl_Decimal at hm
  refine CallV.enter Tryd.func15 rfl (by kernel_rfl) Tryd.ntmps15 (env := [(0, .int .i64 n_0)]) ⟨rfl, trivial⟩ ?_
  refine WP.seq (fun K1 hK1 => ?_)
  refine WP.region ?_
  refine WL.runk 1 [0] [(0, .int .i64 n_0)] (by kernel_rfl) ?_
  refine WL.nil ?_
  refine WQ.then_normal (hK1 _ _ _ ?_)
  refine WP.seq (fun K2 hK2 => ?_)
  refine WP.region ?_
  refine WL.runk 1 [3] [(3, .int .i64 n_0)] (by kernel_rfl) ?_
  obtain ⟨x3, hx4, hm⟩ := bindE hm
  refine WL.call 27 #[.int .i64 n_0, .int .i64 10] rfl rfl (by kernel_rfl) (c_27 n n_0 10 w hx4 (GL.below hG (Ext.refl w))) ?_
  rintro _ w5 ⟨rfl, hE6⟩
  refine ⟨_, rfl, ?_⟩
  have hb8 : Ext w w5 := Ext.trans (Ext.refl w) hE6
  have hL9 : w.heap.size ≤ w5.heap.size := Nat.le_trans (Nat.le_refl _) hE6.size
  have hS10 : SH w5 w.heap.size [] := SH.ext (SH.nil _ _) hE6
  refine WL.runk 1 [2] [(2, .string (bs x3))] (by kernel_rfl) ?_
  refine WL.nil ?_
  refine WQ.then_normal (hK2 _ _ _ ?_)
  refine WP.ret ?_
  obtain rfl := Option.some.inj hm
  exact WQ.ret1 _ rfl rfl ⟨rfl, hb8⟩

theorem c_8 (n : Nat) (g_0 : SGood) (w : World) {r : List UInt8} (hm : m_impl_GoodText n g_0 = some r) (hG : GL 2 w) :
    CallV Tryd.prog 8 #[.agg #[.string (bs g_0.Name), .int .i64 g_0.OnHand, .int .i64 g_0.Reserved, .int .i64 g_0.Least]] w (fun v w' => v = .string (bs r) ∧ Ext w w') := by
  unfold m_impl_GoodText at hm
  refine CallV.enter Tryd.func8 rfl (by kernel_rfl) Tryd.ntmps8 (env := [(0, .agg #[.string (bs g_0.Name), .int .i64 g_0.OnHand, .int .i64 g_0.Reserved, .int .i64 g_0.Least])]) ⟨rfl, trivial⟩ ?_
  refine WP.seq (fun K1 hK1 => ?_)
  refine WP.region ?_
  refine WL.box 26 [.string (bs g_0.Name), .int .i64 g_0.OnHand, .int .i64 g_0.Reserved, .int .i64 g_0.Least] 1 (by kernel_rfl) rfl rfl rfl rfl ?_
  intro b2 w3 hE4 hR5
  have hb7 : Ext w w3 := Ext.trans (Ext.refl w) hE4
  have hL8 : w.heap.size ≤ w3.heap.size := Nat.le_trans (Nat.le_refl _) hE4.size
  have hS9 : SH w3 w.heap.size [aBox 26 b2 [.string (bs g_0.Name), .int .i64 g_0.OnHand, .int .i64 g_0.Reserved, .int .i64 g_0.Least]] := SH.add (SH.nil _ _) hE4 (Nat.le_refl _) hR5
  refine WL.runk 1 [1] [(1, .pointer (some ⟨b2, 0, none⟩))] (by kernel_rfl) ?_
  refine WL.nil ?_
  refine WQ.then_normal (hK1 _ _ _ ?_)
  refine WP.seq (fun K10 hK10 => ?_)
  refine WP.seq (fun K11 hK11 => ?_)
  refine WP.region ?_
  refine WL.st (.agg #[.string (bs g_0.Name), .int .i64 g_0.OnHand, .int .i64 g_0.Reserved, .int .i64 g_0.Least]) (ST.loadAgg (vs := [.string (bs g_0.Name), .int .i64 g_0.OnHand, .int .i64 g_0.Reserved, .int .i64 g_0.Least]) (fun j v hv => SH.boxPart (us := [.string (bs g_0.Name), .int .i64 g_0.OnHand, .int .i64 g_0.Reserved, .int .i64 g_0.Least]) (SH.front 0 hS9) 0 rfl j v hv) rfl rfl rfl Tryd.underlying26 rfl (info26).1 (info26).2.1) rfl rfl rfl ?_
  obtain ⟨x12, hx13, hm⟩ := bindE hm
  refine WL.call 14 #[.agg #[.string (bs g_0.Name), .int .i64 g_0.OnHand, .int .i64 g_0.Reserved, .int .i64 g_0.Least]] rfl rfl (by kernel_rfl) (c_14 n g_0 w3 hx13 ) ?_
  rintro _ w14 ⟨rfl, hE15⟩
  refine ⟨_, rfl, ?_⟩
  have hb17 : Ext w w14 := Ext.trans hb7 hE15
  have hL18 : w.heap.size ≤ w14.heap.size := Nat.le_trans hL8 hE15.size
  have hS19 : SH w14 w.heap.size [aBox 26 b2 [.string (bs g_0.Name), .int .i64 g_0.OnHand, .int .i64 g_0.Reserved, .int .i64 g_0.Least]] := SH.ext hS9 hE15
  refine WL.runk 1 [1, 5] [(1, .pointer (some ⟨b2, 0, none⟩)), (5, .bool (!x12))] (by kernel_rfl) ?_
  refine WL.nil ?_
  refine WQ.then_normal (hK11 _ _ _ ?_)
  refine WP.cond (!x12) rfl rfl (fun hc20 => ?_) (fun hc20 => ?_)
  · have hm := iteT hm hc20
    refine WP.seq (fun K21 hK21 => ?_)
    refine WP.region ?_
    refine WL.runk 1 [2] [(2, .string (bs []))] (by kernel_rfl) ?_
    refine WL.nil ?_
    refine WQ.then_normal (hK21 _ _ _ ?_)
    refine WP.ret ?_
    refine WQ.then_ret ?_
    obtain rfl := Option.some.inj hm
    exact WQ.ret1 _ rfl rfl ⟨rfl, hb17⟩
  have hm := iteF hm hc20
  refine WP.skip ?_
  refine WQ.then_normal (hK10 _ _ _ ?_)
  refine WP.seq (fun K22 hK22 => ?_)
  refine WP.quiet (by kernel_rfl) (by kernel_rfl) ?_
  refine QL.step1v 6 (.pointer (some ⟨b2, 0, none⟩)) rfl (fun _ => by kernel_rfl) ?_
  refine QL.subk [1, 6] [(1, .pointer (some ⟨b2, 0, none⟩)), (6, .pointer (some ⟨b2, 0, none⟩))] (by kernel_rfl) ?_
  refine QL.st (.string (bs g_0.Name)) (ST.load (cell_ext (SH.boxAt (SH.front 0 hS19) 0 _ rfl)) rfl rfl Tryd.underlying9 rfl) rfl rfl rfl ?_
  obtain ⟨x23, hx24, hm⟩ := bindE hm
  refine QL.st (.string (bs x23)) (ST.cat hx24 rfl rfl rfl) rfl rfl rfl ?_
  refine QL.step1v 9 (.pointer (some ⟨b2, 1, none⟩)) rfl (fun _ => by kernel_rfl) ?_
  refine QL.subk [1, 8, 9] [(1, .pointer (some ⟨b2, 0, none⟩)), (8, .string (bs x23)), (9, .pointer (some ⟨b2, 1, none⟩))] (by kernel_rfl) ?_
  refine QL.st (.int .i64 g_0.OnHand) (ST.load (cell_ext (SH.boxAt (SH.front 0 hS19) 1 _ rfl)) rfl rfl Tryd.underlying2 rfl) rfl rfl rfl ?_
  obtain ⟨x25, hx26, hm⟩ := bindE hm
  refine QL.call 15 #[.int .i64 g_0.OnHand] (.string (bs x25)) (fun _ => by kernel_rfl) (fun w27 hE28 => c_15 n g_0.OnHand w27 hx26 (GL.below (GL.below hG hb17) hE28)) rfl rfl rfl ?_
  obtain ⟨x29, hx30, hm⟩ := bindE hm
  refine QL.st (.string (bs x29)) (ST.cat hx30 rfl rfl rfl) rfl rfl rfl ?_
  obtain ⟨x31, hx32, hm⟩ := bindE hm
  refine QL.st (.string (bs x31)) (ST.cat hx32 rfl rfl rfl) rfl rfl rfl ?_
  refine QL.step1v 14 (.pointer (some ⟨b2, 2, none⟩)) rfl (fun _ => by kernel_rfl) ?_
  refine QL.subk [1, 13, 14] [(1, .pointer (some ⟨b2, 0, none⟩)), (13, .string (bs x31)), (14, .pointer (some ⟨b2, 2, none⟩))] (by kernel_rfl) ?_
  refine QL.st (.int .i64 g_0.Reserved) (ST.load (cell_ext (SH.boxAt (SH.front 0 hS19) 2 _ rfl)) rfl rfl Tryd.underlying2 rfl) rfl rfl rfl ?_
  obtain ⟨x33, hx34, hm⟩ := bindE hm
  refine QL.call 15 #[.int .i64 g_0.Reserved] (.string (bs x33)) (fun _ => by kernel_rfl) (fun w35 hE36 => c_15 n g_0.Reserved w35 hx34 (GL.below (GL.below hG hb17) hE36)) rfl rfl rfl ?_
  obtain ⟨x37, hx38, hm⟩ := bindE hm
  refine QL.st (.string (bs x37)) (ST.cat hx38 rfl rfl rfl) rfl rfl rfl ?_
  obtain ⟨x39, hx40, hm⟩ := bindE hm
  refine QL.st (.string (bs x39)) (ST.cat hx40 rfl rfl rfl) rfl rfl rfl ?_
  refine QL.step1v 19 (.pointer (some ⟨b2, 3, none⟩)) rfl (fun _ => by kernel_rfl) ?_
  refine QL.subk [18, 19] [(18, .string (bs x39)), (19, .pointer (some ⟨b2, 3, none⟩))] (by kernel_rfl) ?_
  refine QL.st (.int .i64 g_0.Least) (ST.load (cell_ext (SH.boxAt (SH.front 0 hS19) 3 _ rfl)) rfl rfl Tryd.underlying2 rfl) rfl rfl rfl ?_
  obtain ⟨x41, hx42, hm⟩ := bindE hm
  refine QL.call 15 #[.int .i64 g_0.Least] (.string (bs x41)) (fun _ => by kernel_rfl) (fun w43 hE44 => c_15 n g_0.Least w43 hx42 (GL.below (GL.below hG hb17) hE44)) rfl rfl rfl ?_
  obtain ⟨x45, hx46, hm⟩ := bindE hm
  refine QL.st (.string (bs x45)) (ST.cat hx46 rfl rfl rfl) rfl rfl rfl ?_
  refine QL.step1v 2 (.string (bs x45)) rfl (fun _ => by kernel_rfl) ?_
  refine QL.subk [2] [(2, .string (bs x45))] (by kernel_rfl) ?_
  refine QL.nil ?_
  intro w47 hE48
  have hb49 : Ext w w47 := Ext.trans hb17 hE48
  have hL50 : w.heap.size ≤ w47.heap.size := Nat.le_trans hL18 hE48.size
  have hS51 : SH w47 w.heap.size [aBox 26 b2 [.string (bs g_0.Name), .int .i64 g_0.OnHand, .int .i64 g_0.Reserved, .int .i64 g_0.Least]] := SH.ext hS19 hE48
  refine WQ.then_normal (hK22 _ _ _ ?_)
  refine WP.ret ?_
  obtain rfl := Option.some.inj hm
  exact WQ.ret1 _ rfl rfl ⟨rfl, hb49⟩

theorem c_16 (n : Nat) (s_0 : List UInt8) (by_1 : Int) (w : World) {r : List (List UInt8)} (hm : m_spec_l01Split n s_0 by_1 = some r)  :
    CallV Tryd.prog 16 #[.string (bs s_0), .int .u8 by_1] w (fun v w' => ∃ (ra0 : Option Addr) (rc0 : Nat), v = .slice ra0 r.length rc0 ∧ Ext w w' ∧ SH w' w.heap.size [aOwn fStr 9 ra0 rc0 r]) := by
  unfold m_spec_l01Split at hm
  refine CallV.enter Tryd.func16 rfl (by kernel_rfl) Tryd.ntmps16 (env := [(0, .string (bs s_0)), (1, .int .u8 by_1)]) ⟨rfl, rfl, trivial⟩ ?_
  refine WP.seq (fun K1 hK1 => ?_)
  refine WP.region ?_
  refine WL.runk 1 [0, 1] [(0, .string (bs s_0)), (1, .int .u8 by_1)] (by kernel_rfl) ?_
  refine WL.nil ?_
  refine WQ.then_normal (hK1 _ _ _ ?_)
  refine WP.seq (fun K2 hK2 => ?_)
  refine WP.region ?_
  refine WL.row fStr 9 ([] : List (List UInt8)) 0 #[] 8 (by kernel_rfl) rfl rfl rfl rfl rfl rfl rfl ?_
  intro a3 c4 w5 hE6 hR7
  have hb9 : Ext w w5 := Ext.trans (Ext.refl w) hE6
  have hL10 : w.heap.size ≤ w5.heap.size := Nat.le_trans (Nat.le_refl _) hE6.size
  have hS11 : SH w5 w.heap.size [aOwn fStr 9 a3 c4 ([] : List (List UInt8))] := SH.add (SH.nil _ _) hE6 (Nat.le_refl _) hR7
  refine WL.runk 1 [0, 1, 5] [(0, .string (bs s_0)), (1, .int .u8 by_1), (5, .slice a3 (([] : List (List UInt8)).length) c4)] (by kernel_rfl) ?_
  refine WL.nil ?_
  refine WQ.then_normal (hK2 _ _ _ ?_)
  refine WP.seq (fun K12 hK12 => ?_)
  refine WP.region ?_
  refine WL.runk 1 [0, 1, 5, 6] [(0, .string (bs s_0)), (1, .int .u8 by_1), (5, .slice a3 (([] : List (List UInt8)).length) c4), (6, .int .i64 0)] (by kernel_rfl) ?_
  refine WL.nil ?_
  refine WQ.then_normal (hK12 _ _ _ ?_)
  refine WP.seq (fun K13 hK13 => ?_)
  refine WP.seq (fun K14 hK14 => ?_)
  refine WP.region ?_
  refine WL.runk 1 [0, 1, 5, 6, 7] [(0, .string (bs s_0)), (1, .int .u8 by_1), (5, .slice a3 (([] : List (List UInt8)).length) c4), (6, .int .i64 0), (7, .int .i64 0)] (by kernel_rfl) ?_
  refine WL.nil ?_
  refine WQ.then_normal (hK14 _ _ _ ?_)
  refine WP.block ?_
  obtain ⟨t29, ht30, hm⟩ := bindE hm
  have hmo24 := hm; clear hm
  refine WP.sub [(0, .string (bs s_0)), (1, .int .u8 by_1), (5, .slice a3 (([] : List (List UInt8)).length) c4), (6, .int .i64 0), (7, .int .i64 0)] ⟨rfl, rfl, rfl, rfl, rfl, trivial⟩ ?_
  refine WP.loop (fun n' env' w' => ∃ (st15 : List (List UInt8) × Int × Int) (a16 : Option Addr) (c17 : Nat), env' = [(0, .string (bs s_0)), (1, .int .u8 by_1), (5, .slice a16 st15.1.length c17), (6, .int .i64 st15.2.1), (7, .int .i64 st15.2.2)] ∧ Ext w w' ∧ w.heap.size ≤ w'.heap.size ∧ SH w' w.heap.size [aOwn fStr 9 a16 c17 st15.1] ∧ loopN (m_spec_l01Split_l1 n s_0 by_1) n' st15 = some t29) n ⟨(([] : List (List UInt8)), 0, 0), _, _, rfl, hb9, hL10, hS11, ht30⟩ ?_
  rintro n26 _ w19 ⟨st15, a16, c17, rfl, hb20, hL21, hS22, hl23⟩ K25 hK25
  obtain ⟨n27, s28, rfl, hm, hl23⟩ := loopN_some hl23
  unfold m_spec_l01Split_l1 at hm
  refine WP.seq (fun K31 hK31 => ?_)
  refine WP.seq (fun K32 hK32 => ?_)
  refine WP.region ?_
  refine WL.runk 4 [0, 1, 5, 6, 7, 12] [(0, .string (bs s_0)), (1, .int .u8 by_1), (5, .slice a16 st15.1.length c17), (6, .int .i64 st15.2.1), (7, .int .i64 st15.2.2), (12, .bool (decide (st15.2.2 < (s_0.length : Int))))] (by kernel_rfl) ?_
  refine WL.nil ?_
  refine WQ.then_normal (hK32 _ _ _ ?_)
  refine WP.cond (decide (st15.2.2 < (s_0.length : Int))) rfl rfl (fun hc33 => ?_) (fun hc33 => ?_)
  rotate_left
  · have hm := iteF hm hc33
    refine WP.exit ?_
    refine WQ.then_exit ?_
    refine WQ.then_exit ?_
    refine WQ.block_here ?_
    obtain rfl := Option.some.inj hm
    obtain rfl := afterN_done hl23
    have hm := hmo24
    refine WQ.then_normal (hK13 _ _ _ ?_)
    refine WP.seq (fun K90 hK90 => ?_)
    refine WP.region ?_
    refine WL.runk 3 [29, 30, 31] [(29, .slice a16 st15.1.length c17), (30, .string (bs s_0)), (31, .int .i64 st15.2.1)] (by kernel_rfl) ?_
    obtain ⟨x91, hx92, hm⟩ := bindE hm
    refine WL.st (.string (bs x91)) (ST.ssub hx92 rfl rfl Tryd.underlying9 ⟨_, rfl⟩ rfl) rfl rfl rfl ?_
    refine WL.row fStr 9 ([x91] : List (List UInt8)) 1 #[.string (bs x91)] 33 (by kernel_rfl) rfl rfl rfl rfl rfl rfl rfl ?_
    intro a93 c94 w95 hE96 hR97
    have hb99 : Ext w w95 := Ext.trans hb20 hE96
    have hL100 : w.heap.size ≤ w95.heap.size := Nat.le_trans hL21 hE96.size
    have hS101 : SH w95 w.heap.size [aOwn fStr 9 a93 c94 ([x91] : List (List UInt8)), aOwn fStr 9 a16 c17 st15.1] := SH.add hS22 hE96 hL21 hR97
    obtain ⟨x102, hx103, hm⟩ := bindE hm
    refine WL.append (F := fStr) (xs := st15.1) (ys := ([x91] : List (List UInt8))) 34 (SH.front 1 hS101) hL100 (SH.rd (SH.front 0 hS101)) hx103 rfl rfl rfl Tryd.underlying38 (info9).1 (info9).2.2.1 (info9).2.1 (info9).2.2.2 rfl rfl rfl rfl rfl ?_
    intro a104 c105 w106 hB107 hS108
    have hb109 : Ext w w106 := Below.trans hb99 hB107
    have hL110 : w.heap.size ≤ w106.heap.size := Nat.le_trans hL100 hB107.size
    refine WL.runk 1 [4] [(4, .slice a104 x102.length c105)] (by kernel_rfl) ?_
    refine WL.nil ?_
    refine WQ.then_normal (hK90 _ _ _ ?_)
    refine WP.ret ?_
    obtain rfl := Option.some.inj hm
    exact WQ.ret1 _ rfl rfl ⟨_, _, rfl, hb109, (SH.take 1 hS108)⟩
  have hm := iteT hm hc33
  refine WP.skip ?_
  refine WQ.then_normal (hK31 _ _ _ ?_)
  refine WP.seq (fun K34 hK34 => ?_)
  refine WP.block ?_
  refine WP.seq (fun K35 hK35 => ?_)
  refine WP.region ?_
  refine WL.runk 2 [0, 1, 5, 6, 7, 15, 16] [(0, .string (bs s_0)), (1, .int .u8 by_1), (5, .slice a16 st15.1.length c17), (6, .int .i64 st15.2.1), (7, .int .i64 st15.2.2), (15, .string (bs s_0)), (16, .int .i64 st15.2.2)] (by kernel_rfl) ?_
  obtain ⟨x36, hx37, hm⟩ := bindE hm
  refine WL.st (.int .u8 (x36.toNat : Int)) (ST.sindex hx37 rfl rfl rfl Tryd.underlying9) rfl rfl rfl ?_
  refine WL.runk 2 [0, 1, 5, 6, 7, 19] [(0, .string (bs s_0)), (1, .int .u8 by_1), (5, .slice a16 st15.1.length c17), (6, .int .i64 st15.2.1), (7, .int .i64 st15.2.2), (19, .bool ((x36.toNat : Int) == by_1))] (by kernel_rfl) ?_
  refine WL.nil ?_
  refine WQ.then_normal (hK35 _ _ _ ?_)
  obtain ⟨x60, hx61, hm⟩ := bindE hm
  refine WP.cut (fun env' w' => ∃ (a62 : Option Addr) (c63 : Nat), env' = [(0, .string (bs s_0)), (1, .int .u8 by_1), (5, .slice a62 x60.1.length c63), (6, .int .i64 x60.2), (7, .int .i64 st15.2.2)] ∧ Ext w w' ∧ w.heap.size ≤ w'.heap.size ∧ SH w' w.heap.size [aOwn fStr 9 a62 c63 x60.1]) ?_ ?_
  rotate_left
  · clear hx61
    rintro _ w86 ⟨a62, c63, rfl, hb87, hL88, hS89⟩
    refine WQ.block_normal ?_
    refine WQ.then_normal (hK34 _ _ _ ?_)
    refine WP.region ?_
    refine WL.runk 3 [0, 1, 5, 6, 7] [(0, .string (bs s_0)), (1, .int .u8 by_1), (5, .slice a62 x60.1.length c63), (6, .int .i64 x60.2), (7, .int .i64 (wI64 (st15.2.2 + 1)))] (by kernel_rfl) ?_
    refine WL.nil ?_
    obtain rfl := Option.some.inj hm
    exact WQ.round hK25 ⟨(x60.1, x60.2, (wI64 (st15.2.2 + 1))), _, _, rfl, hb87, hL88, hS89, hl23⟩ (Nat.lt_succ_self _) ⟨rfl, rfl, rfl, rfl, rfl, trivial⟩
  have hm := hx61; clear hx61
  refine WP.cond ((x36.toNat : Int) == by_1) rfl rfl (fun hc38 => ?_) (fun hc38 => ?_)
  rotate_left
  · have hm := iteF hm hc38
    refine WP.skip ?_
    obtain rfl := Option.some.inj hm
    exact WQ.post' ⟨_, _, rfl, hb20, hL21, hS22⟩ ⟨rfl, rfl, rfl, rfl, rfl, trivial⟩
  have hm := iteT hm hc38
  refine WP.seq (fun K65 hK65 => ?_)
  refine WP.region ?_
  refine WL.runk 4 [0, 1, 7, 20, 21, 22, 23] [(0, .string (bs s_0)), (1, .int .u8 by_1), (7, .int .i64 st15.2.2), (20, .slice a16 st15.1.length c17), (21, .string (bs s_0)), (22, .int .i64 st15.2.1), (23, .int .i64 st15.2.2)] (by kernel_rfl) ?_
  obtain ⟨x66, hx67, hm⟩ := bindE hm
  refine WL.st (.string (bs x66)) (ST.ssub hx67 rfl rfl Tryd.underlying9 ⟨_, rfl⟩ ⟨_, rfl⟩) rfl rfl rfl ?_
  refine WL.row fStr 9 ([x66] : List (List UInt8)) 1 #[.string (bs x66)] 25 (by kernel_rfl) rfl rfl rfl rfl rfl rfl rfl ?_
  intro a68 c69 w70 hE71 hR72
  have hb74 : Ext w w70 := Ext.trans hb20 hE71
  have hL75 : w.heap.size ≤ w70.heap.size := Nat.le_trans hL21 hE71.size
  have hS76 : SH w70 w.heap.size [aOwn fStr 9 a68 c69 ([x66] : List (List UInt8)), aOwn fStr 9 a16 c17 st15.1] := SH.add hS22 hE71 hL21 hR72
  obtain ⟨x77, hx78, hm⟩ := bindE hm
  refine WL.append (F := fStr) (xs := st15.1) (ys := ([x66] : List (List UInt8))) 26 (SH.front 1 hS76) hL75 (SH.rd (SH.front 0 hS76)) hx78 rfl rfl rfl Tryd.underlying38 (info9).1 (info9).2.2.1 (info9).2.1 (info9).2.2.2 rfl rfl rfl rfl rfl ?_
  intro a79 c80 w81 hB82 hS83
  have hb84 : Ext w w81 := Below.trans hb74 hB82
  have hL85 : w.heap.size ≤ w81.heap.size := Nat.le_trans hL75 hB82.size
  refine WL.runk 1 [0, 1, 5, 7] [(0, .string (bs s_0)), (1, .int .u8 by_1), (7, .int .i64 st15.2.2), (5, .slice a79 x77.length c80)] (by kernel_rfl) ?_
  refine WL.nil ?_
  refine WQ.then_normal (hK65 _ _ _ ?_)
  refine WP.region ?_
  refine WL.runk 3 [0, 1, 5, 6, 7] [(0, .string (bs s_0)), (1, .int .u8 by_1), (7, .int .i64 st15.2.2), (5, .slice a79 x77.length c80), (6, .int .i64 (wI64 (st15.2.2 + 1)))] (by kernel_rfl) ?_
  refine WL.nil ?_
  obtain rfl := Option.some.inj hm
  exact WQ.post' ⟨_, _, rfl, hb84, hL85, (SH.take 1 hS83)⟩ ⟨rfl, rfl, rfl, rfl, rfl, trivial⟩

theorem c_17 (n : Nat) (s_0 : List UInt8) (w : World) {r : Int × Bool} (hm : m_spec_l01Number n s_0 = some r)  :
    CallV Tryd.prog 17 #[.string (bs s_0)] w (fun v w' => v = .tuple #[.int .i64 r.1, .bool r.2] ∧ Ext w w') := by
  unfold m_spec_l01Number at hm
  refine CallV.enter Tryd.func17 rfl (by kernel_rfl) Tryd.ntmps17 (env := [(0, .string (bs s_0))]) ⟨rfl, trivial⟩ ?_
  refine WP.seq (fun K1 hK1 => ?_)
  refine WP.region ?_
  refine WL.runk 2 [0] [(0, .string (bs s_0))] (by kernel_rfl) ?_
  refine WL.nil ?_
  refine WQ.then_normal (hK1 _ _ _ ?_)
  refine WP.seq (fun K2 hK2 => ?_)
  refine WP.region ?_
  refine WL.runk 2 [0, 4] [(0, .string (bs s_0)), (4, .string (bs s_0))] (by kernel_rfl) ?_
  refine WL.nil ?_
  refine WQ.then_normal (hK2 _ _ _ ?_)
  refine WP.seq (fun K3 hK3 => ?_)
  refine WP.seq (fun K4 hK4 => ?_)
  obtain ⟨x8, hx9, hm⟩ := bindE hm
  refine WP.cut (fun env' w' => env' = [(0, .string (bs s_0)), (4, .string (bs s_0)), (14, .bool x8)] ∧ Ext w w' ∧ w.heap.size ≤ w'.heap.size ∧ SH w' w.heap.size []) ?_ ?_
  · have hm := hx9; clear hx9
    refine WP.region ?_
    refine WL.runk 1 [0, 4, 8] [(0, .string (bs s_0)), (4, .string (bs s_0)), (8, .string (bs s_0))] (by kernel_rfl) ?_
    refine WL.st (.bool (!(s_0 == []))) (ST.strne (x := s_0) (y := []) rfl rfl rfl) rfl rfl rfl ?_
    refine WL.runk 1 [0, 4, 10] [(0, .string (bs s_0)), (4, .string (bs s_0)), (10, .bool (!(s_0 == [])))] (by kernel_rfl) ?_
    refine WL.case (!(s_0 == [])) [10] ⟨rfl, trivial⟩ (fun hc10 => ?_) (fun hc10 => ?_)
    rotate_left
    · have hm := iteF hm hc10
      refine WL.runk 4 [0, 4, 14] [(0, .string (bs s_0)), (4, .string (bs s_0)), (14, .bool false)] (by kernel_rfl) ?_
      refine WL.nil ?_
      obtain rfl := Option.some.inj hm
      exact WQ.post' ⟨rfl, (Ext.refl w), (Nat.le_refl _), (SH.nil _ _)⟩ ⟨rfl, rfl, rfl, trivial⟩
    have hm := iteT hm hc10
    refine WL.runk 1 [0, 4, 10, 11] [(0, .string (bs s_0)), (4, .string (bs s_0)), (10, .bool true), (11, .string (bs s_0))] (by kernel_rfl) ?_
    obtain ⟨x11, hx12, hm⟩ := bindE hm
    refine WL.st (.int .u8 (x11.toNat : Int)) (ST.sindex hx12 rfl rfl rfl Tryd.underlying9) rfl rfl rfl ?_
    refine WL.runk 2 [0, 4, 14] [(0, .string (bs s_0)), (4, .string (bs s_0)), (14, .bool ((x11.toNat : Int) == 45))] (by kernel_rfl) ?_
    refine WL.nil ?_
    obtain rfl := Option.some.inj hm
    exact WQ.post' ⟨rfl, (Ext.refl w), (Nat.le_refl _), (SH.nil _ _)⟩ ⟨rfl, rfl, rfl, trivial⟩
  clear hx9
  rintro _ w13 ⟨rfl, hb14, hL15, hS16⟩
  refine WQ.then_normal (hK4 _ _ _ ?_)
  obtain ⟨x20, hx21, hm⟩ := bindE hm
  refine WP.cut (fun env' w' => env' = [(0, .string (bs s_0)), (4, .string (bs x20))] ∧ Ext w w' ∧ w.heap.size ≤ w'.heap.size ∧ SH w' w.heap.size []) ?_ ?_
  · have hm := hx21; clear hx21
    refine WP.cond x8 rfl rfl (fun hc17 => ?_) (fun hc17 => ?_)
    rotate_left
    · have hm := iteF hm hc17
      refine WP.skip ?_
      obtain rfl := Option.some.inj hm
      exact WQ.post' ⟨rfl, hb14, hL15, hS16⟩ ⟨rfl, rfl, trivial⟩
    have hm := iteT hm hc17
    refine WP.region ?_
    refine WL.runk 1 [0, 15] [(0, .string (bs s_0)), (15, .string (bs s_0))] (by kernel_rfl) ?_
    obtain ⟨x22, hx23, hm⟩ := bindE hm
    refine WL.st (.string (bs x22)) (ST.ssub hx23 rfl rfl Tryd.underlying9 ⟨_, rfl⟩ rfl) rfl rfl rfl ?_
    refine WL.runk 1 [0, 4] [(0, .string (bs s_0)), (4, .string (bs x22))] (by kernel_rfl) ?_
    refine WL.nil ?_
    obtain rfl := Option.some.inj hm
    exact WQ.post' ⟨rfl, hb14, hL15, hS16⟩ ⟨rfl, rfl, trivial⟩
  clear hx21
  rintro _ w24 ⟨rfl, hb25, hL26, hS27⟩
  refine WQ.then_normal (hK3 _ _ _ ?_)
  refine WP.seq (fun K28 hK28 => ?_)
  refine WP.seq (fun K29 hK29 => ?_)
  obtain ⟨x31, hx32, hm⟩ := bindE hm
  refine WP.cut (fun env' w' => env' = [(0, .string (bs s_0)), (4, .string (bs x20)), (24, .bool x31)] ∧ Ext w w' ∧ w.heap.size ≤ w'.heap.size ∧ SH w' w.heap.size []) ?_ ?_
  · have hm := hx32; clear hx32
    refine WP.region ?_
    refine WL.runk 4 [0, 4, 20] [(0, .string (bs s_0)), (4, .string (bs x20)), (20, .bool (decide ((x20.length : Int) < 1)))] (by kernel_rfl) ?_
    refine WL.case (decide ((x20.length : Int) < 1)) [20] ⟨rfl, trivial⟩ (fun hc33 => ?_) (fun hc33 => ?_)
    · have hm := iteT hm hc33
      refine WL.runk 4 [0, 4, 24] [(0, .string (bs s_0)), (4, .string (bs x20)), (24, .bool true)] (by kernel_rfl) ?_
      refine WL.nil ?_
      obtain rfl := Option.some.inj hm
      exact WQ.post' ⟨rfl, hb25, hL26, hS27⟩ ⟨rfl, rfl, rfl, trivial⟩
    have hm := iteF hm hc33
    refine WL.runk 4 [0, 4, 24] [(0, .string (bs s_0)), (4, .string (bs x20)), (24, .bool (decide ((x20.length : Int) > 18)))] (by kernel_rfl) ?_
    refine WL.nil ?_
    obtain rfl := Option.some.inj hm
    exact WQ.post' ⟨rfl, hb25, hL26, hS27⟩ ⟨rfl, rfl, rfl, trivial⟩
  clear hx32
  rintro _ w34 ⟨rfl, hb35, hL36, hS37⟩
  refine WQ.then_normal (hK29 _ _ _ ?_)
  refine WP.cond x31 rfl rfl (fun hc38 => ?_) (fun hc38 => ?_)
  · have hm := iteT hm hc38
    refine WP.seq (fun K39 hK39 => ?_)
    refine WP.region ?_
    refine WL.runk 2 [2, 3] [(2, .int .i64 0), (3, .bool false)] (by kernel_rfl) ?_
    refine WL.nil ?_
    refine WQ.then_normal (hK39 _ _ _ ?_)
    refine WP.ret ?_
    refine WQ.then_ret ?_
    obtain rfl := Option.some.inj hm
    exact WQ.ret2 _ _ rfl rfl rfl ⟨rfl, hb35⟩
  have hm := iteF hm hc38
  refine WP.skip ?_
  refine WQ.then_normal (hK28 _ _ _ ?_)
  refine WP.seq (fun K40 hK40 => ?_)
  refine WP.region ?_
  refine WL.runk 1 [0, 4, 5] [(0, .string (bs s_0)), (4, .string (bs x20)), (5, .int .i64 0)] (by kernel_rfl) ?_
  refine WL.nil ?_
  refine WQ.then_normal (hK40 _ _ _ ?_)
  refine WP.seq (fun K41 hK41 => ?_)
  refine WP.seq (fun K42 hK42 => ?_)
  refine WP.region ?_
  refine WL.runk 1 [0, 4, 5, 6] [(0, .string (bs s_0)), (4, .string (bs x20)), (5, .int .i64 0), (6, .int .i64 0)] (by kernel_rfl) ?_
  refine WL.nil ?_
  refine WQ.then_normal (hK42 _ _ _ ?_)
  refine WP.block ?_
  obtain ⟨t54, ht55, hm⟩ := bindE hm
  have hmo49 := hm; clear hm
  refine WP.sub [(0, .string (bs s_0)), (4, .string (bs x20)), (5, .int .i64 0), (6, .int .i64 0)] ⟨rfl, rfl, rfl, rfl, trivial⟩ ?_
  refine WP.loop (fun n' env' w' => ∃ (st43 : Int × Int) , env' = [(0, .string (bs s_0)), (4, .string (bs x20)), (5, .int .i64 st43.1), (6, .int .i64 st43.2)] ∧ Ext w w' ∧ w.heap.size ≤ w'.heap.size ∧ SH w' w.heap.size [] ∧ loopN (m_spec_l01Number_l1 n x20) n' st43 = some t54) n ⟨(0, 0), rfl, hb35, hL36, hS37, ht55⟩ ?_
  rintro n51 _ w44 ⟨st43, rfl, hb45, hL46, hS47, hl48⟩ K50 hK50
  obtain ⟨n52, s53, rfl, hm, hl48⟩ := loopN_some hl48
  unfold m_spec_l01Number_l1 at hm
  refine WP.seq (fun K56 hK56 => ?_)
  refine WP.seq (fun K57 hK57 => ?_)
  refine WP.region ?_
  refine WL.runk 4 [0, 4, 5, 6, 28] [(0, .string (bs s_0)), (4, .string (bs x20)), (5, .int .i64 st43.1), (6, .int .i64 st43.2), (28, .bool (decide (st43.2 < (x20.length : Int))))] (by kernel_rfl) ?_
  refine WL.nil ?_
  refine WQ.then_normal (hK57 _ _ _ ?_)
  refine WP.cond (decide (st43.2 < (x20.length : Int))) rfl rfl (fun hc58 => ?_) (fun hc58 => ?_)
  · have hm := iteT hm hc58
    refine WP.skip ?_
    refine WQ.then_normal (hK56 _ _ _ ?_)
    refine WP.seq (fun K59 hK59 => ?_)
    refine WP.block ?_
    refine WP.seq (fun K60 hK60 => ?_)
    refine WP.seq (fun K61 hK61 => ?_)
    refine WP.region ?_
    refine WL.runk 2 [0, 4, 5, 6, 31, 32] [(0, .string (bs s_0)), (4, .string (bs x20)), (5, .int .i64 st43.1), (6, .int .i64 st43.2), (31, .string (bs x20)), (32, .int .i64 st43.2)] (by kernel_rfl) ?_
    obtain ⟨x62, hx63, hm⟩ := bindE hm
    refine WL.st (.int .u8 (x62.toNat : Int)) (ST.sindex hx63 rfl rfl rfl Tryd.underlying9) rfl rfl rfl ?_
    obtain ⟨x64, hx65, hm⟩ := bindE hm
    refine WL.call 28 #[.int .u8 (x62.toNat : Int)] rfl rfl (by kernel_rfl) (c_28 n (x62.toNat : Int) w44 hx65 ) ?_
    rintro _ w66 ⟨rfl, hE67⟩
    refine ⟨_, rfl, ?_⟩
    have hb69 : Ext w w66 := Ext.trans hb45 hE67
    have hL70 : w.heap.size ≤ w66.heap.size := Nat.le_trans hL46 hE67.size
    have hS71 : SH w66 w.heap.size [] := SH.ext hS47 hE67
    refine WL.runk 1 [0, 4, 5, 6, 35] [(0, .string (bs s_0)), (4, .string (bs x20)), (5, .int .i64 st43.1), (6, .int .i64 st43.2), (35, .bool (!x64))] (by kernel_rfl) ?_
    refine WL.nil ?_
    refine WQ.then_normal (hK61 _ _ _ ?_)
    refine WP.cond (!x64) rfl rfl (fun hc72 => ?_) (fun hc72 => ?_)
    rotate_left
    · have hm := iteF hm hc72
      refine WP.skip ?_
      refine WQ.then_normal (hK60 _ _ _ ?_)
      refine WP.region ?_
      refine WL.runk 4 [0, 4, 6, 37, 38, 39] [(0, .string (bs s_0)), (4, .string (bs x20)), (6, .int .i64 st43.2), (37, .int .i64 (wI64 (10 * st43.1))), (38, .string (bs x20)), (39, .int .i64 st43.2)] (by kernel_rfl) ?_
      obtain ⟨x74, hx75, hm⟩ := bindE hm
      refine WL.st (.int .u8 (x74.toNat : Int)) (ST.sindex hx75 rfl rfl rfl Tryd.underlying9) rfl rfl rfl ?_
      refine WL.runk 4 [0, 4, 5, 6] [(0, .string (bs s_0)), (4, .string (bs x20)), (6, .int .i64 st43.2), (5, .int .i64 (wI64 ((wI64 (10 * st43.1)) + (wI64 (IntKind.u8.wrap ((x74.toNat : Int) - 48))))))] (by kernel_rfl) ?_
      refine WL.nil ?_
      refine WQ.block_normal ?_
      refine WQ.then_normal (hK59 _ _ _ ?_)
      refine WP.region ?_
      refine WL.runk 3 [0, 4, 5, 6] [(0, .string (bs s_0)), (4, .string (bs x20)), (6, .int .i64 (wI64 (st43.2 + 1))), (5, .int .i64 (wI64 ((wI64 (10 * st43.1)) + (wI64 (IntKind.u8.wrap ((x74.toNat : Int) - 48))))))] (by kernel_rfl) ?_
      refine WL.nil ?_
      obtain rfl := Option.some.inj hm
      exact WQ.round hK50 ⟨((wI64 ((wI64 (10 * st43.1)) + (wI64 (IntKind.u8.wrap ((x74.toNat : Int) - 48))))), (wI64 (st43.2 + 1))), rfl, hb69, hL70, hS71, hl48⟩ (Nat.lt_succ_self _) ⟨rfl, rfl, rfl, rfl, trivial⟩
    have hm := iteT hm hc72
    refine WP.seq (fun K73 hK73 => ?_)
    refine WP.region ?_
    refine WL.runk 2 [2, 3] [(2, .int .i64 0), (3, .bool false)] (by kernel_rfl) ?_
    refine WL.nil ?_
    refine WQ.then_normal (hK73 _ _ _ ?_)
    refine WP.ret ?_
    refine WQ.then_ret ?_
    refine WQ.block_ret ?_
    refine WQ.then_ret ?_
    refine WQ.then_ret ?_
    refine WQ.block_ret ?_
    refine WQ.then_ret ?_
    obtain rfl := Option.some.inj hm
    obtain rfl := afterN_done hl48
    have hm := hmo49
    obtain rfl := Option.some.inj hm
    exact WQ.ret2 _ _ rfl rfl rfl ⟨rfl, hb69⟩
  have hm := iteF hm hc58
  refine WP.exit ?_
  refine WQ.then_exit ?_
  refine WQ.then_exit ?_
  refine WQ.block_here ?_
  obtain rfl := Option.some.inj hm
  obtain rfl := afterN_done hl48
  have hm := hmo49
  refine WQ.then_normal (hK41 _ _ _ ?_)
  refine WP.seq (fun K76 hK76 => ?_)
  refine WP.seq (fun K77 hK77 => ?_)
  refine WP.region ?_
  refine WL.runk 5 [0, 5, 48] [(0, .string (bs s_0)), (5, .int .i64 st43.1), (48, .bool (decide ((x20.length : Int) < (s_0.length : Int))))] (by kernel_rfl) ?_
  refine WL.nil ?_
  refine WQ.then_normal (hK77 _ _ _ ?_)
  obtain ⟨x79, hx80, hm⟩ := bindE hm
  refine WP.cut (fun env' w' => env' = [(0, .string (bs s_0)), (5, .int .i64 x79)] ∧ Ext w w' ∧ w.heap.size ≤ w'.heap.size ∧ SH w' w.heap.size []) ?_ ?_
  · have hm := hx80; clear hx80
    refine WP.cond (decide ((x20.length : Int) < (s_0.length : Int))) rfl rfl (fun hc78 => ?_) (fun hc78 => ?_)
    rotate_left
    · have hm := iteF hm hc78
      refine WP.skip ?_
      obtain rfl := Option.some.inj hm
      exact WQ.post' ⟨rfl, hb45, hL46, hS47⟩ ⟨rfl, rfl, trivial⟩
    have hm := iteT hm hc78
    refine WP.region ?_
    refine WL.runk 3 [0, 5] [(0, .string (bs s_0)), (5, .int .i64 (wI64 (0 - st43.1)))] (by kernel_rfl) ?_
    refine WL.nil ?_
    obtain rfl := Option.some.inj hm
    exact WQ.post' ⟨rfl, hb45, hL46, hS47⟩ ⟨rfl, rfl, trivial⟩
  clear hx80
  rintro _ w81 ⟨rfl, hb82, hL83, hS84⟩
  refine WQ.then_normal (hK76 _ _ _ ?_)
  refine WP.seq (fun K85 hK85 => ?_)
  refine WP.seq (fun K86 hK86 => ?_)
  refine WP.region ?_
  refine WL.runk 1 [0, 5, 51] [(0, .string (bs s_0)), (5, .int .i64 x79), (51, .int .i64 x79)] (by kernel_rfl) ?_
  obtain ⟨x87, hx88, hm⟩ := bindE hm
  refine WL.call 24 #[.int .i64 x79] rfl rfl (by kernel_rfl) (c_24 n x79 w81 hx88 ) ?_
  rintro _ w89 ⟨rfl, hE90⟩
  refine ⟨_, rfl, ?_⟩
  have hb92 : Ext w w89 := Ext.trans hb82 hE90
  have hL93 : w.heap.size ≤ w89.heap.size := Nat.le_trans hL83 hE90.size
  have hS94 : SH w89 w.heap.size [] := SH.ext hS84 hE90
  refine WL.runk 1 [5, 52, 53] [(5, .int .i64 x79), (52, .string (bs x87)), (53, .string (bs s_0))] (by kernel_rfl) ?_
  refine WL.st (.bool (!(x87 == s_0))) (ST.strne (x := x87) (y := s_0) rfl rfl rfl) rfl rfl rfl ?_
  refine WL.sub [(5, .int .i64 x79), (54, .bool (!(x87 == s_0)))] ⟨rfl, rfl, trivial⟩ ?_
  refine WL.nil ?_
  refine WQ.then_normal (hK86 _ _ _ ?_)
  refine WP.cond (!(x87 == s_0)) rfl rfl (fun hc95 => ?_) (fun hc95 => ?_)
  · have hm := iteT hm hc95
    refine WP.seq (fun K96 hK96 => ?_)
    refine WP.region ?_
    refine WL.runk 2 [2, 3] [(2, .int .i64 0), (3, .bool false)] (by kernel_rfl) ?_
    refine WL.nil ?_
    refine WQ.then_normal (hK96 _ _ _ ?_)
    refine WP.ret ?_
    refine WQ.then_ret ?_
    obtain rfl := Option.some.inj hm
    exact WQ.ret2 _ _ rfl rfl rfl ⟨rfl, hb92⟩
  have hm := iteF hm hc95
  refine WP.skip ?_
  refine WQ.then_normal (hK85 _ _ _ ?_)
  refine WP.seq (fun K97 hK97 => ?_)
  refine WP.region ?_
  refine WL.runk 3 [2, 3] [(2, .int .i64 x79), (3, .bool true)] (by kernel_rfl) ?_
  refine WL.nil ?_
  refine WQ.then_normal (hK97 _ _ _ ?_)
  refine WP.ret ?_
  obtain rfl := Option.some.inj hm
  exact WQ.ret2 _ _ rfl rfl rfl ⟨rfl, hb92⟩

theorem c_9 (n : Nat) (s_0 : List UInt8) (w : World) {r : SGood × Bool} (hm : m_spec_ReadGood n s_0 = some r)  :
    CallV Tryd.prog 9 #[.string (bs s_0)] w (fun v w' => v = .tuple #[.agg #[.string (bs r.1.Name), .int .i64 r.1.OnHand, .int .i64 r.1.Reserved, .int .i64 r.1.Least], .bool r.2] ∧ Ext w w') := by
  unfold m_spec_ReadGood at hm
  refine CallV.enter Tryd.func9 rfl (by kernel_rfl) Tryd.ntmps9 (env := [(0, .string (bs s_0))]) ⟨rfl, trivial⟩ ?_
  refine WP.seq (fun K1 hK1 => ?_)
  refine WP.region ?_
  refine WL.box 26 [.string (bs []), .int .i64 0, .int .i64 0, .int .i64 0] 2 (by kernel_rfl) rfl rfl rfl rfl ?_
  intro b2 w3 hE4 hR5
  have hb7 : Ext w w3 := Ext.trans (Ext.refl w) hE4
  have hL8 : w.heap.size ≤ w3.heap.size := Nat.le_trans (Nat.le_refl _) hE4.size
  have hS9 : SH w3 w.heap.size [aBox 26 b2 [.string (bs []), .int .i64 0, .int .i64 0, .int .i64 0]] := SH.add (SH.nil _ _) hE4 (Nat.le_refl _) hR5
  refine WL.runk 1 [0, 2] [(0, .string (bs s_0)), (2, .pointer (some ⟨b2, 0, none⟩))] (by kernel_rfl) ?_
  refine WL.nil ?_
  refine WQ.then_normal (hK1 _ _ _ ?_)
  refine WP.seq (fun K10 hK10 => ?_)
  refine WP.region ?_
  refine WL.runk 1 [2, 13] [(2, .pointer (some ⟨b2, 0, none⟩)), (13, .string (bs s_0))] (by kernel_rfl) ?_
  obtain ⟨x11, hx12, hm⟩ := bindE hm
  refine WL.call 16 #[.string (bs s_0), .int .u8 32] rfl rfl (by kernel_rfl) (c_16 n s_0 32 w3 hx12 ) ?_
  rintro _ w16 ⟨a13, c14, rfl, hE17, hR18⟩
  refine ⟨_, rfl, ?_⟩
  have hb19 : Ext w w16 := Ext.trans hb7 hE17
  have hL20 : w.heap.size ≤ w16.heap.size := Nat.le_trans hL8 hE17.size
  have hS21 : SH w16 w.heap.size [aOwn fStr 9 a13 c14 x11, aBox 26 b2 [.string (bs []), .int .i64 0, .int .i64 0, .int .i64 0]] := SH.add hS9 hE17 hL8 hR18
  refine WL.runk 1 [2, 4] [(2, .pointer (some ⟨b2, 0, none⟩)), (4, .slice a13 x11.length c14)] (by kernel_rfl) ?_
  refine WL.nil ?_
  refine WQ.then_normal (hK10 _ _ _ ?_)
  refine WP.seq (fun K22 hK22 => ?_)
  refine WP.seq (fun K23 hK23 => ?_)
  obtain ⟨x27, hx28, hm⟩ := bindE hm
  refine WP.cut (fun env' w' => env' = [(2, .pointer (some ⟨b2, 0, none⟩)), (4, .slice a13 x11.length c14), (23, .bool x27)] ∧ Ext w w' ∧ w.heap.size ≤ w'.heap.size ∧ SH w' w.heap.size [aOwn fStr 9 a13 c14 x11, aBox 26 b2 [.string (bs []), .int .i64 0, .int .i64 0, .int .i64 0]]) ?_ ?_
  · have hm := hx28; clear hx28
    refine WP.region ?_
    refine WL.runk 4 [2, 4, 18] [(2, .pointer (some ⟨b2, 0, none⟩)), (4, .slice a13 x11.length c14), (18, .bool ((x11.length : Int) != 4))] (by kernel_rfl) ?_
    refine WL.case ((x11.length : Int) != 4) [18] ⟨rfl, trivial⟩ (fun hc29 => ?_) (fun hc29 => ?_)
    · have hm := iteT hm hc29
      refine WL.runk 5 [2, 4, 23] [(2, .pointer (some ⟨b2, 0, none⟩)), (4, .slice a13 x11.length c14), (23, .bool true)] (by kernel_rfl) ?_
      refine WL.nil ?_
      obtain rfl := Option.some.inj hm
      exact WQ.post' ⟨rfl, hb19, hL20, hS21⟩ ⟨rfl, rfl, rfl, trivial⟩
    have hm := iteF hm hc29
    refine WL.runk 1 [2, 4, 18, 19] [(2, .pointer (some ⟨b2, 0, none⟩)), (4, .slice a13 x11.length c14), (18, .bool false), (19, .slice a13 x11.length c14)] (by kernel_rfl) ?_
    obtain ⟨x30, hx31, hm⟩ := bindE hm
    refine WL.st (.pointer (some (at_ a13 (Int.toNat 2 * 1)))) (ST.index (T := fStr.ty) (xs := x11) (SH.rd (SH.front 0 hS21)) hx31 rfl rfl rfl Tryd.underlying38 (info9).1 (info9).2.1) rfl rfl rfl ?_
    refine WL.st (.string (bs x30)) (ST.load (cell_ext (Rd.flat (F := fStr) (SH.rd (SH.front 0 hS21)) hx31 0 rfl)) rfl rfl Tryd.underlying9 rfl) rfl rfl rfl ?_
    refine WL.st (.bool (!(x30 == [108, 101, 97, 115, 116]))) (ST.strne (x := x30) (y := [108, 101, 97, 115, 116]) rfl rfl rfl) rfl rfl rfl ?_
    refine WL.runk 1 [2, 4, 23] [(2, .pointer (some ⟨b2, 0, none⟩)), (4, .slice a13 x11.length c14), (23, .bool (!(x30 == [108, 101, 97, 115, 116])))] (by kernel_rfl) ?_
    refine WL.nil ?_
    obtain rfl := Option.some.inj hm
    exact WQ.post' ⟨rfl, hb19, hL20, hS21⟩ ⟨rfl, rfl, rfl, trivial⟩
  clear hx28
  rintro _ w32 ⟨rfl, hb33, hL34, hS35⟩
  refine WQ.then_normal (hK23 _ _ _ ?_)
  refine WP.cond x27 rfl rfl (fun hc36 => ?_) (fun hc36 => ?_)
  · have hm := iteT hm hc36
    refine WP.seq (fun K37 hK37 => ?_)
    refine WP.region ?_
    refine WL.runk 1 [2, 24] [(2, .pointer (some ⟨b2, 0, none⟩)), (24, .agg #[.string (bs []), .int .i64 0, .int .i64 0, .int .i64 0])] (by kernel_rfl) ?_
    refine WL.boxStore 0 [.string (bs []), .int .i64 0, .int .i64 0, .int .i64 0] [.string (bs []), .int .i64 0, .int .i64 0, .int .i64 0] (SH.front 1 hS35) hL34 rfl rfl rfl rfl rfl rfl rfl (info26).1 (info26).2.1 rfl rfl rfl ?_
    intro w38 hB39 hS40
    have hb41 : Ext w w38 := Below.trans hb33 hB39
    have hL42 : w.heap.size ≤ w38.heap.size := Nat.le_trans hL34 hB39.size
    refine WL.runk 1 [2, 3] [(2, .pointer (some ⟨b2, 0, none⟩)), (3, .bool false)] (by kernel_rfl) ?_
    refine WL.nil ?_
    refine WQ.then_normal (hK37 _ _ _ ?_)
    refine WP.ret ?_
    refine WQ.then_ret ?_
    obtain rfl := Option.some.inj hm
    exact WQ.retv2 _ _ rfl (RVal.box (SH.front 0 hS40) rfl Tryd.underlying26 rfl (info26).1 (info26).2.1) (RVal.tmp rfl) ⟨rfl, hb41⟩
  have hm := iteF hm hc36
  refine WP.skip ?_
  refine WQ.then_normal (hK22 _ _ _ ?_)
  refine WP.seq (fun K43 hK43 => ?_)
  refine WP.region ?_
  refine WL.runk 1 [2, 4, 25] [(2, .pointer (some ⟨b2, 0, none⟩)), (4, .slice a13 x11.length c14), (25, .slice a13 x11.length c14)] (by kernel_rfl) ?_
  obtain ⟨x44, hx45, hm⟩ := bindE hm
  refine WL.st (.pointer (some (at_ a13 (Int.toNat 1 * 1)))) (ST.index (T := fStr.ty) (xs := x11) (SH.rd (SH.front 0 hS35)) hx45 rfl rfl rfl Tryd.underlying38 (info9).1 (info9).2.1) rfl rfl rfl ?_
  refine WL.st (.string (bs x44)) (ST.load (cell_ext (Rd.flat (F := fStr) (SH.rd (SH.front 0 hS35)) hx45 0 rfl)) rfl rfl Tryd.underlying9 rfl) rfl rfl rfl ?_
  obtain ⟨x46, hx47, hm⟩ := bindE hm
  refine WL.call 16 #[.string (bs x44), .int .u8 45] rfl rfl (by kernel_rfl) (c_16 n x44 45 w32 hx47 ) ?_
  rintro _ w51 ⟨a48, c49, rfl, hE52, hR53⟩
  refine ⟨_, rfl, ?_⟩
  have hb54 : Ext w w51 := Ext.trans hb33 hE52
  have hL55 : w.heap.size ≤ w51.heap.size := Nat.le_trans hL34 hE52.size
  have hS56 : SH w51 w.heap.size [aOwn fStr 9 a48 c49 x46, aOwn fStr 9 a13 c14 x11, aBox 26 b2 [.string (bs []), .int .i64 0, .int .i64 0, .int .i64 0]] := SH.add hS35 hE52 hL34 hR53
  refine WL.runk 1 [2, 4, 5] [(2, .pointer (some ⟨b2, 0, none⟩)), (4, .slice a13 x11.length c14), (5, .slice a48 x46.length c49)] (by kernel_rfl) ?_
  refine WL.nil ?_
  refine WQ.then_normal (hK43 _ _ _ ?_)
  refine WP.seq (fun K57 hK57 => ?_)
  refine WP.seq (fun K58 hK58 => ?_)
  refine WP.region ?_
  refine WL.runk 3 [2, 4, 5, 31] [(2, .pointer (some ⟨b2, 0, none⟩)), (4, .slice a13 x11.length c14), (5, .slice a48 x46.length c49), (31, .bool ((x46.length : Int) != 2))] (by kernel_rfl) ?_
  refine WL.nil ?_
  refine WQ.then_normal (hK58 _ _ _ ?_)
  refine WP.cond ((x46.length : Int) != 2) rfl rfl (fun hc59 => ?_) (fun hc59 => ?_)
  · have hm := iteT hm hc59
    refine WP.seq (fun K60 hK60 => ?_)
    refine WP.region ?_
    refine WL.runk 1 [2, 32] [(2, .pointer (some ⟨b2, 0, none⟩)), (32, .agg #[.string (bs []), .int .i64 0, .int .i64 0, .int .i64 0])] (by kernel_rfl) ?_
    refine WL.boxStore 0 [.string (bs []), .int .i64 0, .int .i64 0, .int .i64 0] [.string (bs []), .int .i64 0, .int .i64 0, .int .i64 0] (SH.front 2 hS56) hL55 rfl rfl rfl rfl rfl rfl rfl (info26).1 (info26).2.1 rfl rfl rfl ?_
    intro w61 hB62 hS63
    have hb64 : Ext w w61 := Below.trans hb54 hB62
    have hL65 : w.heap.size ≤ w61.heap.size := Nat.le_trans hL55 hB62.size
    refine WL.runk 1 [2, 3] [(2, .pointer (some ⟨b2, 0, none⟩)), (3, .bool false)] (by kernel_rfl) ?_
    refine WL.nil ?_
    refine WQ.then_normal (hK60 _ _ _ ?_)
    refine WP.ret ?_
    refine WQ.then_ret ?_
    obtain rfl := Option.some.inj hm
    exact WQ.retv2 _ _ rfl (RVal.box (SH.front 0 hS63) rfl Tryd.underlying26 rfl (info26).1 (info26).2.1) (RVal.tmp rfl) ⟨rfl, hb64⟩
  have hm := iteF hm hc59
  refine WP.skip ?_
  refine WQ.then_normal (hK57 _ _ _ ?_)
  refine WP.seq (fun K66 hK66 => ?_)
  refine WP.region ?_
  refine WL.runk 1 [2, 4, 5, 34] [(2, .pointer (some ⟨b2, 0, none⟩)), (4, .slice a13 x11.length c14), (5, .slice a48 x46.length c49), (34, .slice a48 x46.length c49)] (by kernel_rfl) ?_
  obtain ⟨x67, hx68, hm⟩ := bindE hm
  refine WL.st (.pointer (some (at_ a48 (Int.toNat 0 * 1)))) (ST.index (T := fStr.ty) (xs := x46) (SH.rd (SH.front 0 hS56)) hx68 rfl rfl rfl Tryd.underlying38 (info9).1 (info9).2.1) rfl rfl rfl ?_
  refine WL.st (.string (bs x67)) (ST.load (cell_ext (Rd.flat (F := fStr) (SH.rd (SH.front 0 hS56)) hx68 0 rfl)) rfl rfl Tryd.underlying9 rfl) rfl rfl rfl ?_
  obtain ⟨x69, hx70, hm⟩ := bindE hm
  refine WL.call 17 #[.string (bs x67)] rfl rfl (by kernel_rfl) (c_17 n x67 w51 hx70 ) ?_
  rintro _ w71 ⟨rfl, hE72⟩
  refine ⟨_, rfl, ?_⟩
  have hb74 : Ext w w71 := Ext.trans hb54 hE72
  have hL75 : w.heap.size ≤ w71.heap.size := Nat.le_trans hL55 hE72.size
  have hS76 : SH w71 w.heap.size [aOwn fStr 9 a48 c49 x46, aOwn fStr 9 a13 c14 x11, aBox 26 b2 [.string (bs []), .int .i64 0, .int .i64 0, .int .i64 0]] := SH.ext hS56 hE72
  refine WL.runk 5 [2, 4, 5, 6, 7] [(2, .pointer (some ⟨b2, 0, none⟩)), (4, .slice a13 x11.length c14), (5, .slice a48 x46.length c49), (6, .int .i64 x69.1), (7, .bool x69.2)] (by kernel_rfl) ?_
  refine WL.nil ?_
  refine WQ.then_normal (hK66 _ _ _ ?_)
  refine WP.seq (fun K77 hK77 => ?_)
  refine WP.region ?_
  refine WL.runk 1 [2, 4, 6, 7, 41] [(2, .pointer (some ⟨b2, 0, none⟩)), (4, .slice a13 x11.length c14), (6, .int .i64 x69.1), (7, .bool x69.2), (41, .slice a48 x46.length c49)] (by kernel_rfl) ?_
  obtain ⟨x78, hx79, hm⟩ := bindE hm
  refine WL.st (.pointer (some (at_ a48 (Int.toNat 1 * 1)))) (ST.index (T := fStr.ty) (xs := x46) (SH.rd (SH.front 0 hS76)) hx79 rfl rfl rfl Tryd.underlying38 (info9).1 (info9).2.1) rfl rfl rfl ?_
  refine WL.st (.string (bs x78)) (ST.load (cell_ext (Rd.flat (F := fStr) (SH.rd (SH.front 0 hS76)) hx79 0 rfl)) rfl rfl Tryd.underlying9 rfl) rfl rfl rfl ?_
  obtain ⟨x80, hx81, hm⟩ := bindE hm
  refine WL.call 17 #[.string (bs x78)] rfl rfl (by kernel_rfl) (c_17 n x78 w71 hx81 ) ?_
  rintro _ w82 ⟨rfl, hE83⟩
  refine ⟨_, rfl, ?_⟩
  have hb85 : Ext w w82 := Ext.trans hb74 hE83
  have hL86 : w.heap.size ≤ w82.heap.size := Nat.le_trans hL75 hE83.size
  have hS87 : SH w82 w.heap.size [aOwn fStr 9 a48 c49 x46, aOwn fStr 9 a13 c14 x11, aBox 26 b2 [.string (bs []), .int .i64 0, .int .i64 0, .int .i64 0]] := SH.ext hS76 hE83
  refine WL.runk 5 [2, 4, 6, 7, 8, 9] [(2, .pointer (some ⟨b2, 0, none⟩)), (4, .slice a13 x11.length c14), (6, .int .i64 x69.1), (7, .bool x69.2), (8, .int .i64 x80.1), (9, .bool x80.2)] (by kernel_rfl) ?_
  refine WL.nil ?_
  refine WQ.then_normal (hK77 _ _ _ ?_)
  refine WP.seq (fun K88 hK88 => ?_)
  refine WP.region ?_
  refine WL.runk 1 [2, 4, 6, 7, 8, 9, 48] [(2, .pointer (some ⟨b2, 0, none⟩)), (4, .slice a13 x11.length c14), (6, .int .i64 x69.1), (7, .bool x69.2), (8, .int .i64 x80.1), (9, .bool x80.2), (48, .slice a13 x11.length c14)] (by kernel_rfl) ?_
  obtain ⟨x89, hx90, hm⟩ := bindE hm
  refine WL.st (.pointer (some (at_ a13 (Int.toNat 3 * 1)))) (ST.index (T := fStr.ty) (xs := x11) (SH.rd (SH.front 1 hS87)) hx90 rfl rfl rfl Tryd.underlying38 (info9).1 (info9).2.1) rfl rfl rfl ?_
  refine WL.st (.string (bs x89)) (ST.load (cell_ext (Rd.flat (F := fStr) (SH.rd (SH.front 1 hS87)) hx90 0 rfl)) rfl rfl Tryd.underlying9 rfl) rfl rfl rfl ?_
  obtain ⟨x91, hx92, hm⟩ := bindE hm
  refine WL.call 17 #[.string (bs x89)] rfl rfl (by kernel_rfl) (c_17 n x89 w82 hx92 ) ?_
  rintro _ w93 ⟨rfl, hE94⟩
  refine ⟨_, rfl, ?_⟩
  have hb96 : Ext w w93 := Ext.trans hb85 hE94
  have hL97 : w.heap.size ≤ w93.heap.size := Nat.le_trans hL86 hE94.size
  have hS98 : SH w93 w.heap.size [aOwn fStr 9 a48 c49 x46, aOwn fStr 9 a13 c14 x11, aBox 26 b2 [.string (bs []), .int .i64 0, .int .i64 0, .int .i64 0]] := SH.ext hS87 hE94
  refine WL.runk 5 [2, 4, 6, 7, 8, 9, 10, 11] [(2, .pointer (some ⟨b2, 0, none⟩)), (4, .slice a13 x11.length c14), (6, .int .i64 x69.1), (7, .bool x69.2), (8, .int .i64 x80.1), (9, .bool x80.2), (10, .int .i64 x91.1), (11, .bool x91.2)] (by kernel_rfl) ?_
  refine WL.nil ?_
  refine WQ.then_normal (hK88 _ _ _ ?_)
  refine WP.seq (fun K99 hK99 => ?_)
  refine WP.region ?_
  refine WL.runk 1 [2, 6, 7, 8, 9, 10, 11, 54] [(2, .pointer (some ⟨b2, 0, none⟩)), (6, .int .i64 x69.1), (7, .bool x69.2), (8, .int .i64 x80.1), (9, .bool x80.2), (10, .int .i64 x91.1), (11, .bool x91.2), (54, .slice a13 x11.length c14)] (by kernel_rfl) ?_
  obtain ⟨x100, hx101, hm⟩ := bindE hm
  refine WL.st (.pointer (some (at_ a13 (Int.toNat 0 * 1)))) (ST.index (T := fStr.ty) (xs := x11) (SH.rd (SH.front 1 hS98)) hx101 rfl rfl rfl Tryd.underlying38 (info9).1 (info9).2.1) rfl rfl rfl ?_
  refine WL.st (.string (bs x100)) (ST.load (cell_ext (Rd.flat (F := fStr) (SH.rd (SH.front 1 hS98)) hx101 0 rfl)) rfl rfl Tryd.underlying9 rfl) rfl rfl rfl ?_
  refine WL.runk 4 [2, 7, 9, 11, 60] [(2, .pointer (some ⟨b2, 0, none⟩)), (7, .bool x69.2), (9, .bool x80.2), (11, .bool x91.2), (60, .agg #[.string (bs x100), .int .i64 x69.1, .int .i64 x80.1, .int .i64 x91.1])] (by kernel_rfl) ?_
  refine WL.box 26 [.string (bs []), .int .i64 0, .int .i64 0, .int .i64 0] 12 (by kernel_rfl) rfl rfl rfl rfl ?_
  intro b102 w103 hE104 hR105
  have hb107 : Ext w w103 := Ext.trans hb96 hE104
  have hL108 : w.heap.size ≤ w103.heap.size := Nat.le_trans hL97 hE104.size
  have hS109 : SH w103 w.heap.size [aBox 26 b102 [.string (bs []), .int .i64 0, .int .i64 0, .int .i64 0], aOwn fStr 9 a48 c49 x46, aOwn fStr 9 a13 c14 x11, aBox 26 b2 [.string (bs []), .int .i64 0, .int .i64 0, .int .i64 0]] := SH.add hS98 hE104 hL97 hR105
  refine WL.boxStore 0 [.string (bs x100), .int .i64 x69.1, .int .i64 x80.1, .int .i64 x91.1] [.string (bs x100), .int .i64 x69.1, .int .i64 x80.1, .int .i64 x91.1] (SH.front 0 hS109) hL108 rfl rfl rfl rfl rfl rfl rfl (info26).1 (info26).2.1 rfl rfl rfl ?_
  intro w110 hB111 hS112
  have hb113 : Ext w w110 := Below.trans hb107 hB111
  have hL114 : w.heap.size ≤ w110.heap.size := Nat.le_trans hL108 hB111.size
  refine WL.sub [(2, .pointer (some ⟨b2, 0, none⟩)), (7, .bool x69.2), (9, .bool x80.2), (11, .bool x91.2), (12, .pointer (some ⟨b102, 0, none⟩))] ⟨rfl, rfl, rfl, rfl, rfl, trivial⟩ ?_
  refine WL.nil ?_
  refine WQ.then_normal (hK99 _ _ _ ?_)
  refine WP.seq (fun K115 hK115 => ?_)
  refine WP.seq (fun K116 hK116 => ?_)
  obtain ⟨x128, hx129, hm⟩ := bindE hm
  refine WP.cut (fun env' w' => env' = [(2, .pointer (some ⟨b2, 0, none⟩)), (12, .pointer (some ⟨b102, 0, none⟩)), (74, .bool x128)] ∧ Ext w w' ∧ w.heap.size ≤ w'.heap.size ∧ SH w' w.heap.size [aBox 26 b102 [.string (bs x100), .int .i64 x69.1, .int .i64 x80.1, .int .i64 x91.1], aOwn fStr 9 a48 c49 x46, aOwn fStr 9 a13 c14 x11, aBox 26 b2 [.string (bs []), .int .i64 0, .int .i64 0, .int .i64 0]]) ?_ ?_
  rotate_left
  · clear hx129
    rintro _ w141 ⟨rfl, hb142, hL143, hS144⟩
    refine WQ.then_normal (hK116 _ _ _ ?_)
    refine WP.cond x128 rfl rfl (fun hc145 => ?_) (fun hc145 => ?_)
    · have hm := iteT hm hc145
      refine WP.seq (fun K146 hK146 => ?_)
      refine WP.region ?_
      refine WL.runk 1 [2, 75] [(2, .pointer (some ⟨b2, 0, none⟩)), (75, .agg #[.string (bs []), .int .i64 0, .int .i64 0, .int .i64 0])] (by kernel_rfl) ?_
      refine WL.boxStore 0 [.string (bs []), .int .i64 0, .int .i64 0, .int .i64 0] [.string (bs []), .int .i64 0, .int .i64 0, .int .i64 0] (SH.front 3 hS144) hL143 rfl rfl rfl rfl rfl rfl rfl (info26).1 (info26).2.1 rfl rfl rfl ?_
      intro w147 hB148 hS149
      have hb150 : Ext w w147 := Below.trans hb142 hB148
      have hL151 : w.heap.size ≤ w147.heap.size := Nat.le_trans hL143 hB148.size
      refine WL.runk 1 [2, 3] [(2, .pointer (some ⟨b2, 0, none⟩)), (3, .bool false)] (by kernel_rfl) ?_
      refine WL.nil ?_
      refine WQ.then_normal (hK146 _ _ _ ?_)
      refine WP.ret ?_
      refine WQ.then_ret ?_
      obtain rfl := Option.some.inj hm
      exact WQ.retv2 _ _ rfl (RVal.box (SH.front 0 hS149) rfl Tryd.underlying26 rfl (info26).1 (info26).2.1) (RVal.tmp rfl) ⟨rfl, hb150⟩
    have hm := iteF hm hc145
    refine WP.skip ?_
    refine WQ.then_normal (hK115 _ _ _ ?_)
    refine WP.seq (fun K152 hK152 => ?_)
    refine WP.region ?_
    refine WL.st (.agg #[.string (bs x100), .int .i64 x69.1, .int .i64 x80.1, .int .i64 x91.1]) (ST.loadAgg (vs := [.string (bs x100), .int .i64 x69.1, .int .i64 x80.1, .int .i64 x91.1]) (fun j v hv => SH.boxPart (us := [.string (bs x100), .int .i64 x69.1, .int .i64 x80.1, .int .i64 x91.1]) (SH.front 0 hS144) 0 rfl j v hv) rfl rfl rfl Tryd.underlying26 rfl (info26).1 (info26).2.1) rfl rfl rfl ?_
    refine WL.boxStore 0 [.string (bs x100), .int .i64 x69.1, .int .i64 x80.1, .int .i64 x91.1] [.string (bs x100), .int .i64 x69.1, .int .i64 x80.1, .int .i64 x91.1] (SH.front 3 hS144) hL143 rfl rfl rfl rfl rfl rfl rfl (info26).1 (info26).2.1 rfl rfl rfl ?_
    intro w153 hB154 hS155
    have hb156 : Ext w w153 := Below.trans hb142 hB154
    have hL157 : w.heap.size ≤ w153.heap.size := Nat.le_trans hL143 hB154.size
    refine WL.runk 1 [2, 3] [(2, .pointer (some ⟨b2, 0, none⟩)), (3, .bool true)] (by kernel_rfl) ?_
    refine WL.nil ?_
    refine WQ.then_normal (hK152 _ _ _ ?_)
    refine WP.ret ?_
    obtain rfl := Option.some.inj hm
    exact WQ.retv2 _ _ rfl (RVal.box (SH.front 0 hS155) rfl Tryd.underlying26 rfl (info26).1 (info26).2.1) (RVal.tmp rfl) ⟨rfl, hb156⟩
  have hm := hx129; clear hx129
  refine WP.region ?_
  refine WL.runk 3 [2, 9, 11, 12, 63] [(2, .pointer (some ⟨b2, 0, none⟩)), (9, .bool x80.2), (11, .bool x91.2), (12, .pointer (some ⟨b102, 0, none⟩)), (63, .bool (!x69.2))] (by kernel_rfl) ?_
  refine WL.case (!x69.2) [63] ⟨rfl, trivial⟩ (fun hc130 => ?_) (fun hc130 => ?_)
  · have hm := iteT hm hc130
    refine WL.runk 11 [2, 12, 74] [(2, .pointer (some ⟨b2, 0, none⟩)), (12, .pointer (some ⟨b102, 0, none⟩)), (74, .bool true)] (by kernel_rfl) ?_
    refine WL.nil ?_
    obtain rfl := Option.some.inj hm
    exact WQ.post' ⟨rfl, hb113, hL114, hS112⟩ ⟨rfl, rfl, rfl, trivial⟩
  have hm := iteF hm hc130
  refine WL.runk 4 [2, 11, 12, 67] [(2, .pointer (some ⟨b2, 0, none⟩)), (11, .bool x91.2), (12, .pointer (some ⟨b102, 0, none⟩)), (67, .bool (!x80.2))] (by kernel_rfl) ?_
  refine WL.case (!x80.2) [67] ⟨rfl, trivial⟩ (fun hc131 => ?_) (fun hc131 => ?_)
  · have hm := iteT hm hc131
    refine WL.runk 7 [2, 12, 74] [(2, .pointer (some ⟨b2, 0, none⟩)), (12, .pointer (some ⟨b102, 0, none⟩)), (74, .bool true)] (by kernel_rfl) ?_
    refine WL.nil ?_
    obtain rfl := Option.some.inj hm
    exact WQ.post' ⟨rfl, hb113, hL114, hS112⟩ ⟨rfl, rfl, rfl, trivial⟩
  have hm := iteF hm hc131
  refine WL.runk 4 [2, 12, 71] [(2, .pointer (some ⟨b2, 0, none⟩)), (12, .pointer (some ⟨b102, 0, none⟩)), (71, .bool (!x91.2))] (by kernel_rfl) ?_
  refine WL.case (!x91.2) [71] ⟨rfl, trivial⟩ (fun hc132 => ?_) (fun hc132 => ?_)
  · have hm := iteT hm hc132
    refine WL.runk 3 [2, 12, 74] [(2, .pointer (some ⟨b2, 0, none⟩)), (12, .pointer (some ⟨b102, 0, none⟩)), (74, .bool true)] (by kernel_rfl) ?_
    refine WL.nil ?_
    obtain rfl := Option.some.inj hm
    exact WQ.post' ⟨rfl, hb113, hL114, hS112⟩ ⟨rfl, rfl, rfl, trivial⟩
  have hm := iteF hm hc132
  obtain ⟨x133, hx134, hm⟩ := bindE hm
  refine WL.call 12 #[.pointer (some ⟨b102, 0, none⟩)] rfl rfl (by kernel_rfl) (c_12 n (SGood.mk x100 x69.1 x80.1 x91.1) b102 0 w110 hx134 (SH.boxRd (SH.front 0 hS112))) ?_
  rintro _ w135 ⟨rfl, hE136⟩
  refine ⟨_, rfl, ?_⟩
  have hb138 : Ext w w135 := Ext.trans hb113 hE136
  have hL139 : w.heap.size ≤ w135.heap.size := Nat.le_trans hL114 hE136.size
  have hS140 : SH w135 w.heap.size [aBox 26 b102 [.string (bs x100), .int .i64 x69.1, .int .i64 x80.1, .int .i64 x91.1], aOwn fStr 9 a48 c49 x46, aOwn fStr 9 a13 c14 x11, aBox 26 b2 [.string (bs []), .int .i64 0, .int .i64 0, .int .i64 0]] := SH.ext hS112 hE136
  refine WL.runk 2 [2, 12, 74] [(2, .pointer (some ⟨b2, 0, none⟩)), (12, .pointer (some ⟨b102, 0, none⟩)), (74, .bool (!x133))] (by kernel_rfl) ?_
  refine WL.nil ?_
  obtain rfl := Option.some.inj hm
  exact WQ.post' ⟨rfl, hb138, hL139, hS140⟩ ⟨rfl, rfl, rfl, trivial⟩

theorem c_20 (n : Nat) (s_0 : List UInt8) (w : World) {r : Int × Bool} (hm : m_impl_ReadDecimal n s_0 = some r) (hG : GL 3 w) :
    CallV Tryd.prog 20 #[.string (bs s_0)] w (fun v w' => v = .tuple #[.int .i64 r.1, .bool r.2] ∧ Ext w w') := by
  unfold m_impl_ReadDecimal at hm
  refine CallV.enter Tryd.func20 rfl (by kernel_rfl) Tryd.ntmps20 (env := [(0, .string (bs s_0))]) ⟨rfl, trivial⟩ ?_
  refine WP.seq (fun K1 hK1 => ?_)
  refine WP.region ?_
  refine WL.runk 2 [0] [(0, .string (bs s_0))] (by kernel_rfl) ?_
  refine WL.nil ?_
  refine WQ.then_normal (hK1 _ _ _ ?_)
  refine WP.seq (fun K2 hK2 => ?_)
  refine WP.seq (fun K3 hK3 => ?_)
  obtain ⟨x13, hx14, hm⟩ := bindE hm
  refine WP.cut (fun env' w' => env' = [(0, .string (bs s_0)), (14, .bool x13)] ∧ Ext w w' ∧ w.heap.size ≤ w'.heap.size ∧ SH w' w.heap.size []) ?_ ?_
  · have hm := hx14; clear hx14
    refine WP.region ?_
    refine WL.runk 4 [0, 9] [(0, .string (bs s_0)), (9, .bool (decide ((s_0.length : Int) > 19)))] (by kernel_rfl) ?_
    refine WL.case (decide ((s_0.length : Int) > 19)) [9] ⟨rfl, trivial⟩ (fun hc15 => ?_) (fun hc15 => ?_)
    · have hm := iteT hm hc15
      refine WL.runk 5 [0, 14] [(0, .string (bs s_0)), (14, .bool true)] (by kernel_rfl) ?_
      refine WL.nil ?_
      obtain rfl := Option.some.inj hm
      exact WQ.post' ⟨rfl, (Ext.refl w), (Nat.le_refl _), (SH.nil _ _)⟩ ⟨rfl, rfl, trivial⟩
    have hm := iteF hm hc15
    refine WL.runk 1 [0, 9, 10] [(0, .string (bs s_0)), (9, .bool false), (10, .string (bs s_0))] (by kernel_rfl) ?_
    obtain ⟨x16, hx17, hm⟩ := bindE hm
    refine WL.call 31 #[.string (bs s_0), .string (bs [45])] rfl rfl (by kernel_rfl) (c_31 n s_0 [45] w hx17 ) ?_
    rintro _ w18 ⟨rfl, hE19⟩
    refine ⟨_, rfl, ?_⟩
    have hb21 : Ext w w18 := Ext.trans (Ext.refl w) hE19
    have hL22 : w.heap.size ≤ w18.heap.size := Nat.le_trans (Nat.le_refl _) hE19.size
    have hS23 : SH w18 w.heap.size [] := SH.ext (SH.nil _ _) hE19
    refine WL.runk 3 [0, 14] [(0, .string (bs s_0)), (14, .bool (decide ((x16.length : Int) > 18)))] (by kernel_rfl) ?_
    refine WL.nil ?_
    obtain rfl := Option.some.inj hm
    exact WQ.post' ⟨rfl, hb21, hL22, hS23⟩ ⟨rfl, rfl, trivial⟩
  clear hx14
  rintro _ w24 ⟨rfl, hb25, hL26, hS27⟩
  refine WQ.then_normal (hK3 _ _ _ ?_)
  refine WP.cond x13 rfl rfl (fun hc28 => ?_) (fun hc28 => ?_)
  · have hm := iteT hm hc28
    refine WP.seq (fun K29 hK29 => ?_)
    refine WP.region ?_
    refine WL.runk 2 [2, 3] [(2, .int .i64 0), (3, .bool false)] (by kernel_rfl) ?_
    refine WL.nil ?_
    refine WQ.then_normal (hK29 _ _ _ ?_)
    refine WP.ret ?_
    refine WQ.then_ret ?_
    obtain rfl := Option.some.inj hm
    exact WQ.ret2 _ _ rfl rfl rfl ⟨rfl, hb25⟩
  have hm := iteF hm hc28
  refine WP.skip ?_
  refine WQ.then_normal (hK2 _ _ _ ?_)
  refine WP.seq (fun K30 hK30 => ?_)
  refine WP.region ?_
  refine WL.runk 1 [0, 16] [(0, .string (bs s_0)), (16, .string (bs s_0))] (by kernel_rfl) ?_
  obtain ⟨x31, hx32, hm⟩ := bindE hm
  refine WL.call 32 #[.string (bs s_0), .int .i64 10, .int .i64 64] rfl rfl (by kernel_rfl) (c_32 n s_0 10 64 w24 hx32 (GL.below hG hb25)) ?_
  rintro _ w35 ⟨ev33, rfl, hev34, hE36⟩
  refine ⟨_, rfl, ?_⟩
  have hb38 : Ext w w35 := Ext.trans hb25 hE36
  have hL39 : w.heap.size ≤ w35.heap.size := Nat.le_trans hL26 hE36.size
  have hS40 : SH w35 w.heap.size [] := SH.ext hS27 hE36
  refine WL.runk 5 [0, 4, 5] [(0, .string (bs s_0)), (4, .int .i64 x31.1), (5, ev33)] (by kernel_rfl) ?_
  refine WL.nil ?_
  refine WQ.then_normal (hK30 _ _ _ ?_)
  refine WP.seq (fun K41 hK41 => ?_)
  refine WP.seq (fun K42 hK42 => ?_)
  obtain ⟨x52, hx53, hm⟩ := bindE hm
  refine WP.cut (fun env' w' => env' = [(4, .int .i64 x31.1), (27, .bool x52)] ∧ Ext w w' ∧ w.heap.size ≤ w'.heap.size ∧ SH w' w.heap.size []) ?_ ?_
  rotate_left
  · clear hx53
    rintro _ w63 ⟨rfl, hb64, hL65, hS66⟩
    refine WQ.then_normal (hK42 _ _ _ ?_)
    refine WP.cond x52 rfl rfl (fun hc67 => ?_) (fun hc67 => ?_)
    · have hm := iteT hm hc67
      refine WP.seq (fun K68 hK68 => ?_)
      refine WP.region ?_
      refine WL.runk 2 [2, 3] [(2, .int .i64 0), (3, .bool false)] (by kernel_rfl) ?_
      refine WL.nil ?_
      refine WQ.then_normal (hK68 _ _ _ ?_)
      refine WP.ret ?_
      refine WQ.then_ret ?_
      obtain rfl := Option.some.inj hm
      exact WQ.ret2 _ _ rfl rfl rfl ⟨rfl, hb64⟩
    have hm := iteF hm hc67
    refine WP.skip ?_
    refine WQ.then_normal (hK41 _ _ _ ?_)
    refine WP.seq (fun K69 hK69 => ?_)
    refine WP.region ?_
    refine WL.runk 3 [2, 3] [(2, .int .i64 x31.1), (3, .bool true)] (by kernel_rfl) ?_
    refine WL.nil ?_
    refine WQ.then_normal (hK69 _ _ _ ?_)
    refine WP.ret ?_
    obtain rfl := Option.some.inj hm
    exact WQ.ret2 _ _ rfl rfl rfl ⟨rfl, hb64⟩
  have hm := hx53; clear hx53
  refine WP.region ?_
  refine WL.runk 1 [0, 4, 20] [(0, .string (bs s_0)), (4, .int .i64 x31.1), (20, ev33)] (by kernel_rfl) ?_
  refine WL.st (.bool x31.2) (ST.errne (b := x31.2) hev34 (by kernel_rfl) rfl rfl) rfl rfl rfl ?_
  refine WL.runk 1 [0, 4, 22] [(0, .string (bs s_0)), (4, .int .i64 x31.1), (22, .bool x31.2)] (by kernel_rfl) ?_
  refine WL.case x31.2 [22] ⟨rfl, trivial⟩ (fun hc54 => ?_) (fun hc54 => ?_)
  · have hm := iteT hm hc54
    refine WL.runk 5 [4, 27] [(4, .int .i64 x31.1), (27, .bool true)] (by kernel_rfl) ?_
    refine WL.nil ?_
    obtain rfl := Option.some.inj hm
    exact WQ.post' ⟨rfl, hb38, hL39, hS40⟩ ⟨rfl, rfl, trivial⟩
  have hm := iteF hm hc54
  refine WL.runk 1 [0, 4, 22, 23] [(0, .string (bs s_0)), (4, .int .i64 x31.1), (22, .bool false), (23, .int .i64 x31.1)] (by kernel_rfl) ?_
  obtain ⟨x55, hx56, hm⟩ := bindE hm
  refine WL.call 15 #[.int .i64 x31.1] rfl rfl (by kernel_rfl) (c_15 n x31.1 w35 hx56 (GL.below (GL.low (j := 2) hG rfl) hb38)) ?_
  rintro _ w57 ⟨rfl, hE58⟩
  refine ⟨_, rfl, ?_⟩
  have hb60 : Ext w w57 := Ext.trans hb38 hE58
  have hL61 : w.heap.size ≤ w57.heap.size := Nat.le_trans hL39 hE58.size
  have hS62 : SH w57 w.heap.size [] := SH.ext hS40 hE58
  refine WL.runk 1 [4, 22, 24, 25] [(4, .int .i64 x31.1), (22, .bool false), (24, .string (bs x55)), (25, .string (bs s_0))] (by kernel_rfl) ?_
  refine WL.st (.bool (!(x55 == s_0))) (ST.strne (x := x55) (y := s_0) rfl rfl rfl) rfl rfl rfl ?_
  refine WL.runk 1 [4, 27] [(4, .int .i64 x31.1), (27, .bool (!(x55 == s_0)))] (by kernel_rfl) ?_
  refine WL.nil ?_
  obtain rfl := Option.some.inj hm
  exact WQ.post' ⟨rfl, hb60, hL61, hS62⟩ ⟨rfl, rfl, trivial⟩

theorem c_19 (n : Nat) (s_0 : List UInt8) (separator_1 : List UInt8) (count_2 : Int) (w : World) {r : List Int × Bool} (hm : m_impl_readNumbers n s_0 separator_1 count_2 = some r) (hG : GL 3 w) :
    CallV Tryd.prog 19 #[.string (bs s_0), .string (bs separator_1), .int .i64 count_2] w (fun v w' => ∃ (ra0 : Option Addr) (rc0 : Nat), v = .tuple #[.slice ra0 r.1.length rc0, .bool r.2] ∧ Ext w w' ∧ SH w' w.heap.size [aOwn fInt 2 ra0 rc0 r.1]) := by
  unfold m_impl_readNumbers at hm
  refine CallV.enter Tryd.func19 rfl (by kernel_rfl) Tryd.ntmps19 (env := [(0, .string (bs s_0)), (1, .string (bs separator_1)), (2, .int .i64 count_2)]) ⟨rfl, rfl, rfl, trivial⟩ ?_
  refine WP.seq (fun K1 hK1 => ?_)
  refine WP.region ?_
  refine WL.runk 2 [0, 1, 2] [(0, .string (bs s_0)), (1, .string (bs separator_1)), (2, .int .i64 count_2)] (by kernel_rfl) ?_
  refine WL.nil ?_
  refine WQ.then_normal (hK1 _ _ _ ?_)
  refine WP.seq (fun K2 hK2 => ?_)
  refine WP.region ?_
  refine WL.runk 4 [2, 14, 15, 17] [(2, .int .i64 count_2), (14, .string (bs s_0)), (15, .string (bs separator_1)), (17, .int .i64 (wI64 (count_2 + 1)))] (by kernel_rfl) ?_
  obtain ⟨x3, hx4, hm⟩ := bindE hm
  refine WL.call 30 #[.string (bs s_0), .string (bs separator_1), .int .i64 (wI64 (count_2 + 1))] rfl rfl (by kernel_rfl) (c_30 n s_0 separator_1 (wI64 (count_2 + 1)) w hx4 (GL.below (GL.low (j := 1) hG rfl) (Ext.refl w))) ?_
  rintro _ w8 ⟨a5, c6, rfl, hE9, hR10⟩
  refine ⟨_, rfl, ?_⟩
  have hb11 : Ext w w8 := Ext.trans (Ext.refl w) hE9
  have hL12 : w.heap.size ≤ w8.heap.size := Nat.le_trans (Nat.le_refl _) hE9.size
  have hS13 : SH w8 w.heap.size [aOwn fStr 9 a5 c6 x3] := SH.add (SH.nil _ _) hE9 (Nat.le_refl _) hR10
  refine WL.runk 1 [2, 8] [(2, .int .i64 count_2), (8, .slice a5 x3.length c6)] (by kernel_rfl) ?_
  refine WL.nil ?_
  refine WQ.then_normal (hK2 _ _ _ ?_)
  refine WP.seq (fun K14 hK14 => ?_)
  refine WP.seq (fun K15 hK15 => ?_)
  refine WP.region ?_
  refine WL.runk 4 [8, 22] [(8, .slice a5 x3.length c6), (22, .bool ((x3.length : Int) != count_2))] (by kernel_rfl) ?_
  refine WL.nil ?_
  refine WQ.then_normal (hK15 _ _ _ ?_)
  refine WP.cond ((x3.length : Int) != count_2) rfl rfl (fun hc16 => ?_) (fun hc16 => ?_)
  · have hm := iteT hm hc16
    refine WP.seq (fun K17 hK17 => ?_)
    refine WP.region ?_
    refine WL.runk 2 [6, 7] [(6, .slice none 0 0), (7, .bool false)] (by kernel_rfl) ?_
    refine WL.nil ?_
    refine WQ.then_normal (hK17 _ _ _ ?_)
    refine WP.ret ?_
    refine WQ.then_ret ?_
    obtain rfl := Option.some.inj hm
    have hS19 : SH w8 w.heap.size [aOwn fInt 2 none 0 ([] : List Int), aOwn fStr 9 a5 c6 x3] := SH.nilOwn hS13
    exact WQ.ret2 _ _ rfl rfl rfl ⟨_, _, rfl, hb11, (SH.take 1 hS19)⟩
  have hm := iteF hm hc16
  refine WP.skip ?_
  refine WQ.then_normal (hK14 _ _ _ ?_)
  refine WP.seq (fun K20 hK20 => ?_)
  refine WP.region ?_
  refine WL.row fInt 2 ([] : List Int) 0 #[] 23 (by kernel_rfl) rfl rfl rfl rfl rfl rfl rfl ?_
  intro a21 c22 w23 hE24 hR25
  have hb27 : Ext w w23 := Ext.trans hb11 hE24
  have hL28 : w.heap.size ≤ w23.heap.size := Nat.le_trans hL12 hE24.size
  have hS29 : SH w23 w.heap.size [aOwn fInt 2 a21 c22 ([] : List Int), aOwn fStr 9 a5 c6 x3] := SH.add hS13 hE24 hL12 hR25
  refine WL.runk 1 [8, 9] [(8, .slice a5 x3.length c6), (9, .slice a21 (([] : List Int).length) c22)] (by kernel_rfl) ?_
  refine WL.nil ?_
  refine WQ.then_normal (hK20 _ _ _ ?_)
  refine WP.seq (fun K30 hK30 => ?_)
  refine WP.seq (fun K31 hK31 => ?_)
  refine WP.region ?_
  refine WL.runk 3 [9, 24, 25, 26] [(9, .slice a21 (([] : List Int).length) c22), (24, .slice a5 x3.length c6), (25, .int .i64 (x3.length : Int)), (26, .int .i64 0)] (by kernel_rfl) ?_
  refine WL.nil ?_
  refine WQ.then_normal (hK31 _ _ _ ?_)
  refine WP.block ?_
  obtain ⟨t46, ht47, hm⟩ := bindE hm
  have hmo41 := hm; clear hm
  refine WP.sub [(9, .slice a21 (([] : List Int).length) c22), (24, .slice a5 x3.length c6), (25, .int .i64 (x3.length : Int)), (26, .int .i64 0)] ⟨rfl, rfl, rfl, rfl, trivial⟩ ?_
  refine WP.loop (fun n' env' w' => ∃ (st32 : List Int × Int) (a33 : Option Addr) (c34 : Nat), env' = [(9, .slice a33 st32.1.length c34), (24, .slice a5 x3.length c6), (25, .int .i64 (x3.length : Int)), (26, .int .i64 st32.2)] ∧ Ext w w' ∧ w.heap.size ≤ w'.heap.size ∧ SH w' w.heap.size [aOwn fInt 2 a33 c34 st32.1, aOwn fStr 9 a5 c6 x3] ∧ loopN (m_impl_readNumbers_l1 n x3) n' st32 = some t46) n ⟨(([] : List Int), 0), _, _, rfl, hb27, hL28, hS29, ht47⟩ ?_
  rintro n43 _ w36 ⟨st32, a33, c34, rfl, hb37, hL38, hS39, hl40⟩ K42 hK42
  obtain ⟨n44, s45, rfl, hm, hl40⟩ := loopN_some hl40
  unfold m_impl_readNumbers_l1 at hm
  refine WP.seq (fun K48 hK48 => ?_)
  refine WP.region ?_
  refine WL.runk 1 [9, 24, 25, 26, 27] [(9, .slice a33 st32.1.length c34), (24, .slice a5 x3.length c6), (25, .int .i64 (x3.length : Int)), (26, .int .i64 st32.2), (27, .bool (decide (st32.2 < (x3.length : Int))))] (by kernel_rfl) ?_
  refine WL.nil ?_
  refine WQ.then_normal (hK48 _ _ _ ?_)
  refine WP.seq (fun K49 hK49 => ?_)
  refine WP.cond (decide (st32.2 < (x3.length : Int))) rfl rfl (fun hc50 => ?_) (fun hc50 => ?_)
  rotate_left
  · have hm := iteF hm hc50
    refine WP.exit ?_
    refine WQ.then_exit ?_
    refine WQ.then_exit ?_
    refine WQ.block_here ?_
    obtain rfl := Option.some.inj hm
    obtain rfl := afterN_done hl40
    have hm := hmo41
    refine WQ.then_normal (hK30 _ _ _ ?_)
    refine WP.seq (fun K88 hK88 => ?_)
    refine WP.region ?_
    refine WL.runk 3 [6, 7] [(6, .slice a33 st32.1.length c34), (7, .bool true)] (by kernel_rfl) ?_
    refine WL.nil ?_
    refine WQ.then_normal (hK88 _ _ _ ?_)
    refine WP.ret ?_
    obtain rfl := Option.some.inj hm
    exact WQ.ret2 _ _ rfl rfl rfl ⟨_, _, rfl, hb37, (SH.take 1 hS39)⟩
  have hm := iteT hm hc50
  refine WP.skip ?_
  refine WQ.then_normal (hK49 _ _ _ ?_)
  refine WP.seq (fun K51 hK51 => ?_)
  refine WP.block ?_
  refine WP.seq (fun K52 hK52 => ?_)
  refine WP.region ?_
  obtain ⟨x53, hx54, hm⟩ := bindE hm
  refine WL.st (.pointer (some (at_ a5 (Int.toNat st32.2 * 1)))) (ST.index (T := fStr.ty) (xs := x3) (SH.rd (SH.front 1 hS39)) hx54 rfl rfl rfl Tryd.underlying38 (info9).1 (info9).2.1) rfl rfl rfl ?_
  refine WL.st (.string (bs x53)) (ST.load (cell_ext (Rd.flat (F := fStr) (SH.rd (SH.front 1 hS39)) hx54 0 rfl)) rfl rfl Tryd.underlying9 rfl) rfl rfl rfl ?_
  refine WL.runk 1 [9, 11, 24, 25, 26] [(9, .slice a33 st32.1.length c34), (24, .slice a5 x3.length c6), (25, .int .i64 (x3.length : Int)), (26, .int .i64 st32.2), (11, .string (bs x53))] (by kernel_rfl) ?_
  refine WL.nil ?_
  refine WQ.then_normal (hK52 _ _ _ ?_)
  refine WP.seq (fun K55 hK55 => ?_)
  refine WP.region ?_
  refine WL.runk 1 [9, 24, 25, 26, 31] [(9, .slice a33 st32.1.length c34), (24, .slice a5 x3.length c6), (25, .int .i64 (x3.length : Int)), (26, .int .i64 st32.2), (31, .string (bs x53))] (by kernel_rfl) ?_
  obtain ⟨x56, hx57, hm⟩ := bindE hm
  refine WL.call 20 #[.string (bs x53)] rfl rfl (by kernel_rfl) (c_20 n x53 w36 hx57 (GL.below hG hb37)) ?_
  rintro _ w58 ⟨rfl, hE59⟩
  refine ⟨_, rfl, ?_⟩
  have hb61 : Ext w w58 := Ext.trans hb37 hE59
  have hL62 : w.heap.size ≤ w58.heap.size := Nat.le_trans hL38 hE59.size
  have hS63 : SH w58 w.heap.size [aOwn fInt 2 a33 c34 st32.1, aOwn fStr 9 a5 c6 x3] := SH.ext hS39 hE59
  refine WL.runk 5 [9, 12, 13, 24, 25, 26] [(9, .slice a33 st32.1.length c34), (24, .slice a5 x3.length c6), (25, .int .i64 (x3.length : Int)), (26, .int .i64 st32.2), (12, .int .i64 x56.1), (13, .bool x56.2)] (by kernel_rfl) ?_
  refine WL.nil ?_
  refine WQ.then_normal (hK55 _ _ _ ?_)
  refine WP.seq (fun K64 hK64 => ?_)
  refine WP.seq (fun K65 hK65 => ?_)
  refine WP.region ?_
  refine WL.runk 2 [9, 12, 24, 25, 26, 36] [(9, .slice a33 st32.1.length c34), (24, .slice a5 x3.length c6), (25, .int .i64 (x3.length : Int)), (26, .int .i64 st32.2), (12, .int .i64 x56.1), (36, .bool (!x56.2))] (by kernel_rfl) ?_
  refine WL.nil ?_
  refine WQ.then_normal (hK65 _ _ _ ?_)
  refine WP.cond (!x56.2) rfl rfl (fun hc66 => ?_) (fun hc66 => ?_)
  · have hm := iteT hm hc66
    refine WP.seq (fun K67 hK67 => ?_)
    refine WP.region ?_
    refine WL.runk 2 [6, 7] [(6, .slice none 0 0), (7, .bool false)] (by kernel_rfl) ?_
    refine WL.nil ?_
    refine WQ.then_normal (hK67 _ _ _ ?_)
    refine WP.ret ?_
    refine WQ.then_ret ?_
    refine WQ.block_ret ?_
    refine WQ.then_ret ?_
    refine WQ.then_ret ?_
    refine WQ.block_ret ?_
    refine WQ.then_ret ?_
    obtain rfl := Option.some.inj hm
    obtain rfl := afterN_done hl40
    have hm := hmo41
    obtain rfl := Option.some.inj hm
    have hS69 : SH w58 w.heap.size [aOwn fInt 2 none 0 ([] : List Int), aOwn fInt 2 a33 c34 st32.1, aOwn fStr 9 a5 c6 x3] := SH.nilOwn hS63
    exact WQ.ret2 _ _ rfl rfl rfl ⟨_, _, rfl, hb61, (SH.take 1 hS69)⟩
  have hm := iteF hm hc66
  refine WP.skip ?_
  refine WQ.then_normal (hK64 _ _ _ ?_)
  refine WP.region ?_
  refine WL.runk 2 [24, 25, 26, 37, 38] [(24, .slice a5 x3.length c6), (25, .int .i64 (x3.length : Int)), (26, .int .i64 st32.2), (37, .slice a33 st32.1.length c34), (38, .int .i64 x56.1)] (by kernel_rfl) ?_
  refine WL.row fInt 2 ([x56.1] : List Int) 1 #[.int .i64 x56.1] 39 (by kernel_rfl) rfl rfl rfl rfl rfl rfl rfl ?_
  intro a70 c71 w72 hE73 hR74
  have hb76 : Ext w w72 := Ext.trans hb61 hE73
  have hL77 : w.heap.size ≤ w72.heap.size := Nat.le_trans hL62 hE73.size
  have hS78 : SH w72 w.heap.size [aOwn fInt 2 a70 c71 ([x56.1] : List Int), aOwn fInt 2 a33 c34 st32.1, aOwn fStr 9 a5 c6 x3] := SH.add hS63 hE73 hL62 hR74
  obtain ⟨x79, hx80, hm⟩ := bindE hm
  refine WL.append (F := fInt) (xs := st32.1) (ys := ([x56.1] : List Int)) 40 (SH.front 1 hS78) hL77 (SH.rd (SH.front 0 hS78)) hx80 rfl rfl rfl Tryd.underlying43 (info2).1 (info2).2.2.1 (info2).2.1 (info2).2.2.2 rfl rfl rfl rfl rfl ?_
  intro a81 c82 w83 hB84 hS85
  have hb86 : Ext w w83 := Below.trans hb76 hB84
  have hL87 : w.heap.size ≤ w83.heap.size := Nat.le_trans hL77 hB84.size
  refine WL.runk 1 [9, 24, 25, 26] [(24, .slice a5 x3.length c6), (25, .int .i64 (x3.length : Int)), (26, .int .i64 st32.2), (9, .slice a81 x79.length c82)] (by kernel_rfl) ?_
  refine WL.nil ?_
  refine WQ.block_normal ?_
  refine WQ.then_normal (hK51 _ _ _ ?_)
  refine WP.region ?_
  refine WL.runk 2 [9, 24, 25, 26] [(24, .slice a5 x3.length c6), (25, .int .i64 (x3.length : Int)), (26, .int .i64 (wI64 (st32.2 + 1))), (9, .slice a81 x79.length c82)] (by kernel_rfl) ?_
  refine WL.nil ?_
  obtain rfl := Option.some.inj hm
  exact WQ.round hK42 ⟨(x79, (wI64 (st32.2 + 1))), _, _, rfl, hb86, hL87, (SH.take 2 (SH.front 1 (SH.front 2 hS85))), hl40⟩ (Nat.lt_succ_self _) ⟨rfl, rfl, rfl, rfl, trivial⟩

theorem c_10 (n : Nat) (s_0 : List UInt8) (w : World) {r : SGood × Bool} (hm : m_impl_ReadGood n s_0 = some r) (hG : GL 3 w) :
    CallV Tryd.prog 10 #[.string (bs s_0)] w (fun v w' => v = .tuple #[.agg #[.string (bs r.1.Name), .int .i64 r.1.OnHand, .int .i64 r.1.Reserved, .int .i64 r.1.Least], .bool r.2] ∧ Ext w w') := by
  unfold m_impl_ReadGood at hm
  refine CallV.enter Tryd.func10 rfl (by kernel_rfl) Tryd.ntmps10 (env := [(0, .string (bs s_0))]) ⟨rfl, trivial⟩ ?_
  refine WP.seq (fun K1 hK1 => ?_)
  refine WP.region ?_
  refine WL.box 26 [.string (bs []), .int .i64 0, .int .i64 0, .int .i64 0] 2 (by kernel_rfl) rfl rfl rfl rfl ?_
  intro b2 w3 hE4 hR5
  have hb7 : Ext w w3 := Ext.trans (Ext.refl w) hE4
  have hL8 : w.heap.size ≤ w3.heap.size := Nat.le_trans (Nat.le_refl _) hE4.size
  have hS9 : SH w3 w.heap.size [aBox 26 b2 [.string (bs []), .int .i64 0, .int .i64 0, .int .i64 0]] := SH.add (SH.nil _ _) hE4 (Nat.le_refl _) hR5
  refine WL.runk 1 [0, 2] [(0, .string (bs s_0)), (2, .pointer (some ⟨b2, 0, none⟩))] (by kernel_rfl) ?_
  refine WL.nil ?_
  refine WQ.then_normal (hK1 _ _ _ ?_)
  refine WP.seq (fun K10 hK10 => ?_)
  refine WP.region ?_
  refine WL.runk 1 [0, 2, 10] [(0, .string (bs s_0)), (2, .pointer (some ⟨b2, 0, none⟩)), (10, .string (bs s_0))] (by kernel_rfl) ?_
  obtain ⟨x11, hx12, hm⟩ := bindE hm
  refine WL.call 18 #[.string (bs s_0), .string (bs [32])] rfl rfl (by kernel_rfl) (c_18 n s_0 [32] w3 hx12 (GL.below (GL.low (j := 1) hG rfl) hb7)) ?_
  rintro _ w16 ⟨a13, c14, rfl, hE17, hR18⟩
  refine ⟨_, rfl, ?_⟩
  have hb19 : Ext w w16 := Ext.trans hb7 hE17
  have hL20 : w.heap.size ≤ w16.heap.size := Nat.le_trans hL8 hE17.size
  have hS21 : SH w16 w.heap.size [aOwn fStr 9 a13 c14 x11, aBox 26 b2 [.string (bs []), .int .i64 0, .int .i64 0, .int .i64 0]] := SH.add hS9 hE17 hL8 hR18
  refine WL.runk 1 [0, 2, 4] [(0, .string (bs s_0)), (2, .pointer (some ⟨b2, 0, none⟩)), (4, .slice a13 x11.length c14)] (by kernel_rfl) ?_
  refine WL.nil ?_
  refine WQ.then_normal (hK10 _ _ _ ?_)
  refine WP.seq (fun K22 hK22 => ?_)
  refine WP.seq (fun K23 hK23 => ?_)
  refine WP.region ?_
  refine WL.runk 3 [0, 2, 4, 14] [(0, .string (bs s_0)), (2, .pointer (some ⟨b2, 0, none⟩)), (4, .slice a13 x11.length c14), (14, .bool ((x11.length : Int) != 4))] (by kernel_rfl) ?_
  refine WL.nil ?_
  refine WQ.then_normal (hK23 _ _ _ ?_)
  refine WP.cond ((x11.length : Int) != 4) rfl rfl (fun hc24 => ?_) (fun hc24 => ?_)
  · have hm := iteT hm hc24
    refine WP.seq (fun K25 hK25 => ?_)
    refine WP.region ?_
    refine WL.runk 1 [2, 15] [(2, .pointer (some ⟨b2, 0, none⟩)), (15, .agg #[.string (bs []), .int .i64 0, .int .i64 0, .int .i64 0])] (by kernel_rfl) ?_
    refine WL.boxStore 0 [.string (bs []), .int .i64 0, .int .i64 0, .int .i64 0] [.string (bs []), .int .i64 0, .int .i64 0, .int .i64 0] (SH.front 1 hS21) hL20 rfl rfl rfl rfl rfl rfl rfl (info26).1 (info26).2.1 rfl rfl rfl ?_
    intro w26 hB27 hS28
    have hb29 : Ext w w26 := Below.trans hb19 hB27
    have hL30 : w.heap.size ≤ w26.heap.size := Nat.le_trans hL20 hB27.size
    refine WL.runk 1 [2, 3] [(2, .pointer (some ⟨b2, 0, none⟩)), (3, .bool false)] (by kernel_rfl) ?_
    refine WL.nil ?_
    refine WQ.then_normal (hK25 _ _ _ ?_)
    refine WP.ret ?_
    refine WQ.then_ret ?_
    obtain rfl := Option.some.inj hm
    exact WQ.retv2 _ _ rfl (RVal.box (SH.front 0 hS28) rfl Tryd.underlying26 rfl (info26).1 (info26).2.1) (RVal.tmp rfl) ⟨rfl, hb29⟩
  have hm := iteF hm hc24
  refine WP.skip ?_
  refine WQ.then_normal (hK22 _ _ _ ?_)
  refine WP.seq (fun K31 hK31 => ?_)
  refine WP.region ?_
  refine WL.runk 1 [0, 2, 4, 17] [(0, .string (bs s_0)), (2, .pointer (some ⟨b2, 0, none⟩)), (4, .slice a13 x11.length c14), (17, .slice a13 x11.length c14)] (by kernel_rfl) ?_
  obtain ⟨x32, hx33, hm⟩ := bindE hm
  refine WL.st (.pointer (some (at_ a13 (Int.toNat 1 * 1)))) (ST.index (T := fStr.ty) (xs := x11) (SH.rd (SH.front 0 hS21)) hx33 rfl rfl rfl Tryd.underlying38 (info9).1 (info9).2.1) rfl rfl rfl ?_
  refine WL.st (.string (bs x32)) (ST.load (cell_ext (Rd.flat (F := fStr) (SH.rd (SH.front 0 hS21)) hx33 0 rfl)) rfl rfl Tryd.underlying9 rfl) rfl rfl rfl ?_
  obtain ⟨x34, hx35, hm⟩ := bindE hm
  refine WL.call 19 #[.string (bs x32), .string (bs [45]), .int .i64 2] rfl rfl (by kernel_rfl) (c_19 n x32 [45] 2 w16 hx35 (GL.below hG hb19)) ?_
  rintro _ w39 ⟨a36, c37, rfl, hE40, hR41⟩
  refine ⟨_, rfl, ?_⟩
  have hb42 : Ext w w39 := Ext.trans hb19 hE40
  have hL43 : w.heap.size ≤ w39.heap.size := Nat.le_trans hL20 hE40.size
  have hS44 : SH w39 w.heap.size [aOwn fInt 2 a36 c37 x34.1, aOwn fStr 9 a13 c14 x11, aBox 26 b2 [.string (bs []), .int .i64 0, .int .i64 0, .int .i64 0]] := SH.add hS21 hE40 hL20 hR41
  refine WL.runk 5 [0, 2, 4, 5, 6] [(0, .string (bs s_0)), (2, .pointer (some ⟨b2, 0, none⟩)), (4, .slice a13 x11.length c14), (5, .slice a36 x34.1.length c37), (6, .bool x34.2)] (by kernel_rfl) ?_
  refine WL.nil ?_
  refine WQ.then_normal (hK31 _ _ _ ?_)
  refine WP.seq (fun K45 hK45 => ?_)
  refine WP.region ?_
  refine WL.runk 1 [0, 2, 4, 5, 6, 24] [(0, .string (bs s_0)), (2, .pointer (some ⟨b2, 0, none⟩)), (4, .slice a13 x11.length c14), (5, .slice a36 x34.1.length c37), (6, .bool x34.2), (24, .slice a13 x11.length c14)] (by kernel_rfl) ?_
  obtain ⟨x46, hx47, hm⟩ := bindE hm
  refine WL.st (.pointer (some (at_ a13 (Int.toNat 3 * 1)))) (ST.index (T := fStr.ty) (xs := x11) (SH.rd (SH.front 1 hS44)) hx47 rfl rfl rfl Tryd.underlying38 (info9).1 (info9).2.1) rfl rfl rfl ?_
  refine WL.st (.string (bs x46)) (ST.load (cell_ext (Rd.flat (F := fStr) (SH.rd (SH.front 1 hS44)) hx47 0 rfl)) rfl rfl Tryd.underlying9 rfl) rfl rfl rfl ?_
  obtain ⟨x48, hx49, hm⟩ := bindE hm
  refine WL.call 20 #[.string (bs x46)] rfl rfl (by kernel_rfl) (c_20 n x46 w39 hx49 (GL.below hG hb42)) ?_
  rintro _ w50 ⟨rfl, hE51⟩
  refine ⟨_, rfl, ?_⟩
  have hb53 : Ext w w50 := Ext.trans hb42 hE51
  have hL54 : w.heap.size ≤ w50.heap.size := Nat.le_trans hL43 hE51.size
  have hS55 : SH w50 w.heap.size [aOwn fInt 2 a36 c37 x34.1, aOwn fStr 9 a13 c14 x11, aBox 26 b2 [.string (bs []), .int .i64 0, .int .i64 0, .int .i64 0]] := SH.ext hS44 hE51
  refine WL.runk 5 [0, 2, 4, 5, 6, 7, 8] [(0, .string (bs s_0)), (2, .pointer (some ⟨b2, 0, none⟩)), (4, .slice a13 x11.length c14), (5, .slice a36 x34.1.length c37), (6, .bool x34.2), (7, .int .i64 x48.1), (8, .bool x48.2)] (by kernel_rfl) ?_
  refine WL.nil ?_
  refine WQ.then_normal (hK45 _ _ _ ?_)
  refine WP.seq (fun K56 hK56 => ?_)
  refine WP.seq (fun K57 hK57 => ?_)
  obtain ⟨x59, hx60, hm⟩ := bindE hm
  refine WP.cut (fun env' w' => env' = [(0, .string (bs s_0)), (2, .pointer (some ⟨b2, 0, none⟩)), (4, .slice a13 x11.length c14), (5, .slice a36 x34.1.length c37), (7, .int .i64 x48.1), (35, .bool x59)] ∧ Ext w w' ∧ w.heap.size ≤ w'.heap.size ∧ SH w' w.heap.size [aOwn fInt 2 a36 c37 x34.1, aOwn fStr 9 a13 c14 x11, aBox 26 b2 [.string (bs []), .int .i64 0, .int .i64 0, .int .i64 0]]) ?_ ?_
  · have hm := hx60; clear hx60
    refine WP.region ?_
    refine WL.runk 3 [0, 2, 4, 5, 7, 8, 32] [(0, .string (bs s_0)), (2, .pointer (some ⟨b2, 0, none⟩)), (4, .slice a13 x11.length c14), (5, .slice a36 x34.1.length c37), (7, .int .i64 x48.1), (8, .bool x48.2), (32, .bool (!x34.2))] (by kernel_rfl) ?_
    refine WL.case (!x34.2) [32] ⟨rfl, trivial⟩ (fun hc61 => ?_) (fun hc61 => ?_)
    · have hm := iteT hm hc61
      refine WL.runk 3 [0, 2, 4, 5, 7, 35] [(0, .string (bs s_0)), (2, .pointer (some ⟨b2, 0, none⟩)), (4, .slice a13 x11.length c14), (5, .slice a36 x34.1.length c37), (7, .int .i64 x48.1), (35, .bool true)] (by kernel_rfl) ?_
      refine WL.nil ?_
      obtain rfl := Option.some.inj hm
      exact WQ.post' ⟨rfl, hb53, hL54, hS55⟩ ⟨rfl, rfl, rfl, rfl, rfl, rfl, trivial⟩
    have hm := iteF hm hc61
    refine WL.runk 3 [0, 2, 4, 5, 7, 35] [(0, .string (bs s_0)), (2, .pointer (some ⟨b2, 0, none⟩)), (4, .slice a13 x11.length c14), (5, .slice a36 x34.1.length c37), (7, .int .i64 x48.1), (35, .bool (!x48.2))] (by kernel_rfl) ?_
    refine WL.nil ?_
    obtain rfl := Option.some.inj hm
    exact WQ.post' ⟨rfl, hb53, hL54, hS55⟩ ⟨rfl, rfl, rfl, rfl, rfl, rfl, trivial⟩
  clear hx60
  rintro _ w62 ⟨rfl, hb63, hL64, hS65⟩
  refine WQ.then_normal (hK57 _ _ _ ?_)
  refine WP.cond x59 rfl rfl (fun hc66 => ?_) (fun hc66 => ?_)
  · have hm := iteT hm hc66
    refine WP.seq (fun K67 hK67 => ?_)
    refine WP.region ?_
    refine WL.runk 1 [2, 36] [(2, .pointer (some ⟨b2, 0, none⟩)), (36, .agg #[.string (bs []), .int .i64 0, .int .i64 0, .int .i64 0])] (by kernel_rfl) ?_
    refine WL.boxStore 0 [.string (bs []), .int .i64 0, .int .i64 0, .int .i64 0] [.string (bs []), .int .i64 0, .int .i64 0, .int .i64 0] (SH.front 2 hS65) hL64 rfl rfl rfl rfl rfl rfl rfl (info26).1 (info26).2.1 rfl rfl rfl ?_
    intro w68 hB69 hS70
    have hb71 : Ext w w68 := Below.trans hb63 hB69
    have hL72 : w.heap.size ≤ w68.heap.size := Nat.le_trans hL64 hB69.size
    refine WL.runk 1 [2, 3] [(2, .pointer (some ⟨b2, 0, none⟩)), (3, .bool false)] (by kernel_rfl) ?_
    refine WL.nil ?_
    refine WQ.then_normal (hK67 _ _ _ ?_)
    refine WP.ret ?_
    refine WQ.then_ret ?_
    obtain rfl := Option.some.inj hm
    exact WQ.retv2 _ _ rfl (RVal.box (SH.front 0 hS70) rfl Tryd.underlying26 rfl (info26).1 (info26).2.1) (RVal.tmp rfl) ⟨rfl, hb71⟩
  have hm := iteF hm hc66
  refine WP.skip ?_
  refine WQ.then_normal (hK56 _ _ _ ?_)
  refine WP.seq (fun K73 hK73 => ?_)
  refine WP.open (n := 13) (by kernel_rfl) rfl (fun w74 hE75 => ?_)
  have hb76 : Ext w w74 := Ext.trans hb63 hE75
  have hL77 : w.heap.size ≤ w74.heap.size := Nat.le_trans hL64 hE75.size
  have hS78 : SH w74 w.heap.size [aOwn fInt 2 a36 c37 x34.1, aOwn fStr 9 a13 c14 x11, aBox 26 b2 [.string (bs []), .int .i64 0, .int .i64 0, .int .i64 0]] := SH.ext hS65 hE75
  refine WA.float (Φ := fun v w' => ∃ (b84 : Nat), v = .pointer (some ⟨b84, 0, none⟩) ∧ SH w' w74.heap.size [aBox 26 b84 [.string (bs []), .int .i64 0, .int .i64 0, .int .i64 0]]) (f := 11) (f' := 1) (D1 := [0, 1, 2, 3, 4, 5, 6, 7, 8, 9, 10]) (D' := [0, 1, 2, 3, 4, 5, 6, 7, 8, 9, 10, 11]) [0, 1, 2, 3, 4, 5, 6, 7, 8, 9, 10] [] (fun _ _ _ ⟨b84, e, h⟩ hE => ⟨b84, e, SH.ext h hE⟩) rfl rfl rfl rfl (by kernel_rfl) ?_
  refine QL.step1v 37 (.slice a13 x11.length c14) rfl (fun _ => by kernel_rfl) ?_
  refine QL.subk [0, 2, 5, 7, 37] [(0, .string (bs s_0)), (2, .pointer (some ⟨b2, 0, none⟩)), (5, .slice a36 x34.1.length c37), (7, .int .i64 x48.1), (37, .slice a13 x11.length c14)] (by kernel_rfl) ?_
  obtain ⟨x93, hx94, hm⟩ := bindE hm
  refine QL.st (.pointer (some (at_ a13 (Int.toNat 0 * 1)))) (ST.index (T := fStr.ty) (xs := x11) (SH.rd (SH.front 1 hS78)) hx94 rfl rfl rfl Tryd.underlying38 (info9).1 (info9).2.1) rfl rfl rfl ?_
  refine QL.st (.string (bs x93)) (ST.load (cell_ext (Rd.flat (F := fStr) (SH.rd (SH.front 1 hS78)) hx94 0 rfl)) rfl rfl Tryd.underlying9 rfl) rfl rfl rfl ?_
  refine QL.step1v 40 (.slice a36 x34.1.length c37) rfl (fun _ => by kernel_rfl) ?_
  refine QL.subk [0, 2, 5, 7, 39, 40] [(0, .string (bs s_0)), (2, .pointer (some ⟨b2, 0, none⟩)), (5, .slice a36 x34.1.length c37), (7, .int .i64 x48.1), (39, .string (bs x93)), (40, .slice a36 x34.1.length c37)] (by kernel_rfl) ?_
  obtain ⟨x95, hx96, hm⟩ := bindE hm
  refine QL.st (.pointer (some (at_ a36 (Int.toNat 0 * 1)))) (ST.index (T := fInt.ty) (xs := x34.1) (SH.rd (SH.front 0 hS78)) hx96 rfl rfl rfl Tryd.underlying43 (info2).1 (info2).2.1) rfl rfl rfl ?_
  refine QL.st (.int .i64 x95) (ST.load (cell_ext (Rd.flat (F := fInt) (SH.rd (SH.front 0 hS78)) hx96 0 rfl)) rfl rfl Tryd.underlying2 rfl) rfl rfl rfl ?_
  refine QL.step1v 43 (.slice a36 x34.1.length c37) rfl (fun _ => by kernel_rfl) ?_
  refine QL.subk [0, 2, 7, 39, 42, 43] [(0, .string (bs s_0)), (2, .pointer (some ⟨b2, 0, none⟩)), (7, .int .i64 x48.1), (39, .string (bs x93)), (42, .int .i64 x95), (43, .slice a36 x34.1.length c37)] (by kernel_rfl) ?_
  obtain ⟨x97, hx98, hm⟩ := bindE hm
  refine QL.st (.pointer (some (at_ a36 (Int.toNat 1 * 1)))) (ST.index (T := fInt.ty) (xs := x34.1) (SH.rd (SH.front 0 hS78)) hx98 rfl rfl rfl Tryd.underlying43 (info2).1 (info2).2.1) rfl rfl rfl ?_
  refine QL.st (.int .i64 x97) (ST.load (cell_ext (Rd.flat (F := fInt) (SH.rd (SH.front 0 hS78)) hx98 0 rfl)) rfl rfl Tryd.underlying2 rfl) rfl rfl rfl ?_
  refine QL.step1v 46 (.int .i64 x48.1) rfl (fun _ => by kernel_rfl) ?_
  refine QL.step1v 47 (.agg #[.string (bs x93), .int .i64 x95, .int .i64 x97, .int .i64 x48.1]) rfl (fun _ => by kernel_rfl) ?_
  refine QL.subk [0, 2, 47] [(0, .string (bs s_0)), (2, .pointer (some ⟨b2, 0, none⟩)), (47, .agg #[.string (bs x93), .int .i64 x95, .int .i64 x97, .int .i64 x48.1])] (by kernel_rfl) ?_
  refine QL.nil ?_
  intro w99 hE100
  refine QF.make (f' := 1) (hs := [0, 1, 2, 3, 4, 5, 6, 7, 8, 9, 10]) (D' := [0, 1, 2, 3, 4, 5, 6, 7, 8, 9, 10, 11]) (ex := []) (pre := [11]) (D'' := [0, 1, 2, 3, 4, 5, 6, 7, 8, 9, 10, 11]) 9 (fun w79 hE80 => ?_) (fun v101 => ⟨[(0, .string (bs s_0)), (2, .pointer (some ⟨b2, 0, none⟩)), (47, .agg #[.string (bs x93), .int .i64 x95, .int .i64 x97, .int .i64 x48.1]), (9, v101)], runP_nil, fun w102 hE103 hR104 => ?_⟩) rfl rfl rfl rfl rfl (by kernel_rfl)
  · have hb81 : Ext w w79 := Ext.trans hb76 hE80
    have hL82 : w.heap.size ≤ w79.heap.size := Nat.le_trans hL77 hE80.size
    have hS83 : SH w79 w.heap.size [aOwn fInt 2 a36 c37 x34.1, aOwn fStr 9 a13 c14 x11, aBox 26 b2 [.string (bs []), .int .i64 0, .int .i64 0, .int .i64 0]] := SH.ext hS78 hE80
    refine WL.box 26 [.string (bs []), .int .i64 0, .int .i64 0, .int .i64 0] 9 (by kernel_rfl) rfl rfl rfl rfl ?_
    intro b84 w85 hE86 hR87
    have hb89 : Ext w w85 := Ext.trans hb81 hE86
    have hL90 : w.heap.size ≤ w85.heap.size := Nat.le_trans hL82 hE86.size
    have hS91 : SH w85 w.heap.size [aBox 26 b84 [.string (bs []), .int .i64 0, .int .i64 0, .int .i64 0], aOwn fInt 2 a36 c37 x34.1, aOwn fStr 9 a13 c14 x11, aBox 26 b2 [.string (bs []), .int .i64 0, .int .i64 0, .int .i64 0]] := SH.add hS83 hE86 hL82 hR87
    have hx92 := hE86
    refine WL.nil ?_
    exact QΦ.intro (v := .pointer (some ⟨b84, 0, none⟩)) rfl hx92 ⟨b84, rfl, SH.low hR87 hE80.size⟩
  · obtain ⟨b84, rfl, hR104⟩ := hR104
    have hb105 : Ext w w102 := Ext.trans hb76 hE103
    have hL106 : w.heap.size ≤ w102.heap.size := Nat.le_trans hL77 hE103.size
    have hS107 : SH w102 w.heap.size [aBox 26 b84 [.string (bs []), .int .i64 0, .int .i64 0, .int .i64 0], aOwn fInt 2 a36 c37 x34.1, aOwn fStr 9 a13 c14 x11, aBox 26 b2 [.string (bs []), .int .i64 0, .int .i64 0, .int .i64 0]] := SH.add hS78 hE103 hL77 hR104
    refine WA.one (i := 12) (D' := [0, 1, 2, 3, 4, 5, 6, 7, 8, 9, 10, 11, 12]) rfl rfl (by kernel_rfl) ?_
    refine WL.boxStore 0 [.string (bs x93), .int .i64 x95, .int .i64 x97, .int .i64 x48.1] [.string (bs x93), .int .i64 x95, .int .i64 x97, .int .i64 x48.1] (SH.front 0 hS107) hL106 rfl rfl rfl rfl rfl rfl rfl (info26).1 (info26).2.1 rfl rfl rfl ?_
    intro w108 hB109 hS110
    have hb111 : Ext w w108 := Below.trans hb105 hB109
    have hL112 : w.heap.size ≤ w108.heap.size := Nat.le_trans hL106 hB109.size
    refine WL.sub [(0, .string (bs s_0)), (2, .pointer (some ⟨b2, 0, none⟩)), (9, .pointer (some ⟨b84, 0, none⟩))] ⟨rfl, rfl, rfl, trivial⟩ ?_
    refine WL.nil ?_
    refine WA.done (by kernel_rfl) ?_
    refine WQ.then_normal (hK73 _ _ _ ?_)
    refine WP.seq (fun K113 hK113 => ?_)
    refine WP.seq (fun K114 hK114 => ?_)
    refine WP.region ?_
    refine WL.st (.agg #[.string (bs x93), .int .i64 x95, .int .i64 x97, .int .i64 x48.1]) (ST.loadAgg (vs := [.string (bs x93), .int .i64 x95, .int .i64 x97, .int .i64 x48.1]) (fun j v hv => SH.boxPart (us := [.string (bs x93), .int .i64 x95, .int .i64 x97, .int .i64 x48.1]) (SH.front 0 hS110) 0 rfl j v hv) rfl rfl rfl Tryd.underlying26 rfl (info26).1 (info26).2.1) rfl rfl rfl ?_
    obtain ⟨x115, hx116, hm⟩ := bindE hm
    refine WL.call 8 #[.agg #[.string (bs x93), .int .i64 x95, .int .i64 x97, .int .i64 x48.1]] rfl rfl (by kernel_rfl) (c_8 n (SGood.mk x93 x95 x97 x48.1) w108 hx116 (GL.below (GL.low (j := 2) hG rfl) hb111)) ?_
    rintro _ w117 ⟨rfl, hE118⟩
    refine ⟨_, rfl, ?_⟩
    have hb120 : Ext w w117 := Ext.trans hb111 hE118
    have hL121 : w.heap.size ≤ w117.heap.size := Nat.le_trans hL112 hE118.size
    have hS122 : SH w117 w.heap.size [aBox 26 b84 [.string (bs x93), .int .i64 x95, .int .i64 x97, .int .i64 x48.1], aOwn fInt 2 a36 c37 x34.1, aOwn fStr 9 a13 c14 x11, aBox 26 b2 [.string (bs []), .int .i64 0, .int .i64 0, .int .i64 0]] := SH.ext hS110 hE118
    refine WL.runk 1 [2, 9, 49, 50] [(2, .pointer (some ⟨b2, 0, none⟩)), (9, .pointer (some ⟨b84, 0, none⟩)), (49, .string (bs x115)), (50, .string (bs s_0))] (by kernel_rfl) ?_
    refine WL.st (.bool (!(x115 == s_0))) (ST.strne (x := x115) (y := s_0) rfl rfl rfl) rfl rfl rfl ?_
    refine WL.sub [(2, .pointer (some ⟨b2, 0, none⟩)), (9, .pointer (some ⟨b84, 0, none⟩)), (51, .bool (!(x115 == s_0)))] ⟨rfl, rfl, rfl, trivial⟩ ?_
    refine WL.nil ?_
    refine WQ.then_normal (hK114 _ _ _ ?_)
    refine WP.cond (!(x115 == s_0)) rfl rfl (fun hc123 => ?_) (fun hc123 => ?_)
    · have hm := iteT hm hc123
      refine WP.seq (fun K124 hK124 => ?_)
      refine WP.region ?_
      refine WL.runk 1 [2, 52] [(2, .pointer (some ⟨b2, 0, none⟩)), (52, .agg #[.string (bs []), .int .i64 0, .int .i64 0, .int .i64 0])] (by kernel_rfl) ?_
      refine WL.boxStore 0 [.string (bs []), .int .i64 0, .int .i64 0, .int .i64 0] [.string (bs []), .int .i64 0, .int .i64 0, .int .i64 0] (SH.front 3 hS122) hL121 rfl rfl rfl rfl rfl rfl rfl (info26).1 (info26).2.1 rfl rfl rfl ?_
      intro w125 hB126 hS127
      have hb128 : Ext w w125 := Below.trans hb120 hB126
      have hL129 : w.heap.size ≤ w125.heap.size := Nat.le_trans hL121 hB126.size
      refine WL.runk 1 [2, 3] [(2, .pointer (some ⟨b2, 0, none⟩)), (3, .bool false)] (by kernel_rfl) ?_
      refine WL.nil ?_
      refine WQ.then_normal (hK124 _ _ _ ?_)
      refine WP.ret ?_
      refine WQ.then_ret ?_
      obtain rfl := Option.some.inj hm
      exact WQ.retv2 _ _ rfl (RVal.box (SH.front 0 hS127) rfl Tryd.underlying26 rfl (info26).1 (info26).2.1) (RVal.tmp rfl) ⟨rfl, hb128⟩
    have hm := iteF hm hc123
    refine WP.skip ?_
    refine WQ.then_normal (hK113 _ _ _ ?_)
    refine WP.seq (fun K130 hK130 => ?_)
    refine WP.region ?_
    refine WL.st (.agg #[.string (bs x93), .int .i64 x95, .int .i64 x97, .int .i64 x48.1]) (ST.loadAgg (vs := [.string (bs x93), .int .i64 x95, .int .i64 x97, .int .i64 x48.1]) (fun j v hv => SH.boxPart (us := [.string (bs x93), .int .i64 x95, .int .i64 x97, .int .i64 x48.1]) (SH.front 0 hS122) 0 rfl j v hv) rfl rfl rfl Tryd.underlying26 rfl (info26).1 (info26).2.1) rfl rfl rfl ?_
    refine WL.boxStore 0 [.string (bs x93), .int .i64 x95, .int .i64 x97, .int .i64 x48.1] [.string (bs x93), .int .i64 x95, .int .i64 x97, .int .i64 x48.1] (SH.front 3 hS122) hL121 rfl rfl rfl rfl rfl rfl rfl (info26).1 (info26).2.1 rfl rfl rfl ?_
    intro w131 hB132 hS133
    have hb134 : Ext w w131 := Below.trans hb120 hB132
    have hL135 : w.heap.size ≤ w131.heap.size := Nat.le_trans hL121 hB132.size
    refine WL.runk 1 [2, 3] [(2, .pointer (some ⟨b2, 0, none⟩)), (3, .bool true)] (by kernel_rfl) ?_
    refine WL.nil ?_
    refine WQ.then_normal (hK130 _ _ _ ?_)
    refine WP.ret ?_
    obtain rfl := Option.some.inj hm
    exact WQ.retv2 _ _ rfl (RVal.box (SH.front 0 hS133) rfl Tryd.underlying26 rfl (info26).1 (info26).2.1) (RVal.tmp rfl) ⟨rfl, hb134⟩

theorem c_11 (n : Nat) (a_0 : SGood) (b_1 : SGood) (w : World) {r : Bool} (hm : m_laws_eqGood n a_0 b_1 = some r)  :
    CallV Tryd.prog 11 #[.agg #[.string (bs a_0.Name), .int .i64 a_0.OnHand, .int .i64 a_0.Reserved, .int .i64 a_0.Least], .agg #[.string (bs b_1.Name), .int .i64 b_1.OnHand, .int .i64 b_1.Reserved, .int .i64 b_1.Least]] w (fun v w' => v = .bool r ∧ Ext w w') := by
  unfold m_laws_eqGood at hm
  refine CallV.enter Tryd.func11 rfl (by kernel_rfl) Tryd.ntmps11 (env := [(0, .agg #[.string (bs a_0.Name), .int .i64 a_0.OnHand, .int .i64 a_0.Reserved, .int .i64 a_0.Least]), (1, .agg #[.string (bs b_1.Name), .int .i64 b_1.OnHand, .int .i64 b_1.Reserved, .int .i64 b_1.Least])]) ⟨rfl, rfl, trivial⟩ ?_
  refine WP.seq (fun K1 hK1 => ?_)
  refine WP.region ?_
  refine WL.box 26 [.string (bs a_0.Name), .int .i64 a_0.OnHand, .int .i64 a_0.Reserved, .int .i64 a_0.Least] 2 (by kernel_rfl) rfl rfl rfl rfl ?_
  intro b2 w3 hE4 hR5
  have hb7 : Ext w w3 := Ext.trans (Ext.refl w) hE4
  have hL8 : w.heap.size ≤ w3.heap.size := Nat.le_trans (Nat.le_refl _) hE4.size
  have hS9 : SH w3 w.heap.size [aBox 26 b2 [.string (bs a_0.Name), .int .i64 a_0.OnHand, .int .i64 a_0.Reserved, .int .i64 a_0.Least]] := SH.add (SH.nil _ _) hE4 (Nat.le_refl _) hR5
  refine WL.box 26 [.string (bs b_1.Name), .int .i64 b_1.OnHand, .int .i64 b_1.Reserved, .int .i64 b_1.Least] 3 (by kernel_rfl) rfl rfl rfl rfl ?_
  intro b10 w11 hE12 hR13
  have hb15 : Ext w w11 := Ext.trans hb7 hE12
  have hL16 : w.heap.size ≤ w11.heap.size := Nat.le_trans hL8 hE12.size
  have hS17 : SH w11 w.heap.size [aBox 26 b10 [.string (bs b_1.Name), .int .i64 b_1.OnHand, .int .i64 b_1.Reserved, .int .i64 b_1.Least], aBox 26 b2 [.string (bs a_0.Name), .int .i64 a_0.OnHand, .int .i64 a_0.Reserved, .int .i64 a_0.Least]] := SH.add hS9 hE12 hL8 hR13
  refine WL.runk 1 [2, 3] [(2, .pointer (some ⟨b2, 0, none⟩)), (3, .pointer (some ⟨b10, 0, none⟩))] (by kernel_rfl) ?_
  refine WL.nil ?_
  refine WQ.then_normal (hK1 _ _ _ ?_)
  refine WP.seq (fun K18 hK18 => ?_)
  refine WP.seq (fun K19 hK19 => ?_)
  refine WP.region ?_
  refine WL.runk 1 [2, 3, 5] [(2, .pointer (some ⟨b2, 0, none⟩)), (3, .pointer (some ⟨b10, 0, none⟩)), (5, .pointer (some ⟨b2, 0, none⟩))] (by kernel_rfl) ?_
  refine WL.st (.string (bs a_0.Name)) (ST.load (cell_ext (SH.boxAt (SH.front 1 hS17) 0 _ rfl)) rfl rfl Tryd.underlying9 rfl) rfl rfl rfl ?_
  refine WL.runk 1 [2, 3, 6, 7] [(2, .pointer (some ⟨b2, 0, none⟩)), (3, .pointer (some ⟨b10, 0, none⟩)), (6, .string (bs a_0.Name)), (7, .pointer (some ⟨b10, 0, none⟩))] (by kernel_rfl) ?_
  refine WL.st (.string (bs b_1.Name)) (ST.load (cell_ext (SH.boxAt (SH.front 0 hS17) 0 _ rfl)) rfl rfl Tryd.underlying9 rfl) rfl rfl rfl ?_
  refine WL.st (.bool (!(a_0.Name == b_1.Name))) (ST.strne (x := a_0.Name) (y := b_1.Name) rfl rfl rfl) rfl rfl rfl ?_
  refine WL.sub [(2, .pointer (some ⟨b2, 0, none⟩)), (3, .pointer (some ⟨b10, 0, none⟩)), (9, .bool (!(a_0.Name == b_1.Name)))] ⟨rfl, rfl, rfl, trivial⟩ ?_
  refine WL.nil ?_
  refine WQ.then_normal (hK19 _ _ _ ?_)
  refine WP.cond (!(a_0.Name == b_1.Name)) rfl rfl (fun hc20 => ?_) (fun hc20 => ?_)
  · have hm := iteT hm hc20
    refine WP.seq (fun K21 hK21 => ?_)
    refine WP.region ?_
    refine WL.runk 1 [4] [(4, .bool false)] (by kernel_rfl) ?_
    refine WL.nil ?_
    refine WQ.then_normal (hK21 _ _ _ ?_)
    refine WP.ret ?_
    refine WQ.then_ret ?_
    obtain rfl := Option.some.inj hm
    exact WQ.ret1 _ rfl rfl ⟨rfl, hb15⟩
  have hm := iteF hm hc20
  refine WP.skip ?_
  refine WQ.then_normal (hK18 _ _ _ ?_)
  refine WP.seq (fun K22 hK22 => ?_)
  refine WP.seq (fun K23 hK23 => ?_)
  refine WP.region ?_
  refine WL.runk 1 [2, 3, 10] [(2, .pointer (some ⟨b2, 0, none⟩)), (3, .pointer (some ⟨b10, 0, none⟩)), (10, .pointer (some ⟨b2, 1, none⟩))] (by kernel_rfl) ?_
  refine WL.st (.int .i64 a_0.OnHand) (ST.load (cell_ext (SH.boxAt (SH.front 1 hS17) 1 _ rfl)) rfl rfl Tryd.underlying2 rfl) rfl rfl rfl ?_
  refine WL.runk 1 [2, 3, 11, 12] [(2, .pointer (some ⟨b2, 0, none⟩)), (3, .pointer (some ⟨b10, 0, none⟩)), (11, .int .i64 a_0.OnHand), (12, .pointer (some ⟨b10, 1, none⟩))] (by kernel_rfl) ?_
  refine WL.st (.int .i64 b_1.OnHand) (ST.load (cell_ext (SH.boxAt (SH.front 0 hS17) 1 _ rfl)) rfl rfl Tryd.underlying2 rfl) rfl rfl rfl ?_
  refine WL.runk 1 [2, 3, 14] [(2, .pointer (some ⟨b2, 0, none⟩)), (3, .pointer (some ⟨b10, 0, none⟩)), (14, .bool (a_0.OnHand != b_1.OnHand))] (by kernel_rfl) ?_
  refine WL.nil ?_
  refine WQ.then_normal (hK23 _ _ _ ?_)
  refine WP.cond (a_0.OnHand != b_1.OnHand) rfl rfl (fun hc24 => ?_) (fun hc24 => ?_)
  · have hm := iteT hm hc24
    refine WP.seq (fun K25 hK25 => ?_)
    refine WP.region ?_
    refine WL.runk 1 [4] [(4, .bool false)] (by kernel_rfl) ?_
    refine WL.nil ?_
    refine WQ.then_normal (hK25 _ _ _ ?_)
    refine WP.ret ?_
    refine WQ.then_ret ?_
    obtain rfl := Option.some.inj hm
    exact WQ.ret1 _ rfl rfl ⟨rfl, hb15⟩
  have hm := iteF hm hc24
  refine WP.skip ?_
  refine WQ.then_normal (hK22 _ _ _ ?_)
  refine WP.seq (fun K26 hK26 => ?_)
  refine WP.seq (fun K27 hK27 => ?_)
  refine WP.region ?_
  refine WL.runk 1 [2, 3, 15] [(2, .pointer (some ⟨b2, 0, none⟩)), (3, .pointer (some ⟨b10, 0, none⟩)), (15, .pointer (some ⟨b2, 2, none⟩))] (by kernel_rfl) ?_
  refine WL.st (.int .i64 a_0.Reserved) (ST.load (cell_ext (SH.boxAt (SH.front 1 hS17) 2 _ rfl)) rfl rfl Tryd.underlying2 rfl) rfl rfl rfl ?_
  refine WL.runk 1 [2, 3, 16, 17] [(2, .pointer (some ⟨b2, 0, none⟩)), (3, .pointer (some ⟨b10, 0, none⟩)), (16, .int .i64 a_0.Reserved), (17, .pointer (some ⟨b10, 2, none⟩))] (by kernel_rfl) ?_
  refine WL.st (.int .i64 b_1.Reserved) (ST.load (cell_ext (SH.boxAt (SH.front 0 hS17) 2 _ rfl)) rfl rfl Tryd.underlying2 rfl) rfl rfl rfl ?_
  refine WL.runk 1 [2, 3, 19] [(2, .pointer (some ⟨b2, 0, none⟩)), (3, .pointer (some ⟨b10, 0, none⟩)), (19, .bool (a_0.Reserved != b_1.Reserved))] (by kernel_rfl) ?_
  refine WL.nil ?_
  refine WQ.then_normal (hK27 _ _ _ ?_)
  refine WP.cond (a_0.Reserved != b_1.Reserved) rfl rfl (fun hc28 => ?_) (fun hc28 => ?_)
  · have hm := iteT hm hc28
    refine WP.seq (fun K29 hK29 => ?_)
    refine WP.region ?_
    refine WL.runk 1 [4] [(4, .bool false)] (by kernel_rfl) ?_
    refine WL.nil ?_
    refine WQ.then_normal (hK29 _ _ _ ?_)
    refine WP.ret ?_
    refine WQ.then_ret ?_
    obtain rfl := Option.some.inj hm
    exact WQ.ret1 _ rfl rfl ⟨rfl, hb15⟩
  have hm := iteF hm hc28
  refine WP.skip ?_
  refine WQ.then_normal (hK26 _ _ _ ?_)
  refine WP.seq (fun K30 hK30 => ?_)
  refine WP.seq (fun K31 hK31 => ?_)
  refine WP.region ?_
  refine WL.runk 1 [3, 20] [(3, .pointer (some ⟨b10, 0, none⟩)), (20, .pointer (some ⟨b2, 3, none⟩))] (by kernel_rfl) ?_
  refine WL.st (.int .i64 a_0.Least) (ST.load (cell_ext (SH.boxAt (SH.front 1 hS17) 3 _ rfl)) rfl rfl Tryd.underlying2 rfl) rfl rfl rfl ?_
  refine WL.runk 1 [21, 22] [(21, .int .i64 a_0.Least), (22, .pointer (some ⟨b10, 3, none⟩))] (by kernel_rfl) ?_
  refine WL.st (.int .i64 b_1.Least) (ST.load (cell_ext (SH.boxAt (SH.front 0 hS17) 3 _ rfl)) rfl rfl Tryd.underlying2 rfl) rfl rfl rfl ?_
  refine WL.runk 1 [24] [(24, .bool (a_0.Least != b_1.Least))] (by kernel_rfl) ?_
  refine WL.nil ?_
  refine WQ.then_normal (hK31 _ _ _ ?_)
  refine WP.cond (a_0.Least != b_1.Least) rfl rfl (fun hc32 => ?_) (fun hc32 => ?_)
  · have hm := iteT hm hc32
    refine WP.seq (fun K33 hK33 => ?_)
    refine WP.region ?_
    refine WL.runk 1 [4] [(4, .bool false)] (by kernel_rfl) ?_
    refine WL.nil ?_
    refine WQ.then_normal (hK33 _ _ _ ?_)
    refine WP.ret ?_
    refine WQ.then_ret ?_
    obtain rfl := Option.some.inj hm
    exact WQ.ret1 _ rfl rfl ⟨rfl, hb15⟩
  have hm := iteF hm hc32
  refine WP.skip ?_
  refine WQ.then_normal (hK30 _ _ _ ?_)
  refine WP.seq (fun K34 hK34 => ?_)
  refine WP.region ?_
  refine WL.runk 1 [4] [(4, .bool true)] (by kernel_rfl) ?_
  refine WL.nil ?_
  refine WQ.then_normal (hK34 _ _ _ ?_)
  refine WP.ret ?_
  obtain rfl := Option.some.inj hm
  exact WQ.ret1 _ rfl rfl ⟨rfl, hb15⟩

theorem c_4 (n : Nat) (aS_0 : List UInt8) (w : World) {r : Bool} (hm : m_laws_FnExactReadGood n aS_0 = some r) (hG : GL 3 w) :
    CallV Tryd.prog 4 #[.string (bs aS_0)] w (fun v w' => v = .bool r ∧ Ext w w') := by
  unfold m_laws_FnExactReadGood at hm
  refine CallV.enter Tryd.func4 rfl (by kernel_rfl) Tryd.ntmps4 (env := [(0, .string (bs aS_0))]) ⟨rfl, trivial⟩ ?_
  refine WP.seq (fun K1 hK1 => ?_)
  refine WP.region ?_
  refine WL.runk 1 [0] [(0, .string (bs aS_0))] (by kernel_rfl) ?_
  refine WL.nil ?_
  refine WQ.then_normal (hK1 _ _ _ ?_)
  refine WP.seq (fun K2 hK2 => ?_)
  refine WP.seq (fun K3 hK3 => ?_)
  refine WP.region ?_
  refine WL.runk 3 [0, 9] [(0, .string (bs aS_0)), (9, .bool (decide ((aS_0.length : Int) > 1048576)))] (by kernel_rfl) ?_
  refine WL.nil ?_
  refine WQ.then_normal (hK3 _ _ _ ?_)
  refine WP.cond (decide ((aS_0.length : Int) > 1048576)) rfl rfl (fun hc4 => ?_) (fun hc4 => ?_)
  · have hm := iteT hm hc4
    refine WP.seq (fun K5 hK5 => ?_)
    refine WP.region ?_
    refine WL.runk 1 [2] [(2, .bool true)] (by kernel_rfl) ?_
    refine WL.nil ?_
    refine WQ.then_normal (hK5 _ _ _ ?_)
    refine WP.ret ?_
    refine WQ.then_ret ?_
    obtain rfl := Option.some.inj hm
    exact WQ.ret1 _ rfl rfl ⟨rfl, (Ext.refl w)⟩
  have hm := iteF hm hc4
  refine WP.skip ?_
  refine WQ.then_normal (hK2 _ _ _ ?_)
  refine WP.seq (fun K6 hK6 => ?_)
  refine WP.region ?_
  refine WL.runk 1 [0, 11] [(0, .string (bs aS_0)), (11, .string (bs aS_0))] (by kernel_rfl) ?_
  obtain ⟨x7, hx8, hm⟩ := bindE hm
  refine WL.call 9 #[.string (bs aS_0)] rfl rfl (by kernel_rfl) (c_9 n aS_0 w hx8 ) ?_
  rintro _ w9 ⟨rfl, hE10⟩
  refine ⟨_, rfl, ?_⟩
  have hb12 : Ext w w9 := Ext.trans (Ext.refl w) hE10
  have hL13 : w.heap.size ≤ w9.heap.size := Nat.le_trans (Nat.le_refl _) hE10.size
  have hS14 : SH w9 w.heap.size [] := SH.ext (SH.nil _ _) hE10
  refine WL.runk 3 [0, 13, 14] [(0, .string (bs aS_0)), (13, .agg #[.string (bs x7.1.Name), .int .i64 x7.1.OnHand, .int .i64 x7.1.Reserved, .int .i64 x7.1.Least]), (14, .bool x7.2)] (by kernel_rfl) ?_
  refine WL.box 26 [.string (bs []), .int .i64 0, .int .i64 0, .int .i64 0] 3 (by kernel_rfl) rfl rfl rfl rfl ?_
  intro b15 w16 hE17 hR18
  have hb20 : Ext w w16 := Ext.trans hb12 hE17
  have hL21 : w.heap.size ≤ w16.heap.size := Nat.le_trans hL13 hE17.size
  have hS22 : SH w16 w.heap.size [aBox 26 b15 [.string (bs []), .int .i64 0, .int .i64 0, .int .i64 0]] := SH.add hS14 hE17 hL13 hR18
  refine WL.boxStore 0 [.string (bs x7.1.Name), .int .i64 x7.1.OnHand, .int .i64 x7.1.Reserved, .int .i64 x7.1.Least] [.string (bs x7.1.Name), .int .i64 x7.1.OnHand, .int .i64 x7.1.Reserved, .int .i64 x7.1.Least] (SH.front 0 hS22) hL21 rfl rfl rfl rfl rfl rfl rfl (info26).1 (info26).2.1 rfl rfl rfl ?_
  intro w23 hB24 hS25
  have hb26 : Ext w w23 := Below.trans hb20 hB24
  have hL27 : w.heap.size ≤ w23.heap.size := Nat.le_trans hL21 hB24.size
  refine WL.runk 1 [0, 3, 4] [(0, .string (bs aS_0)), (3, .pointer (some ⟨b15, 0, none⟩)), (4, .bool x7.2)] (by kernel_rfl) ?_
  refine WL.nil ?_
  refine WQ.then_normal (hK6 _ _ _ ?_)
  refine WP.seq (fun K28 hK28 => ?_)
  refine WP.region ?_
  refine WL.runk 1 [3, 4, 16] [(3, .pointer (some ⟨b15, 0, none⟩)), (4, .bool x7.2), (16, .string (bs aS_0))] (by kernel_rfl) ?_
  obtain ⟨x29, hx30, hm⟩ := bindE hm
  refine WL.call 10 #[.string (bs aS_0)] rfl rfl (by kernel_rfl) (c_10 n aS_0 w23 hx30 (GL.below hG hb26)) ?_
  rintro _ w31 ⟨rfl, hE32⟩
  refine ⟨_, rfl, ?_⟩
  have hb34 : Ext w w31 := Ext.trans hb26 hE32
  have hL35 : w.heap.size ≤ w31.heap.size := Nat.le_trans hL27 hE32.size
  have hS36 : SH w31 w.heap.size [aBox 26 b15 [.string (bs x7.1.Name), .int .i64 x7.1.OnHand, .int .i64 x7.1.Reserved, .int .i64 x7.1.Least]] := SH.ext hS25 hE32
  refine WL.runk 3 [3, 4, 18, 19] [(3, .pointer (some ⟨b15, 0, none⟩)), (4, .bool x7.2), (18, .agg #[.string (bs x29.1.Name), .int .i64 x29.1.OnHand, .int .i64 x29.1.Reserved, .int .i64 x29.1.Least]), (19, .bool x29.2)] (by kernel_rfl) ?_
  refine WL.box 26 [.string (bs []), .int .i64 0, .int .i64 0, .int .i64 0] 5 (by kernel_rfl) rfl rfl rfl rfl ?_
  intro b37 w38 hE39 hR40
  have hb42 : Ext w w38 := Ext.trans hb34 hE39
  have hL43 : w.heap.size ≤ w38.heap.size := Nat.le_trans hL35 hE39.size
  have hS44 : SH w38 w.heap.size [aBox 26 b37 [.string (bs []), .int .i64 0, .int .i64 0, .int .i64 0], aBox 26 b15 [.string (bs x7.1.Name), .int .i64 x7.1.OnHand, .int .i64 x7.1.Reserved, .int .i64 x7.1.Least]] := SH.add hS36 hE39 hL35 hR40
  refine WL.boxStore 0 [.string (bs x29.1.Name), .int .i64 x29.1.OnHand, .int .i64 x29.1.Reserved, .int .i64 x29.1.Least] [.string (bs x29.1.Name), .int .i64 x29.1.OnHand, .int .i64 x29.1.Reserved, .int .i64 x29.1.Least] (SH.front 0 hS44) hL43 rfl rfl rfl rfl rfl rfl rfl (info26).1 (info26).2.1 rfl rfl rfl ?_
  intro w45 hB46 hS47
  have hb48 : Ext w w45 := Below.trans hb42 hB46
  have hL49 : w.heap.size ≤ w45.heap.size := Nat.le_trans hL43 hB46.size
  refine WL.runk 1 [3, 4, 5, 6] [(3, .pointer (some ⟨b15, 0, none⟩)), (4, .bool x7.2), (5, .pointer (some ⟨b37, 0, none⟩)), (6, .bool x29.2)] (by kernel_rfl) ?_
  refine WL.nil ?_
  refine WQ.then_normal (hK28 _ _ _ ?_)
  refine WP.seq (fun K50 hK50 => ?_)
  refine WP.seq (fun K51 hK51 => ?_)
  obtain ⟨x61, hx62, hm⟩ := bindE hm
  refine WP.cut (fun env' w' => env' = [(28, .bool x61)] ∧ Ext w w' ∧ w.heap.size ≤ w'.heap.size ∧ SH w' w.heap.size [aBox 26 b37 [.string (bs x29.1.Name), .int .i64 x29.1.OnHand, .int .i64 x29.1.Reserved, .int .i64 x29.1.Least], aBox 26 b15 [.string (bs x7.1.Name), .int .i64 x7.1.OnHand, .int .i64 x7.1.Reserved, .int .i64 x7.1.Least]]) ?_ ?_
  · have hm := hx62; clear hx62
    refine WP.region ?_
    refine WL.st (.agg #[.string (bs x29.1.Name), .int .i64 x29.1.OnHand, .int .i64 x29.1.Reserved, .int .i64 x29.1.Least]) (ST.loadAgg (vs := [.string (bs x29.1.Name), .int .i64 x29.1.OnHand, .int .i64 x29.1.Reserved, .int .i64 x29.1.Least]) (fun j v hv => SH.boxPart (us := [.string (bs x29.1.Name), .int .i64 x29.1.OnHand, .int .i64 x29.1.Reserved, .int .i64 x29.1.Least]) (SH.front 0 hS47) 0 rfl j v hv) rfl rfl rfl Tryd.underlying26 rfl (info26).1 (info26).2.1) rfl rfl rfl ?_
    refine WL.st (.agg #[.string (bs x7.1.Name), .int .i64 x7.1.OnHand, .int .i64 x7.1.Reserved, .int .i64 x7.1.Least]) (ST.loadAgg (vs := [.string (bs x7.1.Name), .int .i64 x7.1.OnHand, .int .i64 x7.1.Reserved, .int .i64 x7.1.Least]) (fun j v hv => SH.boxPart (us := [.string (bs x7.1.Name), .int .i64 x7.1.OnHand, .int .i64 x7.1.Reserved, .int .i64 x7.1.Least]) (SH.front 1 hS47) 0 rfl j v hv) rfl rfl rfl Tryd.underlying26 rfl (info26).1 (info26).2.1) rfl rfl rfl ?_
    obtain ⟨x63, hx64, hm⟩ := bindE hm
    refine WL.call 11 #[.agg #[.string (bs x29.1.Name), .int .i64 x29.1.OnHand, .int .i64 x29.1.Reserved, .int .i64 x29.1.Least], .agg #[.string (bs x7.1.Name), .int .i64 x7.1.OnHand, .int .i64 x7.1.Reserved, .int .i64 x7.1.Least]] rfl rfl (by kernel_rfl) (c_11 n x29.1 x7.1 w45 hx64 ) ?_
    rintro _ w65 ⟨rfl, hE66⟩
    refine ⟨_, rfl, ?_⟩
    have hb68 : Ext w w65 := Ext.trans hb48 hE66
    have hL69 : w.heap.size ≤ w65.heap.size := Nat.le_trans hL49 hE66.size
    have hS70 : SH w65 w.heap.size [aBox 26 b37 [.string (bs x29.1.Name), .int .i64 x29.1.OnHand, .int .i64 x29.1.Reserved, .int .i64 x29.1.Least], aBox 26 b15 [.string (bs x7.1.Name), .int .i64 x7.1.OnHand, .int .i64 x7.1.Reserved, .int .i64 x7.1.Least]] := SH.ext hS47 hE66
    refine WL.runk 2 [4, 6, 24] [(4, .bool x7.2), (6, .bool x29.2), (24, .bool (!x63))] (by kernel_rfl) ?_
    refine WL.case (!x63) [24] ⟨rfl, trivial⟩ (fun hc71 => ?_) (fun hc71 => ?_)
    · have hm := iteT hm hc71
      refine WL.runk 4 [28] [(28, .bool true)] (by kernel_rfl) ?_
      refine WL.nil ?_
      obtain rfl := Option.some.inj hm
      exact WQ.post' ⟨rfl, hb68, hL69, hS70⟩ ⟨rfl, trivial⟩
    have hm := iteF hm hc71
    refine WL.runk 4 [28] [(28, .bool (!(x29.2 == x7.2)))] (by kernel_rfl) ?_
    refine WL.nil ?_
    obtain rfl := Option.some.inj hm
    exact WQ.post' ⟨rfl, hb68, hL69, hS70⟩ ⟨rfl, trivial⟩
  clear hx62
  rintro _ w72 ⟨rfl, hb73, hL74, hS75⟩
  refine WQ.then_normal (hK51 _ _ _ ?_)
  refine WP.cond x61 rfl rfl (fun hc76 => ?_) (fun hc76 => ?_)
  · have hm := iteT hm hc76
    refine WP.seq (fun K77 hK77 => ?_)
    refine WP.region ?_
    refine WL.runk 1 [2] [(2, .bool false)] (by kernel_rfl) ?_
    refine WL.nil ?_
    refine WQ.then_normal (hK77 _ _ _ ?_)
    refine WP.ret ?_
    refine WQ.then_ret ?_
    obtain rfl := Option.some.inj hm
    exact WQ.ret1 _ rfl rfl ⟨rfl, hb73⟩
  have hm := iteF hm hc76
  refine WP.skip ?_
  refine WQ.then_normal (hK50 _ _ _ ?_)
  refine WP.seq (fun K78 hK78 => ?_)
  refine WP.region ?_
  refine WL.runk 1 [2] [(2, .bool true)] (by kernel_rfl) ?_
  refine WL.nil ?_
  refine WQ.then_normal (hK78 _ _ _ ?_)
  refine WP.ret ?_
  obtain rfl := Option.some.inj hm
  exact WQ.ret1 _ rfl rfl ⟨rfl, hb73⟩

end Go.Proofs.YtkpdicajinionaaDoor
