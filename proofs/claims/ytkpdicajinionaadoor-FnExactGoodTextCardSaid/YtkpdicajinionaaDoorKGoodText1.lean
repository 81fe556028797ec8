/- Each call does what its Lean function says. -/
import Derived.Test.YtkpdicajinionaaDoorTi
import Derived.Test.YtkpdicajinionaaDoorEq
import Derived.Test.YtkpdicajinionaaDoorMo
import Derived.Test.YtkpdicajinionaaDoorCh
set_option maxRecDepth 20000
set_option maxHeartbeats 40000000
namespace Go.Proofs.YtkpdicajinionaaDoor
open Go Go.Gv Go.RowKit

theorem c_5 (n : Nat) (a_0 : SGood) (left_1 : Int) (w : World) {r : Int} (hm : m_laws_szGood n a_0 left_1 = some r)  :
    CallV Tryd.prog 5 #[.agg #[.string (bs a_0.Name), .int .i64 a_0.OnHand, .int .i64 a_0.Reserved, .int .i64 a_0.Least], .int .i64 left_1] w (fun v w' => v = .int .i64 r ∧ Ext w w') := by
  unfold m_laws_szGood at hm
  refine CallV.enter Tryd.func5 rfl (by kernel_rfl) Tryd.ntmps5 (env := [(0, .agg #[.string (bs a_0.Name), .int .i64 a_0.OnHand, .int .i64 a_0.Reserved, .int .i64 a_0.Least]), (1, .int .i64 left_1)]) ⟨rfl, rfl, trivial⟩ ?_
  refine WP.seq (fun K1 hK1 => ?_)
  refine WP.region ?_
  refine WL.box 23 [.string (bs a_0.Name), .int .i64 a_0.OnHand, .int .i64 a_0.Reserved, .int .i64 a_0.Least] 2 (by kernel_rfl) rfl rfl rfl rfl ?_
  intro b2 w3 hE4 hR5
  have hb7 : Ext w w3 := Ext.trans (Ext.refl w) hE4
  have hL8 : w.heap.size ≤ w3.heap.size := Nat.le_trans (Nat.le_refl _) hE4.size
  have hS9 : SH w3 w.heap.size [aBox 23 b2 [.string (bs a_0.Name), .int .i64 a_0.OnHand, .int .i64 a_0.Reserved, .int .i64 a_0.Least]] := SH.add (SH.nil _ _) hE4 (Nat.le_refl _) hR5
  refine WL.runk 1 [1, 2] [(1, .int .i64 left_1), (2, .pointer (some ⟨b2, 0, none⟩))] (by kernel_rfl) ?_
  refine WL.nil ?_
  refine WQ.then_normal (hK1 _ _ _ ?_)
  refine WP.seq (fun K10 hK10 => ?_)
  refine WP.region ?_
  refine WL.runk 2 [5, 6] [(5, .int .i64 left_1), (6, .pointer (some ⟨b2, 0, none⟩))] (by kernel_rfl) ?_
  refine WL.st (.string (bs a_0.Name)) (ST.load (cell_ext (SH.boxAt (SH.front 0 hS9) 0 _ rfl)) rfl rfl Tryd.underlying9 rfl) rfl rfl rfl ?_
  refine WL.runk 3 [1] [(1, .int .i64 (wI64 (left_1 - (a_0.Name.length : Int))))] (by kernel_rfl) ?_
  refine WL.nil ?_
  refine WQ.then_normal (hK10 _ _ _ ?_)
  refine WP.seq (fun K11 hK11 => ?_)
  refine WP.seq (fun K12 hK12 => ?_)
  refine WP.region ?_
  refine WL.runk 2 [1, 11] [(1, .int .i64 (wI64 (left_1 - (a_0.Name.length : Int)))), (11, .bool (decide ((wI64 (left_1 - (a_0.Name.length : Int))) < 0)))] (by kernel_rfl) ?_
  refine WL.nil ?_
  refine WQ.then_normal (hK12 _ _ _ ?_)
  refine WP.cond (decide ((wI64 (left_1 - (a_0.Name.length : Int))) < 0)) rfl rfl (fun hc13 => ?_) (fun hc13 => ?_)
  · have hm := iteT hm hc13
    refine WP.seq (fun K14 hK14 => ?_)
    refine WP.region ?_
    refine WL.runk 1 [4] [(4, .int .i64 (-1))] (by kernel_rfl) ?_
    refine WL.nil ?_
    refine WQ.then_normal (hK14 _ _ _ ?_)
    refine WP.ret ?_
    refine WQ.then_ret ?_
    obtain rfl := Option.some.inj hm
    exact WQ.ret1 _ rfl rfl ⟨rfl, hb7⟩
  have hm := iteF hm hc13
  refine WP.skip ?_
  refine WQ.then_normal (hK11 _ _ _ ?_)
  refine WP.seq (fun K15 hK15 => ?_)
  refine WP.region ?_
  refine WL.runk 2 [4] [(4, .int .i64 (wI64 (left_1 - (a_0.Name.length : Int))))] (by kernel_rfl) ?_
  refine WL.nil ?_
  refine WQ.then_normal (hK15 _ _ _ ?_)
  refine WP.ret ?_
  obtain rfl := Option.some.inj hm
  exact WQ.ret1 _ rfl rfl ⟨rfl, hb7⟩

theorem c_28 (n : Nat) (c_0 : Int) (w : World) {r : Bool} (hm : m_spec_l01Digit n c_0 = some r)  :
    CallV Tryd.prog 28 #[.int .u8 c_0] w (fun v w' => v = .bool r ∧ Ext w w') := by
  unfold m_spec_l01Digit at hm
  refine CallV.enter Tryd.func28 rfl (by kernel_rfl) Tryd.ntmps28 (env := [(0, .int .u8 c_0)]) ⟨rfl, trivial⟩ ?_
  refine WP.seq (fun K1 hK1 => ?_)
  refine WP.region ?_
  refine WL.runk 1 [0] [(0, .int .u8 c_0)] (by kernel_rfl) ?_
  refine WL.nil ?_
  refine WQ.then_normal (hK1 _ _ _ ?_)
  refine WP.seq (fun K2 hK2 => ?_)
  obtain ⟨x4, hx5, hm⟩ := bindE hm
  refine WP.cut (fun env' w' => env' = [(2, .bool x4)] ∧ Ext w w' ∧ w.heap.size ≤ w'.heap.size ∧ SH w' w.heap.size []) ?_ ?_
  rotate_left
  · clear hx5
    rintro _ w7 ⟨rfl, hb8, hL9, hS10⟩
    refine WQ.then_normal (hK2 _ _ _ ?_)
    refine WP.ret ?_
    obtain rfl := Option.some.inj hm
    exact WQ.ret1 _ rfl rfl ⟨rfl, hb8⟩
  have hm := hx5; clear hx5
  refine WP.region ?_
  refine WL.runk 3 [0, 5] [(0, .int .u8 c_0), (5, .bool (decide (c_0 ≥ 48)))] (by kernel_rfl) ?_
  refine WL.case (decide (c_0 ≥ 48)) [5] ⟨rfl, trivial⟩ (fun hc6 => ?_) (fun hc6 => ?_)
  · have hm := iteT hm hc6
    refine WL.runk 4 [2] [(2, .bool (decide (c_0 ≤ 57)))] (by kernel_rfl) ?_
    refine WL.nil ?_
    obtain rfl := Option.some.inj hm
    exact WQ.post' ⟨rfl, (Ext.refl w), (Nat.le_refl _), (SH.nil _ _)⟩ ⟨rfl, trivial⟩
  have hm := iteF hm hc6
  refine WL.runk 4 [2] [(2, .bool false)] (by kernel_rfl) ?_
  refine WL.nil ?_
  obtain rfl := Option.some.inj hm
  exact WQ.post' ⟨rfl, (Ext.refl w), (Nat.le_refl _), (SH.nil _ _)⟩ ⟨rfl, trivial⟩

theorem c_33 (n : Nat) (c_0 : Int) (w : World) {r : Bool} (hm : m_spec_l01Small n c_0 = some r)  :
    CallV Tryd.prog 33 #[.int .u8 c_0] w (fun v w' => v = .bool r ∧ Ext w w') := by
  unfold m_spec_l01Small at hm
  refine CallV.enter Tryd.func33 rfl (by kernel_rfl) Tryd.ntmps33 (env := [(0, .int .u8 c_0)]) ⟨rfl, trivial⟩ ?_
  refine WP.seq (fun K1 hK1 => ?_)
  refine WP.region ?_
  refine WL.runk 1 [0] [(0, .int .u8 c_0)] (by kernel_rfl) ?_
  refine WL.nil ?_
  refine WQ.then_normal (hK1 _ _ _ ?_)
  refine WP.seq (fun K2 hK2 => ?_)
  obtain ⟨x4, hx5, hm⟩ := bindE hm
  refine WP.cut (fun env' w' => env' = [(2, .bool x4)] ∧ Ext w w' ∧ w.heap.size ≤ w'.heap.size ∧ SH w' w.heap.size []) ?_ ?_
  rotate_left
  · clear hx5
    rintro _ w7 ⟨rfl, hb8, hL9, hS10⟩
    refine WQ.then_normal (hK2 _ _ _ ?_)
    refine WP.ret ?_
    obtain rfl := Option.some.inj hm
    exact WQ.ret1 _ rfl rfl ⟨rfl, hb8⟩
  have hm := hx5; clear hx5
  refine WP.region ?_
  refine WL.runk 3 [0, 5] [(0, .int .u8 c_0), (5, .bool (decide (c_0 ≥ 97)))] (by kernel_rfl) ?_
  refine WL.case (decide (c_0 ≥ 97)) [5] ⟨rfl, trivial⟩ (fun hc6 => ?_) (fun hc6 => ?_)
  · have hm := iteT hm hc6
    refine WL.runk 4 [2] [(2, .bool (decide (c_0 ≤ 122)))] (by kernel_rfl) ?_
    refine WL.nil ?_
    obtain rfl := Option.some.inj hm
    exact WQ.post' ⟨rfl, (Ext.refl w), (Nat.le_refl _), (SH.nil _ _)⟩ ⟨rfl, trivial⟩
  have hm := iteF hm hc6
  refine WL.runk 4 [2] [(2, .bool false)] (by kernel_rfl) ?_
  refine WL.nil ?_
  obtain rfl := Option.some.inj hm
  exact WQ.post' ⟨rfl, (Ext.refl w), (Nat.le_refl _), (SH.nil _ _)⟩ ⟨rfl, trivial⟩

theorem c_21 (n : Nat) (s_0 : List UInt8) (w : World) {r : Bool} (hm : m_spec_IsName n s_0 = some r)  :
    CallV Tryd.prog 21 #[.string (bs s_0)] w (fun v w' => v = .bool r ∧ Ext w w') := by
  unfold m_spec_IsName at hm
  refine CallV.enter Tryd.func21 rfl (by kernel_rfl) Tryd.ntmps21 (env := [(0, .string (bs s_0))]) ⟨rfl, trivial⟩ ?_
  refine WP.seq (fun K1 hK1 => ?_)
  refine WP.region ?_
  refine WL.runk 1 [0] [(0, .string (bs s_0))] (by kernel_rfl) ?_
  refine WL.nil ?_
  refine WQ.then_normal (hK1 _ _ _ ?_)
  refine WP.seq (fun K2 hK2 => ?_)
  refine WP.seq (fun K3 hK3 => ?_)
  obtain ⟨x16, hx17, hm⟩ := bindE hm
  refine WP.cut (fun env' w' => env' = [(0, .string (bs s_0)), (16, .bool x16)] ∧ Ext w w' ∧ w.heap.size ≤ w'.heap.size ∧ SH w' w.heap.size []) ?_ ?_
  · have hm := hx17; clear hx17
    refine WP.region ?_
    refine WL.runk 1 [0, 4] [(0, .string (bs s_0)), (4, .string (bs s_0))] (by kernel_rfl) ?_
    refine WL.st (.bool (s_0 == [])) (ST.streq (x := s_0) (y := []) rfl rfl rfl) rfl rfl rfl ?_
    refine WL.runk 1 [0, 6] [(0, .string (bs s_0)), (6, .bool (s_0 == []))] (by kernel_rfl) ?_
    refine WL.case (s_0 == []) [6] ⟨rfl, trivial⟩ (fun hc18 => ?_) (fun hc18 => ?_)
    · have hm := iteT hm hc18
      refine WL.runk 10 [0, 16] [(0, .string (bs s_0)), (16, .bool true)] (by kernel_rfl) ?_
      refine WL.nil ?_
      obtain rfl := Option.some.inj hm
      exact WQ.post' ⟨rfl, (Ext.refl w), (Nat.le_refl _), (SH.nil _ _)⟩ ⟨rfl, rfl, trivial⟩
    have hm := iteF hm hc18
    refine WL.runk 5 [0, 11] [(0, .string (bs s_0)), (11, .bool (decide ((s_0.length : Int) > 12)))] (by kernel_rfl) ?_
    refine WL.case (decide ((s_0.length : Int) > 12)) [11] ⟨rfl, trivial⟩ (fun hc19 => ?_) (fun hc19 => ?_)
    · have hm := iteT hm hc19
      refine WL.runk 5 [0, 16] [(0, .string (bs s_0)), (16, .bool true)] (by kernel_rfl) ?_
      refine WL.nil ?_
      obtain rfl := Option.some.inj hm
      exact WQ.post' ⟨rfl, (Ext.refl w), (Nat.le_refl _), (SH.nil _ _)⟩ ⟨rfl, rfl, trivial⟩
    have hm := iteF hm hc19
    refine WL.runk 1 [0, 11, 12] [(0, .string (bs s_0)), (11, .bool false), (12, .string (bs s_0))] (by kernel_rfl) ?_
    obtain ⟨x20, hx21, hm⟩ := bindE hm
    refine WL.st (.int .u8 (x20.toNat : Int)) (ST.sindex hx21 rfl rfl rfl Tryd.underlying9) rfl rfl rfl ?_
    obtain ⟨x22, hx23, hm⟩ := bindE hm
    refine WL.call 33 #[.int .u8 (x20.toNat : Int)] rfl rfl (by kernel_rfl) (c_33 n (x20.toNat : Int) w hx23 ) ?_
    rintro _ w24 ⟨rfl, hE25⟩
    refine ⟨_, rfl, ?_⟩
    have hb27 : Ext w w24 := Ext.trans (Ext.refl w) hE25
    have hL28 : w.heap.size ≤ w24.heap.size := Nat.le_trans (Nat.le_refl _) hE25.size
    have hS29 : SH w24 w.heap.size [] := SH.ext (SH.nil _ _) hE25
    refine WL.runk 2 [0, 16] [(0, .string (bs s_0)), (16, .bool (!x22))] (by kernel_rfl) ?_
    refine WL.nil ?_
    obtain rfl := Option.some.inj hm
    exact WQ.post' ⟨rfl, hb27, hL28, hS29⟩ ⟨rfl, rfl, trivial⟩
  clear hx17
  rintro _ w30 ⟨rfl, hb31, hL32, hS33⟩
  refine WQ.then_normal (hK3 _ _ _ ?_)
  refine WP.cond x16 rfl rfl (fun hc34 => ?_) (fun hc34 => ?_)
  · have hm := iteT hm hc34
    refine WP.seq (fun K35 hK35 => ?_)
    refine WP.region ?_
    refine WL.runk 1 [2] [(2, .bool false)] (by kernel_rfl) ?_
    refine WL.nil ?_
    refine WQ.then_normal (hK35 _ _ _ ?_)
    refine WP.ret ?_
    refine WQ.then_ret ?_
    obtain rfl := Option.some.inj hm
    exact WQ.ret1 _ rfl rfl ⟨rfl, hb31⟩
  have hm := iteF hm hc34
  refine WP.skip ?_
  refine WQ.then_normal (hK2 _ _ _ ?_)
  refine WP.seq (fun K36 hK36 => ?_)
  refine WP.seq (fun K37 hK37 => ?_)
  refine WP.region ?_
  refine WL.runk 1 [0, 3] [(0, .string (bs s_0)), (3, .int .i64 0)] (by kernel_rfl) ?_
  refine WL.nil ?_
  refine WQ.then_normal (hK37 _ _ _ ?_)
  refine WP.block ?_
  obtain ⟨t49, ht50, hm⟩ := bindE hm
  have hmo44 := hm; clear hm
  refine WP.sub [(0, .string (bs s_0)), (3, .int .i64 0)] ⟨rfl, rfl, trivial⟩ ?_
  refine WP.loop (fun n' env' w' => ∃ (st38 : Int) , env' = [(0, .string (bs s_0)), (3, .int .i64 st38)] ∧ Ext w w' ∧ w.heap.size ≤ w'.heap.size ∧ SH w' w.heap.size [] ∧ loopN (m_spec_IsName_l1 n s_0) n' st38 = some t49) n ⟨0, rfl, hb31, hL32, hS33, ht50⟩ ?_
  rintro n46 _ w39 ⟨st38, rfl, hb40, hL41, hS42, hl43⟩ K45 hK45
  obtain ⟨n47, s48, rfl, hm, hl43⟩ := loopN_some hl43
  unfold m_spec_IsName_l1 at hm
  refine WP.seq (fun K51 hK51 => ?_)
  refine WP.seq (fun K52 hK52 => ?_)
  refine WP.region ?_
  refine WL.runk 4 [0, 3, 20] [(0, .string (bs s_0)), (3, .int .i64 st38), (20, .bool (decide (st38 < (s_0.length : Int))))] (by kernel_rfl) ?_
  refine WL.nil ?_
  refine WQ.then_normal (hK52 _ _ _ ?_)
  refine WP.cond (decide (st38 < (s_0.length : Int))) rfl rfl (fun hc53 => ?_) (fun hc53 => ?_)
  rotate_left
  · have hm := iteF hm hc53
    refine WP.exit ?_
    refine WQ.then_exit ?_
    refine WQ.then_exit ?_
    refine WQ.block_here ?_
    obtain rfl := Option.some.inj hm
    obtain rfl := afterN_done hl43
    have hm := hmo44
    refine WQ.then_normal (hK36 _ _ _ ?_)
    refine WP.seq (fun K112 hK112 => ?_)
    refine WP.region ?_
    refine WL.runk 1 [2] [(2, .bool true)] (by kernel_rfl) ?_
    refine WL.nil ?_
    refine WQ.then_normal (hK112 _ _ _ ?_)
    refine WP.ret ?_
    obtain rfl := Option.some.inj hm
    exact WQ.ret1 _ rfl rfl ⟨rfl, hb40⟩
  have hm := iteT hm hc53
  refine WP.skip ?_
  refine WQ.then_normal (hK51 _ _ _ ?_)
  refine WP.seq (fun K54 hK54 => ?_)
  refine WP.block ?_
  refine WP.seq (fun K55 hK55 => ?_)
  obtain ⟨x80, hx81, hm⟩ := bindE hm
  refine WP.cut (fun env' w' => env' = [(0, .string (bs s_0)), (3, .int .i64 st38), (40, .bool x80)] ∧ Ext w w' ∧ w.heap.size ≤ w'.heap.size ∧ SH w' w.heap.size []) ?_ ?_
  rotate_left
  · clear hx81
    rintro _ w106 ⟨rfl, hb107, hL108, hS109⟩
    refine WQ.then_normal (hK55 _ _ _ ?_)
    refine WP.cond x80 rfl rfl (fun hc110 => ?_) (fun hc110 => ?_)
    rotate_left
    · have hm := iteF hm hc110
      refine WP.skip ?_
      refine WQ.block_normal ?_
      refine WQ.then_normal (hK54 _ _ _ ?_)
      refine WP.region ?_
      refine WL.runk 3 [0, 3] [(0, .string (bs s_0)), (3, .int .i64 (wI64 (st38 + 1)))] (by kernel_rfl) ?_
      refine WL.nil ?_
      obtain rfl := Option.some.inj hm
      exact WQ.round hK45 ⟨(wI64 (st38 + 1)), rfl, hb107, hL108, hS109, hl43⟩ (Nat.lt_succ_self _) ⟨rfl, rfl, trivial⟩
    have hm := iteT hm hc110
    refine WP.seq (fun K111 hK111 => ?_)
    refine WP.region ?_
    refine WL.runk 1 [2] [(2, .bool false)] (by kernel_rfl) ?_
    refine WL.nil ?_
    refine WQ.then_normal (hK111 _ _ _ ?_)
    refine WP.ret ?_
    refine WQ.block_ret ?_
    refine WQ.then_ret ?_
    refine WQ.then_ret ?_
    refine WQ.block_ret ?_
    refine WQ.then_ret ?_
    obtain rfl := Option.some.inj hm
    obtain rfl := afterN_done hl43
    have hm := hmo44
    obtain rfl := Option.some.inj hm
    exact WQ.ret1 _ rfl rfl ⟨rfl, hb107⟩
  have hm := hx81; clear hx81
  refine WP.region ?_
  refine WL.runk 2 [0, 3, 23, 24] [(0, .string (bs s_0)), (3, .int .i64 st38), (23, .string (bs s_0)), (24, .int .i64 st38)] (by kernel_rfl) ?_
  obtain ⟨x82, hx83, hm⟩ := bindE hm
  refine WL.st (.int .u8 (x82.toNat : Int)) (ST.sindex hx83 rfl rfl rfl Tryd.underlying9) rfl rfl rfl ?_
  obtain ⟨x84, hx85, hm⟩ := bindE hm
  refine WL.call 33 #[.int .u8 (x82.toNat : Int)] rfl rfl (by kernel_rfl) (c_33 n (x82.toNat : Int) w39 hx85 ) ?_
  rintro _ w86 ⟨rfl, hE87⟩
  refine ⟨_, rfl, ?_⟩
  have hb89 : Ext w w86 := Ext.trans hb40 hE87
  have hL90 : w.heap.size ≤ w86.heap.size := Nat.le_trans hL41 hE87.size
  have hS91 : SH w86 w.heap.size [] := SH.ext hS42 hE87
  refine WL.runk 2 [0, 3, 28] [(0, .string (bs s_0)), (3, .int .i64 st38), (28, .bool (!x84))] (by kernel_rfl) ?_
  refine WL.case (!x84) [28] ⟨rfl, trivial⟩ (fun hc92 => ?_) (fun hc92 => ?_)
  rotate_left
  · have hm := iteF hm hc92
    refine WL.runk 12 [0, 3, 40] [(0, .string (bs s_0)), (3, .int .i64 st38), (40, .bool false)] (by kernel_rfl) ?_
    refine WL.nil ?_
    obtain rfl := Option.some.inj hm
    exact WQ.post' ⟨rfl, hb89, hL90, hS91⟩ ⟨rfl, rfl, rfl, trivial⟩
  have hm := iteT hm hc92
  refine WL.runk 2 [0, 3, 28, 29, 30] [(0, .string (bs s_0)), (3, .int .i64 st38), (28, .bool true), (29, .string (bs s_0)), (30, .int .i64 st38)] (by kernel_rfl) ?_
  obtain ⟨x93, hx94, hm⟩ := bindE hm
  refine WL.st (.int .u8 (x93.toNat : Int)) (ST.sindex hx94 rfl rfl rfl Tryd.underlying9) rfl rfl rfl ?_
  obtain ⟨x95, hx96, hm⟩ := bindE hm
  refine WL.call 28 #[.int .u8 (x93.toNat : Int)] rfl rfl (by kernel_rfl) (c_28 n (x93.toNat : Int) w86 hx96 ) ?_
  rintro _ w97 ⟨rfl, hE98⟩
  refine ⟨_, rfl, ?_⟩
  have hb100 : Ext w w97 := Ext.trans hb89 hE98
  have hL101 : w.heap.size ≤ w97.heap.size := Nat.le_trans hL90 hE98.size
  have hS102 : SH w97 w.heap.size [] := SH.ext hS91 hE98
  refine WL.runk 3 [0, 3, 35] [(0, .string (bs s_0)), (3, .int .i64 st38), (35, .bool (!x95))] (by kernel_rfl) ?_
  refine WL.case (!x95) [35] ⟨rfl, trivial⟩ (fun hc103 => ?_) (fun hc103 => ?_)
  rotate_left
  · have hm := iteF hm hc103
    refine WL.runk 5 [0, 3, 40] [(0, .string (bs s_0)), (3, .int .i64 st38), (40, .bool false)] (by kernel_rfl) ?_
    refine WL.nil ?_
    obtain rfl := Option.some.inj hm
    exact WQ.post' ⟨rfl, hb100, hL101, hS102⟩ ⟨rfl, rfl, rfl, trivial⟩
  have hm := iteT hm hc103
  refine WL.runk 2 [0, 3, 35, 36, 37] [(0, .string (bs s_0)), (3, .int .i64 st38), (35, .bool true), (36, .string (bs s_0)), (37, .int .i64 st38)] (by kernel_rfl) ?_
  obtain ⟨x104, hx105, hm⟩ := bindE hm
  refine WL.st (.int .u8 (x104.toNat : Int)) (ST.sindex hx105 rfl rfl rfl Tryd.underlying9) rfl rfl rfl ?_
  refine WL.runk 2 [0, 3, 40] [(0, .string (bs s_0)), (3, .int .i64 st38), (40, .bool ((x104.toNat : Int) != 45))] (by kernel_rfl) ?_
  refine WL.nil ?_
  obtain rfl := Option.some.inj hm
  exact WQ.post' ⟨rfl, hb100, hL101, hS102⟩ ⟨rfl, rfl, rfl, trivial⟩

theorem c_23 (n : Nat) (n_0 : Int) (low_1 : Int) (high_2 : Int) (w : World) {r : Bool} (hm : m_spec_l00In n n_0 low_1 high_2 = some r)  :
    CallV Tryd.prog 23 #[.int .i64 n_0, .int .i64 low_1, .int .i64 high_2] w (fun v w' => v = .bool r ∧ Ext w w') := by
  unfold m_spec_l00In at hm
  refine CallV.enter Tryd.func23 rfl (by kernel_rfl) Tryd.ntmps23 (env := [(0, .int .i64 n_0), (1, .int .i64 low_1), (2, .int .i64 high_2)]) ⟨rfl, rfl, rfl, trivial⟩ ?_
  refine WP.seq (fun K1 hK1 => ?_)
  refine WP.region ?_
  refine WL.runk 1 [0, 1, 2] [(0, .int .i64 n_0), (1, .int .i64 low_1), (2, .int .i64 high_2)] (by kernel_rfl) ?_
  refine WL.nil ?_
  refine WQ.then_normal (hK1 _ _ _ ?_)
  refine WP.seq (fun K2 hK2 => ?_)
  obtain ⟨x4, hx5, hm⟩ := bindE hm
  refine WP.cut (fun env' w' => env' = [(6, .bool x4)] ∧ Ext w w' ∧ w.heap.size ≤ w'.heap.size ∧ SH w' w.heap.size []) ?_ ?_
  rotate_left
  · clear hx5
    rintro _ w7 ⟨rfl, hb8, hL9, hS10⟩
    refine WQ.then_normal (hK2 _ _ _ ?_)
    refine WP.ret ?_
    obtain rfl := Option.some.inj hm
    exact WQ.ret1 _ rfl rfl ⟨rfl, hb8⟩
  have hm := hx5; clear hx5
  refine WP.region ?_
  refine WL.runk 4 [0, 2, 10] [(0, .int .i64 n_0), (2, .int .i64 high_2), (10, .bool (decide (n_0 ≥ low_1)))] (by kernel_rfl) ?_
  refine WL.case (decide (n_0 ≥ low_1)) [10] ⟨rfl, trivial⟩ (fun hc6 => ?_) (fun hc6 => ?_)
  · have hm := iteT hm hc6
    refine WL.runk 5 [6] [(6, .bool (decide (n_0 ≤ high_2)))] (by kernel_rfl) ?_
    refine WL.nil ?_
    obtain rfl := Option.some.inj hm
    exact WQ.post' ⟨rfl, (Ext.refl w), (Nat.le_refl _), (SH.nil _ _)⟩ ⟨rfl, trivial⟩
  have hm := iteF hm hc6
  refine WL.runk 5 [6] [(6, .bool false)] (by kernel_rfl) ?_
  refine WL.nil ?_
  obtain rfl := Option.some.inj hm
  exact WQ.post' ⟨rfl, (Ext.refl w), (Nat.le_refl _), (SH.nil _ _)⟩ ⟨rfl, trivial⟩

theorem c_22 (n : Nat) (n_0 : Int) (w : World) {r : Bool} (hm : m_spec_l23Many n n_0 = some r)  :
    CallV Tryd.prog 22 #[.int .i64 n_0] w (fun v w' => v = .bool r ∧ Ext w w') := by
  unfold m_spec_l23Many at hm
  refine CallV.enter Tryd.func22 rfl (by kernel_rfl) Tryd.ntmps22 (env := [(0, .int .i64 n_0)]) ⟨rfl, trivial⟩ ?_
  refine WP.seq (fun K1 hK1 => ?_)
  refine WP.region ?_
  refine WL.runk 1 [0] [(0, .int .i64 n_0)] (by kernel_rfl) ?_
  refine WL.nil ?_
  refine WQ.then_normal (hK1 _ _ _ ?_)
  refine WP.seq (fun K2 hK2 => ?_)
  refine WP.region ?_
  refine WL.runk 1 [3] [(3, .int .i64 n_0)] (by kernel_rfl) ?_
  obtain ⟨x3, hx4, hm⟩ := bindE hm
  refine WL.call 23 #[.int .i64 n_0, .int .i64 0, .int .i64 1000000] rfl rfl (by kernel_rfl) (c_23 n n_0 0 1000000 w hx4 ) ?_
  rintro _ w5 ⟨rfl, hE6⟩
  refine ⟨_, rfl, ?_⟩
  have hb8 : Ext w w5 := Ext.trans (Ext.refl w) hE6
  have hL9 : w.heap.size ≤ w5.heap.size := Nat.le_trans (Nat.le_refl _) hE6.size
  have hS10 : SH w5 w.heap.size [] := SH.ext (SH.nil _ _) hE6
  refine WL.runk 1 [2] [(2, .bool x3)] (by kernel_rfl) ?_
  refine WL.nil ?_
  refine WQ.then_normal (hK2 _ _ _ ?_)
  refine WP.ret ?_
  obtain rfl := Option.some.inj hm
  exact WQ.ret1 _ rfl rfl ⟨rfl, hb8⟩

theorem c_12 (n : Nat) (g_0 : SGood) (b0' o0' : Nat) (w : World) {r : Bool} (hm : m_spec_l23One n g_0 = some r) (h0 : RdB w b0' o0' [.string (bs g_0.Name), .int .i64 g_0.OnHand, .int .i64 g_0.Reserved, .int .i64 g_0.Least]) :
    CallV Tryd.prog 12 #[.pointer (some ⟨b0', o0', none⟩)] w (fun v w' => v = .bool r ∧ Ext w w') := by
  unfold m_spec_l23One at hm
  refine CallV.enter Tryd.func12 rfl (by kernel_rfl) Tryd.ntmps12 (env := [(0, .pointer (some ⟨b0', o0', none⟩))]) ⟨rfl, trivial⟩ ?_
  refine WP.seq (fun K1 hK1 => ?_)
  refine WP.region ?_
  refine WL.runk 1 [0] [(0, .pointer (some ⟨b0', o0', none⟩))] (by kernel_rfl) ?_
  refine WL.nil ?_
  refine WQ.then_normal (hK1 _ _ _ ?_)
  refine WP.seq (fun K2 hK2 => ?_)
  obtain ⟨x42, hx43, hm⟩ := bindE hm
  refine WP.cut (fun env' w' => env' = [(2, .bool x42)] ∧ Ext w w' ∧ w.heap.size ≤ w'.heap.size ∧ SH w' w.heap.size []) ?_ ?_
  rotate_left
  · clear hx43
    rintro _ w83 ⟨rfl, hb84, hL85, hS86⟩
    refine WQ.then_normal (hK2 _ _ _ ?_)
    refine WP.ret ?_
    obtain rfl := Option.some.inj hm
    exact WQ.ret1 _ rfl rfl ⟨rfl, hb84⟩
  have hm := hx43; clear hx43
  refine WP.quiet (by kernel_rfl) (by kernel_rfl) ?_
  refine QL.step1v 3 (.pointer (some ⟨b0', o0', none⟩)) rfl (fun _ => by kernel_rfl) ?_
  refine QL.step1v 4 (.pointer (some ⟨b0', o0', none⟩)) rfl (fun _ => by kernel_rfl) ?_
  refine QL.step1v 5 (.pointer (some ⟨b0', o0', none⟩)) rfl (fun _ => by kernel_rfl) ?_
  refine QL.subk [0, 5] [(0, .pointer (some ⟨b0', o0', none⟩)), (5, .pointer (some ⟨b0', o0', none⟩))] (by kernel_rfl) ?_
  refine QL.st (.string (bs g_0.Name)) (ST.load (cell_ext (RdB.at (RdB.below h0 (Ext.refl w)) 0 _ rfl)) rfl rfl Tryd.underlying9 rfl) rfl rfl rfl ?_
  obtain ⟨x44, hx45, hm⟩ := bindE hm
  refine QL.call 21 #[.string (bs g_0.Name)] (.bool x44) (fun _ => by kernel_rfl) (fun w46 hE47 => c_21 n g_0.Name w46 hx45 ) rfl rfl rfl ?_
  refine QL.step1v 8 (.bool x44) rfl (fun _ => by kernel_rfl) ?_
  refine QL.subk [0, 8] [(0, .pointer (some ⟨b0', o0', none⟩)), (8, .bool x44)] (by kernel_rfl) ?_
  refine QL.case x44 [8] ⟨rfl, trivial⟩ (fun hc48 => ?_) (fun hc48 => ?_)
  rotate_left
  · have hm := iteF hm hc48
    refine QL.step1v 9 undef rfl (fun _ => by kernel_rfl) ?_
    refine QL.step1v 10 undef rfl (fun _ => by kernel_rfl) ?_
    refine QL.step1v 11 undef rfl (fun _ => by kernel_rfl) ?_
    refine QL.step1v 12 undef rfl (fun _ => by kernel_rfl) ?_
    refine QL.step1v 13 undef rfl (fun _ => by kernel_rfl) ?_
    refine QL.step1v 14 (.bool false) rfl (fun _ => by kernel_rfl) ?_
    refine QL.step1v 15 (.bool false) rfl (fun _ => by kernel_rfl) ?_
    refine QL.step1v 16 undef rfl (fun _ => by kernel_rfl) ?_
    refine QL.step1v 17 undef rfl (fun _ => by kernel_rfl) ?_
    refine QL.step1v 18 undef rfl (fun _ => by kernel_rfl) ?_
    refine QL.step1v 19 undef rfl (fun _ => by kernel_rfl) ?_
    refine QL.step1v 20 undef rfl (fun _ => by kernel_rfl) ?_
    refine QL.step1v 21 undef rfl (fun _ => by kernel_rfl) ?_
    refine QL.step1v 22 undef rfl (fun _ => by kernel_rfl) ?_
    refine QL.step1v 23 undef rfl (fun _ => by kernel_rfl) ?_
    refine QL.step1v 24 undef rfl (fun _ => by kernel_rfl) ?_
    refine QL.step1v 25 (.bool false) rfl (fun _ => by kernel_rfl) ?_
    refine QL.step1v 26 (.bool false) rfl (fun _ => by kernel_rfl) ?_
    refine QL.step1v 27 undef rfl (fun _ => by kernel_rfl) ?_
    refine QL.step1v 28 undef rfl (fun _ => by kernel_rfl) ?_
    refine QL.step1v 29 undef rfl (fun _ => by kernel_rfl) ?_
    refine QL.step1v 30 undef rfl (fun _ => by kernel_rfl) ?_
    refine QL.step1v 31 undef rfl (fun _ => by kernel_rfl) ?_
    refine QL.step1v 32 (.bool false) rfl (fun _ => by kernel_rfl) ?_
    refine QL.step1v 2 (.bool false) rfl (fun _ => by kernel_rfl) ?_
    refine QL.subk [2] [(2, .bool false)] (by kernel_rfl) ?_
    refine QL.nil ?_
    intro w78 hE79
    have hb80 : Ext w w78 := Ext.trans (Ext.refl w) hE79
    have hL81 : w.heap.size ≤ w78.heap.size := Nat.le_trans (Nat.le_refl _) hE79.size
    have hS82 : SH w78 w.heap.size [] := SH.ext (SH.nil _ _) hE79
    obtain rfl := Option.some.inj hm
    exact WQ.post' ⟨rfl, hb80, hL81, hS82⟩ ⟨rfl, trivial⟩
  have hm := iteT hm hc48
  refine QL.step1v 9 (.pointer (some ⟨b0', o0', none⟩)) rfl (fun _ => by kernel_rfl) ?_
  refine QL.step1v 10 (.pointer (some ⟨b0', o0', none⟩)) rfl (fun _ => by kernel_rfl) ?_
  refine QL.step1v 11 (.pointer (some ⟨b0', o0' + 1, none⟩)) rfl (fun _ => by kernel_rfl) ?_
  refine QL.subk [0, 8, 11] [(0, .pointer (some ⟨b0', o0', none⟩)), (8, .bool true), (11, .pointer (some ⟨b0', o0' + 1, none⟩))] (by kernel_rfl) ?_
  refine QL.st (.int .i64 g_0.OnHand) (ST.load (cell_ext (RdB.at (RdB.below h0 (Ext.refl w)) 1 _ rfl)) rfl rfl Tryd.underlying2 rfl) rfl rfl rfl ?_
  obtain ⟨x49, hx50, hm⟩ := bindE hm
  refine QL.call 22 #[.int .i64 g_0.OnHand] (.bool x49) (fun _ => by kernel_rfl) (fun w51 hE52 => c_22 n g_0.OnHand w51 hx50 ) rfl rfl rfl ?_
  refine QL.step1v 14 (.bool x49) rfl (fun _ => by kernel_rfl) ?_
  refine QL.step1v 15 (.bool x49) rfl (fun _ => by kernel_rfl) ?_
  refine QL.subk [0, 15] [(0, .pointer (some ⟨b0', o0', none⟩)), (15, .bool x49)] (by kernel_rfl) ?_
  refine QL.case x49 [15] ⟨rfl, trivial⟩ (fun hc53 => ?_) (fun hc53 => ?_)
  rotate_left
  · have hm := iteF hm hc53
    refine QL.step1v 16 undef rfl (fun _ => by kernel_rfl) ?_
    refine QL.step1v 17 undef rfl (fun _ => by kernel_rfl) ?_
    refine QL.step1v 18 undef rfl (fun _ => by kernel_rfl) ?_
    refine QL.step1v 19 undef rfl (fun _ => by kernel_rfl) ?_
    refine QL.step1v 20 undef rfl (fun _ => by kernel_rfl) ?_
    refine QL.step1v 21 undef rfl (fun _ => by kernel_rfl) ?_
    refine QL.step1v 22 undef rfl (fun _ => by kernel_rfl) ?_
    refine QL.step1v 23 undef rfl (fun _ => by kernel_rfl) ?_
    refine QL.step1v 24 undef rfl (fun _ => by kernel_rfl) ?_
    refine QL.step1v 25 (.bool false) rfl (fun _ => by kernel_rfl) ?_
    refine QL.step1v 26 (.bool false) rfl (fun _ => by kernel_rfl) ?_
    refine QL.step1v 27 undef rfl (fun _ => by kernel_rfl) ?_
    refine QL.step1v 28 undef rfl (fun _ => by kernel_rfl) ?_
    refine QL.step1v 29 undef rfl (fun _ => by kernel_rfl) ?_
    refine QL.step1v 30 undef rfl (fun _ => by kernel_rfl) ?_
    refine QL.step1v 31 undef rfl (fun _ => by kernel_rfl) ?_
    refine QL.step1v 32 (.bool false) rfl (fun _ => by kernel_rfl) ?_
    refine QL.step1v 2 (.bool false) rfl (fun _ => by kernel_rfl) ?_
    refine QL.subk [2] [(2, .bool false)] (by kernel_rfl) ?_
    refine QL.nil ?_
    intro w73 hE74
    have hb75 : Ext w w73 := Ext.trans (Ext.refl w) hE74
    have hL76 : w.heap.size ≤ w73.heap.size := Nat.le_trans (Nat.le_refl _) hE74.size
    have hS77 : SH w73 w.heap.size [] := SH.ext (SH.nil _ _) hE74
    obtain rfl := Option.some.inj hm
    exact WQ.post' ⟨rfl, hb75, hL76, hS77⟩ ⟨rfl, trivial⟩
  have hm := iteT hm hc53
  refine QL.step1v 16 (.pointer (some ⟨b0', o0', none⟩)) rfl (fun _ => by kernel_rfl) ?_
  refine QL.step1v 17 (.pointer (some ⟨b0', o0', none⟩)) rfl (fun _ => by kernel_rfl) ?_
  refine QL.step1v 18 (.pointer (some ⟨b0', o0' + 2, none⟩)) rfl (fun _ => by kernel_rfl) ?_
  refine QL.subk [0, 15, 18] [(0, .pointer (some ⟨b0', o0', none⟩)), (15, .bool true), (18, .pointer (some ⟨b0', o0' + 2, none⟩))] (by kernel_rfl) ?_
  refine QL.st (.int .i64 g_0.Reserved) (ST.load (cell_ext (RdB.at (RdB.below h0 (Ext.refl w)) 2 _ rfl)) rfl rfl Tryd.underlying2 rfl) rfl rfl rfl ?_
  refine QL.step1v 20 (.pointer (some ⟨b0', o0', none⟩)) rfl (fun _ => by kernel_rfl) ?_
  refine QL.step1v 21 (.pointer (some ⟨b0', o0', none⟩)) rfl (fun _ => by kernel_rfl) ?_
  refine QL.step1v 22 (.pointer (some ⟨b0', o0' + 1, none⟩)) rfl (fun _ => by kernel_rfl) ?_
  refine QL.subk [0, 15, 19, 22] [(0, .pointer (some ⟨b0', o0', none⟩)), (15, .bool true), (19, .int .i64 g_0.Reserved), (22, .pointer (some ⟨b0', o0' + 1, none⟩))] (by kernel_rfl) ?_
  refine QL.st (.int .i64 g_0.OnHand) (ST.load (cell_ext (RdB.at (RdB.below h0 (Ext.refl w)) 1 _ rfl)) rfl rfl Tryd.underlying2 rfl) rfl rfl rfl ?_
  obtain ⟨x54, hx55, hm⟩ := bindE hm
  refine QL.call 23 #[.int .i64 g_0.Reserved, .int .i64 0, .int .i64 g_0.OnHand] (.bool x54) (fun _ => by kernel_rfl) (fun w56 hE57 => c_23 n g_0.Reserved 0 g_0.OnHand w56 hx55 ) rfl rfl rfl ?_
  refine QL.step1v 25 (.bool x54) rfl (fun _ => by kernel_rfl) ?_
  refine QL.step1v 26 (.bool x54) rfl (fun _ => by kernel_rfl) ?_
  refine QL.subk [0, 26] [(0, .pointer (some ⟨b0', o0', none⟩)), (26, .bool x54)] (by kernel_rfl) ?_
  refine QL.case x54 [26] ⟨rfl, trivial⟩ (fun hc58 => ?_) (fun hc58 => ?_)
  rotate_left
  · have hm := iteF hm hc58
    refine QL.step1v 27 undef rfl (fun _ => by kernel_rfl) ?_
    refine QL.step1v 28 undef rfl (fun _ => by kernel_rfl) ?_
    refine QL.step1v 29 undef rfl (fun _ => by kernel_rfl) ?_
    refine QL.step1v 30 undef rfl (fun _ => by kernel_rfl) ?_
    refine QL.step1v 31 undef rfl (fun _ => by kernel_rfl) ?_
    refine QL.step1v 32 (.bool false) rfl (fun _ => by kernel_rfl) ?_
    refine QL.step1v 2 (.bool false) rfl (fun _ => by kernel_rfl) ?_
    refine QL.subk [2] [(2, .bool false)] (by kernel_rfl) ?_
    refine QL.nil ?_
    intro w68 hE69
    have hb70 : Ext w w68 := Ext.trans (Ext.refl w) hE69
    have hL71 : w.heap.size ≤ w68.heap.size := Nat.le_trans (Nat.le_refl _) hE69.size
    have hS72 : SH w68 w.heap.size [] := SH.ext (SH.nil _ _) hE69
    obtain rfl := Option.some.inj hm
    exact WQ.post' ⟨rfl, hb70, hL71, hS72⟩ ⟨rfl, trivial⟩
  have hm := iteT hm hc58
  refine QL.step1v 27 (.pointer (some ⟨b0', o0', none⟩)) rfl (fun _ => by kernel_rfl) ?_
  refine QL.step1v 28 (.pointer (some ⟨b0', o0', none⟩)) rfl (fun _ => by kernel_rfl) ?_
  refine QL.step1v 29 (.pointer (some ⟨b0', o0' + 3, none⟩)) rfl (fun _ => by kernel_rfl) ?_
  refine QL.subk [26, 29] [(26, .bool true), (29, .pointer (some ⟨b0', o0' + 3, none⟩))] (by kernel_rfl) ?_
  refine QL.st (.int .i64 g_0.Least) (ST.load (cell_ext (RdB.at (RdB.below h0 (Ext.refl w)) 3 _ rfl)) rfl rfl Tryd.underlying2 rfl) rfl rfl rfl ?_
  obtain ⟨x59, hx60, hm⟩ := bindE hm
  refine QL.call 22 #[.int .i64 g_0.Least] (.bool x59) (fun _ => by kernel_rfl) (fun w61 hE62 => c_22 n g_0.Least w61 hx60 ) rfl rfl rfl ?_
  refine QL.step1v 32 (.bool x59) rfl (fun _ => by kernel_rfl) ?_
  refine QL.step1v 2 (.bool x59) rfl (fun _ => by kernel_rfl) ?_
  refine QL.subk [2] [(2, .bool x59)] (by kernel_rfl) ?_
  refine QL.nil ?_
  intro w63 hE64
  have hb65 : Ext w w63 := Ext.trans (Ext.refl w) hE64
  have hL66 : w.heap.size ≤ w63.heap.size := Nat.le_trans (Nat.le_refl _) hE64.size
  have hS67 : SH w63 w.heap.size [] := SH.ext (SH.nil _ _) hE64
  obtain rfl := Option.some.inj hm
  exact WQ.post' ⟨rfl, hb65, hL66, hS67⟩ ⟨rfl, trivial⟩

theorem c_24 (n : Nat) (n_0 : Int) (w : World) {r : List UInt8} (hm : m_spec_l01Dec n n_0 = some r)  :
    CallV Tryd.prog 24 #[.int .i64 n_0] w (fun v w' => v = .string (bs r) ∧ Ext w w') := by
  unfold m_spec_l01Dec at hm
  refine CallV.enter Tryd.func24 rfl (by kernel_rfl) Tryd.ntmps24 (env := [(0, .int .i64 n_0)]) ⟨rfl, trivial⟩ ?_
  refine WP.seq (fun K1 hK1 => ?_)
  refine WP.region ?_
  refine WL.runk 1 [0] [(0, .int .i64 n_0)] (by kernel_rfl) ?_
  refine WL.nil ?_
  refine WQ.then_normal (hK1 _ _ _ ?_)
  refine WP.seq (fun K2 hK2 => ?_)
  refine WP.region ?_
  refine WL.row fU8 5 ([] : List Int) 0 #[] 6 (by kernel_rfl) rfl rfl rfl rfl rfl rfl rfl ?_
  intro a3 c4 w5 hE6 hR7
  have hb9 : Ext w w5 := Ext.trans (Ext.refl w) hE6
  have hL10 : w.heap.size ≤ w5.heap.size := Nat.le_trans (Nat.le_refl _) hE6.size
  have hS11 : SH w5 w.heap.size [aOwn fU8 5 a3 c4 ([] : List Int)] := SH.add (SH.nil _ _) hE6 (Nat.le_refl _) hR7
  refine WL.runk 1 [0, 3] [(0, .int .i64 n_0), (3, .slice a3 (([] : List Int).length) c4)] (by kernel_rfl) ?_
  refine WL.nil ?_
  refine WQ.then_normal (hK2 _ _ _ ?_)
  refine WP.seq (fun K12 hK12 => ?_)
  refine WP.seq (fun K13 hK13 => ?_)
  refine WP.region ?_
  refine WL.runk 2 [0, 3, 4] [(0, .int .i64 n_0), (3, .slice a3 (([] : List Int).length) c4), (4, .int .i64 n_0)] (by kernel_rfl) ?_
  refine WL.nil ?_
  refine WQ.then_normal (hK13 _ _ _ ?_)
  refine WP.block ?_
  obtain ⟨t28, ht29, hm⟩ := bindE hm
  have hmo23 := hm; clear hm
  refine WP.sub [(0, .int .i64 n_0), (3, .slice a3 (([] : List Int).length) c4), (4, .int .i64 n_0)] ⟨rfl, rfl, rfl, trivial⟩ ?_
  refine WP.loop (fun n' env' w' => ∃ (st14 : List Int × Int) (a15 : Option Addr) (c16 : Nat), env' = [(0, .int .i64 n_0), (3, .slice a15 st14.1.length c16), (4, .int .i64 st14.2)] ∧ Ext w w' ∧ w.heap.size ≤ w'.heap.size ∧ SH w' w.heap.size [aOwn fU8 5 a15 c16 st14.1] ∧ loopN (m_spec_l01Dec_l1 n) n' st14 = some t28) n ⟨(([] : List Int), n_0), _, _, rfl, hb9, hL10, hS11, ht29⟩ ?_
  rintro n25 _ w18 ⟨st14, a15, c16, rfl, hb19, hL20, hS21, hl22⟩ K24 hK24
  obtain ⟨n26, s27, rfl, hm, hl22⟩ := loopN_some hl22
  unfold m_spec_l01Dec_l1 at hm
  refine WP.seq (fun K30 hK30 => ?_)
  refine WP.seq (fun K31 hK31 => ?_)
  refine WP.region ?_
  refine WL.runk 2 [0, 3, 4, 9] [(0, .int .i64 n_0), (3, .slice a15 st14.1.length c16), (4, .int .i64 st14.2), (9, .bool (st14.2 != 0))] (by kernel_rfl) ?_
  refine WL.nil ?_
  refine WQ.then_normal (hK31 _ _ _ ?_)
  refine WP.cond (st14.2 != 0) rfl rfl (fun hc32 => ?_) (fun hc32 => ?_)
  · have hm := iteT hm hc32
    refine WP.skip ?_
    refine WQ.then_normal (hK30 _ _ _ ?_)
    refine WP.seq (fun K33 hK33 => ?_)
    refine WP.block ?_
    refine WP.seq (fun K34 hK34 => ?_)
    refine WP.region ?_
    refine WL.runk 3 [0, 3, 4, 5] [(0, .int .i64 n_0), (3, .slice a15 st14.1.length c16), (4, .int .i64 st14.2), (5, .int .i64 (Int.tmod st14.2 10))] (by kernel_rfl) ?_
    refine WL.nil ?_
    refine WQ.then_normal (hK34 _ _ _ ?_)
    refine WP.seq (fun K35 hK35 => ?_)
    refine WP.seq (fun K36 hK36 => ?_)
    refine WP.region ?_
    refine WL.runk 2 [0, 3, 4, 5, 15] [(0, .int .i64 n_0), (3, .slice a15 st14.1.length c16), (4, .int .i64 st14.2), (5, .int .i64 (Int.tmod st14.2 10)), (15, .bool (decide ((Int.tmod st14.2 10) < 0)))] (by kernel_rfl) ?_
    refine WL.nil ?_
    refine WQ.then_normal (hK36 _ _ _ ?_)
    obtain ⟨x38, hx39, hm⟩ := bindE hm
    refine WP.cut (fun env' w' => env' = [(0, .int .i64 n_0), (3, .slice a15 st14.1.length c16), (4, .int .i64 st14.2), (5, .int .i64 x38)] ∧ Ext w w' ∧ w.heap.size ≤ w'.heap.size ∧ SH w' w.heap.size [aOwn fU8 5 a15 c16 st14.1]) ?_ ?_
    · have hm := hx39; clear hx39
      refine WP.cond (decide ((Int.tmod st14.2 10) < 0)) rfl rfl (fun hc37 => ?_) (fun hc37 => ?_)
      rotate_left
      · have hm := iteF hm hc37
        refine WP.skip ?_
        obtain rfl := Option.some.inj hm
        exact WQ.post' ⟨rfl, hb19, hL20, hS21⟩ ⟨rfl, rfl, rfl, rfl, trivial⟩
      have hm := iteT hm hc37
      refine WP.region ?_
      refine WL.runk 3 [0, 3, 4, 5] [(0, .int .i64 n_0), (3, .slice a15 st14.1.length c16), (4, .int .i64 st14.2), (5, .int .i64 (wI64 (0 - (Int.tmod st14.2 10))))] (by kernel_rfl) ?_
      refine WL.nil ?_
      obtain rfl := Option.some.inj hm
      exact WQ.post' ⟨rfl, hb19, hL20, hS21⟩ ⟨rfl, rfl, rfl, rfl, trivial⟩
    clear hx39
    rintro _ w40 ⟨rfl, hb41, hL42, hS43⟩
    refine WQ.then_normal (hK35 _ _ _ ?_)
    refine WP.region ?_
    refine WL.runk 3 [0, 3, 4, 20] [(0, .int .i64 n_0), (3, .slice a15 st14.1.length c16), (4, .int .i64 st14.2), (20, .int .u8 (IntKind.u8.wrap (wI64 (48 + x38))))] (by kernel_rfl) ?_
    refine WL.row fU8 5 ([(IntKind.u8.wrap (wI64 (48 + x38)))] : List Int) 1 #[.int .u8 (IntKind.u8.wrap (wI64 (48 + x38)))] 21 (by kernel_rfl) rfl rfl rfl rfl rfl rfl rfl ?_
    intro a44 c45 w46 hE47 hR48
    have hb50 : Ext w w46 := Ext.trans hb41 hE47
    have hL51 : w.heap.size ≤ w46.heap.size := Nat.le_trans hL42 hE47.size
    have hS52 : SH w46 w.heap.size [aOwn fU8 5 a44 c45 ([(IntKind.u8.wrap (wI64 (48 + x38)))] : List Int), aOwn fU8 5 a15 c16 st14.1] := SH.add hS43 hE47 hL42 hR48
    refine WL.runk 1 [0, 4, 21, 22] [(0, .int .i64 n_0), (4, .int .i64 st14.2), (21, .slice a44 (([(IntKind.u8.wrap (wI64 (48 + x38)))] : List Int).length) c45), (22, .slice a15 st14.1.length c16)] (by kernel_rfl) ?_
    obtain ⟨x53, hx54, hm⟩ := bindE hm
    refine WL.append (F := fU8) (xs := ([(IntKind.u8.wrap (wI64 (48 + x38)))] : List Int)) (ys := st14.1) 23 (SH.front 0 hS52) hL51 (SH.rd (SH.front 1 hS52)) hx54 rfl rfl rfl Tryd.underlying57 (info5).1 (info5).2.2.1 (info5).2.1 (info5).2.2.2 rfl rfl rfl rfl rfl ?_
    intro a55 c56 w57 hB58 hS59
    have hb60 : Ext w w57 := Below.trans hb50 hB58
    have hL61 : w.heap.size ≤ w57.heap.size := Nat.le_trans hL51 hB58.size
    refine WL.runk 1 [0, 3, 4] [(0, .int .i64 n_0), (4, .int .i64 st14.2), (3, .slice a55 x53.length c56)] (by kernel_rfl) ?_
    refine WL.nil ?_
    refine WQ.block_normal ?_
    refine WQ.then_normal (hK33 _ _ _ ?_)
    refine WP.region ?_
    refine WL.runk 3 [0, 3, 4] [(0, .int .i64 n_0), (4, .int .i64 (wI64 (Int.tdiv st14.2 10))), (3, .slice a55 x53.length c56)] (by kernel_rfl) ?_
    refine WL.nil ?_
    obtain rfl := Option.some.inj hm
    exact WQ.round hK24 ⟨(x53, (wI64 (Int.tdiv st14.2 10))), _, _, rfl, hb60, hL61, (SH.take 1 hS59), hl22⟩ (Nat.lt_succ_self _) ⟨rfl, rfl, rfl, trivial⟩
  have hm := iteF hm hc32
  refine WP.exit ?_
  refine WQ.then_exit ?_
  refine WQ.then_exit ?_
  refine WQ.block_here ?_
  obtain rfl := Option.some.inj hm
  obtain rfl := afterN_done hl22
  have hm := hmo23
  refine WQ.then_normal (hK12 _ _ _ ?_)
  refine WP.seq (fun K62 hK62 => ?_)
  refine WP.seq (fun K63 hK63 => ?_)
  refine WP.region ?_
  refine WL.runk 3 [0, 3, 26] [(0, .int .i64 n_0), (3, .slice a15 st14.1.length c16), (26, .bool ((st14.1.length : Int) == 0))] (by kernel_rfl) ?_
  refine WL.nil ?_
  refine WQ.then_normal (hK63 _ _ _ ?_)
  refine WP.cond ((st14.1.length : Int) == 0) rfl rfl (fun hc64 => ?_) (fun hc64 => ?_)
  · have hm := iteT hm hc64
    refine WP.seq (fun K65 hK65 => ?_)
    refine WP.region ?_
    refine WL.runk 1 [2] [(2, .string (bs [48]))] (by kernel_rfl) ?_
    refine WL.nil ?_
    refine WQ.then_normal (hK65 _ _ _ ?_)
    refine WP.ret ?_
    refine WQ.then_ret ?_
    obtain rfl := Option.some.inj hm
    exact WQ.ret1 _ rfl rfl ⟨rfl, hb19⟩
  have hm := iteF hm hc64
  refine WP.skip ?_
  refine WQ.then_normal (hK62 _ _ _ ?_)
  refine WP.seq (fun K66 hK66 => ?_)
  refine WP.seq (fun K67 hK67 => ?_)
  refine WP.region ?_
  refine WL.runk 2 [3, 28] [(3, .slice a15 st14.1.length c16), (28, .bool (decide (n_0 < 0)))] (by kernel_rfl) ?_
  refine WL.nil ?_
  refine WQ.then_normal (hK67 _ _ _ ?_)
  refine WP.cond (decide (n_0 < 0)) rfl rfl (fun hc68 => ?_) (fun hc68 => ?_)
  rotate_left
  · have hm := iteF hm hc68
    refine WP.skip ?_
    refine WQ.then_normal (hK66 _ _ _ ?_)
    refine WP.seq (fun K72 hK72 => ?_)
    refine WP.region ?_
    refine WL.runk 1 [32] [(32, .slice a15 st14.1.length c16)] (by kernel_rfl) ?_
    refine WL.st (.string (bs (ofBytes st14.1))) (ST.b2s (SH.rd (SH.front 0 hS21)) (SH.le (SH.front 0 hS21)).2 rfl rfl Tryd.underlying57 Tryd.underlying9 Tryd.underlying5) rfl rfl rfl ?_
    refine WL.runk 1 [2] [(2, .string (bs (ofBytes st14.1)))] (by kernel_rfl) ?_
    refine WL.nil ?_
    refine WQ.then_normal (hK72 _ _ _ ?_)
    refine WP.ret ?_
    obtain rfl := Option.some.inj hm
    exact WQ.ret1 _ rfl rfl ⟨rfl, hb19⟩
  have hm := iteT hm hc68
  refine WP.seq (fun K69 hK69 => ?_)
  refine WP.region ?_
  refine WL.runk 1 [29] [(29, .slice a15 st14.1.length c16)] (by kernel_rfl) ?_
  refine WL.st (.string (bs (ofBytes st14.1))) (ST.b2s (SH.rd (SH.front 0 hS21)) (SH.le (SH.front 0 hS21)).2 rfl rfl Tryd.underlying57 Tryd.underlying9 Tryd.underlying5) rfl rfl rfl ?_
  obtain ⟨x70, hx71, hm⟩ := bindE hm
  refine WL.st (.string (bs x70)) (ST.cat hx71 rfl rfl rfl) rfl rfl rfl ?_
  refine WL.runk 1 [2] [(2, .string (bs x70))] (by kernel_rfl) ?_
  refine WL.nil ?_
  refine WQ.then_normal (hK69 _ _ _ ?_)
  refine WP.ret ?_
  refine WQ.then_ret ?_
  obtain rfl := Option.some.inj hm
  exact WQ.ret1 _ rfl rfl ⟨rfl, hb19⟩

theorem c_13 (n : Nat) (g_0 : SGood) (b0' o0' : Nat) (w : World) {r : List UInt8} (hm : m_spec_l23Text n g_0 = some r) (h0 : RdB w b0' o0' [.string (bs g_0.Name), .int .i64 g_0.OnHand, .int .i64 g_0.Reserved, .int .i64 g_0.Least]) :
    CallV Tryd.prog 13 #[.pointer (some ⟨b0', o0', none⟩)] w (fun v w' => v = .string (bs r) ∧ Ext w w') := by
  unfold m_spec_l23Text at hm
  refine CallV.enter Tryd.func13 rfl (by kernel_rfl) Tryd.ntmps13 (env := [(0, .pointer (some ⟨b0', o0', none⟩))]) ⟨rfl, trivial⟩ ?_
  refine WP.seq (fun K1 hK1 => ?_)
  refine WP.region ?_
  refine WL.runk 1 [0] [(0, .pointer (some ⟨b0', o0', none⟩))] (by kernel_rfl) ?_
  refine WL.nil ?_
  refine WQ.then_normal (hK1 _ _ _ ?_)
  refine WP.seq (fun K2 hK2 => ?_)
  refine WP.quiet (by kernel_rfl) (by kernel_rfl) ?_
  refine QL.step1v 3 (.pointer (some ⟨b0', o0', none⟩)) rfl (fun _ => by kernel_rfl) ?_
  refine QL.step1v 4 (.pointer (some ⟨b0', o0', none⟩)) rfl (fun _ => by kernel_rfl) ?_
  refine QL.step1v 5 (.pointer (some ⟨b0', o0', none⟩)) rfl (fun _ => by kernel_rfl) ?_
  refine QL.subk [0, 5] [(0, .pointer (some ⟨b0', o0', none⟩)), (5, .pointer (some ⟨b0', o0', none⟩))] (by kernel_rfl) ?_
  refine QL.st (.string (bs g_0.Name)) (ST.load (cell_ext (RdB.at (RdB.below h0 (Ext.refl w)) 0 _ rfl)) rfl rfl Tryd.underlying9 rfl) rfl rfl rfl ?_
  obtain ⟨x3, hx4, hm⟩ := bindE hm
  refine QL.st (.string (bs x3)) (ST.cat hx4 rfl rfl rfl) rfl rfl rfl ?_
  refine QL.step1v 8 (.pointer (some ⟨b0', o0', none⟩)) rfl (fun _ => by kernel_rfl) ?_
  refine QL.step1v 9 (.pointer (some ⟨b0', o0', none⟩)) rfl (fun _ => by kernel_rfl) ?_
  refine QL.step1v 10 (.pointer (some ⟨b0', o0' + 1, none⟩)) rfl (fun _ => by kernel_rfl) ?_
  refine QL.subk [0, 7, 10] [(0, .pointer (some ⟨b0', o0', none⟩)), (7, .string (bs x3)), (10, .pointer (some ⟨b0', o0' + 1, none⟩))] (by kernel_rfl) ?_
  refine QL.st (.int .i64 g_0.OnHand) (ST.load (cell_ext (RdB.at (RdB.below h0 (Ext.refl w)) 1 _ rfl)) rfl rfl Tryd.underlying2 rfl) rfl rfl rfl ?_
  obtain ⟨x5, hx6, hm⟩ := bindE hm
  refine QL.call 24 #[.int .i64 g_0.OnHand] (.string (bs x5)) (fun _ => by kernel_rfl) (fun w7 hE8 => c_24 n g_0.OnHand w7 hx6 ) rfl rfl rfl ?_
  obtain ⟨x9, hx10, hm⟩ := bindE hm
  refine QL.st (.string (bs x9)) (ST.cat hx10 rfl rfl rfl) rfl rfl rfl ?_
  obtain ⟨x11, hx12, hm⟩ := bindE hm
  refine QL.st (.string (bs x11)) (ST.cat hx12 rfl rfl rfl) rfl rfl rfl ?_
  refine QL.step1v 15 (.pointer (some ⟨b0', o0', none⟩)) rfl (fun _ => by kernel_rfl) ?_
  refine QL.step1v 16 (.pointer (some ⟨b0', o0', none⟩)) rfl (fun _ => by kernel_rfl) ?_
  refine QL.step1v 17 (.pointer (some ⟨b0', o0' + 2, none⟩)) rfl (fun _ => by kernel_rfl) ?_
  refine QL.subk [0, 14, 17] [(0, .pointer (some ⟨b0', o0', none⟩)), (14, .string (bs x11)), (17, .pointer (some ⟨b0', o0' + 2, none⟩))] (by kernel_rfl) ?_
  refine QL.st (.int .i64 g_0.Reserved) (ST.load (cell_ext (RdB.at (RdB.below h0 (Ext.refl w)) 2 _ rfl)) rfl rfl Tryd.underlying2 rfl) rfl rfl rfl ?_
  obtain ⟨x13, hx14, hm⟩ := bindE hm
  refine QL.call 24 #[.int .i64 g_0.Reserved] (.string (bs x13)) (fun _ => by kernel_rfl) (fun w15 hE16 => c_24 n g_0.Reserved w15 hx14 ) rfl rfl rfl ?_
  obtain ⟨x17, hx18, hm⟩ := bindE hm
  refine QL.st (.string (bs x17)) (ST.cat hx18 rfl rfl rfl) rfl rfl rfl ?_
  obtain ⟨x19, hx20, hm⟩ := bindE hm
  refine QL.st (.string (bs x19)) (ST.cat hx20 rfl rfl rfl) rfl rfl rfl ?_
  refine QL.step1v 22 (.pointer (some ⟨b0', o0', none⟩)) rfl (fun _ => by kernel_rfl) ?_
  refine QL.step1v 23 (.pointer (some ⟨b0', o0', none⟩)) rfl (fun _ => by kernel_rfl) ?_
  refine QL.step1v 24 (.pointer (some ⟨b0', o0' + 3, none⟩)) rfl (fun _ => by kernel_rfl) ?_
  refine QL.subk [21, 24] [(21, .string (bs x19)), (24, .pointer (some ⟨b0', o0' + 3, none⟩))] (by kernel_rfl) ?_
  refine QL.st (.int .i64 g_0.Least) (ST.load (cell_ext (RdB.at (RdB.below h0 (Ext.refl w)) 3 _ rfl)) rfl rfl Tryd.underlying2 rfl) rfl rfl rfl ?_
  obtain ⟨x21, hx22, hm⟩ := bindE hm
  refine QL.call 24 #[.int .i64 g_0.Least] (.string (bs x21)) (fun _ => by kernel_rfl) (fun w23 hE24 => c_24 n g_0.Least w23 hx22 ) rfl rfl rfl ?_
  obtain ⟨x25, hx26, hm⟩ := bindE hm
  refine QL.st (.string (bs x25)) (ST.cat hx26 rfl rfl rfl) rfl rfl rfl ?_
  refine QL.step1v 2 (.string (bs x25)) rfl (fun _ => by kernel_rfl) ?_
  refine QL.subk [2] [(2, .string (bs x25))] (by kernel_rfl) ?_
  refine QL.nil ?_
  intro w27 hE28
  have hb29 : Ext w w27 := Ext.trans (Ext.refl w) hE28
  have hL30 : w.heap.size ≤ w27.heap.size := Nat.le_trans (Nat.le_refl _) hE28.size
  have hS31 : SH w27 w.heap.size [] := SH.ext (SH.nil _ _) hE28
  refine WQ.then_normal (hK2 _ _ _ ?_)
  refine WP.ret ?_
  obtain rfl := Option.some.inj hm
  exact WQ.ret1 _ rfl rfl ⟨rfl, hb29⟩

theorem c_6 (n : Nat) (g_0 : SGood) (w : World) {r : List UInt8} (hm : m_spec_GoodText n g_0 = some r)  :
    CallV Tryd.prog 6 #[.agg #[.string (bs g_0.Name), .int .i64 g_0.OnHand, .int .i64 g_0.Reserved, .int .i64 g_0.Least]] w (fun v w' => v = .string (bs r) ∧ Ext w w') := by
  unfold m_spec_GoodText at hm
  refine CallV.enter Tryd.func6 rfl (by kernel_rfl) Tryd.ntmps6 (env := [(0, .agg #[.string (bs g_0.Name), .int .i64 g_0.OnHand, .int .i64 g_0.Reserved, .int .i64 g_0.Least])]) ⟨rfl, trivial⟩ ?_
  refine WP.seq (fun K1 hK1 => ?_)
  refine WP.region ?_
  refine WL.box 26 [.string (bs g_0.Name), .int .i64 g_0.OnHand, .int .i64 g_0.Reserved, .int .i64 g_0.Least] 1 (by kernel_rfl) rfl rfl rfl rfl ?_
  intro b2 w3 hE4 hR5
  have hb7 : Ext w w3 := Ext.trans (Ext.refl w) hE4
  have hL8 : w.heap.size ≤ w3.heap.size := Nat.le_trans (Nat.le_refl _) hE4.size
  have hS9 : SH w3 w.heap.size [aBox 26 b2 [.string (bs g_0.Name), .int .i64 g_0.OnHand, .int .i64 g_0.Reserved, .int .i64 g_0.Least]] := SH.add (SH.nil _ _) hE4 (Nat.le_refl _) hR5
  refine WL.runk 1 [1] [(1, .pointer (some ⟨b2, 0, none⟩))] (by kernel_rfl) ?_
  refine WL.nil ?_
  refine WQ.then_normal (hK1 _ _ _ ?_)
  refine WP.seq (fun K10 hK10 => ?_)
  refine WP.seq (fun K11 hK11 => ?_)
  refine WP.region ?_
  obtain ⟨x12, hx13, hm⟩ := bindE hm
  refine WL.call 12 #[.pointer (some ⟨b2, 0, none⟩)] rfl rfl (by kernel_rfl) (c_12 n g_0 b2 0 w3 hx13 (SH.boxRd (SH.front 0 hS9))) ?_
  rintro _ w14 ⟨rfl, hE15⟩
  refine ⟨_, rfl, ?_⟩
  have hb17 : Ext w w14 := Ext.trans hb7 hE15
  have hL18 : w.heap.size ≤ w14.heap.size := Nat.le_trans hL8 hE15.size
  have hS19 : SH w14 w.heap.size [aBox 26 b2 [.string (bs g_0.Name), .int .i64 g_0.OnHand, .int .i64 g_0.Reserved, .int .i64 g_0.Least]] := SH.ext hS9 hE15
  refine WL.runk 1 [1, 4] [(1, .pointer (some ⟨b2, 0, none⟩)), (4, .bool (!x12))] (by kernel_rfl) ?_
  refine WL.nil ?_
  refine WQ.then_normal (hK11 _ _ _ ?_)
  refine WP.cond (!x12) rfl rfl (fun hc20 => ?_) (fun hc20 => ?_)
  · have hm := iteT hm hc20
    refine WP.seq (fun K21 hK21 => ?_)
    refine WP.region ?_
    refine WL.runk 1 [2] [(2, .string (bs []))] (by kernel_rfl) ?_
    refine WL.nil ?_
    refine WQ.then_normal (hK21 _ _ _ ?_)
    refine WP.ret ?_
    refine WQ.then_ret ?_
    obtain rfl := Option.some.inj hm
    exact WQ.ret1 _ rfl rfl ⟨rfl, hb17⟩
  have hm := iteF hm hc20
  refine WP.skip ?_
  refine WQ.then_normal (hK10 _ _ _ ?_)
  refine WP.seq (fun K22 hK22 => ?_)
  refine WP.region ?_
  obtain ⟨x23, hx24, hm⟩ := bindE hm
  refine WL.call 13 #[.pointer (some ⟨b2, 0, none⟩)] rfl rfl (by kernel_rfl) (c_13 n g_0 b2 0 w14 hx24 (SH.boxRd (SH.front 0 hS19))) ?_
  rintro _ w25 ⟨rfl, hE26⟩
  refine ⟨_, rfl, ?_⟩
  have hb28 : Ext w w25 := Ext.trans hb17 hE26
  have hL29 : w.heap.size ≤ w25.heap.size := Nat.le_trans hL18 hE26.size
  have hS30 : SH w25 w.heap.size [aBox 26 b2 [.string (bs g_0.Name), .int .i64 g_0.OnHand, .int .i64 g_0.Reserved, .int .i64 g_0.Least]] := SH.ext hS19 hE26
  refine WL.runk 1 [2] [(2, .string (bs x23))] (by kernel_rfl) ?_
  refine WL.nil ?_
  refine WQ.then_normal (hK22 _ _ _ ?_)
  refine WP.ret ?_
  obtain rfl := Option.some.inj hm
  exact WQ.ret1 _ rfl rfl ⟨rfl, hb28⟩

theorem c_7 (n : Nat) (a_0 : SGood) (w : World) {r : SGood} (hm : m_laws_toGood n a_0 = some r)  :
    CallV Tryd.prog 7 #[.agg #[.string (bs a_0.Name), .int .i64 a_0.OnHand, .int .i64 a_0.Reserved, .int .i64 a_0.Least]] w (fun v w' => v = .agg #[.string (bs r.Name), .int .i64 r.OnHand, .int .i64 r.Reserved, .int .i64 r.Least] ∧ Ext w w') := by
  unfold m_laws_toGood at hm
  refine CallV.enter Tryd.func7 rfl (by kernel_rfl) Tryd.ntmps7 (env := [(0, .agg #[.string (bs a_0.Name), .int .i64 a_0.OnHand, .int .i64 a_0.Reserved, .int .i64 a_0.Least])]) ⟨rfl, trivial⟩ ?_
  refine WP.seq (fun K1 hK1 => ?_)
  refine WP.region ?_
  refine WL.box 23 [.string (bs a_0.Name), .int .i64 a_0.OnHand, .int .i64 a_0.Reserved, .int .i64 a_0.Least] 1 (by kernel_rfl) rfl rfl rfl rfl ?_
  intro b2 w3 hE4 hR5
  have hb7 : Ext w w3 := Ext.trans (Ext.refl w) hE4
  have hL8 : w.heap.size ≤ w3.heap.size := Nat.le_trans (Nat.le_refl _) hE4.size
  have hS9 : SH w3 w.heap.size [aBox 23 b2 [.string (bs a_0.Name), .int .i64 a_0.OnHand, .int .i64 a_0.Reserved, .int .i64 a_0.Least]] := SH.add (SH.nil _ _) hE4 (Nat.le_refl _) hR5
  refine WL.box 26 [.string (bs []), .int .i64 0, .int .i64 0, .int .i64 0] 2 (by kernel_rfl) rfl rfl rfl rfl ?_
  intro b10 w11 hE12 hR13
  have hb15 : Ext w w11 := Ext.trans hb7 hE12
  have hL16 : w.heap.size ≤ w11.heap.size := Nat.le_trans hL8 hE12.size
  have hS17 : SH w11 w.heap.size [aBox 26 b10 [.string (bs []), .int .i64 0, .int .i64 0, .int .i64 0], aBox 23 b2 [.string (bs a_0.Name), .int .i64 a_0.OnHand, .int .i64 a_0.Reserved, .int .i64 a_0.Least]] := SH.add hS9 hE12 hL8 hR13
  refine WL.sub [(1, .pointer (some ⟨b2, 0, none⟩)), (2, .pointer (some ⟨b10, 0, none⟩))] ⟨rfl, rfl, trivial⟩ ?_
  refine WL.nil ?_
  refine WQ.then_normal (hK1 _ _ _ ?_)
  refine WP.seq (fun K18 hK18 => ?_)
  refine WP.region ?_
  refine WL.box 26 [.string (bs []), .int .i64 0, .int .i64 0, .int .i64 0] 3 (by kernel_rfl) rfl rfl rfl rfl ?_
  intro b19 w20 hE21 hR22
  have hb24 : Ext w w20 := Ext.trans hb15 hE21
  have hL25 : w.heap.size ≤ w20.heap.size := Nat.le_trans hL16 hE21.size
  have hS26 : SH w20 w.heap.size [aBox 26 b19 [.string (bs []), .int .i64 0, .int .i64 0, .int .i64 0], aBox 26 b10 [.string (bs []), .int .i64 0, .int .i64 0, .int .i64 0], aBox 23 b2 [.string (bs a_0.Name), .int .i64 a_0.OnHand, .int .i64 a_0.Reserved, .int .i64 a_0.Least]] := SH.add hS17 hE21 hL16 hR22
  refine WL.sub [(1, .pointer (some ⟨b2, 0, none⟩)), (2, .pointer (some ⟨b10, 0, none⟩)), (3, .pointer (some ⟨b19, 0, none⟩))] ⟨rfl, rfl, rfl, trivial⟩ ?_
  refine WL.nil ?_
  refine WQ.then_normal (hK18 _ _ _ ?_)
  refine WP.seq (fun K27 hK27 => ?_)
  refine WP.region ?_
  refine WL.runk 1 [1, 2, 3, 4] [(1, .pointer (some ⟨b2, 0, none⟩)), (2, .pointer (some ⟨b10, 0, none⟩)), (3, .pointer (some ⟨b19, 0, none⟩)), (4, .pointer (some ⟨b2, 0, none⟩))] (by kernel_rfl) ?_
  refine WL.st (.string (bs a_0.Name)) (ST.load (cell_ext (SH.boxAt (SH.front 2 hS26) 0 _ rfl)) rfl rfl Tryd.underlying9 rfl) rfl rfl rfl ?_
  refine WL.runk 1 [1, 2, 3, 5, 6] [(1, .pointer (some ⟨b2, 0, none⟩)), (2, .pointer (some ⟨b10, 0, none⟩)), (3, .pointer (some ⟨b19, 0, none⟩)), (5, .string (bs a_0.Name)), (6, .pointer (some ⟨b19, 0, none⟩))] (by kernel_rfl) ?_
  refine WL.boxStore 0 [.string (bs a_0.Name)] [.string (bs a_0.Name), .int .i64 0, .int .i64 0, .int .i64 0] (SH.front 0 hS26) hL25 rfl rfl rfl rfl rfl rfl rfl (info9).1 (info9).2.1 rfl rfl rfl ?_
  intro w28 hB29 hS30
  have hb31 : Ext w w28 := Below.trans hb24 hB29
  have hL32 : w.heap.size ≤ w28.heap.size := Nat.le_trans hL25 hB29.size
  refine WL.sub [(1, .pointer (some ⟨b2, 0, none⟩)), (2, .pointer (some ⟨b10, 0, none⟩)), (3, .pointer (some ⟨b19, 0, none⟩))] ⟨rfl, rfl, rfl, trivial⟩ ?_
  refine WL.nil ?_
  refine WQ.then_normal (hK27 _ _ _ ?_)
  refine WP.seq (fun K33 hK33 => ?_)
  refine WP.region ?_
  refine WL.runk 1 [1, 2, 3, 7] [(1, .pointer (some ⟨b2, 0, none⟩)), (2, .pointer (some ⟨b10, 0, none⟩)), (3, .pointer (some ⟨b19, 0, none⟩)), (7, .pointer (some ⟨b2, 1, none⟩))] (by kernel_rfl) ?_
  refine WL.st (.int .i64 a_0.OnHand) (ST.load (cell_ext (SH.boxAt (SH.front 2 hS30) 1 _ rfl)) rfl rfl Tryd.underlying2 rfl) rfl rfl rfl ?_
  refine WL.runk 1 [1, 2, 3, 8, 9] [(1, .pointer (some ⟨b2, 0, none⟩)), (2, .pointer (some ⟨b10, 0, none⟩)), (3, .pointer (some ⟨b19, 0, none⟩)), (8, .int .i64 a_0.OnHand), (9, .pointer (some ⟨b19, 1, none⟩))] (by kernel_rfl) ?_
  refine WL.boxStore 1 [.int .i64 a_0.OnHand] [.string (bs a_0.Name), .int .i64 a_0.OnHand, .int .i64 0, .int .i64 0] (SH.front 0 hS30) hL32 rfl rfl rfl rfl rfl rfl rfl (info2).1 (info2).2.1 rfl rfl rfl ?_
  intro w34 hB35 hS36
  have hb37 : Ext w w34 := Below.trans hb31 hB35
  have hL38 : w.heap.size ≤ w34.heap.size := Nat.le_trans hL32 hB35.size
  refine WL.sub [(1, .pointer (some ⟨b2, 0, none⟩)), (2, .pointer (some ⟨b10, 0, none⟩)), (3, .pointer (some ⟨b19, 0, none⟩))] ⟨rfl, rfl, rfl, trivial⟩ ?_
  refine WL.nil ?_
  refine WQ.then_normal (hK33 _ _ _ ?_)
  refine WP.seq (fun K39 hK39 => ?_)
  refine WP.region ?_
  refine WL.runk 1 [1, 2, 3, 10] [(1, .pointer (some ⟨b2, 0, none⟩)), (2, .pointer (some ⟨b10, 0, none⟩)), (3, .pointer (some ⟨b19, 0, none⟩)), (10, .pointer (some ⟨b2, 2, none⟩))] (by kernel_rfl) ?_
  refine WL.st (.int .i64 a_0.Reserved) (ST.load (cell_ext (SH.boxAt (SH.front 2 hS36) 2 _ rfl)) rfl rfl Tryd.underlying2 rfl) rfl rfl rfl ?_
  refine WL.runk 1 [1, 2, 3, 11, 12] [(1, .pointer (some ⟨b2, 0, none⟩)), (2, .pointer (some ⟨b10, 0, none⟩)), (3, .pointer (some ⟨b19, 0, none⟩)), (11, .int .i64 a_0.Reserved), (12, .pointer (some ⟨b19, 2, none⟩))] (by kernel_rfl) ?_
  refine WL.boxStore 2 [.int .i64 a_0.Reserved] [.string (bs a_0.Name), .int .i64 a_0.OnHand, .int .i64 a_0.Reserved, .int .i64 0] (SH.front 0 hS36) hL38 rfl rfl rfl rfl rfl rfl rfl (info2).1 (info2).2.1 rfl rfl rfl ?_
  intro w40 hB41 hS42
  have hb43 : Ext w w40 := Below.trans hb37 hB41
  have hL44 : w.heap.size ≤ w40.heap.size := Nat.le_trans hL38 hB41.size
  refine WL.sub [(1, .pointer (some ⟨b2, 0, none⟩)), (2, .pointer (some ⟨b10, 0, none⟩)), (3, .pointer (some ⟨b19, 0, none⟩))] ⟨rfl, rfl, rfl, trivial⟩ ?_
  refine WL.nil ?_
  refine WQ.then_normal (hK39 _ _ _ ?_)
  refine WP.seq (fun K45 hK45 => ?_)
  refine WP.region ?_
  refine WL.runk 1 [2, 3, 13] [(2, .pointer (some ⟨b10, 0, none⟩)), (3, .pointer (some ⟨b19, 0, none⟩)), (13, .pointer (some ⟨b2, 3, none⟩))] (by kernel_rfl) ?_
  refine WL.st (.int .i64 a_0.Least) (ST.load (cell_ext (SH.boxAt (SH.front 2 hS42) 3 _ rfl)) rfl rfl Tryd.underlying2 rfl) rfl rfl rfl ?_
  refine WL.runk 1 [2, 3, 14, 15] [(2, .pointer (some ⟨b10, 0, none⟩)), (3, .pointer (some ⟨b19, 0, none⟩)), (14, .int .i64 a_0.Least), (15, .pointer (some ⟨b19, 3, none⟩))] (by kernel_rfl) ?_
  refine WL.boxStore 3 [.int .i64 a_0.Least] [.string (bs a_0.Name), .int .i64 a_0.OnHand, .int .i64 a_0.Reserved, .int .i64 a_0.Least] (SH.front 0 hS42) hL44 rfl rfl rfl rfl rfl rfl rfl (info2).1 (info2).2.1 rfl rfl rfl ?_
  intro w46 hB47 hS48
  have hb49 : Ext w w46 := Below.trans hb43 hB47
  have hL50 : w.heap.size ≤ w46.heap.size := Nat.le_trans hL44 hB47.size
  refine WL.sub [(2, .pointer (some ⟨b10, 0, none⟩)), (3, .pointer (some ⟨b19, 0, none⟩))] ⟨rfl, rfl, trivial⟩ ?_
  refine WL.nil ?_
  refine WQ.then_normal (hK45 _ _ _ ?_)
  refine WP.seq (fun K51 hK51 => ?_)
  refine WP.region ?_
  refine WL.st (.agg #[.string (bs a_0.Name), .int .i64 a_0.OnHand, .int .i64 a_0.Reserved, .int .i64 a_0.Least]) (ST.loadAgg (vs := [.string (bs a_0.Name), .int .i64 a_0.OnHand, .int .i64 a_0.Reserved, .int .i64 a_0.Least]) (fun j v hv => SH.boxPart (us := [.string (bs a_0.Name), .int .i64 a_0.OnHand, .int .i64 a_0.Reserved, .int .i64 a_0.Least]) (SH.front 0 hS48) 0 rfl j v hv) rfl rfl rfl Tryd.underlying26 rfl (info26).1 (info26).2.1) rfl rfl rfl ?_
  refine WL.boxStore 0 [.string (bs a_0.Name), .int .i64 a_0.OnHand, .int .i64 a_0.Reserved, .int .i64 a_0.Least] [.string (bs a_0.Name), .int .i64 a_0.OnHand, .int .i64 a_0.Reserved, .int .i64 a_0.Least] (SH.front 1 hS48) hL50 rfl rfl rfl rfl rfl rfl rfl (info26).1 (info26).2.1 rfl rfl rfl ?_
  intro w52 hB53 hS54
  have hb55 : Ext w w52 := Below.trans hb49 hB53
  have hL56 : w.heap.size ≤ w52.heap.size := Nat.le_trans hL50 hB53.size
  refine WL.sub [(2, .pointer (some ⟨b10, 0, none⟩))] ⟨rfl, trivial⟩ ?_
  refine WL.nil ?_
  refine WQ.then_normal (hK51 _ _ _ ?_)
  refine WP.ret ?_
  obtain rfl := Option.some.inj hm
  exact WQ.retv1 _ rfl (RVal.box (SH.front 0 hS54) rfl Tryd.underlying26 rfl (info26).1 (info26).2.1) ⟨rfl, hb55⟩

theorem c_25 (n : Nat) (s_0 : List UInt8) (w : World) {r : Bool} (hm : m_impl_IsName n s_0 = some r)  :
    CallV Tryd.prog 25 #[.string (bs s_0)] w (fun v w' => v = .bool r ∧ Ext w w') := by
  unfold m_impl_IsName at hm
  refine CallV.enter Tryd.func25 rfl (by kernel_rfl) Tryd.ntmps25 (env := [(0, .string (bs s_0))]) ⟨rfl, trivial⟩ ?_
  refine WP.seq (fun K1 hK1 => ?_)
  refine WP.region ?_
  refine WL.runk 1 [0] [(0, .string (bs s_0))] (by kernel_rfl) ?_
  refine WL.nil ?_
  refine WQ.then_normal (hK1 _ _ _ ?_)
  refine WP.seq (fun K2 hK2 => ?_)
  refine WP.seq (fun K3 hK3 => ?_)
  obtain ⟨x11, hx12, hm⟩ := bindE hm
  refine WP.cut (fun env' w' => env' = [(0, .string (bs s_0)), (21, .bool x11)] ∧ Ext w w' ∧ w.heap.size ≤ w'.heap.size ∧ SH w' w.heap.size []) ?_ ?_
  · have hm := hx12; clear hx12
    refine WP.region ?_
    refine WL.runk 4 [0, 7] [(0, .string (bs s_0)), (7, .bool (decide ((s_0.length : Int) < 1)))] (by kernel_rfl) ?_
    refine WL.case (decide ((s_0.length : Int) < 1)) [7] ⟨rfl, trivial⟩ (fun hc13 => ?_) (fun hc13 => ?_)
    · have hm := iteT hm hc13
      refine WL.runk 14 [0, 21] [(0, .string (bs s_0)), (21, .bool true)] (by kernel_rfl) ?_
      refine WL.nil ?_
      obtain rfl := Option.some.inj hm
      exact WQ.post' ⟨rfl, (Ext.refl w), (Nat.le_refl _), (SH.nil _ _)⟩ ⟨rfl, rfl, trivial⟩
    have hm := iteF hm hc13
    refine WL.runk 5 [0, 12] [(0, .string (bs s_0)), (12, .bool (decide ((s_0.length : Int) > 12)))] (by kernel_rfl) ?_
    refine WL.case (decide ((s_0.length : Int) > 12)) [12] ⟨rfl, trivial⟩ (fun hc14 => ?_) (fun hc14 => ?_)
    · have hm := iteT hm hc14
      refine WL.runk 9 [0, 21] [(0, .string (bs s_0)), (21, .bool true)] (by kernel_rfl) ?_
      refine WL.nil ?_
      obtain rfl := Option.some.inj hm
      exact WQ.post' ⟨rfl, (Ext.refl w), (Nat.le_refl _), (SH.nil _ _)⟩ ⟨rfl, rfl, trivial⟩
    have hm := iteF hm hc14
    refine WL.runk 1 [0, 12, 13] [(0, .string (bs s_0)), (12, .bool false), (13, .string (bs s_0))] (by kernel_rfl) ?_
    obtain ⟨x15, hx16, hm⟩ := bindE hm
    refine WL.st (.int .u8 (x15.toNat : Int)) (ST.sindex hx16 rfl rfl rfl Tryd.underlying9) rfl rfl rfl ?_
    refine WL.runk 3 [0, 17] [(0, .string (bs s_0)), (17, .bool (decide ((x15.toNat : Int) < 97)))] (by kernel_rfl) ?_
    refine WL.case (decide ((x15.toNat : Int) < 97)) [17] ⟨rfl, trivial⟩ (fun hc17 => ?_) (fun hc17 => ?_)
    · have hm := iteT hm hc17
      refine WL.runk 4 [0, 21] [(0, .string (bs s_0)), (21, .bool true)] (by kernel_rfl) ?_
      refine WL.nil ?_
      obtain rfl := Option.some.inj hm
      exact WQ.post' ⟨rfl, (Ext.refl w), (Nat.le_refl _), (SH.nil _ _)⟩ ⟨rfl, rfl, trivial⟩
    have hm := iteF hm hc17
    refine WL.runk 1 [0, 17, 18] [(0, .string (bs s_0)), (17, .bool false), (18, .string (bs s_0))] (by kernel_rfl) ?_
    obtain ⟨x18, hx19, hm⟩ := bindE hm
    refine WL.st (.int .u8 (x18.toNat : Int)) (ST.sindex hx19 rfl rfl rfl Tryd.underlying9) rfl rfl rfl ?_
    refine WL.runk 2 [0, 21] [(0, .string (bs s_0)), (21, .bool (decide ((x18.toNat : Int) > 122)))] (by kernel_rfl) ?_
    refine WL.nil ?_
    obtain rfl := Option.some.inj hm
    exact WQ.post' ⟨rfl, (Ext.refl w), (Nat.le_refl _), (SH.nil _ _)⟩ ⟨rfl, rfl, trivial⟩
  clear hx12
  rintro _ w20 ⟨rfl, hb21, hL22, hS23⟩
  refine WQ.then_normal (hK3 _ _ _ ?_)
  refine WP.cond x11 rfl rfl (fun hc24 => ?_) (fun hc24 => ?_)
  · have hm := iteT hm hc24
    refine WP.seq (fun K25 hK25 => ?_)
    refine WP.region ?_
    refine WL.runk 1 [2] [(2, .bool false)] (by kernel_rfl) ?_
    refine WL.nil ?_
    refine WQ.then_normal (hK25 _ _ _ ?_)
    refine WP.ret ?_
    refine WQ.then_ret ?_
    obtain rfl := Option.some.inj hm
    exact WQ.ret1 _ rfl rfl ⟨rfl, hb21⟩
  have hm := iteF hm hc24
  refine WP.skip ?_
  refine WQ.then_normal (hK2 _ _ _ ?_)
  refine WP.seq (fun K26 hK26 => ?_)
  refine WP.seq (fun K27 hK27 => ?_)
  refine WP.region ?_
  refine WL.runk 1 [0, 3] [(0, .string (bs s_0)), (3, .int .i64 1)] (by kernel_rfl) ?_
  refine WL.nil ?_
  refine WQ.then_normal (hK27 _ _ _ ?_)
  refine WP.block ?_
  obtain ⟨t39, ht40, hm⟩ := bindE hm
  have hmo34 := hm; clear hm
  refine WP.sub [(0, .string (bs s_0)), (3, .int .i64 1)] ⟨rfl, rfl, trivial⟩ ?_
  refine WP.loop (fun n' env' w' => ∃ (st28 : Int) , env' = [(0, .string (bs s_0)), (3, .int .i64 st28)] ∧ Ext w w' ∧ w.heap.size ≤ w'.heap.size ∧ SH w' w.heap.size [] ∧ loopN (m_impl_IsName_l1 n s_0) n' st28 = some t39) n ⟨1, rfl, hb21, hL22, hS23, ht40⟩ ?_
  rintro n36 _ w29 ⟨st28, rfl, hb30, hL31, hS32, hl33⟩ K35 hK35
  obtain ⟨n37, s38, rfl, hm, hl33⟩ := loopN_some hl33
  unfold m_impl_IsName_l1 at hm
  refine WP.seq (fun K41 hK41 => ?_)
  refine WP.seq (fun K42 hK42 => ?_)
  refine WP.region ?_
  refine WL.runk 4 [0, 3, 25] [(0, .string (bs s_0)), (3, .int .i64 st28), (25, .bool (decide (st28 < (s_0.length : Int))))] (by kernel_rfl) ?_
  refine WL.nil ?_
  refine WQ.then_normal (hK42 _ _ _ ?_)
  refine WP.cond (decide (st28 < (s_0.length : Int))) rfl rfl (fun hc43 => ?_) (fun hc43 => ?_)
  rotate_left
  · have hm := iteF hm hc43
    refine WP.exit ?_
    refine WQ.then_exit ?_
    refine WQ.then_exit ?_
    refine WQ.block_here ?_
    obtain rfl := Option.some.inj hm
    obtain rfl := afterN_done hl33
    have hm := hmo34
    refine WQ.then_normal (hK26 _ _ _ ?_)
    refine WP.seq (fun K106 hK106 => ?_)
    refine WP.region ?_
    refine WL.runk 1 [2] [(2, .bool true)] (by kernel_rfl) ?_
    refine WL.nil ?_
    refine WQ.then_normal (hK106 _ _ _ ?_)
    refine WP.ret ?_
    obtain rfl := Option.some.inj hm
    exact WQ.ret1 _ rfl rfl ⟨rfl, hb30⟩
  have hm := iteT hm hc43
  refine WP.skip ?_
  refine WQ.then_normal (hK41 _ _ _ ?_)
  refine WP.seq (fun K44 hK44 => ?_)
  refine WP.block ?_
  refine WP.seq (fun K45 hK45 => ?_)
  obtain ⟨x72, hx73, hm⟩ := bindE hm
  refine WP.cut (fun env' w' => env' = [(0, .string (bs s_0)), (3, .int .i64 st28), (55, .bool x72)] ∧ Ext w w' ∧ w.heap.size ≤ w'.heap.size ∧ SH w' w.heap.size []) ?_ ?_
  rotate_left
  · clear hx73
    rintro _ w100 ⟨rfl, hb101, hL102, hS103⟩
    refine WQ.then_normal (hK45 _ _ _ ?_)
    refine WP.cond x72 rfl rfl (fun hc104 => ?_) (fun hc104 => ?_)
    rotate_left
    · have hm := iteF hm hc104
      refine WP.skip ?_
      refine WQ.block_normal ?_
      refine WQ.then_normal (hK44 _ _ _ ?_)
      refine WP.region ?_
      refine WL.runk 3 [0, 3] [(0, .string (bs s_0)), (3, .int .i64 (wI64 (st28 + 1)))] (by kernel_rfl) ?_
      refine WL.nil ?_
      obtain rfl := Option.some.inj hm
      exact WQ.round hK35 ⟨(wI64 (st28 + 1)), rfl, hb101, hL102, hS103, hl33⟩ (Nat.lt_succ_self _) ⟨rfl, rfl, trivial⟩
    have hm := iteT hm hc104
    refine WP.seq (fun K105 hK105 => ?_)
    refine WP.region ?_
    refine WL.runk 1 [2] [(2, .bool false)] (by kernel_rfl) ?_
    refine WL.nil ?_
    refine WQ.then_normal (hK105 _ _ _ ?_)
    refine WP.ret ?_
    refine WQ.block_ret ?_
    refine WQ.then_ret ?_
    refine WQ.then_ret ?_
    refine WQ.block_ret ?_
    refine WQ.then_ret ?_
    obtain rfl := Option.some.inj hm
    obtain rfl := afterN_done hl33
    have hm := hmo34
    obtain rfl := Option.some.inj hm
    exact WQ.ret1 _ rfl rfl ⟨rfl, hb101⟩
  have hm := hx73; clear hx73
  refine WP.region ?_
  refine WL.runk 2 [0, 3, 28, 29] [(0, .string (bs s_0)), (3, .int .i64 st28), (28, .string (bs s_0)), (29, .int .i64 st28)] (by kernel_rfl) ?_
  obtain ⟨x74, hx75, hm⟩ := bindE hm
  refine WL.st (.int .u8 (x74.toNat : Int)) (ST.sindex hx75 rfl rfl rfl Tryd.underlying9) rfl rfl rfl ?_
  refine WL.runk 2 [0, 3, 32] [(0, .string (bs s_0)), (3, .int .i64 st28), (32, .bool (decide ((x74.toNat : Int) < 97)))] (by kernel_rfl) ?_
  refine WL.case (decide ((x74.toNat : Int) < 97)) [32] ⟨rfl, trivial⟩ (fun hc76 => ?_) (fun hc76 => ?_)
  · have hm := iteT hm hc76
    refine WL.runk 8 [0, 3, 38, 39, 40] [(0, .string (bs s_0)), (3, .int .i64 st28), (38, .bool true), (39, .string (bs s_0)), (40, .int .i64 st28)] (by kernel_rfl) ?_
    obtain ⟨x77, hx78, hm⟩ := bindE hm
    refine WL.st (.int .u8 (x77.toNat : Int)) (ST.sindex hx78 rfl rfl rfl Tryd.underlying9) rfl rfl rfl ?_
    refine WL.runk 2 [0, 3, 38, 43] [(0, .string (bs s_0)), (3, .int .i64 st28), (38, .bool true), (43, .bool (decide ((x77.toNat : Int) < 48)))] (by kernel_rfl) ?_
    refine WL.case (decide ((x77.toNat : Int) < 48)) [43] ⟨rfl, trivial⟩ (fun hc79 => ?_) (fun hc79 => ?_)
    · have hm := iteT hm hc79
      refine WL.runk 9 [0, 3, 50, 51, 52] [(0, .string (bs s_0)), (3, .int .i64 st28), (50, .bool true), (51, .string (bs s_0)), (52, .int .i64 st28)] (by kernel_rfl) ?_
      obtain ⟨x80, hx81, hm⟩ := bindE hm
      refine WL.st (.int .u8 (x80.toNat : Int)) (ST.sindex hx81 rfl rfl rfl Tryd.underlying9) rfl rfl rfl ?_
      refine WL.runk 2 [0, 3, 55] [(0, .string (bs s_0)), (3, .int .i64 st28), (55, .bool ((x80.toNat : Int) != 45))] (by kernel_rfl) ?_
      refine WL.nil ?_
      obtain rfl := Option.some.inj hm
      exact WQ.post' ⟨rfl, hb30, hL31, hS32⟩ ⟨rfl, rfl, rfl, trivial⟩
    have hm := iteF hm hc79
    refine WL.runk 2 [0, 3, 38, 43, 44, 45] [(0, .string (bs s_0)), (3, .int .i64 st28), (38, .bool true), (43, .bool false), (44, .string (bs s_0)), (45, .int .i64 st28)] (by kernel_rfl) ?_
    obtain ⟨x82, hx83, hm⟩ := bindE hm
    refine WL.st (.int .u8 (x82.toNat : Int)) (ST.sindex hx83 rfl rfl rfl Tryd.underlying9) rfl rfl rfl ?_
    refine WL.runk 4 [0, 3, 50] [(0, .string (bs s_0)), (3, .int .i64 st28), (50, .bool (decide ((x82.toNat : Int) > 57)))] (by kernel_rfl) ?_
    refine WL.case (decide ((x82.toNat : Int) > 57)) [50] ⟨rfl, trivial⟩ (fun hc84 => ?_) (fun hc84 => ?_)
    rotate_left
    · have hm := iteF hm hc84
      refine WL.runk 5 [0, 3, 55] [(0, .string (bs s_0)), (3, .int .i64 st28), (55, .bool false)] (by kernel_rfl) ?_
      refine WL.nil ?_
      obtain rfl := Option.some.inj hm
      exact WQ.post' ⟨rfl, hb30, hL31, hS32⟩ ⟨rfl, rfl, rfl, trivial⟩
    have hm := iteT hm hc84
    refine WL.runk 2 [0, 3, 50, 51, 52] [(0, .string (bs s_0)), (3, .int .i64 st28), (50, .bool true), (51, .string (bs s_0)), (52, .int .i64 st28)] (by kernel_rfl) ?_
    obtain ⟨x85, hx86, hm⟩ := bindE hm
    refine WL.st (.int .u8 (x85.toNat : Int)) (ST.sindex hx86 rfl rfl rfl Tryd.underlying9) rfl rfl rfl ?_
    refine WL.runk 2 [0, 3, 55] [(0, .string (bs s_0)), (3, .int .i64 st28), (55, .bool ((x85.toNat : Int) != 45))] (by kernel_rfl) ?_
    refine WL.nil ?_
    obtain rfl := Option.some.inj hm
    exact WQ.post' ⟨rfl, hb30, hL31, hS32⟩ ⟨rfl, rfl, rfl, trivial⟩
  have hm := iteF hm hc76
  refine WL.runk 2 [0, 3, 32, 33, 34] [(0, .string (bs s_0)), (3, .int .i64 st28), (32, .bool false), (33, .string (bs s_0)), (34, .int .i64 st28)] (by kernel_rfl) ?_
  obtain ⟨x87, hx88, hm⟩ := bindE hm
  refine WL.st (.int .u8 (x87.toNat : Int)) (ST.sindex hx88 rfl rfl rfl Tryd.underlying9) rfl rfl rfl ?_
  refine WL.runk 3 [0, 3, 38] [(0, .string (bs s_0)), (3, .int .i64 st28), (38, .bool (decide ((x87.toNat : Int) > 122)))] (by kernel_rfl) ?_
  refine WL.case (decide ((x87.toNat : Int) > 122)) [38] ⟨rfl, trivial⟩ (fun hc89 => ?_) (fun hc89 => ?_)
  rotate_left
  · have hm := iteF hm hc89
    refine WL.runk 17 [0, 3, 55] [(0, .string (bs s_0)), (3, .int .i64 st28), (55, .bool false)] (by kernel_rfl) ?_
    refine WL.nil ?_
    obtain rfl := Option.some.inj hm
    exact WQ.post' ⟨rfl, hb30, hL31, hS32⟩ ⟨rfl, rfl, rfl, trivial⟩
  have hm := iteT hm hc89
  refine WL.runk 2 [0, 3, 38, 39, 40] [(0, .string (bs s_0)), (3, .int .i64 st28), (38, .bool true), (39, .string (bs s_0)), (40, .int .i64 st28)] (by kernel_rfl) ?_
  obtain ⟨x90, hx91, hm⟩ := bindE hm
  refine WL.st (.int .u8 (x90.toNat : Int)) (ST.sindex hx91 rfl rfl rfl Tryd.underlying9) rfl rfl rfl ?_
  refine WL.runk 2 [0, 3, 38, 43] [(0, .string (bs s_0)), (3, .int .i64 st28), (38, .bool true), (43, .bool (decide ((x90.toNat : Int) < 48)))] (by kernel_rfl) ?_
  refine WL.case (decide ((x90.toNat : Int) < 48)) [43] ⟨rfl, trivial⟩ (fun hc92 => ?_) (fun hc92 => ?_)
  · have hm := iteT hm hc92
    refine WL.runk 9 [0, 3, 50, 51, 52] [(0, .string (bs s_0)), (3, .int .i64 st28), (50, .bool true), (51, .string (bs s_0)), (52, .int .i64 st28)] (by kernel_rfl) ?_
    obtain ⟨x93, hx94, hm⟩ := bindE hm
    refine WL.st (.int .u8 (x93.toNat : Int)) (ST.sindex hx94 rfl rfl rfl Tryd.underlying9) rfl rfl rfl ?_
    refine WL.runk 2 [0, 3, 55] [(0, .string (bs s_0)), (3, .int .i64 st28), (55, .bool ((x93.toNat : Int) != 45))] (by kernel_rfl) ?_
    refine WL.nil ?_
    obtain rfl := Option.some.inj hm
    exact WQ.post' ⟨rfl, hb30, hL31, hS32⟩ ⟨rfl, rfl, rfl, trivial⟩
  have hm := iteF hm hc92
  refine WL.runk 2 [0, 3, 38, 43, 44, 45] [(0, .string (bs s_0)), (3, .int .i64 st28), (38, .bool true), (43, .bool false), (44, .string (bs s_0)), (45, .int .i64 st28)] (by kernel_rfl) ?_
  obtain ⟨x95, hx96, hm⟩ := bindE hm
  refine WL.st (.int .u8 (x95.toNat : Int)) (ST.sindex hx96 rfl rfl rfl Tryd.underlying9) rfl rfl rfl ?_
  refine WL.runk 4 [0, 3, 50] [(0, .string (bs s_0)), (3, .int .i64 st28), (50, .bool (decide ((x95.toNat : Int) > 57)))] (by kernel_rfl) ?_
  refine WL.case (decide ((x95.toNat : Int) > 57)) [50] ⟨rfl, trivial⟩ (fun hc97 => ?_) (fun hc97 => ?_)
  rotate_left
  · have hm := iteF hm hc97
    refine WL.runk 5 [0, 3, 55] [(0, .string (bs s_0)), (3, .int .i64 st28), (55, .bool false)] (by kernel_rfl) ?_
    refine WL.nil ?_
    obtain rfl := Option.some.inj hm
    exact WQ.post' ⟨rfl, hb30, hL31, hS32⟩ ⟨rfl, rfl, rfl, trivial⟩
  have hm := iteT hm hc97
  refine WL.runk 2 [0, 3, 50, 51, 52] [(0, .string (bs s_0)), (3, .int .i64 st28), (50, .bool true), (51, .string (bs s_0)), (52, .int .i64 st28)] (by kernel_rfl) ?_
  obtain ⟨x98, hx99, hm⟩ := bindE hm
  refine WL.st (.int .u8 (x98.toNat : Int)) (ST.sindex hx99 rfl rfl rfl Tryd.underlying9) rfl rfl rfl ?_
  refine WL.runk 2 [0, 3, 55] [(0, .string (bs s_0)), (3, .int .i64 st28), (55, .bool ((x98.toNat : Int) != 45))] (by kernel_rfl) ?_
  refine WL.nil ?_
  obtain rfl := Option.some.inj hm
  exact WQ.post' ⟨rfl, hb30, hL31, hS32⟩ ⟨rfl, rfl, rfl, trivial⟩

theorem c_26 (n : Nat) (n_0 : Int) (low_1 : Int) (high_2 : Int) (w : World) {r : Bool} (hm : m_impl_within n n_0 low_1 high_2 = some r)  :
    CallV Tryd.prog 26 #[.int .i64 n_0, .int .i64 low_1, .int .i64 high_2] w (fun v w' => v = .bool r ∧ Ext w w') := by
  unfold m_impl_within at hm
  refine CallV.enter Tryd.func26 rfl (by kernel_rfl) Tryd.ntmps26 (env := [(0, .int .i64 n_0), (1, .int .i64 low_1), (2, .int .i64 high_2)]) ⟨rfl, rfl, rfl, trivial⟩ ?_
  refine WP.seq (fun K1 hK1 => ?_)
  refine WP.region ?_
  refine WL.runk 1 [0, 1, 2] [(0, .int .i64 n_0), (1, .int .i64 low_1), (2, .int .i64 high_2)] (by kernel_rfl) ?_
  refine WL.nil ?_
  refine WQ.then_normal (hK1 _ _ _ ?_)
  refine WP.seq (fun K2 hK2 => ?_)
  obtain ⟨x4, hx5, hm⟩ := bindE hm
  refine WP.cut (fun env' w' => env' = [(6, .bool x4)] ∧ Ext w w' ∧ w.heap.size ≤ w'.heap.size ∧ SH w' w.heap.size []) ?_ ?_
  rotate_left
  · clear hx5
    rintro _ w7 ⟨rfl, hb8, hL9, hS10⟩
    refine WQ.then_normal (hK2 _ _ _ ?_)
    refine WP.ret ?_
    obtain rfl := Option.some.inj hm
    exact WQ.ret1 _ rfl rfl ⟨rfl, hb8⟩
  have hm := hx5; clear hx5
  refine WP.region ?_
  refine WL.runk 4 [0, 2, 10] [(0, .int .i64 n_0), (2, .int .i64 high_2), (10, .bool (decide (n_0 ≥ low_1)))] (by kernel_rfl) ?_
  refine WL.case (decide (n_0 ≥ low_1)) [10] ⟨rfl, trivial⟩ (fun hc6 => ?_) (fun hc6 => ?_)
  · have hm := iteT hm hc6
    refine WL.runk 5 [6] [(6, .bool (decide (n_0 ≤ high_2)))] (by kernel_rfl) ?_
    refine WL.nil ?_
    obtain rfl := Option.some.inj hm
    exact WQ.post' ⟨rfl, (Ext.refl w), (Nat.le_refl _), (SH.nil _ _)⟩ ⟨rfl, trivial⟩
  have hm := iteF hm hc6
  refine WL.runk 5 [6] [(6, .bool false)] (by kernel_rfl) ?_
  refine WL.nil ?_
  obtain rfl := Option.some.inj hm
  exact WQ.post' ⟨rfl, (Ext.refl w), (Nat.le_refl _), (SH.nil _ _)⟩ ⟨rfl, trivial⟩

theorem c_14 (n : Nat) (g_0 : SGood) (w : World) {r : Bool} (hm : m_impl_validGood n g_0 = some r)  :
    CallV Tryd.prog 14 #[.agg #[.string (bs g_0.Name), .int .i64 g_0.OnHand, .int .i64 g_0.Reserved, .int .i64 g_0.Least]] w (fun v w' => v = .bool r ∧ Ext w w') := by
  unfold m_impl_validGood at hm
  refine CallV.enter Tryd.func14 rfl (by kernel_rfl) Tryd.ntmps14 (env := [(0, .agg #[.string (bs g_0.Name), .int .i64 g_0.OnHand, .int .i64 g_0.Reserved, .int .i64 g_0.Least])]) ⟨rfl, trivial⟩ ?_
  refine WP.seq (fun K1 hK1 => ?_)
  refine WP.region ?_
  refine WL.box 26 [.string (bs g_0.Name), .int .i64 g_0.OnHand, .int .i64 g_0.Reserved, .int .i64 g_0.Least] 1 (by kernel_rfl) rfl rfl rfl rfl ?_
  intro b2 w3 hE4 hR5
  have hb7 : Ext w w3 := Ext.trans (Ext.refl w) hE4
  have hL8 : w.heap.size ≤ w3.heap.size := Nat.le_trans (Nat.le_refl _) hE4.size
  have hS9 : SH w3 w.heap.size [aBox 26 b2 [.string (bs g_0.Name), .int .i64 g_0.OnHand, .int .i64 g_0.Reserved, .int .i64 g_0.Least]] := SH.add (SH.nil _ _) hE4 (Nat.le_refl _) hR5
  refine WL.runk 1 [1] [(1, .pointer (some ⟨b2, 0, none⟩))] (by kernel_rfl) ?_
  refine WL.nil ?_
  refine WQ.then_normal (hK1 _ _ _ ?_)
  refine WP.seq (fun K10 hK10 => ?_)
  obtain ⟨x46, hx47, hm⟩ := bindE hm
  refine WP.cut (fun env' w' => env' = [(2, .bool x46)] ∧ Ext w w' ∧ w.heap.size ≤ w'.heap.size ∧ SH w' w.heap.size [aBox 26 b2 [.string (bs g_0.Name), .int .i64 g_0.OnHand, .int .i64 g_0.Reserved, .int .i64 g_0.Least]]) ?_ ?_
  rotate_left
  · clear hx47
    rintro _ w83 ⟨rfl, hb84, hL85, hS86⟩
    refine WQ.then_normal (hK10 _ _ _ ?_)
    refine WP.ret ?_
    obtain rfl := Option.some.inj hm
    exact WQ.ret1 _ rfl rfl ⟨rfl, hb84⟩
  have hm := hx47; clear hx47
  refine WP.region ?_
  refine WL.runk 1 [1, 3] [(1, .pointer (some ⟨b2, 0, none⟩)), (3, .pointer (some ⟨b2, 0, none⟩))] (by kernel_rfl) ?_
  refine WL.st (.string (bs g_0.Name)) (ST.load (cell_ext (SH.boxAt (SH.front 0 hS9) 0 _ rfl)) rfl rfl Tryd.underlying9 rfl) rfl rfl rfl ?_
  obtain ⟨x48, hx49, hm⟩ := bindE hm
  refine WL.call 25 #[.string (bs g_0.Name)] rfl rfl (by kernel_rfl) (c_25 n g_0.Name w3 hx49 ) ?_
  rintro _ w50 ⟨rfl, hE51⟩
  refine ⟨_, rfl, ?_⟩
  have hb53 : Ext w w50 := Ext.trans hb7 hE51
  have hL54 : w.heap.size ≤ w50.heap.size := Nat.le_trans hL8 hE51.size
  have hS55 : SH w50 w.heap.size [aBox 26 b2 [.string (bs g_0.Name), .int .i64 g_0.OnHand, .int .i64 g_0.Reserved, .int .i64 g_0.Least]] := SH.ext hS9 hE51
  refine WL.runk 1 [1, 6] [(1, .pointer (some ⟨b2, 0, none⟩)), (6, .bool x48)] (by kernel_rfl) ?_
  refine WL.case x48 [6] ⟨rfl, trivial⟩ (fun hc56 => ?_) (fun hc56 => ?_)
  rotate_left
  · have hm := iteF hm hc56
    refine WL.runk 17 [2] [(2, .bool false)] (by kernel_rfl) ?_
    refine WL.nil ?_
    obtain rfl := Option.some.inj hm
    exact WQ.post' ⟨rfl, hb53, hL54, hS55⟩ ⟨rfl, trivial⟩
  have hm := iteT hm hc56
  refine WL.runk 1 [1, 6, 7] [(1, .pointer (some ⟨b2, 0, none⟩)), (6, .bool true), (7, .pointer (some ⟨b2, 1, none⟩))] (by kernel_rfl) ?_
  refine WL.st (.int .i64 g_0.OnHand) (ST.load (cell_ext (SH.boxAt (SH.front 0 hS55) 1 _ rfl)) rfl rfl Tryd.underlying2 rfl) rfl rfl rfl ?_
  obtain ⟨x57, hx58, hm⟩ := bindE hm
  refine WL.call 26 #[.int .i64 g_0.OnHand, .int .i64 0, .int .i64 1000000] rfl rfl (by kernel_rfl) (c_26 n g_0.OnHand 0 1000000 w50 hx58 ) ?_
  rintro _ w59 ⟨rfl, hE60⟩
  refine ⟨_, rfl, ?_⟩
  have hb62 : Ext w w59 := Ext.trans hb53 hE60
  have hL63 : w.heap.size ≤ w59.heap.size := Nat.le_trans hL54 hE60.size
  have hS64 : SH w59 w.heap.size [aBox 26 b2 [.string (bs g_0.Name), .int .i64 g_0.OnHand, .int .i64 g_0.Reserved, .int .i64 g_0.Least]] := SH.ext hS55 hE60
  refine WL.runk 2 [1, 11] [(1, .pointer (some ⟨b2, 0, none⟩)), (11, .bool x57)] (by kernel_rfl) ?_
  refine WL.case x57 [11] ⟨rfl, trivial⟩ (fun hc65 => ?_) (fun hc65 => ?_)
  rotate_left
  · have hm := iteF hm hc65
    refine WL.runk 12 [2] [(2, .bool false)] (by kernel_rfl) ?_
    refine WL.nil ?_
    obtain rfl := Option.some.inj hm
    exact WQ.post' ⟨rfl, hb62, hL63, hS64⟩ ⟨rfl, trivial⟩
  have hm := iteT hm hc65
  refine WL.runk 1 [1, 11, 12] [(1, .pointer (some ⟨b2, 0, none⟩)), (11, .bool true), (12, .pointer (some ⟨b2, 2, none⟩))] (by kernel_rfl) ?_
  refine WL.st (.int .i64 g_0.Reserved) (ST.load (cell_ext (SH.boxAt (SH.front 0 hS64) 2 _ rfl)) rfl rfl Tryd.underlying2 rfl) rfl rfl rfl ?_
  refine WL.runk 1 [1, 11, 13, 14] [(1, .pointer (some ⟨b2, 0, none⟩)), (11, .bool true), (13, .int .i64 g_0.Reserved), (14, .pointer (some ⟨b2, 1, none⟩))] (by kernel_rfl) ?_
  refine WL.st (.int .i64 g_0.OnHand) (ST.load (cell_ext (SH.boxAt (SH.front 0 hS64) 1 _ rfl)) rfl rfl Tryd.underlying2 rfl) rfl rfl rfl ?_
  obtain ⟨x66, hx67, hm⟩ := bindE hm
  refine WL.call 26 #[.int .i64 g_0.Reserved, .int .i64 0, .int .i64 g_0.OnHand] rfl rfl (by kernel_rfl) (c_26 n g_0.Reserved 0 g_0.OnHand w59 hx67 ) ?_
  rintro _ w68 ⟨rfl, hE69⟩
  refine ⟨_, rfl, ?_⟩
  have hb71 : Ext w w68 := Ext.trans hb62 hE69
  have hL72 : w.heap.size ≤ w68.heap.size := Nat.le_trans hL63 hE69.size
  have hS73 : SH w68 w.heap.size [aBox 26 b2 [.string (bs g_0.Name), .int .i64 g_0.OnHand, .int .i64 g_0.Reserved, .int .i64 g_0.Least]] := SH.ext hS64 hE69
  refine WL.runk 2 [1, 18] [(1, .pointer (some ⟨b2, 0, none⟩)), (18, .bool x66)] (by kernel_rfl) ?_
  refine WL.case x66 [18] ⟨rfl, trivial⟩ (fun hc74 => ?_) (fun hc74 => ?_)
  rotate_left
  · have hm := iteF hm hc74
    refine WL.runk 5 [2] [(2, .bool false)] (by kernel_rfl) ?_
    refine WL.nil ?_
    obtain rfl := Option.some.inj hm
    exact WQ.post' ⟨rfl, hb71, hL72, hS73⟩ ⟨rfl, trivial⟩
  have hm := iteT hm hc74
  refine WL.runk 1 [18, 19] [(18, .bool true), (19, .pointer (some ⟨b2, 3, none⟩))] (by kernel_rfl) ?_
  refine WL.st (.int .i64 g_0.Least) (ST.load (cell_ext (SH.boxAt (SH.front 0 hS73) 3 _ rfl)) rfl rfl Tryd.underlying2 rfl) rfl rfl rfl ?_
  obtain ⟨x75, hx76, hm⟩ := bindE hm
  refine WL.call 26 #[.int .i64 g_0.Least, .int .i64 0, .int .i64 1000000] rfl rfl (by kernel_rfl) (c_26 n g_0.Least 0 1000000 w68 hx76 ) ?_
  rintro _ w77 ⟨rfl, hE78⟩
  refine ⟨_, rfl, ?_⟩
  have hb80 : Ext w w77 := Ext.trans hb71 hE78
  have hL81 : w.heap.size ≤ w77.heap.size := Nat.le_trans hL72 hE78.size
  have hS82 : SH w77 w.heap.size [aBox 26 b2 [.string (bs g_0.Name), .int .i64 g_0.OnHand, .int .i64 g_0.Reserved, .int .i64 g_0.Least]] := SH.ext hS73 hE78
  refine WL.runk 2 [2] [(2, .bool x75)] (by kernel_rfl) ?_
  refine WL.nil ?_
  obtain rfl := Option.some.inj hm
  exact WQ.post' ⟨rfl, hb80, hL81, hS82⟩ ⟨rfl, trivial⟩

theorem c_15 (n : Nat) (n_0 : Int) (w : World) {r : List UInt8} (hm : m_impl_Decimal n n_0 = some r) (hG : GL 2 w) :
    CallV Tryd.prog 15 #[.int .i64 n_0] w (fun v w' => v = .string (bs r) ∧ Ext w w') := by
  unfold m_impl_Decimal at hm
  refine CallV.enter Tryd.func15 rfl (by kernel_rfl) Tryd.ntmps15 (env := [(0, .int .i64 n_0)]) ⟨rfl, trivial⟩ ?_
  refine WP.seq (fun K1 hK1 => ?_)
  refine WP.region ?_
  refine WL.runk 1 [0] [(0, .int .i64 n_0)] (by kernel_rfl) ?_
  refine WL.nil ?_
  refine WQ.then_normal (hK1 _ _ _ ?_)
  refine WP.seq (fun K2 hK2 => ?_)
  refine WP.region ?_
  refine WL.runk 1 [3] [(3, .int .i64 n_0)] (by kernel_rfl) ?_
  obtain ⟨x3, hx4, hm⟩ := bindE hm
  refine WL.call 27 #[.int .i64 n_0, .int .i64 10] rfl rfl (by kernel_rfl) (c_27 n n_0 10 w hx4 (GL.below hG (Ext.refl w))) ?_
  rintro _ w5 ⟨rfl, hE6⟩
  refine ⟨_, rfl, ?_⟩
  have hb8 : Ext w w5 := Ext.trans (Ext.refl w) hE6
  have hL9 : w.heap.size ≤ w5.heap.size := Nat.le_trans (Nat.le_refl _) hE6.size
  have hS10 : SH w5 w.heap.size [] := SH.ext (SH.nil _ _) hE6
  refine WL.runk 1 [2] [(2, .string (bs x3))] (by kernel_rfl) ?_
  refine WL.nil ?_
  refine WQ.then_normal (hK2 _ _ _ ?_)
  refine WP.ret ?_
  obtain rfl := Option.some.inj hm
  exact WQ.ret1 _ rfl rfl ⟨rfl, hb8⟩

theorem c_8 (n : Nat) (g_0 : SGood) (w : World) {r : List UInt8} (hm : m_impl_GoodText n g_0 = some r) (hG : GL 2 w) :
    CallV Tryd.prog 8 #[.agg #[.string (bs g_0.Name), .int .i64 g_0.OnHand, .int .i64 g_0.Reserved, .int .i64 g_0.Least]] w (fun v w' => v = .string (bs r) ∧ Ext w w') := by
  unfold m_impl_GoodText at hm
  refine CallV.enter Tryd.func8 rfl (by kernel_rfl) Tryd.ntmps8 (env := [(0, .agg #[.string (bs g_0.Name), .int .i64 g_0.OnHand, .int .i64 g_0.Reserved, .int .i64 g_0.Least])]) ⟨rfl, trivial⟩ ?_
  refine WP.seq (fun K1 hK1 => ?_)
  refine WP.region ?_
  refine WL.box 26 [.string (bs g_0.Name), .int .i64 g_0.OnHand, .int .i64 g_0.Reserved, .int .i64 g_0.Least] 1 (by kernel_rfl) rfl rfl rfl rfl ?_
  intro b2 w3 hE4 hR5
  have hb7 : Ext w w3 := Ext.trans (Ext.refl w) hE4
  have hL8 : w.heap.size ≤ w3.heap.size := Nat.le_trans (Nat.le_refl _) hE4.size
  have hS9 : SH w3 w.heap.size [aBox 26 b2 [.string (bs g_0.Name), .int .i64 g_0.OnHand, .int .i64 g_0.Reserved, .int .i64 g_0.Least]] := SH.add (SH.nil _ _) hE4 (Nat.le_refl _) hR5
  refine WL.runk 1 [1] [(1, .pointer (some ⟨b2, 0, none⟩))] (by kernel_rfl) ?_
  refine WL.nil ?_
  refine WQ.then_normal (hK1 _ _ _ ?_)
  refine WP.seq (fun K10 hK10 => ?_)
  refine WP.seq (fun K11 hK11 => ?_)
  refine WP.region ?_
  refine WL.st (.agg #[.string (bs g_0.Name), .int .i64 g_0.OnHand, .int .i64 g_0.Reserved, .int .i64 g_0.Least]) (ST.loadAgg (vs := [.string (bs g_0.Name), .int .i64 g_0.OnHand, .int .i64 g_0.Reserved, .int .i64 g_0.Least]) (fun j v hv => SH.boxPart (us := [.string (bs g_0.Name), .int .i64 g_0.OnHand, .int .i64 g_0.Reserved, .int .i64 g_0.Least]) (SH.front 0 hS9) 0 rfl j v hv) rfl rfl rfl Tryd.underlying26 rfl (info26).1 (info26).2.1) rfl rfl rfl ?_
  obtain ⟨x12, hx13, hm⟩ := bindE hm
  refine WL.call 14 #[.agg #[.string (bs g_0.Name), .int .i64 g_0.OnHand, .int .i64 g_0.Reserved, .int .i64 g_0.Least]] rfl rfl (by kernel_rfl) (c_14 n g_0 w3 hx13 ) ?_
  rintro _ w14 ⟨rfl, hE15⟩
  refine ⟨_, rfl, ?_⟩
  have hb17 : Ext w w14 := Ext.trans hb7 hE15
  have hL18 : w.heap.size ≤ w14.heap.size := Nat.le_trans hL8 hE15.size
  have hS19 : SH w14 w.heap.size [aBox 26 b2 [.string (bs g_0.Name), .int .i64 g_0.OnHand, .int .i64 g_0.Reserved, .int .i64 g_0.Least]] := SH.ext hS9 hE15
  refine WL.runk 1 [1, 5] [(1, .pointer (some ⟨b2, 0, none⟩)), (5, .bool (!x12))] (by kernel_rfl) ?_
  refine WL.nil ?_
  refine WQ.then_normal (hK11 _ _ _ ?_)
  refine WP.cond (!x12) rfl rfl (fun hc20 => ?_) (fun hc20 => ?_)
  · have hm := iteT hm hc20
    refine WP.seq (fun K21 hK21 => ?_)
    refine WP.region ?_
    refine WL.runk 1 [2] [(2, .string (bs []))] (by kernel_rfl) ?_
    refine WL.nil ?_
    refine WQ.then_normal (hK21 _ _ _ ?_)
    refine WP.ret ?_
    refine WQ.then_ret ?_
    obtain rfl := Option.some.inj hm
    exact WQ.ret1 _ rfl rfl ⟨rfl, hb17⟩
  have hm := iteF hm hc20
  refine WP.skip ?_
  refine WQ.then_normal (hK10 _ _ _ ?_)
  refine WP.seq (fun K22 hK22 => ?_)
  refine WP.quiet (by kernel_rfl) (by kernel_rfl) ?_
  refine QL.step1v 6 (.pointer (some ⟨b2, 0, none⟩)) rfl (fun _ => by kernel_rfl) ?_
  refine QL.subk [1, 6] [(1, .pointer (some ⟨b2, 0, none⟩)), (6, .pointer (some ⟨b2, 0, none⟩))] (by kernel_rfl) ?_
  refine QL.st (.string (bs g_0.Name)) (ST.load (cell_ext (SH.boxAt (SH.front 0 hS19) 0 _ rfl)) rfl rfl Tryd.underlying9 rfl) rfl rfl rfl ?_
  obtain ⟨x23, hx24, hm⟩ := bindE hm
  refine QL.st (.string (bs x23)) (ST.cat hx24 rfl rfl rfl) rfl rfl rfl ?_
  refine QL.step1v 9 (.pointer (some ⟨b2, 1, none⟩)) rfl (fun _ => by kernel_rfl) ?_
  refine QL.subk [1, 8, 9] [(1, .pointer (some ⟨b2, 0, none⟩)), (8, .string (bs x23)), (9, .pointer (some ⟨b2, 1, none⟩))] (by kernel_rfl) ?_
  refine QL.st (.int .i64 g_0.OnHand) (ST.load (cell_ext (SH.boxAt (SH.front 0 hS19) 1 _ rfl)) rfl rfl Tryd.underlying2 rfl) rfl rfl rfl ?_
  obtain ⟨x25, hx26, hm⟩ := bindE hm
  refine QL.call 15 #[.int .i64 g_0.OnHand] (.string (bs x25)) (fun _ => by kernel_rfl) (fun w27 hE28 => c_15 n g_0.OnHand w27 hx26 (GL.below (GL.below hG hb17) hE28)) rfl rfl rfl ?_
  obtain ⟨x29, hx30, hm⟩ := bindE hm
  refine QL.st (.string (bs x29)) (ST.cat hx30 rfl rfl rfl) rfl rfl rfl ?_
  obtain ⟨x31, hx32, hm⟩ := bindE hm
  refine QL.st (.string (bs x31)) (ST.cat hx32 rfl rfl rfl) rfl rfl rfl ?_
  refine QL.step1v 14 (.pointer (some ⟨b2, 2, none⟩)) rfl (fun _ => by kernel_rfl) ?_
  refine QL.subk [1, 13, 14] [(1, .pointer (some ⟨b2, 0, none⟩)), (13, .string (bs x31)), (14, .pointer (some ⟨b2, 2, none⟩))] (by kernel_rfl) ?_
  refine QL.st (.int .i64 g_0.Reserved) (ST.load (cell_ext (SH.boxAt (SH.front 0 hS19) 2 _ rfl)) rfl rfl Tryd.underlying2 rfl) rfl rfl rfl ?_
  obtain ⟨x33, hx34, hm⟩ := bindE hm
  refine QL.call 15 #[.int .i64 g_0.Reserved] (.string (bs x33)) (fun _ => by kernel_rfl) (fun w35 hE36 => c_15 n g_0.Reserved w35 hx34 (GL.below (GL.below hG hb17) hE36)) rfl rfl rfl ?_
  obtain ⟨x37, hx38, hm⟩ := bindE hm
  refine QL.st (.string (bs x37)) (ST.cat hx38 rfl rfl rfl) rfl rfl rfl ?_
  obtain ⟨x39, hx40, hm⟩ := bindE hm
  refine QL.st (.string (bs x39)) (ST.cat hx40 rfl rfl rfl) rfl rfl rfl ?_
  refine QL.step1v 19 (.pointer (some ⟨b2, 3, none⟩)) rfl (fun _ => by kernel_rfl) ?_
  refine QL.subk [18, 19] [(18, .string (bs x39)), (19, .pointer (some ⟨b2, 3, none⟩))] (by kernel_rfl) ?_
  refine QL.st (.int .i64 g_0.Least) (ST.load (cell_ext (SH.boxAt (SH.front 0 hS19) 3 _ rfl)) rfl rfl Tryd.underlying2 rfl) rfl rfl rfl ?_
  obtain ⟨x41, hx42, hm⟩ := bindE hm
  refine QL.call 15 #[.int .i64 g_0.Least] (.string (bs x41)) (fun _ => by kernel_rfl) (fun w43 hE44 => c_15 n g_0.Least w43 hx42 (GL.below (GL.below hG hb17) hE44)) rfl rfl rfl ?_
  obtain ⟨x45, hx46, hm⟩ := bindE hm
  refine QL.st (.string (bs x45)) (ST.cat hx46 rfl rfl rfl) rfl rfl rfl ?_
  refine QL.step1v 2 (.string (bs x45)) rfl (fun _ => by kernel_rfl) ?_
  refine QL.subk [2] [(2, .string (bs x45))] (by kernel_rfl) ?_
  refine QL.nil ?_
  intro w47 hE48
  have hb49 : Ext w w47 := Ext.trans hb17 hE48
  have hL50 : w.heap.size ≤ w47.heap.size := Nat.le_trans hL18 hE48.size
  have hS51 : SH w47 w.heap.size [aBox 26 b2 [.string (bs g_0.Name), .int .i64 g_0.OnHand, .int .i64 g_0.Reserved, .int .i64 g_0.Least]] := SH.ext hS19 hE48
  refine WQ.then_normal (hK22 _ _ _ ?_)
  refine WP.ret ?_
  obtain rfl := Option.some.inj hm
  exact WQ.ret1 _ rfl rfl ⟨rfl, hb49⟩

theorem c_3 (n : Nat) (aG_0 : SGood) (w : World) {r : Bool} (hm : m_laws_FnExactGoodText n aG_0 = some r) (hG : GL 2 w) :
    CallV Tryd.prog 3 #[.agg #[.string (bs aG_0.Name), .int .i64 aG_0.OnHand, .int .i64 aG_0.Reserved, .int .i64 aG_0.Least]] w (fun v w' => v = .bool r ∧ Ext w w') := by
  unfold m_laws_FnExactGoodText at hm
  refine CallV.enter Tryd.func3 rfl (by kernel_rfl) Tryd.ntmps3 (env := [(0, .agg #[.string (bs aG_0.Name), .int .i64 aG_0.OnHand, .int .i64 aG_0.Reserved, .int .i64 aG_0.Least])]) ⟨rfl, trivial⟩ ?_
  refine WP.seq (fun K1 hK1 => ?_)
  refine WP.region ?_
  refine WL.box 23 [.string (bs aG_0.Name), .int .i64 aG_0.OnHand, .int .i64 aG_0.Reserved, .int .i64 aG_0.Least] 1 (by kernel_rfl) rfl rfl rfl rfl ?_
  intro b2 w3 hE4 hR5
  have hb7 : Ext w w3 := Ext.trans (Ext.refl w) hE4
  have hL8 : w.heap.size ≤ w3.heap.size := Nat.le_trans (Nat.le_refl _) hE4.size
  have hS9 : SH w3 w.heap.size [aBox 23 b2 [.string (bs aG_0.Name), .int .i64 aG_0.OnHand, .int .i64 aG_0.Reserved, .int .i64 aG_0.Least]] := SH.add (SH.nil _ _) hE4 (Nat.le_refl _) hR5
  refine WL.runk 1 [1] [(1, .pointer (some ⟨b2, 0, none⟩))] (by kernel_rfl) ?_
  refine WL.nil ?_
  refine WQ.then_normal (hK1 _ _ _ ?_)
  refine WP.seq (fun K10 hK10 => ?_)
  refine WP.region ?_
  refine WL.runk 1 [1, 3] [(1, .pointer (some ⟨b2, 0, none⟩)), (3, .int .i64 1048576)] (by kernel_rfl) ?_
  refine WL.nil ?_
  refine WQ.then_normal (hK10 _ _ _ ?_)
  refine WP.seq (fun K11 hK11 => ?_)
  refine WP.region ?_
  refine WL.st (.agg #[.string (bs aG_0.Name), .int .i64 aG_0.OnHand, .int .i64 aG_0.Reserved, .int .i64 aG_0.Least]) (ST.loadAgg (vs := [.string (bs aG_0.Name), .int .i64 aG_0.OnHand, .int .i64 aG_0.Reserved, .int .i64 aG_0.Least]) (fun j v hv => SH.boxPart (us := [.string (bs aG_0.Name), .int .i64 aG_0.OnHand, .int .i64 aG_0.Reserved, .int .i64 aG_0.Least]) (SH.front 0 hS9) 0 rfl j v hv) rfl rfl rfl Tryd.underlying23 rfl (info23).1 (info23).2.1) rfl rfl rfl ?_
  refine WL.runk 1 [1, 6, 7] [(1, .pointer (some ⟨b2, 0, none⟩)), (6, .agg #[.string (bs aG_0.Name), .int .i64 aG_0.OnHand, .int .i64 aG_0.Reserved, .int .i64 aG_0.Least]), (7, .int .i64 1048576)] (by kernel_rfl) ?_
  obtain ⟨x12, hx13, hm⟩ := bindE hm
  refine WL.call 5 #[.agg #[.string (bs aG_0.Name), .int .i64 aG_0.OnHand, .int .i64 aG_0.Reserved, .int .i64 aG_0.Least], .int .i64 1048576] rfl rfl (by kernel_rfl) (c_5 n aG_0 1048576 w3 hx13 ) ?_
  rintro _ w14 ⟨rfl, hE15⟩
  refine ⟨_, rfl, ?_⟩
  have hb17 : Ext w w14 := Ext.trans hb7 hE15
  have hL18 : w.heap.size ≤ w14.heap.size := Nat.le_trans hL8 hE15.size
  have hS19 : SH w14 w.heap.size [aBox 23 b2 [.string (bs aG_0.Name), .int .i64 aG_0.OnHand, .int .i64 aG_0.Reserved, .int .i64 aG_0.Least]] := SH.ext hS9 hE15
  refine WL.runk 1 [1, 3] [(1, .pointer (some ⟨b2, 0, none⟩)), (3, .int .i64 x12)] (by kernel_rfl) ?_
  refine WL.nil ?_
  refine WQ.then_normal (hK11 _ _ _ ?_)
  refine WP.seq (fun K20 hK20 => ?_)
  refine WP.seq (fun K21 hK21 => ?_)
  refine WP.region ?_
  refine WL.runk 2 [1, 10] [(1, .pointer (some ⟨b2, 0, none⟩)), (10, .bool (decide (x12 < 0)))] (by kernel_rfl) ?_
  refine WL.nil ?_
  refine WQ.then_normal (hK21 _ _ _ ?_)
  refine WP.cond (decide (x12 < 0)) rfl rfl (fun hc22 => ?_) (fun hc22 => ?_)
  · have hm := iteT hm hc22
    refine WP.seq (fun K23 hK23 => ?_)
    refine WP.region ?_
    refine WL.runk 1 [2] [(2, .bool true)] (by kernel_rfl) ?_
    refine WL.nil ?_
    refine WQ.then_normal (hK23 _ _ _ ?_)
    refine WP.ret ?_
    refine WQ.then_ret ?_
    obtain rfl := Option.some.inj hm
    exact WQ.ret1 _ rfl rfl ⟨rfl, hb17⟩
  have hm := iteF hm hc22
  refine WP.skip ?_
  refine WQ.then_normal (hK20 _ _ _ ?_)
  refine WP.seq (fun K24 hK24 => ?_)
  refine WP.region ?_
  refine WL.st (.agg #[.string (bs aG_0.Name), .int .i64 aG_0.OnHand, .int .i64 aG_0.Reserved, .int .i64 aG_0.Least]) (ST.loadAgg (vs := [.string (bs aG_0.Name), .int .i64 aG_0.OnHand, .int .i64 aG_0.Reserved, .int .i64 aG_0.Least]) (fun j v hv => SH.boxPart (us := [.string (bs aG_0.Name), .int .i64 aG_0.OnHand, .int .i64 aG_0.Reserved, .int .i64 aG_0.Least]) (SH.front 0 hS19) 0 rfl j v hv) rfl rfl rfl Tryd.underlying23 rfl (info23).1 (info23).2.1) rfl rfl rfl ?_
  obtain ⟨x25, hx26, hm⟩ := bindE hm
  refine WL.call 7 #[.agg #[.string (bs aG_0.Name), .int .i64 aG_0.OnHand, .int .i64 aG_0.Reserved, .int .i64 aG_0.Least]] rfl rfl (by kernel_rfl) (c_7 n aG_0 w14 hx26 ) ?_
  rintro _ w27 ⟨rfl, hE28⟩
  refine ⟨_, rfl, ?_⟩
  have hb30 : Ext w w27 := Ext.trans hb17 hE28
  have hL31 : w.heap.size ≤ w27.heap.size := Nat.le_trans hL18 hE28.size
  have hS32 : SH w27 w.heap.size [aBox 23 b2 [.string (bs aG_0.Name), .int .i64 aG_0.OnHand, .int .i64 aG_0.Reserved, .int .i64 aG_0.Least]] := SH.ext hS19 hE28
  obtain ⟨x33, hx34, hm⟩ := bindE hm
  refine WL.call 6 #[.agg #[.string (bs x25.Name), .int .i64 x25.OnHand, .int .i64 x25.Reserved, .int .i64 x25.Least]] rfl rfl (by kernel_rfl) (c_6 n x25 w27 hx34 ) ?_
  rintro _ w35 ⟨rfl, hE36⟩
  refine ⟨_, rfl, ?_⟩
  have hb38 : Ext w w35 := Ext.trans hb30 hE36
  have hL39 : w.heap.size ≤ w35.heap.size := Nat.le_trans hL31 hE36.size
  have hS40 : SH w35 w.heap.size [aBox 23 b2 [.string (bs aG_0.Name), .int .i64 aG_0.OnHand, .int .i64 aG_0.Reserved, .int .i64 aG_0.Least]] := SH.ext hS32 hE36
  refine WL.runk 1 [1, 4] [(1, .pointer (some ⟨b2, 0, none⟩)), (4, .string (bs x33))] (by kernel_rfl) ?_
  refine WL.nil ?_
  refine WQ.then_normal (hK24 _ _ _ ?_)
  refine WP.seq (fun K41 hK41 => ?_)
  refine WP.region ?_
  refine WL.st (.agg #[.string (bs aG_0.Name), .int .i64 aG_0.OnHand, .int .i64 aG_0.Reserved, .int .i64 aG_0.Least]) (ST.loadAgg (vs := [.string (bs aG_0.Name), .int .i64 aG_0.OnHand, .int .i64 aG_0.Reserved, .int .i64 aG_0.Least]) (fun j v hv => SH.boxPart (us := [.string (bs aG_0.Name), .int .i64 aG_0.OnHand, .int .i64 aG_0.Reserved, .int .i64 aG_0.Least]) (SH.front 0 hS40) 0 rfl j v hv) rfl rfl rfl Tryd.underlying23 rfl (info23).1 (info23).2.1) rfl rfl rfl ?_
  obtain ⟨x42, hx43, hm⟩ := bindE hm
  refine WL.call 7 #[.agg #[.string (bs aG_0.Name), .int .i64 aG_0.OnHand, .int .i64 aG_0.Reserved, .int .i64 aG_0.Least]] rfl rfl (by kernel_rfl) (c_7 n aG_0 w35 hx43 ) ?_
  rintro _ w44 ⟨rfl, hE45⟩
  refine ⟨_, rfl, ?_⟩
  have hb47 : Ext w w44 := Ext.trans hb38 hE45
  have hL48 : w.heap.size ≤ w44.heap.size := Nat.le_trans hL39 hE45.size
  have hS49 : SH w44 w.heap.size [aBox 23 b2 [.string (bs aG_0.Name), .int .i64 aG_0.OnHand, .int .i64 aG_0.Reserved, .int .i64 aG_0.Least]] := SH.ext hS40 hE45
  obtain ⟨x50, hx51, hm⟩ := bindE hm
  refine WL.call 8 #[.agg #[.string (bs x42.Name), .int .i64 x42.OnHand, .int .i64 x42.Reserved, .int .i64 x42.Least]] rfl rfl (by kernel_rfl) (c_8 n x42 w44 hx51 (GL.below hG hb47)) ?_
  rintro _ w52 ⟨rfl, hE53⟩
  refine ⟨_, rfl, ?_⟩
  have hb55 : Ext w w52 := Ext.trans hb47 hE53
  have hL56 : w.heap.size ≤ w52.heap.size := Nat.le_trans hL48 hE53.size
  have hS57 : SH w52 w.heap.size [aBox 23 b2 [.string (bs aG_0.Name), .int .i64 aG_0.OnHand, .int .i64 aG_0.Reserved, .int .i64 aG_0.Least]] := SH.ext hS49 hE53
  refine WL.runk 1 [4, 5] [(4, .string (bs x33)), (5, .string (bs x50))] (by kernel_rfl) ?_
  refine WL.nil ?_
  refine WQ.then_normal (hK41 _ _ _ ?_)
  refine WP.seq (fun K58 hK58 => ?_)
  refine WP.seq (fun K59 hK59 => ?_)
  refine WP.region ?_
  refine WL.runk 2 [17, 18] [(17, .string (bs x50)), (18, .string (bs x33))] (by kernel_rfl) ?_
  refine WL.st (.bool (!(x50 == x33))) (ST.strne (x := x50) (y := x33) rfl rfl rfl) rfl rfl rfl ?_
  refine WL.sub [(19, .bool (!(x50 == x33)))] ⟨rfl, trivial⟩ ?_
  refine WL.nil ?_
  refine WQ.then_normal (hK59 _ _ _ ?_)
  refine WP.cond (!(x50 == x33)) rfl rfl (fun hc60 => ?_) (fun hc60 => ?_)
  · have hm := iteT hm hc60
    refine WP.seq (fun K61 hK61 => ?_)
    refine WP.region ?_
    refine WL.runk 1 [2] [(2, .bool false)] (by kernel_rfl) ?_
    refine WL.nil ?_
    refine WQ.then_normal (hK61 _ _ _ ?_)
    refine WP.ret ?_
    refine WQ.then_ret ?_
    obtain rfl := Option.some.inj hm
    exact WQ.ret1 _ rfl rfl ⟨rfl, hb55⟩
  have hm := iteF hm hc60
  refine WP.skip ?_
  refine WQ.then_normal (hK58 _ _ _ ?_)
  refine WP.seq (fun K62 hK62 => ?_)
  refine WP.region ?_
  refine WL.runk 1 [2] [(2, .bool true)] (by kernel_rfl) ?_
  refine WL.nil ?_
  refine WQ.then_normal (hK62 _ _ _ ?_)
  refine WP.ret ?_
  obtain rfl := Option.some.inj hm
  exact WQ.ret1 _ rfl rfl ⟨rfl, hb55⟩

end Go.Proofs.YtkpdicajinionaaDoor
