/- Each call does what its Lean function says. -/
import Derived.Test.YtkjjjbfpecmieaaDoorTi
import Derived.Test.YtkjjjbfpecmieaaDoorEq
import Derived.Test.YtkjjjbfpecmieaaDoorMo
import Derived.Test.YtkjjjbfpecmieaaDoorCh
set_option maxRecDepth 20000
set_option maxHeartbeats 40000000
namespace Go.Proofs.YtkjjjbfpecmieaaDoor
open Go Go.Gv Go.RowKit

theorem c_44 (n : Nat) (s_0 : List UInt8) (by_1 : Int) (w : World) {r : List (List UInt8)} (hm : m_spec_l01Split n s_0 by_1 = some r)  :
    CallV Tryd.prog 44 #[.string (bs s_0), .int .u8 by_1] w (fun v w' => ∃ (ra0 : Option Addr) (rc0 : Nat), v = .slice ra0 r.length rc0 ∧ Ext w w' ∧ SH w' w.heap.size [aOwn fStr 9 ra0 rc0 r]) := by
  unfold m_spec_l01Split at hm
  refine CallV.enter Tryd.func44 rfl (by kernel_rfl) Tryd.ntmps44 (env := [(0, .string (bs s_0)), (1, .int .u8 by_1)]) ⟨rfl, rfl, trivial⟩ ?_
  refine WP.seq (fun K1 hK1 => ?_)
  refine WP.region ?_
  refine WL.runk 1 [0, 1] [(0, .string (bs s_0)), (1, .int .u8 by_1)] (by kernel_rfl) ?_
  refine WL.nil ?_
  refine WQ.then_normal (hK1 _ _ _ ?_)
  refine WP.seq (fun K2 hK2 => ?_)
  refine WP.region ?_
  refine WL.row fStr 9 ([] : List (List UInt8)) 0 #[] 8 (by kernel_rfl) rfl rfl rfl rfl rfl rfl rfl ?_
  intro a3 c4 w5 hE6 hR7
  have hb9 : Ext w w5 := Ext.trans (Ext.refl w) hE6
  have hL10 : w.heap.size ≤ w5.heap.size := Nat.le_trans (Nat.le_refl _) hE6.size
  have hS11 : SH w5 w.heap.size [aOwn fStr 9 a3 c4 ([] : List (List UInt8))] := SH.add (SH.nil _ _) hE6 (Nat.le_refl _) hR7
  refine WL.runk 1 [0, 1, 5] [(0, .string (bs s_0)), (1, .int .u8 by_1), (5, .slice a3 (([] : List (List UInt8)).length) c4)] (by kernel_rfl) ?_
  refine WL.nil ?_
  refine WQ.then_normal (hK2 _ _ _ ?_)
  refine WP.seq (fun K12 hK12 => ?_)
  refine WP.region ?_
  refine WL.runk 1 [0, 1, 5, 6] [(0, .string (bs s_0)), (1, .int .u8 by_1), (5, .slice a3 (([] : List (List UInt8)).length) c4), (6, .int .i64 0)] (by kernel_rfl) ?_
  refine WL.nil ?_
  refine WQ.then_normal (hK12 _ _ _ ?_)
  refine WP.seq (fun K13 hK13 => ?_)
  refine WP.seq (fun K14 hK14 => ?_)
  refine WP.region ?_
  refine WL.runk 1 [0, 1, 5, 6, 7] [(0, .string (bs s_0)), (1, .int .u8 by_1), (5, .slice a3 (([] : List (List UInt8)).length) c4), (6, .int .i64 0), (7, .int .i64 0)] (by kernel_rfl) ?_
  refine WL.nil ?_
  refine WQ.then_normal (hK14 _ _ _ ?_)
  refine WP.block ?_
  obtain ⟨t29, ht30, hm⟩ := bindE hm
  have hmo24 := hm; clear hm
  refine WP.sub [(0, .string (bs s_0)), (1, .int .u8 by_1), (5, .slice a3 (([] : List (List UInt8)).length) c4), (6, .int .i64 0), (7, .int .i64 0)] ⟨rfl, rfl, rfl, rfl, rfl, trivial⟩ ?_
  refine WP.loop (fun n' env' w' => ∃ (st15 : List (List UInt8) × Int × Int) (a16 : Option Addr) (c17 : Nat), env' = [(0, .string (bs s_0)), (1, .int .u8 by_1), (5, .slice a16 st15.1.length c17), (6, .int .i64 st15.2.1), (7, .int .i64 st15.2.2)] ∧ Ext w w' ∧ w.heap.size ≤ w'.heap.size ∧ SH w' w.heap.size [aOwn fStr 9 a16 c17 st15.1] ∧ loopN (m_spec_l01Split_l1 n s_0 by_1) n' st15 = some t29) n ⟨(([] : List (List UInt8)), 0, 0), _, _, rfl, hb9, hL10, hS11, ht30⟩ ?_
  rintro n26 _ w19 ⟨st15, a16, c17, rfl, hb20, hL21, hS22, hl23⟩ K25 hK25
  obtain ⟨n27, s28, rfl, hm, hl23⟩ := loopN_some hl23
  unfold m_spec_l01Split_l1 at hm
  refine WP.seq (fun K31 hK31 => ?_)
  refine WP.seq (fun K32 hK32 => ?_)
  refine WP.region ?_
  refine WL.runk 4 [0, 1, 5, 6, 7, 12] [(0, .string (bs s_0)), (1, .int .u8 by_1), (5, .slice a16 st15.1.length c17), (6, .int .i64 st15.2.1), (7, .int .i64 st15.2.2), (12, .bool (decide (st15.2.2 < (s_0.length : Int))))] (by kernel_rfl) ?_
  refine WL.nil ?_
  refine WQ.then_normal (hK32 _ _ _ ?_)
  refine WP.cond (decide (st15.2.2 < (s_0.length : Int))) rfl rfl (fun hc33 => ?_) (fun hc33 => ?_)
  rotate_left
  · have hm := iteF hm hc33
    refine WP.exit ?_
    refine WQ.then_exit ?_
    refine WQ.then_exit ?_
    refine WQ.block_here ?_
    obtain rfl := Option.some.inj hm
    obtain rfl := afterN_done hl23
    have hm := hmo24
    refine WQ.then_normal (hK13 _ _ _ ?_)
    refine WP.seq (fun K90 hK90 => ?_)
    refine WP.region ?_
    refine WL.runk 3 [29, 30, 31] [(29, .slice a16 st15.1.length c17), (30, .string (bs s_0)), (31, .int .i64 st15.2.1)] (by kernel_rfl) ?_
    obtain ⟨x91, hx92, hm⟩ := bindE hm
    refine WL.st (.string (bs x91)) (ST.ssub hx92 rfl rfl Tryd.underlying9 ⟨_, rfl⟩ rfl) rfl rfl rfl ?_
    refine WL.row fStr 9 ([x91] : List (List UInt8)) 1 #[.string (bs x91)] 33 (by kernel_rfl) rfl rfl rfl rfl rfl rfl rfl ?_
    intro a93 c94 w95 hE96 hR97
    have hb99 : Ext w w95 := Ext.trans hb20 hE96
    have hL100 : w.heap.size ≤ w95.heap.size := Nat.le_trans hL21 hE96.size
    have hS101 : SH w95 w.heap.size [aOwn fStr 9 a93 c94 ([x91] : List (List UInt8)), aOwn fStr 9 a16 c17 st15.1] := SH.add hS22 hE96 hL21 hR97
    obtain ⟨x102, hx103, hm⟩ := bindE hm
    refine WL.append (F := fStr) (xs := st15.1) (ys := ([x91] : List (List UInt8))) 34 (SH.front 1 hS101) hL100 (SH.rd (SH.front 0 hS101)) hx103 rfl rfl rfl Tryd.underlying22 (info9).1 (info9).2.2.1 (info9).2.1 (info9).2.2.2 rfl rfl rfl rfl rfl ?_
    intro a104 c105 w106 hB107 hS108
    have hb109 : Ext w w106 := Below.trans hb99 hB107
    have hL110 : w.heap.size ≤ w106.heap.size := Nat.le_trans hL100 hB107.size
    refine WL.runk 1 [4] [(4, .slice a104 x102.length c105)] (by kernel_rfl) ?_
    refine WL.nil ?_
    refine WQ.then_normal (hK90 _ _ _ ?_)
    refine WP.ret ?_
    obtain rfl := Option.some.inj hm
    exact WQ.ret1 _ rfl rfl ⟨_, _, rfl, hb109, (SH.take 1 hS108)⟩
  have hm := iteT hm hc33
  refine WP.skip ?_
  refine WQ.then_normal (hK31 _ _ _ ?_)
  refine WP.seq (fun K34 hK34 => ?_)
  refine WP.block ?_
  refine WP.seq (fun K35 hK35 => ?_)
  refine WP.region ?_
  refine WL.runk 2 [0, 1, 5, 6, 7, 15, 16] [(0, .string (bs s_0)), (1, .int .u8 by_1), (5, .slice a16 st15.1.length c17), (6, .int .i64 st15.2.1), (7, .int .i64 st15.2.2), (15, .string (bs s_0)), (16, .int .i64 st15.2.2)] (by kernel_rfl) ?_
  obtain ⟨x36, hx37, hm⟩ := bindE hm
  refine WL.st (.int .u8 (x36.toNat : Int)) (ST.sindex hx37 rfl rfl rfl Tryd.underlying9) rfl rfl rfl ?_
  refine WL.runk 2 [0, 1, 5, 6, 7, 19] [(0, .string (bs s_0)), (1, .int .u8 by_1), (5, .slice a16 st15.1.length c17), (6, .int .i64 st15.2.1), (7, .int .i64 st15.2.2), (19, .bool ((x36.toNat : Int) == by_1))] (by kernel_rfl) ?_
  refine WL.nil ?_
  refine WQ.then_normal (hK35 _ _ _ ?_)
  obtain ⟨x60, hx61, hm⟩ := bindE hm
  refine WP.cut (fun env' w' => ∃ (a62 : Option Addr) (c63 : Nat), env' = [(0, .string (bs s_0)), (1, .int .u8 by_1), (5, .slice a62 x60.1.length c63), (6, .int .i64 x60.2), (7, .int .i64 st15.2.2)] ∧ Ext w w' ∧ w.heap.size ≤ w'.heap.size ∧ SH w' w.heap.size [aOwn fStr 9 a62 c63 x60.1]) ?_ ?_
  rotate_left
  · clear hx61
    rintro _ w86 ⟨a62, c63, rfl, hb87, hL88, hS89⟩
    refine WQ.block_normal ?_
    refine WQ.then_normal (hK34 _ _ _ ?_)
    refine WP.region ?_
    refine WL.runk 3 [0, 1, 5, 6, 7] [(0, .string (bs s_0)), (1, .int .u8 by_1), (5, .slice a62 x60.1.length c63), (6, .int .i64 x60.2), (7, .int .i64 (wI64 (st15.2.2 + 1)))] (by kernel_rfl) ?_
    refine WL.nil ?_
    obtain rfl := Option.some.inj hm
    exact WQ.round hK25 ⟨(x60.1, x60.2, (wI64 (st15.2.2 + 1))), _, _, rfl, hb87, hL88, hS89, hl23⟩ (Nat.lt_succ_self _) ⟨rfl, rfl, rfl, rfl, rfl, trivial⟩
  have hm := hx61; clear hx61
  refine WP.cond ((x36.toNat : Int) == by_1) rfl rfl (fun hc38 => ?_) (fun hc38 => ?_)
  rotate_left
  · have hm := iteF hm hc38
    refine WP.skip ?_
    obtain rfl := Option.some.inj hm
    exact WQ.post' ⟨_, _, rfl, hb20, hL21, hS22⟩ ⟨rfl, rfl, rfl, rfl, rfl, trivial⟩
  have hm := iteT hm hc38
  refine WP.seq (fun K65 hK65 => ?_)
  refine WP.region ?_
  refine WL.runk 4 [0, 1, 7, 20, 21, 22, 23] [(0, .string (bs s_0)), (1, .int .u8 by_1), (7, .int .i64 st15.2.2), (20, .slice a16 st15.1.length c17), (21, .string (bs s_0)), (22, .int .i64 st15.2.1), (23, .int .i64 st15.2.2)] (by kernel_rfl) ?_
  obtain ⟨x66, hx67, hm⟩ := bindE hm
  refine WL.st (.string (bs x66)) (ST.ssub hx67 rfl rfl Tryd.underlying9 ⟨_, rfl⟩ ⟨_, rfl⟩) rfl rfl rfl ?_
  refine WL.row fStr 9 ([x66] : List (List UInt8)) 1 #[.string (bs x66)] 25 (by kernel_rfl) rfl rfl rfl rfl rfl rfl rfl ?_
  intro a68 c69 w70 hE71 hR72
  have hb74 : Ext w w70 := Ext.trans hb20 hE71
  have hL75 : w.heap.size ≤ w70.heap.size := Nat.le_trans hL21 hE71.size
  have hS76 : SH w70 w.heap.size [aOwn fStr 9 a68 c69 ([x66] : List (List UInt8)), aOwn fStr 9 a16 c17 st15.1] := SH.add hS22 hE71 hL21 hR72
  obtain ⟨x77, hx78, hm⟩ := bindE hm
  refine WL.append (F := fStr) (xs := st15.1) (ys := ([x66] : List (List UInt8))) 26 (SH.front 1 hS76) hL75 (SH.rd (SH.front 0 hS76)) hx78 rfl rfl rfl Tryd.underlying22 (info9).1 (info9).2.2.1 (info9).2.1 (info9).2.2.2 rfl rfl rfl rfl rfl ?_
  intro a79 c80 w81 hB82 hS83
  have hb84 : Ext w w81 := Below.trans hb74 hB82
  have hL85 : w.heap.size ≤ w81.heap.size := Nat.le_trans hL75 hB82.size
  refine WL.runk 1 [0, 1, 5, 7] [(0, .string (bs s_0)), (1, .int .u8 by_1), (7, .int .i64 st15.2.2), (5, .slice a79 x77.length c80)] (by kernel_rfl) ?_
  refine WL.nil ?_
  refine WQ.then_normal (hK65 _ _ _ ?_)
  refine WP.region ?_
  refine WL.runk 3 [0, 1, 5, 6, 7] [(0, .string (bs s_0)), (1, .int .u8 by_1), (7, .int .i64 st15.2.2), (5, .slice a79 x77.length c80), (6, .int .i64 (wI64 (st15.2.2 + 1)))] (by kernel_rfl) ?_
  refine WL.nil ?_
  obtain rfl := Option.some.inj hm
  exact WQ.post' ⟨_, _, rfl, hb84, hL85, (SH.take 1 hS83)⟩ ⟨rfl, rfl, rfl, rfl, rfl, trivial⟩

theorem c_10 (n : Nat) (a_0 : List (List UInt8)) (a0' : Option Addr) (c0' : Nat) (b_1 : List (List UInt8)) (a1' : Option Addr) (c1' : Nat) (w : World) {r : Bool} (hm : m_laws_eqStringS n a_0 b_1 = some r) (h0 : Rd fStr.ty w a0' a_0) (_hle0 : a_0.length ≤ c0') (h1 : Rd fStr.ty w a1' b_1) (_hle1 : b_1.length ≤ c1') :
    CallV Tryd.prog 10 #[.slice a0' a_0.length c0', .slice a1' b_1.length c1'] w (fun v w' => v = .bool r ∧ Ext w w') := by
  unfold m_laws_eqStringS at hm
  refine CallV.enter Tryd.func10 rfl (by kernel_rfl) Tryd.ntmps10 (env := [(0, .slice a0' a_0.length c0'), (1, .slice a1' b_1.length c1')]) ⟨rfl, rfl, trivial⟩ ?_
  refine WP.seq (fun K1 hK1 => ?_)
  refine WP.region ?_
  refine WL.runk 1 [0, 1] [(0, .slice a0' a_0.length c0'), (1, .slice a1' b_1.length c1')] (by kernel_rfl) ?_
  refine WL.nil ?_
  refine WQ.then_normal (hK1 _ _ _ ?_)
  refine WP.seq (fun K2 hK2 => ?_)
  refine WP.seq (fun K3 hK3 => ?_)
  refine WP.region ?_
  refine WL.runk 5 [0, 1, 10] [(0, .slice a0' a_0.length c0'), (1, .slice a1' b_1.length c1'), (10, .bool ((a_0.length : Int) != (b_1.length : Int)))] (by kernel_rfl) ?_
  refine WL.nil ?_
  refine WQ.then_normal (hK3 _ _ _ ?_)
  refine WP.cond ((a_0.length : Int) != (b_1.length : Int)) rfl rfl (fun hc4 => ?_) (fun hc4 => ?_)
  · have hm := iteT hm hc4
    refine WP.seq (fun K5 hK5 => ?_)
    refine WP.region ?_
    refine WL.runk 1 [4] [(4, .bool false)] (by kernel_rfl) ?_
    refine WL.nil ?_
    refine WQ.then_normal (hK5 _ _ _ ?_)
    refine WP.ret ?_
    refine WQ.then_ret ?_
    obtain rfl := Option.some.inj hm
    exact WQ.ret1 _ rfl rfl ⟨rfl, (Ext.refl w)⟩
  have hm := iteF hm hc4
  refine WP.skip ?_
  refine WQ.then_normal (hK2 _ _ _ ?_)
  refine WP.seq (fun K6 hK6 => ?_)
  refine WP.seq (fun K7 hK7 => ?_)
  refine WP.region ?_
  refine WL.runk 1 [0, 1, 5] [(0, .slice a0' a_0.length c0'), (1, .slice a1' b_1.length c1'), (5, .int .i64 0)] (by kernel_rfl) ?_
  refine WL.nil ?_
  refine WQ.then_normal (hK7 _ _ _ ?_)
  refine WP.block ?_
  obtain ⟨t19, ht20, hm⟩ := bindE hm
  have hmo14 := hm; clear hm
  refine WP.sub [(0, .slice a0' a_0.length c0'), (1, .slice a1' b_1.length c1'), (5, .int .i64 0)] ⟨rfl, rfl, rfl, trivial⟩ ?_
  refine WP.loop (fun n' env' w' => ∃ (st8 : Int) , env' = [(0, .slice a0' a_0.length c0'), (1, .slice a1' b_1.length c1'), (5, .int .i64 st8)] ∧ Ext w w' ∧ w.heap.size ≤ w'.heap.size ∧ SH w' w.heap.size [] ∧ loopN (m_laws_eqStringS_l1 n a_0 b_1) n' st8 = some t19) n ⟨0, rfl, (Ext.refl w), (Nat.le_refl _), (SH.nil _ _), ht20⟩ ?_
  rintro n16 _ w9 ⟨st8, rfl, hb10, hL11, hS12, hl13⟩ K15 hK15
  obtain ⟨n17, s18, rfl, hm, hl13⟩ := loopN_some hl13
  unfold m_laws_eqStringS_l1 at hm
  refine WP.seq (fun K21 hK21 => ?_)
  refine WP.seq (fun K22 hK22 => ?_)
  refine WP.region ?_
  refine WL.runk 4 [0, 1, 5, 14] [(0, .slice a0' a_0.length c0'), (1, .slice a1' b_1.length c1'), (5, .int .i64 st8), (14, .bool (decide (st8 < (a_0.length : Int))))] (by kernel_rfl) ?_
  refine WL.nil ?_
  refine WQ.then_normal (hK22 _ _ _ ?_)
  refine WP.cond (decide (st8 < (a_0.length : Int))) rfl rfl (fun hc23 => ?_) (fun hc23 => ?_)
  rotate_left
  · have hm := iteF hm hc23
    refine WP.exit ?_
    refine WQ.then_exit ?_
    refine WQ.then_exit ?_
    refine WQ.block_here ?_
    obtain rfl := Option.some.inj hm
    obtain rfl := afterN_done hl13
    have hm := hmo14
    refine WQ.then_normal (hK6 _ _ _ ?_)
    refine WP.seq (fun K37 hK37 => ?_)
    refine WP.region ?_
    refine WL.runk 1 [4] [(4, .bool true)] (by kernel_rfl) ?_
    refine WL.nil ?_
    refine WQ.then_normal (hK37 _ _ _ ?_)
    refine WP.ret ?_
    obtain rfl := Option.some.inj hm
    exact WQ.ret1 _ rfl rfl ⟨rfl, hb10⟩
  have hm := iteT hm hc23
  refine WP.skip ?_
  refine WQ.then_normal (hK21 _ _ _ ?_)
  refine WP.seq (fun K24 hK24 => ?_)
  refine WP.block ?_
  refine WP.seq (fun K25 hK25 => ?_)
  refine WP.quiet (by kernel_rfl) (by kernel_rfl) ?_
  refine QL.step1v 17 (.slice a0' a_0.length c0') rfl (fun _ => by kernel_rfl) ?_
  refine QL.step1v 18 (.int .i64 st8) rfl (fun _ => by kernel_rfl) ?_
  refine QL.subk [0, 1, 5, 17, 18] [(0, .slice a0' a_0.length c0'), (1, .slice a1' b_1.length c1'), (5, .int .i64 st8), (17, .slice a0' a_0.length c0'), (18, .int .i64 st8)] (by kernel_rfl) ?_
  obtain ⟨x26, hx27, hm⟩ := bindE hm
  refine QL.st (.pointer (some (at_ a0' (Int.toNat st8 * 1)))) (ST.index (T := fStr.ty) (xs := a_0) (Rd.below h0 hb10) hx27 rfl rfl rfl Tryd.underlying22 (info9).1 (info9).2.1) rfl rfl rfl ?_
  refine QL.st (.string (bs x26)) (ST.load (cell_ext (Rd.flat (F := fStr) (Rd.below h0 hb10) hx27 0 rfl)) rfl rfl Tryd.underlying9 rfl) rfl rfl rfl ?_
  refine QL.step1v 21 (.slice a1' b_1.length c1') rfl (fun _ => by kernel_rfl) ?_
  refine QL.step1v 22 (.int .i64 st8) rfl (fun _ => by kernel_rfl) ?_
  refine QL.subk [0, 1, 5, 20, 21, 22] [(0, .slice a0' a_0.length c0'), (1, .slice a1' b_1.length c1'), (5, .int .i64 st8), (20, .string (bs x26)), (21, .slice a1' b_1.length c1'), (22, .int .i64 st8)] (by kernel_rfl) ?_
  obtain ⟨x28, hx29, hm⟩ := bindE hm
  refine QL.st (.pointer (some (at_ a1' (Int.toNat st8 * 1)))) (ST.index (T := fStr.ty) (xs := b_1) (Rd.below h1 hb10) hx29 rfl rfl rfl Tryd.underlying22 (info9).1 (info9).2.1) rfl rfl rfl ?_
  refine QL.st (.string (bs x28)) (ST.load (cell_ext (Rd.flat (F := fStr) (Rd.below h1 hb10) hx29 0 rfl)) rfl rfl Tryd.underlying9 rfl) rfl rfl rfl ?_
  refine QL.st (.bool (!(x26 == x28))) (ST.strne (x := x26) (y := x28) rfl rfl rfl) rfl rfl rfl ?_
  refine QL.subk [0, 1, 5, 25] [(0, .slice a0' a_0.length c0'), (1, .slice a1' b_1.length c1'), (5, .int .i64 st8), (25, .bool (!(x26 == x28)))] (by kernel_rfl) ?_
  refine QL.nil ?_
  intro w30 hE31
  have hb32 : Ext w w30 := Ext.trans hb10 hE31
  have hL33 : w.heap.size ≤ w30.heap.size := Nat.le_trans hL11 hE31.size
  have hS34 : SH w30 w.heap.size [] := SH.ext hS12 hE31
  refine WQ.then_normal (hK25 _ _ _ ?_)
  refine WP.cond (!(x26 == x28)) rfl rfl (fun hc35 => ?_) (fun hc35 => ?_)
  rotate_left
  · have hm := iteF hm hc35
    refine WP.skip ?_
    refine WQ.block_normal ?_
    refine WQ.then_normal (hK24 _ _ _ ?_)
    refine WP.region ?_
    refine WL.runk 3 [0, 1, 5] [(0, .slice a0' a_0.length c0'), (1, .slice a1' b_1.length c1'), (5, .int .i64 (wI64 (st8 + 1)))] (by kernel_rfl) ?_
    refine WL.nil ?_
    obtain rfl := Option.some.inj hm
    exact WQ.round hK15 ⟨(wI64 (st8 + 1)), rfl, hb32, hL33, hS34, hl13⟩ (Nat.lt_succ_self _) ⟨rfl, rfl, rfl, trivial⟩
  have hm := iteT hm hc35
  refine WP.seq (fun K36 hK36 => ?_)
  refine WP.region ?_
  refine WL.runk 1 [4] [(4, .bool false)] (by kernel_rfl) ?_
  refine WL.nil ?_
  refine WQ.then_normal (hK36 _ _ _ ?_)
  refine WP.ret ?_
  refine WQ.block_ret ?_
  refine WQ.then_ret ?_
  refine WQ.then_ret ?_
  refine WQ.block_ret ?_
  refine WQ.then_ret ?_
  obtain rfl := Option.some.inj hm
  obtain rfl := afterN_done hl13
  have hm := hmo14
  obtain rfl := Option.some.inj hm
  exact WQ.ret1 _ rfl rfl ⟨rfl, hb32⟩

theorem c_29 (n : Nat) (k_0 : Int) (w : World) {r : List UInt8} (hm : m_laws_markText n k_0 = some r)  :
    CallV Tryd.prog 29 #[.int .i64 k_0] w (fun v w' => v = .string (bs r) ∧ Ext w w') := by
  unfold m_laws_markText at hm
  refine CallV.enter Tryd.func29 rfl (by kernel_rfl) Tryd.ntmps29 (env := [(0, .int .i64 k_0)]) ⟨rfl, trivial⟩ ?_
  refine WP.seq (fun K1 hK1 => ?_)
  refine WP.region ?_
  refine WL.runk 1 [0] [(0, .int .i64 k_0)] (by kernel_rfl) ?_
  refine WL.nil ?_
  refine WQ.then_normal (hK1 _ _ _ ?_)
  refine WP.seq (fun K2 hK2 => ?_)
  refine WP.seq (fun K3 hK3 => ?_)
  refine WP.region ?_
  refine WL.runk 2 [0, 5] [(0, .int .i64 k_0), (5, .bool (decide (k_0 ≤ 0)))] (by kernel_rfl) ?_
  refine WL.nil ?_
  refine WQ.then_normal (hK3 _ _ _ ?_)
  refine WP.cond (decide (k_0 ≤ 0)) rfl rfl (fun hc4 => ?_) (fun hc4 => ?_)
  · have hm := iteT hm hc4
    refine WP.seq (fun K5 hK5 => ?_)
    refine WP.region ?_
    refine WL.runk 1 [2] [(2, .string (bs [109, 48]))] (by kernel_rfl) ?_
    refine WL.nil ?_
    refine WQ.then_normal (hK5 _ _ _ ?_)
    refine WP.ret ?_
    refine WQ.then_ret ?_
    obtain rfl := Option.some.inj hm
    exact WQ.ret1 _ rfl rfl ⟨rfl, (Ext.refl w)⟩
  have hm := iteF hm hc4
  refine WP.skip ?_
  refine WQ.then_normal (hK2 _ _ _ ?_)
  refine WP.seq (fun K6 hK6 => ?_)
  refine WP.region ?_
  refine WL.runk 1 [0, 3] [(0, .int .i64 k_0), (3, .string (bs []))] (by kernel_rfl) ?_
  refine WL.nil ?_
  refine WQ.then_normal (hK6 _ _ _ ?_)
  refine WP.seq (fun K7 hK7 => ?_)
  refine WP.block ?_
  obtain ⟨t19, ht20, hm⟩ := bindE hm
  have hmo14 := hm; clear hm
  refine WP.sub [(0, .int .i64 k_0), (3, .string (bs []))] ⟨rfl, rfl, trivial⟩ ?_
  refine WP.loop (fun n' env' w' => ∃ (st8 : Int × List UInt8) , env' = [(0, .int .i64 st8.1), (3, .string (bs st8.2))] ∧ Ext w w' ∧ w.heap.size ≤ w'.heap.size ∧ SH w' w.heap.size [] ∧ loopN (m_laws_markText_l1 n) n' st8 = some t19) n ⟨(k_0, []), rfl, (Ext.refl w), (Nat.le_refl _), (SH.nil _ _), ht20⟩ ?_
  rintro n16 _ w9 ⟨st8, rfl, hb10, hL11, hS12, hl13⟩ K15 hK15
  obtain ⟨n17, s18, rfl, hm, hl13⟩ := loopN_some hl13
  unfold m_laws_markText_l1 at hm
  refine WP.seq (fun K21 hK21 => ?_)
  refine WP.seq (fun K22 hK22 => ?_)
  refine WP.region ?_
  refine WL.runk 2 [0, 3, 7] [(0, .int .i64 st8.1), (3, .string (bs st8.2)), (7, .bool (decide (st8.1 > 0)))] (by kernel_rfl) ?_
  refine WL.nil ?_
  refine WQ.then_normal (hK22 _ _ _ ?_)
  refine WP.cond (decide (st8.1 > 0)) rfl rfl (fun hc23 => ?_) (fun hc23 => ?_)
  rotate_left
  · have hm := iteF hm hc23
    refine WP.exit ?_
    refine WQ.then_exit ?_
    refine WQ.then_exit ?_
    refine WQ.block_here ?_
    obtain rfl := Option.some.inj hm
    obtain rfl := afterN_done hl13
    have hm := hmo14
    refine WQ.then_normal (hK7 _ _ _ ?_)
    refine WP.seq (fun K36 hK36 => ?_)
    refine WP.region ?_
    refine WL.runk 1 [18] [(18, .string (bs st8.2))] (by kernel_rfl) ?_
    obtain ⟨x37, hx38, hm⟩ := bindE hm
    refine WL.st (.string (bs x37)) (ST.cat hx38 rfl rfl rfl) rfl rfl rfl ?_
    refine WL.runk 1 [2] [(2, .string (bs x37))] (by kernel_rfl) ?_
    refine WL.nil ?_
    refine WQ.then_normal (hK36 _ _ _ ?_)
    refine WP.ret ?_
    obtain rfl := Option.some.inj hm
    exact WQ.ret1 _ rfl rfl ⟨rfl, hb10⟩
  have hm := iteT hm hc23
  refine WP.skip ?_
  refine WQ.then_normal (hK21 _ _ _ ?_)
  refine WP.block ?_
  refine WP.seq (fun K24 hK24 => ?_)
  refine WP.region ?_
  refine WL.runk 4 [0, 3, 11] [(0, .int .i64 st8.1), (3, .string (bs st8.2)), (11, .int .u8 (IntKind.u8.wrap (wI64 (48 + (Int.tmod st8.1 10)))))] (by kernel_rfl) ?_
  refine WL.row fU8 5 ([(IntKind.u8.wrap (wI64 (48 + (Int.tmod st8.1 10))))] : List Int) 1 #[.int .u8 (IntKind.u8.wrap (wI64 (48 + (Int.tmod st8.1 10))))] 12 (by kernel_rfl) rfl rfl rfl rfl rfl rfl rfl ?_
  intro a25 c26 w27 hE28 hR29
  have hb31 : Ext w w27 := Ext.trans hb10 hE28
  have hL32 : w.heap.size ≤ w27.heap.size := Nat.le_trans hL11 hE28.size
  have hS33 : SH w27 w.heap.size [aOwn fU8 5 a25 c26 ([(IntKind.u8.wrap (wI64 (48 + (Int.tmod st8.1 10))))] : List Int)] := SH.add hS12 hE28 hL11 hR29
  refine WL.st (.string (bs (ofBytes ([(IntKind.u8.wrap (wI64 (48 + (Int.tmod st8.1 10))))] : List Int)))) (ST.b2s (SH.rd (SH.front 0 hS33)) (SH.le (SH.front 0 hS33)).2 rfl rfl Tryd.underlying66 Tryd.underlying9 Tryd.underlying5) rfl rfl rfl ?_
  refine WL.runk 1 [0, 13, 14] [(0, .int .i64 st8.1), (13, .string (bs (ofBytes ([(IntKind.u8.wrap (wI64 (48 + (Int.tmod st8.1 10))))] : List Int)))), (14, .string (bs st8.2))] (by kernel_rfl) ?_
  obtain ⟨x34, hx35, hm⟩ := bindE hm
  refine WL.st (.string (bs x34)) (ST.cat hx35 rfl rfl rfl) rfl rfl rfl ?_
  refine WL.runk 1 [0, 3] [(0, .int .i64 st8.1), (3, .string (bs x34))] (by kernel_rfl) ?_
  refine WL.nil ?_
  refine WQ.then_normal (hK24 _ _ _ ?_)
  refine WP.region ?_
  refine WL.runk 3 [0, 3] [(0, .int .i64 (wI64 (Int.tdiv st8.1 10))), (3, .string (bs x34))] (by kernel_rfl) ?_
  refine WL.nil ?_
  refine WQ.block_normal ?_
  obtain rfl := Option.some.inj hm
  exact WQ.round hK15 ⟨((wI64 (Int.tdiv st8.1 10)), x34), rfl, hb31, hL32, (SH.take 0 hS33), hl13⟩ (Nat.lt_succ_self _) ⟨rfl, rfl, trivial⟩

theorem c_11 (n : Nat) (a_0 : List (List UInt8)) (a0' : Option Addr) (c0' : Nat) (k_1 : Int) (w : World) (w0 : World) (B : Nat) (L : List Asrt) {r : Int × List (List UInt8)} (hm : m_laws_markStringS n a_0 k_1 = some r) (_hE0 : Ext w0 w) (_hW : w0.heap.size ≤ B) (hL : B ≤ w.heap.size) (hS : SH w B (aOwn fStr 9 a0' c0' a_0 :: L)) :
    CallV Tryd.prog 11 #[.slice a0' a_0.length c0', .int .i64 k_1] w (fun v w' => v = .int .i64 r.1 ∧ Below B w w' ∧ SH w' B (aOwn fStr 9 a0' c0' r.2 :: L) ∧ r.2.length = a_0.length) := by
  unfold m_laws_markStringS at hm
  refine CallV.enter Tryd.func11 rfl (by kernel_rfl) Tryd.ntmps11 (env := [(0, .slice a0' a_0.length c0'), (1, .int .i64 k_1)]) ⟨rfl, rfl, trivial⟩ ?_
  refine WP.seq (fun K1 hK1 => ?_)
  refine WP.region ?_
  refine WL.runk 1 [0, 1] [(0, .slice a0' a_0.length c0'), (1, .int .i64 k_1)] (by kernel_rfl) ?_
  refine WL.nil ?_
  refine WQ.then_normal (hK1 _ _ _ ?_)
  refine WP.seq (fun K2 hK2 => ?_)
  refine WP.seq (fun K3 hK3 => ?_)
  refine WP.region ?_
  refine WL.runk 1 [0, 1, 5] [(0, .slice a0' a_0.length c0'), (1, .int .i64 k_1), (5, .int .i64 0)] (by kernel_rfl) ?_
  refine WL.nil ?_
  refine WQ.then_normal (hK3 _ _ _ ?_)
  refine WP.block ?_
  obtain ⟨t50, ht51, hm⟩ := bindE hm
  have hmo45 := hm; clear hm
  refine WP.sub [(0, .slice a0' a_0.length c0'), (1, .int .i64 k_1), (5, .int .i64 0)] ⟨rfl, rfl, rfl, trivial⟩ ?_
  refine WP.loop (fun n' env' w' => ∃ (st39 : Int × Int × List (List UInt8)) , env' = [(0, .slice a0' st39.2.2.length c0'), (1, .int .i64 st39.1), (5, .int .i64 st39.2.1)] ∧ Below B w w' ∧ B ≤ w'.heap.size ∧ SH w' B (aOwn fStr 9 a0' c0' st39.2.2 :: L) ∧ st39.2.2.length = a_0.length ∧ loopN (m_laws_markStringS_l1 n) n' st39 = some t50) n ⟨(k_1, 0, a_0), rfl, (Below.refl _ _), hL, hS, rfl, ht51⟩ ?_
  rintro n47 _ w40 ⟨st39, rfl, hb41, hL42, hS43, hn52, hl44⟩ K46 hK46
  obtain ⟨n48, s49, rfl, hm, hl44⟩ := loopN_some hl44
  unfold m_laws_markStringS_l1 at hm
  refine WP.seq (fun K53 hK53 => ?_)
  refine WP.seq (fun K54 hK54 => ?_)
  refine WP.region ?_
  refine WL.runk 4 [0, 1, 5, 9] [(0, .slice a0' st39.2.2.length c0'), (1, .int .i64 st39.1), (5, .int .i64 st39.2.1), (9, .bool (decide (st39.2.1 < (st39.2.2.length : Int))))] (by kernel_rfl) ?_
  refine WL.nil ?_
  refine WQ.then_normal (hK54 _ _ _ ?_)
  refine WP.cond (decide (st39.2.1 < (st39.2.2.length : Int))) rfl rfl (fun hc55 => ?_) (fun hc55 => ?_)
  rotate_left
  · have hm := iteF hm hc55
    refine WP.exit ?_
    refine WQ.then_exit ?_
    refine WQ.then_exit ?_
    refine WQ.block_here ?_
    obtain rfl := Option.some.inj hm
    obtain rfl := afterN_done hl44
    have hm := hmo45
    refine WQ.then_normal (hK2 _ _ _ ?_)
    refine WP.seq (fun K74 hK74 => ?_)
    refine WP.region ?_
    refine WL.runk 2 [4] [(4, .int .i64 st39.1)] (by kernel_rfl) ?_
    refine WL.nil ?_
    refine WQ.then_normal (hK74 _ _ _ ?_)
    refine WP.ret ?_
    obtain rfl := Option.some.inj hm
    exact WQ.ret1 _ rfl rfl ⟨rfl, hb41, hS43, hn52⟩
  have hm := iteT hm hc55
  refine WP.skip ?_
  refine WQ.then_normal (hK53 _ _ _ ?_)
  refine WP.seq (fun K56 hK56 => ?_)
  refine WP.block ?_
  refine WP.seq (fun K57 hK57 => ?_)
  refine WP.region ?_
  refine WL.runk 3 [0, 1, 5, 12, 13, 14] [(0, .slice a0' st39.2.2.length c0'), (1, .int .i64 st39.1), (5, .int .i64 st39.2.1), (12, .slice a0' st39.2.2.length c0'), (13, .int .i64 st39.2.1), (14, .int .i64 st39.1)] (by kernel_rfl) ?_
  obtain ⟨x58, hx59, hm⟩ := bindE hm
  refine WL.call 29 #[.int .i64 st39.1] rfl rfl (by kernel_rfl) (c_29 n st39.1 w40 hx59 ) ?_
  rintro _ w60 ⟨rfl, hE61⟩
  refine ⟨_, rfl, ?_⟩
  have hb63 : Below B w w60 := Below.trans hb41 (Below.mono hE61 hL42)
  have hL64 : B ≤ w60.heap.size := Nat.le_trans hL42 hE61.size
  have hS65 : SH w60 B (aOwn fStr 9 a0' c0' st39.2.2 :: L) := SH.ext hS43 hE61
  obtain ⟨x66, hx67, hm⟩ := bindE hm
  refine WL.st (.pointer (some (at_ a0' (Int.toNat st39.2.1 * 1)))) (ST.index (T := fStr.ty) (xs := st39.2.2) (SH.rd (SH.front 0 hS65)) hx67 rfl rfl rfl Tryd.underlying22 (info9).1 (info9).2.1) rfl rfl rfl ?_
  refine WL.store (F := fStr) x58 0 [.string (bs x58)] (SH.front 0 hS65) hL64 hx67 rfl rfl rfl rfl rfl rfl rfl (info9).1 (info9).2.1 rfl rfl rfl ?_
  intro w68 hB69 hS70
  have hb71 : Below B w w68 := Below.trans hb63 hB69
  have hL72 : B ≤ w68.heap.size := Nat.le_trans hL64 hB69.size
  refine WL.sub [(0, .slice a0' ((st39.2.2.set (Int.toNat st39.2.1) x58).length) c0'), (1, .int .i64 st39.1), (5, .int .i64 st39.2.1), (12, .slice a0' ((st39.2.2.set (Int.toNat st39.2.1) x58).length) c0'), (13, .int .i64 st39.2.1), (14, .int .i64 st39.1), (15, .string (bs x58))] ⟨by first | (simp only [List.length_set]; done) | (simp only [List.length_set]; rfl), rfl, rfl, by first | (simp only [List.length_set]; done) | (simp only [List.length_set]; rfl), rfl, rfl, rfl, trivial⟩ ?_
  have hn73 : (st39.2.2.set (Int.toNat st39.2.1) x58).length = a_0.length := List.length_set.trans hn52
  refine WL.sub [(0, .slice a0' ((st39.2.2.set (Int.toNat st39.2.1) x58).length) c0'), (1, .int .i64 st39.1), (5, .int .i64 st39.2.1)] ⟨rfl, rfl, rfl, trivial⟩ ?_
  refine WL.nil ?_
  refine WQ.then_normal (hK57 _ _ _ ?_)
  refine WP.region ?_
  refine WL.runk 3 [0, 1, 5] [(0, .slice a0' ((st39.2.2.set (Int.toNat st39.2.1) x58).length) c0'), (1, .int .i64 (wI64 (st39.1 + 1))), (5, .int .i64 st39.2.1)] (by kernel_rfl) ?_
  refine WL.nil ?_
  refine WQ.block_normal ?_
  refine WQ.then_normal (hK56 _ _ _ ?_)
  refine WP.region ?_
  refine WL.runk 3 [0, 1, 5] [(0, .slice a0' ((st39.2.2.set (Int.toNat st39.2.1) x58).length) c0'), (1, .int .i64 (wI64 (st39.1 + 1))), (5, .int .i64 (wI64 (st39.2.1 + 1)))] (by kernel_rfl) ?_
  refine WL.nil ?_
  obtain rfl := Option.some.inj hm
  exact WQ.round hK46 ⟨((wI64 (st39.1 + 1)), (wI64 (st39.2.1 + 1)), (st39.2.2.set (Int.toNat st39.2.1) x58)), rfl, hb71, hL72, hS70, hn73, hl44⟩ (Nat.lt_succ_self _) ⟨rfl, rfl, rfl, trivial⟩

theorem c_12 (n : Nat) (a_0 : List (List UInt8)) (a0' : Option Addr) (c0' : Nat) (k_1 : Int) (w : World) {r : Int} (hm : m_laws_heldStringS n a_0 k_1 = some r) (h0 : Rd fStr.ty w a0' a_0) (_hle0 : a_0.length ≤ c0') :
    CallV Tryd.prog 12 #[.slice a0' a_0.length c0', .int .i64 k_1] w (fun v w' => v = .int .i64 r ∧ Ext w w') := by
  unfold m_laws_heldStringS at hm
  refine CallV.enter Tryd.func12 rfl (by kernel_rfl) Tryd.ntmps12 (env := [(0, .slice a0' a_0.length c0'), (1, .int .i64 k_1)]) ⟨rfl, rfl, trivial⟩ ?_
  refine WP.seq (fun K1 hK1 => ?_)
  refine WP.region ?_
  refine WL.runk 1 [0, 1] [(0, .slice a0' a_0.length c0'), (1, .int .i64 k_1)] (by kernel_rfl) ?_
  refine WL.nil ?_
  refine WQ.then_normal (hK1 _ _ _ ?_)
  refine WP.seq (fun K2 hK2 => ?_)
  refine WP.seq (fun K3 hK3 => ?_)
  refine WP.region ?_
  refine WL.runk 1 [0, 1, 5] [(0, .slice a0' a_0.length c0'), (1, .int .i64 k_1), (5, .int .i64 0)] (by kernel_rfl) ?_
  refine WL.nil ?_
  refine WQ.then_normal (hK3 _ _ _ ?_)
  refine WP.block ?_
  obtain ⟨t15, ht16, hm⟩ := bindE hm
  have hmo10 := hm; clear hm
  refine WP.sub [(0, .slice a0' a_0.length c0'), (1, .int .i64 k_1), (5, .int .i64 0)] ⟨rfl, rfl, rfl, trivial⟩ ?_
  refine WP.loop (fun n' env' w' => ∃ (st4 : Int × Int) , env' = [(0, .slice a0' a_0.length c0'), (1, .int .i64 st4.1), (5, .int .i64 st4.2)] ∧ Ext w w' ∧ w.heap.size ≤ w'.heap.size ∧ SH w' w.heap.size [] ∧ loopN (m_laws_heldStringS_l1 n a_0) n' st4 = some t15) n ⟨(k_1, 0), rfl, (Ext.refl w), (Nat.le_refl _), (SH.nil _ _), ht16⟩ ?_
  rintro n12 _ w5 ⟨st4, rfl, hb6, hL7, hS8, hl9⟩ K11 hK11
  obtain ⟨n13, s14, rfl, hm, hl9⟩ := loopN_some hl9
  unfold m_laws_heldStringS_l1 at hm
  refine WP.seq (fun K17 hK17 => ?_)
  refine WP.seq (fun K18 hK18 => ?_)
  refine WP.region ?_
  refine WL.runk 4 [0, 1, 5, 9] [(0, .slice a0' a_0.length c0'), (1, .int .i64 st4.1), (5, .int .i64 st4.2), (9, .bool (decide (st4.2 < (a_0.length : Int))))] (by kernel_rfl) ?_
  refine WL.nil ?_
  refine WQ.then_normal (hK18 _ _ _ ?_)
  refine WP.cond (decide (st4.2 < (a_0.length : Int))) rfl rfl (fun hc19 => ?_) (fun hc19 => ?_)
  rotate_left
  · have hm := iteF hm hc19
    refine WP.exit ?_
    refine WQ.then_exit ?_
    refine WQ.then_exit ?_
    refine WQ.block_here ?_
    obtain rfl := Option.some.inj hm
    obtain rfl := afterN_done hl9
    have hm := hmo10
    refine WQ.then_normal (hK2 _ _ _ ?_)
    refine WP.seq (fun K36 hK36 => ?_)
    refine WP.region ?_
    refine WL.runk 2 [4] [(4, .int .i64 st4.1)] (by kernel_rfl) ?_
    refine WL.nil ?_
    refine WQ.then_normal (hK36 _ _ _ ?_)
    refine WP.ret ?_
    obtain rfl := Option.some.inj hm
    exact WQ.ret1 _ rfl rfl ⟨rfl, hb6⟩
  have hm := iteT hm hc19
  refine WP.skip ?_
  refine WQ.then_normal (hK17 _ _ _ ?_)
  refine WP.seq (fun K20 hK20 => ?_)
  refine WP.block ?_
  refine WP.seq (fun K21 hK21 => ?_)
  refine WP.seq (fun K22 hK22 => ?_)
  refine WP.quiet (by kernel_rfl) (by kernel_rfl) ?_
  refine QL.step1v 12 (.slice a0' a_0.length c0') rfl (fun _ => by kernel_rfl) ?_
  refine QL.step1v 13 (.int .i64 st4.2) rfl (fun _ => by kernel_rfl) ?_
  refine QL.subk [0, 1, 5, 12, 13] [(0, .slice a0' a_0.length c0'), (1, .int .i64 st4.1), (5, .int .i64 st4.2), (12, .slice a0' a_0.length c0'), (13, .int .i64 st4.2)] (by kernel_rfl) ?_
  obtain ⟨x23, hx24, hm⟩ := bindE hm
  refine QL.st (.pointer (some (at_ a0' (Int.toNat st4.2 * 1)))) (ST.index (T := fStr.ty) (xs := a_0) (Rd.below h0 hb6) hx24 rfl rfl rfl Tryd.underlying22 (info9).1 (info9).2.1) rfl rfl rfl ?_
  refine QL.st (.string (bs x23)) (ST.load (cell_ext (Rd.flat (F := fStr) (Rd.below h0 hb6) hx24 0 rfl)) rfl rfl Tryd.underlying9 rfl) rfl rfl rfl ?_
  refine QL.step1v 16 (.int .i64 st4.1) rfl (fun _ => by kernel_rfl) ?_
  refine QL.subk [0, 1, 5, 15, 16] [(0, .slice a0' a_0.length c0'), (1, .int .i64 st4.1), (5, .int .i64 st4.2), (15, .string (bs x23)), (16, .int .i64 st4.1)] (by kernel_rfl) ?_
  obtain ⟨x25, hx26, hm⟩ := bindE hm
  refine QL.call 29 #[.int .i64 st4.1] (.string (bs x25)) (fun _ => by kernel_rfl) (fun w27 hE28 => c_29 n st4.1 w27 hx26 ) rfl rfl rfl ?_
  refine QL.st (.bool (!(x23 == x25))) (ST.strne (x := x23) (y := x25) rfl rfl rfl) rfl rfl rfl ?_
  refine QL.subk [0, 1, 5, 18] [(0, .slice a0' a_0.length c0'), (1, .int .i64 st4.1), (5, .int .i64 st4.2), (18, .bool (!(x23 == x25)))] (by kernel_rfl) ?_
  refine QL.nil ?_
  intro w29 hE30
  have hb31 : Ext w w29 := Ext.trans hb6 hE30
  have hL32 : w.heap.size ≤ w29.heap.size := Nat.le_trans hL7 hE30.size
  have hS33 : SH w29 w.heap.size [] := SH.ext hS8 hE30
  refine WQ.then_normal (hK22 _ _ _ ?_)
  refine WP.cond (!(x23 == x25)) rfl rfl (fun hc34 => ?_) (fun hc34 => ?_)
  rotate_left
  · have hm := iteF hm hc34
    refine WP.skip ?_
    refine WQ.then_normal (hK21 _ _ _ ?_)
    refine WP.region ?_
    refine WL.runk 3 [0, 1, 5] [(0, .slice a0' a_0.length c0'), (1, .int .i64 (wI64 (st4.1 + 1))), (5, .int .i64 st4.2)] (by kernel_rfl) ?_
    refine WL.nil ?_
    refine WQ.block_normal ?_
    refine WQ.then_normal (hK20 _ _ _ ?_)
    refine WP.region ?_
    refine WL.runk 3 [0, 1, 5] [(0, .slice a0' a_0.length c0'), (1, .int .i64 (wI64 (st4.1 + 1))), (5, .int .i64 (wI64 (st4.2 + 1)))] (by kernel_rfl) ?_
    refine WL.nil ?_
    obtain rfl := Option.some.inj hm
    exact WQ.round hK11 ⟨((wI64 (st4.1 + 1)), (wI64 (st4.2 + 1))), rfl, hb31, hL32, hS33, hl9⟩ (Nat.lt_succ_self _) ⟨rfl, rfl, rfl, trivial⟩
  have hm := iteT hm hc34
  refine WP.seq (fun K35 hK35 => ?_)
  refine WP.region ?_
  refine WL.runk 1 [4] [(4, .int .i64 (-1))] (by kernel_rfl) ?_
  refine WL.nil ?_
  refine WQ.then_normal (hK35 _ _ _ ?_)
  refine WP.ret ?_
  refine WQ.then_ret ?_
  refine WQ.block_ret ?_
  refine WQ.then_ret ?_
  refine WQ.then_ret ?_
  refine WQ.block_ret ?_
  refine WQ.then_ret ?_
  obtain rfl := Option.some.inj hm
  obtain rfl := afterN_done hl9
  have hm := hmo10
  obtain rfl := Option.some.inj hm
  exact WQ.ret1 _ rfl rfl ⟨rfl, hb31⟩

theorem c_13 (n : Nat) (a_0 : SStyle) (left_1 : Int) (w : World) {r : Int} (hm : m_laws_szStyle n a_0 left_1 = some r)  :
    CallV Tryd.prog 13 #[.agg #[.string (bs a_0.Upper), .string (bs a_0.Color), .string (bs a_0.Lining), .string (bs a_0.Sole), .int .i64 a_0.Thick, .int .i64 a_0.Heel, .int .i64 a_0.Eyelets, .int .i64 a_0.Density, .bool a_0.Double], .int .i64 left_1] w (fun v w' => v = .int .i64 r ∧ Ext w w') := by
  unfold m_laws_szStyle at hm
  refine CallV.enter Tryd.func13 rfl (by kernel_rfl) Tryd.ntmps13 (env := [(0, .agg #[.string (bs a_0.Upper), .string (bs a_0.Color), .string (bs a_0.Lining), .string (bs a_0.Sole), .int .i64 a_0.Thick, .int .i64 a_0.Heel, .int .i64 a_0.Eyelets, .int .i64 a_0.Density, .bool a_0.Double]), (1, .int .i64 left_1)]) ⟨rfl, rfl, trivial⟩ ?_
  refine WP.seq (fun K1 hK1 => ?_)
  refine WP.region ?_
  refine WL.box 29 [.string (bs a_0.Upper), .string (bs a_0.Color), .string (bs a_0.Lining), .string (bs a_0.Sole), .int .i64 a_0.Thick, .int .i64 a_0.Heel, .int .i64 a_0.Eyelets, .int .i64 a_0.Density, .bool a_0.Double] 2 (by kernel_rfl) rfl rfl rfl rfl ?_
  intro b2 w3 hE4 hR5
  have hb7 : Ext w w3 := Ext.trans (Ext.refl w) hE4
  have hL8 : w.heap.size ≤ w3.heap.size := Nat.le_trans (Nat.le_refl _) hE4.size
  have hS9 : SH w3 w.heap.size [aBox 29 b2 [.string (bs a_0.Upper), .string (bs a_0.Color), .string (bs a_0.Lining), .string (bs a_0.Sole), .int .i64 a_0.Thick, .int .i64 a_0.Heel, .int .i64 a_0.Eyelets, .int .i64 a_0.Density, .bool a_0.Double]] := SH.add (SH.nil _ _) hE4 (Nat.le_refl _) hR5
  refine WL.runk 1 [1, 2] [(1, .int .i64 left_1), (2, .pointer (some ⟨b2, 0, none⟩))] (by kernel_rfl) ?_
  refine WL.nil ?_
  refine WQ.then_normal (hK1 _ _ _ ?_)
  refine WP.seq (fun K10 hK10 => ?_)
  refine WP.region ?_
  refine WL.runk 2 [2, 5, 6] [(2, .pointer (some ⟨b2, 0, none⟩)), (5, .int .i64 left_1), (6, .pointer (some ⟨b2, 0, none⟩))] (by kernel_rfl) ?_
  refine WL.st (.string (bs a_0.Upper)) (ST.load (cell_ext (SH.boxAt (SH.front 0 hS9) 0 _ rfl)) rfl rfl Tryd.underlying9 rfl) rfl rfl rfl ?_
  refine WL.runk 3 [1, 2] [(2, .pointer (some ⟨b2, 0, none⟩)), (1, .int .i64 (wI64 (left_1 - (a_0.Upper.length : Int))))] (by kernel_rfl) ?_
  refine WL.nil ?_
  refine WQ.then_normal (hK10 _ _ _ ?_)
  refine WP.seq (fun K11 hK11 => ?_)
  refine WP.seq (fun K12 hK12 => ?_)
  refine WP.region ?_
  refine WL.runk 2 [1, 2, 11] [(2, .pointer (some ⟨b2, 0, none⟩)), (1, .int .i64 (wI64 (left_1 - (a_0.Upper.length : Int)))), (11, .bool (decide ((wI64 (left_1 - (a_0.Upper.length : Int))) < 0)))] (by kernel_rfl) ?_
  refine WL.nil ?_
  refine WQ.then_normal (hK12 _ _ _ ?_)
  refine WP.cond (decide ((wI64 (left_1 - (a_0.Upper.length : Int))) < 0)) rfl rfl (fun hc13 => ?_) (fun hc13 => ?_)
  · have hm := iteT hm hc13
    refine WP.seq (fun K14 hK14 => ?_)
    refine WP.region ?_
    refine WL.runk 1 [4] [(4, .int .i64 (-1))] (by kernel_rfl) ?_
    refine WL.nil ?_
    refine WQ.then_normal (hK14 _ _ _ ?_)
    refine WP.ret ?_
    refine WQ.then_ret ?_
    obtain rfl := Option.some.inj hm
    exact WQ.ret1 _ rfl rfl ⟨rfl, hb7⟩
  have hm := iteF hm hc13
  refine WP.skip ?_
  refine WQ.then_normal (hK11 _ _ _ ?_)
  refine WP.seq (fun K15 hK15 => ?_)
  refine WP.region ?_
  refine WL.runk 2 [2, 12, 13] [(2, .pointer (some ⟨b2, 0, none⟩)), (12, .int .i64 (wI64 (left_1 - (a_0.Upper.length : Int)))), (13, .pointer (some ⟨b2, 1, none⟩))] (by kernel_rfl) ?_
  refine WL.st (.string (bs a_0.Color)) (ST.load (cell_ext (SH.boxAt (SH.front 0 hS9) 1 _ rfl)) rfl rfl Tryd.underlying9 rfl) rfl rfl rfl ?_
  refine WL.runk 3 [1, 2] [(2, .pointer (some ⟨b2, 0, none⟩)), (1, .int .i64 (wI64 ((wI64 (left_1 - (a_0.Upper.length : Int))) - (a_0.Color.length : Int))))] (by kernel_rfl) ?_
  refine WL.nil ?_
  refine WQ.then_normal (hK15 _ _ _ ?_)
  refine WP.seq (fun K16 hK16 => ?_)
  refine WP.seq (fun K17 hK17 => ?_)
  refine WP.region ?_
  refine WL.runk 2 [1, 2, 18] [(2, .pointer (some ⟨b2, 0, none⟩)), (1, .int .i64 (wI64 ((wI64 (left_1 - (a_0.Upper.length : Int))) - (a_0.Color.length : Int)))), (18, .bool (decide ((wI64 ((wI64 (left_1 - (a_0.Upper.length : Int))) - (a_0.Color.length : Int))) < 0)))] (by kernel_rfl) ?_
  refine WL.nil ?_
  refine WQ.then_normal (hK17 _ _ _ ?_)
  refine WP.cond (decide ((wI64 ((wI64 (left_1 - (a_0.Upper.length : Int))) - (a_0.Color.length : Int))) < 0)) rfl rfl (fun hc18 => ?_) (fun hc18 => ?_)
  · have hm := iteT hm hc18
    refine WP.seq (fun K19 hK19 => ?_)
    refine WP.region ?_
    refine WL.runk 1 [4] [(4, .int .i64 (-1))] (by kernel_rfl) ?_
    refine WL.nil ?_
    refine WQ.then_normal (hK19 _ _ _ ?_)
    refine WP.ret ?_
    refine WQ.then_ret ?_
    obtain rfl := Option.some.inj hm
    exact WQ.ret1 _ rfl rfl ⟨rfl, hb7⟩
  have hm := iteF hm hc18
  refine WP.skip ?_
  refine WQ.then_normal (hK16 _ _ _ ?_)
  refine WP.seq (fun K20 hK20 => ?_)
  refine WP.region ?_
  refine WL.runk 2 [2, 19, 20] [(2, .pointer (some ⟨b2, 0, none⟩)), (19, .int .i64 (wI64 ((wI64 (left_1 - (a_0.Upper.length : Int))) - (a_0.Color.length : Int)))), (20, .pointer (some ⟨b2, 2, none⟩))] (by kernel_rfl) ?_
  refine WL.st (.string (bs a_0.Lining)) (ST.load (cell_ext (SH.boxAt (SH.front 0 hS9) 2 _ rfl)) rfl rfl Tryd.underlying9 rfl) rfl rfl rfl ?_
  refine WL.runk 3 [1, 2] [(2, .pointer (some ⟨b2, 0, none⟩)), (1, .int .i64 (wI64 ((wI64 ((wI64 (left_1 - (a_0.Upper.length : Int))) - (a_0.Color.length : Int))) - (a_0.Lining.length : Int))))] (by kernel_rfl) ?_
  refine WL.nil ?_
  refine WQ.then_normal (hK20 _ _ _ ?_)
  refine WP.seq (fun K21 hK21 => ?_)
  refine WP.seq (fun K22 hK22 => ?_)
  refine WP.region ?_
  refine WL.runk 2 [1, 2, 25] [(2, .pointer (some ⟨b2, 0, none⟩)), (1, .int .i64 (wI64 ((wI64 ((wI64 (left_1 - (a_0.Upper.length : Int))) - (a_0.Color.length : Int))) - (a_0.Lining.length : Int)))), (25, .bool (decide ((wI64 ((wI64 ((wI64 (left_1 - (a_0.Upper.length : Int))) - (a_0.Color.length : Int))) - (a_0.Lining.length : Int))) < 0)))] (by kernel_rfl) ?_
  refine WL.nil ?_
  refine WQ.then_normal (hK22 _ _ _ ?_)
  refine WP.cond (decide ((wI64 ((wI64 ((wI64 (left_1 - (a_0.Upper.length : Int))) - (a_0.Color.length : Int))) - (a_0.Lining.length : Int))) < 0)) rfl rfl (fun hc23 => ?_) (fun hc23 => ?_)
  · have hm := iteT hm hc23
    refine WP.seq (fun K24 hK24 => ?_)
    refine WP.region ?_
    refine WL.runk 1 [4] [(4, .int .i64 (-1))] (by kernel_rfl) ?_
    refine WL.nil ?_
    refine WQ.then_normal (hK24 _ _ _ ?_)
    refine WP.ret ?_
    refine WQ.then_ret ?_
    obtain rfl := Option.some.inj hm
    exact WQ.ret1 _ rfl rfl ⟨rfl, hb7⟩
  have hm := iteF hm hc23
  refine WP.skip ?_
  refine WQ.then_normal (hK21 _ _ _ ?_)
  refine WP.seq (fun K25 hK25 => ?_)
  refine WP.region ?_
  refine WL.runk 2 [26, 27] [(26, .int .i64 (wI64 ((wI64 ((wI64 (left_1 - (a_0.Upper.length : Int))) - (a_0.Color.length : Int))) - (a_0.Lining.length : Int)))), (27, .pointer (some ⟨b2, 3, none⟩))] (by kernel_rfl) ?_
  refine WL.st (.string (bs a_0.Sole)) (ST.load (cell_ext (SH.boxAt (SH.front 0 hS9) 3 _ rfl)) rfl rfl Tryd.underlying9 rfl) rfl rfl rfl ?_
  refine WL.runk 3 [1] [(1, .int .i64 (wI64 ((wI64 ((wI64 ((wI64 (left_1 - (a_0.Upper.length : Int))) - (a_0.Color.length : Int))) - (a_0.Lining.length : Int))) - (a_0.Sole.length : Int))))] (by kernel_rfl) ?_
  refine WL.nil ?_
  refine WQ.then_normal (hK25 _ _ _ ?_)
  refine WP.seq (fun K26 hK26 => ?_)
  refine WP.seq (fun K27 hK27 => ?_)
  refine WP.region ?_
  refine WL.runk 2 [1, 32] [(1, .int .i64 (wI64 ((wI64 ((wI64 ((wI64 (left_1 - (a_0.Upper.length : Int))) - (a_0.Color.length : Int))) - (a_0.Lining.length : Int))) - (a_0.Sole.length : Int)))), (32, .bool (decide ((wI64 ((wI64 ((wI64 ((wI64 (left_1 - (a_0.Upper.length : Int))) - (a_0.Color.length : Int))) - (a_0.Lining.length : Int))) - (a_0.Sole.length : Int))) < 0)))] (by kernel_rfl) ?_
  refine WL.nil ?_
  refine WQ.then_normal (hK27 _ _ _ ?_)
  refine WP.cond (decide ((wI64 ((wI64 ((wI64 ((wI64 (left_1 - (a_0.Upper.length : Int))) - (a_0.Color.length : Int))) - (a_0.Lining.length : Int))) - (a_0.Sole.length : Int))) < 0)) rfl rfl (fun hc28 => ?_) (fun hc28 => ?_)
  · have hm := iteT hm hc28
    refine WP.seq (fun K29 hK29 => ?_)
    refine WP.region ?_
    refine WL.runk 1 [4] [(4, .int .i64 (-1))] (by kernel_rfl) ?_
    refine WL.nil ?_
    refine WQ.then_normal (hK29 _ _ _ ?_)
    refine WP.ret ?_
    refine WQ.then_ret ?_
    obtain rfl := Option.some.inj hm
    exact WQ.ret1 _ rfl rfl ⟨rfl, hb7⟩
  have hm := iteF hm hc28
  refine WP.skip ?_
  refine WQ.then_normal (hK26 _ _ _ ?_)
  refine WP.seq (fun K30 hK30 => ?_)
  refine WP.region ?_
  refine WL.runk 2 [4] [(4, .int .i64 (wI64 ((wI64 ((wI64 ((wI64 (left_1 - (a_0.Upper.length : Int))) - (a_0.Color.length : Int))) - (a_0.Lining.length : Int))) - (a_0.Sole.length : Int))))] (by kernel_rfl) ?_
  refine WL.nil ?_
  refine WQ.then_normal (hK30 _ _ _ ?_)
  refine WP.ret ?_
  obtain rfl := Option.some.inj hm
  exact WQ.ret1 _ rfl rfl ⟨rfl, hb7⟩

theorem c_49 (n : Nat) (n_0 : Int) (w : World) {r : List UInt8} (hm : m_spec_l01Dec n n_0 = some r)  :
    CallV Tryd.prog 49 #[.int .i64 n_0] w (fun v w' => v = .string (bs r) ∧ Ext w w') := by
  unfold m_spec_l01Dec at hm
  refine CallV.enter Tryd.func49 rfl (by kernel_rfl) Tryd.ntmps49 (env := [(0, .int .i64 n_0)]) ⟨rfl, trivial⟩ ?_
  refine WP.seq (fun K1 hK1 => ?_)
  refine WP.region ?_
  refine WL.runk 1 [0] [(0, .int .i64 n_0)] (by kernel_rfl) ?_
  refine WL.nil ?_
  refine WQ.then_normal (hK1 _ _ _ ?_)
  refine WP.seq (fun K2 hK2 => ?_)
  refine WP.region ?_
  refine WL.row fU8 5 ([] : List Int) 0 #[] 6 (by kernel_rfl) rfl rfl rfl rfl rfl rfl rfl ?_
  intro a3 c4 w5 hE6 hR7
  have hb9 : Ext w w5 := Ext.trans (Ext.refl w) hE6
  have hL10 : w.heap.size ≤ w5.heap.size := Nat.le_trans (Nat.le_refl _) hE6.size
  have hS11 : SH w5 w.heap.size [aOwn fU8 5 a3 c4 ([] : List Int)] := SH.add (SH.nil _ _) hE6 (Nat.le_refl _) hR7
  refine WL.runk 1 [0, 3] [(0, .int .i64 n_0), (3, .slice a3 (([] : List Int).length) c4)] (by kernel_rfl) ?_
  refine WL.nil ?_
  refine WQ.then_normal (hK2 _ _ _ ?_)
  refine WP.seq (fun K12 hK12 => ?_)
  refine WP.seq (fun K13 hK13 => ?_)
  refine WP.region ?_
  refine WL.runk 2 [0, 3, 4] [(0, .int .i64 n_0), (3, .slice a3 (([] : List Int).length) c4), (4, .int .i64 n_0)] (by kernel_rfl) ?_
  refine WL.nil ?_
  refine WQ.then_normal (hK13 _ _ _ ?_)
  refine WP.block ?_
  obtain ⟨t28, ht29, hm⟩ := bindE hm
  have hmo23 := hm; clear hm
  refine WP.sub [(0, .int .i64 n_0), (3, .slice a3 (([] : List Int).length) c4), (4, .int .i64 n_0)] ⟨rfl, rfl, rfl, trivial⟩ ?_
  refine WP.loop (fun n' env' w' => ∃ (st14 : List Int × Int) (a15 : Option Addr) (c16 : Nat), env' = [(0, .int .i64 n_0), (3, .slice a15 st14.1.length c16), (4, .int .i64 st14.2)] ∧ Ext w w' ∧ w.heap.size ≤ w'.heap.size ∧ SH w' w.heap.size [aOwn fU8 5 a15 c16 st14.1] ∧ loopN (m_spec_l01Dec_l1 n) n' st14 = some t28) n ⟨(([] : List Int), n_0), _, _, rfl, hb9, hL10, hS11, ht29⟩ ?_
  rintro n25 _ w18 ⟨st14, a15, c16, rfl, hb19, hL20, hS21, hl22⟩ K24 hK24
  obtain ⟨n26, s27, rfl, hm, hl22⟩ := loopN_some hl22
  unfold m_spec_l01Dec_l1 at hm
  refine WP.seq (fun K30 hK30 => ?_)
  refine WP.seq (fun K31 hK31 => ?_)
  refine WP.region ?_
  refine WL.runk 2 [0, 3, 4, 9] [(0, .int .i64 n_0), (3, .slice a15 st14.1.length c16), (4, .int .i64 st14.2), (9, .bool (st14.2 != 0))] (by kernel_rfl) ?_
  refine WL.nil ?_
  refine WQ.then_normal (hK31 _ _ _ ?_)
  refine WP.cond (st14.2 != 0) rfl rfl (fun hc32 => ?_) (fun hc32 => ?_)
  · have hm := iteT hm hc32
    refine WP.skip ?_
    refine WQ.then_normal (hK30 _ _ _ ?_)
    refine WP.seq (fun K33 hK33 => ?_)
    refine WP.block ?_
    refine WP.seq (fun K34 hK34 => ?_)
    refine WP.region ?_
    refine WL.runk 3 [0, 3, 4, 5] [(0, .int .i64 n_0), (3, .slice a15 st14.1.length c16), (4, .int .i64 st14.2), (5, .int .i64 (Int.tmod st14.2 10))] (by kernel_rfl) ?_
    refine WL.nil ?_
    refine WQ.then_normal (hK34 _ _ _ ?_)
    refine WP.seq (fun K35 hK35 => ?_)
    refine WP.seq (fun K36 hK36 => ?_)
    refine WP.region ?_
    refine WL.runk 2 [0, 3, 4, 5, 15] [(0, .int .i64 n_0), (3, .slice a15 st14.1.length c16), (4, .int .i64 st14.2), (5, .int .i64 (Int.tmod st14.2 10)), (15, .bool (decide ((Int.tmod st14.2 10) < 0)))] (by kernel_rfl) ?_
    refine WL.nil ?_
    refine WQ.then_normal (hK36 _ _ _ ?_)
    obtain ⟨x38, hx39, hm⟩ := bindE hm
    refine WP.cut (fun env' w' => env' = [(0, .int .i64 n_0), (3, .slice a15 st14.1.length c16), (4, .int .i64 st14.2), (5, .int .i64 x38)] ∧ Ext w w' ∧ w.heap.size ≤ w'.heap.size ∧ SH w' w.heap.size [aOwn fU8 5 a15 c16 st14.1]) ?_ ?_
    · have hm := hx39; clear hx39
      refine WP.cond (decide ((Int.tmod st14.2 10) < 0)) rfl rfl (fun hc37 => ?_) (fun hc37 => ?_)
      rotate_left
      · have hm := iteF hm hc37
        refine WP.skip ?_
        obtain rfl := Option.some.inj hm
        exact WQ.post' ⟨rfl, hb19, hL20, hS21⟩ ⟨rfl, rfl, rfl, rfl, trivial⟩
      have hm := iteT hm hc37
      refine WP.region ?_
      refine WL.runk 3 [0, 3, 4, 5] [(0, .int .i64 n_0), (3, .slice a15 st14.1.length c16), (4, .int .i64 st14.2), (5, .int .i64 (wI64 (0 - (Int.tmod st14.2 10))))] (by kernel_rfl) ?_
      refine WL.nil ?_
      obtain rfl := Option.some.inj hm
      exact WQ.post' ⟨rfl, hb19, hL20, hS21⟩ ⟨rfl, rfl, rfl, rfl, trivial⟩
    clear hx39
    rintro _ w40 ⟨rfl, hb41, hL42, hS43⟩
    refine WQ.then_normal (hK35 _ _ _ ?_)
    refine WP.region ?_
    refine WL.runk 3 [0, 3, 4, 20] [(0, .int .i64 n_0), (3, .slice a15 st14.1.length c16), (4, .int .i64 st14.2), (20, .int .u8 (IntKind.u8.wrap (wI64 (48 + x38))))] (by kernel_rfl) ?_
    refine WL.row fU8 5 ([(IntKind.u8.wrap (wI64 (48 + x38)))] : List Int) 1 #[.int .u8 (IntKind.u8.wrap (wI64 (48 + x38)))] 21 (by kernel_rfl) rfl rfl rfl rfl rfl rfl rfl ?_
    intro a44 c45 w46 hE47 hR48
    have hb50 : Ext w w46 := Ext.trans hb41 hE47
    have hL51 : w.heap.size ≤ w46.heap.size := Nat.le_trans hL42 hE47.size
    have hS52 : SH w46 w.heap.size [aOwn fU8 5 a44 c45 ([(IntKind.u8.wrap (wI64 (48 + x38)))] : List Int), aOwn fU8 5 a15 c16 st14.1] := SH.add hS43 hE47 hL42 hR48
    refine WL.runk 1 [0, 4, 21, 22] [(0, .int .i64 n_0), (4, .int .i64 st14.2), (21, .slice a44 (([(IntKind.u8.wrap (wI64 (48 + x38)))] : List Int).length) c45), (22, .slice a15 st14.1.length c16)] (by kernel_rfl) ?_
    obtain ⟨x53, hx54, hm⟩ := bindE hm
    refine WL.append (F := fU8) (xs := ([(IntKind.u8.wrap (wI64 (48 + x38)))] : List Int)) (ys := st14.1) 23 (SH.front 0 hS52) hL51 (SH.rd (SH.front 1 hS52)) hx54 rfl rfl rfl Tryd.underlying66 (info5).1 (info5).2.2.1 (info5).2.1 (info5).2.2.2 rfl rfl rfl rfl rfl ?_
    intro a55 c56 w57 hB58 hS59
    have hb60 : Ext w w57 := Below.trans hb50 hB58
    have hL61 : w.heap.size ≤ w57.heap.size := Nat.le_trans hL51 hB58.size
    refine WL.runk 1 [0, 3, 4] [(0, .int .i64 n_0), (4, .int .i64 st14.2), (3, .slice a55 x53.length c56)] (by kernel_rfl) ?_
    refine WL.nil ?_
    refine WQ.block_normal ?_
    refine WQ.then_normal (hK33 _ _ _ ?_)
    refine WP.region ?_
    refine WL.runk 3 [0, 3, 4] [(0, .int .i64 n_0), (4, .int .i64 (wI64 (Int.tdiv st14.2 10))), (3, .slice a55 x53.length c56)] (by kernel_rfl) ?_
    refine WL.nil ?_
    obtain rfl := Option.some.inj hm
    exact WQ.round hK24 ⟨(x53, (wI64 (Int.tdiv st14.2 10))), _, _, rfl, hb60, hL61, (SH.take 1 hS59), hl22⟩ (Nat.lt_succ_self _) ⟨rfl, rfl, rfl, trivial⟩
  have hm := iteF hm hc32
  refine WP.exit ?_
  refine WQ.then_exit ?_
  refine WQ.then_exit ?_
  refine WQ.block_here ?_
  obtain rfl := Option.some.inj hm
  obtain rfl := afterN_done hl22
  have hm := hmo23
  refine WQ.then_normal (hK12 _ _ _ ?_)
  refine WP.seq (fun K62 hK62 => ?_)
  refine WP.seq (fun K63 hK63 => ?_)
  refine WP.region ?_
  refine WL.runk 3 [0, 3, 26] [(0, .int .i64 n_0), (3, .slice a15 st14.1.length c16), (26, .bool ((st14.1.length : Int) == 0))] (by kernel_rfl) ?_
  refine WL.nil ?_
  refine WQ.then_normal (hK63 _ _ _ ?_)
  refine WP.cond ((st14.1.length : Int) == 0) rfl rfl (fun hc64 => ?_) (fun hc64 => ?_)
  · have hm := iteT hm hc64
    refine WP.seq (fun K65 hK65 => ?_)
    refine WP.region ?_
    refine WL.runk 1 [2] [(2, .string (bs [48]))] (by kernel_rfl) ?_
    refine WL.nil ?_
    refine WQ.then_normal (hK65 _ _ _ ?_)
    refine WP.ret ?_
    refine WQ.then_ret ?_
    obtain rfl := Option.some.inj hm
    exact WQ.ret1 _ rfl rfl ⟨rfl, hb19⟩
  have hm := iteF hm hc64
  refine WP.skip ?_
  refine WQ.then_normal (hK62 _ _ _ ?_)
  refine WP.seq (fun K66 hK66 => ?_)
  refine WP.seq (fun K67 hK67 => ?_)
  refine WP.region ?_
  refine WL.runk 2 [3, 28] [(3, .slice a15 st14.1.length c16), (28, .bool (decide (n_0 < 0)))] (by kernel_rfl) ?_
  refine WL.nil ?_
  refine WQ.then_normal (hK67 _ _ _ ?_)
  refine WP.cond (decide (n_0 < 0)) rfl rfl (fun hc68 => ?_) (fun hc68 => ?_)
  rotate_left
  · have hm := iteF hm hc68
    refine WP.skip ?_
    refine WQ.then_normal (hK66 _ _ _ ?_)
    refine WP.seq (fun K72 hK72 => ?_)
    refine WP.region ?_
    refine WL.runk 1 [32] [(32, .slice a15 st14.1.length c16)] (by kernel_rfl) ?_
    refine WL.st (.string (bs (ofBytes st14.1))) (ST.b2s (SH.rd (SH.front 0 hS21)) (SH.le (SH.front 0 hS21)).2 rfl rfl Tryd.underlying66 Tryd.underlying9 Tryd.underlying5) rfl rfl rfl ?_
    refine WL.runk 1 [2] [(2, .string (bs (ofBytes st14.1)))] (by kernel_rfl) ?_
    refine WL.nil ?_
    refine WQ.then_normal (hK72 _ _ _ ?_)
    refine WP.ret ?_
    obtain rfl := Option.some.inj hm
    exact WQ.ret1 _ rfl rfl ⟨rfl, hb19⟩
  have hm := iteT hm hc68
  refine WP.seq (fun K69 hK69 => ?_)
  refine WP.region ?_
  refine WL.runk 1 [29] [(29, .slice a15 st14.1.length c16)] (by kernel_rfl) ?_
  refine WL.st (.string (bs (ofBytes st14.1))) (ST.b2s (SH.rd (SH.front 0 hS21)) (SH.le (SH.front 0 hS21)).2 rfl rfl Tryd.underlying66 Tryd.underlying9 Tryd.underlying5) rfl rfl rfl ?_
  obtain ⟨x70, hx71, hm⟩ := bindE hm
  refine WL.st (.string (bs x70)) (ST.cat hx71 rfl rfl rfl) rfl rfl rfl ?_
  refine WL.runk 1 [2] [(2, .string (bs x70))] (by kernel_rfl) ?_
  refine WL.nil ?_
  refine WQ.then_normal (hK69 _ _ _ ?_)
  refine WP.ret ?_
  refine WQ.then_ret ?_
  obtain rfl := Option.some.inj hm
  exact WQ.ret1 _ rfl rfl ⟨rfl, hb19⟩

theorem c_31 (n : Nat) (x_0 : SStyle) (b0' o0' : Nat) (w : World) {r : List (List UInt8)} (hm : m_spec_l24Texts n x_0 = some r) (h0 : RdB w b0' o0' [.string (bs x_0.Upper), .string (bs x_0.Color), .string (bs x_0.Lining), .string (bs x_0.Sole), .int .i64 x_0.Thick, .int .i64 x_0.Heel, .int .i64 x_0.Eyelets, .int .i64 x_0.Density, .bool x_0.Double]) :
    CallV Tryd.prog 31 #[.pointer (some ⟨b0', o0', none⟩)] w (fun v w' => ∃ (ra0 : Option Addr) (rc0 : Nat), v = .slice ra0 r.length rc0 ∧ Ext w w' ∧ SH w' w.heap.size [aOwn fStr 9 ra0 rc0 r]) := by
  unfold m_spec_l24Texts at hm
  refine CallV.enter Tryd.func31 rfl (by kernel_rfl) Tryd.ntmps31 (env := [(0, .pointer (some ⟨b0', o0', none⟩))]) ⟨rfl, trivial⟩ ?_
  refine WP.seq (fun K1 hK1 => ?_)
  refine WP.region ?_
  refine WL.runk 1 [0] [(0, .pointer (some ⟨b0', o0', none⟩))] (by kernel_rfl) ?_
  refine WL.nil ?_
  refine WQ.then_normal (hK1 _ _ _ ?_)
  refine WP.seq (fun K2 hK2 => ?_)
  refine WP.open (n := 25) (by kernel_rfl) rfl (fun w3 hE4 => ?_)
  have hb5 : Ext w w3 := Ext.trans (Ext.refl w) hE4
  have hL6 : w.heap.size ≤ w3.heap.size := Nat.le_trans (Nat.le_refl _) hE4.size
  have hS7 : SH w3 w.heap.size [] := SH.ext (SH.nil _ _) hE4
  refine WA.quiet (f' := 2) (D' := [0, 1, 2, 3, 4, 5, 6, 7, 8, 9, 10, 11, 12, 13, 14, 15, 16, 17, 18, 19, 20, 21, 22]) [0, 1, 2, 3, 4, 5, 6, 7, 8, 9, 10, 11, 12, 13, 14, 15, 16, 17, 18, 19, 20, 21, 22] rfl rfl (by kernel_rfl) ?_
  refine QL.step1v 4 (.pointer (some ⟨b0', o0', none⟩)) rfl (fun _ => by kernel_rfl) ?_
  refine QL.step1v 5 (.pointer (some ⟨b0', o0', none⟩)) rfl (fun _ => by kernel_rfl) ?_
  refine QL.step1v 6 (.pointer (some ⟨b0', o0', none⟩)) rfl (fun _ => by kernel_rfl) ?_
  refine QL.subk [0, 6] [(0, .pointer (some ⟨b0', o0', none⟩)), (6, .pointer (some ⟨b0', o0', none⟩))] (by kernel_rfl) ?_
  refine QL.st (.string (bs x_0.Upper)) (ST.load (cell_ext (RdB.at (RdB.below h0 hb5) 0 _ rfl)) rfl rfl Tryd.underlying9 rfl) rfl rfl rfl ?_
  obtain ⟨x8, hx9, hm⟩ := bindE hm
  refine QL.st (.string (bs x8)) (ST.cat hx9 rfl rfl rfl) rfl rfl rfl ?_
  obtain ⟨x10, hx11, hm⟩ := bindE hm
  refine QL.st (.string (bs x10)) (ST.cat hx11 rfl rfl rfl) rfl rfl rfl ?_
  refine QL.step1v 10 (.pointer (some ⟨b0', o0', none⟩)) rfl (fun _ => by kernel_rfl) ?_
  refine QL.step1v 11 (.pointer (some ⟨b0', o0', none⟩)) rfl (fun _ => by kernel_rfl) ?_
  refine QL.step1v 12 (.pointer (some ⟨b0', o0' + 1, none⟩)) rfl (fun _ => by kernel_rfl) ?_
  refine QL.subk [0, 9, 12] [(0, .pointer (some ⟨b0', o0', none⟩)), (9, .string (bs x10)), (12, .pointer (some ⟨b0', o0' + 1, none⟩))] (by kernel_rfl) ?_
  refine QL.st (.string (bs x_0.Color)) (ST.load (cell_ext (RdB.at (RdB.below h0 hb5) 1 _ rfl)) rfl rfl Tryd.underlying9 rfl) rfl rfl rfl ?_
  obtain ⟨x12, hx13, hm⟩ := bindE hm
  refine QL.st (.string (bs x12)) (ST.cat hx13 rfl rfl rfl) rfl rfl rfl ?_
  refine QL.step1v 15 (.pointer (some ⟨b0', o0', none⟩)) rfl (fun _ => by kernel_rfl) ?_
  refine QL.step1v 16 (.pointer (some ⟨b0', o0', none⟩)) rfl (fun _ => by kernel_rfl) ?_
  refine QL.step1v 17 (.pointer (some ⟨b0', o0' + 3, none⟩)) rfl (fun _ => by kernel_rfl) ?_
  refine QL.subk [0, 14, 17] [(0, .pointer (some ⟨b0', o0', none⟩)), (14, .string (bs x12)), (17, .pointer (some ⟨b0', o0' + 3, none⟩))] (by kernel_rfl) ?_
  refine QL.st (.string (bs x_0.Sole)) (ST.load (cell_ext (RdB.at (RdB.below h0 hb5) 3 _ rfl)) rfl rfl Tryd.underlying9 rfl) rfl rfl rfl ?_
  obtain ⟨x14, hx15, hm⟩ := bindE hm
  refine QL.st (.string (bs x14)) (ST.cat hx15 rfl rfl rfl) rfl rfl rfl ?_
  obtain ⟨x16, hx17, hm⟩ := bindE hm
  refine QL.st (.string (bs x16)) (ST.cat hx17 rfl rfl rfl) rfl rfl rfl ?_
  refine QL.step1v 21 (.pointer (some ⟨b0', o0', none⟩)) rfl (fun _ => by kernel_rfl) ?_
  refine QL.step1v 22 (.pointer (some ⟨b0', o0', none⟩)) rfl (fun _ => by kernel_rfl) ?_
  refine QL.step1v 23 (.pointer (some ⟨b0', o0' + 4, none⟩)) rfl (fun _ => by kernel_rfl) ?_
  refine QL.subk [0, 14, 20, 23] [(0, .pointer (some ⟨b0', o0', none⟩)), (14, .string (bs x12)), (20, .string (bs x16)), (23, .pointer (some ⟨b0', o0' + 4, none⟩))] (by kernel_rfl) ?_
  refine QL.st (.int .i64 x_0.Thick) (ST.load (cell_ext (RdB.at (RdB.below h0 hb5) 4 _ rfl)) rfl rfl Tryd.underlying2 rfl) rfl rfl rfl ?_
  obtain ⟨x18, hx19, hm⟩ := bindE hm
  refine QL.call 49 #[.int .i64 x_0.Thick] (.string (bs x18)) (fun _ => by kernel_rfl) (fun w20 hE21 => c_49 n x_0.Thick w20 hx19 ) rfl rfl rfl ?_
  obtain ⟨x22, hx23, hm⟩ := bindE hm
  refine QL.st (.string (bs x22)) (ST.cat hx23 rfl rfl rfl) rfl rfl rfl ?_
  refine QL.subk [0, 14, 26] [(0, .pointer (some ⟨b0', o0', none⟩)), (14, .string (bs x12)), (26, .string (bs x22))] (by kernel_rfl) ?_
  refine QL.nil ?_
  intro w24 hE25
  have hb26 : Ext w w24 := Ext.trans hb5 hE25
  have hL27 : w.heap.size ≤ w24.heap.size := Nat.le_trans hL6 hE25.size
  have hS28 : SH w24 w.heap.size [] := SH.ext hS7 hE25
  refine WA.one (i := 23) (D' := [0, 1, 2, 3, 4, 5, 6, 7, 8, 9, 10, 11, 12, 13, 14, 15, 16, 17, 18, 19, 20, 21, 22, 23]) rfl rfl (by kernel_rfl) ?_
  refine WL.row fStr 9 ([x12, [], x22, [], [], []] : List (List UInt8)) 6 #[.string (bs x12), .string (bs []), .string (bs x22), .string (bs []), .string (bs []), .string (bs [])] 27 (by kernel_rfl) rfl rfl rfl rfl rfl rfl rfl ?_
  intro a29 c30 w31 hE32 hR33
  have hb35 : Ext w w31 := Ext.trans hb26 hE32
  have hL36 : w.heap.size ≤ w31.heap.size := Nat.le_trans hL27 hE32.size
  have hS37 : SH w31 w.heap.size [aOwn fStr 9 a29 c30 ([x12, [], x22, [], [], []] : List (List UInt8))] := SH.add hS28 hE32 hL27 hR33
  refine WL.sub [(0, .pointer (some ⟨b0', o0', none⟩)), (27, .slice a29 (([x12, [], x22, [], [], []] : List (List UInt8)).length) c30)] ⟨rfl, rfl, trivial⟩ ?_
  refine WL.nil ?_
  refine WA.one (i := 24) (D' := [0, 1, 2, 3, 4, 5, 6, 7, 8, 9, 10, 11, 12, 13, 14, 15, 16, 17, 18, 19, 20, 21, 22, 23, 24]) rfl rfl (by kernel_rfl) ?_
  refine WL.runk 1 [0, 3] [(0, .pointer (some ⟨b0', o0', none⟩)), (3, .slice a29 (([x12, [], x22, [], [], []] : List (List UInt8)).length) c30)] (by kernel_rfl) ?_
  refine WL.nil ?_
  refine WA.done (by kernel_rfl) ?_
  refine WQ.then_normal (hK2 _ _ _ ?_)
  refine WP.seq (fun K38 hK38 => ?_)
  refine WP.seq (fun K39 hK39 => ?_)
  refine WP.region ?_
  refine WL.runk 3 [0, 3, 30] [(0, .pointer (some ⟨b0', o0', none⟩)), (3, .slice a29 (([x12, [], x22, [], [], []] : List (List UInt8)).length) c30), (30, .pointer (some ⟨b0', o0' + 2, none⟩))] (by kernel_rfl) ?_
  refine WL.st (.string (bs x_0.Lining)) (ST.load (cell_ext (RdB.at (RdB.below h0 hb35) 2 _ rfl)) rfl rfl Tryd.underlying9 rfl) rfl rfl rfl ?_
  refine WL.st (.bool (!(x_0.Lining == []))) (ST.strne (x := x_0.Lining) (y := []) rfl rfl rfl) rfl rfl rfl ?_
  refine WL.sub [(0, .pointer (some ⟨b0', o0', none⟩)), (3, .slice a29 (([x12, [], x22, [], [], []] : List (List UInt8)).length) c30), (32, .bool (!(x_0.Lining == [])))] ⟨rfl, rfl, rfl, trivial⟩ ?_
  refine WL.nil ?_
  refine WQ.then_normal (hK39 _ _ _ ?_)
  obtain ⟨x70, hx71, hm⟩ := bindE hm
  refine WP.cut (fun env' w' => env' = [(0, .pointer (some ⟨b0', o0', none⟩)), (3, .slice a29 x70.length c30)] ∧ Ext w w' ∧ w.heap.size ≤ w'.heap.size ∧ SH w' w.heap.size [aOwn fStr 9 a29 c30 x70]) ?_ ?_
  · have hm := hx71; clear hx71
    refine WP.cond (!(x_0.Lining == [])) rfl rfl (fun hc40 => ?_) (fun hc40 => ?_)
    rotate_left
    · have hm := iteF hm hc40
      refine WP.skip ?_
      obtain rfl := Option.some.inj hm
      exact WQ.post' ⟨rfl, hb35, hL36, hS37⟩ ⟨rfl, rfl, trivial⟩
    have hm := iteT hm hc40
    refine WP.region ?_
    refine WL.runk 4 [0, 3, 33, 36] [(0, .pointer (some ⟨b0', o0', none⟩)), (3, .slice a29 (([x12, [], x22, [], [], []] : List (List UInt8)).length) c30), (33, .slice a29 (([x12, [], x22, [], [], []] : List (List UInt8)).length) c30), (36, .pointer (some ⟨b0', o0' + 2, none⟩))] (by kernel_rfl) ?_
    refine WL.st (.string (bs x_0.Lining)) (ST.load (cell_ext (RdB.at (RdB.below h0 hb35) 2 _ rfl)) rfl rfl Tryd.underlying9 rfl) rfl rfl rfl ?_
    obtain ⟨x72, hx73, hm⟩ := bindE hm
    refine WL.st (.string (bs x72)) (ST.cat hx73 rfl rfl rfl) rfl rfl rfl ?_
    obtain ⟨x74, hx75, hm⟩ := bindE hm
    refine WL.st (.pointer (some (at_ a29 (Int.toNat 1 * 1)))) (ST.index (T := fStr.ty) (xs := ([x12, [], x22, [], [], []] : List (List UInt8))) (SH.rd (SH.front 0 hS37)) hx75 rfl rfl rfl Tryd.underlying22 (info9).1 (info9).2.1) rfl rfl rfl ?_
    refine WL.store (F := fStr) x72 0 [.string (bs x72)] (SH.front 0 hS37) hL36 hx75 rfl rfl rfl rfl rfl rfl rfl (info9).1 (info9).2.1 rfl rfl rfl ?_
    intro w76 hB77 hS78
    have hb79 : Ext w w76 := Below.trans hb35 hB77
    have hL80 : w.heap.size ≤ w76.heap.size := Nat.le_trans hL36 hB77.size
    refine WL.sub [(0, .pointer (some ⟨b0', o0', none⟩)), (3, .slice a29 ((([x12, [], x22, [], [], []] : List (List UInt8)).set (Int.toNat 1) x72).length) c30), (33, .slice a29 ((([x12, [], x22, [], [], []] : List (List UInt8)).set (Int.toNat 1) x72).length) c30), (36, .pointer (some ⟨b0', o0' + 2, none⟩)), (37, .string (bs x_0.Lining)), (38, .string (bs x72))] ⟨rfl, by first | (simp only [List.length_set]; done) | (simp only [List.length_set]; rfl), by first | (simp only [List.length_set]; done) | (simp only [List.length_set]; rfl), rfl, rfl, rfl, trivial⟩ ?_
    refine WL.sub [(0, .pointer (some ⟨b0', o0', none⟩)), (3, .slice a29 ((([x12, [], x22, [], [], []] : List (List UInt8)).set (Int.toNat 1) x72).length) c30)] ⟨rfl, rfl, trivial⟩ ?_
    refine WL.nil ?_
    obtain rfl := Option.some.inj hm
    exact WQ.post' ⟨rfl, hb79, hL80, hS78⟩ ⟨rfl, rfl, trivial⟩
  clear hx71
  rintro _ w81 ⟨rfl, hb82, hL83, hS84⟩
  refine WQ.then_normal (hK38 _ _ _ ?_)
  refine WP.seq (fun K85 hK85 => ?_)
  refine WP.seq (fun K86 hK86 => ?_)
  refine WP.region ?_
  refine WL.runk 3 [0, 3, 42] [(0, .pointer (some ⟨b0', o0', none⟩)), (3, .slice a29 x70.length c30), (42, .pointer (some ⟨b0', o0' + 5, none⟩))] (by kernel_rfl) ?_
  refine WL.st (.int .i64 x_0.Heel) (ST.load (cell_ext (RdB.at (RdB.below h0 hb82) 5 _ rfl)) rfl rfl Tryd.underlying2 rfl) rfl rfl rfl ?_
  refine WL.runk 1 [0, 3, 44] [(0, .pointer (some ⟨b0', o0', none⟩)), (3, .slice a29 x70.length c30), (44, .bool (x_0.Heel != 0))] (by kernel_rfl) ?_
  refine WL.nil ?_
  refine WQ.then_normal (hK86 _ _ _ ?_)
  obtain ⟨x141, hx142, hm⟩ := bindE hm
  refine WP.cut (fun env' w' => env' = [(0, .pointer (some ⟨b0', o0', none⟩)), (3, .slice a29 x141.length c30)] ∧ Ext w w' ∧ w.heap.size ≤ w'.heap.size ∧ SH w' w.heap.size [aOwn fStr 9 a29 c30 x141]) ?_ ?_
  · have hm := hx142; clear hx142
    refine WP.cond (x_0.Heel != 0) rfl rfl (fun hc87 => ?_) (fun hc87 => ?_)
    rotate_left
    · have hm := iteF hm hc87
      refine WP.skip ?_
      obtain rfl := Option.some.inj hm
      exact WQ.post' ⟨rfl, hb82, hL83, hS84⟩ ⟨rfl, rfl, trivial⟩
    have hm := iteT hm hc87
    refine WP.region ?_
    refine WL.runk 4 [0, 3, 45, 48] [(0, .pointer (some ⟨b0', o0', none⟩)), (3, .slice a29 x70.length c30), (45, .slice a29 x70.length c30), (48, .pointer (some ⟨b0', o0' + 5, none⟩))] (by kernel_rfl) ?_
    refine WL.st (.int .i64 x_0.Heel) (ST.load (cell_ext (RdB.at (RdB.below h0 hb82) 5 _ rfl)) rfl rfl Tryd.underlying2 rfl) rfl rfl rfl ?_
    obtain ⟨x143, hx144, hm⟩ := bindE hm
    refine WL.call 49 #[.int .i64 x_0.Heel] rfl rfl (by kernel_rfl) (c_49 n x_0.Heel w81 hx144 ) ?_
    rintro _ w145 ⟨rfl, hE146⟩
    refine ⟨_, rfl, ?_⟩
    have hb148 : Ext w w145 := Ext.trans hb82 hE146
    have hL149 : w.heap.size ≤ w145.heap.size := Nat.le_trans hL83 hE146.size
    have hS150 : SH w145 w.heap.size [aOwn fStr 9 a29 c30 x70] := SH.ext hS84 hE146
    obtain ⟨x151, hx152, hm⟩ := bindE hm
    refine WL.st (.string (bs x151)) (ST.cat hx152 rfl rfl rfl) rfl rfl rfl ?_
    obtain ⟨x153, hx154, hm⟩ := bindE hm
    refine WL.st (.pointer (some (at_ a29 (Int.toNat 3 * 1)))) (ST.index (T := fStr.ty) (xs := x70) (SH.rd (SH.front 0 hS150)) hx154 rfl rfl rfl Tryd.underlying22 (info9).1 (info9).2.1) rfl rfl rfl ?_
    refine WL.store (F := fStr) x151 0 [.string (bs x151)] (SH.front 0 hS150) hL149 hx154 rfl rfl rfl rfl rfl rfl rfl (info9).1 (info9).2.1 rfl rfl rfl ?_
    intro w155 hB156 hS157
    have hb158 : Ext w w155 := Below.trans hb148 hB156
    have hL159 : w.heap.size ≤ w155.heap.size := Nat.le_trans hL149 hB156.size
    refine WL.sub [(0, .pointer (some ⟨b0', o0', none⟩)), (3, .slice a29 ((x70.set (Int.toNat 3) x151).length) c30), (45, .slice a29 ((x70.set (Int.toNat 3) x151).length) c30), (48, .pointer (some ⟨b0', o0' + 5, none⟩)), (49, .int .i64 x_0.Heel), (50, .string (bs x143)), (51, .string (bs x151))] ⟨rfl, by first | (simp only [List.length_set]; done) | (simp only [List.length_set]; rfl), by first | (simp only [List.length_set]; done) | (simp only [List.length_set]; rfl), rfl, rfl, rfl, rfl, trivial⟩ ?_
    refine WL.sub [(0, .pointer (some ⟨b0', o0', none⟩)), (3, .slice a29 ((x70.set (Int.toNat 3) x151).length) c30)] ⟨rfl, rfl, trivial⟩ ?_
    refine WL.nil ?_
    obtain rfl := Option.some.inj hm
    exact WQ.post' ⟨rfl, hb158, hL159, hS157⟩ ⟨rfl, rfl, trivial⟩
  clear hx142
  rintro _ w160 ⟨rfl, hb161, hL162, hS163⟩
  refine WQ.then_normal (hK85 _ _ _ ?_)
  refine WP.seq (fun K164 hK164 => ?_)
  refine WP.seq (fun K165 hK165 => ?_)
  refine WP.region ?_
  refine WL.runk 3 [0, 3, 55] [(0, .pointer (some ⟨b0', o0', none⟩)), (3, .slice a29 x141.length c30), (55, .pointer (some ⟨b0', o0' + 6, none⟩))] (by kernel_rfl) ?_
  refine WL.st (.int .i64 x_0.Eyelets) (ST.load (cell_ext (RdB.at (RdB.below h0 hb161) 6 _ rfl)) rfl rfl Tryd.underlying2 rfl) rfl rfl rfl ?_
  refine WL.runk 1 [0, 3, 57] [(0, .pointer (some ⟨b0', o0', none⟩)), (3, .slice a29 x141.length c30), (57, .bool (x_0.Eyelets != 0))] (by kernel_rfl) ?_
  refine WL.nil ?_
  refine WQ.then_normal (hK165 _ _ _ ?_)
  obtain ⟨x220, hx221, hm⟩ := bindE hm
  refine WP.cut (fun env' w' => env' = [(0, .pointer (some ⟨b0', o0', none⟩)), (3, .slice a29 x220.length c30)] ∧ Ext w w' ∧ w.heap.size ≤ w'.heap.size ∧ SH w' w.heap.size [aOwn fStr 9 a29 c30 x220]) ?_ ?_
  · have hm := hx221; clear hx221
    refine WP.cond (x_0.Eyelets != 0) rfl rfl (fun hc166 => ?_) (fun hc166 => ?_)
    rotate_left
    · have hm := iteF hm hc166
      refine WP.skip ?_
      obtain rfl := Option.some.inj hm
      exact WQ.post' ⟨rfl, hb161, hL162, hS163⟩ ⟨rfl, rfl, trivial⟩
    have hm := iteT hm hc166
    refine WP.region ?_
    refine WL.runk 4 [0, 3, 58, 61] [(0, .pointer (some ⟨b0', o0', none⟩)), (3, .slice a29 x141.length c30), (58, .slice a29 x141.length c30), (61, .pointer (some ⟨b0', o0' + 6, none⟩))] (by kernel_rfl) ?_
    refine WL.st (.int .i64 x_0.Eyelets) (ST.load (cell_ext (RdB.at (RdB.below h0 hb161) 6 _ rfl)) rfl rfl Tryd.underlying2 rfl) rfl rfl rfl ?_
    obtain ⟨x222, hx223, hm⟩ := bindE hm
    refine WL.call 49 #[.int .i64 x_0.Eyelets] rfl rfl (by kernel_rfl) (c_49 n x_0.Eyelets w160 hx223 ) ?_
    rintro _ w224 ⟨rfl, hE225⟩
    refine ⟨_, rfl, ?_⟩
    have hb227 : Ext w w224 := Ext.trans hb161 hE225
    have hL228 : w.heap.size ≤ w224.heap.size := Nat.le_trans hL162 hE225.size
    have hS229 : SH w224 w.heap.size [aOwn fStr 9 a29 c30 x141] := SH.ext hS163 hE225
    obtain ⟨x230, hx231, hm⟩ := bindE hm
    refine WL.st (.string (bs x230)) (ST.cat hx231 rfl rfl rfl) rfl rfl rfl ?_
    obtain ⟨x232, hx233, hm⟩ := bindE hm
    refine WL.st (.pointer (some (at_ a29 (Int.toNat 4 * 1)))) (ST.index (T := fStr.ty) (xs := x141) (SH.rd (SH.front 0 hS229)) hx233 rfl rfl rfl Tryd.underlying22 (info9).1 (info9).2.1) rfl rfl rfl ?_
    refine WL.store (F := fStr) x230 0 [.string (bs x230)] (SH.front 0 hS229) hL228 hx233 rfl rfl rfl rfl rfl rfl rfl (info9).1 (info9).2.1 rfl rfl rfl ?_
    intro w234 hB235 hS236
    have hb237 : Ext w w234 := Below.trans hb227 hB235
    have hL238 : w.heap.size ≤ w234.heap.size := Nat.le_trans hL228 hB235.size
    refine WL.sub [(0, .pointer (some ⟨b0', o0', none⟩)), (3, .slice a29 ((x141.set (Int.toNat 4) x230).length) c30), (58, .slice a29 ((x141.set (Int.toNat 4) x230).length) c30), (61, .pointer (some ⟨b0', o0' + 6, none⟩)), (62, .int .i64 x_0.Eyelets), (63, .string (bs x222)), (64, .string (bs x230))] ⟨rfl, by first | (simp only [List.length_set]; done) | (simp only [List.length_set]; rfl), by first | (simp only [List.length_set]; done) | (simp only [List.length_set]; rfl), rfl, rfl, rfl, rfl, trivial⟩ ?_
    refine WL.sub [(0, .pointer (some ⟨b0', o0', none⟩)), (3, .slice a29 ((x141.set (Int.toNat 4) x230).length) c30)] ⟨rfl, rfl, trivial⟩ ?_
    refine WL.nil ?_
    obtain rfl := Option.some.inj hm
    exact WQ.post' ⟨rfl, hb237, hL238, hS236⟩ ⟨rfl, rfl, trivial⟩
  clear hx221
  rintro _ w239 ⟨rfl, hb240, hL241, hS242⟩
  refine WQ.then_normal (hK164 _ _ _ ?_)
  refine WP.seq (fun K243 hK243 => ?_)
  refine WP.seq (fun K244 hK244 => ?_)
  obtain ⟨x246, hx247, hm⟩ := bindE hm
  refine WP.cut (fun env' w' => env' = [(0, .pointer (some ⟨b0', o0', none⟩)), (3, .slice a29 x220.length c30), (76, .bool x246)] ∧ Ext w w' ∧ w.heap.size ≤ w'.heap.size ∧ SH w' w.heap.size [aOwn fStr 9 a29 c30 x220]) ?_ ?_
  · have hm := hx247; clear hx247
    refine WP.region ?_
    refine WL.runk 3 [0, 3, 68] [(0, .pointer (some ⟨b0', o0', none⟩)), (3, .slice a29 x220.length c30), (68, .pointer (some ⟨b0', o0' + 7, none⟩))] (by kernel_rfl) ?_
    refine WL.st (.int .i64 x_0.Density) (ST.load (cell_ext (RdB.at (RdB.below h0 hb240) 7 _ rfl)) rfl rfl Tryd.underlying2 rfl) rfl rfl rfl ?_
    refine WL.runk 2 [0, 3, 71] [(0, .pointer (some ⟨b0', o0', none⟩)), (3, .slice a29 x220.length c30), (71, .bool (x_0.Density != 0))] (by kernel_rfl) ?_
    refine WL.case (x_0.Density != 0) [71] ⟨rfl, trivial⟩ (fun hc248 => ?_) (fun hc248 => ?_)
    · have hm := iteT hm hc248
      refine WL.runk 5 [0, 3, 76] [(0, .pointer (some ⟨b0', o0', none⟩)), (3, .slice a29 x220.length c30), (76, .bool true)] (by kernel_rfl) ?_
      refine WL.nil ?_
      obtain rfl := Option.some.inj hm
      exact WQ.post' ⟨rfl, hb240, hL241, hS242⟩ ⟨rfl, rfl, rfl, trivial⟩
    have hm := iteF hm hc248
    refine WL.runk 3 [0, 3, 71, 74] [(0, .pointer (some ⟨b0', o0', none⟩)), (3, .slice a29 x220.length c30), (71, .bool false), (74, .pointer (some ⟨b0', o0' + 8, none⟩))] (by kernel_rfl) ?_
    refine WL.st (.bool x_0.Double) (ST.load (cell_ext (RdB.at (RdB.below h0 hb240) 8 _ rfl)) rfl rfl Tryd.underlying4 rfl) rfl rfl rfl ?_
    refine WL.runk 1 [0, 3, 76] [(0, .pointer (some ⟨b0', o0', none⟩)), (3, .slice a29 x220.length c30), (76, .bool x_0.Double)] (by kernel_rfl) ?_
    refine WL.nil ?_
    obtain rfl := Option.some.inj hm
    exact WQ.post' ⟨rfl, hb240, hL241, hS242⟩ ⟨rfl, rfl, rfl, trivial⟩
  clear hx247
  rintro _ w249 ⟨rfl, hb250, hL251, hS252⟩
  refine WQ.then_normal (hK244 _ _ _ ?_)
  obtain ⟨x307, hx308, hm⟩ := bindE hm
  refine WP.cut (fun env' w' => env' = [(0, .pointer (some ⟨b0', o0', none⟩)), (3, .slice a29 x307.length c30)] ∧ Ext w w' ∧ w.heap.size ≤ w'.heap.size ∧ SH w' w.heap.size [aOwn fStr 9 a29 c30 x307]) ?_ ?_
  · have hm := hx308; clear hx308
    refine WP.cond x246 rfl rfl (fun hc253 => ?_) (fun hc253 => ?_)
    rotate_left
    · have hm := iteF hm hc253
      refine WP.skip ?_
      obtain rfl := Option.some.inj hm
      exact WQ.post' ⟨rfl, hb250, hL251, hS252⟩ ⟨rfl, rfl, trivial⟩
    have hm := iteT hm hc253
    refine WP.region ?_
    refine WL.runk 4 [0, 3, 77, 80] [(0, .pointer (some ⟨b0', o0', none⟩)), (3, .slice a29 x220.length c30), (77, .slice a29 x220.length c30), (80, .pointer (some ⟨b0', o0' + 7, none⟩))] (by kernel_rfl) ?_
    refine WL.st (.int .i64 x_0.Density) (ST.load (cell_ext (RdB.at (RdB.below h0 hb250) 7 _ rfl)) rfl rfl Tryd.underlying2 rfl) rfl rfl rfl ?_
    obtain ⟨x309, hx310, hm⟩ := bindE hm
    refine WL.call 49 #[.int .i64 x_0.Density] rfl rfl (by kernel_rfl) (c_49 n x_0.Density w249 hx310 ) ?_
    rintro _ w311 ⟨rfl, hE312⟩
    refine ⟨_, rfl, ?_⟩
    have hb314 : Ext w w311 := Ext.trans hb250 hE312
    have hL315 : w.heap.size ≤ w311.heap.size := Nat.le_trans hL251 hE312.size
    have hS316 : SH w311 w.heap.size [aOwn fStr 9 a29 c30 x220] := SH.ext hS252 hE312
    obtain ⟨x317, hx318, hm⟩ := bindE hm
    refine WL.st (.string (bs x317)) (ST.cat hx318 rfl rfl rfl) rfl rfl rfl ?_
    obtain ⟨x319, hx320, hm⟩ := bindE hm
    refine WL.st (.pointer (some (at_ a29 (Int.toNat 5 * 1)))) (ST.index (T := fStr.ty) (xs := x220) (SH.rd (SH.front 0 hS316)) hx320 rfl rfl rfl Tryd.underlying22 (info9).1 (info9).2.1) rfl rfl rfl ?_
    refine WL.store (F := fStr) x317 0 [.string (bs x317)] (SH.front 0 hS316) hL315 hx320 rfl rfl rfl rfl rfl rfl rfl (info9).1 (info9).2.1 rfl rfl rfl ?_
    intro w321 hB322 hS323
    have hb324 : Ext w w321 := Below.trans hb314 hB322
    have hL325 : w.heap.size ≤ w321.heap.size := Nat.le_trans hL315 hB322.size
    refine WL.sub [(0, .pointer (some ⟨b0', o0', none⟩)), (3, .slice a29 ((x220.set (Int.toNat 5) x317).length) c30), (77, .slice a29 ((x220.set (Int.toNat 5) x317).length) c30), (80, .pointer (some ⟨b0', o0' + 7, none⟩)), (81, .int .i64 x_0.Density), (82, .string (bs x309)), (83, .string (bs x317))] ⟨rfl, by first | (simp only [List.length_set]; done) | (simp only [List.length_set]; rfl), by first | (simp only [List.length_set]; done) | (simp only [List.length_set]; rfl), rfl, rfl, rfl, rfl, trivial⟩ ?_
    refine WL.sub [(0, .pointer (some ⟨b0', o0', none⟩)), (3, .slice a29 ((x220.set (Int.toNat 5) x317).length) c30)] ⟨rfl, rfl, trivial⟩ ?_
    refine WL.nil ?_
    obtain rfl := Option.some.inj hm
    exact WQ.post' ⟨rfl, hb324, hL325, hS323⟩ ⟨rfl, rfl, trivial⟩
  clear hx308
  rintro _ w326 ⟨rfl, hb327, hL328, hS329⟩
  refine WQ.then_normal (hK243 _ _ _ ?_)
  refine WP.seq (fun K330 hK330 => ?_)
  refine WP.seq (fun K331 hK331 => ?_)
  refine WP.region ?_
  refine WL.runk 3 [3, 87] [(3, .slice a29 x307.length c30), (87, .pointer (some ⟨b0', o0' + 8, none⟩))] (by kernel_rfl) ?_
  refine WL.st (.bool x_0.Double) (ST.load (cell_ext (RdB.at (RdB.below h0 hb327) 8 _ rfl)) rfl rfl Tryd.underlying4 rfl) rfl rfl rfl ?_
  refine WL.sub [(3, .slice a29 x307.length c30), (88, .bool x_0.Double)] ⟨rfl, rfl, trivial⟩ ?_
  refine WL.nil ?_
  refine WQ.then_normal (hK331 _ _ _ ?_)
  obtain ⟨x368, hx369, hm⟩ := bindE hm
  refine WP.cut (fun env' w' => env' = [(3, .slice a29 x368.length c30)] ∧ Ext w w' ∧ w.heap.size ≤ w'.heap.size ∧ SH w' w.heap.size [aOwn fStr 9 a29 c30 x368]) ?_ ?_
  rotate_left
  · clear hx369
    rintro _ w381 ⟨rfl, hb382, hL383, hS384⟩
    refine WQ.then_normal (hK330 _ _ _ ?_)
    refine WP.seq (fun K385 hK385 => ?_)
    refine WP.region ?_
    refine WL.runk 2 [2] [(2, .slice a29 x368.length c30)] (by kernel_rfl) ?_
    refine WL.nil ?_
    refine WQ.then_normal (hK385 _ _ _ ?_)
    refine WP.ret ?_
    obtain rfl := Option.some.inj hm
    exact WQ.ret1 _ rfl rfl ⟨_, _, rfl, hb382, hS384⟩
  have hm := hx369; clear hx369
  refine WP.cond x_0.Double rfl rfl (fun hc332 => ?_) (fun hc332 => ?_)
  rotate_left
  · have hm := iteF hm hc332
    refine WP.skip ?_
    obtain rfl := Option.some.inj hm
    exact WQ.post' ⟨rfl, hb327, hL328, hS329⟩ ⟨rfl, trivial⟩
  have hm := iteT hm hc332
  refine WP.region ?_
  refine WL.runk 1 [3, 89] [(3, .slice a29 x307.length c30), (89, .slice a29 x307.length c30)] (by kernel_rfl) ?_
  obtain ⟨x370, hx371, hm⟩ := bindE hm
  refine WL.st (.pointer (some (at_ a29 (Int.toNat 5 * 1)))) (ST.index (T := fStr.ty) (xs := x307) (SH.rd (SH.front 0 hS329)) hx371 rfl rfl rfl Tryd.underlying22 (info9).1 (info9).2.1) rfl rfl rfl ?_
  refine WL.st (.string (bs x370)) (ST.load (cell_ext (Rd.flat (F := fStr) (SH.rd (SH.front 0 hS329)) hx371 0 rfl)) rfl rfl Tryd.underlying9 rfl) rfl rfl rfl ?_
  obtain ⟨x372, hx373, hm⟩ := bindE hm
  refine WL.st (.string (bs x372)) (ST.cat hx373 rfl rfl rfl) rfl rfl rfl ?_
  obtain ⟨x374, hx375, hm⟩ := bindE hm
  refine WL.st (.pointer (some (at_ a29 (Int.toNat 5 * 1)))) (ST.index (T := fStr.ty) (xs := x307) (SH.rd (SH.front 0 hS329)) hx375 rfl rfl rfl Tryd.underlying22 (info9).1 (info9).2.1) rfl rfl rfl ?_
  refine WL.store (F := fStr) x372 0 [.string (bs x372)] (SH.front 0 hS329) hL328 hx375 rfl rfl rfl rfl rfl rfl rfl (info9).1 (info9).2.1 rfl rfl rfl ?_
  intro w376 hB377 hS378
  have hb379 : Ext w w376 := Below.trans hb327 hB377
  have hL380 : w.heap.size ≤ w376.heap.size := Nat.le_trans hL328 hB377.size
  refine WL.sub [(3, .slice a29 ((x307.set (Int.toNat 5) x372).length) c30), (89, .slice a29 ((x307.set (Int.toNat 5) x372).length) c30), (91, .string (bs x370)), (92, .string (bs x372))] ⟨by first | (simp only [List.length_set]; done) | (simp only [List.length_set]; rfl), by first | (simp only [List.length_set]; done) | (simp only [List.length_set]; rfl), rfl, rfl, trivial⟩ ?_
  refine WL.sub [(3, .slice a29 ((x307.set (Int.toNat 5) x372).length) c30)] ⟨rfl, trivial⟩ ?_
  refine WL.nil ?_
  obtain rfl := Option.some.inj hm
  exact WQ.post' ⟨rfl, hb379, hL380, hS378⟩ ⟨rfl, trivial⟩

theorem c_68 (n : Nat) (c_0 : Int) (w : World) {r : Bool} (hm : m_spec_l01Small n c_0 = some r)  :
    CallV Tryd.prog 68 #[.int .u8 c_0] w (fun v w' => v = .bool r ∧ Ext w w') := by
  unfold m_spec_l01Small at hm
  refine CallV.enter Tryd.func68 rfl (by kernel_rfl) Tryd.ntmps68 (env := [(0, .int .u8 c_0)]) ⟨rfl, trivial⟩ ?_
  refine WP.seq (fun K1 hK1 => ?_)
  refine WP.region ?_
  refine WL.runk 1 [0] [(0, .int .u8 c_0)] (by kernel_rfl) ?_
  refine WL.nil ?_
  refine WQ.then_normal (hK1 _ _ _ ?_)
  refine WP.seq (fun K2 hK2 => ?_)
  obtain ⟨x4, hx5, hm⟩ := bindE hm
  refine WP.cut (fun env' w' => env' = [(2, .bool x4)] ∧ Ext w w' ∧ w.heap.size ≤ w'.heap.size ∧ SH w' w.heap.size []) ?_ ?_
  rotate_left
  · clear hx5
    rintro _ w7 ⟨rfl, hb8, hL9, hS10⟩
    refine WQ.then_normal (hK2 _ _ _ ?_)
    refine WP.ret ?_
    obtain rfl := Option.some.inj hm
    exact WQ.ret1 _ rfl rfl ⟨rfl, hb8⟩
  have hm := hx5; clear hx5
  refine WP.region ?_
  refine WL.runk 3 [0, 5] [(0, .int .u8 c_0), (5, .bool (decide (c_0 ≥ 97)))] (by kernel_rfl) ?_
  refine WL.case (decide (c_0 ≥ 97)) [5] ⟨rfl, trivial⟩ (fun hc6 => ?_) (fun hc6 => ?_)
  · have hm := iteT hm hc6
    refine WL.runk 4 [2] [(2, .bool (decide (c_0 ≤ 122)))] (by kernel_rfl) ?_
    refine WL.nil ?_
    obtain rfl := Option.some.inj hm
    exact WQ.post' ⟨rfl, (Ext.refl w), (Nat.le_refl _), (SH.nil _ _)⟩ ⟨rfl, trivial⟩
  have hm := iteF hm hc6
  refine WL.runk 4 [2] [(2, .bool false)] (by kernel_rfl) ?_
  refine WL.nil ?_
  obtain rfl := Option.some.inj hm
  exact WQ.post' ⟨rfl, (Ext.refl w), (Nat.le_refl _), (SH.nil _ _)⟩ ⟨rfl, trivial⟩

theorem c_69 (n : Nat) (c_0 : Int) (w : World) {r : Bool} (hm : m_spec_l01Digit n c_0 = some r)  :
    CallV Tryd.prog 69 #[.int .u8 c_0] w (fun v w' => v = .bool r ∧ Ext w w') := by
  unfold m_spec_l01Digit at hm
  refine CallV.enter Tryd.func69 rfl (by kernel_rfl) Tryd.ntmps69 (env := [(0, .int .u8 c_0)]) ⟨rfl, trivial⟩ ?_
  refine WP.seq (fun K1 hK1 => ?_)
  refine WP.region ?_
  refine WL.runk 1 [0] [(0, .int .u8 c_0)] (by kernel_rfl) ?_
  refine WL.nil ?_
  refine WQ.then_normal (hK1 _ _ _ ?_)
  refine WP.seq (fun K2 hK2 => ?_)
  obtain ⟨x4, hx5, hm⟩ := bindE hm
  refine WP.cut (fun env' w' => env' = [(2, .bool x4)] ∧ Ext w w' ∧ w.heap.size ≤ w'.heap.size ∧ SH w' w.heap.size []) ?_ ?_
  rotate_left
  · clear hx5
    rintro _ w7 ⟨rfl, hb8, hL9, hS10⟩
    refine WQ.then_normal (hK2 _ _ _ ?_)
    refine WP.ret ?_
    obtain rfl := Option.some.inj hm
    exact WQ.ret1 _ rfl rfl ⟨rfl, hb8⟩
  have hm := hx5; clear hx5
  refine WP.region ?_
  refine WL.runk 3 [0, 5] [(0, .int .u8 c_0), (5, .bool (decide (c_0 ≥ 48)))] (by kernel_rfl) ?_
  refine WL.case (decide (c_0 ≥ 48)) [5] ⟨rfl, trivial⟩ (fun hc6 => ?_) (fun hc6 => ?_)
  · have hm := iteT hm hc6
    refine WL.runk 4 [2] [(2, .bool (decide (c_0 ≤ 57)))] (by kernel_rfl) ?_
    refine WL.nil ?_
    obtain rfl := Option.some.inj hm
    exact WQ.post' ⟨rfl, (Ext.refl w), (Nat.le_refl _), (SH.nil _ _)⟩ ⟨rfl, trivial⟩
  have hm := iteF hm hc6
  refine WL.runk 4 [2] [(2, .bool false)] (by kernel_rfl) ?_
  refine WL.nil ?_
  obtain rfl := Option.some.inj hm
  exact WQ.post' ⟨rfl, (Ext.refl w), (Nat.le_refl _), (SH.nil _ _)⟩ ⟨rfl, trivial⟩

theorem c_48 (n : Nat) (s_0 : List UInt8) (w : World) {r : Bool} (hm : m_spec_IsName n s_0 = some r)  :
    CallV Tryd.prog 48 #[.string (bs s_0)] w (fun v w' => v = .bool r ∧ Ext w w') := by
  unfold m_spec_IsName at hm
  refine CallV.enter Tryd.func48 rfl (by kernel_rfl) Tryd.ntmps48 (env := [(0, .string (bs s_0))]) ⟨rfl, trivial⟩ ?_
  refine WP.seq (fun K1 hK1 => ?_)
  refine WP.region ?_
  refine WL.runk 1 [0] [(0, .string (bs s_0))] (by kernel_rfl) ?_
  refine WL.nil ?_
  refine WQ.then_normal (hK1 _ _ _ ?_)
  refine WP.seq (fun K2 hK2 => ?_)
  refine WP.seq (fun K3 hK3 => ?_)
  obtain ⟨x16, hx17, hm⟩ := bindE hm
  refine WP.cut (fun env' w' => env' = [(0, .string (bs s_0)), (16, .bool x16)] ∧ Ext w w' ∧ w.heap.size ≤ w'.heap.size ∧ SH w' w.heap.size []) ?_ ?_
  · have hm := hx17; clear hx17
    refine WP.region ?_
    refine WL.runk 1 [0, 4] [(0, .string (bs s_0)), (4, .string (bs s_0))] (by kernel_rfl) ?_
    refine WL.st (.bool (s_0 == [])) (ST.streq (x := s_0) (y := []) rfl rfl rfl) rfl rfl rfl ?_
    refine WL.runk 1 [0, 6] [(0, .string (bs s_0)), (6, .bool (s_0 == []))] (by kernel_rfl) ?_
    refine WL.case (s_0 == []) [6] ⟨rfl, trivial⟩ (fun hc18 => ?_) (fun hc18 => ?_)
    · have hm := iteT hm hc18
      refine WL.runk 10 [0, 16] [(0, .string (bs s_0)), (16, .bool true)] (by kernel_rfl) ?_
      refine WL.nil ?_
      obtain rfl := Option.some.inj hm
      exact WQ.post' ⟨rfl, (Ext.refl w), (Nat.le_refl _), (SH.nil _ _)⟩ ⟨rfl, rfl, trivial⟩
    have hm := iteF hm hc18
    refine WL.runk 5 [0, 11] [(0, .string (bs s_0)), (11, .bool (decide ((s_0.length : Int) > 12)))] (by kernel_rfl) ?_
    refine WL.case (decide ((s_0.length : Int) > 12)) [11] ⟨rfl, trivial⟩ (fun hc19 => ?_) (fun hc19 => ?_)
    · have hm := iteT hm hc19
      refine WL.runk 5 [0, 16] [(0, .string (bs s_0)), (16, .bool true)] (by kernel_rfl) ?_
      refine WL.nil ?_
      obtain rfl := Option.some.inj hm
      exact WQ.post' ⟨rfl, (Ext.refl w), (Nat.le_refl _), (SH.nil _ _)⟩ ⟨rfl, rfl, trivial⟩
    have hm := iteF hm hc19
    refine WL.runk 1 [0, 11, 12] [(0, .string (bs s_0)), (11, .bool false), (12, .string (bs s_0))] (by kernel_rfl) ?_
    obtain ⟨x20, hx21, hm⟩ := bindE hm
    refine WL.st (.int .u8 (x20.toNat : Int)) (ST.sindex hx21 rfl rfl rfl Tryd.underlying9) rfl rfl rfl ?_
    obtain ⟨x22, hx23, hm⟩ := bindE hm
    refine WL.call 68 #[.int .u8 (x20.toNat : Int)] rfl rfl (by kernel_rfl) (c_68 n (x20.toNat : Int) w hx23 ) ?_
    rintro _ w24 ⟨rfl, hE25⟩
    refine ⟨_, rfl, ?_⟩
    have hb27 : Ext w w24 := Ext.trans (Ext.refl w) hE25
    have hL28 : w.heap.size ≤ w24.heap.size := Nat.le_trans (Nat.le_refl _) hE25.size
    have hS29 : SH w24 w.heap.size [] := SH.ext (SH.nil _ _) hE25
    refine WL.runk 2 [0, 16] [(0, .string (bs s_0)), (16, .bool (!x22))] (by kernel_rfl) ?_
    refine WL.nil ?_
    obtain rfl := Option.some.inj hm
    exact WQ.post' ⟨rfl, hb27, hL28, hS29⟩ ⟨rfl, rfl, trivial⟩
  clear hx17
  rintro _ w30 ⟨rfl, hb31, hL32, hS33⟩
  refine WQ.then_normal (hK3 _ _ _ ?_)
  refine WP.cond x16 rfl rfl (fun hc34 => ?_) (fun hc34 => ?_)
  · have hm := iteT hm hc34
    refine WP.seq (fun K35 hK35 => ?_)
    refine WP.region ?_
    refine WL.runk 1 [2] [(2, .bool false)] (by kernel_rfl) ?_
    refine WL.nil ?_
    refine WQ.then_normal (hK35 _ _ _ ?_)
    refine WP.ret ?_
    refine WQ.then_ret ?_
    obtain rfl := Option.some.inj hm
    exact WQ.ret1 _ rfl rfl ⟨rfl, hb31⟩
  have hm := iteF hm hc34
  refine WP.skip ?_
  refine WQ.then_normal (hK2 _ _ _ ?_)
  refine WP.seq (fun K36 hK36 => ?_)
  refine WP.seq (fun K37 hK37 => ?_)
  refine WP.region ?_
  refine WL.runk 1 [0, 3] [(0, .string (bs s_0)), (3, .int .i64 0)] (by kernel_rfl) ?_
  refine WL.nil ?_
  refine WQ.then_normal (hK37 _ _ _ ?_)
  refine WP.block ?_
  obtain ⟨t49, ht50, hm⟩ := bindE hm
  have hmo44 := hm; clear hm
  refine WP.sub [(0, .string (bs s_0)), (3, .int .i64 0)] ⟨rfl, rfl, trivial⟩ ?_
  refine WP.loop (fun n' env' w' => ∃ (st38 : Int) , env' = [(0, .string (bs s_0)), (3, .int .i64 st38)] ∧ Ext w w' ∧ w.heap.size ≤ w'.heap.size ∧ SH w' w.heap.size [] ∧ loopN (m_spec_IsName_l1 n s_0) n' st38 = some t49) n ⟨0, rfl, hb31, hL32, hS33, ht50⟩ ?_
  rintro n46 _ w39 ⟨st38, rfl, hb40, hL41, hS42, hl43⟩ K45 hK45
  obtain ⟨n47, s48, rfl, hm, hl43⟩ := loopN_some hl43
  unfold m_spec_IsName_l1 at hm
  refine WP.seq (fun K51 hK51 => ?_)
  refine WP.seq (fun K52 hK52 => ?_)
  refine WP.region ?_
  refine WL.runk 4 [0, 3, 20] [(0, .string (bs s_0)), (3, .int .i64 st38), (20, .bool (decide (st38 < (s_0.length : Int))))] (by kernel_rfl) ?_
  refine WL.nil ?_
  refine WQ.then_normal (hK52 _ _ _ ?_)
  refine WP.cond (decide (st38 < (s_0.length : Int))) rfl rfl (fun hc53 => ?_) (fun hc53 => ?_)
  rotate_left
  · have hm := iteF hm hc53
    refine WP.exit ?_
    refine WQ.then_exit ?_
    refine WQ.then_exit ?_
    refine WQ.block_here ?_
    obtain rfl := Option.some.inj hm
    obtain rfl := afterN_done hl43
    have hm := hmo44
    refine WQ.then_normal (hK36 _ _ _ ?_)
    refine WP.seq (fun K112 hK112 => ?_)
    refine WP.region ?_
    refine WL.runk 1 [2] [(2, .bool true)] (by kernel_rfl) ?_
    refine WL.nil ?_
    refine WQ.then_normal (hK112 _ _ _ ?_)
    refine WP.ret ?_
    obtain rfl := Option.some.inj hm
    exact WQ.ret1 _ rfl rfl ⟨rfl, hb40⟩
  have hm := iteT hm hc53
  refine WP.skip ?_
  refine WQ.then_normal (hK51 _ _ _ ?_)
  refine WP.seq (fun K54 hK54 => ?_)
  refine WP.block ?_
  refine WP.seq (fun K55 hK55 => ?_)
  obtain ⟨x80, hx81, hm⟩ := bindE hm
  refine WP.cut (fun env' w' => env' = [(0, .string (bs s_0)), (3, .int .i64 st38), (40, .bool x80)] ∧ Ext w w' ∧ w.heap.size ≤ w'.heap.size ∧ SH w' w.heap.size []) ?_ ?_
  rotate_left
  · clear hx81
    rintro _ w106 ⟨rfl, hb107, hL108, hS109⟩
    refine WQ.then_normal (hK55 _ _ _ ?_)
    refine WP.cond x80 rfl rfl (fun hc110 => ?_) (fun hc110 => ?_)
    rotate_left
    · have hm := iteF hm hc110
      refine WP.skip ?_
      refine WQ.block_normal ?_
      refine WQ.then_normal (hK54 _ _ _ ?_)
      refine WP.region ?_
      refine WL.runk 3 [0, 3] [(0, .string (bs s_0)), (3, .int .i64 (wI64 (st38 + 1)))] (by kernel_rfl) ?_
      refine WL.nil ?_
      obtain rfl := Option.some.inj hm
      exact WQ.round hK45 ⟨(wI64 (st38 + 1)), rfl, hb107, hL108, hS109, hl43⟩ (Nat.lt_succ_self _) ⟨rfl, rfl, trivial⟩
    have hm := iteT hm hc110
    refine WP.seq (fun K111 hK111 => ?_)
    refine WP.region ?_
    refine WL.runk 1 [2] [(2, .bool false)] (by kernel_rfl) ?_
    refine WL.nil ?_
    refine WQ.then_normal (hK111 _ _ _ ?_)
    refine WP.ret ?_
    refine WQ.block_ret ?_
    refine WQ.then_ret ?_
    refine WQ.then_ret ?_
    refine WQ.block_ret ?_
    refine WQ.then_ret ?_
    obtain rfl := Option.some.inj hm
    obtain rfl := afterN_done hl43
    have hm := hmo44
    obtain rfl := Option.some.inj hm
    exact WQ.ret1 _ rfl rfl ⟨rfl, hb107⟩
  have hm := hx81; clear hx81
  refine WP.region ?_
  refine WL.runk 2 [0, 3, 23, 24] [(0, .string (bs s_0)), (3, .int .i64 st38), (23, .string (bs s_0)), (24, .int .i64 st38)] (by kernel_rfl) ?_
  obtain ⟨x82, hx83, hm⟩ := bindE hm
  refine WL.st (.int .u8 (x82.toNat : Int)) (ST.sindex hx83 rfl rfl rfl Tryd.underlying9) rfl rfl rfl ?_
  obtain ⟨x84, hx85, hm⟩ := bindE hm
  refine WL.call 68 #[.int .u8 (x82.toNat : Int)] rfl rfl (by kernel_rfl) (c_68 n (x82.toNat : Int) w39 hx85 ) ?_
  rintro _ w86 ⟨rfl, hE87⟩
  refine ⟨_, rfl, ?_⟩
  have hb89 : Ext w w86 := Ext.trans hb40 hE87
  have hL90 : w.heap.size ≤ w86.heap.size := Nat.le_trans hL41 hE87.size
  have hS91 : SH w86 w.heap.size [] := SH.ext hS42 hE87
  refine WL.runk 2 [0, 3, 28] [(0, .string (bs s_0)), (3, .int .i64 st38), (28, .bool (!x84))] (by kernel_rfl) ?_
  refine WL.case (!x84) [28] ⟨rfl, trivial⟩ (fun hc92 => ?_) (fun hc92 => ?_)
  rotate_left
  · have hm := iteF hm hc92
    refine WL.runk 12 [0, 3, 40] [(0, .string (bs s_0)), (3, .int .i64 st38), (40, .bool false)] (by kernel_rfl) ?_
    refine WL.nil ?_
    obtain rfl := Option.some.inj hm
    exact WQ.post' ⟨rfl, hb89, hL90, hS91⟩ ⟨rfl, rfl, rfl, trivial⟩
  have hm := iteT hm hc92
  refine WL.runk 2 [0, 3, 28, 29, 30] [(0, .string (bs s_0)), (3, .int .i64 st38), (28, .bool true), (29, .string (bs s_0)), (30, .int .i64 st38)] (by kernel_rfl) ?_
  obtain ⟨x93, hx94, hm⟩ := bindE hm
  refine WL.st (.int .u8 (x93.toNat : Int)) (ST.sindex hx94 rfl rfl rfl Tryd.underlying9) rfl rfl rfl ?_
  obtain ⟨x95, hx96, hm⟩ := bindE hm
  refine WL.call 69 #[.int .u8 (x93.toNat : Int)] rfl rfl (by kernel_rfl) (c_69 n (x93.toNat : Int) w86 hx96 ) ?_
  rintro _ w97 ⟨rfl, hE98⟩
  refine ⟨_, rfl, ?_⟩
  have hb100 : Ext w w97 := Ext.trans hb89 hE98
  have hL101 : w.heap.size ≤ w97.heap.size := Nat.le_trans hL90 hE98.size
  have hS102 : SH w97 w.heap.size [] := SH.ext hS91 hE98
  refine WL.runk 3 [0, 3, 35] [(0, .string (bs s_0)), (3, .int .i64 st38), (35, .bool (!x95))] (by kernel_rfl) ?_
  refine WL.case (!x95) [35] ⟨rfl, trivial⟩ (fun hc103 => ?_) (fun hc103 => ?_)
  rotate_left
  · have hm := iteF hm hc103
    refine WL.runk 5 [0, 3, 40] [(0, .string (bs s_0)), (3, .int .i64 st38), (40, .bool false)] (by kernel_rfl) ?_
    refine WL.nil ?_
    obtain rfl := Option.some.inj hm
    exact WQ.post' ⟨rfl, hb100, hL101, hS102⟩ ⟨rfl, rfl, rfl, trivial⟩
  have hm := iteT hm hc103
  refine WL.runk 2 [0, 3, 35, 36, 37] [(0, .string (bs s_0)), (3, .int .i64 st38), (35, .bool true), (36, .string (bs s_0)), (37, .int .i64 st38)] (by kernel_rfl) ?_
  obtain ⟨x104, hx105, hm⟩ := bindE hm
  refine WL.st (.int .u8 (x104.toNat : Int)) (ST.sindex hx105 rfl rfl rfl Tryd.underlying9) rfl rfl rfl ?_
  refine WL.runk 2 [0, 3, 40] [(0, .string (bs s_0)), (3, .int .i64 st38), (40, .bool ((x104.toNat : Int) != 45))] (by kernel_rfl) ?_
  refine WL.nil ?_
  obtain rfl := Option.some.inj hm
  exact WQ.post' ⟨rfl, hb100, hL101, hS102⟩ ⟨rfl, rfl, rfl, trivial⟩

theorem c_32 (n : Nat)  (w : World) {r : List (List UInt8)} (hm : m_spec_StyleWords n  = some r)  :
    CallV Tryd.prog 32 #[] w (fun v w' => ∃ (ra0 : Option Addr) (rc0 : Nat), v = .slice ra0 r.length rc0 ∧ Ext w w' ∧ SH w' w.heap.size [aOwn fStr 9 ra0 rc0 r]) := by
  unfold m_spec_StyleWords at hm
  refine CallV.enter Tryd.func32 rfl (by kernel_rfl) Tryd.ntmps32 (env := []) trivial ?_
  refine WP.seq (fun K1 hK1 => ?_)
  refine WP.region ?_
  refine WL.runk 1 [] [] (by kernel_rfl) ?_
  refine WL.nil ?_
  refine WQ.then_normal (hK1 _ _ _ ?_)
  refine WP.seq (fun K2 hK2 => ?_)
  refine WP.region ?_
  refine WL.row fStr 9 ([[117, 112, 112, 101, 114], [108, 105, 110, 105, 110, 103], [115, 111, 108, 101], [104, 101, 101, 108], [101, 121, 101, 108, 101, 116, 115], [115, 116, 105, 116, 99, 104]] : List (List UInt8)) 6 #[.string (bs [117, 112, 112, 101, 114]), .string (bs [108, 105, 110, 105, 110, 103]), .string (bs [115, 111, 108, 101]), .string (bs [104, 101, 101, 108]), .string (bs [101, 121, 101, 108, 101, 116, 115]), .string (bs [115, 116, 105, 116, 99, 104])] 1 (by kernel_rfl) rfl rfl rfl rfl rfl rfl rfl ?_
  intro a3 c4 w5 hE6 hR7
  have hb9 : Ext w w5 := Ext.trans (Ext.refl w) hE6
  have hL10 : w.heap.size ≤ w5.heap.size := Nat.le_trans (Nat.le_refl _) hE6.size
  have hS11 : SH w5 w.heap.size [aOwn fStr 9 a3 c4 ([[117, 112, 112, 101, 114], [108, 105, 110, 105, 110, 103], [115, 111, 108, 101], [104, 101, 101, 108], [101, 121, 101, 108, 101, 116, 115], [115, 116, 105, 116, 99, 104]] : List (List UInt8))] := SH.add (SH.nil _ _) hE6 (Nat.le_refl _) hR7
  refine WL.runk 1 [0] [(0, .slice a3 (([[117, 112, 112, 101, 114], [108, 105, 110, 105, 110, 103], [115, 111, 108, 101], [104, 101, 101, 108], [101, 121, 101, 108, 101, 116, 115], [115, 116, 105, 116, 99, 104]] : List (List UInt8)).length) c4)] (by kernel_rfl) ?_
  refine WL.nil ?_
  refine WQ.then_normal (hK2 _ _ _ ?_)
  refine WP.ret ?_
  obtain rfl := Option.some.inj hm
  exact WQ.ret1 _ rfl rfl ⟨_, _, rfl, hb9, hS11⟩

theorem c_57 (n : Nat) (word_0 : List UInt8) (w : World) {r : Int} (hm : m_spec_l24Word n word_0 = some r)  :
    CallV Tryd.prog 57 #[.string (bs word_0)] w (fun v w' => v = .int .i64 r ∧ Ext w w') := by
  unfold m_spec_l24Word at hm
  refine CallV.enter Tryd.func57 rfl (by kernel_rfl) Tryd.ntmps57 (env := [(0, .string (bs word_0))]) ⟨rfl, trivial⟩ ?_
  refine WP.seq (fun K1 hK1 => ?_)
  refine WP.region ?_
  refine WL.runk 1 [0] [(0, .string (bs word_0))] (by kernel_rfl) ?_
  refine WL.nil ?_
  refine WQ.then_normal (hK1 _ _ _ ?_)
  refine WP.seq (fun K2 hK2 => ?_)
  refine WP.region ?_
  obtain ⟨x3, hx4, hm⟩ := bindE hm
  refine WL.call 32 #[] rfl rfl (by kernel_rfl) (c_32 n  w hx4 ) ?_
  rintro _ w8 ⟨a5, c6, rfl, hE9, hR10⟩
  refine ⟨_, rfl, ?_⟩
  have hb11 : Ext w w8 := Ext.trans (Ext.refl w) hE9
  have hL12 : w.heap.size ≤ w8.heap.size := Nat.le_trans (Nat.le_refl _) hE9.size
  have hS13 : SH w8 w.heap.size [aOwn fStr 9 a5 c6 x3] := SH.add (SH.nil _ _) hE9 (Nat.le_refl _) hR10
  refine WL.runk 1 [0, 3] [(0, .string (bs word_0)), (3, .slice a5 x3.length c6)] (by kernel_rfl) ?_
  refine WL.nil ?_
  refine WQ.then_normal (hK2 _ _ _ ?_)
  refine WP.seq (fun K14 hK14 => ?_)
  refine WP.seq (fun K15 hK15 => ?_)
  refine WP.region ?_
  refine WL.runk 1 [0, 3, 4] [(0, .string (bs word_0)), (3, .slice a5 x3.length c6), (4, .int .i64 0)] (by kernel_rfl) ?_
  refine WL.nil ?_
  refine WQ.then_normal (hK15 _ _ _ ?_)
  refine WP.block ?_
  obtain ⟨t27, ht28, hm⟩ := bindE hm
  have hmo22 := hm; clear hm
  refine WP.sub [(0, .string (bs word_0)), (3, .slice a5 x3.length c6), (4, .int .i64 0)] ⟨rfl, rfl, rfl, trivial⟩ ?_
  refine WP.loop (fun n' env' w' => ∃ (st16 : Int) , env' = [(0, .string (bs word_0)), (3, .slice a5 x3.length c6), (4, .int .i64 st16)] ∧ Ext w w' ∧ w.heap.size ≤ w'.heap.size ∧ SH w' w.heap.size [aOwn fStr 9 a5 c6 x3] ∧ loopN (m_spec_l24Word_l1 n word_0 x3) n' st16 = some t27) n ⟨0, rfl, hb11, hL12, hS13, ht28⟩ ?_
  rintro n24 _ w17 ⟨st16, rfl, hb18, hL19, hS20, hl21⟩ K23 hK23
  obtain ⟨n25, s26, rfl, hm, hl21⟩ := loopN_some hl21
  unfold m_spec_l24Word_l1 at hm
  refine WP.seq (fun K29 hK29 => ?_)
  refine WP.seq (fun K30 hK30 => ?_)
  refine WP.region ?_
  refine WL.runk 4 [0, 3, 4, 9] [(0, .string (bs word_0)), (3, .slice a5 x3.length c6), (4, .int .i64 st16), (9, .bool (decide (st16 < (x3.length : Int))))] (by kernel_rfl) ?_
  refine WL.nil ?_
  refine WQ.then_normal (hK30 _ _ _ ?_)
  refine WP.cond (decide (st16 < (x3.length : Int))) rfl rfl (fun hc31 => ?_) (fun hc31 => ?_)
  rotate_left
  · have hm := iteF hm hc31
    refine WP.exit ?_
    refine WQ.then_exit ?_
    refine WQ.then_exit ?_
    refine WQ.block_here ?_
    obtain rfl := Option.some.inj hm
    obtain rfl := afterN_done hl21
    have hm := hmo22
    refine WQ.then_normal (hK14 _ _ _ ?_)
    refine WP.seq (fun K38 hK38 => ?_)
    refine WP.region ?_
    refine WL.runk 1 [2] [(2, .int .i64 (-1))] (by kernel_rfl) ?_
    refine WL.nil ?_
    refine WQ.then_normal (hK38 _ _ _ ?_)
    refine WP.ret ?_
    obtain rfl := Option.some.inj hm
    exact WQ.ret1 _ rfl rfl ⟨rfl, hb18⟩
  have hm := iteT hm hc31
  refine WP.skip ?_
  refine WQ.then_normal (hK29 _ _ _ ?_)
  refine WP.seq (fun K32 hK32 => ?_)
  refine WP.block ?_
  refine WP.seq (fun K33 hK33 => ?_)
  refine WP.region ?_
  refine WL.runk 2 [0, 3, 4, 12, 13] [(0, .string (bs word_0)), (3, .slice a5 x3.length c6), (4, .int .i64 st16), (12, .slice a5 x3.length c6), (13, .int .i64 st16)] (by kernel_rfl) ?_
  obtain ⟨x34, hx35, hm⟩ := bindE hm
  refine WL.st (.pointer (some (at_ a5 (Int.toNat st16 * 1)))) (ST.index (T := fStr.ty) (xs := x3) (SH.rd (SH.front 0 hS20)) hx35 rfl rfl rfl Tryd.underlying22 (info9).1 (info9).2.1) rfl rfl rfl ?_
  refine WL.st (.string (bs x34)) (ST.load (cell_ext (Rd.flat (F := fStr) (SH.rd (SH.front 0 hS20)) hx35 0 rfl)) rfl rfl Tryd.underlying9 rfl) rfl rfl rfl ?_
  refine WL.runk 1 [0, 3, 4, 15, 16] [(0, .string (bs word_0)), (3, .slice a5 x3.length c6), (4, .int .i64 st16), (15, .string (bs x34)), (16, .string (bs word_0))] (by kernel_rfl) ?_
  refine WL.st (.bool (x34 == word_0)) (ST.streq (x := x34) (y := word_0) rfl rfl rfl) rfl rfl rfl ?_
  refine WL.sub [(0, .string (bs word_0)), (3, .slice a5 x3.length c6), (4, .int .i64 st16), (17, .bool (x34 == word_0))] ⟨rfl, rfl, rfl, rfl, trivial⟩ ?_
  refine WL.nil ?_
  refine WQ.then_normal (hK33 _ _ _ ?_)
  refine WP.cond (x34 == word_0) rfl rfl (fun hc36 => ?_) (fun hc36 => ?_)
  rotate_left
  · have hm := iteF hm hc36
    refine WP.skip ?_
    refine WQ.block_normal ?_
    refine WQ.then_normal (hK32 _ _ _ ?_)
    refine WP.region ?_
    refine WL.runk 3 [0, 3, 4] [(0, .string (bs word_0)), (3, .slice a5 x3.length c6), (4, .int .i64 (wI64 (st16 + 1)))] (by kernel_rfl) ?_
    refine WL.nil ?_
    obtain rfl := Option.some.inj hm
    exact WQ.round hK23 ⟨(wI64 (st16 + 1)), rfl, hb18, hL19, hS20, hl21⟩ (Nat.lt_succ_self _) ⟨rfl, rfl, rfl, trivial⟩
  have hm := iteT hm hc36
  refine WP.seq (fun K37 hK37 => ?_)
  refine WP.region ?_
  refine WL.runk 2 [2] [(2, .int .i64 st16)] (by kernel_rfl) ?_
  refine WL.nil ?_
  refine WQ.then_normal (hK37 _ _ _ ?_)
  refine WP.ret ?_
  refine WQ.block_ret ?_
  refine WQ.then_ret ?_
  refine WQ.then_ret ?_
  refine WQ.block_ret ?_
  refine WQ.then_ret ?_
  obtain rfl := Option.some.inj hm
  obtain rfl := afterN_done hl21
  have hm := hmo22
  obtain rfl := Option.some.inj hm
  exact WQ.ret1 _ rfl rfl ⟨rfl, hb18⟩

theorem c_66 (n : Nat) (kind_0 : Int) (words_1 : Int) (w : World) {r : Bool} (hm : m_spec_l24Count n kind_0 words_1 = some r)  :
    CallV Tryd.prog 66 #[.int .i64 kind_0, .int .i64 words_1] w (fun v w' => v = .bool r ∧ Ext w w') := by
  unfold m_spec_l24Count at hm
  refine CallV.enter Tryd.func66 rfl (by kernel_rfl) Tryd.ntmps66 (env := [(0, .int .i64 kind_0), (1, .int .i64 words_1)]) ⟨rfl, rfl, trivial⟩ ?_
  refine WP.seq (fun K1 hK1 => ?_)
  refine WP.region ?_
  refine WL.runk 1 [0, 1] [(0, .int .i64 kind_0), (1, .int .i64 words_1)] (by kernel_rfl) ?_
  refine WL.nil ?_
  refine WQ.then_normal (hK1 _ _ _ ?_)
  refine WP.seq (fun K2 hK2 => ?_)
  refine WP.seq (fun K3 hK3 => ?_)
  refine WP.region ?_
  refine WL.runk 1 [1, 5] [(1, .int .i64 words_1), (5, .int .i64 kind_0)] (by kernel_rfl) ?_
  refine WL.nil ?_
  refine WQ.then_normal (hK3 _ _ _ ?_)
  refine WP.block ?_
  refine WP.seq (fun K4 hK4 => ?_)
  refine WP.seq (fun K5 hK5 => ?_)
  refine WP.region ?_
  refine WL.runk 2 [1, 5, 6] [(1, .int .i64 words_1), (5, .int .i64 kind_0), (6, .bool (kind_0 == 0))] (by kernel_rfl) ?_
  refine WL.nil ?_
  refine WQ.then_normal (hK5 _ _ _ ?_)
  obtain ⟨x7, hx8, hm⟩ := bindE hm
  refine WP.cut (fun env' w' => env' = [(1, .int .i64 words_1), (5, .int .i64 kind_0), (6, .bool x7)] ∧ Ext w w' ∧ w.heap.size ≤ w'.heap.size ∧ SH w' w.heap.size []) ?_ ?_
  · have hm := hx8; clear hx8
    refine WP.cond (kind_0 == 0) rfl rfl (fun hc6 => ?_) (fun hc6 => ?_)
    · have hm := iteT hm hc6
      refine WP.skip ?_
      obtain rfl := Option.some.inj hm
      exact WQ.post' ⟨rfl, (Ext.refl w), (Nat.le_refl _), (SH.nil _ _)⟩ ⟨rfl, rfl, rfl, trivial⟩
    have hm := iteF hm hc6
    refine WP.region ?_
    refine WL.runk 2 [1, 5, 6] [(1, .int .i64 words_1), (5, .int .i64 kind_0), (6, .bool (kind_0 == 2))] (by kernel_rfl) ?_
    refine WL.nil ?_
    obtain rfl := Option.some.inj hm
    exact WQ.post' ⟨rfl, (Ext.refl w), (Nat.le_refl _), (SH.nil _ _)⟩ ⟨rfl, rfl, rfl, trivial⟩
  clear hx8
  rintro _ w9 ⟨rfl, hb10, hL11, hS12⟩
  refine WQ.then_normal (hK4 _ _ _ ?_)
  refine WP.cond x7 rfl rfl (fun hc13 => ?_) (fun hc13 => ?_)
  · have hm := iteT hm hc13
    refine WP.seq (fun K14 hK14 => ?_)
    refine WP.region ?_
    refine WL.runk 3 [4] [(4, .bool (words_1 == 3))] (by kernel_rfl) ?_
    refine WL.nil ?_
    refine WQ.then_normal (hK14 _ _ _ ?_)
    refine WP.ret ?_
    refine WQ.block_ret ?_
    refine WQ.then_ret ?_
    obtain rfl := Option.some.inj hm
    exact WQ.ret1 _ rfl rfl ⟨rfl, hb10⟩
  have hm := iteF hm hc13
  refine WP.seq (fun K15 hK15 => ?_)
  refine WP.region ?_
  refine WL.runk 2 [1, 11] [(1, .int .i64 words_1), (11, .bool (kind_0 == 5))] (by kernel_rfl) ?_
  refine WL.nil ?_
  refine WQ.then_normal (hK15 _ _ _ ?_)
  refine WP.cond (kind_0 == 5) rfl rfl (fun hc16 => ?_) (fun hc16 => ?_)
  rotate_left
  · have hm := iteF hm hc16
    refine WP.skip ?_
    refine WQ.block_normal ?_
    refine WQ.then_normal (hK2 _ _ _ ?_)
    refine WP.seq (fun K26 hK26 => ?_)
    refine WP.region ?_
    refine WL.runk 3 [4] [(4, .bool (words_1 == 2))] (by kernel_rfl) ?_
    refine WL.nil ?_
    refine WQ.then_normal (hK26 _ _ _ ?_)
    refine WP.ret ?_
    obtain rfl := Option.some.inj hm
    exact WQ.ret1 _ rfl rfl ⟨rfl, hb10⟩
  have hm := iteT hm hc16
  refine WP.seq (fun K17 hK17 => ?_)
  obtain ⟨x19, hx20, hm⟩ := bindE hm
  refine WP.cut (fun env' w' => env' = [(4, .bool x19)] ∧ Ext w w' ∧ w.heap.size ≤ w'.heap.size ∧ SH w' w.heap.size []) ?_ ?_
  rotate_left
  · clear hx20
    rintro _ w22 ⟨rfl, hb23, hL24, hS25⟩
    refine WQ.then_normal (hK17 _ _ _ ?_)
    refine WP.ret ?_
    refine WQ.block_ret ?_
    refine WQ.then_ret ?_
    obtain rfl := Option.some.inj hm
    exact WQ.ret1 _ rfl rfl ⟨rfl, hb23⟩
  have hm := hx20; clear hx20
  refine WP.region ?_
  refine WL.runk 3 [1, 15] [(1, .int .i64 words_1), (15, .bool (words_1 == 2))] (by kernel_rfl) ?_
  refine WL.case (words_1 == 2) [15] ⟨rfl, trivial⟩ (fun hc21 => ?_) (fun hc21 => ?_)
  · have hm := iteT hm hc21
    refine WL.runk 4 [4] [(4, .bool true)] (by kernel_rfl) ?_
    refine WL.nil ?_
    obtain rfl := Option.some.inj hm
    exact WQ.post' ⟨rfl, hb10, hL11, hS12⟩ ⟨rfl, trivial⟩
  have hm := iteF hm hc21
  refine WL.runk 4 [4] [(4, .bool (words_1 == 3))] (by kernel_rfl) ?_
  refine WL.nil ?_
  obtain rfl := Option.some.inj hm
  exact WQ.post' ⟨rfl, hb10, hL11, hS12⟩ ⟨rfl, trivial⟩

theorem c_73 (n : Nat) (s_0 : List UInt8) (w : World) {r : Int × Bool} (hm : m_spec_l01Number n s_0 = some r)  :
    CallV Tryd.prog 73 #[.string (bs s_0)] w (fun v w' => v = .tuple #[.int .i64 r.1, .bool r.2] ∧ Ext w w') := by
  unfold m_spec_l01Number at hm
  refine CallV.enter Tryd.func73 rfl (by kernel_rfl) Tryd.ntmps73 (env := [(0, .string (bs s_0))]) ⟨rfl, trivial⟩ ?_
  refine WP.seq (fun K1 hK1 => ?_)
  refine WP.region ?_
  refine WL.runk 2 [0] [(0, .string (bs s_0))] (by kernel_rfl) ?_
  refine WL.nil ?_
  refine WQ.then_normal (hK1 _ _ _ ?_)
  refine WP.seq (fun K2 hK2 => ?_)
  refine WP.region ?_
  refine WL.runk 2 [0, 4] [(0, .string (bs s_0)), (4, .string (bs s_0))] (by kernel_rfl) ?_
  refine WL.nil ?_
  refine WQ.then_normal (hK2 _ _ _ ?_)
  refine WP.seq (fun K3 hK3 => ?_)
  refine WP.seq (fun K4 hK4 => ?_)
  obtain ⟨x8, hx9, hm⟩ := bindE hm
  refine WP.cut (fun env' w' => env' = [(0, .string (bs s_0)), (4, .string (bs s_0)), (14, .bool x8)] ∧ Ext w w' ∧ w.heap.size ≤ w'.heap.size ∧ SH w' w.heap.size []) ?_ ?_
  · have hm := hx9; clear hx9
    refine WP.region ?_
    refine WL.runk 1 [0, 4, 8] [(0, .string (bs s_0)), (4, .string (bs s_0)), (8, .string (bs s_0))] (by kernel_rfl) ?_
    refine WL.st (.bool (!(s_0 == []))) (ST.strne (x := s_0) (y := []) rfl rfl rfl) rfl rfl rfl ?_
    refine WL.runk 1 [0, 4, 10] [(0, .string (bs s_0)), (4, .string (bs s_0)), (10, .bool (!(s_0 == [])))] (by kernel_rfl) ?_
    refine WL.case (!(s_0 == [])) [10] ⟨rfl, trivial⟩ (fun hc10 => ?_) (fun hc10 => ?_)
    rotate_left
    · have hm := iteF hm hc10
      refine WL.runk 4 [0, 4, 14] [(0, .string (bs s_0)), (4, .string (bs s_0)), (14, .bool false)] (by kernel_rfl) ?_
      refine WL.nil ?_
      obtain rfl := Option.some.inj hm
      exact WQ.post' ⟨rfl, (Ext.refl w), (Nat.le_refl _), (SH.nil _ _)⟩ ⟨rfl, rfl, rfl, trivial⟩
    have hm := iteT hm hc10
    refine WL.runk 1 [0, 4, 10, 11] [(0, .string (bs s_0)), (4, .string (bs s_0)), (10, .bool true), (11, .string (bs s_0))] (by kernel_rfl) ?_
    obtain ⟨x11, hx12, hm⟩ := bindE hm
    refine WL.st (.int .u8 (x11.toNat : Int)) (ST.sindex hx12 rfl rfl rfl Tryd.underlying9) rfl rfl rfl ?_
    refine WL.runk 2 [0, 4, 14] [(0, .string (bs s_0)), (4, .string (bs s_0)), (14, .bool ((x11.toNat : Int) == 45))] (by kernel_rfl) ?_
    refine WL.nil ?_
    obtain rfl := Option.some.inj hm
    exact WQ.post' ⟨rfl, (Ext.refl w), (Nat.le_refl _), (SH.nil _ _)⟩ ⟨rfl, rfl, rfl, trivial⟩
  clear hx9
  rintro _ w13 ⟨rfl, hb14, hL15, hS16⟩
  refine WQ.then_normal (hK4 _ _ _ ?_)
  obtain ⟨x20, hx21, hm⟩ := bindE hm
  refine WP.cut (fun env' w' => env' = [(0, .string (bs s_0)), (4, .string (bs x20))] ∧ Ext w w' ∧ w.heap.size ≤ w'.heap.size ∧ SH w' w.heap.size []) ?_ ?_
  · have hm := hx21; clear hx21
    refine WP.cond x8 rfl rfl (fun hc17 => ?_) (fun hc17 => ?_)
    rotate_left
    · have hm := iteF hm hc17
      refine WP.skip ?_
      obtain rfl := Option.some.inj hm
      exact WQ.post' ⟨rfl, hb14, hL15, hS16⟩ ⟨rfl, rfl, trivial⟩
    have hm := iteT hm hc17
    refine WP.region ?_
    refine WL.runk 1 [0, 15] [(0, .string (bs s_0)), (15, .string (bs s_0))] (by kernel_rfl) ?_
    obtain ⟨x22, hx23, hm⟩ := bindE hm
    refine WL.st (.string (bs x22)) (ST.ssub hx23 rfl rfl Tryd.underlying9 ⟨_, rfl⟩ rfl) rfl rfl rfl ?_
    refine WL.runk 1 [0, 4] [(0, .string (bs s_0)), (4, .string (bs x22))] (by kernel_rfl) ?_
    refine WL.nil ?_
    obtain rfl := Option.some.inj hm
    exact WQ.post' ⟨rfl, hb14, hL15, hS16⟩ ⟨rfl, rfl, trivial⟩
  clear hx21
  rintro _ w24 ⟨rfl, hb25, hL26, hS27⟩
  refine WQ.then_normal (hK3 _ _ _ ?_)
  refine WP.seq (fun K28 hK28 => ?_)
  refine WP.seq (fun K29 hK29 => ?_)
  obtain ⟨x31, hx32, hm⟩ := bindE hm
  refine WP.cut (fun env' w' => env' = [(0, .string (bs s_0)), (4, .string (bs x20)), (24, .bool x31)] ∧ Ext w w' ∧ w.heap.size ≤ w'.heap.size ∧ SH w' w.heap.size []) ?_ ?_
  · have hm := hx32; clear hx32
    refine WP.region ?_
    refine WL.runk 4 [0, 4, 20] [(0, .string (bs s_0)), (4, .string (bs x20)), (20, .bool (decide ((x20.length : Int) < 1)))] (by kernel_rfl) ?_
    refine WL.case (decide ((x20.length : Int) < 1)) [20] ⟨rfl, trivial⟩ (fun hc33 => ?_) (fun hc33 => ?_)
    · have hm := iteT hm hc33
      refine WL.runk 4 [0, 4, 24] [(0, .string (bs s_0)), (4, .string (bs x20)), (24, .bool true)] (by kernel_rfl) ?_
      refine WL.nil ?_
      obtain rfl := Option.some.inj hm
      exact WQ.post' ⟨rfl, hb25, hL26, hS27⟩ ⟨rfl, rfl, rfl, trivial⟩
    have hm := iteF hm hc33
    refine WL.runk 4 [0, 4, 24] [(0, .string (bs s_0)), (4, .string (bs x20)), (24, .bool (decide ((x20.length : Int) > 18)))] (by kernel_rfl) ?_
    refine WL.nil ?_
    obtain rfl := Option.some.inj hm
    exact WQ.post' ⟨rfl, hb25, hL26, hS27⟩ ⟨rfl, rfl, rfl, trivial⟩
  clear hx32
  rintro _ w34 ⟨rfl, hb35, hL36, hS37⟩
  refine WQ.then_normal (hK29 _ _ _ ?_)
  refine WP.cond x31 rfl rfl (fun hc38 => ?_) (fun hc38 => ?_)
  · have hm := iteT hm hc38
    refine WP.seq (fun K39 hK39 => ?_)
    refine WP.region ?_
    refine WL.runk 2 [2, 3] [(2, .int .i64 0), (3, .bool false)] (by kernel_rfl) ?_
    refine WL.nil ?_
    refine WQ.then_normal (hK39 _ _ _ ?_)
    refine WP.ret ?_
    refine WQ.then_ret ?_
    obtain rfl := Option.some.inj hm
    exact WQ.ret2 _ _ rfl rfl rfl ⟨rfl, hb35⟩
  have hm := iteF hm hc38
  refine WP.skip ?_
  refine WQ.then_normal (hK28 _ _ _ ?_)
  refine WP.seq (fun K40 hK40 => ?_)
  refine WP.region ?_
  refine WL.runk 1 [0, 4, 5] [(0, .string (bs s_0)), (4, .string (bs x20)), (5, .int .i64 0)] (by kernel_rfl) ?_
  refine WL.nil ?_
  refine WQ.then_normal (hK40 _ _ _ ?_)
  refine WP.seq (fun K41 hK41 => ?_)
  refine WP.seq (fun K42 hK42 => ?_)
  refine WP.region ?_
  refine WL.runk 1 [0, 4, 5, 6] [(0, .string (bs s_0)), (4, .string (bs x20)), (5, .int .i64 0), (6, .int .i64 0)] (by kernel_rfl) ?_
  refine WL.nil ?_
  refine WQ.then_normal (hK42 _ _ _ ?_)
  refine WP.block ?_
  obtain ⟨t54, ht55, hm⟩ := bindE hm
  have hmo49 := hm; clear hm
  refine WP.sub [(0, .string (bs s_0)), (4, .string (bs x20)), (5, .int .i64 0), (6, .int .i64 0)] ⟨rfl, rfl, rfl, rfl, trivial⟩ ?_
  refine WP.loop (fun n' env' w' => ∃ (st43 : Int × Int) , env' = [(0, .string (bs s_0)), (4, .string (bs x20)), (5, .int .i64 st43.1), (6, .int .i64 st43.2)] ∧ Ext w w' ∧ w.heap.size ≤ w'.heap.size ∧ SH w' w.heap.size [] ∧ loopN (m_spec_l01Number_l1 n x20) n' st43 = some t54) n ⟨(0, 0), rfl, hb35, hL36, hS37, ht55⟩ ?_
  rintro n51 _ w44 ⟨st43, rfl, hb45, hL46, hS47, hl48⟩ K50 hK50
  obtain ⟨n52, s53, rfl, hm, hl48⟩ := loopN_some hl48
  unfold m_spec_l01Number_l1 at hm
  refine WP.seq (fun K56 hK56 => ?_)
  refine WP.seq (fun K57 hK57 => ?_)
  refine WP.region ?_
  refine WL.runk 4 [0, 4, 5, 6, 28] [(0, .string (bs s_0)), (4, .string (bs x20)), (5, .int .i64 st43.1), (6, .int .i64 st43.2), (28, .bool (decide (st43.2 < (x20.length : Int))))] (by kernel_rfl) ?_
  refine WL.nil ?_
  refine WQ.then_normal (hK57 _ _ _ ?_)
  refine WP.cond (decide (st43.2 < (x20.length : Int))) rfl rfl (fun hc58 => ?_) (fun hc58 => ?_)
  · have hm := iteT hm hc58
    refine WP.skip ?_
    refine WQ.then_normal (hK56 _ _ _ ?_)
    refine WP.seq (fun K59 hK59 => ?_)
    refine WP.block ?_
    refine WP.seq (fun K60 hK60 => ?_)
    refine WP.seq (fun K61 hK61 => ?_)
    refine WP.region ?_
    refine WL.runk 2 [0, 4, 5, 6, 31, 32] [(0, .string (bs s_0)), (4, .string (bs x20)), (5, .int .i64 st43.1), (6, .int .i64 st43.2), (31, .string (bs x20)), (32, .int .i64 st43.2)] (by kernel_rfl) ?_
    obtain ⟨x62, hx63, hm⟩ := bindE hm
    refine WL.st (.int .u8 (x62.toNat : Int)) (ST.sindex hx63 rfl rfl rfl Tryd.underlying9) rfl rfl rfl ?_
    obtain ⟨x64, hx65, hm⟩ := bindE hm
    refine WL.call 69 #[.int .u8 (x62.toNat : Int)] rfl rfl (by kernel_rfl) (c_69 n (x62.toNat : Int) w44 hx65 ) ?_
    rintro _ w66 ⟨rfl, hE67⟩
    refine ⟨_, rfl, ?_⟩
    have hb69 : Ext w w66 := Ext.trans hb45 hE67
    have hL70 : w.heap.size ≤ w66.heap.size := Nat.le_trans hL46 hE67.size
    have hS71 : SH w66 w.heap.size [] := SH.ext hS47 hE67
    refine WL.runk 1 [0, 4, 5, 6, 35] [(0, .string (bs s_0)), (4, .string (bs x20)), (5, .int .i64 st43.1), (6, .int .i64 st43.2), (35, .bool (!x64))] (by kernel_rfl) ?_
    refine WL.nil ?_
    refine WQ.then_normal (hK61 _ _ _ ?_)
    refine WP.cond (!x64) rfl rfl (fun hc72 => ?_) (fun hc72 => ?_)
    rotate_left
    · have hm := iteF hm hc72
      refine WP.skip ?_
      refine WQ.then_normal (hK60 _ _ _ ?_)
      refine WP.region ?_
      refine WL.runk 4 [0, 4, 6, 37, 38, 39] [(0, .string (bs s_0)), (4, .string (bs x20)), (6, .int .i64 st43.2), (37, .int .i64 (wI64 (10 * st43.1))), (38, .string (bs x20)), (39, .int .i64 st43.2)] (by kernel_rfl) ?_
      obtain ⟨x74, hx75, hm⟩ := bindE hm
      refine WL.st (.int .u8 (x74.toNat : Int)) (ST.sindex hx75 rfl rfl rfl Tryd.underlying9) rfl rfl rfl ?_
      refine WL.runk 4 [0, 4, 5, 6] [(0, .string (bs s_0)), (4, .string (bs x20)), (6, .int .i64 st43.2), (5, .int .i64 (wI64 ((wI64 (10 * st43.1)) + (wI64 (IntKind.u8.wrap ((x74.toNat : Int) - 48))))))] (by kernel_rfl) ?_
      refine WL.nil ?_
      refine WQ.block_normal ?_
      refine WQ.then_normal (hK59 _ _ _ ?_)
      refine WP.region ?_
      refine WL.runk 3 [0, 4, 5, 6] [(0, .string (bs s_0)), (4, .string (bs x20)), (6, .int .i64 (wI64 (st43.2 + 1))), (5, .int .i64 (wI64 ((wI64 (10 * st43.1)) + (wI64 (IntKind.u8.wrap ((x74.toNat : Int) - 48))))))] (by kernel_rfl) ?_
      refine WL.nil ?_
      obtain rfl := Option.some.inj hm
      exact WQ.round hK50 ⟨((wI64 ((wI64 (10 * st43.1)) + (wI64 (IntKind.u8.wrap ((x74.toNat : Int) - 48))))), (wI64 (st43.2 + 1))), rfl, hb69, hL70, hS71, hl48⟩ (Nat.lt_succ_self _) ⟨rfl, rfl, rfl, rfl, trivial⟩
    have hm := iteT hm hc72
    refine WP.seq (fun K73 hK73 => ?_)
    refine WP.region ?_
    refine WL.runk 2 [2, 3] [(2, .int .i64 0), (3, .bool false)] (by kernel_rfl) ?_
    refine WL.nil ?_
    refine WQ.then_normal (hK73 _ _ _ ?_)
    refine WP.ret ?_
    refine WQ.then_ret ?_
    refine WQ.block_ret ?_
    refine WQ.then_ret ?_
    refine WQ.then_ret ?_
    refine WQ.block_ret ?_
    refine WQ.then_ret ?_
    obtain rfl := Option.some.inj hm
    obtain rfl := afterN_done hl48
    have hm := hmo49
    obtain rfl := Option.some.inj hm
    exact WQ.ret2 _ _ rfl rfl rfl ⟨rfl, hb69⟩
  have hm := iteF hm hc58
  refine WP.exit ?_
  refine WQ.then_exit ?_
  refine WQ.then_exit ?_
  refine WQ.block_here ?_
  obtain rfl := Option.some.inj hm
  obtain rfl := afterN_done hl48
  have hm := hmo49
  refine WQ.then_normal (hK41 _ _ _ ?_)
  refine WP.seq (fun K76 hK76 => ?_)
  refine WP.seq (fun K77 hK77 => ?_)
  refine WP.region ?_
  refine WL.runk 5 [0, 5, 48] [(0, .string (bs s_0)), (5, .int .i64 st43.1), (48, .bool (decide ((x20.length : Int) < (s_0.length : Int))))] (by kernel_rfl) ?_
  refine WL.nil ?_
  refine WQ.then_normal (hK77 _ _ _ ?_)
  obtain ⟨x79, hx80, hm⟩ := bindE hm
  refine WP.cut (fun env' w' => env' = [(0, .string (bs s_0)), (5, .int .i64 x79)] ∧ Ext w w' ∧ w.heap.size ≤ w'.heap.size ∧ SH w' w.heap.size []) ?_ ?_
  · have hm := hx80; clear hx80
    refine WP.cond (decide ((x20.length : Int) < (s_0.length : Int))) rfl rfl (fun hc78 => ?_) (fun hc78 => ?_)
    rotate_left
    · have hm := iteF hm hc78
      refine WP.skip ?_
      obtain rfl := Option.some.inj hm
      exact WQ.post' ⟨rfl, hb45, hL46, hS47⟩ ⟨rfl, rfl, trivial⟩
    have hm := iteT hm hc78
    refine WP.region ?_
    refine WL.runk 3 [0, 5] [(0, .string (bs s_0)), (5, .int .i64 (wI64 (0 - st43.1)))] (by kernel_rfl) ?_
    refine WL.nil ?_
    obtain rfl := Option.some.inj hm
    exact WQ.post' ⟨rfl, hb45, hL46, hS47⟩ ⟨rfl, rfl, trivial⟩
  clear hx80
  rintro _ w81 ⟨rfl, hb82, hL83, hS84⟩
  refine WQ.then_normal (hK76 _ _ _ ?_)
  refine WP.seq (fun K85 hK85 => ?_)
  refine WP.seq (fun K86 hK86 => ?_)
  refine WP.region ?_
  refine WL.runk 1 [0, 5, 51] [(0, .string (bs s_0)), (5, .int .i64 x79), (51, .int .i64 x79)] (by kernel_rfl) ?_
  obtain ⟨x87, hx88, hm⟩ := bindE hm
  refine WL.call 49 #[.int .i64 x79] rfl rfl (by kernel_rfl) (c_49 n x79 w81 hx88 ) ?_
  rintro _ w89 ⟨rfl, hE90⟩
  refine ⟨_, rfl, ?_⟩
  have hb92 : Ext w w89 := Ext.trans hb82 hE90
  have hL93 : w.heap.size ≤ w89.heap.size := Nat.le_trans hL83 hE90.size
  have hS94 : SH w89 w.heap.size [] := SH.ext hS84 hE90
  refine WL.runk 1 [5, 52, 53] [(5, .int .i64 x79), (52, .string (bs x87)), (53, .string (bs s_0))] (by kernel_rfl) ?_
  refine WL.st (.bool (!(x87 == s_0))) (ST.strne (x := x87) (y := s_0) rfl rfl rfl) rfl rfl rfl ?_
  refine WL.sub [(5, .int .i64 x79), (54, .bool (!(x87 == s_0)))] ⟨rfl, rfl, trivial⟩ ?_
  refine WL.nil ?_
  refine WQ.then_normal (hK86 _ _ _ ?_)
  refine WP.cond (!(x87 == s_0)) rfl rfl (fun hc95 => ?_) (fun hc95 => ?_)
  · have hm := iteT hm hc95
    refine WP.seq (fun K96 hK96 => ?_)
    refine WP.region ?_
    refine WL.runk 2 [2, 3] [(2, .int .i64 0), (3, .bool false)] (by kernel_rfl) ?_
    refine WL.nil ?_
    refine WQ.then_normal (hK96 _ _ _ ?_)
    refine WP.ret ?_
    refine WQ.then_ret ?_
    obtain rfl := Option.some.inj hm
    exact WQ.ret2 _ _ rfl rfl rfl ⟨rfl, hb92⟩
  have hm := iteF hm hc95
  refine WP.skip ?_
  refine WQ.then_normal (hK85 _ _ _ ?_)
  refine WP.seq (fun K97 hK97 => ?_)
  refine WP.region ?_
  refine WL.runk 3 [2, 3] [(2, .int .i64 x79), (3, .bool true)] (by kernel_rfl) ?_
  refine WL.nil ?_
  refine WQ.then_normal (hK97 _ _ _ ?_)
  refine WP.ret ?_
  obtain rfl := Option.some.inj hm
  exact WQ.ret2 _ _ rfl rfl rfl ⟨rfl, hb92⟩

theorem c_82 (n : Nat) (n_0 : Int) (low_1 : Int) (high_2 : Int) (w : World) {r : Bool} (hm : m_spec_l00In n n_0 low_1 high_2 = some r)  :
    CallV Tryd.prog 82 #[.int .i64 n_0, .int .i64 low_1, .int .i64 high_2] w (fun v w' => v = .bool r ∧ Ext w w') := by
  unfold m_spec_l00In at hm
  refine CallV.enter Tryd.func82 rfl (by kernel_rfl) Tryd.ntmps82 (env := [(0, .int .i64 n_0), (1, .int .i64 low_1), (2, .int .i64 high_2)]) ⟨rfl, rfl, rfl, trivial⟩ ?_
  refine WP.seq (fun K1 hK1 => ?_)
  refine WP.region ?_
  refine WL.runk 1 [0, 1, 2] [(0, .int .i64 n_0), (1, .int .i64 low_1), (2, .int .i64 high_2)] (by kernel_rfl) ?_
  refine WL.nil ?_
  refine WQ.then_normal (hK1 _ _ _ ?_)
  refine WP.seq (fun K2 hK2 => ?_)
  obtain ⟨x4, hx5, hm⟩ := bindE hm
  refine WP.cut (fun env' w' => env' = [(6, .bool x4)] ∧ Ext w w' ∧ w.heap.size ≤ w'.heap.size ∧ SH w' w.heap.size []) ?_ ?_
  rotate_left
  · clear hx5
    rintro _ w7 ⟨rfl, hb8, hL9, hS10⟩
    refine WQ.then_normal (hK2 _ _ _ ?_)
    refine WP.ret ?_
    obtain rfl := Option.some.inj hm
    exact WQ.ret1 _ rfl rfl ⟨rfl, hb8⟩
  have hm := hx5; clear hx5
  refine WP.region ?_
  refine WL.runk 4 [0, 2, 10] [(0, .int .i64 n_0), (2, .int .i64 high_2), (10, .bool (decide (n_0 ≥ low_1)))] (by kernel_rfl) ?_
  refine WL.case (decide (n_0 ≥ low_1)) [10] ⟨rfl, trivial⟩ (fun hc6 => ?_) (fun hc6 => ?_)
  · have hm := iteT hm hc6
    refine WL.runk 5 [6] [(6, .bool (decide (n_0 ≤ high_2)))] (by kernel_rfl) ?_
    refine WL.nil ?_
    obtain rfl := Option.some.inj hm
    exact WQ.post' ⟨rfl, (Ext.refl w), (Nat.le_refl _), (SH.nil _ _)⟩ ⟨rfl, trivial⟩
  have hm := iteF hm hc6
  refine WL.runk 5 [6] [(6, .bool false)] (by kernel_rfl) ?_
  refine WL.nil ?_
  obtain rfl := Option.some.inj hm
  exact WQ.post' ⟨rfl, (Ext.refl w), (Nat.le_refl _), (SH.nil _ _)⟩ ⟨rfl, trivial⟩

theorem c_67 (n : Nat) (word_0 : List UInt8) (low_1 : Int) (high_2 : Int) (w : World) {r : Bool} (hm : m_spec_l24Number n word_0 low_1 high_2 = some r)  :
    CallV Tryd.prog 67 #[.string (bs word_0), .int .i64 low_1, .int .i64 high_2] w (fun v w' => v = .bool r ∧ Ext w w') := by
  unfold m_spec_l24Number at hm
  refine CallV.enter Tryd.func67 rfl (by kernel_rfl) Tryd.ntmps67 (env := [(0, .string (bs word_0)), (1, .int .i64 low_1), (2, .int .i64 high_2)]) ⟨rfl, rfl, rfl, trivial⟩ ?_
  refine WP.seq (fun K1 hK1 => ?_)
  refine WP.region ?_
  refine WL.runk 1 [0, 1, 2] [(0, .string (bs word_0)), (1, .int .i64 low_1), (2, .int .i64 high_2)] (by kernel_rfl) ?_
  refine WL.nil ?_
  refine WQ.then_normal (hK1 _ _ _ ?_)
  refine WP.seq (fun K2 hK2 => ?_)
  refine WP.region ?_
  refine WL.runk 1 [1, 2, 10] [(1, .int .i64 low_1), (2, .int .i64 high_2), (10, .string (bs word_0))] (by kernel_rfl) ?_
  obtain ⟨x3, hx4, hm⟩ := bindE hm
  refine WL.call 73 #[.string (bs word_0)] rfl rfl (by kernel_rfl) (c_73 n word_0 w hx4 ) ?_
  rintro _ w5 ⟨rfl, hE6⟩
  refine ⟨_, rfl, ?_⟩
  have hb8 : Ext w w5 := Ext.trans (Ext.refl w) hE6
  have hL9 : w.heap.size ≤ w5.heap.size := Nat.le_trans (Nat.le_refl _) hE6.size
  have hS10 : SH w5 w.heap.size [] := SH.ext (SH.nil _ _) hE6
  refine WL.runk 5 [1, 2, 7, 8] [(1, .int .i64 low_1), (2, .int .i64 high_2), (7, .int .i64 x3.1), (8, .bool x3.2)] (by kernel_rfl) ?_
  refine WL.nil ?_
  refine WQ.then_normal (hK2 _ _ _ ?_)
  refine WP.seq (fun K11 hK11 => ?_)
  obtain ⟨x21, hx22, hm⟩ := bindE hm
  refine WP.cut (fun env' w' => env' = [(6, .bool x21)] ∧ Ext w w' ∧ w.heap.size ≤ w'.heap.size ∧ SH w' w.heap.size []) ?_ ?_
  rotate_left
  · clear hx22
    rintro _ w32 ⟨rfl, hb33, hL34, hS35⟩
    refine WQ.then_normal (hK11 _ _ _ ?_)
    refine WP.ret ?_
    obtain rfl := Option.some.inj hm
    exact WQ.ret1 _ rfl rfl ⟨rfl, hb33⟩
  have hm := hx22; clear hx22
  refine WP.region ?_
  refine WL.runk 2 [1, 2, 7, 15] [(1, .int .i64 low_1), (2, .int .i64 high_2), (7, .int .i64 x3.1), (15, .bool x3.2)] (by kernel_rfl) ?_
  refine WL.case x3.2 [15] ⟨rfl, trivial⟩ (fun hc23 => ?_) (fun hc23 => ?_)
  rotate_left
  · have hm := iteF hm hc23
    refine WL.runk 6 [6] [(6, .bool false)] (by kernel_rfl) ?_
    refine WL.nil ?_
    obtain rfl := Option.some.inj hm
    exact WQ.post' ⟨rfl, hb8, hL9, hS10⟩ ⟨rfl, trivial⟩
  have hm := iteT hm hc23
  refine WL.runk 3 [15, 16, 17, 18] [(15, .bool true), (16, .int .i64 x3.1), (17, .int .i64 low_1), (18, .int .i64 high_2)] (by kernel_rfl) ?_
  obtain ⟨x24, hx25, hm⟩ := bindE hm
  refine WL.call 82 #[.int .i64 x3.1, .int .i64 low_1, .int .i64 high_2] rfl rfl (by kernel_rfl) (c_82 n x3.1 low_1 high_2 w5 hx25 ) ?_
  rintro _ w26 ⟨rfl, hE27⟩
  refine ⟨_, rfl, ?_⟩
  have hb29 : Ext w w26 := Ext.trans hb8 hE27
  have hL30 : w.heap.size ≤ w26.heap.size := Nat.le_trans hL9 hE27.size
  have hS31 : SH w26 w.heap.size [] := SH.ext hS10 hE27
  refine WL.runk 2 [6] [(6, .bool x24)] (by kernel_rfl) ?_
  refine WL.nil ?_
  obtain rfl := Option.some.inj hm
  exact WQ.post' ⟨rfl, hb29, hL30, hS31⟩ ⟨rfl, trivial⟩

theorem c_46 (n : Nat) (w_0 : List (List UInt8)) (a0' : Option Addr) (c0' : Nat) (w : World) {r : Int} (hm : m_spec_l24Problem n w_0 = some r) (h0 : Rd fStr.ty w a0' w_0) (_hle0 : w_0.length ≤ c0') :
    CallV Tryd.prog 46 #[.slice a0' w_0.length c0'] w (fun v w' => v = .int .i64 r ∧ Ext w w') := by
  unfold m_spec_l24Problem at hm
  refine CallV.enter Tryd.func46 rfl (by kernel_rfl) Tryd.ntmps46 (env := [(0, .slice a0' w_0.length c0')]) ⟨rfl, trivial⟩ ?_
  refine WP.seq (fun K1 hK1 => ?_)
  refine WP.region ?_
  refine WL.runk 1 [0] [(0, .slice a0' w_0.length c0')] (by kernel_rfl) ?_
  refine WL.nil ?_
  refine WQ.then_normal (hK1 _ _ _ ?_)
  refine WP.seq (fun K2 hK2 => ?_)
  refine WP.seq (fun K3 hK3 => ?_)
  refine WP.region ?_
  refine WL.runk 3 [0, 7] [(0, .slice a0' w_0.length c0'), (7, .bool ((w_0.length : Int) == 0))] (by kernel_rfl) ?_
  refine WL.nil ?_
  refine WQ.then_normal (hK3 _ _ _ ?_)
  refine WP.cond ((w_0.length : Int) == 0) rfl rfl (fun hc4 => ?_) (fun hc4 => ?_)
  · have hm := iteT hm hc4
    refine WP.seq (fun K5 hK5 => ?_)
    refine WP.region ?_
    refine WL.runk 1 [2] [(2, .int .i64 1)] (by kernel_rfl) ?_
    refine WL.nil ?_
    refine WQ.then_normal (hK5 _ _ _ ?_)
    refine WP.ret ?_
    refine WQ.then_ret ?_
    obtain rfl := Option.some.inj hm
    exact WQ.ret1 _ rfl rfl ⟨rfl, (Ext.refl w)⟩
  have hm := iteF hm hc4
  refine WP.skip ?_
  refine WQ.then_normal (hK2 _ _ _ ?_)
  refine WP.seq (fun K6 hK6 => ?_)
  refine WP.region ?_
  refine WL.runk 1 [0, 8] [(0, .slice a0' w_0.length c0'), (8, .slice a0' w_0.length c0')] (by kernel_rfl) ?_
  obtain ⟨x7, hx8, hm⟩ := bindE hm
  refine WL.st (.pointer (some (at_ a0' (Int.toNat 0 * 1)))) (ST.index (T := fStr.ty) (xs := w_0) (Rd.below h0 (Ext.refl w)) hx8 rfl rfl rfl Tryd.underlying22 (info9).1 (info9).2.1) rfl rfl rfl ?_
  refine WL.st (.string (bs x7)) (ST.load (cell_ext (Rd.flat (F := fStr) (Rd.below h0 (Ext.refl w)) hx8 0 rfl)) rfl rfl Tryd.underlying9 rfl) rfl rfl rfl ?_
  obtain ⟨x9, hx10, hm⟩ := bindE hm
  refine WL.call 57 #[.string (bs x7)] rfl rfl (by kernel_rfl) (c_57 n x7 w hx10 ) ?_
  rintro _ w11 ⟨rfl, hE12⟩
  refine ⟨_, rfl, ?_⟩
  have hb14 : Ext w w11 := Ext.trans (Ext.refl w) hE12
  have hL15 : w.heap.size ≤ w11.heap.size := Nat.le_trans (Nat.le_refl _) hE12.size
  have hS16 : SH w11 w.heap.size [] := SH.ext (SH.nil _ _) hE12
  refine WL.runk 1 [0, 3] [(0, .slice a0' w_0.length c0'), (3, .int .i64 x9)] (by kernel_rfl) ?_
  refine WL.nil ?_
  refine WQ.then_normal (hK6 _ _ _ ?_)
  refine WP.seq (fun K17 hK17 => ?_)
  refine WP.seq (fun K18 hK18 => ?_)
  refine WP.region ?_
  refine WL.runk 2 [0, 3, 13] [(0, .slice a0' w_0.length c0'), (3, .int .i64 x9), (13, .bool (decide (x9 < 0)))] (by kernel_rfl) ?_
  refine WL.nil ?_
  refine WQ.then_normal (hK18 _ _ _ ?_)
  refine WP.cond (decide (x9 < 0)) rfl rfl (fun hc19 => ?_) (fun hc19 => ?_)
  · have hm := iteT hm hc19
    refine WP.seq (fun K20 hK20 => ?_)
    refine WP.region ?_
    refine WL.runk 1 [2] [(2, .int .i64 1)] (by kernel_rfl) ?_
    refine WL.nil ?_
    refine WQ.then_normal (hK20 _ _ _ ?_)
    refine WP.ret ?_
    refine WQ.then_ret ?_
    obtain rfl := Option.some.inj hm
    exact WQ.ret1 _ rfl rfl ⟨rfl, hb14⟩
  have hm := iteF hm hc19
  refine WP.skip ?_
  refine WQ.then_normal (hK17 _ _ _ ?_)
  refine WP.seq (fun K21 hK21 => ?_)
  refine WP.seq (fun K22 hK22 => ?_)
  refine WP.region ?_
  refine WL.runk 3 [0, 3, 14, 16] [(0, .slice a0' w_0.length c0'), (3, .int .i64 x9), (14, .int .i64 x9), (16, .int .i64 (w_0.length : Int))] (by kernel_rfl) ?_
  obtain ⟨x23, hx24, hm⟩ := bindE hm
  refine WL.call 66 #[.int .i64 x9, .int .i64 (w_0.length : Int)] rfl rfl (by kernel_rfl) (c_66 n x9 (w_0.length : Int) w11 hx24 ) ?_
  rintro _ w25 ⟨rfl, hE26⟩
  refine ⟨_, rfl, ?_⟩
  have hb28 : Ext w w25 := Ext.trans hb14 hE26
  have hL29 : w.heap.size ≤ w25.heap.size := Nat.le_trans hL15 hE26.size
  have hS30 : SH w25 w.heap.size [] := SH.ext hS16 hE26
  refine WL.runk 1 [0, 3, 18] [(0, .slice a0' w_0.length c0'), (3, .int .i64 x9), (18, .bool (!x23))] (by kernel_rfl) ?_
  refine WL.nil ?_
  refine WQ.then_normal (hK22 _ _ _ ?_)
  refine WP.cond (!x23) rfl rfl (fun hc31 => ?_) (fun hc31 => ?_)
  · have hm := iteT hm hc31
    refine WP.seq (fun K32 hK32 => ?_)
    refine WP.region ?_
    refine WL.runk 1 [2] [(2, .int .i64 2)] (by kernel_rfl) ?_
    refine WL.nil ?_
    refine WQ.then_normal (hK32 _ _ _ ?_)
    refine WP.ret ?_
    refine WQ.then_ret ?_
    obtain rfl := Option.some.inj hm
    exact WQ.ret1 _ rfl rfl ⟨rfl, hb28⟩
  have hm := iteF hm hc31
  refine WP.skip ?_
  refine WQ.then_normal (hK21 _ _ _ ?_)
  refine WP.seq (fun K33 hK33 => ?_)
  refine WP.seq (fun K34 hK34 => ?_)
  obtain ⟨x69, hx70, hm⟩ := bindE hm
  refine WP.cut (fun env' w' => env' = [(0, .slice a0' w_0.length c0'), (3, .int .i64 x9), (38, .bool x69)] ∧ Ext w w' ∧ w.heap.size ≤ w'.heap.size ∧ SH w' w.heap.size []) ?_ ?_
  · have hm := hx70; clear hx70
    refine WP.region ?_
    refine WL.runk 3 [0, 3, 21] [(0, .slice a0' w_0.length c0'), (3, .int .i64 x9), (21, .bool (decide (x9 ≤ 2)))] (by kernel_rfl) ?_
    refine WL.case (decide (x9 ≤ 2)) [21] ⟨rfl, trivial⟩ (fun hc71 => ?_) (fun hc71 => ?_)
    rotate_left
    · have hm := iteF hm hc71
      refine WL.runk 10 [0, 3, 28, 31] [(0, .slice a0' w_0.length c0'), (3, .int .i64 x9), (28, .bool false), (31, .bool (x9 == 0))] (by kernel_rfl) ?_
      refine WL.case (x9 == 0) [31] ⟨rfl, trivial⟩ (fun hc94 => ?_) (fun hc94 => ?_)
      rotate_left
      · have hm := iteF hm hc94
        refine WL.runk 7 [0, 3, 38] [(0, .slice a0' w_0.length c0'), (3, .int .i64 x9), (38, .bool false)] (by kernel_rfl) ?_
        refine WL.nil ?_
        obtain rfl := Option.some.inj hm
        exact WQ.post' ⟨rfl, hb28, hL29, hS30⟩ ⟨rfl, rfl, rfl, trivial⟩
      have hm := iteT hm hc94
      refine WL.runk 1 [0, 3, 28, 31, 32] [(0, .slice a0' w_0.length c0'), (3, .int .i64 x9), (28, .bool false), (31, .bool true), (32, .slice a0' w_0.length c0')] (by kernel_rfl) ?_
      obtain ⟨x95, hx96, hm⟩ := bindE hm
      refine WL.st (.pointer (some (at_ a0' (Int.toNat 2 * 1)))) (ST.index (T := fStr.ty) (xs := w_0) (Rd.below h0 hb28) hx96 rfl rfl rfl Tryd.underlying22 (info9).1 (info9).2.1) rfl rfl rfl ?_
      refine WL.st (.string (bs x95)) (ST.load (cell_ext (Rd.flat (F := fStr) (Rd.below h0 hb28) hx96 0 rfl)) rfl rfl Tryd.underlying9 rfl) rfl rfl rfl ?_
      obtain ⟨x97, hx98, hm⟩ := bindE hm
      refine WL.call 48 #[.string (bs x95)] rfl rfl (by kernel_rfl) (c_48 n x95 w25 hx98 ) ?_
      rintro _ w99 ⟨rfl, hE100⟩
      refine ⟨_, rfl, ?_⟩
      have hb102 : Ext w w99 := Ext.trans hb28 hE100
      have hL103 : w.heap.size ≤ w99.heap.size := Nat.le_trans hL29 hE100.size
      have hS104 : SH w99 w.heap.size [] := SH.ext hS30 hE100
      refine WL.runk 3 [0, 3, 38] [(0, .slice a0' w_0.length c0'), (3, .int .i64 x9), (38, .bool (!x97))] (by kernel_rfl) ?_
      refine WL.nil ?_
      obtain rfl := Option.some.inj hm
      exact WQ.post' ⟨rfl, hb102, hL103, hS104⟩ ⟨rfl, rfl, rfl, trivial⟩
    have hm := iteT hm hc71
    refine WL.runk 1 [0, 3, 21, 22] [(0, .slice a0' w_0.length c0'), (3, .int .i64 x9), (21, .bool true), (22, .slice a0' w_0.length c0')] (by kernel_rfl) ?_
    obtain ⟨x72, hx73, hm⟩ := bindE hm
    refine WL.st (.pointer (some (at_ a0' (Int.toNat 1 * 1)))) (ST.index (T := fStr.ty) (xs := w_0) (Rd.below h0 hb28) hx73 rfl rfl rfl Tryd.underlying22 (info9).1 (info9).2.1) rfl rfl rfl ?_
    refine WL.st (.string (bs x72)) (ST.load (cell_ext (Rd.flat (F := fStr) (Rd.below h0 hb28) hx73 0 rfl)) rfl rfl Tryd.underlying9 rfl) rfl rfl rfl ?_
    obtain ⟨x74, hx75, hm⟩ := bindE hm
    refine WL.call 48 #[.string (bs x72)] rfl rfl (by kernel_rfl) (c_48 n x72 w25 hx75 ) ?_
    rintro _ w76 ⟨rfl, hE77⟩
    refine ⟨_, rfl, ?_⟩
    have hb79 : Ext w w76 := Ext.trans hb28 hE77
    have hL80 : w.heap.size ≤ w76.heap.size := Nat.le_trans hL29 hE77.size
    have hS81 : SH w76 w.heap.size [] := SH.ext hS30 hE77
    refine WL.runk 3 [0, 3, 28] [(0, .slice a0' w_0.length c0'), (3, .int .i64 x9), (28, .bool (!x74))] (by kernel_rfl) ?_
    refine WL.case (!x74) [28] ⟨rfl, trivial⟩ (fun hc82 => ?_) (fun hc82 => ?_)
    · have hm := iteT hm hc82
      refine WL.runk 10 [0, 3, 38] [(0, .slice a0' w_0.length c0'), (3, .int .i64 x9), (38, .bool true)] (by kernel_rfl) ?_
      refine WL.nil ?_
      obtain rfl := Option.some.inj hm
      exact WQ.post' ⟨rfl, hb79, hL80, hS81⟩ ⟨rfl, rfl, rfl, trivial⟩
    have hm := iteF hm hc82
    refine WL.runk 3 [0, 3, 28, 31] [(0, .slice a0' w_0.length c0'), (3, .int .i64 x9), (28, .bool false), (31, .bool (x9 == 0))] (by kernel_rfl) ?_
    refine WL.case (x9 == 0) [31] ⟨rfl, trivial⟩ (fun hc83 => ?_) (fun hc83 => ?_)
    rotate_left
    · have hm := iteF hm hc83
      refine WL.runk 7 [0, 3, 38] [(0, .slice a0' w_0.length c0'), (3, .int .i64 x9), (38, .bool false)] (by kernel_rfl) ?_
      refine WL.nil ?_
      obtain rfl := Option.some.inj hm
      exact WQ.post' ⟨rfl, hb79, hL80, hS81⟩ ⟨rfl, rfl, rfl, trivial⟩
    have hm := iteT hm hc83
    refine WL.runk 1 [0, 3, 28, 31, 32] [(0, .slice a0' w_0.length c0'), (3, .int .i64 x9), (28, .bool false), (31, .bool true), (32, .slice a0' w_0.length c0')] (by kernel_rfl) ?_
    obtain ⟨x84, hx85, hm⟩ := bindE hm
    refine WL.st (.pointer (some (at_ a0' (Int.toNat 2 * 1)))) (ST.index (T := fStr.ty) (xs := w_0) (Rd.below h0 hb79) hx85 rfl rfl rfl Tryd.underlying22 (info9).1 (info9).2.1) rfl rfl rfl ?_
    refine WL.st (.string (bs x84)) (ST.load (cell_ext (Rd.flat (F := fStr) (Rd.below h0 hb79) hx85 0 rfl)) rfl rfl Tryd.underlying9 rfl) rfl rfl rfl ?_
    obtain ⟨x86, hx87, hm⟩ := bindE hm
    refine WL.call 48 #[.string (bs x84)] rfl rfl (by kernel_rfl) (c_48 n x84 w76 hx87 ) ?_
    rintro _ w88 ⟨rfl, hE89⟩
    refine ⟨_, rfl, ?_⟩
    have hb91 : Ext w w88 := Ext.trans hb79 hE89
    have hL92 : w.heap.size ≤ w88.heap.size := Nat.le_trans hL80 hE89.size
    have hS93 : SH w88 w.heap.size [] := SH.ext hS81 hE89
    refine WL.runk 3 [0, 3, 38] [(0, .slice a0' w_0.length c0'), (3, .int .i64 x9), (38, .bool (!x86))] (by kernel_rfl) ?_
    refine WL.nil ?_
    obtain rfl := Option.some.inj hm
    exact WQ.post' ⟨rfl, hb91, hL92, hS93⟩ ⟨rfl, rfl, rfl, trivial⟩
  clear hx70
  rintro _ w105 ⟨rfl, hb106, hL107, hS108⟩
  refine WQ.then_normal (hK34 _ _ _ ?_)
  refine WP.cond x69 rfl rfl (fun hc109 => ?_) (fun hc109 => ?_)
  · have hm := iteT hm hc109
    refine WP.seq (fun K110 hK110 => ?_)
    refine WP.region ?_
    refine WL.runk 1 [2] [(2, .int .i64 4)] (by kernel_rfl) ?_
    refine WL.nil ?_
    refine WQ.then_normal (hK110 _ _ _ ?_)
    refine WP.ret ?_
    refine WQ.then_ret ?_
    obtain rfl := Option.some.inj hm
    exact WQ.ret1 _ rfl rfl ⟨rfl, hb106⟩
  have hm := iteF hm hc109
  refine WP.skip ?_
  refine WQ.then_normal (hK33 _ _ _ ?_)
  refine WP.seq (fun K111 hK111 => ?_)
  refine WP.region ?_
  refine WL.runk 1 [0, 3, 4] [(0, .slice a0' w_0.length c0'), (3, .int .i64 x9), (4, .bool true)] (by kernel_rfl) ?_
  refine WL.nil ?_
  refine WQ.then_normal (hK111 _ _ _ ?_)
  refine WP.seq (fun K112 hK112 => ?_)
  refine WP.seq (fun K113 hK113 => ?_)
  refine WP.region ?_
  refine WL.runk 1 [0, 4, 39] [(0, .slice a0' w_0.length c0'), (4, .bool true), (39, .int .i64 x9)] (by kernel_rfl) ?_
  refine WL.nil ?_
  refine WQ.then_normal (hK113 _ _ _ ?_)
  refine WP.block ?_
  refine WP.seq (fun K114 hK114 => ?_)
  refine WP.region ?_
  refine WL.runk 2 [0, 4, 39, 40] [(0, .slice a0' w_0.length c0'), (4, .bool true), (39, .int .i64 x9), (40, .bool (x9 == 2))] (by kernel_rfl) ?_
  refine WL.nil ?_
  refine WQ.then_normal (hK114 _ _ _ ?_)
  obtain ⟨x514, hx515, hm⟩ := bindE hm
  refine WP.cut (fun env' w' => env' = [(4, .bool x514)] ∧ Ext w w' ∧ w.heap.size ≤ w'.heap.size ∧ SH w' w.heap.size []) ?_ ?_
  rotate_left
  · clear hx515
    rintro _ w914 ⟨rfl, hb915, hL916, hS917⟩
    refine WQ.block_normal ?_
    refine WQ.then_normal (hK112 _ _ _ ?_)
    refine WP.seq (fun K918 hK918 => ?_)
    refine WP.seq (fun K919 hK919 => ?_)
    refine WP.region ?_
    refine WL.runk 2 [76] [(76, .bool (!x514))] (by kernel_rfl) ?_
    refine WL.nil ?_
    refine WQ.then_normal (hK919 _ _ _ ?_)
    refine WP.cond (!x514) rfl rfl (fun hc920 => ?_) (fun hc920 => ?_)
    · have hm := iteT hm hc920
      refine WP.seq (fun K921 hK921 => ?_)
      refine WP.region ?_
      refine WL.runk 1 [2] [(2, .int .i64 3)] (by kernel_rfl) ?_
      refine WL.nil ?_
      refine WQ.then_normal (hK921 _ _ _ ?_)
      refine WP.ret ?_
      refine WQ.then_ret ?_
      obtain rfl := Option.some.inj hm
      exact WQ.ret1 _ rfl rfl ⟨rfl, hb915⟩
    have hm := iteF hm hc920
    refine WP.skip ?_
    refine WQ.then_normal (hK918 _ _ _ ?_)
    refine WP.seq (fun K922 hK922 => ?_)
    refine WP.region ?_
    refine WL.runk 1 [2] [(2, .int .i64 0)] (by kernel_rfl) ?_
    refine WL.nil ?_
    refine WQ.then_normal (hK922 _ _ _ ?_)
    refine WP.ret ?_
    obtain rfl := Option.some.inj hm
    exact WQ.ret1 _ rfl rfl ⟨rfl, hb915⟩
  have hm := hx515; clear hx515
  refine WP.cond (x9 == 2) rfl rfl (fun hc115 => ?_) (fun hc115 => ?_)
  · have hm := iteT hm hc115
    refine WP.region ?_
    refine WL.runk 1 [42] [(42, .slice a0' w_0.length c0')] (by kernel_rfl) ?_
    obtain ⟨x516, hx517, hm⟩ := bindE hm
    refine WL.st (.pointer (some (at_ a0' (Int.toNat 2 * 1)))) (ST.index (T := fStr.ty) (xs := w_0) (Rd.below h0 hb106) hx517 rfl rfl rfl Tryd.underlying22 (info9).1 (info9).2.1) rfl rfl rfl ?_
    refine WL.st (.string (bs x516)) (ST.load (cell_ext (Rd.flat (F := fStr) (Rd.below h0 hb106) hx517 0 rfl)) rfl rfl Tryd.underlying9 rfl) rfl rfl rfl ?_
    obtain ⟨x518, hx519, hm⟩ := bindE hm
    refine WL.call 67 #[.string (bs x516), .int .i64 10, .int .i64 300] rfl rfl (by kernel_rfl) (c_67 n x516 10 300 w105 hx519 ) ?_
    rintro _ w520 ⟨rfl, hE521⟩
    refine ⟨_, rfl, ?_⟩
    have hb523 : Ext w w520 := Ext.trans hb106 hE521
    have hL524 : w.heap.size ≤ w520.heap.size := Nat.le_trans hL107 hE521.size
    have hS525 : SH w520 w.heap.size [] := SH.ext hS108 hE521
    refine WL.runk 1 [4] [(4, .bool x518)] (by kernel_rfl) ?_
    refine WL.nil ?_
    obtain rfl := Option.some.inj hm
    exact WQ.post' ⟨rfl, hb523, hL524, hS525⟩ ⟨rfl, trivial⟩
  have hm := iteF hm hc115
  refine WP.seq (fun K526 hK526 => ?_)
  refine WP.region ?_
  refine WL.runk 2 [0, 4, 39, 46] [(0, .slice a0' w_0.length c0'), (4, .bool true), (39, .int .i64 x9), (46, .bool (x9 == 3))] (by kernel_rfl) ?_
  refine WL.nil ?_
  refine WQ.then_normal (hK526 _ _ _ ?_)
  obtain ⟨x718, hx719, hm⟩ := bindE hm
  refine WP.cut (fun env' w' => env' = [(4, .bool x718)] ∧ Ext w w' ∧ w.heap.size ≤ w'.heap.size ∧ SH w' w.heap.size []) ?_ ?_
  rotate_left
  · clear hx719
    rintro _ w910 ⟨rfl, hb911, hL912, hS913⟩
    obtain rfl := Option.some.inj hm
    exact WQ.post' ⟨rfl, hb911, hL912, hS913⟩ ⟨rfl, trivial⟩
  have hm := hx719; clear hx719
  refine WP.cond (x9 == 3) rfl rfl (fun hc527 => ?_) (fun hc527 => ?_)
  · have hm := iteT hm hc527
    refine WP.region ?_
    refine WL.runk 1 [48] [(48, .slice a0' w_0.length c0')] (by kernel_rfl) ?_
    obtain ⟨x720, hx721, hm⟩ := bindE hm
    refine WL.st (.pointer (some (at_ a0' (Int.toNat 1 * 1)))) (ST.index (T := fStr.ty) (xs := w_0) (Rd.below h0 hb106) hx721 rfl rfl rfl Tryd.underlying22 (info9).1 (info9).2.1) rfl rfl rfl ?_
    refine WL.st (.string (bs x720)) (ST.load (cell_ext (Rd.flat (F := fStr) (Rd.below h0 hb106) hx721 0 rfl)) rfl rfl Tryd.underlying9 rfl) rfl rfl rfl ?_
    obtain ⟨x722, hx723, hm⟩ := bindE hm
    refine WL.call 67 #[.string (bs x720), .int .i64 0, .int .i64 1200] rfl rfl (by kernel_rfl) (c_67 n x720 0 1200 w105 hx723 ) ?_
    rintro _ w724 ⟨rfl, hE725⟩
    refine ⟨_, rfl, ?_⟩
    have hb727 : Ext w w724 := Ext.trans hb106 hE725
    have hL728 : w.heap.size ≤ w724.heap.size := Nat.le_trans hL107 hE725.size
    have hS729 : SH w724 w.heap.size [] := SH.ext hS108 hE725
    refine WL.runk 1 [4] [(4, .bool x722)] (by kernel_rfl) ?_
    refine WL.nil ?_
    obtain rfl := Option.some.inj hm
    exact WQ.post' ⟨rfl, hb727, hL728, hS729⟩ ⟨rfl, trivial⟩
  have hm := iteF hm hc527
  refine WP.seq (fun K730 hK730 => ?_)
  refine WP.region ?_
  refine WL.runk 2 [0, 4, 39, 52] [(0, .slice a0' w_0.length c0'), (4, .bool true), (39, .int .i64 x9), (52, .bool (x9 == 4))] (by kernel_rfl) ?_
  refine WL.nil ?_
  refine WQ.then_normal (hK730 _ _ _ ?_)
  obtain ⟨x818, hx819, hm⟩ := bindE hm
  refine WP.cut (fun env' w' => env' = [(4, .bool x818)] ∧ Ext w w' ∧ w.heap.size ≤ w'.heap.size ∧ SH w' w.heap.size []) ?_ ?_
  rotate_left
  · clear hx819
    rintro _ w906 ⟨rfl, hb907, hL908, hS909⟩
    obtain rfl := Option.some.inj hm
    exact WQ.post' ⟨rfl, hb907, hL908, hS909⟩ ⟨rfl, trivial⟩
  have hm := hx819; clear hx819
  refine WP.cond (x9 == 4) rfl rfl (fun hc731 => ?_) (fun hc731 => ?_)
  · have hm := iteT hm hc731
    refine WP.region ?_
    refine WL.runk 1 [54] [(54, .slice a0' w_0.length c0')] (by kernel_rfl) ?_
    obtain ⟨x820, hx821, hm⟩ := bindE hm
    refine WL.st (.pointer (some (at_ a0' (Int.toNat 1 * 1)))) (ST.index (T := fStr.ty) (xs := w_0) (Rd.below h0 hb106) hx821 rfl rfl rfl Tryd.underlying22 (info9).1 (info9).2.1) rfl rfl rfl ?_
    refine WL.st (.string (bs x820)) (ST.load (cell_ext (Rd.flat (F := fStr) (Rd.below h0 hb106) hx821 0 rfl)) rfl rfl Tryd.underlying9 rfl) rfl rfl rfl ?_
    obtain ⟨x822, hx823, hm⟩ := bindE hm
    refine WL.call 67 #[.string (bs x820), .int .i64 1, .int .i64 12] rfl rfl (by kernel_rfl) (c_67 n x820 1 12 w105 hx823 ) ?_
    rintro _ w824 ⟨rfl, hE825⟩
    refine ⟨_, rfl, ?_⟩
    have hb827 : Ext w w824 := Ext.trans hb106 hE825
    have hL828 : w.heap.size ≤ w824.heap.size := Nat.le_trans hL107 hE825.size
    have hS829 : SH w824 w.heap.size [] := SH.ext hS108 hE825
    refine WL.runk 1 [4] [(4, .bool x822)] (by kernel_rfl) ?_
    refine WL.nil ?_
    obtain rfl := Option.some.inj hm
    exact WQ.post' ⟨rfl, hb827, hL828, hS829⟩ ⟨rfl, trivial⟩
  have hm := iteF hm hc731
  refine WP.seq (fun K830 hK830 => ?_)
  refine WP.region ?_
  refine WL.runk 2 [0, 4, 58] [(0, .slice a0' w_0.length c0'), (4, .bool true), (58, .bool (x9 == 5))] (by kernel_rfl) ?_
  refine WL.nil ?_
  refine WQ.then_normal (hK830 _ _ _ ?_)
  obtain ⟨x866, hx867, hm⟩ := bindE hm
  refine WP.cut (fun env' w' => env' = [(4, .bool x866)] ∧ Ext w w' ∧ w.heap.size ≤ w'.heap.size ∧ SH w' w.heap.size []) ?_ ?_
  rotate_left
  · clear hx867
    rintro _ w902 ⟨rfl, hb903, hL904, hS905⟩
    obtain rfl := Option.some.inj hm
    exact WQ.post' ⟨rfl, hb903, hL904, hS905⟩ ⟨rfl, trivial⟩
  have hm := hx867; clear hx867
  refine WP.cond (x9 == 5) rfl rfl (fun hc831 => ?_) (fun hc831 => ?_)
  rotate_left
  · have hm := iteF hm hc831
    refine WP.skip ?_
    obtain rfl := Option.some.inj hm
    exact WQ.post' ⟨rfl, hb106, hL107, hS108⟩ ⟨rfl, trivial⟩
  have hm := iteT hm hc831
  obtain ⟨x882, hx883, hm⟩ := bindE hm
  refine WP.cut (fun env' w' => env' = [(4, .bool x882)] ∧ Ext w w' ∧ w.heap.size ≤ w'.heap.size ∧ SH w' w.heap.size []) ?_ ?_
  rotate_left
  · clear hx883
    rintro _ w898 ⟨rfl, hb899, hL900, hS901⟩
    obtain rfl := Option.some.inj hm
    exact WQ.post' ⟨rfl, hb899, hL900, hS901⟩ ⟨rfl, trivial⟩
  have hm := hx883; clear hx883
  refine WP.region ?_
  refine WL.runk 1 [0, 60] [(0, .slice a0' w_0.length c0'), (60, .slice a0' w_0.length c0')] (by kernel_rfl) ?_
  obtain ⟨x884, hx885, hm⟩ := bindE hm
  refine WL.st (.pointer (some (at_ a0' (Int.toNat 1 * 1)))) (ST.index (T := fStr.ty) (xs := w_0) (Rd.below h0 hb106) hx885 rfl rfl rfl Tryd.underlying22 (info9).1 (info9).2.1) rfl rfl rfl ?_
  refine WL.st (.string (bs x884)) (ST.load (cell_ext (Rd.flat (F := fStr) (Rd.below h0 hb106) hx885 0 rfl)) rfl rfl Tryd.underlying9 rfl) rfl rfl rfl ?_
  obtain ⟨x886, hx887, hm⟩ := bindE hm
  refine WL.call 67 #[.string (bs x884), .int .i64 10, .int .i64 80] rfl rfl (by kernel_rfl) (c_67 n x884 10 80 w105 hx887 ) ?_
  rintro _ w888 ⟨rfl, hE889⟩
  refine ⟨_, rfl, ?_⟩
  have hb891 : Ext w w888 := Ext.trans hb106 hE889
  have hL892 : w.heap.size ≤ w888.heap.size := Nat.le_trans hL107 hE889.size
  have hS893 : SH w888 w.heap.size [] := SH.ext hS108 hE889
  refine WL.runk 1 [0, 64] [(0, .slice a0' w_0.length c0'), (64, .bool x886)] (by kernel_rfl) ?_
  refine WL.case x886 [64] ⟨rfl, trivial⟩ (fun hc894 => ?_) (fun hc894 => ?_)
  rotate_left
  · have hm := iteF hm hc894
    refine WL.runk 11 [4] [(4, .bool false)] (by kernel_rfl) ?_
    refine WL.nil ?_
    obtain rfl := Option.some.inj hm
    exact WQ.post' ⟨rfl, hb891, hL892, hS893⟩ ⟨rfl, trivial⟩
  have hm := iteT hm hc894
  refine WL.runk 4 [0, 64, 68] [(0, .slice a0' w_0.length c0'), (64, .bool true), (68, .bool ((w_0.length : Int) == 2))] (by kernel_rfl) ?_
  refine WL.case ((w_0.length : Int) == 2) [68] ⟨rfl, trivial⟩ (fun hc895 => ?_) (fun hc895 => ?_)
  · have hm := iteT hm hc895
    refine WL.runk 7 [4] [(4, .bool true)] (by kernel_rfl) ?_
    refine WL.nil ?_
    obtain rfl := Option.some.inj hm
    exact WQ.post' ⟨rfl, hb891, hL892, hS893⟩ ⟨rfl, trivial⟩
  have hm := iteF hm hc895
  refine WL.runk 1 [64, 68, 69] [(64, .bool true), (68, .bool false), (69, .slice a0' w_0.length c0')] (by kernel_rfl) ?_
  obtain ⟨x896, hx897, hm⟩ := bindE hm
  refine WL.st (.pointer (some (at_ a0' (Int.toNat 2 * 1)))) (ST.index (T := fStr.ty) (xs := w_0) (Rd.below h0 hb891) hx897 rfl rfl rfl Tryd.underlying22 (info9).1 (info9).2.1) rfl rfl rfl ?_
  refine WL.st (.string (bs x896)) (ST.load (cell_ext (Rd.flat (F := fStr) (Rd.below h0 hb891) hx897 0 rfl)) rfl rfl Tryd.underlying9 rfl) rfl rfl rfl ?_
  refine WL.st (.bool (x896 == [100, 111, 117, 98, 108, 101])) (ST.streq (x := x896) (y := [100, 111, 117, 98, 108, 101]) rfl rfl rfl) rfl rfl rfl ?_
  refine WL.runk 3 [4] [(4, .bool (x896 == [100, 111, 117, 98, 108, 101]))] (by kernel_rfl) ?_
  refine WL.nil ?_
  obtain rfl := Option.some.inj hm
  exact WQ.post' ⟨rfl, hb891, hL892, hS893⟩ ⟨rfl, trivial⟩

theorem c_47 (n : Nat) (s_0 : List UInt8) (w : World) {r : List (List UInt8)} (hm : m_spec_SplitWords n s_0 = some r)  :
    CallV Tryd.prog 47 #[.string (bs s_0)] w (fun v w' => ∃ (ra0 : Option Addr) (rc0 : Nat), v = .slice ra0 r.length rc0 ∧ Ext w w' ∧ SH w' w.heap.size [aOwn fStr 9 ra0 rc0 r]) := by
  unfold m_spec_SplitWords at hm
  refine CallV.enter Tryd.func47 rfl (by kernel_rfl) Tryd.ntmps47 (env := [(0, .string (bs s_0))]) ⟨rfl, trivial⟩ ?_
  refine WP.seq (fun K1 hK1 => ?_)
  refine WP.region ?_
  refine WL.runk 1 [0] [(0, .string (bs s_0))] (by kernel_rfl) ?_
  refine WL.nil ?_
  refine WQ.then_normal (hK1 _ _ _ ?_)
  refine WP.seq (fun K2 hK2 => ?_)
  refine WP.region ?_
  refine WL.runk 1 [6] [(6, .string (bs s_0))] (by kernel_rfl) ?_
  obtain ⟨x3, hx4, hm⟩ := bindE hm
  refine WL.call 44 #[.string (bs s_0), .int .u8 32] rfl rfl (by kernel_rfl) (c_44 n s_0 32 w hx4 ) ?_
  rintro _ w8 ⟨a5, c6, rfl, hE9, hR10⟩
  refine ⟨_, rfl, ?_⟩
  have hb11 : Ext w w8 := Ext.trans (Ext.refl w) hE9
  have hL12 : w.heap.size ≤ w8.heap.size := Nat.le_trans (Nat.le_refl _) hE9.size
  have hS13 : SH w8 w.heap.size [aOwn fStr 9 a5 c6 x3] := SH.add (SH.nil _ _) hE9 (Nat.le_refl _) hR10
  refine WL.runk 1 [3] [(3, .slice a5 x3.length c6)] (by kernel_rfl) ?_
  refine WL.nil ?_
  refine WQ.then_normal (hK2 _ _ _ ?_)
  refine WP.seq (fun K14 hK14 => ?_)
  refine WP.region ?_
  refine WL.row fStr 9 ([] : List (List UInt8)) 0 #[] 8 (by kernel_rfl) rfl rfl rfl rfl rfl rfl rfl ?_
  intro a15 c16 w17 hE18 hR19
  have hb21 : Ext w w17 := Ext.trans hb11 hE18
  have hL22 : w.heap.size ≤ w17.heap.size := Nat.le_trans hL12 hE18.size
  have hS23 : SH w17 w.heap.size [aOwn fStr 9 a15 c16 ([] : List (List UInt8)), aOwn fStr 9 a5 c6 x3] := SH.add hS13 hE18 hL12 hR19
  refine WL.runk 1 [3, 4] [(3, .slice a5 x3.length c6), (4, .slice a15 (([] : List (List UInt8)).length) c16)] (by kernel_rfl) ?_
  refine WL.nil ?_
  refine WQ.then_normal (hK14 _ _ _ ?_)
  refine WP.seq (fun K24 hK24 => ?_)
  refine WP.seq (fun K25 hK25 => ?_)
  refine WP.region ?_
  refine WL.runk 1 [3, 4, 5] [(3, .slice a5 x3.length c6), (4, .slice a15 (([] : List (List UInt8)).length) c16), (5, .int .i64 0)] (by kernel_rfl) ?_
  refine WL.nil ?_
  refine WQ.then_normal (hK25 _ _ _ ?_)
  refine WP.block ?_
  obtain ⟨t40, ht41, hm⟩ := bindE hm
  have hmo35 := hm; clear hm
  refine WP.sub [(3, .slice a5 x3.length c6), (4, .slice a15 (([] : List (List UInt8)).length) c16), (5, .int .i64 0)] ⟨rfl, rfl, rfl, trivial⟩ ?_
  refine WP.loop (fun n' env' w' => ∃ (st26 : List (List UInt8) × Int) (a27 : Option Addr) (c28 : Nat), env' = [(3, .slice a5 x3.length c6), (4, .slice a27 st26.1.length c28), (5, .int .i64 st26.2)] ∧ Ext w w' ∧ w.heap.size ≤ w'.heap.size ∧ SH w' w.heap.size [aOwn fStr 9 a27 c28 st26.1, aOwn fStr 9 a5 c6 x3] ∧ loopN (m_spec_SplitWords_l1 n x3) n' st26 = some t40) n ⟨(([] : List (List UInt8)), 0), _, _, rfl, hb21, hL22, hS23, ht41⟩ ?_
  rintro n37 _ w30 ⟨st26, a27, c28, rfl, hb31, hL32, hS33, hl34⟩ K36 hK36
  obtain ⟨n38, s39, rfl, hm, hl34⟩ := loopN_some hl34
  unfold m_spec_SplitWords_l1 at hm
  refine WP.seq (fun K42 hK42 => ?_)
  refine WP.seq (fun K43 hK43 => ?_)
  refine WP.region ?_
  refine WL.runk 4 [3, 4, 5, 12] [(3, .slice a5 x3.length c6), (4, .slice a27 st26.1.length c28), (5, .int .i64 st26.2), (12, .bool (decide (st26.2 < (x3.length : Int))))] (by kernel_rfl) ?_
  refine WL.nil ?_
  refine WQ.then_normal (hK43 _ _ _ ?_)
  refine WP.cond (decide (st26.2 < (x3.length : Int))) rfl rfl (fun hc44 => ?_) (fun hc44 => ?_)
  rotate_left
  · have hm := iteF hm hc44
    refine WP.exit ?_
    refine WQ.then_exit ?_
    refine WQ.then_exit ?_
    refine WQ.block_here ?_
    obtain rfl := Option.some.inj hm
    obtain rfl := afterN_done hl34
    have hm := hmo35
    refine WQ.then_normal (hK24 _ _ _ ?_)
    refine WP.seq (fun K99 hK99 => ?_)
    refine WP.region ?_
    refine WL.runk 2 [2] [(2, .slice a27 st26.1.length c28)] (by kernel_rfl) ?_
    refine WL.nil ?_
    refine WQ.then_normal (hK99 _ _ _ ?_)
    refine WP.ret ?_
    obtain rfl := Option.some.inj hm
    exact WQ.ret1 _ rfl rfl ⟨_, _, rfl, hb31, (SH.take 1 hS33)⟩
  have hm := iteT hm hc44
  refine WP.skip ?_
  refine WQ.then_normal (hK42 _ _ _ ?_)
  refine WP.seq (fun K45 hK45 => ?_)
  refine WP.block ?_
  refine WP.seq (fun K46 hK46 => ?_)
  refine WP.region ?_
  refine WL.runk 2 [3, 4, 5, 15, 16] [(3, .slice a5 x3.length c6), (4, .slice a27 st26.1.length c28), (5, .int .i64 st26.2), (15, .slice a5 x3.length c6), (16, .int .i64 st26.2)] (by kernel_rfl) ?_
  obtain ⟨x47, hx48, hm⟩ := bindE hm
  refine WL.st (.pointer (some (at_ a5 (Int.toNat st26.2 * 1)))) (ST.index (T := fStr.ty) (xs := x3) (SH.rd (SH.front 1 hS33)) hx48 rfl rfl rfl Tryd.underlying22 (info9).1 (info9).2.1) rfl rfl rfl ?_
  refine WL.st (.string (bs x47)) (ST.load (cell_ext (Rd.flat (F := fStr) (SH.rd (SH.front 1 hS33)) hx48 0 rfl)) rfl rfl Tryd.underlying9 rfl) rfl rfl rfl ?_
  refine WL.st (.bool (!(x47 == []))) (ST.strne (x := x47) (y := []) rfl rfl rfl) rfl rfl rfl ?_
  refine WL.sub [(3, .slice a5 x3.length c6), (4, .slice a27 st26.1.length c28), (5, .int .i64 st26.2), (19, .bool (!(x47 == [])))] ⟨rfl, rfl, rfl, rfl, trivial⟩ ?_
  refine WL.nil ?_
  refine WQ.then_normal (hK46 _ _ _ ?_)
  obtain ⟨x70, hx71, hm⟩ := bindE hm
  refine WP.cut (fun env' w' => ∃ (a72 : Option Addr) (c73 : Nat), env' = [(3, .slice a5 x3.length c6), (4, .slice a72 x70.length c73), (5, .int .i64 st26.2)] ∧ Ext w w' ∧ w.heap.size ≤ w'.heap.size ∧ SH w' w.heap.size [aOwn fStr 9 a72 c73 x70, aOwn fStr 9 a5 c6 x3]) ?_ ?_
  rotate_left
  · clear hx71
    rintro _ w95 ⟨a72, c73, rfl, hb96, hL97, hS98⟩
    refine WQ.block_normal ?_
    refine WQ.then_normal (hK45 _ _ _ ?_)
    refine WP.region ?_
    refine WL.runk 3 [3, 4, 5] [(3, .slice a5 x3.length c6), (4, .slice a72 x70.length c73), (5, .int .i64 (wI64 (st26.2 + 1)))] (by kernel_rfl) ?_
    refine WL.nil ?_
    obtain rfl := Option.some.inj hm
    exact WQ.round hK36 ⟨(x70, (wI64 (st26.2 + 1))), _, _, rfl, hb96, hL97, hS98, hl34⟩ (Nat.lt_succ_self _) ⟨rfl, rfl, rfl, trivial⟩
  have hm := hx71; clear hx71
  refine WP.cond (!(x47 == [])) rfl rfl (fun hc49 => ?_) (fun hc49 => ?_)
  rotate_left
  · have hm := iteF hm hc49
    refine WP.skip ?_
    obtain rfl := Option.some.inj hm
    exact WQ.post' ⟨_, _, rfl, hb31, hL32, hS33⟩ ⟨rfl, rfl, rfl, trivial⟩
  have hm := iteT hm hc49
  refine WP.region ?_
  refine WL.runk 3 [3, 5, 20, 21, 22] [(3, .slice a5 x3.length c6), (5, .int .i64 st26.2), (20, .slice a27 st26.1.length c28), (21, .slice a5 x3.length c6), (22, .int .i64 st26.2)] (by kernel_rfl) ?_
  obtain ⟨x75, hx76, hm⟩ := bindE hm
  refine WL.st (.pointer (some (at_ a5 (Int.toNat st26.2 * 1)))) (ST.index (T := fStr.ty) (xs := x3) (SH.rd (SH.front 1 hS33)) hx76 rfl rfl rfl Tryd.underlying22 (info9).1 (info9).2.1) rfl rfl rfl ?_
  refine WL.st (.string (bs x75)) (ST.load (cell_ext (Rd.flat (F := fStr) (SH.rd (SH.front 1 hS33)) hx76 0 rfl)) rfl rfl Tryd.underlying9 rfl) rfl rfl rfl ?_
  refine WL.row fStr 9 ([x75] : List (List UInt8)) 1 #[.string (bs x75)] 25 (by kernel_rfl) rfl rfl rfl rfl rfl rfl rfl ?_
  intro a77 c78 w79 hE80 hR81
  have hb83 : Ext w w79 := Ext.trans hb31 hE80
  have hL84 : w.heap.size ≤ w79.heap.size := Nat.le_trans hL32 hE80.size
  have hS85 : SH w79 w.heap.size [aOwn fStr 9 a77 c78 ([x75] : List (List UInt8)), aOwn fStr 9 a27 c28 st26.1, aOwn fStr 9 a5 c6 x3] := SH.add hS33 hE80 hL32 hR81
  obtain ⟨x86, hx87, hm⟩ := bindE hm
  refine WL.append (F := fStr) (xs := st26.1) (ys := ([x75] : List (List UInt8))) 26 (SH.front 1 hS85) hL84 (SH.rd (SH.front 0 hS85)) hx87 rfl rfl rfl Tryd.underlying22 (info9).1 (info9).2.2.1 (info9).2.1 (info9).2.2.2 rfl rfl rfl rfl rfl ?_
  intro a88 c89 w90 hB91 hS92
  have hb93 : Ext w w90 := Below.trans hb83 hB91
  have hL94 : w.heap.size ≤ w90.heap.size := Nat.le_trans hL84 hB91.size
  refine WL.runk 1 [3, 4, 5] [(3, .slice a5 x3.length c6), (5, .int .i64 st26.2), (4, .slice a88 x86.length c89)] (by kernel_rfl) ?_
  refine WL.nil ?_
  obtain rfl := Option.some.inj hm
  exact WQ.post' ⟨_, _, rfl, hb93, hL94, (SH.take 2 (SH.front 1 (SH.front 2 hS92)))⟩ ⟨rfl, rfl, rfl, trivial⟩

theorem c_30 (n : Nat) (x_0 : SStyle) (b0' o0' : Nat) (w : World) {r : Bool} (hm : m_spec_l24Ok n x_0 = some r) (h0 : RdB w b0' o0' [.string (bs x_0.Upper), .string (bs x_0.Color), .string (bs x_0.Lining), .string (bs x_0.Sole), .int .i64 x_0.Thick, .int .i64 x_0.Heel, .int .i64 x_0.Eyelets, .int .i64 x_0.Density, .bool x_0.Double]) :
    CallV Tryd.prog 30 #[.pointer (some ⟨b0', o0', none⟩)] w (fun v w' => v = .bool r ∧ Ext w w') := by
  unfold m_spec_l24Ok at hm
  refine CallV.enter Tryd.func30 rfl (by kernel_rfl) Tryd.ntmps30 (env := [(0, .pointer (some ⟨b0', o0', none⟩))]) ⟨rfl, trivial⟩ ?_
  refine WP.seq (fun K1 hK1 => ?_)
  refine WP.region ?_
  refine WL.runk 1 [0] [(0, .pointer (some ⟨b0', o0', none⟩))] (by kernel_rfl) ?_
  refine WL.nil ?_
  refine WQ.then_normal (hK1 _ _ _ ?_)
  refine WP.seq (fun K2 hK2 => ?_)
  refine WP.region ?_
  refine WL.runk 1 [0, 5] [(0, .pointer (some ⟨b0', o0', none⟩)), (5, .pointer (some ⟨b0', o0', none⟩))] (by kernel_rfl) ?_
  obtain ⟨x3, hx4, hm⟩ := bindE hm
  refine WL.call 31 #[.pointer (some ⟨b0', o0', none⟩)] rfl rfl (by kernel_rfl) (c_31 n x_0 b0' o0' w hx4 (RdB.below h0 (Ext.refl w))) ?_
  rintro _ w8 ⟨a5, c6, rfl, hE9, hR10⟩
  refine ⟨_, rfl, ?_⟩
  have hb11 : Ext w w8 := Ext.trans (Ext.refl w) hE9
  have hL12 : w.heap.size ≤ w8.heap.size := Nat.le_trans (Nat.le_refl _) hE9.size
  have hS13 : SH w8 w.heap.size [aOwn fStr 9 a5 c6 x3] := SH.add (SH.nil _ _) hE9 (Nat.le_refl _) hR10
  refine WL.runk 1 [0, 3] [(0, .pointer (some ⟨b0', o0', none⟩)), (3, .slice a5 x3.length c6)] (by kernel_rfl) ?_
  refine WL.nil ?_
  refine WQ.then_normal (hK2 _ _ _ ?_)
  refine WP.seq (fun K14 hK14 => ?_)
  refine WP.seq (fun K15 hK15 => ?_)
  refine WP.region ?_
  refine WL.runk 1 [0, 3, 4] [(0, .pointer (some ⟨b0', o0', none⟩)), (3, .slice a5 x3.length c6), (4, .int .i64 0)] (by kernel_rfl) ?_
  refine WL.nil ?_
  refine WQ.then_normal (hK15 _ _ _ ?_)
  refine WP.block ?_
  obtain ⟨t27, ht28, hm⟩ := bindE hm
  have hmo22 := hm; clear hm
  refine WP.sub [(0, .pointer (some ⟨b0', o0', none⟩)), (3, .slice a5 x3.length c6), (4, .int .i64 0)] ⟨rfl, rfl, rfl, trivial⟩ ?_
  refine WP.loop (fun n' env' w' => ∃ (st16 : Int) , env' = [(0, .pointer (some ⟨b0', o0', none⟩)), (3, .slice a5 x3.length c6), (4, .int .i64 st16)] ∧ Ext w w' ∧ w.heap.size ≤ w'.heap.size ∧ SH w' w.heap.size [aOwn fStr 9 a5 c6 x3] ∧ loopN (m_spec_l24Ok_l1 n x3) n' st16 = some t27) n ⟨0, rfl, hb11, hL12, hS13, ht28⟩ ?_
  rintro n24 _ w17 ⟨st16, rfl, hb18, hL19, hS20, hl21⟩ K23 hK23
  obtain ⟨n25, s26, rfl, hm, hl21⟩ := loopN_some hl21
  unfold m_spec_l24Ok_l1 at hm
  refine WP.seq (fun K29 hK29 => ?_)
  refine WP.seq (fun K30 hK30 => ?_)
  refine WP.region ?_
  refine WL.runk 4 [0, 3, 4, 10] [(0, .pointer (some ⟨b0', o0', none⟩)), (3, .slice a5 x3.length c6), (4, .int .i64 st16), (10, .bool (decide (st16 < (x3.length : Int))))] (by kernel_rfl) ?_
  refine WL.nil ?_
  refine WQ.then_normal (hK30 _ _ _ ?_)
  refine WP.cond (decide (st16 < (x3.length : Int))) rfl rfl (fun hc31 => ?_) (fun hc31 => ?_)
  · have hm := iteT hm hc31
    refine WP.skip ?_
    refine WQ.then_normal (hK29 _ _ _ ?_)
    refine WP.seq (fun K32 hK32 => ?_)
    refine WP.block ?_
    refine WP.seq (fun K33 hK33 => ?_)
    obtain ⟨x58, hx59, hm⟩ := bindE hm
    refine WP.cut (fun env' w' => env' = [(0, .pointer (some ⟨b0', o0', none⟩)), (3, .slice a5 x3.length c6), (4, .int .i64 st16), (26, .bool x58)] ∧ Ext w w' ∧ w.heap.size ≤ w'.heap.size ∧ SH w' w.heap.size [aOwn fStr 9 a5 c6 x3]) ?_ ?_
    rotate_left
    · clear hx59
      rintro _ w84 ⟨rfl, hb85, hL86, hS87⟩
      refine WQ.then_normal (hK33 _ _ _ ?_)
      refine WP.cond x58 rfl rfl (fun hc88 => ?_) (fun hc88 => ?_)
      rotate_left
      · have hm := iteF hm hc88
        refine WP.skip ?_
        refine WQ.block_normal ?_
        refine WQ.then_normal (hK32 _ _ _ ?_)
        refine WP.region ?_
        refine WL.runk 3 [0, 3, 4] [(0, .pointer (some ⟨b0', o0', none⟩)), (3, .slice a5 x3.length c6), (4, .int .i64 (wI64 (st16 + 1)))] (by kernel_rfl) ?_
        refine WL.nil ?_
        obtain rfl := Option.some.inj hm
        exact WQ.round hK23 ⟨(wI64 (st16 + 1)), rfl, hb85, hL86, hS87, hl21⟩ (Nat.lt_succ_self _) ⟨rfl, rfl, rfl, trivial⟩
      have hm := iteT hm hc88
      refine WP.seq (fun K89 hK89 => ?_)
      refine WP.region ?_
      refine WL.runk 1 [2] [(2, .bool false)] (by kernel_rfl) ?_
      refine WL.nil ?_
      refine WQ.then_normal (hK89 _ _ _ ?_)
      refine WP.ret ?_
      refine WQ.block_ret ?_
      refine WQ.then_ret ?_
      refine WQ.then_ret ?_
      refine WQ.block_ret ?_
      refine WQ.then_ret ?_
      obtain rfl := Option.some.inj hm
      obtain rfl := afterN_done hl21
      have hm := hmo22
      obtain rfl := Option.some.inj hm
      exact WQ.ret1 _ rfl rfl ⟨rfl, hb85⟩
    have hm := hx59; clear hx59
    refine WP.region ?_
    refine WL.runk 2 [0, 3, 4, 13, 14] [(0, .pointer (some ⟨b0', o0', none⟩)), (3, .slice a5 x3.length c6), (4, .int .i64 st16), (13, .slice a5 x3.length c6), (14, .int .i64 st16)] (by kernel_rfl) ?_
    obtain ⟨x60, hx61, hm⟩ := bindE hm
    refine WL.st (.pointer (some (at_ a5 (Int.toNat st16 * 1)))) (ST.index (T := fStr.ty) (xs := x3) (SH.rd (SH.front 0 hS20)) hx61 rfl rfl rfl Tryd.underlying22 (info9).1 (info9).2.1) rfl rfl rfl ?_
    refine WL.st (.string (bs x60)) (ST.load (cell_ext (Rd.flat (F := fStr) (SH.rd (SH.front 0 hS20)) hx61 0 rfl)) rfl rfl Tryd.underlying9 rfl) rfl rfl rfl ?_
    refine WL.st (.bool (!(x60 == []))) (ST.strne (x := x60) (y := []) rfl rfl rfl) rfl rfl rfl ?_
    refine WL.runk 1 [0, 3, 4, 18] [(0, .pointer (some ⟨b0', o0', none⟩)), (3, .slice a5 x3.length c6), (4, .int .i64 st16), (18, .bool (!(x60 == [])))] (by kernel_rfl) ?_
    refine WL.case (!(x60 == [])) [18] ⟨rfl, trivial⟩ (fun hc62 => ?_) (fun hc62 => ?_)
    rotate_left
    · have hm := iteF hm hc62
      refine WL.runk 8 [0, 3, 4, 26] [(0, .pointer (some ⟨b0', o0', none⟩)), (3, .slice a5 x3.length c6), (4, .int .i64 st16), (26, .bool false)] (by kernel_rfl) ?_
      refine WL.nil ?_
      obtain rfl := Option.some.inj hm
      exact WQ.post' ⟨rfl, hb18, hL19, hS20⟩ ⟨rfl, rfl, rfl, rfl, trivial⟩
    have hm := iteT hm hc62
    refine WL.runk 2 [0, 3, 4, 18, 19, 20] [(0, .pointer (some ⟨b0', o0', none⟩)), (3, .slice a5 x3.length c6), (4, .int .i64 st16), (18, .bool true), (19, .slice a5 x3.length c6), (20, .int .i64 st16)] (by kernel_rfl) ?_
    obtain ⟨x63, hx64, hm⟩ := bindE hm
    refine WL.st (.pointer (some (at_ a5 (Int.toNat st16 * 1)))) (ST.index (T := fStr.ty) (xs := x3) (SH.rd (SH.front 0 hS20)) hx64 rfl rfl rfl Tryd.underlying22 (info9).1 (info9).2.1) rfl rfl rfl ?_
    refine WL.st (.string (bs x63)) (ST.load (cell_ext (Rd.flat (F := fStr) (SH.rd (SH.front 0 hS20)) hx64 0 rfl)) rfl rfl Tryd.underlying9 rfl) rfl rfl rfl ?_
    obtain ⟨x65, hx66, hm⟩ := bindE hm
    refine WL.call 47 #[.string (bs x63)] rfl rfl (by kernel_rfl) (c_47 n x63 w17 hx66 ) ?_
    rintro _ w70 ⟨a67, c68, rfl, hE71, hR72⟩
    refine ⟨_, rfl, ?_⟩
    have hb73 : Ext w w70 := Ext.trans hb18 hE71
    have hL74 : w.heap.size ≤ w70.heap.size := Nat.le_trans hL19 hE71.size
    have hS75 : SH w70 w.heap.size [aOwn fStr 9 a67 c68 x65, aOwn fStr 9 a5 c6 x3] := SH.add hS20 hE71 hL19 hR72
    obtain ⟨x76, hx77, hm⟩ := bindE hm
    refine WL.call 46 #[.slice a67 x65.length c68] rfl rfl (by kernel_rfl) (c_46 n x65 a67 c68 w70 hx77 (SH.rd (SH.front 0 hS75)) (SH.le (SH.front 0 hS75)).1) ?_
    rintro _ w78 ⟨rfl, hE79⟩
    refine ⟨_, rfl, ?_⟩
    have hb81 : Ext w w78 := Ext.trans hb73 hE79
    have hL82 : w.heap.size ≤ w78.heap.size := Nat.le_trans hL74 hE79.size
    have hS83 : SH w78 w.heap.size [aOwn fStr 9 a67 c68 x65, aOwn fStr 9 a5 c6 x3] := SH.ext hS75 hE79
    refine WL.runk 2 [0, 3, 4, 26] [(0, .pointer (some ⟨b0', o0', none⟩)), (3, .slice a5 x3.length c6), (4, .int .i64 st16), (26, .bool (x76 != 0))] (by kernel_rfl) ?_
    refine WL.nil ?_
    obtain rfl := Option.some.inj hm
    exact WQ.post' ⟨rfl, hb81, hL82, (SH.take 1 (SH.front 1 hS83))⟩ ⟨rfl, rfl, rfl, rfl, trivial⟩
  have hm := iteF hm hc31
  refine WP.exit ?_
  refine WQ.then_exit ?_
  refine WQ.then_exit ?_
  refine WQ.block_here ?_
  obtain rfl := Option.some.inj hm
  obtain rfl := afterN_done hl21
  have hm := hmo22
  refine WQ.then_normal (hK14 _ _ _ ?_)
  refine WP.seq (fun K90 hK90 => ?_)
  obtain ⟨x127, hx128, hm⟩ := bindE hm
  refine WP.cut (fun env' w' => env' = [(2, .bool x127)] ∧ Ext w w' ∧ w.heap.size ≤ w'.heap.size ∧ SH w' w.heap.size []) ?_ ?_
  rotate_left
  · clear hx128
    rintro _ w165 ⟨rfl, hb166, hL167, hS168⟩
    refine WQ.then_normal (hK90 _ _ _ ?_)
    refine WP.ret ?_
    obtain rfl := Option.some.inj hm
    exact WQ.ret1 _ rfl rfl ⟨rfl, hb166⟩
  have hm := hx128; clear hx128
  refine WP.region ?_
  refine WL.runk 3 [0, 29] [(0, .pointer (some ⟨b0', o0', none⟩)), (29, .pointer (some ⟨b0', o0', none⟩))] (by kernel_rfl) ?_
  refine WL.st (.string (bs x_0.Upper)) (ST.load (cell_ext (RdB.at (RdB.below h0 hb18) 0 _ rfl)) rfl rfl Tryd.underlying9 rfl) rfl rfl rfl ?_
  obtain ⟨x129, hx130, hm⟩ := bindE hm
  refine WL.call 48 #[.string (bs x_0.Upper)] rfl rfl (by kernel_rfl) (c_48 n x_0.Upper w17 hx130 ) ?_
  rintro _ w131 ⟨rfl, hE132⟩
  refine ⟨_, rfl, ?_⟩
  have hb134 : Ext w w131 := Ext.trans hb18 hE132
  have hL135 : w.heap.size ≤ w131.heap.size := Nat.le_trans hL19 hE132.size
  have hS136 : SH w131 w.heap.size [aOwn fStr 9 a5 c6 x3] := SH.ext hS20 hE132
  refine WL.runk 1 [0, 32] [(0, .pointer (some ⟨b0', o0', none⟩)), (32, .bool x129)] (by kernel_rfl) ?_
  refine WL.case x129 [32] ⟨rfl, trivial⟩ (fun hc137 => ?_) (fun hc137 => ?_)
  rotate_left
  · have hm := iteF hm hc137
    refine WL.runk 28 [2] [(2, .bool false)] (by kernel_rfl) ?_
    refine WL.nil ?_
    obtain rfl := Option.some.inj hm
    exact WQ.post' ⟨rfl, hb134, hL135, (SH.take 0 hS136)⟩ ⟨rfl, trivial⟩
  have hm := iteT hm hc137
  refine WL.runk 3 [0, 32, 35] [(0, .pointer (some ⟨b0', o0', none⟩)), (32, .bool true), (35, .pointer (some ⟨b0', o0' + 1, none⟩))] (by kernel_rfl) ?_
  refine WL.st (.string (bs x_0.Color)) (ST.load (cell_ext (RdB.at (RdB.below h0 hb134) 1 _ rfl)) rfl rfl Tryd.underlying9 rfl) rfl rfl rfl ?_
  obtain ⟨x138, hx139, hm⟩ := bindE hm
  refine WL.call 48 #[.string (bs x_0.Color)] rfl rfl (by kernel_rfl) (c_48 n x_0.Color w131 hx139 ) ?_
  rintro _ w140 ⟨rfl, hE141⟩
  refine ⟨_, rfl, ?_⟩
  have hb143 : Ext w w140 := Ext.trans hb134 hE141
  have hL144 : w.heap.size ≤ w140.heap.size := Nat.le_trans hL135 hE141.size
  have hS145 : SH w140 w.heap.size [aOwn fStr 9 a5 c6 x3] := SH.ext hS136 hE141
  refine WL.runk 2 [0, 39] [(0, .pointer (some ⟨b0', o0', none⟩)), (39, .bool x138)] (by kernel_rfl) ?_
  refine WL.case x138 [39] ⟨rfl, trivial⟩ (fun hc146 => ?_) (fun hc146 => ?_)
  rotate_left
  · have hm := iteF hm hc146
    refine WL.runk 21 [2] [(2, .bool false)] (by kernel_rfl) ?_
    refine WL.nil ?_
    obtain rfl := Option.some.inj hm
    exact WQ.post' ⟨rfl, hb143, hL144, (SH.take 0 hS145)⟩ ⟨rfl, trivial⟩
  have hm := iteT hm hc146
  refine WL.runk 3 [0, 39, 42] [(0, .pointer (some ⟨b0', o0', none⟩)), (39, .bool true), (42, .pointer (some ⟨b0', o0' + 3, none⟩))] (by kernel_rfl) ?_
  refine WL.st (.string (bs x_0.Sole)) (ST.load (cell_ext (RdB.at (RdB.below h0 hb143) 3 _ rfl)) rfl rfl Tryd.underlying9 rfl) rfl rfl rfl ?_
  obtain ⟨x147, hx148, hm⟩ := bindE hm
  refine WL.call 48 #[.string (bs x_0.Sole)] rfl rfl (by kernel_rfl) (c_48 n x_0.Sole w140 hx148 ) ?_
  rintro _ w149 ⟨rfl, hE150⟩
  refine ⟨_, rfl, ?_⟩
  have hb152 : Ext w w149 := Ext.trans hb143 hE150
  have hL153 : w.heap.size ≤ w149.heap.size := Nat.le_trans hL144 hE150.size
  have hS154 : SH w149 w.heap.size [aOwn fStr 9 a5 c6 x3] := SH.ext hS145 hE150
  refine WL.runk 2 [0, 46] [(0, .pointer (some ⟨b0', o0', none⟩)), (46, .bool x147)] (by kernel_rfl) ?_
  refine WL.case x147 [46] ⟨rfl, trivial⟩ (fun hc155 => ?_) (fun hc155 => ?_)
  rotate_left
  · have hm := iteF hm hc155
    refine WL.runk 14 [2] [(2, .bool false)] (by kernel_rfl) ?_
    refine WL.nil ?_
    obtain rfl := Option.some.inj hm
    exact WQ.post' ⟨rfl, hb152, hL153, (SH.take 0 hS154)⟩ ⟨rfl, trivial⟩
  have hm := iteT hm hc155
  refine WL.runk 3 [0, 46, 49] [(0, .pointer (some ⟨b0', o0', none⟩)), (46, .bool true), (49, .pointer (some ⟨b0', o0' + 2, none⟩))] (by kernel_rfl) ?_
  refine WL.st (.string (bs x_0.Lining)) (ST.load (cell_ext (RdB.at (RdB.below h0 hb152) 2 _ rfl)) rfl rfl Tryd.underlying9 rfl) rfl rfl rfl ?_
  refine WL.st (.bool (x_0.Lining == [])) (ST.streq (x := x_0.Lining) (y := []) rfl rfl rfl) rfl rfl rfl ?_
  refine WL.runk 1 [0, 46, 52] [(0, .pointer (some ⟨b0', o0', none⟩)), (46, .bool true), (52, .bool (x_0.Lining == []))] (by kernel_rfl) ?_
  refine WL.case (x_0.Lining == []) [52] ⟨rfl, trivial⟩ (fun hc156 => ?_) (fun hc156 => ?_)
  · have hm := iteT hm hc156
    refine WL.runk 8 [2] [(2, .bool true)] (by kernel_rfl) ?_
    refine WL.nil ?_
    obtain rfl := Option.some.inj hm
    exact WQ.post' ⟨rfl, hb152, hL153, (SH.take 0 hS154)⟩ ⟨rfl, trivial⟩
  have hm := iteF hm hc156
  refine WL.runk 3 [46, 52, 55] [(46, .bool true), (52, .bool false), (55, .pointer (some ⟨b0', o0' + 2, none⟩))] (by kernel_rfl) ?_
  refine WL.st (.string (bs x_0.Lining)) (ST.load (cell_ext (RdB.at (RdB.below h0 hb152) 2 _ rfl)) rfl rfl Tryd.underlying9 rfl) rfl rfl rfl ?_
  obtain ⟨x157, hx158, hm⟩ := bindE hm
  refine WL.call 48 #[.string (bs x_0.Lining)] rfl rfl (by kernel_rfl) (c_48 n x_0.Lining w149 hx158 ) ?_
  rintro _ w159 ⟨rfl, hE160⟩
  refine ⟨_, rfl, ?_⟩
  have hb162 : Ext w w159 := Ext.trans hb152 hE160
  have hL163 : w.heap.size ≤ w159.heap.size := Nat.le_trans hL153 hE160.size
  have hS164 : SH w159 w.heap.size [aOwn fStr 9 a5 c6 x3] := SH.ext hS154 hE160
  refine WL.runk 3 [2] [(2, .bool x157)] (by kernel_rfl) ?_
  refine WL.nil ?_
  obtain rfl := Option.some.inj hm
  exact WQ.post' ⟨rfl, hb162, hL163, (SH.take 0 hS164)⟩ ⟨rfl, trivial⟩

theorem c_14 (n : Nat) (a_0 : SStyle) (b_1 : SStyle) (w : World) {r : List (List UInt8) × Int} (hm : m_spec_DiffStyles n a_0 b_1 = some r)  :
    CallV Tryd.prog 14 #[.agg #[.string (bs a_0.Upper), .string (bs a_0.Color), .string (bs a_0.Lining), .string (bs a_0.Sole), .int .i64 a_0.Thick, .int .i64 a_0.Heel, .int .i64 a_0.Eyelets, .int .i64 a_0.Density, .bool a_0.Double], .agg #[.string (bs b_1.Upper), .string (bs b_1.Color), .string (bs b_1.Lining), .string (bs b_1.Sole), .int .i64 b_1.Thick, .int .i64 b_1.Heel, .int .i64 b_1.Eyelets, .int .i64 b_1.Density, .bool b_1.Double]] w (fun v w' => ∃ (ra0 : Option Addr) (rc0 : Nat), v = .tuple #[.slice ra0 r.1.length rc0, .int .i64 r.2] ∧ Ext w w' ∧ SH w' w.heap.size [aOwn fStr 9 ra0 rc0 r.1]) := by
  unfold m_spec_DiffStyles at hm
  refine CallV.enter Tryd.func14 rfl (by kernel_rfl) Tryd.ntmps14 (env := [(0, .agg #[.string (bs a_0.Upper), .string (bs a_0.Color), .string (bs a_0.Lining), .string (bs a_0.Sole), .int .i64 a_0.Thick, .int .i64 a_0.Heel, .int .i64 a_0.Eyelets, .int .i64 a_0.Density, .bool a_0.Double]), (1, .agg #[.string (bs b_1.Upper), .string (bs b_1.Color), .string (bs b_1.Lining), .string (bs b_1.Sole), .int .i64 b_1.Thick, .int .i64 b_1.Heel, .int .i64 b_1.Eyelets, .int .i64 b_1.Density, .bool b_1.Double])]) ⟨rfl, rfl, trivial⟩ ?_
  refine WP.seq (fun K1 hK1 => ?_)
  refine WP.region ?_
  refine WL.box 32 [.string (bs a_0.Upper), .string (bs a_0.Color), .string (bs a_0.Lining), .string (bs a_0.Sole), .int .i64 a_0.Thick, .int .i64 a_0.Heel, .int .i64 a_0.Eyelets, .int .i64 a_0.Density, .bool a_0.Double] 2 (by kernel_rfl) rfl rfl rfl rfl ?_
  intro b2 w3 hE4 hR5
  have hb7 : Ext w w3 := Ext.trans (Ext.refl w) hE4
  have hL8 : w.heap.size ≤ w3.heap.size := Nat.le_trans (Nat.le_refl _) hE4.size
  have hS9 : SH w3 w.heap.size [aBox 32 b2 [.string (bs a_0.Upper), .string (bs a_0.Color), .string (bs a_0.Lining), .string (bs a_0.Sole), .int .i64 a_0.Thick, .int .i64 a_0.Heel, .int .i64 a_0.Eyelets, .int .i64 a_0.Density, .bool a_0.Double]] := SH.add (SH.nil _ _) hE4 (Nat.le_refl _) hR5
  refine WL.box 32 [.string (bs b_1.Upper), .string (bs b_1.Color), .string (bs b_1.Lining), .string (bs b_1.Sole), .int .i64 b_1.Thick, .int .i64 b_1.Heel, .int .i64 b_1.Eyelets, .int .i64 b_1.Density, .bool b_1.Double] 3 (by kernel_rfl) rfl rfl rfl rfl ?_
  intro b10 w11 hE12 hR13
  have hb15 : Ext w w11 := Ext.trans hb7 hE12
  have hL16 : w.heap.size ≤ w11.heap.size := Nat.le_trans hL8 hE12.size
  have hS17 : SH w11 w.heap.size [aBox 32 b10 [.string (bs b_1.Upper), .string (bs b_1.Color), .string (bs b_1.Lining), .string (bs b_1.Sole), .int .i64 b_1.Thick, .int .i64 b_1.Heel, .int .i64 b_1.Eyelets, .int .i64 b_1.Density, .bool b_1.Double], aBox 32 b2 [.string (bs a_0.Upper), .string (bs a_0.Color), .string (bs a_0.Lining), .string (bs a_0.Sole), .int .i64 a_0.Thick, .int .i64 a_0.Heel, .int .i64 a_0.Eyelets, .int .i64 a_0.Density, .bool a_0.Double]] := SH.add hS9 hE12 hL8 hR13
  refine WL.runk 2 [2, 3] [(2, .pointer (some ⟨b2, 0, none⟩)), (3, .pointer (some ⟨b10, 0, none⟩))] (by kernel_rfl) ?_
  refine WL.nil ?_
  refine WQ.then_normal (hK1 _ _ _ ?_)
  refine WP.seq (fun K18 hK18 => ?_)
  refine WP.seq (fun K19 hK19 => ?_)
  obtain ⟨x37, hx38, hm⟩ := bindE hm
  refine WP.cut (fun env' w' => env' = [(2, .pointer (some ⟨b2, 0, none⟩)), (3, .pointer (some ⟨b10, 0, none⟩)), (16, .bool x37)] ∧ Ext w w' ∧ w.heap.size ≤ w'.heap.size ∧ SH w' w.heap.size [aBox 32 b10 [.string (bs b_1.Upper), .string (bs b_1.Color), .string (bs b_1.Lining), .string (bs b_1.Sole), .int .i64 b_1.Thick, .int .i64 b_1.Heel, .int .i64 b_1.Eyelets, .int .i64 b_1.Density, .bool b_1.Double], aBox 32 b2 [.string (bs a_0.Upper), .string (bs a_0.Color), .string (bs a_0.Lining), .string (bs a_0.Sole), .int .i64 a_0.Thick, .int .i64 a_0.Heel, .int .i64 a_0.Eyelets, .int .i64 a_0.Density, .bool a_0.Double]]) ?_ ?_
  · have hm := hx38; clear hx38
    refine WP.region ?_
    obtain ⟨x39, hx40, hm⟩ := bindE hm
    refine WL.call 30 #[.pointer (some ⟨b2, 0, none⟩)] rfl rfl (by kernel_rfl) (c_30 n a_0 b2 0 w11 hx40 (SH.boxRd (SH.front 1 hS17))) ?_
    rintro _ w41 ⟨rfl, hE42⟩
    refine ⟨_, rfl, ?_⟩
    have hb44 : Ext w w41 := Ext.trans hb15 hE42
    have hL45 : w.heap.size ≤ w41.heap.size := Nat.le_trans hL16 hE42.size
    have hS46 : SH w41 w.heap.size [aBox 32 b10 [.string (bs b_1.Upper), .string (bs b_1.Color), .string (bs b_1.Lining), .string (bs b_1.Sole), .int .i64 b_1.Thick, .int .i64 b_1.Heel, .int .i64 b_1.Eyelets, .int .i64 b_1.Density, .bool b_1.Double], aBox 32 b2 [.string (bs a_0.Upper), .string (bs a_0.Color), .string (bs a_0.Lining), .string (bs a_0.Sole), .int .i64 a_0.Thick, .int .i64 a_0.Heel, .int .i64 a_0.Eyelets, .int .i64 a_0.Density, .bool a_0.Double]] := SH.ext hS17 hE42
    refine WL.runk 2 [2, 3, 13] [(2, .pointer (some ⟨b2, 0, none⟩)), (3, .pointer (some ⟨b10, 0, none⟩)), (13, .bool (!x39))] (by kernel_rfl) ?_
    refine WL.case (!x39) [13] ⟨rfl, trivial⟩ (fun hc47 => ?_) (fun hc47 => ?_)
    · have hm := iteT hm hc47
      refine WL.runk 3 [2, 3, 16] [(2, .pointer (some ⟨b2, 0, none⟩)), (3, .pointer (some ⟨b10, 0, none⟩)), (16, .bool true)] (by kernel_rfl) ?_
      refine WL.nil ?_
      obtain rfl := Option.some.inj hm
      exact WQ.post' ⟨rfl, hb44, hL45, hS46⟩ ⟨rfl, rfl, rfl, trivial⟩
    have hm := iteF hm hc47
    obtain ⟨x48, hx49, hm⟩ := bindE hm
    refine WL.call 30 #[.pointer (some ⟨b10, 0, none⟩)] rfl rfl (by kernel_rfl) (c_30 n b_1 b10 0 w41 hx49 (SH.boxRd (SH.front 0 hS46))) ?_
    rintro _ w50 ⟨rfl, hE51⟩
    refine ⟨_, rfl, ?_⟩
    have hb53 : Ext w w50 := Ext.trans hb44 hE51
    have hL54 : w.heap.size ≤ w50.heap.size := Nat.le_trans hL45 hE51.size
    have hS55 : SH w50 w.heap.size [aBox 32 b10 [.string (bs b_1.Upper), .string (bs b_1.Color), .string (bs b_1.Lining), .string (bs b_1.Sole), .int .i64 b_1.Thick, .int .i64 b_1.Heel, .int .i64 b_1.Eyelets, .int .i64 b_1.Density, .bool b_1.Double], aBox 32 b2 [.string (bs a_0.Upper), .string (bs a_0.Color), .string (bs a_0.Lining), .string (bs a_0.Sole), .int .i64 a_0.Thick, .int .i64 a_0.Heel, .int .i64 a_0.Eyelets, .int .i64 a_0.Density, .bool a_0.Double]] := SH.ext hS46 hE51
    refine WL.runk 2 [2, 3, 16] [(2, .pointer (some ⟨b2, 0, none⟩)), (3, .pointer (some ⟨b10, 0, none⟩)), (16, .bool (!x48))] (by kernel_rfl) ?_
    refine WL.nil ?_
    obtain rfl := Option.some.inj hm
    exact WQ.post' ⟨rfl, hb53, hL54, hS55⟩ ⟨rfl, rfl, rfl, trivial⟩
  clear hx38
  rintro _ w56 ⟨rfl, hb57, hL58, hS59⟩
  refine WQ.then_normal (hK19 _ _ _ ?_)
  refine WP.cond x37 rfl rfl (fun hc60 => ?_) (fun hc60 => ?_)
  · have hm := iteT hm hc60
    refine WP.seq (fun K61 hK61 => ?_)
    refine WP.region ?_
    refine WL.runk 2 [4, 5] [(4, .slice none 0 0), (5, .int .i64 1)] (by kernel_rfl) ?_
    refine WL.nil ?_
    refine WQ.then_normal (hK61 _ _ _ ?_)
    refine WP.ret ?_
    refine WQ.then_ret ?_
    obtain rfl := Option.some.inj hm
    have hS63 : SH w56 w.heap.size [aOwn fStr 9 none 0 ([] : List (List UInt8)), aBox 32 b10 [.string (bs b_1.Upper), .string (bs b_1.Color), .string (bs b_1.Lining), .string (bs b_1.Sole), .int .i64 b_1.Thick, .int .i64 b_1.Heel, .int .i64 b_1.Eyelets, .int .i64 b_1.Density, .bool b_1.Double], aBox 32 b2 [.string (bs a_0.Upper), .string (bs a_0.Color), .string (bs a_0.Lining), .string (bs a_0.Sole), .int .i64 a_0.Thick, .int .i64 a_0.Heel, .int .i64 a_0.Eyelets, .int .i64 a_0.Density, .bool a_0.Double]] := SH.nilOwn hS59
    exact WQ.ret2 _ _ rfl rfl rfl ⟨_, _, rfl, hb57, (SH.take 1 hS63)⟩
  have hm := iteF hm hc60
  refine WP.skip ?_
  refine WQ.then_normal (hK18 _ _ _ ?_)
  refine WP.seq (fun K64 hK64 => ?_)
  refine WP.region ?_
  obtain ⟨x65, hx66, hm⟩ := bindE hm
  refine WL.call 31 #[.pointer (some ⟨b2, 0, none⟩)] rfl rfl (by kernel_rfl) (c_31 n a_0 b2 0 w56 hx66 (SH.boxRd (SH.front 1 hS59))) ?_
  rintro _ w70 ⟨a67, c68, rfl, hE71, hR72⟩
  refine ⟨_, rfl, ?_⟩
  have hb73 : Ext w w70 := Ext.trans hb57 hE71
  have hL74 : w.heap.size ≤ w70.heap.size := Nat.le_trans hL58 hE71.size
  have hS75 : SH w70 w.heap.size [aOwn fStr 9 a67 c68 x65, aBox 32 b10 [.string (bs b_1.Upper), .string (bs b_1.Color), .string (bs b_1.Lining), .string (bs b_1.Sole), .int .i64 b_1.Thick, .int .i64 b_1.Heel, .int .i64 b_1.Eyelets, .int .i64 b_1.Density, .bool b_1.Double], aBox 32 b2 [.string (bs a_0.Upper), .string (bs a_0.Color), .string (bs a_0.Lining), .string (bs a_0.Sole), .int .i64 a_0.Thick, .int .i64 a_0.Heel, .int .i64 a_0.Eyelets, .int .i64 a_0.Density, .bool a_0.Double]] := SH.add hS59 hE71 hL58 hR72
  refine WL.runk 1 [3, 6] [(3, .pointer (some ⟨b10, 0, none⟩)), (6, .slice a67 x65.length c68)] (by kernel_rfl) ?_
  refine WL.nil ?_
  refine WQ.then_normal (hK64 _ _ _ ?_)
  refine WP.seq (fun K76 hK76 => ?_)
  refine WP.region ?_
  obtain ⟨x77, hx78, hm⟩ := bindE hm
  refine WL.call 31 #[.pointer (some ⟨b10, 0, none⟩)] rfl rfl (by kernel_rfl) (c_31 n b_1 b10 0 w70 hx78 (SH.boxRd (SH.front 1 hS75))) ?_
  rintro _ w82 ⟨a79, c80, rfl, hE83, hR84⟩
  refine ⟨_, rfl, ?_⟩
  have hb85 : Ext w w82 := Ext.trans hb73 hE83
  have hL86 : w.heap.size ≤ w82.heap.size := Nat.le_trans hL74 hE83.size
  have hS87 : SH w82 w.heap.size [aOwn fStr 9 a79 c80 x77, aOwn fStr 9 a67 c68 x65, aBox 32 b10 [.string (bs b_1.Upper), .string (bs b_1.Color), .string (bs b_1.Lining), .string (bs b_1.Sole), .int .i64 b_1.Thick, .int .i64 b_1.Heel, .int .i64 b_1.Eyelets, .int .i64 b_1.Density, .bool b_1.Double], aBox 32 b2 [.string (bs a_0.Upper), .string (bs a_0.Color), .string (bs a_0.Lining), .string (bs a_0.Sole), .int .i64 a_0.Thick, .int .i64 a_0.Heel, .int .i64 a_0.Eyelets, .int .i64 a_0.Density, .bool a_0.Double]] := SH.add hS75 hE83 hL74 hR84
  refine WL.runk 1 [6, 7] [(6, .slice a67 x65.length c68), (7, .slice a79 x77.length c80)] (by kernel_rfl) ?_
  refine WL.nil ?_
  refine WQ.then_normal (hK76 _ _ _ ?_)
  refine WP.seq (fun K88 hK88 => ?_)
  refine WP.region ?_
  obtain ⟨x89, hx90, hm⟩ := bindE hm
  refine WL.call 32 #[] rfl rfl (by kernel_rfl) (c_32 n  w82 hx90 ) ?_
  rintro _ w94 ⟨a91, c92, rfl, hE95, hR96⟩
  refine ⟨_, rfl, ?_⟩
  have hb97 : Ext w w94 := Ext.trans hb85 hE95
  have hL98 : w.heap.size ≤ w94.heap.size := Nat.le_trans hL86 hE95.size
  have hS99 : SH w94 w.heap.size [aOwn fStr 9 a91 c92 x89, aOwn fStr 9 a79 c80 x77, aOwn fStr 9 a67 c68 x65, aBox 32 b10 [.string (bs b_1.Upper), .string (bs b_1.Color), .string (bs b_1.Lining), .string (bs b_1.Sole), .int .i64 b_1.Thick, .int .i64 b_1.Heel, .int .i64 b_1.Eyelets, .int .i64 b_1.Density, .bool b_1.Double], aBox 32 b2 [.string (bs a_0.Upper), .string (bs a_0.Color), .string (bs a_0.Lining), .string (bs a_0.Sole), .int .i64 a_0.Thick, .int .i64 a_0.Heel, .int .i64 a_0.Eyelets, .int .i64 a_0.Density, .bool a_0.Double]] := SH.add hS87 hE95 hL86 hR96
  refine WL.runk 1 [6, 7, 8] [(6, .slice a67 x65.length c68), (7, .slice a79 x77.length c80), (8, .slice a91 x89.length c92)] (by kernel_rfl) ?_
  refine WL.nil ?_
  refine WQ.then_normal (hK88 _ _ _ ?_)
  refine WP.seq (fun K100 hK100 => ?_)
  refine WP.region ?_
  refine WL.row fStr 9 ([] : List (List UInt8)) 0 #[] 20 (by kernel_rfl) rfl rfl rfl rfl rfl rfl rfl ?_
  intro a101 c102 w103 hE104 hR105
  have hb107 : Ext w w103 := Ext.trans hb97 hE104
  have hL108 : w.heap.size ≤ w103.heap.size := Nat.le_trans hL98 hE104.size
  have hS109 : SH w103 w.heap.size [aOwn fStr 9 a101 c102 ([] : List (List UInt8)), aOwn fStr 9 a91 c92 x89, aOwn fStr 9 a79 c80 x77, aOwn fStr 9 a67 c68 x65, aBox 32 b10 [.string (bs b_1.Upper), .string (bs b_1.Color), .string (bs b_1.Lining), .string (bs b_1.Sole), .int .i64 b_1.Thick, .int .i64 b_1.Heel, .int .i64 b_1.Eyelets, .int .i64 b_1.Density, .bool b_1.Double], aBox 32 b2 [.string (bs a_0.Upper), .string (bs a_0.Color), .string (bs a_0.Lining), .string (bs a_0.Sole), .int .i64 a_0.Thick, .int .i64 a_0.Heel, .int .i64 a_0.Eyelets, .int .i64 a_0.Density, .bool a_0.Double]] := SH.add hS99 hE104 hL98 hR105
  refine WL.runk 1 [6, 7, 8, 9] [(6, .slice a67 x65.length c68), (7, .slice a79 x77.length c80), (8, .slice a91 x89.length c92), (9, .slice a101 (([] : List (List UInt8)).length) c102)] (by kernel_rfl) ?_
  refine WL.nil ?_
  refine WQ.then_normal (hK100 _ _ _ ?_)
  refine WP.seq (fun K110 hK110 => ?_)
  refine WP.seq (fun K111 hK111 => ?_)
  refine WP.region ?_
  refine WL.runk 1 [6, 7, 8, 9, 10] [(6, .slice a67 x65.length c68), (7, .slice a79 x77.length c80), (8, .slice a91 x89.length c92), (9, .slice a101 (([] : List (List UInt8)).length) c102), (10, .int .i64 0)] (by kernel_rfl) ?_
  refine WL.nil ?_
  refine WQ.then_normal (hK111 _ _ _ ?_)
  refine WP.block ?_
  obtain ⟨t126, ht127, hm⟩ := bindE hm
  have hmo121 := hm; clear hm
  refine WP.sub [(6, .slice a67 x65.length c68), (7, .slice a79 x77.length c80), (8, .slice a91 x89.length c92), (9, .slice a101 (([] : List (List UInt8)).length) c102), (10, .int .i64 0)] ⟨rfl, rfl, rfl, rfl, rfl, trivial⟩ ?_
  refine WP.loop (fun n' env' w' => ∃ (st112 : List (List UInt8) × Int) (a113 : Option Addr) (c114 : Nat), env' = [(6, .slice a67 x65.length c68), (7, .slice a79 x77.length c80), (8, .slice a91 x89.length c92), (9, .slice a113 st112.1.length c114), (10, .int .i64 st112.2)] ∧ Ext w w' ∧ w.heap.size ≤ w'.heap.size ∧ SH w' w.heap.size [aOwn fStr 9 a113 c114 st112.1, aOwn fStr 9 a91 c92 x89, aOwn fStr 9 a79 c80 x77, aOwn fStr 9 a67 c68 x65, aBox 32 b10 [.string (bs b_1.Upper), .string (bs b_1.Color), .string (bs b_1.Lining), .string (bs b_1.Sole), .int .i64 b_1.Thick, .int .i64 b_1.Heel, .int .i64 b_1.Eyelets, .int .i64 b_1.Density, .bool b_1.Double], aBox 32 b2 [.string (bs a_0.Upper), .string (bs a_0.Color), .string (bs a_0.Lining), .string (bs a_0.Sole), .int .i64 a_0.Thick, .int .i64 a_0.Heel, .int .i64 a_0.Eyelets, .int .i64 a_0.Density, .bool a_0.Double]] ∧ loopN (m_spec_DiffStyles_l1 n x65 x77 x89) n' st112 = some t126) n ⟨(([] : List (List UInt8)), 0), _, _, rfl, hb107, hL108, hS109, ht127⟩ ?_
  rintro n123 _ w116 ⟨st112, a113, c114, rfl, hb117, hL118, hS119, hl120⟩ K122 hK122
  obtain ⟨n124, s125, rfl, hm, hl120⟩ := loopN_some hl120
  unfold m_spec_DiffStyles_l1 at hm
  refine WP.seq (fun K128 hK128 => ?_)
  refine WP.seq (fun K129 hK129 => ?_)
  refine WP.region ?_
  refine WL.runk 4 [6, 7, 8, 9, 10, 24] [(6, .slice a67 x65.length c68), (7, .slice a79 x77.length c80), (8, .slice a91 x89.length c92), (9, .slice a113 st112.1.length c114), (10, .int .i64 st112.2), (24, .bool (decide (st112.2 < (x89.length : Int))))] (by kernel_rfl) ?_
  refine WL.nil ?_
  refine WQ.then_normal (hK129 _ _ _ ?_)
  refine WP.cond (decide (st112.2 < (x89.length : Int))) rfl rfl (fun hc130 => ?_) (fun hc130 => ?_)
  rotate_left
  · have hm := iteF hm hc130
    refine WP.exit ?_
    refine WQ.then_exit ?_
    refine WQ.then_exit ?_
    refine WQ.block_here ?_
    obtain rfl := Option.some.inj hm
    obtain rfl := afterN_done hl120
    have hm := hmo121
    refine WQ.then_normal (hK110 _ _ _ ?_)
    refine WP.seq (fun K192 hK192 => ?_)
    refine WP.region ?_
    refine WL.runk 3 [4, 5] [(4, .slice a113 st112.1.length c114), (5, .int .i64 0)] (by kernel_rfl) ?_
    refine WL.nil ?_
    refine WQ.then_normal (hK192 _ _ _ ?_)
    refine WP.ret ?_
    obtain rfl := Option.some.inj hm
    exact WQ.ret2 _ _ rfl rfl rfl ⟨_, _, rfl, hb117, (SH.take 1 hS119)⟩
  have hm := iteT hm hc130
  refine WP.skip ?_
  refine WQ.then_normal (hK128 _ _ _ ?_)
  refine WP.seq (fun K131 hK131 => ?_)
  refine WP.block ?_
  refine WP.seq (fun K132 hK132 => ?_)
  refine WP.quiet (by kernel_rfl) (by kernel_rfl) ?_
  refine QL.step1v 27 (.slice a67 x65.length c68) rfl (fun _ => by kernel_rfl) ?_
  refine QL.step1v 28 (.int .i64 st112.2) rfl (fun _ => by kernel_rfl) ?_
  refine QL.subk [6, 7, 8, 9, 10, 27, 28] [(6, .slice a67 x65.length c68), (7, .slice a79 x77.length c80), (8, .slice a91 x89.length c92), (9, .slice a113 st112.1.length c114), (10, .int .i64 st112.2), (27, .slice a67 x65.length c68), (28, .int .i64 st112.2)] (by kernel_rfl) ?_
  obtain ⟨x133, hx134, hm⟩ := bindE hm
  refine QL.st (.pointer (some (at_ a67 (Int.toNat st112.2 * 1)))) (ST.index (T := fStr.ty) (xs := x65) (SH.rd (SH.front 3 hS119)) hx134 rfl rfl rfl Tryd.underlying22 (info9).1 (info9).2.1) rfl rfl rfl ?_
  refine QL.st (.string (bs x133)) (ST.load (cell_ext (Rd.flat (F := fStr) (SH.rd (SH.front 3 hS119)) hx134 0 rfl)) rfl rfl Tryd.underlying9 rfl) rfl rfl rfl ?_
  refine QL.step1v 31 (.slice a79 x77.length c80) rfl (fun _ => by kernel_rfl) ?_
  refine QL.step1v 32 (.int .i64 st112.2) rfl (fun _ => by kernel_rfl) ?_
  refine QL.subk [6, 7, 8, 9, 10, 30, 31, 32] [(6, .slice a67 x65.length c68), (7, .slice a79 x77.length c80), (8, .slice a91 x89.length c92), (9, .slice a113 st112.1.length c114), (10, .int .i64 st112.2), (30, .string (bs x133)), (31, .slice a79 x77.length c80), (32, .int .i64 st112.2)] (by kernel_rfl) ?_
  obtain ⟨x135, hx136, hm⟩ := bindE hm
  refine QL.st (.pointer (some (at_ a79 (Int.toNat st112.2 * 1)))) (ST.index (T := fStr.ty) (xs := x77) (SH.rd (SH.front 2 hS119)) hx136 rfl rfl rfl Tryd.underlying22 (info9).1 (info9).2.1) rfl rfl rfl ?_
  refine QL.st (.string (bs x135)) (ST.load (cell_ext (Rd.flat (F := fStr) (SH.rd (SH.front 2 hS119)) hx136 0 rfl)) rfl rfl Tryd.underlying9 rfl) rfl rfl rfl ?_
  refine QL.st (.bool (!(x133 == x135))) (ST.strne (x := x133) (y := x135) rfl rfl rfl) rfl rfl rfl ?_
  refine QL.subk [6, 7, 8, 9, 10, 35] [(6, .slice a67 x65.length c68), (7, .slice a79 x77.length c80), (8, .slice a91 x89.length c92), (9, .slice a113 st112.1.length c114), (10, .int .i64 st112.2), (35, .bool (!(x133 == x135)))] (by kernel_rfl) ?_
  refine QL.nil ?_
  intro w137 hE138
  have hb139 : Ext w w137 := Ext.trans hb117 hE138
  have hL140 : w.heap.size ≤ w137.heap.size := Nat.le_trans hL118 hE138.size
  have hS141 : SH w137 w.heap.size [aOwn fStr 9 a113 c114 st112.1, aOwn fStr 9 a91 c92 x89, aOwn fStr 9 a79 c80 x77, aOwn fStr 9 a67 c68 x65, aBox 32 b10 [.string (bs b_1.Upper), .string (bs b_1.Color), .string (bs b_1.Lining), .string (bs b_1.Sole), .int .i64 b_1.Thick, .int .i64 b_1.Heel, .int .i64 b_1.Eyelets, .int .i64 b_1.Density, .bool b_1.Double], aBox 32 b2 [.string (bs a_0.Upper), .string (bs a_0.Color), .string (bs a_0.Lining), .string (bs a_0.Sole), .int .i64 a_0.Thick, .int .i64 a_0.Heel, .int .i64 a_0.Eyelets, .int .i64 a_0.Density, .bool a_0.Double]] := SH.ext hS119 hE138
  refine WQ.then_normal (hK132 _ _ _ ?_)
  obtain ⟨x163, hx164, hm⟩ := bindE hm
  refine WP.cut (fun env' w' => ∃ (a165 : Option Addr) (c166 : Nat), env' = [(6, .slice a67 x65.length c68), (7, .slice a79 x77.length c80), (8, .slice a91 x89.length c92), (9, .slice a165 x163.length c166), (10, .int .i64 st112.2)] ∧ Ext w w' ∧ w.heap.size ≤ w'.heap.size ∧ SH w' w.heap.size [aOwn fStr 9 a165 c166 x163, aOwn fStr 9 a91 c92 x89, aOwn fStr 9 a79 c80 x77, aOwn fStr 9 a67 c68 x65, aBox 32 b10 [.string (bs b_1.Upper), .string (bs b_1.Color), .string (bs b_1.Lining), .string (bs b_1.Sole), .int .i64 b_1.Thick, .int .i64 b_1.Heel, .int .i64 b_1.Eyelets, .int .i64 b_1.Density, .bool b_1.Double], aBox 32 b2 [.string (bs a_0.Upper), .string (bs a_0.Color), .string (bs a_0.Lining), .string (bs a_0.Sole), .int .i64 a_0.Thick, .int .i64 a_0.Heel, .int .i64 a_0.Eyelets, .int .i64 a_0.Density, .bool a_0.Double]]) ?_ ?_
  rotate_left
  · clear hx164
    rintro _ w188 ⟨a165, c166, rfl, hb189, hL190, hS191⟩
    refine WQ.block_normal ?_
    refine WQ.then_normal (hK131 _ _ _ ?_)
    refine WP.region ?_
    refine WL.runk 3 [6, 7, 8, 9, 10] [(6, .slice a67 x65.length c68), (7, .slice a79 x77.length c80), (8, .slice a91 x89.length c92), (9, .slice a165 x163.length c166), (10, .int .i64 (wI64 (st112.2 + 1)))] (by kernel_rfl) ?_
    refine WL.nil ?_
    obtain rfl := Option.some.inj hm
    exact WQ.round hK122 ⟨(x163, (wI64 (st112.2 + 1))), _, _, rfl, hb189, hL190, hS191, hl120⟩ (Nat.lt_succ_self _) ⟨rfl, rfl, rfl, rfl, rfl, trivial⟩
  have hm := hx164; clear hx164
  refine WP.cond (!(x133 == x135)) rfl rfl (fun hc142 => ?_) (fun hc142 => ?_)
  rotate_left
  · have hm := iteF hm hc142
    refine WP.skip ?_
    obtain rfl := Option.some.inj hm
    exact WQ.post' ⟨_, _, rfl, hb139, hL140, hS141⟩ ⟨rfl, rfl, rfl, rfl, rfl, trivial⟩
  have hm := iteT hm hc142
  refine WP.region ?_
  refine WL.runk 3 [6, 7, 8, 10, 36, 37, 38] [(6, .slice a67 x65.length c68), (7, .slice a79 x77.length c80), (8, .slice a91 x89.length c92), (10, .int .i64 st112.2), (36, .slice a113 st112.1.length c114), (37, .slice a91 x89.length c92), (38, .int .i64 st112.2)] (by kernel_rfl) ?_
  obtain ⟨x168, hx169, hm⟩ := bindE hm
  refine WL.st (.pointer (some (at_ a91 (Int.toNat st112.2 * 1)))) (ST.index (T := fStr.ty) (xs := x89) (SH.rd (SH.front 1 hS141)) hx169 rfl rfl rfl Tryd.underlying22 (info9).1 (info9).2.1) rfl rfl rfl ?_
  refine WL.st (.string (bs x168)) (ST.load (cell_ext (Rd.flat (F := fStr) (SH.rd (SH.front 1 hS141)) hx169 0 rfl)) rfl rfl Tryd.underlying9 rfl) rfl rfl rfl ?_
  refine WL.row fStr 9 ([x168] : List (List UInt8)) 1 #[.string (bs x168)] 41 (by kernel_rfl) rfl rfl rfl rfl rfl rfl rfl ?_
  intro a170 c171 w172 hE173 hR174
  have hb176 : Ext w w172 := Ext.trans hb139 hE173
  have hL177 : w.heap.size ≤ w172.heap.size := Nat.le_trans hL140 hE173.size
  have hS178 : SH w172 w.heap.size [aOwn fStr 9 a170 c171 ([x168] : List (List UInt8)), aOwn fStr 9 a113 c114 st112.1, aOwn fStr 9 a91 c92 x89, aOwn fStr 9 a79 c80 x77, aOwn fStr 9 a67 c68 x65, aBox 32 b10 [.string (bs b_1.Upper), .string (bs b_1.Color), .string (bs b_1.Lining), .string (bs b_1.Sole), .int .i64 b_1.Thick, .int .i64 b_1.Heel, .int .i64 b_1.Eyelets, .int .i64 b_1.Density, .bool b_1.Double], aBox 32 b2 [.string (bs a_0.Upper), .string (bs a_0.Color), .string (bs a_0.Lining), .string (bs a_0.Sole), .int .i64 a_0.Thick, .int .i64 a_0.Heel, .int .i64 a_0.Eyelets, .int .i64 a_0.Density, .bool a_0.Double]] := SH.add hS141 hE173 hL140 hR174
  obtain ⟨x179, hx180, hm⟩ := bindE hm
  refine WL.append (F := fStr) (xs := st112.1) (ys := ([x168] : List (List UInt8))) 42 (SH.front 1 hS178) hL177 (SH.rd (SH.front 0 hS178)) hx180 rfl rfl rfl Tryd.underlying22 (info9).1 (info9).2.2.1 (info9).2.1 (info9).2.2.2 rfl rfl rfl rfl rfl ?_
  intro a181 c182 w183 hB184 hS185
  have hb186 : Ext w w183 := Below.trans hb176 hB184
  have hL187 : w.heap.size ≤ w183.heap.size := Nat.le_trans hL177 hB184.size
  refine WL.runk 1 [6, 7, 8, 9, 10] [(6, .slice a67 x65.length c68), (7, .slice a79 x77.length c80), (8, .slice a91 x89.length c92), (10, .int .i64 st112.2), (9, .slice a181 x179.length c182)] (by kernel_rfl) ?_
  refine WL.nil ?_
  obtain rfl := Option.some.inj hm
  exact WQ.post' ⟨_, _, rfl, hb186, hL187, (SH.take 6 (SH.front 5 (SH.front 6 (SH.front 6 (SH.front 6 (SH.front 6 (SH.front 6 hS185)))))))⟩ ⟨rfl, rfl, rfl, rfl, rfl, trivial⟩

theorem c_15 (n : Nat) (a_0 : SStyle) (w : World) {r : SStyle} (hm : m_laws_toStyle n a_0 = some r)  :
    CallV Tryd.prog 15 #[.agg #[.string (bs a_0.Upper), .string (bs a_0.Color), .string (bs a_0.Lining), .string (bs a_0.Sole), .int .i64 a_0.Thick, .int .i64 a_0.Heel, .int .i64 a_0.Eyelets, .int .i64 a_0.Density, .bool a_0.Double]] w (fun v w' => v = .agg #[.string (bs r.Upper), .string (bs r.Color), .string (bs r.Lining), .string (bs r.Sole), .int .i64 r.Thick, .int .i64 r.Heel, .int .i64 r.Eyelets, .int .i64 r.Density, .bool r.Double] ∧ Ext w w') := by
  unfold m_laws_toStyle at hm
  refine CallV.enter Tryd.func15 rfl (by kernel_rfl) Tryd.ntmps15 (env := [(0, .agg #[.string (bs a_0.Upper), .string (bs a_0.Color), .string (bs a_0.Lining), .string (bs a_0.Sole), .int .i64 a_0.Thick, .int .i64 a_0.Heel, .int .i64 a_0.Eyelets, .int .i64 a_0.Density, .bool a_0.Double])]) ⟨rfl, trivial⟩ ?_
  refine WP.seq (fun K1 hK1 => ?_)
  refine WP.region ?_
  refine WL.box 29 [.string (bs a_0.Upper), .string (bs a_0.Color), .string (bs a_0.Lining), .string (bs a_0.Sole), .int .i64 a_0.Thick, .int .i64 a_0.Heel, .int .i64 a_0.Eyelets, .int .i64 a_0.Density, .bool a_0.Double] 1 (by kernel_rfl) rfl rfl rfl rfl ?_
  intro b2 w3 hE4 hR5
  have hb7 : Ext w w3 := Ext.trans (Ext.refl w) hE4
  have hL8 : w.heap.size ≤ w3.heap.size := Nat.le_trans (Nat.le_refl _) hE4.size
  have hS9 : SH w3 w.heap.size [aBox 29 b2 [.string (bs a_0.Upper), .string (bs a_0.Color), .string (bs a_0.Lining), .string (bs a_0.Sole), .int .i64 a_0.Thick, .int .i64 a_0.Heel, .int .i64 a_0.Eyelets, .int .i64 a_0.Density, .bool a_0.Double]] := SH.add (SH.nil _ _) hE4 (Nat.le_refl _) hR5
  refine WL.box 32 [.string (bs []), .string (bs []), .string (bs []), .string (bs []), .int .i64 0, .int .i64 0, .int .i64 0, .int .i64 0, .bool false] 2 (by kernel_rfl) rfl rfl rfl rfl ?_
  intro b10 w11 hE12 hR13
  have hb15 : Ext w w11 := Ext.trans hb7 hE12
  have hL16 : w.heap.size ≤ w11.heap.size := Nat.le_trans hL8 hE12.size
  have hS17 : SH w11 w.heap.size [aBox 32 b10 [.string (bs []), .string (bs []), .string (bs []), .string (bs []), .int .i64 0, .int .i64 0, .int .i64 0, .int .i64 0, .bool false], aBox 29 b2 [.string (bs a_0.Upper), .string (bs a_0.Color), .string (bs a_0.Lining), .string (bs a_0.Sole), .int .i64 a_0.Thick, .int .i64 a_0.Heel, .int .i64 a_0.Eyelets, .int .i64 a_0.Density, .bool a_0.Double]] := SH.add hS9 hE12 hL8 hR13
  refine WL.sub [(1, .pointer (some ⟨b2, 0, none⟩)), (2, .pointer (some ⟨b10, 0, none⟩))] ⟨rfl, rfl, trivial⟩ ?_
  refine WL.nil ?_
  refine WQ.then_normal (hK1 _ _ _ ?_)
  refine WP.seq (fun K18 hK18 => ?_)
  refine WP.region ?_
  refine WL.box 32 [.string (bs []), .string (bs []), .string (bs []), .string (bs []), .int .i64 0, .int .i64 0, .int .i64 0, .int .i64 0, .bool false] 3 (by kernel_rfl) rfl rfl rfl rfl ?_
  intro b19 w20 hE21 hR22
  have hb24 : Ext w w20 := Ext.trans hb15 hE21
  have hL25 : w.heap.size ≤ w20.heap.size := Nat.le_trans hL16 hE21.size
  have hS26 : SH w20 w.heap.size [aBox 32 b19 [.string (bs []), .string (bs []), .string (bs []), .string (bs []), .int .i64 0, .int .i64 0, .int .i64 0, .int .i64 0, .bool false], aBox 32 b10 [.string (bs []), .string (bs []), .string (bs []), .string (bs []), .int .i64 0, .int .i64 0, .int .i64 0, .int .i64 0, .bool false], aBox 29 b2 [.string (bs a_0.Upper), .string (bs a_0.Color), .string (bs a_0.Lining), .string (bs a_0.Sole), .int .i64 a_0.Thick, .int .i64 a_0.Heel, .int .i64 a_0.Eyelets, .int .i64 a_0.Density, .bool a_0.Double]] := SH.add hS17 hE21 hL16 hR22
  refine WL.sub [(1, .pointer (some ⟨b2, 0, none⟩)), (2, .pointer (some ⟨b10, 0, none⟩)), (3, .pointer (some ⟨b19, 0, none⟩))] ⟨rfl, rfl, rfl, trivial⟩ ?_
  refine WL.nil ?_
  refine WQ.then_normal (hK18 _ _ _ ?_)
  refine WP.seq (fun K27 hK27 => ?_)
  refine WP.region ?_
  refine WL.runk 1 [1, 2, 3, 4] [(1, .pointer (some ⟨b2, 0, none⟩)), (2, .pointer (some ⟨b10, 0, none⟩)), (3, .pointer (some ⟨b19, 0, none⟩)), (4, .pointer (some ⟨b2, 0, none⟩))] (by kernel_rfl) ?_
  refine WL.st (.string (bs a_0.Upper)) (ST.load (cell_ext (SH.boxAt (SH.front 2 hS26) 0 _ rfl)) rfl rfl Tryd.underlying9 rfl) rfl rfl rfl ?_
  refine WL.runk 1 [1, 2, 3, 5, 6] [(1, .pointer (some ⟨b2, 0, none⟩)), (2, .pointer (some ⟨b10, 0, none⟩)), (3, .pointer (some ⟨b19, 0, none⟩)), (5, .string (bs a_0.Upper)), (6, .pointer (some ⟨b19, 0, none⟩))] (by kernel_rfl) ?_
  refine WL.boxStore 0 [.string (bs a_0.Upper)] [.string (bs a_0.Upper), .string (bs []), .string (bs []), .string (bs []), .int .i64 0, .int .i64 0, .int .i64 0, .int .i64 0, .bool false] (SH.front 0 hS26) hL25 rfl rfl rfl rfl rfl rfl rfl (info9).1 (info9).2.1 rfl rfl rfl ?_
  intro w28 hB29 hS30
  have hb31 : Ext w w28 := Below.trans hb24 hB29
  have hL32 : w.heap.size ≤ w28.heap.size := Nat.le_trans hL25 hB29.size
  refine WL.sub [(1, .pointer (some ⟨b2, 0, none⟩)), (2, .pointer (some ⟨b10, 0, none⟩)), (3, .pointer (some ⟨b19, 0, none⟩))] ⟨rfl, rfl, rfl, trivial⟩ ?_
  refine WL.nil ?_
  refine WQ.then_normal (hK27 _ _ _ ?_)
  refine WP.seq (fun K33 hK33 => ?_)
  refine WP.region ?_
  refine WL.runk 1 [1, 2, 3, 7] [(1, .pointer (some ⟨b2, 0, none⟩)), (2, .pointer (some ⟨b10, 0, none⟩)), (3, .pointer (some ⟨b19, 0, none⟩)), (7, .pointer (some ⟨b2, 1, none⟩))] (by kernel_rfl) ?_
  refine WL.st (.string (bs a_0.Color)) (ST.load (cell_ext (SH.boxAt (SH.front 2 hS30) 1 _ rfl)) rfl rfl Tryd.underlying9 rfl) rfl rfl rfl ?_
  refine WL.runk 1 [1, 2, 3, 8, 9] [(1, .pointer (some ⟨b2, 0, none⟩)), (2, .pointer (some ⟨b10, 0, none⟩)), (3, .pointer (some ⟨b19, 0, none⟩)), (8, .string (bs a_0.Color)), (9, .pointer (some ⟨b19, 1, none⟩))] (by kernel_rfl) ?_
  refine WL.boxStore 1 [.string (bs a_0.Color)] [.string (bs a_0.Upper), .string (bs a_0.Color), .string (bs []), .string (bs []), .int .i64 0, .int .i64 0, .int .i64 0, .int .i64 0, .bool false] (SH.front 0 hS30) hL32 rfl rfl rfl rfl rfl rfl rfl (info9).1 (info9).2.1 rfl rfl rfl ?_
  intro w34 hB35 hS36
  have hb37 : Ext w w34 := Below.trans hb31 hB35
  have hL38 : w.heap.size ≤ w34.heap.size := Nat.le_trans hL32 hB35.size
  refine WL.sub [(1, .pointer (some ⟨b2, 0, none⟩)), (2, .pointer (some ⟨b10, 0, none⟩)), (3, .pointer (some ⟨b19, 0, none⟩))] ⟨rfl, rfl, rfl, trivial⟩ ?_
  refine WL.nil ?_
  refine WQ.then_normal (hK33 _ _ _ ?_)
  refine WP.seq (fun K39 hK39 => ?_)
  refine WP.region ?_
  refine WL.runk 1 [1, 2, 3, 10] [(1, .pointer (some ⟨b2, 0, none⟩)), (2, .pointer (some ⟨b10, 0, none⟩)), (3, .pointer (some ⟨b19, 0, none⟩)), (10, .pointer (some ⟨b2, 2, none⟩))] (by kernel_rfl) ?_
  refine WL.st (.string (bs a_0.Lining)) (ST.load (cell_ext (SH.boxAt (SH.front 2 hS36) 2 _ rfl)) rfl rfl Tryd.underlying9 rfl) rfl rfl rfl ?_
  refine WL.runk 1 [1, 2, 3, 11, 12] [(1, .pointer (some ⟨b2, 0, none⟩)), (2, .pointer (some ⟨b10, 0, none⟩)), (3, .pointer (some ⟨b19, 0, none⟩)), (11, .string (bs a_0.Lining)), (12, .pointer (some ⟨b19, 2, none⟩))] (by kernel_rfl) ?_
  refine WL.boxStore 2 [.string (bs a_0.Lining)] [.string (bs a_0.Upper), .string (bs a_0.Color), .string (bs a_0.Lining), .string (bs []), .int .i64 0, .int .i64 0, .int .i64 0, .int .i64 0, .bool false] (SH.front 0 hS36) hL38 rfl rfl rfl rfl rfl rfl rfl (info9).1 (info9).2.1 rfl rfl rfl ?_
  intro w40 hB41 hS42
  have hb43 : Ext w w40 := Below.trans hb37 hB41
  have hL44 : w.heap.size ≤ w40.heap.size := Nat.le_trans hL38 hB41.size
  refine WL.sub [(1, .pointer (some ⟨b2, 0, none⟩)), (2, .pointer (some ⟨b10, 0, none⟩)), (3, .pointer (some ⟨b19, 0, none⟩))] ⟨rfl, rfl, rfl, trivial⟩ ?_
  refine WL.nil ?_
  refine WQ.then_normal (hK39 _ _ _ ?_)
  refine WP.seq (fun K45 hK45 => ?_)
  refine WP.region ?_
  refine WL.runk 1 [1, 2, 3, 13] [(1, .pointer (some ⟨b2, 0, none⟩)), (2, .pointer (some ⟨b10, 0, none⟩)), (3, .pointer (some ⟨b19, 0, none⟩)), (13, .pointer (some ⟨b2, 3, none⟩))] (by kernel_rfl) ?_
  refine WL.st (.string (bs a_0.Sole)) (ST.load (cell_ext (SH.boxAt (SH.front 2 hS42) 3 _ rfl)) rfl rfl Tryd.underlying9 rfl) rfl rfl rfl ?_
  refine WL.runk 1 [1, 2, 3, 14, 15] [(1, .pointer (some ⟨b2, 0, none⟩)), (2, .pointer (some ⟨b10, 0, none⟩)), (3, .pointer (some ⟨b19, 0, none⟩)), (14, .string (bs a_0.Sole)), (15, .pointer (some ⟨b19, 3, none⟩))] (by kernel_rfl) ?_
  refine WL.boxStore 3 [.string (bs a_0.Sole)] [.string (bs a_0.Upper), .string (bs a_0.Color), .string (bs a_0.Lining), .string (bs a_0.Sole), .int .i64 0, .int .i64 0, .int .i64 0, .int .i64 0, .bool false] (SH.front 0 hS42) hL44 rfl rfl rfl rfl rfl rfl rfl (info9).1 (info9).2.1 rfl rfl rfl ?_
  intro w46 hB47 hS48
  have hb49 : Ext w w46 := Below.trans hb43 hB47
  have hL50 : w.heap.size ≤ w46.heap.size := Nat.le_trans hL44 hB47.size
  refine WL.sub [(1, .pointer (some ⟨b2, 0, none⟩)), (2, .pointer (some ⟨b10, 0, none⟩)), (3, .pointer (some ⟨b19, 0, none⟩))] ⟨rfl, rfl, rfl, trivial⟩ ?_
  refine WL.nil ?_
  refine WQ.then_normal (hK45 _ _ _ ?_)
  refine WP.seq (fun K51 hK51 => ?_)
  refine WP.region ?_
  refine WL.runk 1 [1, 2, 3, 16] [(1, .pointer (some ⟨b2, 0, none⟩)), (2, .pointer (some ⟨b10, 0, none⟩)), (3, .pointer (some ⟨b19, 0, none⟩)), (16, .pointer (some ⟨b2, 4, none⟩))] (by kernel_rfl) ?_
  refine WL.st (.int .i64 a_0.Thick) (ST.load (cell_ext (SH.boxAt (SH.front 2 hS48) 4 _ rfl)) rfl rfl Tryd.underlying2 rfl) rfl rfl rfl ?_
  refine WL.runk 1 [1, 2, 3, 17, 18] [(1, .pointer (some ⟨b2, 0, none⟩)), (2, .pointer (some ⟨b10, 0, none⟩)), (3, .pointer (some ⟨b19, 0, none⟩)), (17, .int .i64 a_0.Thick), (18, .pointer (some ⟨b19, 4, none⟩))] (by kernel_rfl) ?_
  refine WL.boxStore 4 [.int .i64 a_0.Thick] [.string (bs a_0.Upper), .string (bs a_0.Color), .string (bs a_0.Lining), .string (bs a_0.Sole), .int .i64 a_0.Thick, .int .i64 0, .int .i64 0, .int .i64 0, .bool false] (SH.front 0 hS48) hL50 rfl rfl rfl rfl rfl rfl rfl (info2).1 (info2).2.1 rfl rfl rfl ?_
  intro w52 hB53 hS54
  have hb55 : Ext w w52 := Below.trans hb49 hB53
  have hL56 : w.heap.size ≤ w52.heap.size := Nat.le_trans hL50 hB53.size
  refine WL.sub [(1, .pointer (some ⟨b2, 0, none⟩)), (2, .pointer (some ⟨b10, 0, none⟩)), (3, .pointer (some ⟨b19, 0, none⟩))] ⟨rfl, rfl, rfl, trivial⟩ ?_
  refine WL.nil ?_
  refine WQ.then_normal (hK51 _ _ _ ?_)
  refine WP.seq (fun K57 hK57 => ?_)
  refine WP.region ?_
  refine WL.runk 1 [1, 2, 3, 19] [(1, .pointer (some ⟨b2, 0, none⟩)), (2, .pointer (some ⟨b10, 0, none⟩)), (3, .pointer (some ⟨b19, 0, none⟩)), (19, .pointer (some ⟨b2, 5, none⟩))] (by kernel_rfl) ?_
  refine WL.st (.int .i64 a_0.Heel) (ST.load (cell_ext (SH.boxAt (SH.front 2 hS54) 5 _ rfl)) rfl rfl Tryd.underlying2 rfl) rfl rfl rfl ?_
  refine WL.runk 1 [1, 2, 3, 20, 21] [(1, .pointer (some ⟨b2, 0, none⟩)), (2, .pointer (some ⟨b10, 0, none⟩)), (3, .pointer (some ⟨b19, 0, none⟩)), (20, .int .i64 a_0.Heel), (21, .pointer (some ⟨b19, 5, none⟩))] (by kernel_rfl) ?_
  refine WL.boxStore 5 [.int .i64 a_0.Heel] [.string (bs a_0.Upper), .string (bs a_0.Color), .string (bs a_0.Lining), .string (bs a_0.Sole), .int .i64 a_0.Thick, .int .i64 a_0.Heel, .int .i64 0, .int .i64 0, .bool false] (SH.front 0 hS54) hL56 rfl rfl rfl rfl rfl rfl rfl (info2).1 (info2).2.1 rfl rfl rfl ?_
  intro w58 hB59 hS60
  have hb61 : Ext w w58 := Below.trans hb55 hB59
  have hL62 : w.heap.size ≤ w58.heap.size := Nat.le_trans hL56 hB59.size
  refine WL.sub [(1, .pointer (some ⟨b2, 0, none⟩)), (2, .pointer (some ⟨b10, 0, none⟩)), (3, .pointer (some ⟨b19, 0, none⟩))] ⟨rfl, rfl, rfl, trivial⟩ ?_
  refine WL.nil ?_
  refine WQ.then_normal (hK57 _ _ _ ?_)
  refine WP.seq (fun K63 hK63 => ?_)
  refine WP.region ?_
  refine WL.runk 1 [1, 2, 3, 22] [(1, .pointer (some ⟨b2, 0, none⟩)), (2, .pointer (some ⟨b10, 0, none⟩)), (3, .pointer (some ⟨b19, 0, none⟩)), (22, .pointer (some ⟨b2, 6, none⟩))] (by kernel_rfl) ?_
  refine WL.st (.int .i64 a_0.Eyelets) (ST.load (cell_ext (SH.boxAt (SH.front 2 hS60) 6 _ rfl)) rfl rfl Tryd.underlying2 rfl) rfl rfl rfl ?_
  refine WL.runk 1 [1, 2, 3, 23, 24] [(1, .pointer (some ⟨b2, 0, none⟩)), (2, .pointer (some ⟨b10, 0, none⟩)), (3, .pointer (some ⟨b19, 0, none⟩)), (23, .int .i64 a_0.Eyelets), (24, .pointer (some ⟨b19, 6, none⟩))] (by kernel_rfl) ?_
  refine WL.boxStore 6 [.int .i64 a_0.Eyelets] [.string (bs a_0.Upper), .string (bs a_0.Color), .string (bs a_0.Lining), .string (bs a_0.Sole), .int .i64 a_0.Thick, .int .i64 a_0.Heel, .int .i64 a_0.Eyelets, .int .i64 0, .bool false] (SH.front 0 hS60) hL62 rfl rfl rfl rfl rfl rfl rfl (info2).1 (info2).2.1 rfl rfl rfl ?_
  intro w64 hB65 hS66
  have hb67 : Ext w w64 := Below.trans hb61 hB65
  have hL68 : w.heap.size ≤ w64.heap.size := Nat.le_trans hL62 hB65.size
  refine WL.sub [(1, .pointer (some ⟨b2, 0, none⟩)), (2, .pointer (some ⟨b10, 0, none⟩)), (3, .pointer (some ⟨b19, 0, none⟩))] ⟨rfl, rfl, rfl, trivial⟩ ?_
  refine WL.nil ?_
  refine WQ.then_normal (hK63 _ _ _ ?_)
  refine WP.seq (fun K69 hK69 => ?_)
  refine WP.region ?_
  refine WL.runk 1 [1, 2, 3, 25] [(1, .pointer (some ⟨b2, 0, none⟩)), (2, .pointer (some ⟨b10, 0, none⟩)), (3, .pointer (some ⟨b19, 0, none⟩)), (25, .pointer (some ⟨b2, 7, none⟩))] (by kernel_rfl) ?_
  refine WL.st (.int .i64 a_0.Density) (ST.load (cell_ext (SH.boxAt (SH.front 2 hS66) 7 _ rfl)) rfl rfl Tryd.underlying2 rfl) rfl rfl rfl ?_
  refine WL.runk 1 [1, 2, 3, 26, 27] [(1, .pointer (some ⟨b2, 0, none⟩)), (2, .pointer (some ⟨b10, 0, none⟩)), (3, .pointer (some ⟨b19, 0, none⟩)), (26, .int .i64 a_0.Density), (27, .pointer (some ⟨b19, 7, none⟩))] (by kernel_rfl) ?_
  refine WL.boxStore 7 [.int .i64 a_0.Density] [.string (bs a_0.Upper), .string (bs a_0.Color), .string (bs a_0.Lining), .string (bs a_0.Sole), .int .i64 a_0.Thick, .int .i64 a_0.Heel, .int .i64 a_0.Eyelets, .int .i64 a_0.Density, .bool false] (SH.front 0 hS66) hL68 rfl rfl rfl rfl rfl rfl rfl (info2).1 (info2).2.1 rfl rfl rfl ?_
  intro w70 hB71 hS72
  have hb73 : Ext w w70 := Below.trans hb67 hB71
  have hL74 : w.heap.size ≤ w70.heap.size := Nat.le_trans hL68 hB71.size
  refine WL.sub [(1, .pointer (some ⟨b2, 0, none⟩)), (2, .pointer (some ⟨b10, 0, none⟩)), (3, .pointer (some ⟨b19, 0, none⟩))] ⟨rfl, rfl, rfl, trivial⟩ ?_
  refine WL.nil ?_
  refine WQ.then_normal (hK69 _ _ _ ?_)
  refine WP.seq (fun K75 hK75 => ?_)
  refine WP.region ?_
  refine WL.runk 1 [2, 3, 28] [(2, .pointer (some ⟨b10, 0, none⟩)), (3, .pointer (some ⟨b19, 0, none⟩)), (28, .pointer (some ⟨b2, 8, none⟩))] (by kernel_rfl) ?_
  refine WL.st (.bool a_0.Double) (ST.load (cell_ext (SH.boxAt (SH.front 2 hS72) 8 _ rfl)) rfl rfl Tryd.underlying4 rfl) rfl rfl rfl ?_
  refine WL.runk 1 [2, 3, 29, 30] [(2, .pointer (some ⟨b10, 0, none⟩)), (3, .pointer (some ⟨b19, 0, none⟩)), (29, .bool a_0.Double), (30, .pointer (some ⟨b19, 8, none⟩))] (by kernel_rfl) ?_
  refine WL.boxStore 8 [.bool a_0.Double] [.string (bs a_0.Upper), .string (bs a_0.Color), .string (bs a_0.Lining), .string (bs a_0.Sole), .int .i64 a_0.Thick, .int .i64 a_0.Heel, .int .i64 a_0.Eyelets, .int .i64 a_0.Density, .bool a_0.Double] (SH.front 0 hS72) hL74 rfl rfl rfl rfl rfl rfl rfl (info4).1 (info4).2.1 rfl rfl rfl ?_
  intro w76 hB77 hS78
  have hb79 : Ext w w76 := Below.trans hb73 hB77
  have hL80 : w.heap.size ≤ w76.heap.size := Nat.le_trans hL74 hB77.size
  refine WL.sub [(2, .pointer (some ⟨b10, 0, none⟩)), (3, .pointer (some ⟨b19, 0, none⟩))] ⟨rfl, rfl, trivial⟩ ?_
  refine WL.nil ?_
  refine WQ.then_normal (hK75 _ _ _ ?_)
  refine WP.seq (fun K81 hK81 => ?_)
  refine WP.region ?_
  refine WL.st (.agg #[.string (bs a_0.Upper), .string (bs a_0.Color), .string (bs a_0.Lining), .string (bs a_0.Sole), .int .i64 a_0.Thick, .int .i64 a_0.Heel, .int .i64 a_0.Eyelets, .int .i64 a_0.Density, .bool a_0.Double]) (ST.loadAgg (vs := [.string (bs a_0.Upper), .string (bs a_0.Color), .string (bs a_0.Lining), .string (bs a_0.Sole), .int .i64 a_0.Thick, .int .i64 a_0.Heel, .int .i64 a_0.Eyelets, .int .i64 a_0.Density, .bool a_0.Double]) (fun j v hv => SH.boxPart (us := [.string (bs a_0.Upper), .string (bs a_0.Color), .string (bs a_0.Lining), .string (bs a_0.Sole), .int .i64 a_0.Thick, .int .i64 a_0.Heel, .int .i64 a_0.Eyelets, .int .i64 a_0.Density, .bool a_0.Double]) (SH.front 0 hS78) 0 rfl j v hv) rfl rfl rfl Tryd.underlying32 rfl (info32).1 (info32).2.1) rfl rfl rfl ?_
  refine WL.boxStore 0 [.string (bs a_0.Upper), .string (bs a_0.Color), .string (bs a_0.Lining), .string (bs a_0.Sole), .int .i64 a_0.Thick, .int .i64 a_0.Heel, .int .i64 a_0.Eyelets, .int .i64 a_0.Density, .bool a_0.Double] [.string (bs a_0.Upper), .string (bs a_0.Color), .string (bs a_0.Lining), .string (bs a_0.Sole), .int .i64 a_0.Thick, .int .i64 a_0.Heel, .int .i64 a_0.Eyelets, .int .i64 a_0.Density, .bool a_0.Double] (SH.front 1 hS78) hL80 rfl rfl rfl rfl rfl rfl rfl (info32).1 (info32).2.1 rfl rfl rfl ?_
  intro w82 hB83 hS84
  have hb85 : Ext w w82 := Below.trans hb79 hB83
  have hL86 : w.heap.size ≤ w82.heap.size := Nat.le_trans hL80 hB83.size
  refine WL.sub [(2, .pointer (some ⟨b10, 0, none⟩))] ⟨rfl, trivial⟩ ?_
  refine WL.nil ?_
  refine WQ.then_normal (hK81 _ _ _ ?_)
  refine WP.ret ?_
  obtain rfl := Option.some.inj hm
  exact WQ.retv1 _ rfl (RVal.box (SH.front 0 hS84) rfl Tryd.underlying32 rfl (info32).1 (info32).2.1) ⟨rfl, hb85⟩

theorem c_50 (n : Nat) (s_0 : List UInt8) (w : World) {r : Bool} (hm : m_impl_IsName n s_0 = some r)  :
    CallV Tryd.prog 50 #[.string (bs s_0)] w (fun v w' => v = .bool r ∧ Ext w w') := by
  unfold m_impl_IsName at hm
  refine CallV.enter Tryd.func50 rfl (by kernel_rfl) Tryd.ntmps50 (env := [(0, .string (bs s_0))]) ⟨rfl, trivial⟩ ?_
  refine WP.seq (fun K1 hK1 => ?_)
  refine WP.region ?_
  refine WL.runk 1 [0] [(0, .string (bs s_0))] (by kernel_rfl) ?_
  refine WL.nil ?_
  refine WQ.then_normal (hK1 _ _ _ ?_)
  refine WP.seq (fun K2 hK2 => ?_)
  refine WP.seq (fun K3 hK3 => ?_)
  obtain ⟨x11, hx12, hm⟩ := bindE hm
  refine WP.cut (fun env' w' => env' = [(0, .string (bs s_0)), (21, .bool x11)] ∧ Ext w w' ∧ w.heap.size ≤ w'.heap.size ∧ SH w' w.heap.size []) ?_ ?_
  · have hm := hx12; clear hx12
    refine WP.region ?_
    refine WL.runk 4 [0, 7] [(0, .string (bs s_0)), (7, .bool (decide ((s_0.length : Int) < 1)))] (by kernel_rfl) ?_
    refine WL.case (decide ((s_0.length : Int) < 1)) [7] ⟨rfl, trivial⟩ (fun hc13 => ?_) (fun hc13 => ?_)
    · have hm := iteT hm hc13
      refine WL.runk 14 [0, 21] [(0, .string (bs s_0)), (21, .bool true)] (by kernel_rfl) ?_
      refine WL.nil ?_
      obtain rfl := Option.some.inj hm
      exact WQ.post' ⟨rfl, (Ext.refl w), (Nat.le_refl _), (SH.nil _ _)⟩ ⟨rfl, rfl, trivial⟩
    have hm := iteF hm hc13
    refine WL.runk 5 [0, 12] [(0, .string (bs s_0)), (12, .bool (decide ((s_0.length : Int) > 12)))] (by kernel_rfl) ?_
    refine WL.case (decide ((s_0.length : Int) > 12)) [12] ⟨rfl, trivial⟩ (fun hc14 => ?_) (fun hc14 => ?_)
    · have hm := iteT hm hc14
      refine WL.runk 9 [0, 21] [(0, .string (bs s_0)), (21, .bool true)] (by kernel_rfl) ?_
      refine WL.nil ?_
      obtain rfl := Option.some.inj hm
      exact WQ.post' ⟨rfl, (Ext.refl w), (Nat.le_refl _), (SH.nil _ _)⟩ ⟨rfl, rfl, trivial⟩
    have hm := iteF hm hc14
    refine WL.runk 1 [0, 12, 13] [(0, .string (bs s_0)), (12, .bool false), (13, .string (bs s_0))] (by kernel_rfl) ?_
    obtain ⟨x15, hx16, hm⟩ := bindE hm
    refine WL.st (.int .u8 (x15.toNat : Int)) (ST.sindex hx16 rfl rfl rfl Tryd.underlying9) rfl rfl rfl ?_
    refine WL.runk 3 [0, 17] [(0, .string (bs s_0)), (17, .bool (decide ((x15.toNat : Int) < 97)))] (by kernel_rfl) ?_
    refine WL.case (decide ((x15.toNat : Int) < 97)) [17] ⟨rfl, trivial⟩ (fun hc17 => ?_) (fun hc17 => ?_)
    · have hm := iteT hm hc17
      refine WL.runk 4 [0, 21] [(0, .string (bs s_0)), (21, .bool true)] (by kernel_rfl) ?_
      refine WL.nil ?_
      obtain rfl := Option.some.inj hm
      exact WQ.post' ⟨rfl, (Ext.refl w), (Nat.le_refl _), (SH.nil _ _)⟩ ⟨rfl, rfl, trivial⟩
    have hm := iteF hm hc17
    refine WL.runk 1 [0, 17, 18] [(0, .string (bs s_0)), (17, .bool false), (18, .string (bs s_0))] (by kernel_rfl) ?_
    obtain ⟨x18, hx19, hm⟩ := bindE hm
    refine WL.st (.int .u8 (x18.toNat : Int)) (ST.sindex hx19 rfl rfl rfl Tryd.underlying9) rfl rfl rfl ?_
    refine WL.runk 2 [0, 21] [(0, .string (bs s_0)), (21, .bool (decide ((x18.toNat : Int) > 122)))] (by kernel_rfl) ?_
    refine WL.nil ?_
    obtain rfl := Option.some.inj hm
    exact WQ.post' ⟨rfl, (Ext.refl w), (Nat.le_refl _), (SH.nil _ _)⟩ ⟨rfl, rfl, trivial⟩
  clear hx12
  rintro _ w20 ⟨rfl, hb21, hL22, hS23⟩
  refine WQ.then_normal (hK3 _ _ _ ?_)
  refine WP.cond x11 rfl rfl (fun hc24 => ?_) (fun hc24 => ?_)
  · have hm := iteT hm hc24
    refine WP.seq (fun K25 hK25 => ?_)
    refine WP.region ?_
    refine WL.runk 1 [2] [(2, .bool false)] (by kernel_rfl) ?_
    refine WL.nil ?_
    refine WQ.then_normal (hK25 _ _ _ ?_)
    refine WP.ret ?_
    refine WQ.then_ret ?_
    obtain rfl := Option.some.inj hm
    exact WQ.ret1 _ rfl rfl ⟨rfl, hb21⟩
  have hm := iteF hm hc24
  refine WP.skip ?_
  refine WQ.then_normal (hK2 _ _ _ ?_)
  refine WP.seq (fun K26 hK26 => ?_)
  refine WP.seq (fun K27 hK27 => ?_)
  refine WP.region ?_
  refine WL.runk 1 [0, 3] [(0, .string (bs s_0)), (3, .int .i64 1)] (by kernel_rfl) ?_
  refine WL.nil ?_
  refine WQ.then_normal (hK27 _ _ _ ?_)
  refine WP.block ?_
  obtain ⟨t39, ht40, hm⟩ := bindE hm
  have hmo34 := hm; clear hm
  refine WP.sub [(0, .string (bs s_0)), (3, .int .i64 1)] ⟨rfl, rfl, trivial⟩ ?_
  refine WP.loop (fun n' env' w' => ∃ (st28 : Int) , env' = [(0, .string (bs s_0)), (3, .int .i64 st28)] ∧ Ext w w' ∧ w.heap.size ≤ w'.heap.size ∧ SH w' w.heap.size [] ∧ loopN (m_impl_IsName_l1 n s_0) n' st28 = some t39) n ⟨1, rfl, hb21, hL22, hS23, ht40⟩ ?_
  rintro n36 _ w29 ⟨st28, rfl, hb30, hL31, hS32, hl33⟩ K35 hK35
  obtain ⟨n37, s38, rfl, hm, hl33⟩ := loopN_some hl33
  unfold m_impl_IsName_l1 at hm
  refine WP.seq (fun K41 hK41 => ?_)
  refine WP.seq (fun K42 hK42 => ?_)
  refine WP.region ?_
  refine WL.runk 4 [0, 3, 25] [(0, .string (bs s_0)), (3, .int .i64 st28), (25, .bool (decide (st28 < (s_0.length : Int))))] (by kernel_rfl) ?_
  refine WL.nil ?_
  refine WQ.then_normal (hK42 _ _ _ ?_)
  refine WP.cond (decide (st28 < (s_0.length : Int))) rfl rfl (fun hc43 => ?_) (fun hc43 => ?_)
  rotate_left
  · have hm := iteF hm hc43
    refine WP.exit ?_
    refine WQ.then_exit ?_
    refine WQ.then_exit ?_
    refine WQ.block_here ?_
    obtain rfl := Option.some.inj hm
    obtain rfl := afterN_done hl33
    have hm := hmo34
    refine WQ.then_normal (hK26 _ _ _ ?_)
    refine WP.seq (fun K106 hK106 => ?_)
    refine WP.region ?_
    refine WL.runk 1 [2] [(2, .bool true)] (by kernel_rfl) ?_
    refine WL.nil ?_
    refine WQ.then_normal (hK106 _ _ _ ?_)
    refine WP.ret ?_
    obtain rfl := Option.some.inj hm
    exact WQ.ret1 _ rfl rfl ⟨rfl, hb30⟩
  have hm := iteT hm hc43
  refine WP.skip ?_
  refine WQ.then_normal (hK41 _ _ _ ?_)
  refine WP.seq (fun K44 hK44 => ?_)
  refine WP.block ?_
  refine WP.seq (fun K45 hK45 => ?_)
  obtain ⟨x72, hx73, hm⟩ := bindE hm
  refine WP.cut (fun env' w' => env' = [(0, .string (bs s_0)), (3, .int .i64 st28), (55, .bool x72)] ∧ Ext w w' ∧ w.heap.size ≤ w'.heap.size ∧ SH w' w.heap.size []) ?_ ?_
  rotate_left
  · clear hx73
    rintro _ w100 ⟨rfl, hb101, hL102, hS103⟩
    refine WQ.then_normal (hK45 _ _ _ ?_)
    refine WP.cond x72 rfl rfl (fun hc104 => ?_) (fun hc104 => ?_)
    rotate_left
    · have hm := iteF hm hc104
      refine WP.skip ?_
      refine WQ.block_normal ?_
      refine WQ.then_normal (hK44 _ _ _ ?_)
      refine WP.region ?_
      refine WL.runk 3 [0, 3] [(0, .string (bs s_0)), (3, .int .i64 (wI64 (st28 + 1)))] (by kernel_rfl) ?_
      refine WL.nil ?_
      obtain rfl := Option.some.inj hm
      exact WQ.round hK35 ⟨(wI64 (st28 + 1)), rfl, hb101, hL102, hS103, hl33⟩ (Nat.lt_succ_self _) ⟨rfl, rfl, trivial⟩
    have hm := iteT hm hc104
    refine WP.seq (fun K105 hK105 => ?_)
    refine WP.region ?_
    refine WL.runk 1 [2] [(2, .bool false)] (by kernel_rfl) ?_
    refine WL.nil ?_
    refine WQ.then_normal (hK105 _ _ _ ?_)
    refine WP.ret ?_
    refine WQ.block_ret ?_
    refine WQ.then_ret ?_
    refine WQ.then_ret ?_
    refine WQ.block_ret ?_
    refine WQ.then_ret ?_
    obtain rfl := Option.some.inj hm
    obtain rfl := afterN_done hl33
    have hm := hmo34
    obtain rfl := Option.some.inj hm
    exact WQ.ret1 _ rfl rfl ⟨rfl, hb101⟩
  have hm := hx73; clear hx73
  refine WP.region ?_
  refine WL.runk 2 [0, 3, 28, 29] [(0, .string (bs s_0)), (3, .int .i64 st28), (28, .string (bs s_0)), (29, .int .i64 st28)] (by kernel_rfl) ?_
  obtain ⟨x74, hx75, hm⟩ := bindE hm
  refine WL.st (.int .u8 (x74.toNat : Int)) (ST.sindex hx75 rfl rfl rfl Tryd.underlying9) rfl rfl rfl ?_
  refine WL.runk 2 [0, 3, 32] [(0, .string (bs s_0)), (3, .int .i64 st28), (32, .bool (decide ((x74.toNat : Int) < 97)))] (by kernel_rfl) ?_
  refine WL.case (decide ((x74.toNat : Int) < 97)) [32] ⟨rfl, trivial⟩ (fun hc76 => ?_) (fun hc76 => ?_)
  · have hm := iteT hm hc76
    refine WL.runk 8 [0, 3, 38, 39, 40] [(0, .string (bs s_0)), (3, .int .i64 st28), (38, .bool true), (39, .string (bs s_0)), (40, .int .i64 st28)] (by kernel_rfl) ?_
    obtain ⟨x77, hx78, hm⟩ := bindE hm
    refine WL.st (.int .u8 (x77.toNat : Int)) (ST.sindex hx78 rfl rfl rfl Tryd.underlying9) rfl rfl rfl ?_
    refine WL.runk 2 [0, 3, 38, 43] [(0, .string (bs s_0)), (3, .int .i64 st28), (38, .bool true), (43, .bool (decide ((x77.toNat : Int) < 48)))] (by kernel_rfl) ?_
    refine WL.case (decide ((x77.toNat : Int) < 48)) [43] ⟨rfl, trivial⟩ (fun hc79 => ?_) (fun hc79 => ?_)
    · have hm := iteT hm hc79
      refine WL.runk 9 [0, 3, 50, 51, 52] [(0, .string (bs s_0)), (3, .int .i64 st28), (50, .bool true), (51, .string (bs s_0)), (52, .int .i64 st28)] (by kernel_rfl) ?_
      obtain ⟨x80, hx81, hm⟩ := bindE hm
      refine WL.st (.int .u8 (x80.toNat : Int)) (ST.sindex hx81 rfl rfl rfl Tryd.underlying9) rfl rfl rfl ?_
      refine WL.runk 2 [0, 3, 55] [(0, .string (bs s_0)), (3, .int .i64 st28), (55, .bool ((x80.toNat : Int) != 45))] (by kernel_rfl) ?_
      refine WL.nil ?_
      obtain rfl := Option.some.inj hm
      exact WQ.post' ⟨rfl, hb30, hL31, hS32⟩ ⟨rfl, rfl, rfl, trivial⟩
    have hm := iteF hm hc79
    refine WL.runk 2 [0, 3, 38, 43, 44, 45] [(0, .string (bs s_0)), (3, .int .i64 st28), (38, .bool true), (43, .bool false), (44, .string (bs s_0)), (45, .int .i64 st28)] (by kernel_rfl) ?_
    obtain ⟨x82, hx83, hm⟩ := bindE hm
    refine WL.st (.int .u8 (x82.toNat : Int)) (ST.sindex hx83 rfl rfl rfl Tryd.underlying9) rfl rfl rfl ?_
    refine WL.runk 4 [0, 3, 50] [(0, .string (bs s_0)), (3, .int .i64 st28), (50, .bool (decide ((x82.toNat : Int) > 57)))] (by kernel_rfl) ?_
    refine WL.case (decide ((x82.toNat : Int) > 57)) [50] ⟨rfl, trivial⟩ (fun hc84 => ?_) (fun hc84 => ?_)
    rotate_left
    · have hm := iteF hm hc84
      refine WL.runk 5 [0, 3, 55] [(0, .string (bs s_0)), (3, .int .i64 st28), (55, .bool false)] (by kernel_rfl) ?_
      refine WL.nil ?_
      obtain rfl := Option.some.inj hm
      exact WQ.post' ⟨rfl, hb30, hL31, hS32⟩ ⟨rfl, rfl, rfl, trivial⟩
    have hm := iteT hm hc84
    refine WL.runk 2 [0, 3, 50, 51, 52] [(0, .string (bs s_0)), (3, .int .i64 st28), (50, .bool true), (51, .string (bs s_0)), (52, .int .i64 st28)] (by kernel_rfl) ?_
    obtain ⟨x85, hx86, hm⟩ := bindE hm
    refine WL.st (.int .u8 (x85.toNat : Int)) (ST.sindex hx86 rfl rfl rfl Tryd.underlying9) rfl rfl rfl ?_
    refine WL.runk 2 [0, 3, 55] [(0, .string (bs s_0)), (3, .int .i64 st28), (55, .bool ((x85.toNat : Int) != 45))] (by kernel_rfl) ?_
    refine WL.nil ?_
    obtain rfl := Option.some.inj hm
    exact WQ.post' ⟨rfl, hb30, hL31, hS32⟩ ⟨rfl, rfl, rfl, trivial⟩
  have hm := iteF hm hc76
  refine WL.runk 2 [0, 3, 32, 33, 34] [(0, .string (bs s_0)), (3, .int .i64 st28), (32, .bool false), (33, .string (bs s_0)), (34, .int .i64 st28)] (by kernel_rfl) ?_
  obtain ⟨x87, hx88, hm⟩ := bindE hm
  refine WL.st (.int .u8 (x87.toNat : Int)) (ST.sindex hx88 rfl rfl rfl Tryd.underlying9) rfl rfl rfl ?_
  refine WL.runk 3 [0, 3, 38] [(0, .string (bs s_0)), (3, .int .i64 st28), (38, .bool (decide ((x87.toNat : Int) > 122)))] (by kernel_rfl) ?_
  refine WL.case (decide ((x87.toNat : Int) > 122)) [38] ⟨rfl, trivial⟩ (fun hc89 => ?_) (fun hc89 => ?_)
  rotate_left
  · have hm := iteF hm hc89
    refine WL.runk 17 [0, 3, 55] [(0, .string (bs s_0)), (3, .int .i64 st28), (55, .bool false)] (by kernel_rfl) ?_
    refine WL.nil ?_
    obtain rfl := Option.some.inj hm
    exact WQ.post' ⟨rfl, hb30, hL31, hS32⟩ ⟨rfl, rfl, rfl, trivial⟩
  have hm := iteT hm hc89
  refine WL.runk 2 [0, 3, 38, 39, 40] [(0, .string (bs s_0)), (3, .int .i64 st28), (38, .bool true), (39, .string (bs s_0)), (40, .int .i64 st28)] (by kernel_rfl) ?_
  obtain ⟨x90, hx91, hm⟩ := bindE hm
  refine WL.st (.int .u8 (x90.toNat : Int)) (ST.sindex hx91 rfl rfl rfl Tryd.underlying9) rfl rfl rfl ?_
  refine WL.runk 2 [0, 3, 38, 43] [(0, .string (bs s_0)), (3, .int .i64 st28), (38, .bool true), (43, .bool (decide ((x90.toNat : Int) < 48)))] (by kernel_rfl) ?_
  refine WL.case (decide ((x90.toNat : Int) < 48)) [43] ⟨rfl, trivial⟩ (fun hc92 => ?_) (fun hc92 => ?_)
  · have hm := iteT hm hc92
    refine WL.runk 9 [0, 3, 50, 51, 52] [(0, .string (bs s_0)), (3, .int .i64 st28), (50, .bool true), (51, .string (bs s_0)), (52, .int .i64 st28)] (by kernel_rfl) ?_
    obtain ⟨x93, hx94, hm⟩ := bindE hm
    refine WL.st (.int .u8 (x93.toNat : Int)) (ST.sindex hx94 rfl rfl rfl Tryd.underlying9) rfl rfl rfl ?_
    refine WL.runk 2 [0, 3, 55] [(0, .string (bs s_0)), (3, .int .i64 st28), (55, .bool ((x93.toNat : Int) != 45))] (by kernel_rfl) ?_
    refine WL.nil ?_
    obtain rfl := Option.some.inj hm
    exact WQ.post' ⟨rfl, hb30, hL31, hS32⟩ ⟨rfl, rfl, rfl, trivial⟩
  have hm := iteF hm hc92
  refine WL.runk 2 [0, 3, 38, 43, 44, 45] [(0, .string (bs s_0)), (3, .int .i64 st28), (38, .bool true), (43, .bool false), (44, .string (bs s_0)), (45, .int .i64 st28)] (by kernel_rfl) ?_
  obtain ⟨x95, hx96, hm⟩ := bindE hm
  refine WL.st (.int .u8 (x95.toNat : Int)) (ST.sindex hx96 rfl rfl rfl Tryd.underlying9) rfl rfl rfl ?_
  refine WL.runk 4 [0, 3, 50] [(0, .string (bs s_0)), (3, .int .i64 st28), (50, .bool (decide ((x95.toNat : Int) > 57)))] (by kernel_rfl) ?_
  refine WL.case (decide ((x95.toNat : Int) > 57)) [50] ⟨rfl, trivial⟩ (fun hc97 => ?_) (fun hc97 => ?_)
  rotate_left
  · have hm := iteF hm hc97
    refine WL.runk 5 [0, 3, 55] [(0, .string (bs s_0)), (3, .int .i64 st28), (55, .bool false)] (by kernel_rfl) ?_
    refine WL.nil ?_
    obtain rfl := Option.some.inj hm
    exact WQ.post' ⟨rfl, hb30, hL31, hS32⟩ ⟨rfl, rfl, rfl, trivial⟩
  have hm := iteT hm hc97
  refine WL.runk 2 [0, 3, 50, 51, 52] [(0, .string (bs s_0)), (3, .int .i64 st28), (50, .bool true), (51, .string (bs s_0)), (52, .int .i64 st28)] (by kernel_rfl) ?_
  obtain ⟨x98, hx99, hm⟩ := bindE hm
  refine WL.st (.int .u8 (x98.toNat : Int)) (ST.sindex hx99 rfl rfl rfl Tryd.underlying9) rfl rfl rfl ?_
  refine WL.runk 2 [0, 3, 55] [(0, .string (bs s_0)), (3, .int .i64 st28), (55, .bool ((x98.toNat : Int) != 45))] (by kernel_rfl) ?_
  refine WL.nil ?_
  obtain rfl := Option.some.inj hm
  exact WQ.post' ⟨rfl, hb30, hL31, hS32⟩ ⟨rfl, rfl, rfl, trivial⟩

theorem c_51 (n : Nat) (n_0 : Int) (low_1 : Int) (high_2 : Int) (w : World) {r : Bool} (hm : m_impl_within n n_0 low_1 high_2 = some r)  :
    CallV Tryd.prog 51 #[.int .i64 n_0, .int .i64 low_1, .int .i64 high_2] w (fun v w' => v = .bool r ∧ Ext w w') := by
  unfold m_impl_within at hm
  refine CallV.enter Tryd.func51 rfl (by kernel_rfl) Tryd.ntmps51 (env := [(0, .int .i64 n_0), (1, .int .i64 low_1), (2, .int .i64 high_2)]) ⟨rfl, rfl, rfl, trivial⟩ ?_
  refine WP.seq (fun K1 hK1 => ?_)
  refine WP.region ?_
  refine WL.runk 1 [0, 1, 2] [(0, .int .i64 n_0), (1, .int .i64 low_1), (2, .int .i64 high_2)] (by kernel_rfl) ?_
  refine WL.nil ?_
  refine WQ.then_normal (hK1 _ _ _ ?_)
  refine WP.seq (fun K2 hK2 => ?_)
  obtain ⟨x4, hx5, hm⟩ := bindE hm
  refine WP.cut (fun env' w' => env' = [(6, .bool x4)] ∧ Ext w w' ∧ w.heap.size ≤ w'.heap.size ∧ SH w' w.heap.size []) ?_ ?_
  rotate_left
  · clear hx5
    rintro _ w7 ⟨rfl, hb8, hL9, hS10⟩
    refine WQ.then_normal (hK2 _ _ _ ?_)
    refine WP.ret ?_
    obtain rfl := Option.some.inj hm
    exact WQ.ret1 _ rfl rfl ⟨rfl, hb8⟩
  have hm := hx5; clear hx5
  refine WP.region ?_
  refine WL.runk 4 [0, 2, 10] [(0, .int .i64 n_0), (2, .int .i64 high_2), (10, .bool (decide (n_0 ≥ low_1)))] (by kernel_rfl) ?_
  refine WL.case (decide (n_0 ≥ low_1)) [10] ⟨rfl, trivial⟩ (fun hc6 => ?_) (fun hc6 => ?_)
  · have hm := iteT hm hc6
    refine WL.runk 5 [6] [(6, .bool (decide (n_0 ≤ high_2)))] (by kernel_rfl) ?_
    refine WL.nil ?_
    obtain rfl := Option.some.inj hm
    exact WQ.post' ⟨rfl, (Ext.refl w), (Nat.le_refl _), (SH.nil _ _)⟩ ⟨rfl, trivial⟩
  have hm := iteF hm hc6
  refine WL.runk 5 [6] [(6, .bool false)] (by kernel_rfl) ?_
  refine WL.nil ?_
  obtain rfl := Option.some.inj hm
  exact WQ.post' ⟨rfl, (Ext.refl w), (Nat.le_refl _), (SH.nil _ _)⟩ ⟨rfl, trivial⟩

theorem c_33 (n : Nat) (x_0 : SStyle) (w : World) {r : Bool} (hm : m_impl_ValidStyle n x_0 = some r)  :
    CallV Tryd.prog 33 #[.agg #[.string (bs x_0.Upper), .string (bs x_0.Color), .string (bs x_0.Lining), .string (bs x_0.Sole), .int .i64 x_0.Thick, .int .i64 x_0.Heel, .int .i64 x_0.Eyelets, .int .i64 x_0.Density, .bool x_0.Double]] w (fun v w' => v = .bool r ∧ Ext w w') := by
  unfold m_impl_ValidStyle at hm
  refine CallV.enter Tryd.func33 rfl (by kernel_rfl) Tryd.ntmps33 (env := [(0, .agg #[.string (bs x_0.Upper), .string (bs x_0.Color), .string (bs x_0.Lining), .string (bs x_0.Sole), .int .i64 x_0.Thick, .int .i64 x_0.Heel, .int .i64 x_0.Eyelets, .int .i64 x_0.Density, .bool x_0.Double])]) ⟨rfl, trivial⟩ ?_
  refine WP.seq (fun K1 hK1 => ?_)
  refine WP.region ?_
  refine WL.box 32 [.string (bs x_0.Upper), .string (bs x_0.Color), .string (bs x_0.Lining), .string (bs x_0.Sole), .int .i64 x_0.Thick, .int .i64 x_0.Heel, .int .i64 x_0.Eyelets, .int .i64 x_0.Density, .bool x_0.Double] 1 (by kernel_rfl) rfl rfl rfl rfl ?_
  intro b2 w3 hE4 hR5
  have hb7 : Ext w w3 := Ext.trans (Ext.refl w) hE4
  have hL8 : w.heap.size ≤ w3.heap.size := Nat.le_trans (Nat.le_refl _) hE4.size
  have hS9 : SH w3 w.heap.size [aBox 32 b2 [.string (bs x_0.Upper), .string (bs x_0.Color), .string (bs x_0.Lining), .string (bs x_0.Sole), .int .i64 x_0.Thick, .int .i64 x_0.Heel, .int .i64 x_0.Eyelets, .int .i64 x_0.Density, .bool x_0.Double]] := SH.add (SH.nil _ _) hE4 (Nat.le_refl _) hR5
  refine WL.runk 1 [1] [(1, .pointer (some ⟨b2, 0, none⟩))] (by kernel_rfl) ?_
  refine WL.nil ?_
  refine WQ.then_normal (hK1 _ _ _ ?_)
  refine WP.seq (fun K10 hK10 => ?_)
  obtain ⟨x147, hx148, hm⟩ := bindE hm
  refine WP.cut (fun env' w' => env' = [(2, .bool x147)] ∧ Ext w w' ∧ w.heap.size ≤ w'.heap.size ∧ SH w' w.heap.size [aBox 32 b2 [.string (bs x_0.Upper), .string (bs x_0.Color), .string (bs x_0.Lining), .string (bs x_0.Sole), .int .i64 x_0.Thick, .int .i64 x_0.Heel, .int .i64 x_0.Eyelets, .int .i64 x_0.Density, .bool x_0.Double]]) ?_ ?_
  rotate_left
  · clear hx148
    rintro _ w285 ⟨rfl, hb286, hL287, hS288⟩
    refine WQ.then_normal (hK10 _ _ _ ?_)
    refine WP.ret ?_
    obtain rfl := Option.some.inj hm
    exact WQ.ret1 _ rfl rfl ⟨rfl, hb286⟩
  have hm := hx148; clear hx148
  refine WP.region ?_
  refine WL.runk 1 [1, 3] [(1, .pointer (some ⟨b2, 0, none⟩)), (3, .pointer (some ⟨b2, 0, none⟩))] (by kernel_rfl) ?_
  refine WL.st (.string (bs x_0.Upper)) (ST.load (cell_ext (SH.boxAt (SH.front 0 hS9) 0 _ rfl)) rfl rfl Tryd.underlying9 rfl) rfl rfl rfl ?_
  obtain ⟨x149, hx150, hm⟩ := bindE hm
  refine WL.call 50 #[.string (bs x_0.Upper)] rfl rfl (by kernel_rfl) (c_50 n x_0.Upper w3 hx150 ) ?_
  rintro _ w151 ⟨rfl, hE152⟩
  refine ⟨_, rfl, ?_⟩
  have hb154 : Ext w w151 := Ext.trans hb7 hE152
  have hL155 : w.heap.size ≤ w151.heap.size := Nat.le_trans hL8 hE152.size
  have hS156 : SH w151 w.heap.size [aBox 32 b2 [.string (bs x_0.Upper), .string (bs x_0.Color), .string (bs x_0.Lining), .string (bs x_0.Sole), .int .i64 x_0.Thick, .int .i64 x_0.Heel, .int .i64 x_0.Eyelets, .int .i64 x_0.Density, .bool x_0.Double]] := SH.ext hS9 hE152
  refine WL.runk 1 [1, 6] [(1, .pointer (some ⟨b2, 0, none⟩)), (6, .bool x149)] (by kernel_rfl) ?_
  refine WL.case x149 [6] ⟨rfl, trivial⟩ (fun hc157 => ?_) (fun hc157 => ?_)
  rotate_left
  · have hm := iteF hm hc157
    refine WL.runk 50 [2] [(2, .bool false)] (by kernel_rfl) ?_
    refine WL.nil ?_
    obtain rfl := Option.some.inj hm
    exact WQ.post' ⟨rfl, hb154, hL155, hS156⟩ ⟨rfl, trivial⟩
  have hm := iteT hm hc157
  refine WL.runk 1 [1, 6, 7] [(1, .pointer (some ⟨b2, 0, none⟩)), (6, .bool true), (7, .pointer (some ⟨b2, 1, none⟩))] (by kernel_rfl) ?_
  refine WL.st (.string (bs x_0.Color)) (ST.load (cell_ext (SH.boxAt (SH.front 0 hS156) 1 _ rfl)) rfl rfl Tryd.underlying9 rfl) rfl rfl rfl ?_
  obtain ⟨x158, hx159, hm⟩ := bindE hm
  refine WL.call 50 #[.string (bs x_0.Color)] rfl rfl (by kernel_rfl) (c_50 n x_0.Color w151 hx159 ) ?_
  rintro _ w160 ⟨rfl, hE161⟩
  refine ⟨_, rfl, ?_⟩
  have hb163 : Ext w w160 := Ext.trans hb154 hE161
  have hL164 : w.heap.size ≤ w160.heap.size := Nat.le_trans hL155 hE161.size
  have hS165 : SH w160 w.heap.size [aBox 32 b2 [.string (bs x_0.Upper), .string (bs x_0.Color), .string (bs x_0.Lining), .string (bs x_0.Sole), .int .i64 x_0.Thick, .int .i64 x_0.Heel, .int .i64 x_0.Eyelets, .int .i64 x_0.Density, .bool x_0.Double]] := SH.ext hS156 hE161
  refine WL.runk 2 [1, 11] [(1, .pointer (some ⟨b2, 0, none⟩)), (11, .bool x158)] (by kernel_rfl) ?_
  refine WL.case x158 [11] ⟨rfl, trivial⟩ (fun hc166 => ?_) (fun hc166 => ?_)
  rotate_left
  · have hm := iteF hm hc166
    refine WL.runk 45 [2] [(2, .bool false)] (by kernel_rfl) ?_
    refine WL.nil ?_
    obtain rfl := Option.some.inj hm
    exact WQ.post' ⟨rfl, hb163, hL164, hS165⟩ ⟨rfl, trivial⟩
  have hm := iteT hm hc166
  refine WL.runk 1 [1, 11, 12] [(1, .pointer (some ⟨b2, 0, none⟩)), (11, .bool true), (12, .pointer (some ⟨b2, 2, none⟩))] (by kernel_rfl) ?_
  refine WL.st (.string (bs x_0.Lining)) (ST.load (cell_ext (SH.boxAt (SH.front 0 hS165) 2 _ rfl)) rfl rfl Tryd.underlying9 rfl) rfl rfl rfl ?_
  refine WL.st (.bool (x_0.Lining == [])) (ST.streq (x := x_0.Lining) (y := []) rfl rfl rfl) rfl rfl rfl ?_
  refine WL.runk 1 [1, 11, 15] [(1, .pointer (some ⟨b2, 0, none⟩)), (11, .bool true), (15, .bool (x_0.Lining == []))] (by kernel_rfl) ?_
  refine WL.case (x_0.Lining == []) [15] ⟨rfl, trivial⟩ (fun hc167 => ?_) (fun hc167 => ?_)
  · have hm := iteT hm hc167
    refine WL.runk 7 [1, 21, 22] [(1, .pointer (some ⟨b2, 0, none⟩)), (21, .bool true), (22, .pointer (some ⟨b2, 3, none⟩))] (by kernel_rfl) ?_
    refine WL.st (.string (bs x_0.Sole)) (ST.load (cell_ext (SH.boxAt (SH.front 0 hS165) 3 _ rfl)) rfl rfl Tryd.underlying9 rfl) rfl rfl rfl ?_
    obtain ⟨x168, hx169, hm⟩ := bindE hm
    refine WL.call 50 #[.string (bs x_0.Sole)] rfl rfl (by kernel_rfl) (c_50 n x_0.Sole w160 hx169 ) ?_
    rintro _ w170 ⟨rfl, hE171⟩
    refine ⟨_, rfl, ?_⟩
    have hb173 : Ext w w170 := Ext.trans hb163 hE171
    have hL174 : w.heap.size ≤ w170.heap.size := Nat.le_trans hL164 hE171.size
    have hS175 : SH w170 w.heap.size [aBox 32 b2 [.string (bs x_0.Upper), .string (bs x_0.Color), .string (bs x_0.Lining), .string (bs x_0.Sole), .int .i64 x_0.Thick, .int .i64 x_0.Heel, .int .i64 x_0.Eyelets, .int .i64 x_0.Density, .bool x_0.Double]] := SH.ext hS165 hE171
    refine WL.runk 2 [1, 26] [(1, .pointer (some ⟨b2, 0, none⟩)), (26, .bool x168)] (by kernel_rfl) ?_
    refine WL.case x168 [26] ⟨rfl, trivial⟩ (fun hc176 => ?_) (fun hc176 => ?_)
    rotate_left
    · have hm := iteF hm hc176
      refine WL.runk 30 [2] [(2, .bool false)] (by kernel_rfl) ?_
      refine WL.nil ?_
      obtain rfl := Option.some.inj hm
      exact WQ.post' ⟨rfl, hb173, hL174, hS175⟩ ⟨rfl, trivial⟩
    have hm := iteT hm hc176
    refine WL.runk 1 [1, 26, 27] [(1, .pointer (some ⟨b2, 0, none⟩)), (26, .bool true), (27, .pointer (some ⟨b2, 4, none⟩))] (by kernel_rfl) ?_
    refine WL.st (.int .i64 x_0.Thick) (ST.load (cell_ext (SH.boxAt (SH.front 0 hS175) 4 _ rfl)) rfl rfl Tryd.underlying2 rfl) rfl rfl rfl ?_
    obtain ⟨x177, hx178, hm⟩ := bindE hm
    refine WL.call 51 #[.int .i64 x_0.Thick, .int .i64 10, .int .i64 300] rfl rfl (by kernel_rfl) (c_51 n x_0.Thick 10 300 w170 hx178 ) ?_
    rintro _ w179 ⟨rfl, hE180⟩
    refine ⟨_, rfl, ?_⟩
    have hb182 : Ext w w179 := Ext.trans hb173 hE180
    have hL183 : w.heap.size ≤ w179.heap.size := Nat.le_trans hL174 hE180.size
    have hS184 : SH w179 w.heap.size [aBox 32 b2 [.string (bs x_0.Upper), .string (bs x_0.Color), .string (bs x_0.Lining), .string (bs x_0.Sole), .int .i64 x_0.Thick, .int .i64 x_0.Heel, .int .i64 x_0.Eyelets, .int .i64 x_0.Density, .bool x_0.Double]] := SH.ext hS175 hE180
    refine WL.runk 2 [1, 31] [(1, .pointer (some ⟨b2, 0, none⟩)), (31, .bool x177)] (by kernel_rfl) ?_
    refine WL.case x177 [31] ⟨rfl, trivial⟩ (fun hc185 => ?_) (fun hc185 => ?_)
    rotate_left
    · have hm := iteF hm hc185
      refine WL.runk 25 [2] [(2, .bool false)] (by kernel_rfl) ?_
      refine WL.nil ?_
      obtain rfl := Option.some.inj hm
      exact WQ.post' ⟨rfl, hb182, hL183, hS184⟩ ⟨rfl, trivial⟩
    have hm := iteT hm hc185
    refine WL.runk 1 [1, 31, 32] [(1, .pointer (some ⟨b2, 0, none⟩)), (31, .bool true), (32, .pointer (some ⟨b2, 5, none⟩))] (by kernel_rfl) ?_
    refine WL.st (.int .i64 x_0.Heel) (ST.load (cell_ext (SH.boxAt (SH.front 0 hS184) 5 _ rfl)) rfl rfl Tryd.underlying2 rfl) rfl rfl rfl ?_
    obtain ⟨x186, hx187, hm⟩ := bindE hm
    refine WL.call 51 #[.int .i64 x_0.Heel, .int .i64 0, .int .i64 1200] rfl rfl (by kernel_rfl) (c_51 n x_0.Heel 0 1200 w179 hx187 ) ?_
    rintro _ w188 ⟨rfl, hE189⟩
    refine ⟨_, rfl, ?_⟩
    have hb191 : Ext w w188 := Ext.trans hb182 hE189
    have hL192 : w.heap.size ≤ w188.heap.size := Nat.le_trans hL183 hE189.size
    have hS193 : SH w188 w.heap.size [aBox 32 b2 [.string (bs x_0.Upper), .string (bs x_0.Color), .string (bs x_0.Lining), .string (bs x_0.Sole), .int .i64 x_0.Thick, .int .i64 x_0.Heel, .int .i64 x_0.Eyelets, .int .i64 x_0.Density, .bool x_0.Double]] := SH.ext hS184 hE189
    refine WL.runk 2 [1, 36] [(1, .pointer (some ⟨b2, 0, none⟩)), (36, .bool x186)] (by kernel_rfl) ?_
    refine WL.case x186 [36] ⟨rfl, trivial⟩ (fun hc194 => ?_) (fun hc194 => ?_)
    rotate_left
    · have hm := iteF hm hc194
      refine WL.runk 20 [2] [(2, .bool false)] (by kernel_rfl) ?_
      refine WL.nil ?_
      obtain rfl := Option.some.inj hm
      exact WQ.post' ⟨rfl, hb191, hL192, hS193⟩ ⟨rfl, trivial⟩
    have hm := iteT hm hc194
    refine WL.runk 1 [1, 36, 37] [(1, .pointer (some ⟨b2, 0, none⟩)), (36, .bool true), (37, .pointer (some ⟨b2, 6, none⟩))] (by kernel_rfl) ?_
    refine WL.st (.int .i64 x_0.Eyelets) (ST.load (cell_ext (SH.boxAt (SH.front 0 hS193) 6 _ rfl)) rfl rfl Tryd.underlying2 rfl) rfl rfl rfl ?_
    obtain ⟨x195, hx196, hm⟩ := bindE hm
    refine WL.call 51 #[.int .i64 x_0.Eyelets, .int .i64 0, .int .i64 12] rfl rfl (by kernel_rfl) (c_51 n x_0.Eyelets 0 12 w188 hx196 ) ?_
    rintro _ w197 ⟨rfl, hE198⟩
    refine ⟨_, rfl, ?_⟩
    have hb200 : Ext w w197 := Ext.trans hb191 hE198
    have hL201 : w.heap.size ≤ w197.heap.size := Nat.le_trans hL192 hE198.size
    have hS202 : SH w197 w.heap.size [aBox 32 b2 [.string (bs x_0.Upper), .string (bs x_0.Color), .string (bs x_0.Lining), .string (bs x_0.Sole), .int .i64 x_0.Thick, .int .i64 x_0.Heel, .int .i64 x_0.Eyelets, .int .i64 x_0.Density, .bool x_0.Double]] := SH.ext hS193 hE198
    refine WL.runk 2 [1, 41] [(1, .pointer (some ⟨b2, 0, none⟩)), (41, .bool x195)] (by kernel_rfl) ?_
    refine WL.case x195 [41] ⟨rfl, trivial⟩ (fun hc203 => ?_) (fun hc203 => ?_)
    rotate_left
    · have hm := iteF hm hc203
      refine WL.runk 15 [2] [(2, .bool false)] (by kernel_rfl) ?_
      refine WL.nil ?_
      obtain rfl := Option.some.inj hm
      exact WQ.post' ⟨rfl, hb200, hL201, hS202⟩ ⟨rfl, trivial⟩
    have hm := iteT hm hc203
    refine WL.runk 1 [1, 41, 42] [(1, .pointer (some ⟨b2, 0, none⟩)), (41, .bool true), (42, .pointer (some ⟨b2, 7, none⟩))] (by kernel_rfl) ?_
    refine WL.st (.int .i64 x_0.Density) (ST.load (cell_ext (SH.boxAt (SH.front 0 hS202) 7 _ rfl)) rfl rfl Tryd.underlying2 rfl) rfl rfl rfl ?_
    refine WL.runk 2 [1, 41, 45] [(1, .pointer (some ⟨b2, 0, none⟩)), (41, .bool true), (45, .bool (x_0.Density == 0))] (by kernel_rfl) ?_
    refine WL.case (x_0.Density == 0) [45] ⟨rfl, trivial⟩ (fun hc204 => ?_) (fun hc204 => ?_)
    rotate_left
    · have hm := iteF hm hc204
      refine WL.runk 6 [41, 50, 51] [(41, .bool true), (50, .bool false), (51, .pointer (some ⟨b2, 7, none⟩))] (by kernel_rfl) ?_
      refine WL.st (.int .i64 x_0.Density) (ST.load (cell_ext (SH.boxAt (SH.front 0 hS202) 7 _ rfl)) rfl rfl Tryd.underlying2 rfl) rfl rfl rfl ?_
      obtain ⟨x214, hx215, hm⟩ := bindE hm
      refine WL.call 51 #[.int .i64 x_0.Density, .int .i64 10, .int .i64 80] rfl rfl (by kernel_rfl) (c_51 n x_0.Density 10 80 w197 hx215 ) ?_
      rintro _ w216 ⟨rfl, hE217⟩
      refine ⟨_, rfl, ?_⟩
      have hb219 : Ext w w216 := Ext.trans hb200 hE217
      have hL220 : w.heap.size ≤ w216.heap.size := Nat.le_trans hL201 hE217.size
      have hS221 : SH w216 w.heap.size [aBox 32 b2 [.string (bs x_0.Upper), .string (bs x_0.Color), .string (bs x_0.Lining), .string (bs x_0.Sole), .int .i64 x_0.Thick, .int .i64 x_0.Heel, .int .i64 x_0.Eyelets, .int .i64 x_0.Density, .bool x_0.Double]] := SH.ext hS202 hE217
      refine WL.runk 3 [2] [(2, .bool x214)] (by kernel_rfl) ?_
      refine WL.nil ?_
      obtain rfl := Option.some.inj hm
      exact WQ.post' ⟨rfl, hb219, hL220, hS221⟩ ⟨rfl, trivial⟩
    have hm := iteT hm hc204
    refine WL.runk 1 [1, 41, 45, 46] [(1, .pointer (some ⟨b2, 0, none⟩)), (41, .bool true), (45, .bool true), (46, .pointer (some ⟨b2, 8, none⟩))] (by kernel_rfl) ?_
    refine WL.st (.bool x_0.Double) (ST.load (cell_ext (SH.boxAt (SH.front 0 hS202) 8 _ rfl)) rfl rfl Tryd.underlying4 rfl) rfl rfl rfl ?_
    refine WL.runk 3 [1, 41, 50] [(1, .pointer (some ⟨b2, 0, none⟩)), (41, .bool true), (50, .bool (!x_0.Double))] (by kernel_rfl) ?_
    refine WL.case (!x_0.Double) [50] ⟨rfl, trivial⟩ (fun hc205 => ?_) (fun hc205 => ?_)
    · have hm := iteT hm hc205
      refine WL.runk 6 [2] [(2, .bool true)] (by kernel_rfl) ?_
      refine WL.nil ?_
      obtain rfl := Option.some.inj hm
      exact WQ.post' ⟨rfl, hb200, hL201, hS202⟩ ⟨rfl, trivial⟩
    have hm := iteF hm hc205
    refine WL.runk 1 [41, 50, 51] [(41, .bool true), (50, .bool false), (51, .pointer (some ⟨b2, 7, none⟩))] (by kernel_rfl) ?_
    refine WL.st (.int .i64 x_0.Density) (ST.load (cell_ext (SH.boxAt (SH.front 0 hS202) 7 _ rfl)) rfl rfl Tryd.underlying2 rfl) rfl rfl rfl ?_
    obtain ⟨x206, hx207, hm⟩ := bindE hm
    refine WL.call 51 #[.int .i64 x_0.Density, .int .i64 10, .int .i64 80] rfl rfl (by kernel_rfl) (c_51 n x_0.Density 10 80 w197 hx207 ) ?_
    rintro _ w208 ⟨rfl, hE209⟩
    refine ⟨_, rfl, ?_⟩
    have hb211 : Ext w w208 := Ext.trans hb200 hE209
    have hL212 : w.heap.size ≤ w208.heap.size := Nat.le_trans hL201 hE209.size
    have hS213 : SH w208 w.heap.size [aBox 32 b2 [.string (bs x_0.Upper), .string (bs x_0.Color), .string (bs x_0.Lining), .string (bs x_0.Sole), .int .i64 x_0.Thick, .int .i64 x_0.Heel, .int .i64 x_0.Eyelets, .int .i64 x_0.Density, .bool x_0.Double]] := SH.ext hS202 hE209
    refine WL.runk 3 [2] [(2, .bool x206)] (by kernel_rfl) ?_
    refine WL.nil ?_
    obtain rfl := Option.some.inj hm
    exact WQ.post' ⟨rfl, hb211, hL212, hS213⟩ ⟨rfl, trivial⟩
  have hm := iteF hm hc167
  refine WL.runk 1 [1, 11, 15, 16] [(1, .pointer (some ⟨b2, 0, none⟩)), (11, .bool true), (15, .bool false), (16, .pointer (some ⟨b2, 2, none⟩))] (by kernel_rfl) ?_
  refine WL.st (.string (bs x_0.Lining)) (ST.load (cell_ext (SH.boxAt (SH.front 0 hS165) 2 _ rfl)) rfl rfl Tryd.underlying9 rfl) rfl rfl rfl ?_
  obtain ⟨x222, hx223, hm⟩ := bindE hm
  refine WL.call 50 #[.string (bs x_0.Lining)] rfl rfl (by kernel_rfl) (c_50 n x_0.Lining w160 hx223 ) ?_
  rintro _ w224 ⟨rfl, hE225⟩
  refine ⟨_, rfl, ?_⟩
  have hb227 : Ext w w224 := Ext.trans hb163 hE225
  have hL228 : w.heap.size ≤ w224.heap.size := Nat.le_trans hL164 hE225.size
  have hS229 : SH w224 w.heap.size [aBox 32 b2 [.string (bs x_0.Upper), .string (bs x_0.Color), .string (bs x_0.Lining), .string (bs x_0.Sole), .int .i64 x_0.Thick, .int .i64 x_0.Heel, .int .i64 x_0.Eyelets, .int .i64 x_0.Density, .bool x_0.Double]] := SH.ext hS165 hE225
  refine WL.runk 3 [1, 21] [(1, .pointer (some ⟨b2, 0, none⟩)), (21, .bool x222)] (by kernel_rfl) ?_
  refine WL.case x222 [21] ⟨rfl, trivial⟩ (fun hc230 => ?_) (fun hc230 => ?_)
  rotate_left
  · have hm := iteF hm hc230
    refine WL.runk 35 [2] [(2, .bool false)] (by kernel_rfl) ?_
    refine WL.nil ?_
    obtain rfl := Option.some.inj hm
    exact WQ.post' ⟨rfl, hb227, hL228, hS229⟩ ⟨rfl, trivial⟩
  have hm := iteT hm hc230
  refine WL.runk 1 [1, 21, 22] [(1, .pointer (some ⟨b2, 0, none⟩)), (21, .bool true), (22, .pointer (some ⟨b2, 3, none⟩))] (by kernel_rfl) ?_
  refine WL.st (.string (bs x_0.Sole)) (ST.load (cell_ext (SH.boxAt (SH.front 0 hS229) 3 _ rfl)) rfl rfl Tryd.underlying9 rfl) rfl rfl rfl ?_
  obtain ⟨x231, hx232, hm⟩ := bindE hm
  refine WL.call 50 #[.string (bs x_0.Sole)] rfl rfl (by kernel_rfl) (c_50 n x_0.Sole w224 hx232 ) ?_
  rintro _ w233 ⟨rfl, hE234⟩
  refine ⟨_, rfl, ?_⟩
  have hb236 : Ext w w233 := Ext.trans hb227 hE234
  have hL237 : w.heap.size ≤ w233.heap.size := Nat.le_trans hL228 hE234.size
  have hS238 : SH w233 w.heap.size [aBox 32 b2 [.string (bs x_0.Upper), .string (bs x_0.Color), .string (bs x_0.Lining), .string (bs x_0.Sole), .int .i64 x_0.Thick, .int .i64 x_0.Heel, .int .i64 x_0.Eyelets, .int .i64 x_0.Density, .bool x_0.Double]] := SH.ext hS229 hE234
  refine WL.runk 2 [1, 26] [(1, .pointer (some ⟨b2, 0, none⟩)), (26, .bool x231)] (by kernel_rfl) ?_
  refine WL.case x231 [26] ⟨rfl, trivial⟩ (fun hc239 => ?_) (fun hc239 => ?_)
  rotate_left
  · have hm := iteF hm hc239
    refine WL.runk 30 [2] [(2, .bool false)] (by kernel_rfl) ?_
    refine WL.nil ?_
    obtain rfl := Option.some.inj hm
    exact WQ.post' ⟨rfl, hb236, hL237, hS238⟩ ⟨rfl, trivial⟩
  have hm := iteT hm hc239
  refine WL.runk 1 [1, 26, 27] [(1, .pointer (some ⟨b2, 0, none⟩)), (26, .bool true), (27, .pointer (some ⟨b2, 4, none⟩))] (by kernel_rfl) ?_
  refine WL.st (.int .i64 x_0.Thick) (ST.load (cell_ext (SH.boxAt (SH.front 0 hS238) 4 _ rfl)) rfl rfl Tryd.underlying2 rfl) rfl rfl rfl ?_
  obtain ⟨x240, hx241, hm⟩ := bindE hm
  refine WL.call 51 #[.int .i64 x_0.Thick, .int .i64 10, .int .i64 300] rfl rfl (by kernel_rfl) (c_51 n x_0.Thick 10 300 w233 hx241 ) ?_
  rintro _ w242 ⟨rfl, hE243⟩
  refine ⟨_, rfl, ?_⟩
  have hb245 : Ext w w242 := Ext.trans hb236 hE243
  have hL246 : w.heap.size ≤ w242.heap.size := Nat.le_trans hL237 hE243.size
  have hS247 : SH w242 w.heap.size [aBox 32 b2 [.string (bs x_0.Upper), .string (bs x_0.Color), .string (bs x_0.Lining), .string (bs x_0.Sole), .int .i64 x_0.Thick, .int .i64 x_0.Heel, .int .i64 x_0.Eyelets, .int .i64 x_0.Density, .bool x_0.Double]] := SH.ext hS238 hE243
  refine WL.runk 2 [1, 31] [(1, .pointer (some ⟨b2, 0, none⟩)), (31, .bool x240)] (by kernel_rfl) ?_
  refine WL.case x240 [31] ⟨rfl, trivial⟩ (fun hc248 => ?_) (fun hc248 => ?_)
  rotate_left
  · have hm := iteF hm hc248
    refine WL.runk 25 [2] [(2, .bool false)] (by kernel_rfl) ?_
    refine WL.nil ?_
    obtain rfl := Option.some.inj hm
    exact WQ.post' ⟨rfl, hb245, hL246, hS247⟩ ⟨rfl, trivial⟩
  have hm := iteT hm hc248
  refine WL.runk 1 [1, 31, 32] [(1, .pointer (some ⟨b2, 0, none⟩)), (31, .bool true), (32, .pointer (some ⟨b2, 5, none⟩))] (by kernel_rfl) ?_
  refine WL.st (.int .i64 x_0.Heel) (ST.load (cell_ext (SH.boxAt (SH.front 0 hS247) 5 _ rfl)) rfl rfl Tryd.underlying2 rfl) rfl rfl rfl ?_
  obtain ⟨x249, hx250, hm⟩ := bindE hm
  refine WL.call 51 #[.int .i64 x_0.Heel, .int .i64 0, .int .i64 1200] rfl rfl (by kernel_rfl) (c_51 n x_0.Heel 0 1200 w242 hx250 ) ?_
  rintro _ w251 ⟨rfl, hE252⟩
  refine ⟨_, rfl, ?_⟩
  have hb254 : Ext w w251 := Ext.trans hb245 hE252
  have hL255 : w.heap.size ≤ w251.heap.size := Nat.le_trans hL246 hE252.size
  have hS256 : SH w251 w.heap.size [aBox 32 b2 [.string (bs x_0.Upper), .string (bs x_0.Color), .string (bs x_0.Lining), .string (bs x_0.Sole), .int .i64 x_0.Thick, .int .i64 x_0.Heel, .int .i64 x_0.Eyelets, .int .i64 x_0.Density, .bool x_0.Double]] := SH.ext hS247 hE252
  refine WL.runk 2 [1, 36] [(1, .pointer (some ⟨b2, 0, none⟩)), (36, .bool x249)] (by kernel_rfl) ?_
  refine WL.case x249 [36] ⟨rfl, trivial⟩ (fun hc257 => ?_) (fun hc257 => ?_)
  rotate_left
  · have hm := iteF hm hc257
    refine WL.runk 20 [2] [(2, .bool false)] (by kernel_rfl) ?_
    refine WL.nil ?_
    obtain rfl := Option.some.inj hm
    exact WQ.post' ⟨rfl, hb254, hL255, hS256⟩ ⟨rfl, trivial⟩
  have hm := iteT hm hc257
  refine WL.runk 1 [1, 36, 37] [(1, .pointer (some ⟨b2, 0, none⟩)), (36, .bool true), (37, .pointer (some ⟨b2, 6, none⟩))] (by kernel_rfl) ?_
  refine WL.st (.int .i64 x_0.Eyelets) (ST.load (cell_ext (SH.boxAt (SH.front 0 hS256) 6 _ rfl)) rfl rfl Tryd.underlying2 rfl) rfl rfl rfl ?_
  obtain ⟨x258, hx259, hm⟩ := bindE hm
  refine WL.call 51 #[.int .i64 x_0.Eyelets, .int .i64 0, .int .i64 12] rfl rfl (by kernel_rfl) (c_51 n x_0.Eyelets 0 12 w251 hx259 ) ?_
  rintro _ w260 ⟨rfl, hE261⟩
  refine ⟨_, rfl, ?_⟩
  have hb263 : Ext w w260 := Ext.trans hb254 hE261
  have hL264 : w.heap.size ≤ w260.heap.size := Nat.le_trans hL255 hE261.size
  have hS265 : SH w260 w.heap.size [aBox 32 b2 [.string (bs x_0.Upper), .string (bs x_0.Color), .string (bs x_0.Lining), .string (bs x_0.Sole), .int .i64 x_0.Thick, .int .i64 x_0.Heel, .int .i64 x_0.Eyelets, .int .i64 x_0.Density, .bool x_0.Double]] := SH.ext hS256 hE261
  refine WL.runk 2 [1, 41] [(1, .pointer (some ⟨b2, 0, none⟩)), (41, .bool x258)] (by kernel_rfl) ?_
  refine WL.case x258 [41] ⟨rfl, trivial⟩ (fun hc266 => ?_) (fun hc266 => ?_)
  rotate_left
  · have hm := iteF hm hc266
    refine WL.runk 15 [2] [(2, .bool false)] (by kernel_rfl) ?_
    refine WL.nil ?_
    obtain rfl := Option.some.inj hm
    exact WQ.post' ⟨rfl, hb263, hL264, hS265⟩ ⟨rfl, trivial⟩
  have hm := iteT hm hc266
  refine WL.runk 1 [1, 41, 42] [(1, .pointer (some ⟨b2, 0, none⟩)), (41, .bool true), (42, .pointer (some ⟨b2, 7, none⟩))] (by kernel_rfl) ?_
  refine WL.st (.int .i64 x_0.Density) (ST.load (cell_ext (SH.boxAt (SH.front 0 hS265) 7 _ rfl)) rfl rfl Tryd.underlying2 rfl) rfl rfl rfl ?_
  refine WL.runk 2 [1, 41, 45] [(1, .pointer (some ⟨b2, 0, none⟩)), (41, .bool true), (45, .bool (x_0.Density == 0))] (by kernel_rfl) ?_
  refine WL.case (x_0.Density == 0) [45] ⟨rfl, trivial⟩ (fun hc267 => ?_) (fun hc267 => ?_)
  rotate_left
  · have hm := iteF hm hc267
    refine WL.runk 6 [41, 50, 51] [(41, .bool true), (50, .bool false), (51, .pointer (some ⟨b2, 7, none⟩))] (by kernel_rfl) ?_
    refine WL.st (.int .i64 x_0.Density) (ST.load (cell_ext (SH.boxAt (SH.front 0 hS265) 7 _ rfl)) rfl rfl Tryd.underlying2 rfl) rfl rfl rfl ?_
    obtain ⟨x277, hx278, hm⟩ := bindE hm
    refine WL.call 51 #[.int .i64 x_0.Density, .int .i64 10, .int .i64 80] rfl rfl (by kernel_rfl) (c_51 n x_0.Density 10 80 w260 hx278 ) ?_
    rintro _ w279 ⟨rfl, hE280⟩
    refine ⟨_, rfl, ?_⟩
    have hb282 : Ext w w279 := Ext.trans hb263 hE280
    have hL283 : w.heap.size ≤ w279.heap.size := Nat.le_trans hL264 hE280.size
    have hS284 : SH w279 w.heap.size [aBox 32 b2 [.string (bs x_0.Upper), .string (bs x_0.Color), .string (bs x_0.Lining), .string (bs x_0.Sole), .int .i64 x_0.Thick, .int .i64 x_0.Heel, .int .i64 x_0.Eyelets, .int .i64 x_0.Density, .bool x_0.Double]] := SH.ext hS265 hE280
    refine WL.runk 3 [2] [(2, .bool x277)] (by kernel_rfl) ?_
    refine WL.nil ?_
    obtain rfl := Option.some.inj hm
    exact WQ.post' ⟨rfl, hb282, hL283, hS284⟩ ⟨rfl, trivial⟩
  have hm := iteT hm hc267
  refine WL.runk 1 [1, 41, 45, 46] [(1, .pointer (some ⟨b2, 0, none⟩)), (41, .bool true), (45, .bool true), (46, .pointer (some ⟨b2, 8, none⟩))] (by kernel_rfl) ?_
  refine WL.st (.bool x_0.Double) (ST.load (cell_ext (SH.boxAt (SH.front 0 hS265) 8 _ rfl)) rfl rfl Tryd.underlying4 rfl) rfl rfl rfl ?_
  refine WL.runk 3 [1, 41, 50] [(1, .pointer (some ⟨b2, 0, none⟩)), (41, .bool true), (50, .bool (!x_0.Double))] (by kernel_rfl) ?_
  refine WL.case (!x_0.Double) [50] ⟨rfl, trivial⟩ (fun hc268 => ?_) (fun hc268 => ?_)
  · have hm := iteT hm hc268
    refine WL.runk 6 [2] [(2, .bool true)] (by kernel_rfl) ?_
    refine WL.nil ?_
    obtain rfl := Option.some.inj hm
    exact WQ.post' ⟨rfl, hb263, hL264, hS265⟩ ⟨rfl, trivial⟩
  have hm := iteF hm hc268
  refine WL.runk 1 [41, 50, 51] [(41, .bool true), (50, .bool false), (51, .pointer (some ⟨b2, 7, none⟩))] (by kernel_rfl) ?_
  refine WL.st (.int .i64 x_0.Density) (ST.load (cell_ext (SH.boxAt (SH.front 0 hS265) 7 _ rfl)) rfl rfl Tryd.underlying2 rfl) rfl rfl rfl ?_
  obtain ⟨x269, hx270, hm⟩ := bindE hm
  refine WL.call 51 #[.int .i64 x_0.Density, .int .i64 10, .int .i64 80] rfl rfl (by kernel_rfl) (c_51 n x_0.Density 10 80 w260 hx270 ) ?_
  rintro _ w271 ⟨rfl, hE272⟩
  refine ⟨_, rfl, ?_⟩
  have hb274 : Ext w w271 := Ext.trans hb263 hE272
  have hL275 : w.heap.size ≤ w271.heap.size := Nat.le_trans hL264 hE272.size
  have hS276 : SH w271 w.heap.size [aBox 32 b2 [.string (bs x_0.Upper), .string (bs x_0.Color), .string (bs x_0.Lining), .string (bs x_0.Sole), .int .i64 x_0.Thick, .int .i64 x_0.Heel, .int .i64 x_0.Eyelets, .int .i64 x_0.Density, .bool x_0.Double]] := SH.ext hS265 hE272
  refine WL.runk 3 [2] [(2, .bool x269)] (by kernel_rfl) ?_
  refine WL.nil ?_
  obtain rfl := Option.some.inj hm
  exact WQ.post' ⟨rfl, hb274, hL275, hS276⟩ ⟨rfl, trivial⟩

theorem c_35 (n : Nat)  (w : World) {r : List (List UInt8)} (hm : m_impl_StyleWords n  = some r)  :
    CallV Tryd.prog 35 #[] w (fun v w' => ∃ (ra0 : Option Addr) (rc0 : Nat), v = .slice ra0 r.length rc0 ∧ Ext w w' ∧ SH w' w.heap.size [aOwn fStr 9 ra0 rc0 r]) := by
  unfold m_impl_StyleWords at hm
  refine CallV.enter Tryd.func35 rfl (by kernel_rfl) Tryd.ntmps35 (env := []) trivial ?_
  refine WP.seq (fun K1 hK1 => ?_)
  refine WP.region ?_
  refine WL.runk 1 [] [] (by kernel_rfl) ?_
  refine WL.nil ?_
  refine WQ.then_normal (hK1 _ _ _ ?_)
  refine WP.seq (fun K2 hK2 => ?_)
  refine WP.region ?_
  refine WL.row fStr 9 ([[117, 112, 112, 101, 114], [108, 105, 110, 105, 110, 103], [115, 111, 108, 101], [104, 101, 101, 108], [101, 121, 101, 108, 101, 116, 115], [115, 116, 105, 116, 99, 104]] : List (List UInt8)) 6 #[.string (bs [117, 112, 112, 101, 114]), .string (bs [108, 105, 110, 105, 110, 103]), .string (bs [115, 111, 108, 101]), .string (bs [104, 101, 101, 108]), .string (bs [101, 121, 101, 108, 101, 116, 115]), .string (bs [115, 116, 105, 116, 99, 104])] 1 (by kernel_rfl) rfl rfl rfl rfl rfl rfl rfl ?_
  intro a3 c4 w5 hE6 hR7
  have hb9 : Ext w w5 := Ext.trans (Ext.refl w) hE6
  have hL10 : w.heap.size ≤ w5.heap.size := Nat.le_trans (Nat.le_refl _) hE6.size
  have hS11 : SH w5 w.heap.size [aOwn fStr 9 a3 c4 ([[117, 112, 112, 101, 114], [108, 105, 110, 105, 110, 103], [115, 111, 108, 101], [104, 101, 101, 108], [101, 121, 101, 108, 101, 116, 115], [115, 116, 105, 116, 99, 104]] : List (List UInt8))] := SH.add (SH.nil _ _) hE6 (Nat.le_refl _) hR7
  refine WL.runk 1 [0] [(0, .slice a3 (([[117, 112, 112, 101, 114], [108, 105, 110, 105, 110, 103], [115, 111, 108, 101], [104, 101, 101, 108], [101, 121, 101, 108, 101, 116, 115], [115, 116, 105, 116, 99, 104]] : List (List UInt8)).length) c4)] (by kernel_rfl) ?_
  refine WL.nil ?_
  refine WQ.then_normal (hK2 _ _ _ ?_)
  refine WP.ret ?_
  obtain rfl := Option.some.inj hm
  exact WQ.ret1 _ rfl rfl ⟨_, _, rfl, hb9, hS11⟩

theorem c_53 (n : Nat) (n_0 : Int) (w : World) {r : List UInt8} (hm : m_impl_Decimal n n_0 = some r) (hG : GL 2 w) :
    CallV Tryd.prog 53 #[.int .i64 n_0] w (fun v w' => v = .string (bs r) ∧ Ext w w') := by
  unfold m_impl_Decimal at hm
  refine CallV.enter Tryd.func53 rfl (by kernel_rfl) Tryd.ntmps53 (env := [(0, .int .i64 n_0)]) ⟨rfl, trivial⟩ ?_
  refine WP.seq (fun K1 hK1 => ?_)
  refine WP.region ?_
  refine WL.runk 1 [0] [(0, .int .i64 n_0)] (by kernel_rfl) ?_
  refine WL.nil ?_
  refine WQ.then_normal (hK1 _ _ _ ?_)
  refine WP.seq (fun K2 hK2 => ?_)
  refine WP.region ?_
  refine WL.runk 1 [3] [(3, .int .i64 n_0)] (by kernel_rfl) ?_
  obtain ⟨x3, hx4, hm⟩ := bindE hm
  refine WL.call 70 #[.int .i64 n_0, .int .i64 10] rfl rfl (by kernel_rfl) (c_70 n n_0 10 w hx4 (GL.below hG (Ext.refl w))) ?_
  rintro _ w5 ⟨rfl, hE6⟩
  refine ⟨_, rfl, ?_⟩
  have hb8 : Ext w w5 := Ext.trans (Ext.refl w) hE6
  have hL9 : w.heap.size ≤ w5.heap.size := Nat.le_trans (Nat.le_refl _) hE6.size
  have hS10 : SH w5 w.heap.size [] := SH.ext (SH.nil _ _) hE6
  refine WL.runk 1 [2] [(2, .string (bs x3))] (by kernel_rfl) ?_
  refine WL.nil ?_
  refine WQ.then_normal (hK2 _ _ _ ?_)
  refine WP.ret ?_
  obtain rfl := Option.some.inj hm
  exact WQ.ret1 _ rfl rfl ⟨rfl, hb8⟩

end Go.Proofs.YtkjjjbfpecmieaaDoor
