/- Each call does what its Lean function says. -/
import Derived.Test.YtkjjjbfpecmieaaDoorTi
import Derived.Test.YtkjjjbfpecmieaaDoorEq
import Derived.Test.YtkjjjbfpecmieaaDoorMo
import Derived.Test.YtkjjjbfpecmieaaDoorCh
set_option maxRecDepth 20000
set_option maxHeartbeats 40000000
namespace Go.Proofs.YtkjjjbfpecmieaaDoor
open Go Go.Gv Go.RowKit

theorem c_44 (n : Nat) (s_0 : List UInt8) (by_1 : Int) (w : World) {r : List (List UInt8)} (hm : m_spec_l01Split n s_0 by_1 = some r)  :
    CallV Tryd.prog 44 #[.string (bs s_0), .int .u8 by_1] w (fun v w' => ∃ (ra0 : Option Addr) (rc0 : Nat), v = .slice ra0 r.length rc0 ∧ Ext w w' ∧ SH w' w.heap.size [aOwn fStr 9 ra0 rc0 r]) := by
  unfold m_spec_l01Split at hm
  refine CallV.enter Tryd.func44 rfl (by kernel_rfl) Tryd.ntmps44 (env := [(0, .string (bs s_0)), (1, .int .u8 by_1)]) ⟨rfl, rfl, trivial⟩ ?_
  refine WP.seq (fun K1 hK1 => ?_)
  refine WP.region ?_
  refine WL.runk 1 [0, 1] [(0, .string (bs s_0)), (1, .int .u8 by_1)] (by kernel_rfl) ?_
  refine WL.nil ?_
  refine WQ.then_normal (hK1 _ _ _ ?_)
  refine WP.seq (fun K2 hK2 => ?_)
  refine WP.region ?_
  refine WL.row fStr 9 ([] : List (List UInt8)) 0 #[] 8 (by kernel_rfl) rfl rfl rfl rfl rfl rfl rfl ?_
  intro a3 c4 w5 hE6 hR7
  have hb9 : Ext w w5 := Ext.trans (Ext.refl w) hE6
  have hL10 : w.heap.size ≤ w5.heap.size := Nat.le_trans (Nat.le_refl _) hE6.size
  have hS11 : SH w5 w.heap.size [aOwn fStr 9 a3 c4 ([] : List (List UInt8))] := SH.add (SH.nil _ _) hE6 (Nat.le_refl _) hR7
  refine WL.runk 1 [0, 1, 5] [(0, .string (bs s_0)), (1, .int .u8 by_1), (5, .slice a3 (([] : List (List UInt8)).length) c4)] (by kernel_rfl) ?_
  refine WL.nil ?_
  refine WQ.then_normal (hK2 _ _ _ ?_)
  refine WP.seq (fun K12 hK12 => ?_)
  refine WP.region ?_
  refine WL.runk 1 [0, 1, 5, 6] [(0, .string (bs s_0)), (1, .int .u8 by_1), (5, .slice a3 (([] : List (List UInt8)).length) c4), (6, .int .i64 0)] (by kernel_rfl) ?_
  refine WL.nil ?_
  refine WQ.then_normal (hK12 _ _ _ ?_)
  refine WP.seq (fun K13 hK13 => ?_)
  refine WP.seq (fun K14 hK14 => ?_)
  refine WP.region ?_
  refine WL.runk 1 [0, 1, 5, 6, 7] [(0, .string (bs s_0)), (1, .int .u8 by_1), (5, .slice a3 (([] : List (List UInt8)).length) c4), (6, .int .i64 0), (7, .int .i64 0)] (by kernel_rfl) ?_
  refine WL.nil ?_
  refine WQ.then_normal (hK14 _ _ _ ?_)
  refine WP.block ?_
  obtain ⟨t29, ht30, hm⟩ := bindE hm
  have hmo24 := hm; clear hm
  refine WP.sub [(0, .string (bs s_0)), (1, .int .u8 by_1), (5, .slice a3 (([] : List (List UInt8)).length) c4), (6, .int .i64 0), (7, .int .i64 0)] ⟨rfl, rfl, rfl, rfl, rfl, trivial⟩ ?_
  refine WP.loop (fun n' env' w' => ∃ (st15 : List (List UInt8) × Int × Int) (a16 : Option Addr) (c17 : Nat), env' = [(0, .string (bs s_0)), (1, .int .u8 by_1), (5, .slice a16 st15.1.length c17), (6, .int .i64 st15.2.1), (7, .int .i64 st15.2.2)] ∧ Ext w w' ∧ w.heap.size ≤ w'.heap.size ∧ SH w' w.heap.size [aOwn fStr 9 a16 c17 st15.1] ∧ loopN (m_spec_l01Split_l1 n s_0 by_1) n' st15 = some t29) n ⟨(([] : List (List UInt8)), 0, 0), _, _, rfl, hb9, hL10, hS11, ht30⟩ ?_
  rintro n26 _ w19 ⟨st15, a16, c17, rfl, hb20, hL21, hS22, hl23⟩ K25 hK25
  obtain ⟨n27, s28, rfl, hm, hl23⟩ := loopN_some hl23
  unfold m_spec_l01Split_l1 at hm
  refine WP.seq (fun K31 hK31 => ?_)
  refine WP.seq (fun K32 hK32 => ?_)
  refine WP.region ?_
  refine WL.runk 4 [0, 1, 5, 6, 7, 12] [(0, .string (bs s_0)), (1, .int .u8 by_1), (5, .slice a16 st15.1.length c17), (6, .int .i64 st15.2.1), (7, .int .i64 st15.2.2), (12, .bool (decide (st15.2.2 < (s_0.length : Int))))] (by kernel_rfl) ?_
  refine WL.nil ?_
  refine WQ.then_normal (hK32 _ _ _ ?_)
  refine WP.cond (decide (st15.2.2 < (s_0.length : Int))) rfl rfl (fun hc33 => ?_) (fun hc33 => ?_)
  rotate_left
  · have hm := iteF hm hc33
    refine WP.exit ?_
    refine WQ.then_exit ?_
    refine WQ.then_exit ?_
    refine WQ.block_here ?_
    obtain rfl := Option.some.inj hm
    obtain rfl := afterN_done hl23
    have hm := hmo24
    refine WQ.then_normal (hK13 _ _ _ ?_)
    refine WP.seq (fun K90 hK90 => ?_)
    refine WP.region ?_
    refine WL.runk 3 [29, 30, 31] [(29, .slice a16 st15.1.length c17), (30, .string (bs s_0)), (31, .int .i64 st15.2.1)] (by kernel_rfl) ?_
    obtain ⟨x91, hx92, hm⟩ := bindE hm
    refine WL.st (.string (bs x91)) (ST.ssub hx92 rfl rfl Tryd.underlying9 ⟨_, rfl⟩ rfl) rfl rfl rfl ?_
    refine WL.row fStr 9 ([x91] : List (List UInt8)) 1 #[.string (bs x91)] 33 (by kernel_rfl) rfl rfl rfl rfl rfl rfl rfl ?_
    intro a93 c94 w95 hE96 hR97
    have hb99 : Ext w w95 := Ext.trans hb20 hE96
    have hL100 : w.heap.size ≤ w95.heap.size := Nat.le_trans hL21 hE96.size
    have hS101 : SH w95 w.heap.size [aOwn fStr 9 a93 c94 ([x91] : List (List UInt8)), aOwn fStr 9 a16 c17 st15.1] := SH.add hS22 hE96 hL21 hR97
    obtain ⟨x102, hx103, hm⟩ := bindE hm
    refine WL.append (F := fStr) (xs := st15.1) (ys := ([x91] : List (List UInt8))) 34 (SH.front 1 hS101) hL100 (SH.rd (SH.front 0 hS101)) hx103 rfl rfl rfl Tryd.underlying22 (info9).1 (info9).2.2.1 (info9).2.1 (info9).2.2.2 rfl rfl rfl rfl rfl ?_
    intro a104 c105 w106 hB107 hS108
    have hb109 : Ext w w106 := Below.trans hb99 hB107
    have hL110 : w.heap.size ≤ w106.heap.size := Nat.le_trans hL100 hB107.size
    refine WL.runk 1 [4] [(4, .slice a104 x102.length c105)] (by kernel_rfl) ?_
    refine WL.nil ?_
    refine WQ.then_normal (hK90 _ _ _ ?_)
    refine WP.ret ?_
    obtain rfl := Option.some.inj hm
    exact WQ.ret1 _ rfl rfl ⟨_, _, rfl, hb109, (SH.take 1 hS108)⟩
  have hm := iteT hm hc33
  refine WP.skip ?_
  refine WQ.then_normal (hK31 _ _ _ ?_)
  refine WP.seq (fun K34 hK34 => ?_)
  refine WP.block ?_
  refine WP.seq (fun K35 hK35 => ?_)
  refine WP.region ?_
  refine WL.runk 2 [0, 1, 5, 6, 7, 15, 16] [(0, .string (bs s_0)), (1, .int .u8 by_1), (5, .slice a16 st15.1.length c17), (6, .int .i64 st15.2.1), (7, .int .i64 st15.2.2), (15, .string (bs s_0)), (16, .int .i64 st15.2.2)] (by kernel_rfl) ?_
  obtain ⟨x36, hx37, hm⟩ := bindE hm
  refine WL.st (.int .u8 (x36.toNat : Int)) (ST.sindex hx37 rfl rfl rfl Tryd.underlying9) rfl rfl rfl ?_
  refine WL.runk 2 [0, 1, 5, 6, 7, 19] [(0, .string (bs s_0)), (1, .int .u8 by_1), (5, .slice a16 st15.1.length c17), (6, .int .i64 st15.2.1), (7, .int .i64 st15.2.2), (19, .bool ((x36.toNat : Int) == by_1))] (by kernel_rfl) ?_
  refine WL.nil ?_
  refine WQ.then_normal (hK35 _ _ _ ?_)
  obtain ⟨x60, hx61, hm⟩ := bindE hm
  refine WP.cut (fun env' w' => ∃ (a62 : Option Addr) (c63 : Nat), env' = [(0, .string (bs s_0)), (1, .int .u8 by_1), (5, .slice a62 x60.1.length c63), (6, .int .i64 x60.2), (7, .int .i64 st15.2.2)] ∧ Ext w w' ∧ w.heap.size ≤ w'.heap.size ∧ SH w' w.heap.size [aOwn fStr 9 a62 c63 x60.1]) ?_ ?_
  rotate_left
  · clear hx61
    rintro _ w86 ⟨a62, c63, rfl, hb87, hL88, hS89⟩
    refine WQ.block_normal ?_
    refine WQ.then_normal (hK34 _ _ _ ?_)
    refine WP.region ?_
    refine WL.runk 3 [0, 1, 5, 6, 7] [(0, .string (bs s_0)), (1, .int .u8 by_1), (5, .slice a62 x60.1.length c63), (6, .int .i64 x60.2), (7, .int .i64 (wI64 (st15.2.2 + 1)))] (by kernel_rfl) ?_
    refine WL.nil ?_
    obtain rfl := Option.some.inj hm
    exact WQ.round hK25 ⟨(x60.1, x60.2, (wI64 (st15.2.2 + 1))), _, _, rfl, hb87, hL88, hS89, hl23⟩ (Nat.lt_succ_self _) ⟨rfl, rfl, rfl, rfl, rfl, trivial⟩
  have hm := hx61; clear hx61
  refine WP.cond ((x36.toNat : Int) == by_1) rfl rfl (fun hc38 => ?_) (fun hc38 => ?_)
  rotate_left
  · have hm := iteF hm hc38
    refine WP.skip ?_
    obtain rfl := Option.some.inj hm
    exact WQ.post' ⟨_, _, rfl, hb20, hL21, hS22⟩ ⟨rfl, rfl, rfl, rfl, rfl, trivial⟩
  have hm := iteT hm hc38
  refine WP.seq (fun K65 hK65 => ?_)
  refine WP.region ?_
  refine WL.runk 4 [0, 1, 7, 20, 21, 22, 23] [(0, .string (bs s_0)), (1, .int .u8 by_1), (7, .int .i64 st15.2.2), (20, .slice a16 st15.1.length c17), (21, .string (bs s_0)), (22, .int .i64 st15.2.1), (23, .int .i64 st15.2.2)] (by kernel_rfl) ?_
  obtain ⟨x66, hx67, hm⟩ := bindE hm
  refine WL.st (.string (bs x66)) (ST.ssub hx67 rfl rfl Tryd.underlying9 ⟨_, rfl⟩ ⟨_, rfl⟩) rfl rfl rfl ?_
  refine WL.row fStr 9 ([x66] : List (List UInt8)) 1 #[.string (bs x66)] 25 (by kernel_rfl) rfl rfl rfl rfl rfl rfl rfl ?_
  intro a68 c69 w70 hE71 hR72
  have hb74 : Ext w w70 := Ext.trans hb20 hE71
  have hL75 : w.heap.size ≤ w70.heap.size := Nat.le_trans hL21 hE71.size
  have hS76 : SH w70 w.heap.size [aOwn fStr 9 a68 c69 ([x66] : List (List UInt8)), aOwn fStr 9 a16 c17 st15.1] := SH.add hS22 hE71 hL21 hR72
  obtain ⟨x77, hx78, hm⟩ := bindE hm
  refine WL.append (F := fStr) (xs := st15.1) (ys := ([x66] : List (List UInt8))) 26 (SH.front 1 hS76) hL75 (SH.rd (SH.front 0 hS76)) hx78 rfl rfl rfl Tryd.underlying22 (info9).1 (info9).2.2.1 (info9).2.1 (info9).2.2.2 rfl rfl rfl rfl rfl ?_
  intro a79 c80 w81 hB82 hS83
  have hb84 : Ext w w81 := Below.trans hb74 hB82
  have hL85 : w.heap.size ≤ w81.heap.size := Nat.le_trans hL75 hB82.size
  refine WL.runk 1 [0, 1, 5, 7] [(0, .string (bs s_0)), (1, .int .u8 by_1), (7, .int .i64 st15.2.2), (5, .slice a79 x77.length c80)] (by kernel_rfl) ?_
  refine WL.nil ?_
  refine WQ.then_normal (hK65 _ _ _ ?_)
  refine WP.region ?_
  refine WL.runk 3 [0, 1, 5, 6, 7] [(0, .string (bs s_0)), (1, .int .u8 by_1), (7, .int .i64 st15.2.2), (5, .slice a79 x77.length c80), (6, .int .i64 (wI64 (st15.2.2 + 1)))] (by kernel_rfl) ?_
  refine WL.nil ?_
  obtain rfl := Option.some.inj hm
  exact WQ.post' ⟨_, _, rfl, hb84, hL85, (SH.take 1 hS83)⟩ ⟨rfl, rfl, rfl, rfl, rfl, trivial⟩

theorem c_27 (n : Nat) (s_0 : List UInt8) (w : World) {r : List (List UInt8) × Bool} (hm : m_spec_l24Read n s_0 = some r)  :
    CallV Tryd.prog 27 #[.string (bs s_0)] w (fun v w' => ∃ (ra0 : Option Addr) (rc0 : Nat), v = .tuple #[.slice ra0 r.1.length rc0, .bool r.2] ∧ Ext w w' ∧ SH w' w.heap.size [aOwn fStr 9 ra0 rc0 r.1]) := by
  unfold m_spec_l24Read at hm
  refine CallV.enter Tryd.func27 rfl (by kernel_rfl) Tryd.ntmps27 (env := [(0, .string (bs s_0))]) ⟨rfl, trivial⟩ ?_
  refine WP.seq (fun K1 hK1 => ?_)
  refine WP.region ?_
  refine WL.runk 2 [0] [(0, .string (bs s_0))] (by kernel_rfl) ?_
  refine WL.nil ?_
  refine WQ.then_normal (hK1 _ _ _ ?_)
  refine WP.seq (fun K2 hK2 => ?_)
  refine WP.seq (fun K3 hK3 => ?_)
  refine WP.region ?_
  refine WL.runk 3 [0, 7] [(0, .string (bs s_0)), (7, .bool (decide ((s_0.length : Int) > 300)))] (by kernel_rfl) ?_
  refine WL.nil ?_
  refine WQ.then_normal (hK3 _ _ _ ?_)
  refine WP.cond (decide ((s_0.length : Int) > 300)) rfl rfl (fun hc4 => ?_) (fun hc4 => ?_)
  · have hm := iteT hm hc4
    refine WP.seq (fun K5 hK5 => ?_)
    refine WP.region ?_
    refine WL.runk 2 [2, 3] [(2, .slice none 0 0), (3, .bool false)] (by kernel_rfl) ?_
    refine WL.nil ?_
    refine WQ.then_normal (hK5 _ _ _ ?_)
    refine WP.ret ?_
    refine WQ.then_ret ?_
    obtain rfl := Option.some.inj hm
    have hS7 : SH w w.heap.size [aOwn fStr 9 none 0 ([] : List (List UInt8))] := SH.nilOwn (SH.nil _ _)
    exact WQ.ret2 _ _ rfl rfl rfl ⟨_, _, rfl, (Ext.refl w), hS7⟩
  have hm := iteF hm hc4
  refine WP.skip ?_
  refine WQ.then_normal (hK2 _ _ _ ?_)
  refine WP.seq (fun K8 hK8 => ?_)
  refine WP.region ?_
  refine WL.runk 1 [8] [(8, .string (bs s_0))] (by kernel_rfl) ?_
  obtain ⟨x9, hx10, hm⟩ := bindE hm
  refine WL.call 44 #[.string (bs s_0), .int .u8 59] rfl rfl (by kernel_rfl) (c_44 n s_0 59 w hx10 ) ?_
  rintro _ w14 ⟨a11, c12, rfl, hE15, hR16⟩
  refine ⟨_, rfl, ?_⟩
  have hb17 : Ext w w14 := Ext.trans (Ext.refl w) hE15
  have hL18 : w.heap.size ≤ w14.heap.size := Nat.le_trans (Nat.le_refl _) hE15.size
  have hS19 : SH w14 w.heap.size [aOwn fStr 9 a11 c12 x9] := SH.add (SH.nil _ _) hE15 (Nat.le_refl _) hR16
  refine WL.runk 1 [4] [(4, .slice a11 x9.length c12)] (by kernel_rfl) ?_
  refine WL.nil ?_
  refine WQ.then_normal (hK8 _ _ _ ?_)
  refine WP.seq (fun K20 hK20 => ?_)
  refine WP.region ?_
  refine WL.runk 6 [2, 3] [(2, .slice a11 x9.length c12), (3, .bool (decide ((x9.length : Int) ≤ 12)))] (by kernel_rfl) ?_
  refine WL.nil ?_
  refine WQ.then_normal (hK20 _ _ _ ?_)
  refine WP.ret ?_
  obtain rfl := Option.some.inj hm
  exact WQ.ret2 _ _ rfl rfl rfl ⟨_, _, rfl, hb17, hS19⟩

theorem c_28 (n : Nat) (s_0 : List UInt8) (w : World) {r : List (List UInt8) × Bool} (hm : m_impl_clausesOf n s_0 = some r) (hG : GL 1 w) :
    CallV Tryd.prog 28 #[.string (bs s_0)] w (fun v w' => ∃ (ra0 : Option Addr) (rc0 : Nat), v = .tuple #[.slice ra0 r.1.length rc0, .bool r.2] ∧ Ext w w' ∧ SH w' w.heap.size [aOwn fStr 9 ra0 rc0 r.1]) := by
  unfold m_impl_clausesOf at hm
  refine CallV.enter Tryd.func28 rfl (by kernel_rfl) Tryd.ntmps28 (env := [(0, .string (bs s_0))]) ⟨rfl, trivial⟩ ?_
  refine WP.seq (fun K1 hK1 => ?_)
  refine WP.region ?_
  refine WL.runk 2 [0] [(0, .string (bs s_0))] (by kernel_rfl) ?_
  refine WL.nil ?_
  refine WQ.then_normal (hK1 _ _ _ ?_)
  refine WP.seq (fun K2 hK2 => ?_)
  refine WP.seq (fun K3 hK3 => ?_)
  refine WP.region ?_
  refine WL.runk 3 [0, 7] [(0, .string (bs s_0)), (7, .bool (decide ((s_0.length : Int) > 300)))] (by kernel_rfl) ?_
  refine WL.nil ?_
  refine WQ.then_normal (hK3 _ _ _ ?_)
  refine WP.cond (decide ((s_0.length : Int) > 300)) rfl rfl (fun hc4 => ?_) (fun hc4 => ?_)
  · have hm := iteT hm hc4
    refine WP.seq (fun K5 hK5 => ?_)
    refine WP.region ?_
    refine WL.runk 2 [2, 3] [(2, .slice none 0 0), (3, .bool false)] (by kernel_rfl) ?_
    refine WL.nil ?_
    refine WQ.then_normal (hK5 _ _ _ ?_)
    refine WP.ret ?_
    refine WQ.then_ret ?_
    obtain rfl := Option.some.inj hm
    have hS7 : SH w w.heap.size [aOwn fStr 9 none 0 ([] : List (List UInt8))] := SH.nilOwn (SH.nil _ _)
    exact WQ.ret2 _ _ rfl rfl rfl ⟨_, _, rfl, (Ext.refl w), hS7⟩
  have hm := iteF hm hc4
  refine WP.skip ?_
  refine WQ.then_normal (hK2 _ _ _ ?_)
  refine WP.seq (fun K8 hK8 => ?_)
  refine WP.region ?_
  refine WL.runk 1 [8] [(8, .string (bs s_0))] (by kernel_rfl) ?_
  obtain ⟨x9, hx10, hm⟩ := bindE hm
  refine WL.call 45 #[.string (bs s_0), .string (bs [59])] rfl rfl (by kernel_rfl) (c_45 n s_0 [59] w hx10 (GL.below hG (Ext.refl w))) ?_
  rintro _ w14 ⟨a11, c12, rfl, hE15, hR16⟩
  refine ⟨_, rfl, ?_⟩
  have hb17 : Ext w w14 := Ext.trans (Ext.refl w) hE15
  have hL18 : w.heap.size ≤ w14.heap.size := Nat.le_trans (Nat.le_refl _) hE15.size
  have hS19 : SH w14 w.heap.size [aOwn fStr 9 a11 c12 x9] := SH.add (SH.nil _ _) hE15 (Nat.le_refl _) hR16
  refine WL.runk 1 [4] [(4, .slice a11 x9.length c12)] (by kernel_rfl) ?_
  refine WL.nil ?_
  refine WQ.then_normal (hK8 _ _ _ ?_)
  refine WP.seq (fun K20 hK20 => ?_)
  refine WP.region ?_
  refine WL.runk 6 [2, 3] [(2, .slice a11 x9.length c12), (3, .bool (decide ((x9.length : Int) ≤ 12)))] (by kernel_rfl) ?_
  refine WL.nil ?_
  refine WQ.then_normal (hK20 _ _ _ ?_)
  refine WP.ret ?_
  obtain rfl := Option.some.inj hm
  exact WQ.ret2 _ _ rfl rfl rfl ⟨_, _, rfl, hb17, hS19⟩

theorem c_49 (n : Nat) (n_0 : Int) (w : World) {r : List UInt8} (hm : m_spec_l01Dec n n_0 = some r)  :
    CallV Tryd.prog 49 #[.int .i64 n_0] w (fun v w' => v = .string (bs r) ∧ Ext w w') := by
  unfold m_spec_l01Dec at hm
  refine CallV.enter Tryd.func49 rfl (by kernel_rfl) Tryd.ntmps49 (env := [(0, .int .i64 n_0)]) ⟨rfl, trivial⟩ ?_
  refine WP.seq (fun K1 hK1 => ?_)
  refine WP.region ?_
  refine WL.runk 1 [0] [(0, .int .i64 n_0)] (by kernel_rfl) ?_
  refine WL.nil ?_
  refine WQ.then_normal (hK1 _ _ _ ?_)
  refine WP.seq (fun K2 hK2 => ?_)
  refine WP.region ?_
  refine WL.row fU8 5 ([] : List Int) 0 #[] 6 (by kernel_rfl) rfl rfl rfl rfl rfl rfl rfl ?_
  intro a3 c4 w5 hE6 hR7
  have hb9 : Ext w w5 := Ext.trans (Ext.refl w) hE6
  have hL10 : w.heap.size ≤ w5.heap.size := Nat.le_trans (Nat.le_refl _) hE6.size
  have hS11 : SH w5 w.heap.size [aOwn fU8 5 a3 c4 ([] : List Int)] := SH.add (SH.nil _ _) hE6 (Nat.le_refl _) hR7
  refine WL.runk 1 [0, 3] [(0, .int .i64 n_0), (3, .slice a3 (([] : List Int).length) c4)] (by kernel_rfl) ?_
  refine WL.nil ?_
  refine WQ.then_normal (hK2 _ _ _ ?_)
  refine WP.seq (fun K12 hK12 => ?_)
  refine WP.seq (fun K13 hK13 => ?_)
  refine WP.region ?_
  refine WL.runk 2 [0, 3, 4] [(0, .int .i64 n_0), (3, .slice a3 (([] : List Int).length) c4), (4, .int .i64 n_0)] (by kernel_rfl) ?_
  refine WL.nil ?_
  refine WQ.then_normal (hK13 _ _ _ ?_)
  refine WP.block ?_
  obtain ⟨t28, ht29, hm⟩ := bindE hm
  have hmo23 := hm; clear hm
  refine WP.sub [(0, .int .i64 n_0), (3, .slice a3 (([] : List Int).length) c4), (4, .int .i64 n_0)] ⟨rfl, rfl, rfl, trivial⟩ ?_
  refine WP.loop (fun n' env' w' => ∃ (st14 : List Int × Int) (a15 : Option Addr) (c16 : Nat), env' = [(0, .int .i64 n_0), (3, .slice a15 st14.1.length c16), (4, .int .i64 st14.2)] ∧ Ext w w' ∧ w.heap.size ≤ w'.heap.size ∧ SH w' w.heap.size [aOwn fU8 5 a15 c16 st14.1] ∧ loopN (m_spec_l01Dec_l1 n) n' st14 = some t28) n ⟨(([] : List Int), n_0), _, _, rfl, hb9, hL10, hS11, ht29⟩ ?_
  rintro n25 _ w18 ⟨st14, a15, c16, rfl, hb19, hL20, hS21, hl22⟩ K24 hK24
  obtain ⟨n26, s27, rfl, hm, hl22⟩ := loopN_some hl22
  unfold m_spec_l01Dec_l1 at hm
  refine WP.seq (fun K30 hK30 => ?_)
  refine WP.seq (fun K31 hK31 => ?_)
  refine WP.region ?_
  refine WL.runk 2 [0, 3, 4, 9] [(0, .int .i64 n_0), (3, .slice a15 st14.1.length c16), (4, .int .i64 st14.2), (9, .bool (st14.2 != 0))] (by kernel_rfl) ?_
  refine WL.nil ?_
  refine WQ.then_normal (hK31 _ _ _ ?_)
  refine WP.cond (st14.2 != 0) rfl rfl (fun hc32 => ?_) (fun hc32 => ?_)
  · have hm := iteT hm hc32
    refine WP.skip ?_
    refine WQ.then_normal (hK30 _ _ _ ?_)
    refine WP.seq (fun K33 hK33 => ?_)
    refine WP.block ?_
    refine WP.seq (fun K34 hK34 => ?_)
    refine WP.region ?_
    refine WL.runk 3 [0, 3, 4, 5] [(0, .int .i64 n_0), (3, .slice a15 st14.1.length c16), (4, .int .i64 st14.2), (5, .int .i64 (Int.tmod st14.2 10))] (by kernel_rfl) ?_
    refine WL.nil ?_
    refine WQ.then_normal (hK34 _ _ _ ?_)
    refine WP.seq (fun K35 hK35 => ?_)
    refine WP.seq (fun K36 hK36 => ?_)
    refine WP.region ?_
    refine WL.runk 2 [0, 3, 4, 5, 15] [(0, .int .i64 n_0), (3, .slice a15 st14.1.length c16), (4, .int .i64 st14.2), (5, .int .i64 (Int.tmod st14.2 10)), (15, .bool (decide ((Int.tmod st14.2 10) < 0)))] (by kernel_rfl) ?_
    refine WL.nil ?_
    refine WQ.then_normal (hK36 _ _ _ ?_)
    obtain ⟨x38, hx39, hm⟩ := bindE hm
    refine WP.cut (fun env' w' => env' = [(0, .int .i64 n_0), (3, .slice a15 st14.1.length c16), (4, .int .i64 st14.2), (5, .int .i64 x38)] ∧ Ext w w' ∧ w.heap.size ≤ w'.heap.size ∧ SH w' w.heap.size [aOwn fU8 5 a15 c16 st14.1]) ?_ ?_
    · have hm := hx39; clear hx39
      refine WP.cond (decide ((Int.tmod st14.2 10) < 0)) rfl rfl (fun hc37 => ?_) (fun hc37 => ?_)
      rotate_left
      · have hm := iteF hm hc37
        refine WP.skip ?_
        obtain rfl := Option.some.inj hm
        exact WQ.post' ⟨rfl, hb19, hL20, hS21⟩ ⟨rfl, rfl, rfl, rfl, trivial⟩
      have hm := iteT hm hc37
      refine WP.region ?_
      refine WL.runk 3 [0, 3, 4, 5] [(0, .int .i64 n_0), (3, .slice a15 st14.1.length c16), (4, .int .i64 st14.2), (5, .int .i64 (wI64 (0 - (Int.tmod st14.2 10))))] (by kernel_rfl) ?_
      refine WL.nil ?_
      obtain rfl := Option.some.inj hm
      exact WQ.post' ⟨rfl, hb19, hL20, hS21⟩ ⟨rfl, rfl, rfl, rfl, trivial⟩
    clear hx39
    rintro _ w40 ⟨rfl, hb41, hL42, hS43⟩
    refine WQ.then_normal (hK35 _ _ _ ?_)
    refine WP.region ?_
    refine WL.runk 3 [0, 3, 4, 20] [(0, .int .i64 n_0), (3, .slice a15 st14.1.length c16), (4, .int .i64 st14.2), (20, .int .u8 (IntKind.u8.wrap (wI64 (48 + x38))))] (by kernel_rfl) ?_
    refine WL.row fU8 5 ([(IntKind.u8.wrap (wI64 (48 + x38)))] : List Int) 1 #[.int .u8 (IntKind.u8.wrap (wI64 (48 + x38)))] 21 (by kernel_rfl) rfl rfl rfl rfl rfl rfl rfl ?_
    intro a44 c45 w46 hE47 hR48
    have hb50 : Ext w w46 := Ext.trans hb41 hE47
    have hL51 : w.heap.size ≤ w46.heap.size := Nat.le_trans hL42 hE47.size
    have hS52 : SH w46 w.heap.size [aOwn fU8 5 a44 c45 ([(IntKind.u8.wrap (wI64 (48 + x38)))] : List Int), aOwn fU8 5 a15 c16 st14.1] := SH.add hS43 hE47 hL42 hR48
    refine WL.runk 1 [0, 4, 21, 22] [(0, .int .i64 n_0), (4, .int .i64 st14.2), (21, .slice a44 (([(IntKind.u8.wrap (wI64 (48 + x38)))] : List Int).length) c45), (22, .slice a15 st14.1.length c16)] (by kernel_rfl) ?_
    obtain ⟨x53, hx54, hm⟩ := bindE hm
    refine WL.append (F := fU8) (xs := ([(IntKind.u8.wrap (wI64 (48 + x38)))] : List Int)) (ys := st14.1) 23 (SH.front 0 hS52) hL51 (SH.rd (SH.front 1 hS52)) hx54 rfl rfl rfl Tryd.underlying66 (info5).1 (info5).2.2.1 (info5).2.1 (info5).2.2.2 rfl rfl rfl rfl rfl ?_
    intro a55 c56 w57 hB58 hS59
    have hb60 : Ext w w57 := Below.trans hb50 hB58
    have hL61 : w.heap.size ≤ w57.heap.size := Nat.le_trans hL51 hB58.size
    refine WL.runk 1 [0, 3, 4] [(0, .int .i64 n_0), (4, .int .i64 st14.2), (3, .slice a55 x53.length c56)] (by kernel_rfl) ?_
    refine WL.nil ?_
    refine WQ.block_normal ?_
    refine WQ.then_normal (hK33 _ _ _ ?_)
    refine WP.region ?_
    refine WL.runk 3 [0, 3, 4] [(0, .int .i64 n_0), (4, .int .i64 (wI64 (Int.tdiv st14.2 10))), (3, .slice a55 x53.length c56)] (by kernel_rfl) ?_
    refine WL.nil ?_
    obtain rfl := Option.some.inj hm
    exact WQ.round hK24 ⟨(x53, (wI64 (Int.tdiv st14.2 10))), _, _, rfl, hb60, hL61, (SH.take 1 hS59), hl22⟩ (Nat.lt_succ_self _) ⟨rfl, rfl, rfl, trivial⟩
  have hm := iteF hm hc32
  refine WP.exit ?_
  refine WQ.then_exit ?_
  refine WQ.then_exit ?_
  refine WQ.block_here ?_
  obtain rfl := Option.some.inj hm
  obtain rfl := afterN_done hl22
  have hm := hmo23
  refine WQ.then_normal (hK12 _ _ _ ?_)
  refine WP.seq (fun K62 hK62 => ?_)
  refine WP.seq (fun K63 hK63 => ?_)
  refine WP.region ?_
  refine WL.runk 3 [0, 3, 26] [(0, .int .i64 n_0), (3, .slice a15 st14.1.length c16), (26, .bool ((st14.1.length : Int) == 0))] (by kernel_rfl) ?_
  refine WL.nil ?_
  refine WQ.then_normal (hK63 _ _ _ ?_)
  refine WP.cond ((st14.1.length : Int) == 0) rfl rfl (fun hc64 => ?_) (fun hc64 => ?_)
  · have hm := iteT hm hc64
    refine WP.seq (fun K65 hK65 => ?_)
    refine WP.region ?_
    refine WL.runk 1 [2] [(2, .string (bs [48]))] (by kernel_rfl) ?_
    refine WL.nil ?_
    refine WQ.then_normal (hK65 _ _ _ ?_)
    refine WP.ret ?_
    refine WQ.then_ret ?_
    obtain rfl := Option.some.inj hm
    exact WQ.ret1 _ rfl rfl ⟨rfl, hb19⟩
  have hm := iteF hm hc64
  refine WP.skip ?_
  refine WQ.then_normal (hK62 _ _ _ ?_)
  refine WP.seq (fun K66 hK66 => ?_)
  refine WP.seq (fun K67 hK67 => ?_)
  refine WP.region ?_
  refine WL.runk 2 [3, 28] [(3, .slice a15 st14.1.length c16), (28, .bool (decide (n_0 < 0)))] (by kernel_rfl) ?_
  refine WL.nil ?_
  refine WQ.then_normal (hK67 _ _ _ ?_)
  refine WP.cond (decide (n_0 < 0)) rfl rfl (fun hc68 => ?_) (fun hc68 => ?_)
  rotate_left
  · have hm := iteF hm hc68
    refine WP.skip ?_
    refine WQ.then_normal (hK66 _ _ _ ?_)
    refine WP.seq (fun K72 hK72 => ?_)
    refine WP.region ?_
    refine WL.runk 1 [32] [(32, .slice a15 st14.1.length c16)] (by kernel_rfl) ?_
    refine WL.st (.string (bs (ofBytes st14.1))) (ST.b2s (SH.rd (SH.front 0 hS21)) (SH.le (SH.front 0 hS21)).2 rfl rfl Tryd.underlying66 Tryd.underlying9 Tryd.underlying5) rfl rfl rfl ?_
    refine WL.runk 1 [2] [(2, .string (bs (ofBytes st14.1)))] (by kernel_rfl) ?_
    refine WL.nil ?_
    refine WQ.then_normal (hK72 _ _ _ ?_)
    refine WP.ret ?_
    obtain rfl := Option.some.inj hm
    exact WQ.ret1 _ rfl rfl ⟨rfl, hb19⟩
  have hm := iteT hm hc68
  refine WP.seq (fun K69 hK69 => ?_)
  refine WP.region ?_
  refine WL.runk 1 [29] [(29, .slice a15 st14.1.length c16)] (by kernel_rfl) ?_
  refine WL.st (.string (bs (ofBytes st14.1))) (ST.b2s (SH.rd (SH.front 0 hS21)) (SH.le (SH.front 0 hS21)).2 rfl rfl Tryd.underlying66 Tryd.underlying9 Tryd.underlying5) rfl rfl rfl ?_
  obtain ⟨x70, hx71, hm⟩ := bindE hm
  refine WL.st (.string (bs x70)) (ST.cat hx71 rfl rfl rfl) rfl rfl rfl ?_
  refine WL.runk 1 [2] [(2, .string (bs x70))] (by kernel_rfl) ?_
  refine WL.nil ?_
  refine WQ.then_normal (hK69 _ _ _ ?_)
  refine WP.ret ?_
  refine WQ.then_ret ?_
  obtain rfl := Option.some.inj hm
  exact WQ.ret1 _ rfl rfl ⟨rfl, hb19⟩

theorem c_68 (n : Nat) (c_0 : Int) (w : World) {r : Bool} (hm : m_spec_l01Small n c_0 = some r)  :
    CallV Tryd.prog 68 #[.int .u8 c_0] w (fun v w' => v = .bool r ∧ Ext w w') := by
  unfold m_spec_l01Small at hm
  refine CallV.enter Tryd.func68 rfl (by kernel_rfl) Tryd.ntmps68 (env := [(0, .int .u8 c_0)]) ⟨rfl, trivial⟩ ?_
  refine WP.seq (fun K1 hK1 => ?_)
  refine WP.region ?_
  refine WL.runk 1 [0] [(0, .int .u8 c_0)] (by kernel_rfl) ?_
  refine WL.nil ?_
  refine WQ.then_normal (hK1 _ _ _ ?_)
  refine WP.seq (fun K2 hK2 => ?_)
  obtain ⟨x4, hx5, hm⟩ := bindE hm
  refine WP.cut (fun env' w' => env' = [(2, .bool x4)] ∧ Ext w w' ∧ w.heap.size ≤ w'.heap.size ∧ SH w' w.heap.size []) ?_ ?_
  rotate_left
  · clear hx5
    rintro _ w7 ⟨rfl, hb8, hL9, hS10⟩
    refine WQ.then_normal (hK2 _ _ _ ?_)
    refine WP.ret ?_
    obtain rfl := Option.some.inj hm
    exact WQ.ret1 _ rfl rfl ⟨rfl, hb8⟩
  have hm := hx5; clear hx5
  refine WP.region ?_
  refine WL.runk 3 [0, 5] [(0, .int .u8 c_0), (5, .bool (decide (c_0 ≥ 97)))] (by kernel_rfl) ?_
  refine WL.case (decide (c_0 ≥ 97)) [5] ⟨rfl, trivial⟩ (fun hc6 => ?_) (fun hc6 => ?_)
  · have hm := iteT hm hc6
    refine WL.runk 4 [2] [(2, .bool (decide (c_0 ≤ 122)))] (by kernel_rfl) ?_
    refine WL.nil ?_
    obtain rfl := Option.some.inj hm
    exact WQ.post' ⟨rfl, (Ext.refl w), (Nat.le_refl _), (SH.nil _ _)⟩ ⟨rfl, trivial⟩
  have hm := iteF hm hc6
  refine WL.runk 4 [2] [(2, .bool false)] (by kernel_rfl) ?_
  refine WL.nil ?_
  obtain rfl := Option.some.inj hm
  exact WQ.post' ⟨rfl, (Ext.refl w), (Nat.le_refl _), (SH.nil _ _)⟩ ⟨rfl, trivial⟩

theorem c_69 (n : Nat) (c_0 : Int) (w : World) {r : Bool} (hm : m_spec_l01Digit n c_0 = some r)  :
    CallV Tryd.prog 69 #[.int .u8 c_0] w (fun v w' => v = .bool r ∧ Ext w w') := by
  unfold m_spec_l01Digit at hm
  refine CallV.enter Tryd.func69 rfl (by kernel_rfl) Tryd.ntmps69 (env := [(0, .int .u8 c_0)]) ⟨rfl, trivial⟩ ?_
  refine WP.seq (fun K1 hK1 => ?_)
  refine WP.region ?_
  refine WL.runk 1 [0] [(0, .int .u8 c_0)] (by kernel_rfl) ?_
  refine WL.nil ?_
  refine WQ.then_normal (hK1 _ _ _ ?_)
  refine WP.seq (fun K2 hK2 => ?_)
  obtain ⟨x4, hx5, hm⟩ := bindE hm
  refine WP.cut (fun env' w' => env' = [(2, .bool x4)] ∧ Ext w w' ∧ w.heap.size ≤ w'.heap.size ∧ SH w' w.heap.size []) ?_ ?_
  rotate_left
  · clear hx5
    rintro _ w7 ⟨rfl, hb8, hL9, hS10⟩
    refine WQ.then_normal (hK2 _ _ _ ?_)
    refine WP.ret ?_
    obtain rfl := Option.some.inj hm
    exact WQ.ret1 _ rfl rfl ⟨rfl, hb8⟩
  have hm := hx5; clear hx5
  refine WP.region ?_
  refine WL.runk 3 [0, 5] [(0, .int .u8 c_0), (5, .bool (decide (c_0 ≥ 48)))] (by kernel_rfl) ?_
  refine WL.case (decide (c_0 ≥ 48)) [5] ⟨rfl, trivial⟩ (fun hc6 => ?_) (fun hc6 => ?_)
  · have hm := iteT hm hc6
    refine WL.runk 4 [2] [(2, .bool (decide (c_0 ≤ 57)))] (by kernel_rfl) ?_
    refine WL.nil ?_
    obtain rfl := Option.some.inj hm
    exact WQ.post' ⟨rfl, (Ext.refl w), (Nat.le_refl _), (SH.nil _ _)⟩ ⟨rfl, trivial⟩
  have hm := iteF hm hc6
  refine WL.runk 4 [2] [(2, .bool false)] (by kernel_rfl) ?_
  refine WL.nil ?_
  obtain rfl := Option.some.inj hm
  exact WQ.post' ⟨rfl, (Ext.refl w), (Nat.le_refl _), (SH.nil _ _)⟩ ⟨rfl, trivial⟩

theorem c_48 (n : Nat) (s_0 : List UInt8) (w : World) {r : Bool} (hm : m_spec_IsName n s_0 = some r)  :
    CallV Tryd.prog 48 #[.string (bs s_0)] w (fun v w' => v = .bool r ∧ Ext w w') := by
  unfold m_spec_IsName at hm
  refine CallV.enter Tryd.func48 rfl (by kernel_rfl) Tryd.ntmps48 (env := [(0, .string (bs s_0))]) ⟨rfl, trivial⟩ ?_
  refine WP.seq (fun K1 hK1 => ?_)
  refine WP.region ?_
  refine WL.runk 1 [0] [(0, .string (bs s_0))] (by kernel_rfl) ?_
  refine WL.nil ?_
  refine WQ.then_normal (hK1 _ _ _ ?_)
  refine WP.seq (fun K2 hK2 => ?_)
  refine WP.seq (fun K3 hK3 => ?_)
  obtain ⟨x16, hx17, hm⟩ := bindE hm
  refine WP.cut (fun env' w' => env' = [(0, .string (bs s_0)), (16, .bool x16)] ∧ Ext w w' ∧ w.heap.size ≤ w'.heap.size ∧ SH w' w.heap.size []) ?_ ?_
  · have hm := hx17; clear hx17
    refine WP.region ?_
    refine WL.runk 1 [0, 4] [(0, .string (bs s_0)), (4, .string (bs s_0))] (by kernel_rfl) ?_
    refine WL.st (.bool (s_0 == [])) (ST.streq (x := s_0) (y := []) rfl rfl rfl) rfl rfl rfl ?_
    refine WL.runk 1 [0, 6] [(0, .string (bs s_0)), (6, .bool (s_0 == []))] (by kernel_rfl) ?_
    refine WL.case (s_0 == []) [6] ⟨rfl, trivial⟩ (fun hc18 => ?_) (fun hc18 => ?_)
    · have hm := iteT hm hc18
      refine WL.runk 10 [0, 16] [(0, .string (bs s_0)), (16, .bool true)] (by kernel_rfl) ?_
      refine WL.nil ?_
      obtain rfl := Option.some.inj hm
      exact WQ.post' ⟨rfl, (Ext.refl w), (Nat.le_refl _), (SH.nil _ _)⟩ ⟨rfl, rfl, trivial⟩
    have hm := iteF hm hc18
    refine WL.runk 5 [0, 11] [(0, .string (bs s_0)), (11, .bool (decide ((s_0.length : Int) > 12)))] (by kernel_rfl) ?_
    refine WL.case (decide ((s_0.length : Int) > 12)) [11] ⟨rfl, trivial⟩ (fun hc19 => ?_) (fun hc19 => ?_)
    · have hm := iteT hm hc19
      refine WL.runk 5 [0, 16] [(0, .string (bs s_0)), (16, .bool true)] (by kernel_rfl) ?_
      refine WL.nil ?_
      obtain rfl := Option.some.inj hm
      exact WQ.post' ⟨rfl, (Ext.refl w), (Nat.le_refl _), (SH.nil _ _)⟩ ⟨rfl, rfl, trivial⟩
    have hm := iteF hm hc19
    refine WL.runk 1 [0, 11, 12] [(0, .string (bs s_0)), (11, .bool false), (12, .string (bs s_0))] (by kernel_rfl) ?_
    obtain ⟨x20, hx21, hm⟩ := bindE hm
    refine WL.st (.int .u8 (x20.toNat : Int)) (ST.sindex hx21 rfl rfl rfl Tryd.underlying9) rfl rfl rfl ?_
    obtain ⟨x22, hx23, hm⟩ := bindE hm
    refine WL.call 68 #[.int .u8 (x20.toNat : Int)] rfl rfl (by kernel_rfl) (c_68 n (x20.toNat : Int) w hx23 ) ?_
    rintro _ w24 ⟨rfl, hE25⟩
    refine ⟨_, rfl, ?_⟩
    have hb27 : Ext w w24 := Ext.trans (Ext.refl w) hE25
    have hL28 : w.heap.size ≤ w24.heap.size := Nat.le_trans (Nat.le_refl _) hE25.size
    have hS29 : SH w24 w.heap.size [] := SH.ext (SH.nil _ _) hE25
    refine WL.runk 2 [0, 16] [(0, .string (bs s_0)), (16, .bool (!x22))] (by kernel_rfl) ?_
    refine WL.nil ?_
    obtain rfl := Option.some.inj hm
    exact WQ.post' ⟨rfl, hb27, hL28, hS29⟩ ⟨rfl, rfl, trivial⟩
  clear hx17
  rintro _ w30 ⟨rfl, hb31, hL32, hS33⟩
  refine WQ.then_normal (hK3 _ _ _ ?_)
  refine WP.cond x16 rfl rfl (fun hc34 => ?_) (fun hc34 => ?_)
  · have hm := iteT hm hc34
    refine WP.seq (fun K35 hK35 => ?_)
    refine WP.region ?_
    refine WL.runk 1 [2] [(2, .bool false)] (by kernel_rfl) ?_
    refine WL.nil ?_
    refine WQ.then_normal (hK35 _ _ _ ?_)
    refine WP.ret ?_
    refine WQ.then_ret ?_
    obtain rfl := Option.some.inj hm
    exact WQ.ret1 _ rfl rfl ⟨rfl, hb31⟩
  have hm := iteF hm hc34
  refine WP.skip ?_
  refine WQ.then_normal (hK2 _ _ _ ?_)
  refine WP.seq (fun K36 hK36 => ?_)
  refine WP.seq (fun K37 hK37 => ?_)
  refine WP.region ?_
  refine WL.runk 1 [0, 3] [(0, .string (bs s_0)), (3, .int .i64 0)] (by kernel_rfl) ?_
  refine WL.nil ?_
  refine WQ.then_normal (hK37 _ _ _ ?_)
  refine WP.block ?_
  obtain ⟨t49, ht50, hm⟩ := bindE hm
  have hmo44 := hm; clear hm
  refine WP.sub [(0, .string (bs s_0)), (3, .int .i64 0)] ⟨rfl, rfl, trivial⟩ ?_
  refine WP.loop (fun n' env' w' => ∃ (st38 : Int) , env' = [(0, .string (bs s_0)), (3, .int .i64 st38)] ∧ Ext w w' ∧ w.heap.size ≤ w'.heap.size ∧ SH w' w.heap.size [] ∧ loopN (m_spec_IsName_l1 n s_0) n' st38 = some t49) n ⟨0, rfl, hb31, hL32, hS33, ht50⟩ ?_
  rintro n46 _ w39 ⟨st38, rfl, hb40, hL41, hS42, hl43⟩ K45 hK45
  obtain ⟨n47, s48, rfl, hm, hl43⟩ := loopN_some hl43
  unfold m_spec_IsName_l1 at hm
  refine WP.seq (fun K51 hK51 => ?_)
  refine WP.seq (fun K52 hK52 => ?_)
  refine WP.region ?_
  refine WL.runk 4 [0, 3, 20] [(0, .string (bs s_0)), (3, .int .i64 st38), (20, .bool (decide (st38 < (s_0.length : Int))))] (by kernel_rfl) ?_
  refine WL.nil ?_
  refine WQ.then_normal (hK52 _ _ _ ?_)
  refine WP.cond (decide (st38 < (s_0.length : Int))) rfl rfl (fun hc53 => ?_) (fun hc53 => ?_)
  rotate_left
  · have hm := iteF hm hc53
    refine WP.exit ?_
    refine WQ.then_exit ?_
    refine WQ.then_exit ?_
    refine WQ.block_here ?_
    obtain rfl := Option.some.inj hm
    obtain rfl := afterN_done hl43
    have hm := hmo44
    refine WQ.then_normal (hK36 _ _ _ ?_)
    refine WP.seq (fun K112 hK112 => ?_)
    refine WP.region ?_
    refine WL.runk 1 [2] [(2, .bool true)] (by kernel_rfl) ?_
    refine WL.nil ?_
    refine WQ.then_normal (hK112 _ _ _ ?_)
    refine WP.ret ?_
    obtain rfl := Option.some.inj hm
    exact WQ.ret1 _ rfl rfl ⟨rfl, hb40⟩
  have hm := iteT hm hc53
  refine WP.skip ?_
  refine WQ.then_normal (hK51 _ _ _ ?_)
  refine WP.seq (fun K54 hK54 => ?_)
  refine WP.block ?_
  refine WP.seq (fun K55 hK55 => ?_)
  obtain ⟨x80, hx81, hm⟩ := bindE hm
  refine WP.cut (fun env' w' => env' = [(0, .string (bs s_0)), (3, .int .i64 st38), (40, .bool x80)] ∧ Ext w w' ∧ w.heap.size ≤ w'.heap.size ∧ SH w' w.heap.size []) ?_ ?_
  rotate_left
  · clear hx81
    rintro _ w106 ⟨rfl, hb107, hL108, hS109⟩
    refine WQ.then_normal (hK55 _ _ _ ?_)
    refine WP.cond x80 rfl rfl (fun hc110 => ?_) (fun hc110 => ?_)
    rotate_left
    · have hm := iteF hm hc110
      refine WP.skip ?_
      refine WQ.block_normal ?_
      refine WQ.then_normal (hK54 _ _ _ ?_)
      refine WP.region ?_
      refine WL.runk 3 [0, 3] [(0, .string (bs s_0)), (3, .int .i64 (wI64 (st38 + 1)))] (by kernel_rfl) ?_
      refine WL.nil ?_
      obtain rfl := Option.some.inj hm
      exact WQ.round hK45 ⟨(wI64 (st38 + 1)), rfl, hb107, hL108, hS109, hl43⟩ (Nat.lt_succ_self _) ⟨rfl, rfl, trivial⟩
    have hm := iteT hm hc110
    refine WP.seq (fun K111 hK111 => ?_)
    refine WP.region ?_
    refine WL.runk 1 [2] [(2, .bool false)] (by kernel_rfl) ?_
    refine WL.nil ?_
    refine WQ.then_normal (hK111 _ _ _ ?_)
    refine WP.ret ?_
    refine WQ.block_ret ?_
    refine WQ.then_ret ?_
    refine WQ.then_ret ?_
    refine WQ.block_ret ?_
    refine WQ.then_ret ?_
    obtain rfl := Option.some.inj hm
    obtain rfl := afterN_done hl43
    have hm := hmo44
    obtain rfl := Option.some.inj hm
    exact WQ.ret1 _ rfl rfl ⟨rfl, hb107⟩
  have hm := hx81; clear hx81
  refine WP.region ?_
  refine WL.runk 2 [0, 3, 23, 24] [(0, .string (bs s_0)), (3, .int .i64 st38), (23, .string (bs s_0)), (24, .int .i64 st38)] (by kernel_rfl) ?_
  obtain ⟨x82, hx83, hm⟩ := bindE hm
  refine WL.st (.int .u8 (x82.toNat : Int)) (ST.sindex hx83 rfl rfl rfl Tryd.underlying9) rfl rfl rfl ?_
  obtain ⟨x84, hx85, hm⟩ := bindE hm
  refine WL.call 68 #[.int .u8 (x82.toNat : Int)] rfl rfl (by kernel_rfl) (c_68 n (x82.toNat : Int) w39 hx85 ) ?_
  rintro _ w86 ⟨rfl, hE87⟩
  refine ⟨_, rfl, ?_⟩
  have hb89 : Ext w w86 := Ext.trans hb40 hE87
  have hL90 : w.heap.size ≤ w86.heap.size := Nat.le_trans hL41 hE87.size
  have hS91 : SH w86 w.heap.size [] := SH.ext hS42 hE87
  refine WL.runk 2 [0, 3, 28] [(0, .string (bs s_0)), (3, .int .i64 st38), (28, .bool (!x84))] (by kernel_rfl) ?_
  refine WL.case (!x84) [28] ⟨rfl, trivial⟩ (fun hc92 => ?_) (fun hc92 => ?_)
  rotate_left
  · have hm := iteF hm hc92
    refine WL.runk 12 [0, 3, 40] [(0, .string (bs s_0)), (3, .int .i64 st38), (40, .bool false)] (by kernel_rfl) ?_
    refine WL.nil ?_
    obtain rfl := Option.some.inj hm
    exact WQ.post' ⟨rfl, hb89, hL90, hS91⟩ ⟨rfl, rfl, rfl, trivial⟩
  have hm := iteT hm hc92
  refine WL.runk 2 [0, 3, 28, 29, 30] [(0, .string (bs s_0)), (3, .int .i64 st38), (28, .bool true), (29, .string (bs s_0)), (30, .int .i64 st38)] (by kernel_rfl) ?_
  obtain ⟨x93, hx94, hm⟩ := bindE hm
  refine WL.st (.int .u8 (x93.toNat : Int)) (ST.sindex hx94 rfl rfl rfl Tryd.underlying9) rfl rfl rfl ?_
  obtain ⟨x95, hx96, hm⟩ := bindE hm
  refine WL.call 69 #[.int .u8 (x93.toNat : Int)] rfl rfl (by kernel_rfl) (c_69 n (x93.toNat : Int) w86 hx96 ) ?_
  rintro _ w97 ⟨rfl, hE98⟩
  refine ⟨_, rfl, ?_⟩
  have hb100 : Ext w w97 := Ext.trans hb89 hE98
  have hL101 : w.heap.size ≤ w97.heap.size := Nat.le_trans hL90 hE98.size
  have hS102 : SH w97 w.heap.size [] := SH.ext hS91 hE98
  refine WL.runk 3 [0, 3, 35] [(0, .string (bs s_0)), (3, .int .i64 st38), (35, .bool (!x95))] (by kernel_rfl) ?_
  refine WL.case (!x95) [35] ⟨rfl, trivial⟩ (fun hc103 => ?_) (fun hc103 => ?_)
  rotate_left
  · have hm := iteF hm hc103
    refine WL.runk 5 [0, 3, 40] [(0, .string (bs s_0)), (3, .int .i64 st38), (40, .bool false)] (by kernel_rfl) ?_
    refine WL.nil ?_
    obtain rfl := Option.some.inj hm
    exact WQ.post' ⟨rfl, hb100, hL101, hS102⟩ ⟨rfl, rfl, rfl, trivial⟩
  have hm := iteT hm hc103
  refine WL.runk 2 [0, 3, 35, 36, 37] [(0, .string (bs s_0)), (3, .int .i64 st38), (35, .bool true), (36, .string (bs s_0)), (37, .int .i64 st38)] (by kernel_rfl) ?_
  obtain ⟨x104, hx105, hm⟩ := bindE hm
  refine WL.st (.int .u8 (x104.toNat : Int)) (ST.sindex hx105 rfl rfl rfl Tryd.underlying9) rfl rfl rfl ?_
  refine WL.runk 2 [0, 3, 40] [(0, .string (bs s_0)), (3, .int .i64 st38), (40, .bool ((x104.toNat : Int) != 45))] (by kernel_rfl) ?_
  refine WL.nil ?_
  obtain rfl := Option.some.inj hm
  exact WQ.post' ⟨rfl, hb100, hL101, hS102⟩ ⟨rfl, rfl, rfl, trivial⟩

theorem c_32 (n : Nat)  (w : World) {r : List (List UInt8)} (hm : m_spec_StyleWords n  = some r)  :
    CallV Tryd.prog 32 #[] w (fun v w' => ∃ (ra0 : Option Addr) (rc0 : Nat), v = .slice ra0 r.length rc0 ∧ Ext w w' ∧ SH w' w.heap.size [aOwn fStr 9 ra0 rc0 r]) := by
  unfold m_spec_StyleWords at hm
  refine CallV.enter Tryd.func32 rfl (by kernel_rfl) Tryd.ntmps32 (env := []) trivial ?_
  refine WP.seq (fun K1 hK1 => ?_)
  refine WP.region ?_
  refine WL.runk 1 [] [] (by kernel_rfl) ?_
  refine WL.nil ?_
  refine WQ.then_normal (hK1 _ _ _ ?_)
  refine WP.seq (fun K2 hK2 => ?_)
  refine WP.region ?_
  refine WL.row fStr 9 ([[117, 112, 112, 101, 114], [108, 105, 110, 105, 110, 103], [115, 111, 108, 101], [104, 101, 101, 108], [101, 121, 101, 108, 101, 116, 115], [115, 116, 105, 116, 99, 104]] : List (List UInt8)) 6 #[.string (bs [117, 112, 112, 101, 114]), .string (bs [108, 105, 110, 105, 110, 103]), .string (bs [115, 111, 108, 101]), .string (bs [104, 101, 101, 108]), .string (bs [101, 121, 101, 108, 101, 116, 115]), .string (bs [115, 116, 105, 116, 99, 104])] 1 (by kernel_rfl) rfl rfl rfl rfl rfl rfl rfl ?_
  intro a3 c4 w5 hE6 hR7
  have hb9 : Ext w w5 := Ext.trans (Ext.refl w) hE6
  have hL10 : w.heap.size ≤ w5.heap.size := Nat.le_trans (Nat.le_refl _) hE6.size
  have hS11 : SH w5 w.heap.size [aOwn fStr 9 a3 c4 ([[117, 112, 112, 101, 114], [108, 105, 110, 105, 110, 103], [115, 111, 108, 101], [104, 101, 101, 108], [101, 121, 101, 108, 101, 116, 115], [115, 116, 105, 116, 99, 104]] : List (List UInt8))] := SH.add (SH.nil _ _) hE6 (Nat.le_refl _) hR7
  refine WL.runk 1 [0] [(0, .slice a3 (([[117, 112, 112, 101, 114], [108, 105, 110, 105, 110, 103], [115, 111, 108, 101], [104, 101, 101, 108], [101, 121, 101, 108, 101, 116, 115], [115, 116, 105, 116, 99, 104]] : List (List UInt8)).length) c4)] (by kernel_rfl) ?_
  refine WL.nil ?_
  refine WQ.then_normal (hK2 _ _ _ ?_)
  refine WP.ret ?_
  obtain rfl := Option.some.inj hm
  exact WQ.ret1 _ rfl rfl ⟨_, _, rfl, hb9, hS11⟩

theorem c_57 (n : Nat) (word_0 : List UInt8) (w : World) {r : Int} (hm : m_spec_l24Word n word_0 = some r)  :
    CallV Tryd.prog 57 #[.string (bs word_0)] w (fun v w' => v = .int .i64 r ∧ Ext w w') := by
  unfold m_spec_l24Word at hm
  refine CallV.enter Tryd.func57 rfl (by kernel_rfl) Tryd.ntmps57 (env := [(0, .string (bs word_0))]) ⟨rfl, trivial⟩ ?_
  refine WP.seq (fun K1 hK1 => ?_)
  refine WP.region ?_
  refine WL.runk 1 [0] [(0, .string (bs word_0))] (by kernel_rfl) ?_
  refine WL.nil ?_
  refine WQ.then_normal (hK1 _ _ _ ?_)
  refine WP.seq (fun K2 hK2 => ?_)
  refine WP.region ?_
  obtain ⟨x3, hx4, hm⟩ := bindE hm
  refine WL.call 32 #[] rfl rfl (by kernel_rfl) (c_32 n  w hx4 ) ?_
  rintro _ w8 ⟨a5, c6, rfl, hE9, hR10⟩
  refine ⟨_, rfl, ?_⟩
  have hb11 : Ext w w8 := Ext.trans (Ext.refl w) hE9
  have hL12 : w.heap.size ≤ w8.heap.size := Nat.le_trans (Nat.le_refl _) hE9.size
  have hS13 : SH w8 w.heap.size [aOwn fStr 9 a5 c6 x3] := SH.add (SH.nil _ _) hE9 (Nat.le_refl _) hR10
  refine WL.runk 1 [0, 3] [(0, .string (bs word_0)), (3, .slice a5 x3.length c6)] (by kernel_rfl) ?_
  refine WL.nil ?_
  refine WQ.then_normal (hK2 _ _ _ ?_)
  refine WP.seq (fun K14 hK14 => ?_)
  refine WP.seq (fun K15 hK15 => ?_)
  refine WP.region ?_
  refine WL.runk 1 [0, 3, 4] [(0, .string (bs word_0)), (3, .slice a5 x3.length c6), (4, .int .i64 0)] (by kernel_rfl) ?_
  refine WL.nil ?_
  refine WQ.then_normal (hK15 _ _ _ ?_)
  refine WP.block ?_
  obtain ⟨t27, ht28, hm⟩ := bindE hm
  have hmo22 := hm; clear hm
  refine WP.sub [(0, .string (bs word_0)), (3, .slice a5 x3.length c6), (4, .int .i64 0)] ⟨rfl, rfl, rfl, trivial⟩ ?_
  refine WP.loop (fun n' env' w' => ∃ (st16 : Int) , env' = [(0, .string (bs word_0)), (3, .slice a5 x3.length c6), (4, .int .i64 st16)] ∧ Ext w w' ∧ w.heap.size ≤ w'.heap.size ∧ SH w' w.heap.size [aOwn fStr 9 a5 c6 x3] ∧ loopN (m_spec_l24Word_l1 n word_0 x3) n' st16 = some t27) n ⟨0, rfl, hb11, hL12, hS13, ht28⟩ ?_
  rintro n24 _ w17 ⟨st16, rfl, hb18, hL19, hS20, hl21⟩ K23 hK23
  obtain ⟨n25, s26, rfl, hm, hl21⟩ := loopN_some hl21
  unfold m_spec_l24Word_l1 at hm
  refine WP.seq (fun K29 hK29 => ?_)
  refine WP.seq (fun K30 hK30 => ?_)
  refine WP.region ?_
  refine WL.runk 4 [0, 3, 4, 9] [(0, .string (bs word_0)), (3, .slice a5 x3.length c6), (4, .int .i64 st16), (9, .bool (decide (st16 < (x3.length : Int))))] (by kernel_rfl) ?_
  refine WL.nil ?_
  refine WQ.then_normal (hK30 _ _ _ ?_)
  refine WP.cond (decide (st16 < (x3.length : Int))) rfl rfl (fun hc31 => ?_) (fun hc31 => ?_)
  rotate_left
  · have hm := iteF hm hc31
    refine WP.exit ?_
    refine WQ.then_exit ?_
    refine WQ.then_exit ?_
    refine WQ.block_here ?_
    obtain rfl := Option.some.inj hm
    obtain rfl := afterN_done hl21
    have hm := hmo22
    refine WQ.then_normal (hK14 _ _ _ ?_)
    refine WP.seq (fun K38 hK38 => ?_)
    refine WP.region ?_
    refine WL.runk 1 [2] [(2, .int .i64 (-1))] (by kernel_rfl) ?_
    refine WL.nil ?_
    refine WQ.then_normal (hK38 _ _ _ ?_)
    refine WP.ret ?_
    obtain rfl := Option.some.inj hm
    exact WQ.ret1 _ rfl rfl ⟨rfl, hb18⟩
  have hm := iteT hm hc31
  refine WP.skip ?_
  refine WQ.then_normal (hK29 _ _ _ ?_)
  refine WP.seq (fun K32 hK32 => ?_)
  refine WP.block ?_
  refine WP.seq (fun K33 hK33 => ?_)
  refine WP.region ?_
  refine WL.runk 2 [0, 3, 4, 12, 13] [(0, .string (bs word_0)), (3, .slice a5 x3.length c6), (4, .int .i64 st16), (12, .slice a5 x3.length c6), (13, .int .i64 st16)] (by kernel_rfl) ?_
  obtain ⟨x34, hx35, hm⟩ := bindE hm
  refine WL.st (.pointer (some (at_ a5 (Int.toNat st16 * 1)))) (ST.index (T := fStr.ty) (xs := x3) (SH.rd (SH.front 0 hS20)) hx35 rfl rfl rfl Tryd.underlying22 (info9).1 (info9).2.1) rfl rfl rfl ?_
  refine WL.st (.string (bs x34)) (ST.load (cell_ext (Rd.flat (F := fStr) (SH.rd (SH.front 0 hS20)) hx35 0 rfl)) rfl rfl Tryd.underlying9 rfl) rfl rfl rfl ?_
  refine WL.runk 1 [0, 3, 4, 15, 16] [(0, .string (bs word_0)), (3, .slice a5 x3.length c6), (4, .int .i64 st16), (15, .string (bs x34)), (16, .string (bs word_0))] (by kernel_rfl) ?_
  refine WL.st (.bool (x34 == word_0)) (ST.streq (x := x34) (y := word_0) rfl rfl rfl) rfl rfl rfl ?_
  refine WL.sub [(0, .string (bs word_0)), (3, .slice a5 x3.length c6), (4, .int .i64 st16), (17, .bool (x34 == word_0))] ⟨rfl, rfl, rfl, rfl, trivial⟩ ?_
  refine WL.nil ?_
  refine WQ.then_normal (hK33 _ _ _ ?_)
  refine WP.cond (x34 == word_0) rfl rfl (fun hc36 => ?_) (fun hc36 => ?_)
  rotate_left
  · have hm := iteF hm hc36
    refine WP.skip ?_
    refine WQ.block_normal ?_
    refine WQ.then_normal (hK32 _ _ _ ?_)
    refine WP.region ?_
    refine WL.runk 3 [0, 3, 4] [(0, .string (bs word_0)), (3, .slice a5 x3.length c6), (4, .int .i64 (wI64 (st16 + 1)))] (by kernel_rfl) ?_
    refine WL.nil ?_
    obtain rfl := Option.some.inj hm
    exact WQ.round hK23 ⟨(wI64 (st16 + 1)), rfl, hb18, hL19, hS20, hl21⟩ (Nat.lt_succ_self _) ⟨rfl, rfl, rfl, trivial⟩
  have hm := iteT hm hc36
  refine WP.seq (fun K37 hK37 => ?_)
  refine WP.region ?_
  refine WL.runk 2 [2] [(2, .int .i64 st16)] (by kernel_rfl) ?_
  refine WL.nil ?_
  refine WQ.then_normal (hK37 _ _ _ ?_)
  refine WP.ret ?_
  refine WQ.block_ret ?_
  refine WQ.then_ret ?_
  refine WQ.then_ret ?_
  refine WQ.block_ret ?_
  refine WQ.then_ret ?_
  obtain rfl := Option.some.inj hm
  obtain rfl := afterN_done hl21
  have hm := hmo22
  obtain rfl := Option.some.inj hm
  exact WQ.ret1 _ rfl rfl ⟨rfl, hb18⟩

theorem c_66 (n : Nat) (kind_0 : Int) (words_1 : Int) (w : World) {r : Bool} (hm : m_spec_l24Count n kind_0 words_1 = some r)  :
    CallV Tryd.prog 66 #[.int .i64 kind_0, .int .i64 words_1] w (fun v w' => v = .bool r ∧ Ext w w') := by
  unfold m_spec_l24Count at hm
  refine CallV.enter Tryd.func66 rfl (by kernel_rfl) Tryd.ntmps66 (env := [(0, .int .i64 kind_0), (1, .int .i64 words_1)]) ⟨rfl, rfl, trivial⟩ ?_
  refine WP.seq (fun K1 hK1 => ?_)
  refine WP.region ?_
  refine WL.runk 1 [0, 1] [(0, .int .i64 kind_0), (1, .int .i64 words_1)] (by kernel_rfl) ?_
  refine WL.nil ?_
  refine WQ.then_normal (hK1 _ _ _ ?_)
  refine WP.seq (fun K2 hK2 => ?_)
  refine WP.seq (fun K3 hK3 => ?_)
  refine WP.region ?_
  refine WL.runk 1 [1, 5] [(1, .int .i64 words_1), (5, .int .i64 kind_0)] (by kernel_rfl) ?_
  refine WL.nil ?_
  refine WQ.then_normal (hK3 _ _ _ ?_)
  refine WP.block ?_
  refine WP.seq (fun K4 hK4 => ?_)
  refine WP.seq (fun K5 hK5 => ?_)
  refine WP.region ?_
  refine WL.runk 2 [1, 5, 6] [(1, .int .i64 words_1), (5, .int .i64 kind_0), (6, .bool (kind_0 == 0))] (by kernel_rfl) ?_
  refine WL.nil ?_
  refine WQ.then_normal (hK5 _ _ _ ?_)
  obtain ⟨x7, hx8, hm⟩ := bindE hm
  refine WP.cut (fun env' w' => env' = [(1, .int .i64 words_1), (5, .int .i64 kind_0), (6, .bool x7)] ∧ Ext w w' ∧ w.heap.size ≤ w'.heap.size ∧ SH w' w.heap.size []) ?_ ?_
  · have hm := hx8; clear hx8
    refine WP.cond (kind_0 == 0) rfl rfl (fun hc6 => ?_) (fun hc6 => ?_)
    · have hm := iteT hm hc6
      refine WP.skip ?_
      obtain rfl := Option.some.inj hm
      exact WQ.post' ⟨rfl, (Ext.refl w), (Nat.le_refl _), (SH.nil _ _)⟩ ⟨rfl, rfl, rfl, trivial⟩
    have hm := iteF hm hc6
    refine WP.region ?_
    refine WL.runk 2 [1, 5, 6] [(1, .int .i64 words_1), (5, .int .i64 kind_0), (6, .bool (kind_0 == 2))] (by kernel_rfl) ?_
    refine WL.nil ?_
    obtain rfl := Option.some.inj hm
    exact WQ.post' ⟨rfl, (Ext.refl w), (Nat.le_refl _), (SH.nil _ _)⟩ ⟨rfl, rfl, rfl, trivial⟩
  clear hx8
  rintro _ w9 ⟨rfl, hb10, hL11, hS12⟩
  refine WQ.then_normal (hK4 _ _ _ ?_)
  refine WP.cond x7 rfl rfl (fun hc13 => ?_) (fun hc13 => ?_)
  · have hm := iteT hm hc13
    refine WP.seq (fun K14 hK14 => ?_)
    refine WP.region ?_
    refine WL.runk 3 [4] [(4, .bool (words_1 == 3))] (by kernel_rfl) ?_
    refine WL.nil ?_
    refine WQ.then_normal (hK14 _ _ _ ?_)
    refine WP.ret ?_
    refine WQ.block_ret ?_
    refine WQ.then_ret ?_
    obtain rfl := Option.some.inj hm
    exact WQ.ret1 _ rfl rfl ⟨rfl, hb10⟩
  have hm := iteF hm hc13
  refine WP.seq (fun K15 hK15 => ?_)
  refine WP.region ?_
  refine WL.runk 2 [1, 11] [(1, .int .i64 words_1), (11, .bool (kind_0 == 5))] (by kernel_rfl) ?_
  refine WL.nil ?_
  refine WQ.then_normal (hK15 _ _ _ ?_)
  refine WP.cond (kind_0 == 5) rfl rfl (fun hc16 => ?_) (fun hc16 => ?_)
  rotate_left
  · have hm := iteF hm hc16
    refine WP.skip ?_
    refine WQ.block_normal ?_
    refine WQ.then_normal (hK2 _ _ _ ?_)
    refine WP.seq (fun K26 hK26 => ?_)
    refine WP.region ?_
    refine WL.runk 3 [4] [(4, .bool (words_1 == 2))] (by kernel_rfl) ?_
    refine WL.nil ?_
    refine WQ.then_normal (hK26 _ _ _ ?_)
    refine WP.ret ?_
    obtain rfl := Option.some.inj hm
    exact WQ.ret1 _ rfl rfl ⟨rfl, hb10⟩
  have hm := iteT hm hc16
  refine WP.seq (fun K17 hK17 => ?_)
  obtain ⟨x19, hx20, hm⟩ := bindE hm
  refine WP.cut (fun env' w' => env' = [(4, .bool x19)] ∧ Ext w w' ∧ w.heap.size ≤ w'.heap.size ∧ SH w' w.heap.size []) ?_ ?_
  rotate_left
  · clear hx20
    rintro _ w22 ⟨rfl, hb23, hL24, hS25⟩
    refine WQ.then_normal (hK17 _ _ _ ?_)
    refine WP.ret ?_
    refine WQ.block_ret ?_
    refine WQ.then_ret ?_
    obtain rfl := Option.some.inj hm
    exact WQ.ret1 _ rfl rfl ⟨rfl, hb23⟩
  have hm := hx20; clear hx20
  refine WP.region ?_
  refine WL.runk 3 [1, 15] [(1, .int .i64 words_1), (15, .bool (words_1 == 2))] (by kernel_rfl) ?_
  refine WL.case (words_1 == 2) [15] ⟨rfl, trivial⟩ (fun hc21 => ?_) (fun hc21 => ?_)
  · have hm := iteT hm hc21
    refine WL.runk 4 [4] [(4, .bool true)] (by kernel_rfl) ?_
    refine WL.nil ?_
    obtain rfl := Option.some.inj hm
    exact WQ.post' ⟨rfl, hb10, hL11, hS12⟩ ⟨rfl, trivial⟩
  have hm := iteF hm hc21
  refine WL.runk 4 [4] [(4, .bool (words_1 == 3))] (by kernel_rfl) ?_
  refine WL.nil ?_
  obtain rfl := Option.some.inj hm
  exact WQ.post' ⟨rfl, hb10, hL11, hS12⟩ ⟨rfl, trivial⟩

theorem c_73 (n : Nat) (s_0 : List UInt8) (w : World) {r : Int × Bool} (hm : m_spec_l01Number n s_0 = some r)  :
    CallV Tryd.prog 73 #[.string (bs s_0)] w (fun v w' => v = .tuple #[.int .i64 r.1, .bool r.2] ∧ Ext w w') := by
  unfold m_spec_l01Number at hm
  refine CallV.enter Tryd.func73 rfl (by kernel_rfl) Tryd.ntmps73 (env := [(0, .string (bs s_0))]) ⟨rfl, trivial⟩ ?_
  refine WP.seq (fun K1 hK1 => ?_)
  refine WP.region ?_
  refine WL.runk 2 [0] [(0, .string (bs s_0))] (by kernel_rfl) ?_
  refine WL.nil ?_
  refine WQ.then_normal (hK1 _ _ _ ?_)
  refine WP.seq (fun K2 hK2 => ?_)
  refine WP.region ?_
  refine WL.runk 2 [0, 4] [(0, .string (bs s_0)), (4, .string (bs s_0))] (by kernel_rfl) ?_
  refine WL.nil ?_
  refine WQ.then_normal (hK2 _ _ _ ?_)
  refine WP.seq (fun K3 hK3 => ?_)
  refine WP.seq (fun K4 hK4 => ?_)
  obtain ⟨x8, hx9, hm⟩ := bindE hm
  refine WP.cut (fun env' w' => env' = [(0, .string (bs s_0)), (4, .string (bs s_0)), (14, .bool x8)] ∧ Ext w w' ∧ w.heap.size ≤ w'.heap.size ∧ SH w' w.heap.size []) ?_ ?_
  · have hm := hx9; clear hx9
    refine WP.region ?_
    refine WL.runk 1 [0, 4, 8] [(0, .string (bs s_0)), (4, .string (bs s_0)), (8, .string (bs s_0))] (by kernel_rfl) ?_
    refine WL.st (.bool (!(s_0 == []))) (ST.strne (x := s_0) (y := []) rfl rfl rfl) rfl rfl rfl ?_
    refine WL.runk 1 [0, 4, 10] [(0, .string (bs s_0)), (4, .string (bs s_0)), (10, .bool (!(s_0 == [])))] (by kernel_rfl) ?_
    refine WL.case (!(s_0 == [])) [10] ⟨rfl, trivial⟩ (fun hc10 => ?_) (fun hc10 => ?_)
    rotate_left
    · have hm := iteF hm hc10
      refine WL.runk 4 [0, 4, 14] [(0, .string (bs s_0)), (4, .string (bs s_0)), (14, .bool false)] (by kernel_rfl) ?_
      refine WL.nil ?_
      obtain rfl := Option.some.inj hm
      exact WQ.post' ⟨rfl, (Ext.refl w), (Nat.le_refl _), (SH.nil _ _)⟩ ⟨rfl, rfl, rfl, trivial⟩
    have hm := iteT hm hc10
    refine WL.runk 1 [0, 4, 10, 11] [(0, .string (bs s_0)), (4, .string (bs s_0)), (10, .bool true), (11, .string (bs s_0))] (by kernel_rfl) ?_
    obtain ⟨x11, hx12, hm⟩ := bindE hm
    refine WL.st (.int .u8 (x11.toNat : Int)) (ST.sindex hx12 rfl rfl rfl Tryd.underlying9) rfl rfl rfl ?_
    refine WL.runk 2 [0, 4, 14] [(0, .string (bs s_0)), (4, .string (bs s_0)), (14, .bool ((x11.toNat : Int) == 45))] (by kernel_rfl) ?_
    refine WL.nil ?_
    obtain rfl := Option.some.inj hm
    exact WQ.post' ⟨rfl, (Ext.refl w), (Nat.le_refl _), (SH.nil _ _)⟩ ⟨rfl, rfl, rfl, trivial⟩
  clear hx9
  rintro _ w13 ⟨rfl, hb14, hL15, hS16⟩
  refine WQ.then_normal (hK4 _ _ _ ?_)
  obtain ⟨x20, hx21, hm⟩ := bindE hm
  refine WP.cut (fun env' w' => env' = [(0, .string (bs s_0)), (4, .string (bs x20))] ∧ Ext w w' ∧ w.heap.size ≤ w'.heap.size ∧ SH w' w.heap.size []) ?_ ?_
  · have hm := hx21; clear hx21
    refine WP.cond x8 rfl rfl (fun hc17 => ?_) (fun hc17 => ?_)
    rotate_left
    · have hm := iteF hm hc17
      refine WP.skip ?_
      obtain rfl := Option.some.inj hm
      exact WQ.post' ⟨rfl, hb14, hL15, hS16⟩ ⟨rfl, rfl, trivial⟩
    have hm := iteT hm hc17
    refine WP.region ?_
    refine WL.runk 1 [0, 15] [(0, .string (bs s_0)), (15, .string (bs s_0))] (by kernel_rfl) ?_
    obtain ⟨x22, hx23, hm⟩ := bindE hm
    refine WL.st (.string (bs x22)) (ST.ssub hx23 rfl rfl Tryd.underlying9 ⟨_, rfl⟩ rfl) rfl rfl rfl ?_
    refine WL.runk 1 [0, 4] [(0, .string (bs s_0)), (4, .string (bs x22))] (by kernel_rfl) ?_
    refine WL.nil ?_
    obtain rfl := Option.some.inj hm
    exact WQ.post' ⟨rfl, hb14, hL15, hS16⟩ ⟨rfl, rfl, trivial⟩
  clear hx21
  rintro _ w24 ⟨rfl, hb25, hL26, hS27⟩
  refine WQ.then_normal (hK3 _ _ _ ?_)
  refine WP.seq (fun K28 hK28 => ?_)
  refine WP.seq (fun K29 hK29 => ?_)
  obtain ⟨x31, hx32, hm⟩ := bindE hm
  refine WP.cut (fun env' w' => env' = [(0, .string (bs s_0)), (4, .string (bs x20)), (24, .bool x31)] ∧ Ext w w' ∧ w.heap.size ≤ w'.heap.size ∧ SH w' w.heap.size []) ?_ ?_
  · have hm := hx32; clear hx32
    refine WP.region ?_
    refine WL.runk 4 [0, 4, 20] [(0, .string (bs s_0)), (4, .string (bs x20)), (20, .bool (decide ((x20.length : Int) < 1)))] (by kernel_rfl) ?_
    refine WL.case (decide ((x20.length : Int) < 1)) [20] ⟨rfl, trivial⟩ (fun hc33 => ?_) (fun hc33 => ?_)
    · have hm := iteT hm hc33
      refine WL.runk 4 [0, 4, 24] [(0, .string (bs s_0)), (4, .string (bs x20)), (24, .bool true)] (by kernel_rfl) ?_
      refine WL.nil ?_
      obtain rfl := Option.some.inj hm
      exact WQ.post' ⟨rfl, hb25, hL26, hS27⟩ ⟨rfl, rfl, rfl, trivial⟩
    have hm := iteF hm hc33
    refine WL.runk 4 [0, 4, 24] [(0, .string (bs s_0)), (4, .string (bs x20)), (24, .bool (decide ((x20.length : Int) > 18)))] (by kernel_rfl) ?_
    refine WL.nil ?_
    obtain rfl := Option.some.inj hm
    exact WQ.post' ⟨rfl, hb25, hL26, hS27⟩ ⟨rfl, rfl, rfl, trivial⟩
  clear hx32
  rintro _ w34 ⟨rfl, hb35, hL36, hS37⟩
  refine WQ.then_normal (hK29 _ _ _ ?_)
  refine WP.cond x31 rfl rfl (fun hc38 => ?_) (fun hc38 => ?_)
  · have hm := iteT hm hc38
    refine WP.seq (fun K39 hK39 => ?_)
    refine WP.region ?_
    refine WL.runk 2 [2, 3] [(2, .int .i64 0), (3, .bool false)] (by kernel_rfl) ?_
    refine WL.nil ?_
    refine WQ.then_normal (hK39 _ _ _ ?_)
    refine WP.ret ?_
    refine WQ.then_ret ?_
    obtain rfl := Option.some.inj hm
    exact WQ.ret2 _ _ rfl rfl rfl ⟨rfl, hb35⟩
  have hm := iteF hm hc38
  refine WP.skip ?_
  refine WQ.then_normal (hK28 _ _ _ ?_)
  refine WP.seq (fun K40 hK40 => ?_)
  refine WP.region ?_
  refine WL.runk 1 [0, 4, 5] [(0, .string (bs s_0)), (4, .string (bs x20)), (5, .int .i64 0)] (by kernel_rfl) ?_
  refine WL.nil ?_
  refine WQ.then_normal (hK40 _ _ _ ?_)
  refine WP.seq (fun K41 hK41 => ?_)
  refine WP.seq (fun K42 hK42 => ?_)
  refine WP.region ?_
  refine WL.runk 1 [0, 4, 5, 6] [(0, .string (bs s_0)), (4, .string (bs x20)), (5, .int .i64 0), (6, .int .i64 0)] (by kernel_rfl) ?_
  refine WL.nil ?_
  refine WQ.then_normal (hK42 _ _ _ ?_)
  refine WP.block ?_
  obtain ⟨t54, ht55, hm⟩ := bindE hm
  have hmo49 := hm; clear hm
  refine WP.sub [(0, .string (bs s_0)), (4, .string (bs x20)), (5, .int .i64 0), (6, .int .i64 0)] ⟨rfl, rfl, rfl, rfl, trivial⟩ ?_
  refine WP.loop (fun n' env' w' => ∃ (st43 : Int × Int) , env' = [(0, .string (bs s_0)), (4, .string (bs x20)), (5, .int .i64 st43.1), (6, .int .i64 st43.2)] ∧ Ext w w' ∧ w.heap.size ≤ w'.heap.size ∧ SH w' w.heap.size [] ∧ loopN (m_spec_l01Number_l1 n x20) n' st43 = some t54) n ⟨(0, 0), rfl, hb35, hL36, hS37, ht55⟩ ?_
  rintro n51 _ w44 ⟨st43, rfl, hb45, hL46, hS47, hl48⟩ K50 hK50
  obtain ⟨n52, s53, rfl, hm, hl48⟩ := loopN_some hl48
  unfold m_spec_l01Number_l1 at hm
  refine WP.seq (fun K56 hK56 => ?_)
  refine WP.seq (fun K57 hK57 => ?_)
  refine WP.region ?_
  refine WL.runk 4 [0, 4, 5, 6, 28] [(0, .string (bs s_0)), (4, .string (bs x20)), (5, .int .i64 st43.1), (6, .int .i64 st43.2), (28, .bool (decide (st43.2 < (x20.length : Int))))] (by kernel_rfl) ?_
  refine WL.nil ?_
  refine WQ.then_normal (hK57 _ _ _ ?_)
  refine WP.cond (decide (st43.2 < (x20.length : Int))) rfl rfl (fun hc58 => ?_) (fun hc58 => ?_)
  · have hm := iteT hm hc58
    refine WP.skip ?_
    refine WQ.then_normal (hK56 _ _ _ ?_)
    refine WP.seq (fun K59 hK59 => ?_)
    refine WP.block ?_
    refine WP.seq (fun K60 hK60 => ?_)
    refine WP.seq (fun K61 hK61 => ?_)
    refine WP.region ?_
    refine WL.runk 2 [0, 4, 5, 6, 31, 32] [(0, .string (bs s_0)), (4, .string (bs x20)), (5, .int .i64 st43.1), (6, .int .i64 st43.2), (31, .string (bs x20)), (32, .int .i64 st43.2)] (by kernel_rfl) ?_
    obtain ⟨x62, hx63, hm⟩ := bindE hm
    refine WL.st (.int .u8 (x62.toNat : Int)) (ST.sindex hx63 rfl rfl rfl Tryd.underlying9) rfl rfl rfl ?_
    obtain ⟨x64, hx65, hm⟩ := bindE hm
    refine WL.call 69 #[.int .u8 (x62.toNat : Int)] rfl rfl (by kernel_rfl) (c_69 n (x62.toNat : Int) w44 hx65 ) ?_
    rintro _ w66 ⟨rfl, hE67⟩
    refine ⟨_, rfl, ?_⟩
    have hb69 : Ext w w66 := Ext.trans hb45 hE67
    have hL70 : w.heap.size ≤ w66.heap.size := Nat.le_trans hL46 hE67.size
    have hS71 : SH w66 w.heap.size [] := SH.ext hS47 hE67
    refine WL.runk 1 [0, 4, 5, 6, 35] [(0, .string (bs s_0)), (4, .string (bs x20)), (5, .int .i64 st43.1), (6, .int .i64 st43.2), (35, .bool (!x64))] (by kernel_rfl) ?_
    refine WL.nil ?_
    refine WQ.then_normal (hK61 _ _ _ ?_)
    refine WP.cond (!x64) rfl rfl (fun hc72 => ?_) (fun hc72 => ?_)
    rotate_left
    · have hm := iteF hm hc72
      refine WP.skip ?_
      refine WQ.then_normal (hK60 _ _ _ ?_)
      refine WP.region ?_
      refine WL.runk 4 [0, 4, 6, 37, 38, 39] [(0, .string (bs s_0)), (4, .string (bs x20)), (6, .int .i64 st43.2), (37, .int .i64 (wI64 (10 * st43.1))), (38, .string (bs x20)), (39, .int .i64 st43.2)] (by kernel_rfl) ?_
      obtain ⟨x74, hx75, hm⟩ := bindE hm
      refine WL.st (.int .u8 (x74.toNat : Int)) (ST.sindex hx75 rfl rfl rfl Tryd.underlying9) rfl rfl rfl ?_
      refine WL.runk 4 [0, 4, 5, 6] [(0, .string (bs s_0)), (4, .string (bs x20)), (6, .int .i64 st43.2), (5, .int .i64 (wI64 ((wI64 (10 * st43.1)) + (wI64 (IntKind.u8.wrap ((x74.toNat : Int) - 48))))))] (by kernel_rfl) ?_
      refine WL.nil ?_
      refine WQ.block_normal ?_
      refine WQ.then_normal (hK59 _ _ _ ?_)
      refine WP.region ?_
      refine WL.runk 3 [0, 4, 5, 6] [(0, .string (bs s_0)), (4, .string (bs x20)), (6, .int .i64 (wI64 (st43.2 + 1))), (5, .int .i64 (wI64 ((wI64 (10 * st43.1)) + (wI64 (IntKind.u8.wrap ((x74.toNat : Int) - 48))))))] (by kernel_rfl) ?_
      refine WL.nil ?_
      obtain rfl := Option.some.inj hm
      exact WQ.round hK50 ⟨((wI64 ((wI64 (10 * st43.1)) + (wI64 (IntKind.u8.wrap ((x74.toNat : Int) - 48))))), (wI64 (st43.2 + 1))), rfl, hb69, hL70, hS71, hl48⟩ (Nat.lt_succ_self _) ⟨rfl, rfl, rfl, rfl, trivial⟩
    have hm := iteT hm hc72
    refine WP.seq (fun K73 hK73 => ?_)
    refine WP.region ?_
    refine WL.runk 2 [2, 3] [(2, .int .i64 0), (3, .bool false)] (by kernel_rfl) ?_
    refine WL.nil ?_
    refine WQ.then_normal (hK73 _ _ _ ?_)
    refine WP.ret ?_
    refine WQ.then_ret ?_
    refine WQ.block_ret ?_
    refine WQ.then_ret ?_
    refine WQ.then_ret ?_
    refine WQ.block_ret ?_
    refine WQ.then_ret ?_
    obtain rfl := Option.some.inj hm
    obtain rfl := afterN_done hl48
    have hm := hmo49
    obtain rfl := Option.some.inj hm
    exact WQ.ret2 _ _ rfl rfl rfl ⟨rfl, hb69⟩
  have hm := iteF hm hc58
  refine WP.exit ?_
  refine WQ.then_exit ?_
  refine WQ.then_exit ?_
  refine WQ.block_here ?_
  obtain rfl := Option.some.inj hm
  obtain rfl := afterN_done hl48
  have hm := hmo49
  refine WQ.then_normal (hK41 _ _ _ ?_)
  refine WP.seq (fun K76 hK76 => ?_)
  refine WP.seq (fun K77 hK77 => ?_)
  refine WP.region ?_
  refine WL.runk 5 [0, 5, 48] [(0, .string (bs s_0)), (5, .int .i64 st43.1), (48, .bool (decide ((x20.length : Int) < (s_0.length : Int))))] (by kernel_rfl) ?_
  refine WL.nil ?_
  refine WQ.then_normal (hK77 _ _ _ ?_)
  obtain ⟨x79, hx80, hm⟩ := bindE hm
  refine WP.cut (fun env' w' => env' = [(0, .string (bs s_0)), (5, .int .i64 x79)] ∧ Ext w w' ∧ w.heap.size ≤ w'.heap.size ∧ SH w' w.heap.size []) ?_ ?_
  · have hm := hx80; clear hx80
    refine WP.cond (decide ((x20.length : Int) < (s_0.length : Int))) rfl rfl (fun hc78 => ?_) (fun hc78 => ?_)
    rotate_left
    · have hm := iteF hm hc78
      refine WP.skip ?_
      obtain rfl := Option.some.inj hm
      exact WQ.post' ⟨rfl, hb45, hL46, hS47⟩ ⟨rfl, rfl, trivial⟩
    have hm := iteT hm hc78
    refine WP.region ?_
    refine WL.runk 3 [0, 5] [(0, .string (bs s_0)), (5, .int .i64 (wI64 (0 - st43.1)))] (by kernel_rfl) ?_
    refine WL.nil ?_
    obtain rfl := Option.some.inj hm
    exact WQ.post' ⟨rfl, hb45, hL46, hS47⟩ ⟨rfl, rfl, trivial⟩
  clear hx80
  rintro _ w81 ⟨rfl, hb82, hL83, hS84⟩
  refine WQ.then_normal (hK76 _ _ _ ?_)
  refine WP.seq (fun K85 hK85 => ?_)
  refine WP.seq (fun K86 hK86 => ?_)
  refine WP.region ?_
  refine WL.runk 1 [0, 5, 51] [(0, .string (bs s_0)), (5, .int .i64 x79), (51, .int .i64 x79)] (by kernel_rfl) ?_
  obtain ⟨x87, hx88, hm⟩ := bindE hm
  refine WL.call 49 #[.int .i64 x79] rfl rfl (by kernel_rfl) (c_49 n x79 w81 hx88 ) ?_
  rintro _ w89 ⟨rfl, hE90⟩
  refine ⟨_, rfl, ?_⟩
  have hb92 : Ext w w89 := Ext.trans hb82 hE90
  have hL93 : w.heap.size ≤ w89.heap.size := Nat.le_trans hL83 hE90.size
  have hS94 : SH w89 w.heap.size [] := SH.ext hS84 hE90
  refine WL.runk 1 [5, 52, 53] [(5, .int .i64 x79), (52, .string (bs x87)), (53, .string (bs s_0))] (by kernel_rfl) ?_
  refine WL.st (.bool (!(x87 == s_0))) (ST.strne (x := x87) (y := s_0) rfl rfl rfl) rfl rfl rfl ?_
  refine WL.sub [(5, .int .i64 x79), (54, .bool (!(x87 == s_0)))] ⟨rfl, rfl, trivial⟩ ?_
  refine WL.nil ?_
  refine WQ.then_normal (hK86 _ _ _ ?_)
  refine WP.cond (!(x87 == s_0)) rfl rfl (fun hc95 => ?_) (fun hc95 => ?_)
  · have hm := iteT hm hc95
    refine WP.seq (fun K96 hK96 => ?_)
    refine WP.region ?_
    refine WL.runk 2 [2, 3] [(2, .int .i64 0), (3, .bool false)] (by kernel_rfl) ?_
    refine WL.nil ?_
    refine WQ.then_normal (hK96 _ _ _ ?_)
    refine WP.ret ?_
    refine WQ.then_ret ?_
    obtain rfl := Option.some.inj hm
    exact WQ.ret2 _ _ rfl rfl rfl ⟨rfl, hb92⟩
  have hm := iteF hm hc95
  refine WP.skip ?_
  refine WQ.then_normal (hK85 _ _ _ ?_)
  refine WP.seq (fun K97 hK97 => ?_)
  refine WP.region ?_
  refine WL.runk 3 [2, 3] [(2, .int .i64 x79), (3, .bool true)] (by kernel_rfl) ?_
  refine WL.nil ?_
  refine WQ.then_normal (hK97 _ _ _ ?_)
  refine WP.ret ?_
  obtain rfl := Option.some.inj hm
  exact WQ.ret2 _ _ rfl rfl rfl ⟨rfl, hb92⟩

theorem c_82 (n : Nat) (n_0 : Int) (low_1 : Int) (high_2 : Int) (w : World) {r : Bool} (hm : m_spec_l00In n n_0 low_1 high_2 = some r)  :
    CallV Tryd.prog 82 #[.int .i64 n_0, .int .i64 low_1, .int .i64 high_2] w (fun v w' => v = .bool r ∧ Ext w w') := by
  unfold m_spec_l00In at hm
  refine CallV.enter Tryd.func82 rfl (by kernel_rfl) Tryd.ntmps82 (env := [(0, .int .i64 n_0), (1, .int .i64 low_1), (2, .int .i64 high_2)]) ⟨rfl, rfl, rfl, trivial⟩ ?_
  refine WP.seq (fun K1 hK1 => ?_)
  refine WP.region ?_
  refine WL.runk 1 [0, 1, 2] [(0, .int .i64 n_0), (1, .int .i64 low_1), (2, .int .i64 high_2)] (by kernel_rfl) ?_
  refine WL.nil ?_
  refine WQ.then_normal (hK1 _ _ _ ?_)
  refine WP.seq (fun K2 hK2 => ?_)
  obtain ⟨x4, hx5, hm⟩ := bindE hm
  refine WP.cut (fun env' w' => env' = [(6, .bool x4)] ∧ Ext w w' ∧ w.heap.size ≤ w'.heap.size ∧ SH w' w.heap.size []) ?_ ?_
  rotate_left
  · clear hx5
    rintro _ w7 ⟨rfl, hb8, hL9, hS10⟩
    refine WQ.then_normal (hK2 _ _ _ ?_)
    refine WP.ret ?_
    obtain rfl := Option.some.inj hm
    exact WQ.ret1 _ rfl rfl ⟨rfl, hb8⟩
  have hm := hx5; clear hx5
  refine WP.region ?_
  refine WL.runk 4 [0, 2, 10] [(0, .int .i64 n_0), (2, .int .i64 high_2), (10, .bool (decide (n_0 ≥ low_1)))] (by kernel_rfl) ?_
  refine WL.case (decide (n_0 ≥ low_1)) [10] ⟨rfl, trivial⟩ (fun hc6 => ?_) (fun hc6 => ?_)
  · have hm := iteT hm hc6
    refine WL.runk 5 [6] [(6, .bool (decide (n_0 ≤ high_2)))] (by kernel_rfl) ?_
    refine WL.nil ?_
    obtain rfl := Option.some.inj hm
    exact WQ.post' ⟨rfl, (Ext.refl w), (Nat.le_refl _), (SH.nil _ _)⟩ ⟨rfl, trivial⟩
  have hm := iteF hm hc6
  refine WL.runk 5 [6] [(6, .bool false)] (by kernel_rfl) ?_
  refine WL.nil ?_
  obtain rfl := Option.some.inj hm
  exact WQ.post' ⟨rfl, (Ext.refl w), (Nat.le_refl _), (SH.nil _ _)⟩ ⟨rfl, trivial⟩

theorem c_67 (n : Nat) (word_0 : List UInt8) (low_1 : Int) (high_2 : Int) (w : World) {r : Bool} (hm : m_spec_l24Number n word_0 low_1 high_2 = some r)  :
    CallV Tryd.prog 67 #[.string (bs word_0), .int .i64 low_1, .int .i64 high_2] w (fun v w' => v = .bool r ∧ Ext w w') := by
  unfold m_spec_l24Number at hm
  refine CallV.enter Tryd.func67 rfl (by kernel_rfl) Tryd.ntmps67 (env := [(0, .string (bs word_0)), (1, .int .i64 low_1), (2, .int .i64 high_2)]) ⟨rfl, rfl, rfl, trivial⟩ ?_
  refine WP.seq (fun K1 hK1 => ?_)
  refine WP.region ?_
  refine WL.runk 1 [0, 1, 2] [(0, .string (bs word_0)), (1, .int .i64 low_1), (2, .int .i64 high_2)] (by kernel_rfl) ?_
  refine WL.nil ?_
  refine WQ.then_normal (hK1 _ _ _ ?_)
  refine WP.seq (fun K2 hK2 => ?_)
  refine WP.region ?_
  refine WL.runk 1 [1, 2, 10] [(1, .int .i64 low_1), (2, .int .i64 high_2), (10, .string (bs word_0))] (by kernel_rfl) ?_
  obtain ⟨x3, hx4, hm⟩ := bindE hm
  refine WL.call 73 #[.string (bs word_0)] rfl rfl (by kernel_rfl) (c_73 n word_0 w hx4 ) ?_
  rintro _ w5 ⟨rfl, hE6⟩
  refine ⟨_, rfl, ?_⟩
  have hb8 : Ext w w5 := Ext.trans (Ext.refl w) hE6
  have hL9 : w.heap.size ≤ w5.heap.size := Nat.le_trans (Nat.le_refl _) hE6.size
  have hS10 : SH w5 w.heap.size [] := SH.ext (SH.nil _ _) hE6
  refine WL.runk 5 [1, 2, 7, 8] [(1, .int .i64 low_1), (2, .int .i64 high_2), (7, .int .i64 x3.1), (8, .bool x3.2)] (by kernel_rfl) ?_
  refine WL.nil ?_
  refine WQ.then_normal (hK2 _ _ _ ?_)
  refine WP.seq (fun K11 hK11 => ?_)
  obtain ⟨x21, hx22, hm⟩ := bindE hm
  refine WP.cut (fun env' w' => env' = [(6, .bool x21)] ∧ Ext w w' ∧ w.heap.size ≤ w'.heap.size ∧ SH w' w.heap.size []) ?_ ?_
  rotate_left
  · clear hx22
    rintro _ w32 ⟨rfl, hb33, hL34, hS35⟩
    refine WQ.then_normal (hK11 _ _ _ ?_)
    refine WP.ret ?_
    obtain rfl := Option.some.inj hm
    exact WQ.ret1 _ rfl rfl ⟨rfl, hb33⟩
  have hm := hx22; clear hx22
  refine WP.region ?_
  refine WL.runk 2 [1, 2, 7, 15] [(1, .int .i64 low_1), (2, .int .i64 high_2), (7, .int .i64 x3.1), (15, .bool x3.2)] (by kernel_rfl) ?_
  refine WL.case x3.2 [15] ⟨rfl, trivial⟩ (fun hc23 => ?_) (fun hc23 => ?_)
  rotate_left
  · have hm := iteF hm hc23
    refine WL.runk 6 [6] [(6, .bool false)] (by kernel_rfl) ?_
    refine WL.nil ?_
    obtain rfl := Option.some.inj hm
    exact WQ.post' ⟨rfl, hb8, hL9, hS10⟩ ⟨rfl, trivial⟩
  have hm := iteT hm hc23
  refine WL.runk 3 [15, 16, 17, 18] [(15, .bool true), (16, .int .i64 x3.1), (17, .int .i64 low_1), (18, .int .i64 high_2)] (by kernel_rfl) ?_
  obtain ⟨x24, hx25, hm⟩ := bindE hm
  refine WL.call 82 #[.int .i64 x3.1, .int .i64 low_1, .int .i64 high_2] rfl rfl (by kernel_rfl) (c_82 n x3.1 low_1 high_2 w5 hx25 ) ?_
  rintro _ w26 ⟨rfl, hE27⟩
  refine ⟨_, rfl, ?_⟩
  have hb29 : Ext w w26 := Ext.trans hb8 hE27
  have hL30 : w.heap.size ≤ w26.heap.size := Nat.le_trans hL9 hE27.size
  have hS31 : SH w26 w.heap.size [] := SH.ext hS10 hE27
  refine WL.runk 2 [6] [(6, .bool x24)] (by kernel_rfl) ?_
  refine WL.nil ?_
  obtain rfl := Option.some.inj hm
  exact WQ.post' ⟨rfl, hb29, hL30, hS31⟩ ⟨rfl, trivial⟩

theorem c_46 (n : Nat) (w_0 : List (List UInt8)) (a0' : Option Addr) (c0' : Nat) (w : World) {r : Int} (hm : m_spec_l24Problem n w_0 = some r) (h0 : Rd fStr.ty w a0' w_0) (_hle0 : w_0.length ≤ c0') :
    CallV Tryd.prog 46 #[.slice a0' w_0.length c0'] w (fun v w' => v = .int .i64 r ∧ Ext w w') := by
  unfold m_spec_l24Problem at hm
  refine CallV.enter Tryd.func46 rfl (by kernel_rfl) Tryd.ntmps46 (env := [(0, .slice a0' w_0.length c0')]) ⟨rfl, trivial⟩ ?_
  refine WP.seq (fun K1 hK1 => ?_)
  refine WP.region ?_
  refine WL.runk 1 [0] [(0, .slice a0' w_0.length c0')] (by kernel_rfl) ?_
  refine WL.nil ?_
  refine WQ.then_normal (hK1 _ _ _ ?_)
  refine WP.seq (fun K2 hK2 => ?_)
  refine WP.seq (fun K3 hK3 => ?_)
  refine WP.region ?_
  refine WL.runk 3 [0, 7] [(0, .slice a0' w_0.length c0'), (7, .bool ((w_0.length : Int) == 0))] (by kernel_rfl) ?_
  refine WL.nil ?_
  refine WQ.then_normal (hK3 _ _ _ ?_)
  refine WP.cond ((w_0.length : Int) == 0) rfl rfl (fun hc4 => ?_) (fun hc4 => ?_)
  · have hm := iteT hm hc4
    refine WP.seq (fun K5 hK5 => ?_)
    refine WP.region ?_
    refine WL.runk 1 [2] [(2, .int .i64 1)] (by kernel_rfl) ?_
    refine WL.nil ?_
    refine WQ.then_normal (hK5 _ _ _ ?_)
    refine WP.ret ?_
    refine WQ.then_ret ?_
    obtain rfl := Option.some.inj hm
    exact WQ.ret1 _ rfl rfl ⟨rfl, (Ext.refl w)⟩
  have hm := iteF hm hc4
  refine WP.skip ?_
  refine WQ.then_normal (hK2 _ _ _ ?_)
  refine WP.seq (fun K6 hK6 => ?_)
  refine WP.region ?_
  refine WL.runk 1 [0, 8] [(0, .slice a0' w_0.length c0'), (8, .slice a0' w_0.length c0')] (by kernel_rfl) ?_
  obtain ⟨x7, hx8, hm⟩ := bindE hm
  refine WL.st (.pointer (some (at_ a0' (Int.toNat 0 * 1)))) (ST.index (T := fStr.ty) (xs := w_0) (Rd.below h0 (Ext.refl w)) hx8 rfl rfl rfl Tryd.underlying22 (info9).1 (info9).2.1) rfl rfl rfl ?_
  refine WL.st (.string (bs x7)) (ST.load (cell_ext (Rd.flat (F := fStr) (Rd.below h0 (Ext.refl w)) hx8 0 rfl)) rfl rfl Tryd.underlying9 rfl) rfl rfl rfl ?_
  obtain ⟨x9, hx10, hm⟩ := bindE hm
  refine WL.call 57 #[.string (bs x7)] rfl rfl (by kernel_rfl) (c_57 n x7 w hx10 ) ?_
  rintro _ w11 ⟨rfl, hE12⟩
  refine ⟨_, rfl, ?_⟩
  have hb14 : Ext w w11 := Ext.trans (Ext.refl w) hE12
  have hL15 : w.heap.size ≤ w11.heap.size := Nat.le_trans (Nat.le_refl _) hE12.size
  have hS16 : SH w11 w.heap.size [] := SH.ext (SH.nil _ _) hE12
  refine WL.runk 1 [0, 3] [(0, .slice a0' w_0.length c0'), (3, .int .i64 x9)] (by kernel_rfl) ?_
  refine WL.nil ?_
  refine WQ.then_normal (hK6 _ _ _ ?_)
  refine WP.seq (fun K17 hK17 => ?_)
  refine WP.seq (fun K18 hK18 => ?_)
  refine WP.region ?_
  refine WL.runk 2 [0, 3, 13] [(0, .slice a0' w_0.length c0'), (3, .int .i64 x9), (13, .bool (decide (x9 < 0)))] (by kernel_rfl) ?_
  refine WL.nil ?_
  refine WQ.then_normal (hK18 _ _ _ ?_)
  refine WP.cond (decide (x9 < 0)) rfl rfl (fun hc19 => ?_) (fun hc19 => ?_)
  · have hm := iteT hm hc19
    refine WP.seq (fun K20 hK20 => ?_)
    refine WP.region ?_
    refine WL.runk 1 [2] [(2, .int .i64 1)] (by kernel_rfl) ?_
    refine WL.nil ?_
    refine WQ.then_normal (hK20 _ _ _ ?_)
    refine WP.ret ?_
    refine WQ.then_ret ?_
    obtain rfl := Option.some.inj hm
    exact WQ.ret1 _ rfl rfl ⟨rfl, hb14⟩
  have hm := iteF hm hc19
  refine WP.skip ?_
  refine WQ.then_normal (hK17 _ _ _ ?_)
  refine WP.seq (fun K21 hK21 => ?_)
  refine WP.seq (fun K22 hK22 => ?_)
  refine WP.region ?_
  refine WL.runk 3 [0, 3, 14, 16] [(0, .slice a0' w_0.length c0'), (3, .int .i64 x9), (14, .int .i64 x9), (16, .int .i64 (w_0.length : Int))] (by kernel_rfl) ?_
  obtain ⟨x23, hx24, hm⟩ := bindE hm
  refine WL.call 66 #[.int .i64 x9, .int .i64 (w_0.length : Int)] rfl rfl (by kernel_rfl) (c_66 n x9 (w_0.length : Int) w11 hx24 ) ?_
  rintro _ w25 ⟨rfl, hE26⟩
  refine ⟨_, rfl, ?_⟩
  have hb28 : Ext w w25 := Ext.trans hb14 hE26
  have hL29 : w.heap.size ≤ w25.heap.size := Nat.le_trans hL15 hE26.size
  have hS30 : SH w25 w.heap.size [] := SH.ext hS16 hE26
  refine WL.runk 1 [0, 3, 18] [(0, .slice a0' w_0.length c0'), (3, .int .i64 x9), (18, .bool (!x23))] (by kernel_rfl) ?_
  refine WL.nil ?_
  refine WQ.then_normal (hK22 _ _ _ ?_)
  refine WP.cond (!x23) rfl rfl (fun hc31 => ?_) (fun hc31 => ?_)
  · have hm := iteT hm hc31
    refine WP.seq (fun K32 hK32 => ?_)
    refine WP.region ?_
    refine WL.runk 1 [2] [(2, .int .i64 2)] (by kernel_rfl) ?_
    refine WL.nil ?_
    refine WQ.then_normal (hK32 _ _ _ ?_)
    refine WP.ret ?_
    refine WQ.then_ret ?_
    obtain rfl := Option.some.inj hm
    exact WQ.ret1 _ rfl rfl ⟨rfl, hb28⟩
  have hm := iteF hm hc31
  refine WP.skip ?_
  refine WQ.then_normal (hK21 _ _ _ ?_)
  refine WP.seq (fun K33 hK33 => ?_)
  refine WP.seq (fun K34 hK34 => ?_)
  obtain ⟨x69, hx70, hm⟩ := bindE hm
  refine WP.cut (fun env' w' => env' = [(0, .slice a0' w_0.length c0'), (3, .int .i64 x9), (38, .bool x69)] ∧ Ext w w' ∧ w.heap.size ≤ w'.heap.size ∧ SH w' w.heap.size []) ?_ ?_
  · have hm := hx70; clear hx70
    refine WP.region ?_
    refine WL.runk 3 [0, 3, 21] [(0, .slice a0' w_0.length c0'), (3, .int .i64 x9), (21, .bool (decide (x9 ≤ 2)))] (by kernel_rfl) ?_
    refine WL.case (decide (x9 ≤ 2)) [21] ⟨rfl, trivial⟩ (fun hc71 => ?_) (fun hc71 => ?_)
    rotate_left
    · have hm := iteF hm hc71
      refine WL.runk 10 [0, 3, 28, 31] [(0, .slice a0' w_0.length c0'), (3, .int .i64 x9), (28, .bool false), (31, .bool (x9 == 0))] (by kernel_rfl) ?_
      refine WL.case (x9 == 0) [31] ⟨rfl, trivial⟩ (fun hc94 => ?_) (fun hc94 => ?_)
      rotate_left
      · have hm := iteF hm hc94
        refine WL.runk 7 [0, 3, 38] [(0, .slice a0' w_0.length c0'), (3, .int .i64 x9), (38, .bool false)] (by kernel_rfl) ?_
        refine WL.nil ?_
        obtain rfl := Option.some.inj hm
        exact WQ.post' ⟨rfl, hb28, hL29, hS30⟩ ⟨rfl, rfl, rfl, trivial⟩
      have hm := iteT hm hc94
      refine WL.runk 1 [0, 3, 28, 31, 32] [(0, .slice a0' w_0.length c0'), (3, .int .i64 x9), (28, .bool false), (31, .bool true), (32, .slice a0' w_0.length c0')] (by kernel_rfl) ?_
      obtain ⟨x95, hx96, hm⟩ := bindE hm
      refine WL.st (.pointer (some (at_ a0' (Int.toNat 2 * 1)))) (ST.index (T := fStr.ty) (xs := w_0) (Rd.below h0 hb28) hx96 rfl rfl rfl Tryd.underlying22 (info9).1 (info9).2.1) rfl rfl rfl ?_
      refine WL.st (.string (bs x95)) (ST.load (cell_ext (Rd.flat (F := fStr) (Rd.below h0 hb28) hx96 0 rfl)) rfl rfl Tryd.underlying9 rfl) rfl rfl rfl ?_
      obtain ⟨x97, hx98, hm⟩ := bindE hm
      refine WL.call 48 #[.string (bs x95)] rfl rfl (by kernel_rfl) (c_48 n x95 w25 hx98 ) ?_
      rintro _ w99 ⟨rfl, hE100⟩
      refine ⟨_, rfl, ?_⟩
      have hb102 : Ext w w99 := Ext.trans hb28 hE100
      have hL103 : w.heap.size ≤ w99.heap.size := Nat.le_trans hL29 hE100.size
      have hS104 : SH w99 w.heap.size [] := SH.ext hS30 hE100
      refine WL.runk 3 [0, 3, 38] [(0, .slice a0' w_0.length c0'), (3, .int .i64 x9), (38, .bool (!x97))] (by kernel_rfl) ?_
      refine WL.nil ?_
      obtain rfl := Option.some.inj hm
      exact WQ.post' ⟨rfl, hb102, hL103, hS104⟩ ⟨rfl, rfl, rfl, trivial⟩
    have hm := iteT hm hc71
    refine WL.runk 1 [0, 3, 21, 22] [(0, .slice a0' w_0.length c0'), (3, .int .i64 x9), (21, .bool true), (22, .slice a0' w_0.length c0')] (by kernel_rfl) ?_
    obtain ⟨x72, hx73, hm⟩ := bindE hm
    refine WL.st (.pointer (some (at_ a0' (Int.toNat 1 * 1)))) (ST.index (T := fStr.ty) (xs := w_0) (Rd.below h0 hb28) hx73 rfl rfl rfl Tryd.underlying22 (info9).1 (info9).2.1) rfl rfl rfl ?_
    refine WL.st (.string (bs x72)) (ST.load (cell_ext (Rd.flat (F := fStr) (Rd.below h0 hb28) hx73 0 rfl)) rfl rfl Tryd.underlying9 rfl) rfl rfl rfl ?_
    obtain ⟨x74, hx75, hm⟩ := bindE hm
    refine WL.call 48 #[.string (bs x72)] rfl rfl (by kernel_rfl) (c_48 n x72 w25 hx75 ) ?_
    rintro _ w76 ⟨rfl, hE77⟩
    refine ⟨_, rfl, ?_⟩
    have hb79 : Ext w w76 := Ext.trans hb28 hE77
    have hL80 : w.heap.size ≤ w76.heap.size := Nat.le_trans hL29 hE77.size
    have hS81 : SH w76 w.heap.size [] := SH.ext hS30 hE77
    refine WL.runk 3 [0, 3, 28] [(0, .slice a0' w_0.length c0'), (3, .int .i64 x9), (28, .bool (!x74))] (by kernel_rfl) ?_
    refine WL.case (!x74) [28] ⟨rfl, trivial⟩ (fun hc82 => ?_) (fun hc82 => ?_)
    · have hm := iteT hm hc82
      refine WL.runk 10 [0, 3, 38] [(0, .slice a0' w_0.length c0'), (3, .int .i64 x9), (38, .bool true)] (by kernel_rfl) ?_
      refine WL.nil ?_
      obtain rfl := Option.some.inj hm
      exact WQ.post' ⟨rfl, hb79, hL80, hS81⟩ ⟨rfl, rfl, rfl, trivial⟩
    have hm := iteF hm hc82
    refine WL.runk 3 [0, 3, 28, 31] [(0, .slice a0' w_0.length c0'), (3, .int .i64 x9), (28, .bool false), (31, .bool (x9 == 0))] (by kernel_rfl) ?_
    refine WL.case (x9 == 0) [31] ⟨rfl, trivial⟩ (fun hc83 => ?_) (fun hc83 => ?_)
    rotate_left
    · have hm := iteF hm hc83
      refine WL.runk 7 [0, 3, 38] [(0, .slice a0' w_0.length c0'), (3, .int .i64 x9), (38, .bool false)] (by kernel_rfl) ?_
      refine WL.nil ?_
      obtain rfl := Option.some.inj hm
      exact WQ.post' ⟨rfl, hb79, hL80, hS81⟩ ⟨rfl, rfl, rfl, trivial⟩
    have hm := iteT hm hc83
    refine WL.runk 1 [0, 3, 28, 31, 32] [(0, .slice a0' w_0.length c0'), (3, .int .i64 x9), (28, .bool false), (31, .bool true), (32, .slice a0' w_0.length c0')] (by kernel_rfl) ?_
    obtain ⟨x84, hx85, hm⟩ := bindE hm
    refine WL.st (.pointer (some (at_ a0' (Int.toNat 2 * 1)))) (ST.index (T := fStr.ty) (xs := w_0) (Rd.below h0 hb79) hx85 rfl rfl rfl Tryd.underlying22 (info9).1 (info9).2.1) rfl rfl rfl ?_
    refine WL.st (.string (bs x84)) (ST.load (cell_ext (Rd.flat (F := fStr) (Rd.below h0 hb79) hx85 0 rfl)) rfl rfl Tryd.underlying9 rfl) rfl rfl rfl ?_
    obtain ⟨x86, hx87, hm⟩ := bindE hm
    refine WL.call 48 #[.string (bs x84)] rfl rfl (by kernel_rfl) (c_48 n x84 w76 hx87 ) ?_
    rintro _ w88 ⟨rfl, hE89⟩
    refine ⟨_, rfl, ?_⟩
    have hb91 : Ext w w88 := Ext.trans hb79 hE89
    have hL92 : w.heap.size ≤ w88.heap.size := Nat.le_trans hL80 hE89.size
    have hS93 : SH w88 w.heap.size [] := SH.ext hS81 hE89
    refine WL.runk 3 [0, 3, 38] [(0, .slice a0' w_0.length c0'), (3, .int .i64 x9), (38, .bool (!x86))] (by kernel_rfl) ?_
    refine WL.nil ?_
    obtain rfl := Option.some.inj hm
    exact WQ.post' ⟨rfl, hb91, hL92, hS93⟩ ⟨rfl, rfl, rfl, trivial⟩
  clear hx70
  rintro _ w105 ⟨rfl, hb106, hL107, hS108⟩
  refine WQ.then_normal (hK34 _ _ _ ?_)
  refine WP.cond x69 rfl rfl (fun hc109 => ?_) (fun hc109 => ?_)
  · have hm := iteT hm hc109
    refine WP.seq (fun K110 hK110 => ?_)
    refine WP.region ?_
    refine WL.runk 1 [2] [(2, .int .i64 4)] (by kernel_rfl) ?_
    refine WL.nil ?_
    refine WQ.then_normal (hK110 _ _ _ ?_)
    refine WP.ret ?_
    refine WQ.then_ret ?_
    obtain rfl := Option.some.inj hm
    exact WQ.ret1 _ rfl rfl ⟨rfl, hb106⟩
  have hm := iteF hm hc109
  refine WP.skip ?_
  refine WQ.then_normal (hK33 _ _ _ ?_)
  refine WP.seq (fun K111 hK111 => ?_)
  refine WP.region ?_
  refine WL.runk 1 [0, 3, 4] [(0, .slice a0' w_0.length c0'), (3, .int .i64 x9), (4, .bool true)] (by kernel_rfl) ?_
  refine WL.nil ?_
  refine WQ.then_normal (hK111 _ _ _ ?_)
  refine WP.seq (fun K112 hK112 => ?_)
  refine WP.seq (fun K113 hK113 => ?_)
  refine WP.region ?_
  refine WL.runk 1 [0, 4, 39] [(0, .slice a0' w_0.length c0'), (4, .bool true), (39, .int .i64 x9)] (by kernel_rfl) ?_
  refine WL.nil ?_
  refine WQ.then_normal (hK113 _ _ _ ?_)
  refine WP.block ?_
  refine WP.seq (fun K114 hK114 => ?_)
  refine WP.region ?_
  refine WL.runk 2 [0, 4, 39, 40] [(0, .slice a0' w_0.length c0'), (4, .bool true), (39, .int .i64 x9), (40, .bool (x9 == 2))] (by kernel_rfl) ?_
  refine WL.nil ?_
  refine WQ.then_normal (hK114 _ _ _ ?_)
  obtain ⟨x514, hx515, hm⟩ := bindE hm
  refine WP.cut (fun env' w' => env' = [(4, .bool x514)] ∧ Ext w w' ∧ w.heap.size ≤ w'.heap.size ∧ SH w' w.heap.size []) ?_ ?_
  rotate_left
  · clear hx515
    rintro _ w914 ⟨rfl, hb915, hL916, hS917⟩
    refine WQ.block_normal ?_
    refine WQ.then_normal (hK112 _ _ _ ?_)
    refine WP.seq (fun K918 hK918 => ?_)
    refine WP.seq (fun K919 hK919 => ?_)
    refine WP.region ?_
    refine WL.runk 2 [76] [(76, .bool (!x514))] (by kernel_rfl) ?_
    refine WL.nil ?_
    refine WQ.then_normal (hK919 _ _ _ ?_)
    refine WP.cond (!x514) rfl rfl (fun hc920 => ?_) (fun hc920 => ?_)
    · have hm := iteT hm hc920
      refine WP.seq (fun K921 hK921 => ?_)
      refine WP.region ?_
      refine WL.runk 1 [2] [(2, .int .i64 3)] (by kernel_rfl) ?_
      refine WL.nil ?_
      refine WQ.then_normal (hK921 _ _ _ ?_)
      refine WP.ret ?_
      refine WQ.then_ret ?_
      obtain rfl := Option.some.inj hm
      exact WQ.ret1 _ rfl rfl ⟨rfl, hb915⟩
    have hm := iteF hm hc920
    refine WP.skip ?_
    refine WQ.then_normal (hK918 _ _ _ ?_)
    refine WP.seq (fun K922 hK922 => ?_)
    refine WP.region ?_
    refine WL.runk 1 [2] [(2, .int .i64 0)] (by kernel_rfl) ?_
    refine WL.nil ?_
    refine WQ.then_normal (hK922 _ _ _ ?_)
    refine WP.ret ?_
    obtain rfl := Option.some.inj hm
    exact WQ.ret1 _ rfl rfl ⟨rfl, hb915⟩
  have hm := hx515; clear hx515
  refine WP.cond (x9 == 2) rfl rfl (fun hc115 => ?_) (fun hc115 => ?_)
  · have hm := iteT hm hc115
    refine WP.region ?_
    refine WL.runk 1 [42] [(42, .slice a0' w_0.length c0')] (by kernel_rfl) ?_
    obtain ⟨x516, hx517, hm⟩ := bindE hm
    refine WL.st (.pointer (some (at_ a0' (Int.toNat 2 * 1)))) (ST.index (T := fStr.ty) (xs := w_0) (Rd.below h0 hb106) hx517 rfl rfl rfl Tryd.underlying22 (info9).1 (info9).2.1) rfl rfl rfl ?_
    refine WL.st (.string (bs x516)) (ST.load (cell_ext (Rd.flat (F := fStr) (Rd.below h0 hb106) hx517 0 rfl)) rfl rfl Tryd.underlying9 rfl) rfl rfl rfl ?_
    obtain ⟨x518, hx519, hm⟩ := bindE hm
    refine WL.call 67 #[.string (bs x516), .int .i64 10, .int .i64 300] rfl rfl (by kernel_rfl) (c_67 n x516 10 300 w105 hx519 ) ?_
    rintro _ w520 ⟨rfl, hE521⟩
    refine ⟨_, rfl, ?_⟩
    have hb523 : Ext w w520 := Ext.trans hb106 hE521
    have hL524 : w.heap.size ≤ w520.heap.size := Nat.le_trans hL107 hE521.size
    have hS525 : SH w520 w.heap.size [] := SH.ext hS108 hE521
    refine WL.runk 1 [4] [(4, .bool x518)] (by kernel_rfl) ?_
    refine WL.nil ?_
    obtain rfl := Option.some.inj hm
    exact WQ.post' ⟨rfl, hb523, hL524, hS525⟩ ⟨rfl, trivial⟩
  have hm := iteF hm hc115
  refine WP.seq (fun K526 hK526 => ?_)
  refine WP.region ?_
  refine WL.runk 2 [0, 4, 39, 46] [(0, .slice a0' w_0.length c0'), (4, .bool true), (39, .int .i64 x9), (46, .bool (x9 == 3))] (by kernel_rfl) ?_
  refine WL.nil ?_
  refine WQ.then_normal (hK526 _ _ _ ?_)
  obtain ⟨x718, hx719, hm⟩ := bindE hm
  refine WP.cut (fun env' w' => env' = [(4, .bool x718)] ∧ Ext w w' ∧ w.heap.size ≤ w'.heap.size ∧ SH w' w.heap.size []) ?_ ?_
  rotate_left
  · clear hx719
    rintro _ w910 ⟨rfl, hb911, hL912, hS913⟩
    obtain rfl := Option.some.inj hm
    exact WQ.post' ⟨rfl, hb911, hL912, hS913⟩ ⟨rfl, trivial⟩
  have hm := hx719; clear hx719
  refine WP.cond (x9 == 3) rfl rfl (fun hc527 => ?_) (fun hc527 => ?_)
  · have hm := iteT hm hc527
    refine WP.region ?_
    refine WL.runk 1 [48] [(48, .slice a0' w_0.length c0')] (by kernel_rfl) ?_
    obtain ⟨x720, hx721, hm⟩ := bindE hm
    refine WL.st (.pointer (some (at_ a0' (Int.toNat 1 * 1)))) (ST.index (T := fStr.ty) (xs := w_0) (Rd.below h0 hb106) hx721 rfl rfl rfl Tryd.underlying22 (info9).1 (info9).2.1) rfl rfl rfl ?_
    refine WL.st (.string (bs x720)) (ST.load (cell_ext (Rd.flat (F := fStr) (Rd.below h0 hb106) hx721 0 rfl)) rfl rfl Tryd.underlying9 rfl) rfl rfl rfl ?_
    obtain ⟨x722, hx723, hm⟩ := bindE hm
    refine WL.call 67 #[.string (bs x720), .int .i64 0, .int .i64 1200] rfl rfl (by kernel_rfl) (c_67 n x720 0 1200 w105 hx723 ) ?_
    rintro _ w724 ⟨rfl, hE725⟩
    refine ⟨_, rfl, ?_⟩
    have hb727 : Ext w w724 := Ext.trans hb106 hE725
    have hL728 : w.heap.size ≤ w724.heap.size := Nat.le_trans hL107 hE725.size
    have hS729 : SH w724 w.heap.size [] := SH.ext hS108 hE725
    refine WL.runk 1 [4] [(4, .bool x722)] (by kernel_rfl) ?_
    refine WL.nil ?_
    obtain rfl := Option.some.inj hm
    exact WQ.post' ⟨rfl, hb727, hL728, hS729⟩ ⟨rfl, trivial⟩
  have hm := iteF hm hc527
  refine WP.seq (fun K730 hK730 => ?_)
  refine WP.region ?_
  refine WL.runk 2 [0, 4, 39, 52] [(0, .slice a0' w_0.length c0'), (4, .bool true), (39, .int .i64 x9), (52, .bool (x9 == 4))] (by kernel_rfl) ?_
  refine WL.nil ?_
  refine WQ.then_normal (hK730 _ _ _ ?_)
  obtain ⟨x818, hx819, hm⟩ := bindE hm
  refine WP.cut (fun env' w' => env' = [(4, .bool x818)] ∧ Ext w w' ∧ w.heap.size ≤ w'.heap.size ∧ SH w' w.heap.size []) ?_ ?_
  rotate_left
  · clear hx819
    rintro _ w906 ⟨rfl, hb907, hL908, hS909⟩
    obtain rfl := Option.some.inj hm
    exact WQ.post' ⟨rfl, hb907, hL908, hS909⟩ ⟨rfl, trivial⟩
  have hm := hx819; clear hx819
  refine WP.cond (x9 == 4) rfl rfl (fun hc731 => ?_) (fun hc731 => ?_)
  · have hm := iteT hm hc731
    refine WP.region ?_
    refine WL.runk 1 [54] [(54, .slice a0' w_0.length c0')] (by kernel_rfl) ?_
    obtain ⟨x820, hx821, hm⟩ := bindE hm
    refine WL.st (.pointer (some (at_ a0' (Int.toNat 1 * 1)))) (ST.index (T := fStr.ty) (xs := w_0) (Rd.below h0 hb106) hx821 rfl rfl rfl Tryd.underlying22 (info9).1 (info9).2.1) rfl rfl rfl ?_
    refine WL.st (.string (bs x820)) (ST.load (cell_ext (Rd.flat (F := fStr) (Rd.below h0 hb106) hx821 0 rfl)) rfl rfl Tryd.underlying9 rfl) rfl rfl rfl ?_
    obtain ⟨x822, hx823, hm⟩ := bindE hm
    refine WL.call 67 #[.string (bs x820), .int .i64 1, .int .i64 12] rfl rfl (by kernel_rfl) (c_67 n x820 1 12 w105 hx823 ) ?_
    rintro _ w824 ⟨rfl, hE825⟩
    refine ⟨_, rfl, ?_⟩
    have hb827 : Ext w w824 := Ext.trans hb106 hE825
    have hL828 : w.heap.size ≤ w824.heap.size := Nat.le_trans hL107 hE825.size
    have hS829 : SH w824 w.heap.size [] := SH.ext hS108 hE825
    refine WL.runk 1 [4] [(4, .bool x822)] (by kernel_rfl) ?_
    refine WL.nil ?_
    obtain rfl := Option.some.inj hm
    exact WQ.post' ⟨rfl, hb827, hL828, hS829⟩ ⟨rfl, trivial⟩
  have hm := iteF hm hc731
  refine WP.seq (fun K830 hK830 => ?_)
  refine WP.region ?_
  refine WL.runk 2 [0, 4, 58] [(0, .slice a0' w_0.length c0'), (4, .bool true), (58, .bool (x9 == 5))] (by kernel_rfl) ?_
  refine WL.nil ?_
  refine WQ.then_normal (hK830 _ _ _ ?_)
  obtain ⟨x866, hx867, hm⟩ := bindE hm
  refine WP.cut (fun env' w' => env' = [(4, .bool x866)] ∧ Ext w w' ∧ w.heap.size ≤ w'.heap.size ∧ SH w' w.heap.size []) ?_ ?_
  rotate_left
  · clear hx867
    rintro _ w902 ⟨rfl, hb903, hL904, hS905⟩
    obtain rfl := Option.some.inj hm
    exact WQ.post' ⟨rfl, hb903, hL904, hS905⟩ ⟨rfl, trivial⟩
  have hm := hx867; clear hx867
  refine WP.cond (x9 == 5) rfl rfl (fun hc831 => ?_) (fun hc831 => ?_)
  rotate_left
  · have hm := iteF hm hc831
    refine WP.skip ?_
    obtain rfl := Option.some.inj hm
    exact WQ.post' ⟨rfl, hb106, hL107, hS108⟩ ⟨rfl, trivial⟩
  have hm := iteT hm hc831
  obtain ⟨x882, hx883, hm⟩ := bindE hm
  refine WP.cut (fun env' w' => env' = [(4, .bool x882)] ∧ Ext w w' ∧ w.heap.size ≤ w'.heap.size ∧ SH w' w.heap.size []) ?_ ?_
  rotate_left
  · clear hx883
    rintro _ w898 ⟨rfl, hb899, hL900, hS901⟩
    obtain rfl := Option.some.inj hm
    exact WQ.post' ⟨rfl, hb899, hL900, hS901⟩ ⟨rfl, trivial⟩
  have hm := hx883; clear hx883
  refine WP.region ?_
  refine WL.runk 1 [0, 60] [(0, .slice a0' w_0.length c0'), (60, .slice a0' w_0.length c0')] (by kernel_rfl) ?_
  obtain ⟨x884, hx885, hm⟩ := bindE hm
  refine WL.st (.pointer (some (at_ a0' (Int.toNat 1 * 1)))) (ST.index (T := fStr.ty) (xs := w_0) (Rd.below h0 hb106) hx885 rfl rfl rfl Tryd.underlying22 (info9).1 (info9).2.1) rfl rfl rfl ?_
  refine WL.st (.string (bs x884)) (ST.load (cell_ext (Rd.flat (F := fStr) (Rd.below h0 hb106) hx885 0 rfl)) rfl rfl Tryd.underlying9 rfl) rfl rfl rfl ?_
  obtain ⟨x886, hx887, hm⟩ := bindE hm
  refine WL.call 67 #[.string (bs x884), .int .i64 10, .int .i64 80] rfl rfl (by kernel_rfl) (c_67 n x884 10 80 w105 hx887 ) ?_
  rintro _ w888 ⟨rfl, hE889⟩
  refine ⟨_, rfl, ?_⟩
  have hb891 : Ext w w888 := Ext.trans hb106 hE889
  have hL892 : w.heap.size ≤ w888.heap.size := Nat.le_trans hL107 hE889.size
  have hS893 : SH w888 w.heap.size [] := SH.ext hS108 hE889
  refine WL.runk 1 [0, 64] [(0, .slice a0' w_0.length c0'), (64, .bool x886)] (by kernel_rfl) ?_
  refine WL.case x886 [64] ⟨rfl, trivial⟩ (fun hc894 => ?_) (fun hc894 => ?_)
  rotate_left
  · have hm := iteF hm hc894
    refine WL.runk 11 [4] [(4, .bool false)] (by kernel_rfl) ?_
    refine WL.nil ?_
    obtain rfl := Option.some.inj hm
    exact WQ.post' ⟨rfl, hb891, hL892, hS893⟩ ⟨rfl, trivial⟩
  have hm := iteT hm hc894
  refine WL.runk 4 [0, 64, 68] [(0, .slice a0' w_0.length c0'), (64, .bool true), (68, .bool ((w_0.length : Int) == 2))] (by kernel_rfl) ?_
  refine WL.case ((w_0.length : Int) == 2) [68] ⟨rfl, trivial⟩ (fun hc895 => ?_) (fun hc895 => ?_)
  · have hm := iteT hm hc895
    refine WL.runk 7 [4] [(4, .bool true)] (by kernel_rfl) ?_
    refine WL.nil ?_
    obtain rfl := Option.some.inj hm
    exact WQ.post' ⟨rfl, hb891, hL892, hS893⟩ ⟨rfl, trivial⟩
  have hm := iteF hm hc895
  refine WL.runk 1 [64, 68, 69] [(64, .bool true), (68, .bool false), (69, .slice a0' w_0.length c0')] (by kernel_rfl) ?_
  obtain ⟨x896, hx897, hm⟩ := bindE hm
  refine WL.st (.pointer (some (at_ a0' (Int.toNat 2 * 1)))) (ST.index (T := fStr.ty) (xs := w_0) (Rd.below h0 hb891) hx897 rfl rfl rfl Tryd.underlying22 (info9).1 (info9).2.1) rfl rfl rfl ?_
  refine WL.st (.string (bs x896)) (ST.load (cell_ext (Rd.flat (F := fStr) (Rd.below h0 hb891) hx897 0 rfl)) rfl rfl Tryd.underlying9 rfl) rfl rfl rfl ?_
  refine WL.st (.bool (x896 == [100, 111, 117, 98, 108, 101])) (ST.streq (x := x896) (y := [100, 111, 117, 98, 108, 101]) rfl rfl rfl) rfl rfl rfl ?_
  refine WL.runk 3 [4] [(4, .bool (x896 == [100, 111, 117, 98, 108, 101]))] (by kernel_rfl) ?_
  refine WL.nil ?_
  obtain rfl := Option.some.inj hm
  exact WQ.post' ⟨rfl, hb891, hL892, hS893⟩ ⟨rfl, trivial⟩

theorem c_47 (n : Nat) (s_0 : List UInt8) (w : World) {r : List (List UInt8)} (hm : m_spec_SplitWords n s_0 = some r)  :
    CallV Tryd.prog 47 #[.string (bs s_0)] w (fun v w' => ∃ (ra0 : Option Addr) (rc0 : Nat), v = .slice ra0 r.length rc0 ∧ Ext w w' ∧ SH w' w.heap.size [aOwn fStr 9 ra0 rc0 r]) := by
  unfold m_spec_SplitWords at hm
  refine CallV.enter Tryd.func47 rfl (by kernel_rfl) Tryd.ntmps47 (env := [(0, .string (bs s_0))]) ⟨rfl, trivial⟩ ?_
  refine WP.seq (fun K1 hK1 => ?_)
  refine WP.region ?_
  refine WL.runk 1 [0] [(0, .string (bs s_0))] (by kernel_rfl) ?_
  refine WL.nil ?_
  refine WQ.then_normal (hK1 _ _ _ ?_)
  refine WP.seq (fun K2 hK2 => ?_)
  refine WP.region ?_
  refine WL.runk 1 [6] [(6, .string (bs s_0))] (by kernel_rfl) ?_
  obtain ⟨x3, hx4, hm⟩ := bindE hm
  refine WL.call 44 #[.string (bs s_0), .int .u8 32] rfl rfl (by kernel_rfl) (c_44 n s_0 32 w hx4 ) ?_
  rintro _ w8 ⟨a5, c6, rfl, hE9, hR10⟩
  refine ⟨_, rfl, ?_⟩
  have hb11 : Ext w w8 := Ext.trans (Ext.refl w) hE9
  have hL12 : w.heap.size ≤ w8.heap.size := Nat.le_trans (Nat.le_refl _) hE9.size
  have hS13 : SH w8 w.heap.size [aOwn fStr 9 a5 c6 x3] := SH.add (SH.nil _ _) hE9 (Nat.le_refl _) hR10
  refine WL.runk 1 [3] [(3, .slice a5 x3.length c6)] (by kernel_rfl) ?_
  refine WL.nil ?_
  refine WQ.then_normal (hK2 _ _ _ ?_)
  refine WP.seq (fun K14 hK14 => ?_)
  refine WP.region ?_
  refine WL.row fStr 9 ([] : List (List UInt8)) 0 #[] 8 (by kernel_rfl) rfl rfl rfl rfl rfl rfl rfl ?_
  intro a15 c16 w17 hE18 hR19
  have hb21 : Ext w w17 := Ext.trans hb11 hE18
  have hL22 : w.heap.size ≤ w17.heap.size := Nat.le_trans hL12 hE18.size
  have hS23 : SH w17 w.heap.size [aOwn fStr 9 a15 c16 ([] : List (List UInt8)), aOwn fStr 9 a5 c6 x3] := SH.add hS13 hE18 hL12 hR19
  refine WL.runk 1 [3, 4] [(3, .slice a5 x3.length c6), (4, .slice a15 (([] : List (List UInt8)).length) c16)] (by kernel_rfl) ?_
  refine WL.nil ?_
  refine WQ.then_normal (hK14 _ _ _ ?_)
  refine WP.seq (fun K24 hK24 => ?_)
  refine WP.seq (fun K25 hK25 => ?_)
  refine WP.region ?_
  refine WL.runk 1 [3, 4, 5] [(3, .slice a5 x3.length c6), (4, .slice a15 (([] : List (List UInt8)).length) c16), (5, .int .i64 0)] (by kernel_rfl) ?_
  refine WL.nil ?_
  refine WQ.then_normal (hK25 _ _ _ ?_)
  refine WP.block ?_
  obtain ⟨t40, ht41, hm⟩ := bindE hm
  have hmo35 := hm; clear hm
  refine WP.sub [(3, .slice a5 x3.length c6), (4, .slice a15 (([] : List (List UInt8)).length) c16), (5, .int .i64 0)] ⟨rfl, rfl, rfl, trivial⟩ ?_
  refine WP.loop (fun n' env' w' => ∃ (st26 : List (List UInt8) × Int) (a27 : Option Addr) (c28 : Nat), env' = [(3, .slice a5 x3.length c6), (4, .slice a27 st26.1.length c28), (5, .int .i64 st26.2)] ∧ Ext w w' ∧ w.heap.size ≤ w'.heap.size ∧ SH w' w.heap.size [aOwn fStr 9 a27 c28 st26.1, aOwn fStr 9 a5 c6 x3] ∧ loopN (m_spec_SplitWords_l1 n x3) n' st26 = some t40) n ⟨(([] : List (List UInt8)), 0), _, _, rfl, hb21, hL22, hS23, ht41⟩ ?_
  rintro n37 _ w30 ⟨st26, a27, c28, rfl, hb31, hL32, hS33, hl34⟩ K36 hK36
  obtain ⟨n38, s39, rfl, hm, hl34⟩ := loopN_some hl34
  unfold m_spec_SplitWords_l1 at hm
  refine WP.seq (fun K42 hK42 => ?_)
  refine WP.seq (fun K43 hK43 => ?_)
  refine WP.region ?_
  refine WL.runk 4 [3, 4, 5, 12] [(3, .slice a5 x3.length c6), (4, .slice a27 st26.1.length c28), (5, .int .i64 st26.2), (12, .bool (decide (st26.2 < (x3.length : Int))))] (by kernel_rfl) ?_
  refine WL.nil ?_
  refine WQ.then_normal (hK43 _ _ _ ?_)
  refine WP.cond (decide (st26.2 < (x3.length : Int))) rfl rfl (fun hc44 => ?_) (fun hc44 => ?_)
  rotate_left
  · have hm := iteF hm hc44
    refine WP.exit ?_
    refine WQ.then_exit ?_
    refine WQ.then_exit ?_
    refine WQ.block_here ?_
    obtain rfl := Option.some.inj hm
    obtain rfl := afterN_done hl34
    have hm := hmo35
    refine WQ.then_normal (hK24 _ _ _ ?_)
    refine WP.seq (fun K99 hK99 => ?_)
    refine WP.region ?_
    refine WL.runk 2 [2] [(2, .slice a27 st26.1.length c28)] (by kernel_rfl) ?_
    refine WL.nil ?_
    refine WQ.then_normal (hK99 _ _ _ ?_)
    refine WP.ret ?_
    obtain rfl := Option.some.inj hm
    exact WQ.ret1 _ rfl rfl ⟨_, _, rfl, hb31, (SH.take 1 hS33)⟩
  have hm := iteT hm hc44
  refine WP.skip ?_
  refine WQ.then_normal (hK42 _ _ _ ?_)
  refine WP.seq (fun K45 hK45 => ?_)
  refine WP.block ?_
  refine WP.seq (fun K46 hK46 => ?_)
  refine WP.region ?_
  refine WL.runk 2 [3, 4, 5, 15, 16] [(3, .slice a5 x3.length c6), (4, .slice a27 st26.1.length c28), (5, .int .i64 st26.2), (15, .slice a5 x3.length c6), (16, .int .i64 st26.2)] (by kernel_rfl) ?_
  obtain ⟨x47, hx48, hm⟩ := bindE hm
  refine WL.st (.pointer (some (at_ a5 (Int.toNat st26.2 * 1)))) (ST.index (T := fStr.ty) (xs := x3) (SH.rd (SH.front 1 hS33)) hx48 rfl rfl rfl Tryd.underlying22 (info9).1 (info9).2.1) rfl rfl rfl ?_
  refine WL.st (.string (bs x47)) (ST.load (cell_ext (Rd.flat (F := fStr) (SH.rd (SH.front 1 hS33)) hx48 0 rfl)) rfl rfl Tryd.underlying9 rfl) rfl rfl rfl ?_
  refine WL.st (.bool (!(x47 == []))) (ST.strne (x := x47) (y := []) rfl rfl rfl) rfl rfl rfl ?_
  refine WL.sub [(3, .slice a5 x3.length c6), (4, .slice a27 st26.1.length c28), (5, .int .i64 st26.2), (19, .bool (!(x47 == [])))] ⟨rfl, rfl, rfl, rfl, trivial⟩ ?_
  refine WL.nil ?_
  refine WQ.then_normal (hK46 _ _ _ ?_)
  obtain ⟨x70, hx71, hm⟩ := bindE hm
  refine WP.cut (fun env' w' => ∃ (a72 : Option Addr) (c73 : Nat), env' = [(3, .slice a5 x3.length c6), (4, .slice a72 x70.length c73), (5, .int .i64 st26.2)] ∧ Ext w w' ∧ w.heap.size ≤ w'.heap.size ∧ SH w' w.heap.size [aOwn fStr 9 a72 c73 x70, aOwn fStr 9 a5 c6 x3]) ?_ ?_
  rotate_left
  · clear hx71
    rintro _ w95 ⟨a72, c73, rfl, hb96, hL97, hS98⟩
    refine WQ.block_normal ?_
    refine WQ.then_normal (hK45 _ _ _ ?_)
    refine WP.region ?_
    refine WL.runk 3 [3, 4, 5] [(3, .slice a5 x3.length c6), (4, .slice a72 x70.length c73), (5, .int .i64 (wI64 (st26.2 + 1)))] (by kernel_rfl) ?_
    refine WL.nil ?_
    obtain rfl := Option.some.inj hm
    exact WQ.round hK36 ⟨(x70, (wI64 (st26.2 + 1))), _, _, rfl, hb96, hL97, hS98, hl34⟩ (Nat.lt_succ_self _) ⟨rfl, rfl, rfl, trivial⟩
  have hm := hx71; clear hx71
  refine WP.cond (!(x47 == [])) rfl rfl (fun hc49 => ?_) (fun hc49 => ?_)
  rotate_left
  · have hm := iteF hm hc49
    refine WP.skip ?_
    obtain rfl := Option.some.inj hm
    exact WQ.post' ⟨_, _, rfl, hb31, hL32, hS33⟩ ⟨rfl, rfl, rfl, trivial⟩
  have hm := iteT hm hc49
  refine WP.region ?_
  refine WL.runk 3 [3, 5, 20, 21, 22] [(3, .slice a5 x3.length c6), (5, .int .i64 st26.2), (20, .slice a27 st26.1.length c28), (21, .slice a5 x3.length c6), (22, .int .i64 st26.2)] (by kernel_rfl) ?_
  obtain ⟨x75, hx76, hm⟩ := bindE hm
  refine WL.st (.pointer (some (at_ a5 (Int.toNat st26.2 * 1)))) (ST.index (T := fStr.ty) (xs := x3) (SH.rd (SH.front 1 hS33)) hx76 rfl rfl rfl Tryd.underlying22 (info9).1 (info9).2.1) rfl rfl rfl ?_
  refine WL.st (.string (bs x75)) (ST.load (cell_ext (Rd.flat (F := fStr) (SH.rd (SH.front 1 hS33)) hx76 0 rfl)) rfl rfl Tryd.underlying9 rfl) rfl rfl rfl ?_
  refine WL.row fStr 9 ([x75] : List (List UInt8)) 1 #[.string (bs x75)] 25 (by kernel_rfl) rfl rfl rfl rfl rfl rfl rfl ?_
  intro a77 c78 w79 hE80 hR81
  have hb83 : Ext w w79 := Ext.trans hb31 hE80
  have hL84 : w.heap.size ≤ w79.heap.size := Nat.le_trans hL32 hE80.size
  have hS85 : SH w79 w.heap.size [aOwn fStr 9 a77 c78 ([x75] : List (List UInt8)), aOwn fStr 9 a27 c28 st26.1, aOwn fStr 9 a5 c6 x3] := SH.add hS33 hE80 hL32 hR81
  obtain ⟨x86, hx87, hm⟩ := bindE hm
  refine WL.append (F := fStr) (xs := st26.1) (ys := ([x75] : List (List UInt8))) 26 (SH.front 1 hS85) hL84 (SH.rd (SH.front 0 hS85)) hx87 rfl rfl rfl Tryd.underlying22 (info9).1 (info9).2.2.1 (info9).2.1 (info9).2.2.2 rfl rfl rfl rfl rfl ?_
  intro a88 c89 w90 hB91 hS92
  have hb93 : Ext w w90 := Below.trans hb83 hB91
  have hL94 : w.heap.size ≤ w90.heap.size := Nat.le_trans hL84 hB91.size
  refine WL.runk 1 [3, 4, 5] [(3, .slice a5 x3.length c6), (5, .int .i64 st26.2), (4, .slice a88 x86.length c89)] (by kernel_rfl) ?_
  refine WL.nil ?_
  obtain rfl := Option.some.inj hm
  exact WQ.post' ⟨_, _, rfl, hb93, hL94, (SH.take 2 (SH.front 1 (SH.front 2 hS92)))⟩ ⟨rfl, rfl, rfl, trivial⟩

theorem c_50 (n : Nat) (s_0 : List UInt8) (w : World) {r : Bool} (hm : m_impl_IsName n s_0 = some r)  :
    CallV Tryd.prog 50 #[.string (bs s_0)] w (fun v w' => v = .bool r ∧ Ext w w') := by
  unfold m_impl_IsName at hm
  refine CallV.enter Tryd.func50 rfl (by kernel_rfl) Tryd.ntmps50 (env := [(0, .string (bs s_0))]) ⟨rfl, trivial⟩ ?_
  refine WP.seq (fun K1 hK1 => ?_)
  refine WP.region ?_
  refine WL.runk 1 [0] [(0, .string (bs s_0))] (by kernel_rfl) ?_
  refine WL.nil ?_
  refine WQ.then_normal (hK1 _ _ _ ?_)
  refine WP.seq (fun K2 hK2 => ?_)
  refine WP.seq (fun K3 hK3 => ?_)
  obtain ⟨x11, hx12, hm⟩ := bindE hm
  refine WP.cut (fun env' w' => env' = [(0, .string (bs s_0)), (21, .bool x11)] ∧ Ext w w' ∧ w.heap.size ≤ w'.heap.size ∧ SH w' w.heap.size []) ?_ ?_
  · have hm := hx12; clear hx12
    refine WP.region ?_
    refine WL.runk 4 [0, 7] [(0, .string (bs s_0)), (7, .bool (decide ((s_0.length : Int) < 1)))] (by kernel_rfl) ?_
    refine WL.case (decide ((s_0.length : Int) < 1)) [7] ⟨rfl, trivial⟩ (fun hc13 => ?_) (fun hc13 => ?_)
    · have hm := iteT hm hc13
      refine WL.runk 14 [0, 21] [(0, .string (bs s_0)), (21, .bool true)] (by kernel_rfl) ?_
      refine WL.nil ?_
      obtain rfl := Option.some.inj hm
      exact WQ.post' ⟨rfl, (Ext.refl w), (Nat.le_refl _), (SH.nil _ _)⟩ ⟨rfl, rfl, trivial⟩
    have hm := iteF hm hc13
    refine WL.runk 5 [0, 12] [(0, .string (bs s_0)), (12, .bool (decide ((s_0.length : Int) > 12)))] (by kernel_rfl) ?_
    refine WL.case (decide ((s_0.length : Int) > 12)) [12] ⟨rfl, trivial⟩ (fun hc14 => ?_) (fun hc14 => ?_)
    · have hm := iteT hm hc14
      refine WL.runk 9 [0, 21] [(0, .string (bs s_0)), (21, .bool true)] (by kernel_rfl) ?_
      refine WL.nil ?_
      obtain rfl := Option.some.inj hm
      exact WQ.post' ⟨rfl, (Ext.refl w), (Nat.le_refl _), (SH.nil _ _)⟩ ⟨rfl, rfl, trivial⟩
    have hm := iteF hm hc14
    refine WL.runk 1 [0, 12, 13] [(0, .string (bs s_0)), (12, .bool false), (13, .string (bs s_0))] (by kernel_rfl) ?_
    obtain ⟨x15, hx16, hm⟩ := bindE hm
    refine WL.st (.int .u8 (x15.toNat : Int)) (ST.sindex hx16 rfl rfl rfl Tryd.underlying9) rfl rfl rfl ?_
    refine WL.runk 3 [0, 17] [(0, .string (bs s_0)), (17, .bool (decide ((x15.toNat : Int) < 97)))] (by kernel_rfl) ?_
    refine WL.case (decide ((x15.toNat : Int) < 97)) [17] ⟨rfl, trivial⟩ (fun hc17 => ?_) (fun hc17 => ?_)
    · have hm := iteT hm hc17
      refine WL.runk 4 [0, 21] [(0, .string (bs s_0)), (21, .bool true)] (by kernel_rfl) ?_
      refine WL.nil ?_
      obtain rfl := Option.some.inj hm
      exact WQ.post' ⟨rfl, (Ext.refl w), (Nat.le_refl _), (SH.nil _ _)⟩ ⟨rfl, rfl, trivial⟩
    have hm := iteF hm hc17
    refine WL.runk 1 [0, 17, 18] [(0, .string (bs s_0)), (17, .bool false), (18, .string (bs s_0))] (by kernel_rfl) ?_
    obtain ⟨x18, hx19, hm⟩ := bindE hm
    refine WL.st (.int .u8 (x18.toNat : Int)) (ST.sindex hx19 rfl rfl rfl Tryd.underlying9) rfl rfl rfl ?_
    refine WL.runk 2 [0, 21] [(0, .string (bs s_0)), (21, .bool (decide ((x18.toNat : Int) > 122)))] (by kernel_rfl) ?_
    refine WL.nil ?_
    obtain rfl := Option.some.inj hm
    exact WQ.post' ⟨rfl, (Ext.refl w), (Nat.le_refl _), (SH.nil _ _)⟩ ⟨rfl, rfl, trivial⟩
  clear hx12
  rintro _ w20 ⟨rfl, hb21, hL22, hS23⟩
  refine WQ.then_normal (hK3 _ _ _ ?_)
  refine WP.cond x11 rfl rfl (fun hc24 => ?_) (fun hc24 => ?_)
  · have hm := iteT hm hc24
    refine WP.seq (fun K25 hK25 => ?_)
    refine WP.region ?_
    refine WL.runk 1 [2] [(2, .bool false)] (by kernel_rfl) ?_
    refine WL.nil ?_
    refine WQ.then_normal (hK25 _ _ _ ?_)
    refine WP.ret ?_
    refine WQ.then_ret ?_
    obtain rfl := Option.some.inj hm
    exact WQ.ret1 _ rfl rfl ⟨rfl, hb21⟩
  have hm := iteF hm hc24
  refine WP.skip ?_
  refine WQ.then_normal (hK2 _ _ _ ?_)
  refine WP.seq (fun K26 hK26 => ?_)
  refine WP.seq (fun K27 hK27 => ?_)
  refine WP.region ?_
  refine WL.runk 1 [0, 3] [(0, .string (bs s_0)), (3, .int .i64 1)] (by kernel_rfl) ?_
  refine WL.nil ?_
  refine WQ.then_normal (hK27 _ _ _ ?_)
  refine WP.block ?_
  obtain ⟨t39, ht40, hm⟩ := bindE hm
  have hmo34 := hm; clear hm
  refine WP.sub [(0, .string (bs s_0)), (3, .int .i64 1)] ⟨rfl, rfl, trivial⟩ ?_
  refine WP.loop (fun n' env' w' => ∃ (st28 : Int) , env' = [(0, .string (bs s_0)), (3, .int .i64 st28)] ∧ Ext w w' ∧ w.heap.size ≤ w'.heap.size ∧ SH w' w.heap.size [] ∧ loopN (m_impl_IsName_l1 n s_0) n' st28 = some t39) n ⟨1, rfl, hb21, hL22, hS23, ht40⟩ ?_
  rintro n36 _ w29 ⟨st28, rfl, hb30, hL31, hS32, hl33⟩ K35 hK35
  obtain ⟨n37, s38, rfl, hm, hl33⟩ := loopN_some hl33
  unfold m_impl_IsName_l1 at hm
  refine WP.seq (fun K41 hK41 => ?_)
  refine WP.seq (fun K42 hK42 => ?_)
  refine WP.region ?_
  refine WL.runk 4 [0, 3, 25] [(0, .string (bs s_0)), (3, .int .i64 st28), (25, .bool (decide (st28 < (s_0.length : Int))))] (by kernel_rfl) ?_
  refine WL.nil ?_
  refine WQ.then_normal (hK42 _ _ _ ?_)
  refine WP.cond (decide (st28 < (s_0.length : Int))) rfl rfl (fun hc43 => ?_) (fun hc43 => ?_)
  rotate_left
  · have hm := iteF hm hc43
    refine WP.exit ?_
    refine WQ.then_exit ?_
    refine WQ.then_exit ?_
    refine WQ.block_here ?_
    obtain rfl := Option.some.inj hm
    obtain rfl := afterN_done hl33
    have hm := hmo34
    refine WQ.then_normal (hK26 _ _ _ ?_)
    refine WP.seq (fun K106 hK106 => ?_)
    refine WP.region ?_
    refine WL.runk 1 [2] [(2, .bool true)] (by kernel_rfl) ?_
    refine WL.nil ?_
    refine WQ.then_normal (hK106 _ _ _ ?_)
    refine WP.ret ?_
    obtain rfl := Option.some.inj hm
    exact WQ.ret1 _ rfl rfl ⟨rfl, hb30⟩
  have hm := iteT hm hc43
  refine WP.skip ?_
  refine WQ.then_normal (hK41 _ _ _ ?_)
  refine WP.seq (fun K44 hK44 => ?_)
  refine WP.block ?_
  refine WP.seq (fun K45 hK45 => ?_)
  obtain ⟨x72, hx73, hm⟩ := bindE hm
  refine WP.cut (fun env' w' => env' = [(0, .string (bs s_0)), (3, .int .i64 st28), (55, .bool x72)] ∧ Ext w w' ∧ w.heap.size ≤ w'.heap.size ∧ SH w' w.heap.size []) ?_ ?_
  rotate_left
  · clear hx73
    rintro _ w100 ⟨rfl, hb101, hL102, hS103⟩
    refine WQ.then_normal (hK45 _ _ _ ?_)
    refine WP.cond x72 rfl rfl (fun hc104 => ?_) (fun hc104 => ?_)
    rotate_left
    · have hm := iteF hm hc104
      refine WP.skip ?_
      refine WQ.block_normal ?_
      refine WQ.then_normal (hK44 _ _ _ ?_)
      refine WP.region ?_
      refine WL.runk 3 [0, 3] [(0, .string (bs s_0)), (3, .int .i64 (wI64 (st28 + 1)))] (by kernel_rfl) ?_
      refine WL.nil ?_
      obtain rfl := Option.some.inj hm
      exact WQ.round hK35 ⟨(wI64 (st28 + 1)), rfl, hb101, hL102, hS103, hl33⟩ (Nat.lt_succ_self _) ⟨rfl, rfl, trivial⟩
    have hm := iteT hm hc104
    refine WP.seq (fun K105 hK105 => ?_)
    refine WP.region ?_
    refine WL.runk 1 [2] [(2, .bool false)] (by kernel_rfl) ?_
    refine WL.nil ?_
    refine WQ.then_normal (hK105 _ _ _ ?_)
    refine WP.ret ?_
    refine WQ.block_ret ?_
    refine WQ.then_ret ?_
    refine WQ.then_ret ?_
    refine WQ.block_ret ?_
    refine WQ.then_ret ?_
    obtain rfl := Option.some.inj hm
    obtain rfl := afterN_done hl33
    have hm := hmo34
    obtain rfl := Option.some.inj hm
    exact WQ.ret1 _ rfl rfl ⟨rfl, hb101⟩
  have hm := hx73; clear hx73
  refine WP.region ?_
  refine WL.runk 2 [0, 3, 28, 29] [(0, .string (bs s_0)), (3, .int .i64 st28), (28, .string (bs s_0)), (29, .int .i64 st28)] (by kernel_rfl) ?_
  obtain ⟨x74, hx75, hm⟩ := bindE hm
  refine WL.st (.int .u8 (x74.toNat : Int)) (ST.sindex hx75 rfl rfl rfl Tryd.underlying9) rfl rfl rfl ?_
  refine WL.runk 2 [0, 3, 32] [(0, .string (bs s_0)), (3, .int .i64 st28), (32, .bool (decide ((x74.toNat : Int) < 97)))] (by kernel_rfl) ?_
  refine WL.case (decide ((x74.toNat : Int) < 97)) [32] ⟨rfl, trivial⟩ (fun hc76 => ?_) (fun hc76 => ?_)
  · have hm := iteT hm hc76
    refine WL.runk 8 [0, 3, 38, 39, 40] [(0, .string (bs s_0)), (3, .int .i64 st28), (38, .bool true), (39, .string (bs s_0)), (40, .int .i64 st28)] (by kernel_rfl) ?_
    obtain ⟨x77, hx78, hm⟩ := bindE hm
    refine WL.st (.int .u8 (x77.toNat : Int)) (ST.sindex hx78 rfl rfl rfl Tryd.underlying9) rfl rfl rfl ?_
    refine WL.runk 2 [0, 3, 38, 43] [(0, .string (bs s_0)), (3, .int .i64 st28), (38, .bool true), (43, .bool (decide ((x77.toNat : Int) < 48)))] (by kernel_rfl) ?_
    refine WL.case (decide ((x77.toNat : Int) < 48)) [43] ⟨rfl, trivial⟩ (fun hc79 => ?_) (fun hc79 => ?_)
    · have hm := iteT hm hc79
      refine WL.runk 9 [0, 3, 50, 51, 52] [(0, .string (bs s_0)), (3, .int .i64 st28), (50, .bool true), (51, .string (bs s_0)), (52, .int .i64 st28)] (by kernel_rfl) ?_
      obtain ⟨x80, hx81, hm⟩ := bindE hm
      refine WL.st (.int .u8 (x80.toNat : Int)) (ST.sindex hx81 rfl rfl rfl Tryd.underlying9) rfl rfl rfl ?_
      refine WL.runk 2 [0, 3, 55] [(0, .string (bs s_0)), (3, .int .i64 st28), (55, .bool ((x80.toNat : Int) != 45))] (by kernel_rfl) ?_
      refine WL.nil ?_
      obtain rfl := Option.some.inj hm
      exact WQ.post' ⟨rfl, hb30, hL31, hS32⟩ ⟨rfl, rfl, rfl, trivial⟩
    have hm := iteF hm hc79
    refine WL.runk 2 [0, 3, 38, 43, 44, 45] [(0, .string (bs s_0)), (3, .int .i64 st28), (38, .bool true), (43, .bool false), (44, .string (bs s_0)), (45, .int .i64 st28)] (by kernel_rfl) ?_
    obtain ⟨x82, hx83, hm⟩ := bindE hm
    refine WL.st (.int .u8 (x82.toNat : Int)) (ST.sindex hx83 rfl rfl rfl Tryd.underlying9) rfl rfl rfl ?_
    refine WL.runk 4 [0, 3, 50] [(0, .string (bs s_0)), (3, .int .i64 st28), (50, .bool (decide ((x82.toNat : Int) > 57)))] (by kernel_rfl) ?_
    refine WL.case (decide ((x82.toNat : Int) > 57)) [50] ⟨rfl, trivial⟩ (fun hc84 => ?_) (fun hc84 => ?_)
    rotate_left
    · have hm := iteF hm hc84
      refine WL.runk 5 [0, 3, 55] [(0, .string (bs s_0)), (3, .int .i64 st28), (55, .bool false)] (by kernel_rfl) ?_
      refine WL.nil ?_
      obtain rfl := Option.some.inj hm
      exact WQ.post' ⟨rfl, hb30, hL31, hS32⟩ ⟨rfl, rfl, rfl, trivial⟩
    have hm := iteT hm hc84
    refine WL.runk 2 [0, 3, 50, 51, 52] [(0, .string (bs s_0)), (3, .int .i64 st28), (50, .bool true), (51, .string (bs s_0)), (52, .int .i64 st28)] (by kernel_rfl) ?_
    obtain ⟨x85, hx86, hm⟩ := bindE hm
    refine WL.st (.int .u8 (x85.toNat : Int)) (ST.sindex hx86 rfl rfl rfl Tryd.underlying9) rfl rfl rfl ?_
    refine WL.runk 2 [0, 3, 55] [(0, .string (bs s_0)), (3, .int .i64 st28), (55, .bool ((x85.toNat : Int) != 45))] (by kernel_rfl) ?_
    refine WL.nil ?_
    obtain rfl := Option.some.inj hm
    exact WQ.post' ⟨rfl, hb30, hL31, hS32⟩ ⟨rfl, rfl, rfl, trivial⟩
  have hm := iteF hm hc76
  refine WL.runk 2 [0, 3, 32, 33, 34] [(0, .string (bs s_0)), (3, .int .i64 st28), (32, .bool false), (33, .string (bs s_0)), (34, .int .i64 st28)] (by kernel_rfl) ?_
  obtain ⟨x87, hx88, hm⟩ := bindE hm
  refine WL.st (.int .u8 (x87.toNat : Int)) (ST.sindex hx88 rfl rfl rfl Tryd.underlying9) rfl rfl rfl ?_
  refine WL.runk 3 [0, 3, 38] [(0, .string (bs s_0)), (3, .int .i64 st28), (38, .bool (decide ((x87.toNat : Int) > 122)))] (by kernel_rfl) ?_
  refine WL.case (decide ((x87.toNat : Int) > 122)) [38] ⟨rfl, trivial⟩ (fun hc89 => ?_) (fun hc89 => ?_)
  rotate_left
  · have hm := iteF hm hc89
    refine WL.runk 17 [0, 3, 55] [(0, .string (bs s_0)), (3, .int .i64 st28), (55, .bool false)] (by kernel_rfl) ?_
    refine WL.nil ?_
    obtain rfl := Option.some.inj hm
    exact WQ.post' ⟨rfl, hb30, hL31, hS32⟩ ⟨rfl, rfl, rfl, trivial⟩
  have hm := iteT hm hc89
  refine WL.runk 2 [0, 3, 38, 39, 40] [(0, .string (bs s_0)), (3, .int .i64 st28), (38, .bool true), (39, .string (bs s_0)), (40, .int .i64 st28)] (by kernel_rfl) ?_
  obtain ⟨x90, hx91, hm⟩ := bindE hm
  refine WL.st (.int .u8 (x90.toNat : Int)) (ST.sindex hx91 rfl rfl rfl Tryd.underlying9) rfl rfl rfl ?_
  refine WL.runk 2 [0, 3, 38, 43] [(0, .string (bs s_0)), (3, .int .i64 st28), (38, .bool true), (43, .bool (decide ((x90.toNat : Int) < 48)))] (by kernel_rfl) ?_
  refine WL.case (decide ((x90.toNat : Int) < 48)) [43] ⟨rfl, trivial⟩ (fun hc92 => ?_) (fun hc92 => ?_)
  · have hm := iteT hm hc92
    refine WL.runk 9 [0, 3, 50, 51, 52] [(0, .string (bs s_0)), (3, .int .i64 st28), (50, .bool true), (51, .string (bs s_0)), (52, .int .i64 st28)] (by kernel_rfl) ?_
    obtain ⟨x93, hx94, hm⟩ := bindE hm
    refine WL.st (.int .u8 (x93.toNat : Int)) (ST.sindex hx94 rfl rfl rfl Tryd.underlying9) rfl rfl rfl ?_
    refine WL.runk 2 [0, 3, 55] [(0, .string (bs s_0)), (3, .int .i64 st28), (55, .bool ((x93.toNat : Int) != 45))] (by kernel_rfl) ?_
    refine WL.nil ?_
    obtain rfl := Option.some.inj hm
    exact WQ.post' ⟨rfl, hb30, hL31, hS32⟩ ⟨rfl, rfl, rfl, trivial⟩
  have hm := iteF hm hc92
  refine WL.runk 2 [0, 3, 38, 43, 44, 45] [(0, .string (bs s_0)), (3, .int .i64 st28), (38, .bool true), (43, .bool false), (44, .string (bs s_0)), (45, .int .i64 st28)] (by kernel_rfl) ?_
  obtain ⟨x95, hx96, hm⟩ := bindE hm
  refine WL.st (.int .u8 (x95.toNat : Int)) (ST.sindex hx96 rfl rfl rfl Tryd.underlying9) rfl rfl rfl ?_
  refine WL.runk 4 [0, 3, 50] [(0, .string (bs s_0)), (3, .int .i64 st28), (50, .bool (decide ((x95.toNat : Int) > 57)))] (by kernel_rfl) ?_
  refine WL.case (decide ((x95.toNat : Int) > 57)) [50] ⟨rfl, trivial⟩ (fun hc97 => ?_) (fun hc97 => ?_)
  rotate_left
  · have hm := iteF hm hc97
    refine WL.runk 5 [0, 3, 55] [(0, .string (bs s_0)), (3, .int .i64 st28), (55, .bool false)] (by kernel_rfl) ?_
    refine WL.nil ?_
    obtain rfl := Option.some.inj hm
    exact WQ.post' ⟨rfl, hb30, hL31, hS32⟩ ⟨rfl, rfl, rfl, trivial⟩
  have hm := iteT hm hc97
  refine WL.runk 2 [0, 3, 50, 51, 52] [(0, .string (bs s_0)), (3, .int .i64 st28), (50, .bool true), (51, .string (bs s_0)), (52, .int .i64 st28)] (by kernel_rfl) ?_
  obtain ⟨x98, hx99, hm⟩ := bindE hm
  refine WL.st (.int .u8 (x98.toNat : Int)) (ST.sindex hx99 rfl rfl rfl Tryd.underlying9) rfl rfl rfl ?_
  refine WL.runk 2 [0, 3, 55] [(0, .string (bs s_0)), (3, .int .i64 st28), (55, .bool ((x98.toNat : Int) != 45))] (by kernel_rfl) ?_
  refine WL.nil ?_
  obtain rfl := Option.some.inj hm
  exact WQ.post' ⟨rfl, hb30, hL31, hS32⟩ ⟨rfl, rfl, rfl, trivial⟩

theorem c_51 (n : Nat) (n_0 : Int) (low_1 : Int) (high_2 : Int) (w : World) {r : Bool} (hm : m_impl_within n n_0 low_1 high_2 = some r)  :
    CallV Tryd.prog 51 #[.int .i64 n_0, .int .i64 low_1, .int .i64 high_2] w (fun v w' => v = .bool r ∧ Ext w w') := by
  unfold m_impl_within at hm
  refine CallV.enter Tryd.func51 rfl (by kernel_rfl) Tryd.ntmps51 (env := [(0, .int .i64 n_0), (1, .int .i64 low_1), (2, .int .i64 high_2)]) ⟨rfl, rfl, rfl, trivial⟩ ?_
  refine WP.seq (fun K1 hK1 => ?_)
  refine WP.region ?_
  refine WL.runk 1 [0, 1, 2] [(0, .int .i64 n_0), (1, .int .i64 low_1), (2, .int .i64 high_2)] (by kernel_rfl) ?_
  refine WL.nil ?_
  refine WQ.then_normal (hK1 _ _ _ ?_)
  refine WP.seq (fun K2 hK2 => ?_)
  obtain ⟨x4, hx5, hm⟩ := bindE hm
  refine WP.cut (fun env' w' => env' = [(6, .bool x4)] ∧ Ext w w' ∧ w.heap.size ≤ w'.heap.size ∧ SH w' w.heap.size []) ?_ ?_
  rotate_left
  · clear hx5
    rintro _ w7 ⟨rfl, hb8, hL9, hS10⟩
    refine WQ.then_normal (hK2 _ _ _ ?_)
    refine WP.ret ?_
    obtain rfl := Option.some.inj hm
    exact WQ.ret1 _ rfl rfl ⟨rfl, hb8⟩
  have hm := hx5; clear hx5
  refine WP.region ?_
  refine WL.runk 4 [0, 2, 10] [(0, .int .i64 n_0), (2, .int .i64 high_2), (10, .bool (decide (n_0 ≥ low_1)))] (by kernel_rfl) ?_
  refine WL.case (decide (n_0 ≥ low_1)) [10] ⟨rfl, trivial⟩ (fun hc6 => ?_) (fun hc6 => ?_)
  · have hm := iteT hm hc6
    refine WL.runk 5 [6] [(6, .bool (decide (n_0 ≤ high_2)))] (by kernel_rfl) ?_
    refine WL.nil ?_
    obtain rfl := Option.some.inj hm
    exact WQ.post' ⟨rfl, (Ext.refl w), (Nat.le_refl _), (SH.nil _ _)⟩ ⟨rfl, trivial⟩
  have hm := iteF hm hc6
  refine WL.runk 5 [6] [(6, .bool false)] (by kernel_rfl) ?_
  refine WL.nil ?_
  obtain rfl := Option.some.inj hm
  exact WQ.post' ⟨rfl, (Ext.refl w), (Nat.le_refl _), (SH.nil _ _)⟩ ⟨rfl, trivial⟩

theorem c_35 (n : Nat)  (w : World) {r : List (List UInt8)} (hm : m_impl_StyleWords n  = some r)  :
    CallV Tryd.prog 35 #[] w (fun v w' => ∃ (ra0 : Option Addr) (rc0 : Nat), v = .slice ra0 r.length rc0 ∧ Ext w w' ∧ SH w' w.heap.size [aOwn fStr 9 ra0 rc0 r]) := by
  unfold m_impl_StyleWords at hm
  refine CallV.enter Tryd.func35 rfl (by kernel_rfl) Tryd.ntmps35 (env := []) trivial ?_
  refine WP.seq (fun K1 hK1 => ?_)
  refine WP.region ?_
  refine WL.runk 1 [] [] (by kernel_rfl) ?_
  refine WL.nil ?_
  refine WQ.then_normal (hK1 _ _ _ ?_)
  refine WP.seq (fun K2 hK2 => ?_)
  refine WP.region ?_
  refine WL.row fStr 9 ([[117, 112, 112, 101, 114], [108, 105, 110, 105, 110, 103], [115, 111, 108, 101], [104, 101, 101, 108], [101, 121, 101, 108, 101, 116, 115], [115, 116, 105, 116, 99, 104]] : List (List UInt8)) 6 #[.string (bs [117, 112, 112, 101, 114]), .string (bs [108, 105, 110, 105, 110, 103]), .string (bs [115, 111, 108, 101]), .string (bs [104, 101, 101, 108]), .string (bs [101, 121, 101, 108, 101, 116, 115]), .string (bs [115, 116, 105, 116, 99, 104])] 1 (by kernel_rfl) rfl rfl rfl rfl rfl rfl rfl ?_
  intro a3 c4 w5 hE6 hR7
  have hb9 : Ext w w5 := Ext.trans (Ext.refl w) hE6
  have hL10 : w.heap.size ≤ w5.heap.size := Nat.le_trans (Nat.le_refl _) hE6.size
  have hS11 : SH w5 w.heap.size [aOwn fStr 9 a3 c4 ([[117, 112, 112, 101, 114], [108, 105, 110, 105, 110, 103], [115, 111, 108, 101], [104, 101, 101, 108], [101, 121, 101, 108, 101, 116, 115], [115, 116, 105, 116, 99, 104]] : List (List UInt8))] := SH.add (SH.nil _ _) hE6 (Nat.le_refl _) hR7
  refine WL.runk 1 [0] [(0, .slice a3 (([[117, 112, 112, 101, 114], [108, 105, 110, 105, 110, 103], [115, 111, 108, 101], [104, 101, 101, 108], [101, 121, 101, 108, 101, 116, 115], [115, 116, 105, 116, 99, 104]] : List (List UInt8)).length) c4)] (by kernel_rfl) ?_
  refine WL.nil ?_
  refine WQ.then_normal (hK2 _ _ _ ?_)
  refine WP.ret ?_
  obtain rfl := Option.some.inj hm
  exact WQ.ret1 _ rfl rfl ⟨_, _, rfl, hb9, hS11⟩

theorem c_53 (n : Nat) (n_0 : Int) (w : World) {r : List UInt8} (hm : m_impl_Decimal n n_0 = some r) (hG : GL 2 w) :
    CallV Tryd.prog 53 #[.int .i64 n_0] w (fun v w' => v = .string (bs r) ∧ Ext w w') := by
  unfold m_impl_Decimal at hm
  refine CallV.enter Tryd.func53 rfl (by kernel_rfl) Tryd.ntmps53 (env := [(0, .int .i64 n_0)]) ⟨rfl, trivial⟩ ?_
  refine WP.seq (fun K1 hK1 => ?_)
  refine WP.region ?_
  refine WL.runk 1 [0] [(0, .int .i64 n_0)] (by kernel_rfl) ?_
  refine WL.nil ?_
  refine WQ.then_normal (hK1 _ _ _ ?_)
  refine WP.seq (fun K2 hK2 => ?_)
  refine WP.region ?_
  refine WL.runk 1 [3] [(3, .int .i64 n_0)] (by kernel_rfl) ?_
  obtain ⟨x3, hx4, hm⟩ := bindE hm
  refine WL.call 70 #[.int .i64 n_0, .int .i64 10] rfl rfl (by kernel_rfl) (c_70 n n_0 10 w hx4 (GL.below hG (Ext.refl w))) ?_
  rintro _ w5 ⟨rfl, hE6⟩
  refine ⟨_, rfl, ?_⟩
  have hb8 : Ext w w5 := Ext.trans (Ext.refl w) hE6
  have hL9 : w.heap.size ≤ w5.heap.size := Nat.le_trans (Nat.le_refl _) hE6.size
  have hS10 : SH w5 w.heap.size [] := SH.ext (SH.nil _ _) hE6
  refine WL.runk 1 [2] [(2, .string (bs x3))] (by kernel_rfl) ?_
  refine WL.nil ?_
  refine WQ.then_normal (hK2 _ _ _ ?_)
  refine WP.ret ?_
  obtain rfl := Option.some.inj hm
  exact WQ.ret1 _ rfl rfl ⟨rfl, hb8⟩

theorem c_58_o1 (n : Nat) (x_0_Upper : List UInt8) (x_0_Color : List UInt8) (x_0_Lining : List UInt8) (x_0_Sole : List UInt8) (x_0_Thick : Int) (x_0_Heel : Int) (x_0_Eyelets : Int) (x_0_Density : Int) (x_0_Double : Bool) (b0' : Nat) (w_1 : List (List UInt8)) (a1' : Option Addr) (c1' : Nat) (w : World) (w0 : World) (B : Nat) (L : List Asrt) {r : List UInt8 × List UInt8 × List UInt8 × List UInt8 × Int × Int × Int × Int × Bool} (hm : m_spec_l24Set_o1 n x_0_Upper x_0_Color x_0_Lining x_0_Sole x_0_Thick x_0_Heel x_0_Eyelets x_0_Density x_0_Double w_1 = some r) (_hE0 : Ext w0 w) (_hW : w0.heap.size ≤ B) (hL : B ≤ w.heap.size) (hS : SH w B (aBox 32 b0' [.string (bs x_0_Upper), .string (bs x_0_Color), .string (bs x_0_Lining), .string (bs x_0_Sole), .int .i64 x_0_Thick, .int .i64 x_0_Heel, .int .i64 x_0_Eyelets, .int .i64 x_0_Density, .bool x_0_Double] :: aOwn fStr 9 a1' c1' w_1 :: L)) :
    CallV Tryd.prog 58 #[.pointer (some ⟨b0', 0, none⟩), .slice a1' w_1.length c1'] w (fun v w' => v = .tuple #[] ∧ Below B w w' ∧ SH w' B (aBox 32 b0' [.string (bs r.1), .string (bs r.2.1), .string (bs r.2.2.1), .string (bs r.2.2.2.1), .int .i64 r.2.2.2.2.1, .int .i64 r.2.2.2.2.2.1, .int .i64 r.2.2.2.2.2.2.1, .int .i64 r.2.2.2.2.2.2.2.1, .bool r.2.2.2.2.2.2.2.2] :: aOwn fStr 9 a1' c1' w_1 :: L)) := by
  unfold m_spec_l24Set_o1 at hm
  refine CallV.enter Tryd.func58 rfl (by kernel_rfl) Tryd.ntmps58 (env := [(0, .pointer (some ⟨b0', 0, none⟩)), (1, .slice a1' w_1.length c1')]) ⟨rfl, rfl, trivial⟩ ?_
  refine WP.seq (fun K1 hK1 => ?_)
  refine WP.region ?_
  refine WL.runk 1 [0, 1, 12] [(0, .pointer (some ⟨b0', 0, none⟩)), (1, .slice a1' w_1.length c1'), (12, .slice a1' w_1.length c1')] (by kernel_rfl) ?_
  obtain ⟨x2, hx3, hm⟩ := bindE hm
  refine WL.st (.pointer (some (at_ a1' (Int.toNat 0 * 1)))) (ST.index (T := fStr.ty) (xs := w_1) (SH.rd (SH.front 1 hS)) hx3 rfl rfl rfl Tryd.underlying22 (info9).1 (info9).2.1) rfl rfl rfl ?_
  refine WL.st (.string (bs x2)) (ST.load (cell_ext (Rd.flat (F := fStr) (SH.rd (SH.front 1 hS)) hx3 0 rfl)) rfl rfl Tryd.underlying9 rfl) rfl rfl rfl ?_
  obtain ⟨x4, hx5, hm⟩ := bindE hm
  refine WL.call 57 #[.string (bs x2)] rfl rfl (by kernel_rfl) (c_57 n x2 w hx5 ) ?_
  rintro _ w6 ⟨rfl, hE7⟩
  refine ⟨_, rfl, ?_⟩
  have hb9 : Below B w w6 := Below.trans (Below.refl _ _) (Below.mono hE7 hL)
  have hL10 : B ≤ w6.heap.size := Nat.le_trans hL hE7.size
  have hS11 : SH w6 B (aBox 32 b0' [.string (bs x_0_Upper), .string (bs x_0_Color), .string (bs x_0_Lining), .string (bs x_0_Sole), .int .i64 x_0_Thick, .int .i64 x_0_Heel, .int .i64 x_0_Eyelets, .int .i64 x_0_Density, .bool x_0_Double] :: aOwn fStr 9 a1' c1' w_1 :: L) := SH.ext hS hE7
  refine WL.sub [(0, .pointer (some ⟨b0', 0, none⟩)), (1, .slice a1' w_1.length c1'), (15, .int .i64 x4)] ⟨rfl, rfl, rfl, trivial⟩ ?_
  refine WL.nil ?_
  refine WQ.then_normal (hK1 _ _ _ ?_)
  refine WP.block ?_
  refine WP.seq (fun K12 hK12 => ?_)
  refine WP.region ?_
  refine WL.runk 2 [0, 1, 15, 16] [(0, .pointer (some ⟨b0', 0, none⟩)), (1, .slice a1' w_1.length c1'), (15, .int .i64 x4), (16, .bool (x4 == 0))] (by kernel_rfl) ?_
  refine WL.nil ?_
  refine WQ.then_normal (hK12 _ _ _ ?_)
  obtain ⟨x94471, hx94472, hm⟩ := bindE hm
  refine WP.cut (fun env' w' => env' = [] ∧ Below B w w' ∧ B ≤ w'.heap.size ∧ SH w' B (aBox 32 b0' [.string (bs x94471.1), .string (bs x94471.2.1), .string (bs x94471.2.2.1), .string (bs x94471.2.2.2.1), .int .i64 x94471.2.2.2.2.1, .int .i64 x94471.2.2.2.2.2.1, .int .i64 x94471.2.2.2.2.2.2.1, .int .i64 x94471.2.2.2.2.2.2.2.1, .bool x94471.2.2.2.2.2.2.2.2] :: aOwn fStr 9 a1' c1' w_1 :: L)) ?_ ?_
  rotate_left
  · clear hx94472
    rintro _ w125958 ⟨rfl, hb125959, hL125960, hS125961⟩
    refine WQ.block_normal ?_
    obtain rfl := Option.some.inj hm
    exact WQ.end0 rfl ⟨rfl, hb125959, hS125961⟩
  have hm := hx94472; clear hx94472
  refine WP.cond (x4 == 0) rfl rfl (fun hc13 => ?_) (fun hc13 => ?_)
  · have hm := iteT hm hc13
    refine WP.seq (fun K94473 hK94473 => ?_)
    refine WP.region ?_
    refine WL.runk 2 [0, 1, 18, 19] [(0, .pointer (some ⟨b0', 0, none⟩)), (1, .slice a1' w_1.length c1'), (18, .pointer (some ⟨b0', 0, none⟩)), (19, .slice a1' w_1.length c1')] (by kernel_rfl) ?_
    obtain ⟨x94474, hx94475, hm⟩ := bindE hm
    refine WL.st (.pointer (some (at_ a1' (Int.toNat 1 * 1)))) (ST.index (T := fStr.ty) (xs := w_1) (SH.rd (SH.front 1 hS11)) hx94475 rfl rfl rfl Tryd.underlying22 (info9).1 (info9).2.1) rfl rfl rfl ?_
    refine WL.st (.string (bs x94474)) (ST.load (cell_ext (Rd.flat (F := fStr) (SH.rd (SH.front 1 hS11)) hx94475 0 rfl)) rfl rfl Tryd.underlying9 rfl) rfl rfl rfl ?_
    refine WL.runk 2 [0, 1, 21, 23] [(0, .pointer (some ⟨b0', 0, none⟩)), (1, .slice a1' w_1.length c1'), (21, .string (bs x94474)), (23, .pointer (some ⟨b0', 0, none⟩))] (by kernel_rfl) ?_
    refine WL.boxStore 0 [.string (bs x94474)] [.string (bs x94474), .string (bs x_0_Color), .string (bs x_0_Lining), .string (bs x_0_Sole), .int .i64 x_0_Thick, .int .i64 x_0_Heel, .int .i64 x_0_Eyelets, .int .i64 x_0_Density, .bool x_0_Double] (SH.front 0 hS11) hL10 rfl rfl rfl rfl rfl rfl rfl (info9).1 (info9).2.1 rfl rfl rfl ?_
    intro w94476 hB94477 hS94478
    have hb94479 : Below B w w94476 := Below.trans hb9 hB94477
    have hL94480 : B ≤ w94476.heap.size := Nat.le_trans hL10 hB94477.size
    refine WL.sub [(0, .pointer (some ⟨b0', 0, none⟩)), (1, .slice a1' w_1.length c1')] ⟨rfl, rfl, trivial⟩ ?_
    refine WL.nil ?_
    refine WQ.then_normal (hK94473 _ _ _ ?_)
    refine WP.region ?_
    refine WL.runk 2 [24, 25] [(24, .pointer (some ⟨b0', 0, none⟩)), (25, .slice a1' w_1.length c1')] (by kernel_rfl) ?_
    obtain ⟨x94481, hx94482, hm⟩ := bindE hm
    refine WL.st (.pointer (some (at_ a1' (Int.toNat 2 * 1)))) (ST.index (T := fStr.ty) (xs := w_1) (SH.rd (SH.front 1 hS94478)) hx94482 rfl rfl rfl Tryd.underlying22 (info9).1 (info9).2.1) rfl rfl rfl ?_
    refine WL.st (.string (bs x94481)) (ST.load (cell_ext (Rd.flat (F := fStr) (SH.rd (SH.front 1 hS94478)) hx94482 0 rfl)) rfl rfl Tryd.underlying9 rfl) rfl rfl rfl ?_
    refine WL.runk 2 [27, 29] [(27, .string (bs x94481)), (29, .pointer (some ⟨b0', 1, none⟩))] (by kernel_rfl) ?_
    refine WL.boxStore 1 [.string (bs x94481)] [.string (bs x94474), .string (bs x94481), .string (bs x_0_Lining), .string (bs x_0_Sole), .int .i64 x_0_Thick, .int .i64 x_0_Heel, .int .i64 x_0_Eyelets, .int .i64 x_0_Density, .bool x_0_Double] (SH.front 0 hS94478) hL94480 rfl rfl rfl rfl rfl rfl rfl (info9).1 (info9).2.1 rfl rfl rfl ?_
    intro w94483 hB94484 hS94485
    have hb94486 : Below B w w94483 := Below.trans hb94479 hB94484
    have hL94487 : B ≤ w94483.heap.size := Nat.le_trans hL94480 hB94484.size
    refine WL.sub [] trivial ?_
    refine WL.nil ?_
    obtain rfl := Option.some.inj hm
    exact WQ.post' ⟨rfl, hb94486, hL94487, hS94485⟩ trivial
  have hm := iteF hm hc13
  refine WP.seq (fun K94488 hK94488 => ?_)
  refine WP.region ?_
  refine WL.runk 2 [0, 1, 15, 30] [(0, .pointer (some ⟨b0', 0, none⟩)), (1, .slice a1' w_1.length c1'), (15, .int .i64 x4), (30, .bool (x4 == 1))] (by kernel_rfl) ?_
  refine WL.nil ?_
  refine WQ.then_normal (hK94488 _ _ _ ?_)
  obtain ⟨x118087, hx118088, hm⟩ := bindE hm
  refine WP.cut (fun env' w' => env' = [] ∧ Below B w w' ∧ B ≤ w'.heap.size ∧ SH w' B (aBox 32 b0' [.string (bs x_0_Upper), .string (bs x_0_Color), .string (bs x118087.1), .string (bs x118087.2.1), .int .i64 x118087.2.2.1, .int .i64 x118087.2.2.2.1, .int .i64 x118087.2.2.2.2.1, .int .i64 x118087.2.2.2.2.2.1, .bool x118087.2.2.2.2.2.2] :: aOwn fStr 9 a1' c1' w_1 :: L)) ?_ ?_
  rotate_left
  · clear hx118088
    rintro _ w125954 ⟨rfl, hb125955, hL125956, hS125957⟩
    obtain rfl := Option.some.inj hm
    exact WQ.post' ⟨rfl, hb125955, hL125956, hS125957⟩ trivial
  have hm := hx118088; clear hx118088
  refine WP.cond (x4 == 1) rfl rfl (fun hc94489 => ?_) (fun hc94489 => ?_)
  · have hm := iteT hm hc94489
    refine WP.region ?_
    refine WL.runk 2 [32, 33] [(32, .pointer (some ⟨b0', 0, none⟩)), (33, .slice a1' w_1.length c1')] (by kernel_rfl) ?_
    obtain ⟨x118089, hx118090, hm⟩ := bindE hm
    refine WL.st (.pointer (some (at_ a1' (Int.toNat 1 * 1)))) (ST.index (T := fStr.ty) (xs := w_1) (SH.rd (SH.front 1 hS11)) hx118090 rfl rfl rfl Tryd.underlying22 (info9).1 (info9).2.1) rfl rfl rfl ?_
    refine WL.st (.string (bs x118089)) (ST.load (cell_ext (Rd.flat (F := fStr) (SH.rd (SH.front 1 hS11)) hx118090 0 rfl)) rfl rfl Tryd.underlying9 rfl) rfl rfl rfl ?_
    refine WL.runk 2 [35, 37] [(35, .string (bs x118089)), (37, .pointer (some ⟨b0', 2, none⟩))] (by kernel_rfl) ?_
    refine WL.boxStore 2 [.string (bs x118089)] [.string (bs x_0_Upper), .string (bs x_0_Color), .string (bs x118089), .string (bs x_0_Sole), .int .i64 x_0_Thick, .int .i64 x_0_Heel, .int .i64 x_0_Eyelets, .int .i64 x_0_Density, .bool x_0_Double] (SH.front 0 hS11) hL10 rfl rfl rfl rfl rfl rfl rfl (info9).1 (info9).2.1 rfl rfl rfl ?_
    intro w118091 hB118092 hS118093
    have hb118094 : Below B w w118091 := Below.trans hb9 hB118092
    have hL118095 : B ≤ w118091.heap.size := Nat.le_trans hL10 hB118092.size
    refine WL.sub [] trivial ?_
    refine WL.nil ?_
    obtain rfl := Option.some.inj hm
    exact WQ.post' ⟨rfl, hb118094, hL118095, hS118093⟩ trivial
  have hm := iteF hm hc94489
  refine WP.seq (fun K118096 hK118096 => ?_)
  refine WP.region ?_
  refine WL.runk 2 [0, 1, 15, 38] [(0, .pointer (some ⟨b0', 0, none⟩)), (1, .slice a1' w_1.length c1'), (15, .int .i64 x4), (38, .bool (x4 == 2))] (by kernel_rfl) ?_
  refine WL.nil ?_
  refine WQ.then_normal (hK118096 _ _ _ ?_)
  obtain ⟨x123986, hx123987, hm⟩ := bindE hm
  refine WP.cut (fun env' w' => env' = [] ∧ Below B w w' ∧ B ≤ w'.heap.size ∧ SH w' B (aBox 32 b0' [.string (bs x_0_Upper), .string (bs x_0_Color), .string (bs x_0_Lining), .string (bs x123986.1), .int .i64 x123986.2.1, .int .i64 x123986.2.2.1, .int .i64 x123986.2.2.2.1, .int .i64 x123986.2.2.2.2.1, .bool x123986.2.2.2.2.2] :: aOwn fStr 9 a1' c1' w_1 :: L)) ?_ ?_
  rotate_left
  · clear hx123987
    rintro _ w125950 ⟨rfl, hb125951, hL125952, hS125953⟩
    obtain rfl := Option.some.inj hm
    exact WQ.post' ⟨rfl, hb125951, hL125952, hS125953⟩ trivial
  have hm := hx123987; clear hx123987
  refine WP.cond (x4 == 2) rfl rfl (fun hc118097 => ?_) (fun hc118097 => ?_)
  · have hm := iteT hm hc118097
    refine WP.seq (fun K123988 hK123988 => ?_)
    refine WP.region ?_
    refine WL.runk 2 [0, 1, 40, 41] [(0, .pointer (some ⟨b0', 0, none⟩)), (1, .slice a1' w_1.length c1'), (40, .pointer (some ⟨b0', 0, none⟩)), (41, .slice a1' w_1.length c1')] (by kernel_rfl) ?_
    obtain ⟨x123989, hx123990, hm⟩ := bindE hm
    refine WL.st (.pointer (some (at_ a1' (Int.toNat 1 * 1)))) (ST.index (T := fStr.ty) (xs := w_1) (SH.rd (SH.front 1 hS11)) hx123990 rfl rfl rfl Tryd.underlying22 (info9).1 (info9).2.1) rfl rfl rfl ?_
    refine WL.st (.string (bs x123989)) (ST.load (cell_ext (Rd.flat (F := fStr) (SH.rd (SH.front 1 hS11)) hx123990 0 rfl)) rfl rfl Tryd.underlying9 rfl) rfl rfl rfl ?_
    refine WL.runk 2 [0, 1, 43, 45] [(0, .pointer (some ⟨b0', 0, none⟩)), (1, .slice a1' w_1.length c1'), (43, .string (bs x123989)), (45, .pointer (some ⟨b0', 3, none⟩))] (by kernel_rfl) ?_
    refine WL.boxStore 3 [.string (bs x123989)] [.string (bs x_0_Upper), .string (bs x_0_Color), .string (bs x_0_Lining), .string (bs x123989), .int .i64 x_0_Thick, .int .i64 x_0_Heel, .int .i64 x_0_Eyelets, .int .i64 x_0_Density, .bool x_0_Double] (SH.front 0 hS11) hL10 rfl rfl rfl rfl rfl rfl rfl (info9).1 (info9).2.1 rfl rfl rfl ?_
    intro w123991 hB123992 hS123993
    have hb123994 : Below B w w123991 := Below.trans hb9 hB123992
    have hL123995 : B ≤ w123991.heap.size := Nat.le_trans hL10 hB123992.size
    refine WL.sub [(0, .pointer (some ⟨b0', 0, none⟩)), (1, .slice a1' w_1.length c1')] ⟨rfl, rfl, trivial⟩ ?_
    refine WL.nil ?_
    refine WQ.then_normal (hK123988 _ _ _ ?_)
    refine WP.seq (fun K123996 hK123996 => ?_)
    refine WP.region ?_
    refine WL.runk 1 [0, 47] [(0, .pointer (some ⟨b0', 0, none⟩)), (47, .slice a1' w_1.length c1')] (by kernel_rfl) ?_
    obtain ⟨x123997, hx123998, hm⟩ := bindE hm
    refine WL.st (.pointer (some (at_ a1' (Int.toNat 2 * 1)))) (ST.index (T := fStr.ty) (xs := w_1) (SH.rd (SH.front 1 hS123993)) hx123998 rfl rfl rfl Tryd.underlying22 (info9).1 (info9).2.1) rfl rfl rfl ?_
    refine WL.st (.string (bs x123997)) (ST.load (cell_ext (Rd.flat (F := fStr) (SH.rd (SH.front 1 hS123993)) hx123998 0 rfl)) rfl rfl Tryd.underlying9 rfl) rfl rfl rfl ?_
    obtain ⟨x123999, hx124000, hm⟩ := bindE hm
    refine WL.call 73 #[.string (bs x123997)] rfl rfl (by kernel_rfl) (c_73 n x123997 w123991 hx124000 ) ?_
    rintro _ w124001 ⟨rfl, hE124002⟩
    refine ⟨_, rfl, ?_⟩
    have hb124004 : Below B w w124001 := Below.trans hb123994 (Below.mono hE124002 hL123995)
    have hL124005 : B ≤ w124001.heap.size := Nat.le_trans hL123995 hE124002.size
    have hS124006 : SH w124001 B (aBox 32 b0' [.string (bs x_0_Upper), .string (bs x_0_Color), .string (bs x_0_Lining), .string (bs x123989), .int .i64 x_0_Thick, .int .i64 x_0_Heel, .int .i64 x_0_Eyelets, .int .i64 x_0_Density, .bool x_0_Double] :: aOwn fStr 9 a1' c1' w_1 :: L) := SH.ext hS123993 hE124002
    refine WL.runk 5 [0, 4] [(0, .pointer (some ⟨b0', 0, none⟩)), (4, .int .i64 x123999.1)] (by kernel_rfl) ?_
    refine WL.nil ?_
    refine WQ.then_normal (hK123996 _ _ _ ?_)
    refine WP.region ?_
    refine WL.runk 4 [54, 56] [(54, .int .i64 x123999.1), (56, .pointer (some ⟨b0', 4, none⟩))] (by kernel_rfl) ?_
    refine WL.boxStore 4 [.int .i64 x123999.1] [.string (bs x_0_Upper), .string (bs x_0_Color), .string (bs x_0_Lining), .string (bs x123989), .int .i64 x123999.1, .int .i64 x_0_Heel, .int .i64 x_0_Eyelets, .int .i64 x_0_Density, .bool x_0_Double] (SH.front 0 hS124006) hL124005 rfl rfl rfl rfl rfl rfl rfl (info2).1 (info2).2.1 rfl rfl rfl ?_
    intro w124007 hB124008 hS124009
    have hb124010 : Below B w w124007 := Below.trans hb124004 hB124008
    have hL124011 : B ≤ w124007.heap.size := Nat.le_trans hL124005 hB124008.size
    refine WL.sub [] trivial ?_
    refine WL.nil ?_
    obtain rfl := Option.some.inj hm
    exact WQ.post' ⟨rfl, hb124010, hL124011, hS124009⟩ trivial
  have hm := iteF hm hc118097
  refine WP.seq (fun K124012 hK124012 => ?_)
  refine WP.region ?_
  refine WL.runk 2 [0, 1, 15, 57] [(0, .pointer (some ⟨b0', 0, none⟩)), (1, .slice a1' w_1.length c1'), (15, .int .i64 x4), (57, .bool (x4 == 3))] (by kernel_rfl) ?_
  refine WL.nil ?_
  refine WQ.then_normal (hK124012 _ _ _ ?_)
  obtain ⟨x125462, hx125463, hm⟩ := bindE hm
  refine WP.cut (fun env' w' => env' = [] ∧ Below B w w' ∧ B ≤ w'.heap.size ∧ SH w' B (aBox 32 b0' [.string (bs x_0_Upper), .string (bs x_0_Color), .string (bs x_0_Lining), .string (bs x_0_Sole), .int .i64 x_0_Thick, .int .i64 x125462.1, .int .i64 x125462.2.1, .int .i64 x125462.2.2.1, .bool x125462.2.2.2] :: aOwn fStr 9 a1' c1' w_1 :: L)) ?_ ?_
  rotate_left
  · clear hx125463
    rintro _ w125946 ⟨rfl, hb125947, hL125948, hS125949⟩
    obtain rfl := Option.some.inj hm
    exact WQ.post' ⟨rfl, hb125947, hL125948, hS125949⟩ trivial
  have hm := hx125463; clear hx125463
  refine WP.cond (x4 == 3) rfl rfl (fun hc124013 => ?_) (fun hc124013 => ?_)
  · have hm := iteT hm hc124013
    refine WP.seq (fun K125464 hK125464 => ?_)
    refine WP.region ?_
    refine WL.runk 1 [0, 60] [(0, .pointer (some ⟨b0', 0, none⟩)), (60, .slice a1' w_1.length c1')] (by kernel_rfl) ?_
    obtain ⟨x125465, hx125466, hm⟩ := bindE hm
    refine WL.st (.pointer (some (at_ a1' (Int.toNat 1 * 1)))) (ST.index (T := fStr.ty) (xs := w_1) (SH.rd (SH.front 1 hS11)) hx125466 rfl rfl rfl Tryd.underlying22 (info9).1 (info9).2.1) rfl rfl rfl ?_
    refine WL.st (.string (bs x125465)) (ST.load (cell_ext (Rd.flat (F := fStr) (SH.rd (SH.front 1 hS11)) hx125466 0 rfl)) rfl rfl Tryd.underlying9 rfl) rfl rfl rfl ?_
    obtain ⟨x125467, hx125468, hm⟩ := bindE hm
    refine WL.call 73 #[.string (bs x125465)] rfl rfl (by kernel_rfl) (c_73 n x125465 w6 hx125468 ) ?_
    rintro _ w125469 ⟨rfl, hE125470⟩
    refine ⟨_, rfl, ?_⟩
    have hb125472 : Below B w w125469 := Below.trans hb9 (Below.mono hE125470 hL10)
    have hL125473 : B ≤ w125469.heap.size := Nat.le_trans hL10 hE125470.size
    have hS125474 : SH w125469 B (aBox 32 b0' [.string (bs x_0_Upper), .string (bs x_0_Color), .string (bs x_0_Lining), .string (bs x_0_Sole), .int .i64 x_0_Thick, .int .i64 x_0_Heel, .int .i64 x_0_Eyelets, .int .i64 x_0_Density, .bool x_0_Double] :: aOwn fStr 9 a1' c1' w_1 :: L) := SH.ext hS11 hE125470
    refine WL.runk 5 [0, 6] [(0, .pointer (some ⟨b0', 0, none⟩)), (6, .int .i64 x125467.1)] (by kernel_rfl) ?_
    refine WL.nil ?_
    refine WQ.then_normal (hK125464 _ _ _ ?_)
    refine WP.region ?_
    refine WL.runk 4 [67, 69] [(67, .int .i64 x125467.1), (69, .pointer (some ⟨b0', 5, none⟩))] (by kernel_rfl) ?_
    refine WL.boxStore 5 [.int .i64 x125467.1] [.string (bs x_0_Upper), .string (bs x_0_Color), .string (bs x_0_Lining), .string (bs x_0_Sole), .int .i64 x_0_Thick, .int .i64 x125467.1, .int .i64 x_0_Eyelets, .int .i64 x_0_Density, .bool x_0_Double] (SH.front 0 hS125474) hL125473 rfl rfl rfl rfl rfl rfl rfl (info2).1 (info2).2.1 rfl rfl rfl ?_
    intro w125475 hB125476 hS125477
    have hb125478 : Below B w w125475 := Below.trans hb125472 hB125476
    have hL125479 : B ≤ w125475.heap.size := Nat.le_trans hL125473 hB125476.size
    refine WL.sub [] trivial ?_
    refine WL.nil ?_
    obtain rfl := Option.some.inj hm
    exact WQ.post' ⟨rfl, hb125478, hL125479, hS125477⟩ trivial
  have hm := iteF hm hc124013
  refine WP.seq (fun K125480 hK125480 => ?_)
  refine WP.region ?_
  refine WL.runk 2 [0, 1, 15, 70] [(0, .pointer (some ⟨b0', 0, none⟩)), (1, .slice a1' w_1.length c1'), (15, .int .i64 x4), (70, .bool (x4 == 4))] (by kernel_rfl) ?_
  refine WL.nil ?_
  refine WQ.then_normal (hK125480 _ _ _ ?_)
  obtain ⟨x125826, hx125827, hm⟩ := bindE hm
  refine WP.cut (fun env' w' => env' = [] ∧ Below B w w' ∧ B ≤ w'.heap.size ∧ SH w' B (aBox 32 b0' [.string (bs x_0_Upper), .string (bs x_0_Color), .string (bs x_0_Lining), .string (bs x_0_Sole), .int .i64 x_0_Thick, .int .i64 x_0_Heel, .int .i64 x125826.1, .int .i64 x125826.2.1, .bool x125826.2.2] :: aOwn fStr 9 a1' c1' w_1 :: L)) ?_ ?_
  rotate_left
  · clear hx125827
    rintro _ w125942 ⟨rfl, hb125943, hL125944, hS125945⟩
    obtain rfl := Option.some.inj hm
    exact WQ.post' ⟨rfl, hb125943, hL125944, hS125945⟩ trivial
  have hm := hx125827; clear hx125827
  refine WP.cond (x4 == 4) rfl rfl (fun hc125481 => ?_) (fun hc125481 => ?_)
  · have hm := iteT hm hc125481
    refine WP.seq (fun K125828 hK125828 => ?_)
    refine WP.region ?_
    refine WL.runk 1 [0, 73] [(0, .pointer (some ⟨b0', 0, none⟩)), (73, .slice a1' w_1.length c1')] (by kernel_rfl) ?_
    obtain ⟨x125829, hx125830, hm⟩ := bindE hm
    refine WL.st (.pointer (some (at_ a1' (Int.toNat 1 * 1)))) (ST.index (T := fStr.ty) (xs := w_1) (SH.rd (SH.front 1 hS11)) hx125830 rfl rfl rfl Tryd.underlying22 (info9).1 (info9).2.1) rfl rfl rfl ?_
    refine WL.st (.string (bs x125829)) (ST.load (cell_ext (Rd.flat (F := fStr) (SH.rd (SH.front 1 hS11)) hx125830 0 rfl)) rfl rfl Tryd.underlying9 rfl) rfl rfl rfl ?_
    obtain ⟨x125831, hx125832, hm⟩ := bindE hm
    refine WL.call 73 #[.string (bs x125829)] rfl rfl (by kernel_rfl) (c_73 n x125829 w6 hx125832 ) ?_
    rintro _ w125833 ⟨rfl, hE125834⟩
    refine ⟨_, rfl, ?_⟩
    have hb125836 : Below B w w125833 := Below.trans hb9 (Below.mono hE125834 hL10)
    have hL125837 : B ≤ w125833.heap.size := Nat.le_trans hL10 hE125834.size
    have hS125838 : SH w125833 B (aBox 32 b0' [.string (bs x_0_Upper), .string (bs x_0_Color), .string (bs x_0_Lining), .string (bs x_0_Sole), .int .i64 x_0_Thick, .int .i64 x_0_Heel, .int .i64 x_0_Eyelets, .int .i64 x_0_Density, .bool x_0_Double] :: aOwn fStr 9 a1' c1' w_1 :: L) := SH.ext hS11 hE125834
    refine WL.runk 5 [0, 8] [(0, .pointer (some ⟨b0', 0, none⟩)), (8, .int .i64 x125831.1)] (by kernel_rfl) ?_
    refine WL.nil ?_
    refine WQ.then_normal (hK125828 _ _ _ ?_)
    refine WP.region ?_
    refine WL.runk 4 [80, 82] [(80, .int .i64 x125831.1), (82, .pointer (some ⟨b0', 6, none⟩))] (by kernel_rfl) ?_
    refine WL.boxStore 6 [.int .i64 x125831.1] [.string (bs x_0_Upper), .string (bs x_0_Color), .string (bs x_0_Lining), .string (bs x_0_Sole), .int .i64 x_0_Thick, .int .i64 x_0_Heel, .int .i64 x125831.1, .int .i64 x_0_Density, .bool x_0_Double] (SH.front 0 hS125838) hL125837 rfl rfl rfl rfl rfl rfl rfl (info2).1 (info2).2.1 rfl rfl rfl ?_
    intro w125839 hB125840 hS125841
    have hb125842 : Below B w w125839 := Below.trans hb125836 hB125840
    have hL125843 : B ≤ w125839.heap.size := Nat.le_trans hL125837 hB125840.size
    refine WL.sub [] trivial ?_
    refine WL.nil ?_
    obtain rfl := Option.some.inj hm
    exact WQ.post' ⟨rfl, hb125842, hL125843, hS125841⟩ trivial
  have hm := iteF hm hc125481
  refine WP.seq (fun K125844 hK125844 => ?_)
  refine WP.region ?_
  refine WL.runk 2 [0, 1, 83] [(0, .pointer (some ⟨b0', 0, none⟩)), (1, .slice a1' w_1.length c1'), (83, .bool (x4 == 5))] (by kernel_rfl) ?_
  refine WL.nil ?_
  refine WQ.then_normal (hK125844 _ _ _ ?_)
  obtain ⟨x125914, hx125915, hm⟩ := bindE hm
  refine WP.cut (fun env' w' => env' = [] ∧ Below B w w' ∧ B ≤ w'.heap.size ∧ SH w' B (aBox 32 b0' [.string (bs x_0_Upper), .string (bs x_0_Color), .string (bs x_0_Lining), .string (bs x_0_Sole), .int .i64 x_0_Thick, .int .i64 x_0_Heel, .int .i64 x_0_Eyelets, .int .i64 x125914.1, .bool x125914.2] :: aOwn fStr 9 a1' c1' w_1 :: L)) ?_ ?_
  rotate_left
  · clear hx125915
    rintro _ w125938 ⟨rfl, hb125939, hL125940, hS125941⟩
    obtain rfl := Option.some.inj hm
    exact WQ.post' ⟨rfl, hb125939, hL125940, hS125941⟩ trivial
  have hm := hx125915; clear hx125915
  refine WP.cond (x4 == 5) rfl rfl (fun hc125845 => ?_) (fun hc125845 => ?_)
  rotate_left
  · have hm := iteF hm hc125845
    refine WP.skip ?_
    obtain rfl := Option.some.inj hm
    exact WQ.post' ⟨rfl, hb9, hL10, hS11⟩ trivial
  have hm := iteT hm hc125845
  refine WP.seq (fun K125916 hK125916 => ?_)
  refine WP.region ?_
  refine WL.runk 1 [0, 1, 86] [(0, .pointer (some ⟨b0', 0, none⟩)), (1, .slice a1' w_1.length c1'), (86, .slice a1' w_1.length c1')] (by kernel_rfl) ?_
  obtain ⟨x125917, hx125918, hm⟩ := bindE hm
  refine WL.st (.pointer (some (at_ a1' (Int.toNat 1 * 1)))) (ST.index (T := fStr.ty) (xs := w_1) (SH.rd (SH.front 1 hS11)) hx125918 rfl rfl rfl Tryd.underlying22 (info9).1 (info9).2.1) rfl rfl rfl ?_
  refine WL.st (.string (bs x125917)) (ST.load (cell_ext (Rd.flat (F := fStr) (SH.rd (SH.front 1 hS11)) hx125918 0 rfl)) rfl rfl Tryd.underlying9 rfl) rfl rfl rfl ?_
  obtain ⟨x125919, hx125920, hm⟩ := bindE hm
  refine WL.call 73 #[.string (bs x125917)] rfl rfl (by kernel_rfl) (c_73 n x125917 w6 hx125920 ) ?_
  rintro _ w125921 ⟨rfl, hE125922⟩
  refine ⟨_, rfl, ?_⟩
  have hb125924 : Below B w w125921 := Below.trans hb9 (Below.mono hE125922 hL10)
  have hL125925 : B ≤ w125921.heap.size := Nat.le_trans hL10 hE125922.size
  have hS125926 : SH w125921 B (aBox 32 b0' [.string (bs x_0_Upper), .string (bs x_0_Color), .string (bs x_0_Lining), .string (bs x_0_Sole), .int .i64 x_0_Thick, .int .i64 x_0_Heel, .int .i64 x_0_Eyelets, .int .i64 x_0_Density, .bool x_0_Double] :: aOwn fStr 9 a1' c1' w_1 :: L) := SH.ext hS11 hE125922
  refine WL.runk 5 [0, 1, 10] [(0, .pointer (some ⟨b0', 0, none⟩)), (1, .slice a1' w_1.length c1'), (10, .int .i64 x125919.1)] (by kernel_rfl) ?_
  refine WL.nil ?_
  refine WQ.then_normal (hK125916 _ _ _ ?_)
  refine WP.seq (fun K125927 hK125927 => ?_)
  refine WP.region ?_
  refine WL.runk 4 [0, 1, 93, 95] [(0, .pointer (some ⟨b0', 0, none⟩)), (1, .slice a1' w_1.length c1'), (93, .int .i64 x125919.1), (95, .pointer (some ⟨b0', 7, none⟩))] (by kernel_rfl) ?_
  refine WL.boxStore 7 [.int .i64 x125919.1] [.string (bs x_0_Upper), .string (bs x_0_Color), .string (bs x_0_Lining), .string (bs x_0_Sole), .int .i64 x_0_Thick, .int .i64 x_0_Heel, .int .i64 x_0_Eyelets, .int .i64 x125919.1, .bool x_0_Double] (SH.front 0 hS125926) hL125925 rfl rfl rfl rfl rfl rfl rfl (info2).1 (info2).2.1 rfl rfl rfl ?_
  intro w125928 hB125929 hS125930
  have hb125931 : Below B w w125928 := Below.trans hb125924 hB125929
  have hL125932 : B ≤ w125928.heap.size := Nat.le_trans hL125925 hB125929.size
  refine WL.sub [(0, .pointer (some ⟨b0', 0, none⟩)), (1, .slice a1' w_1.length c1')] ⟨rfl, rfl, trivial⟩ ?_
  refine WL.nil ?_
  refine WQ.then_normal (hK125927 _ _ _ ?_)
  refine WP.region ?_
  refine WL.runk 6 [99, 101] [(99, .bool ((w_1.length : Int) == 3)), (101, .pointer (some ⟨b0', 8, none⟩))] (by kernel_rfl) ?_
  refine WL.boxStore 8 [.bool ((w_1.length : Int) == 3)] [.string (bs x_0_Upper), .string (bs x_0_Color), .string (bs x_0_Lining), .string (bs x_0_Sole), .int .i64 x_0_Thick, .int .i64 x_0_Heel, .int .i64 x_0_Eyelets, .int .i64 x125919.1, .bool ((w_1.length : Int) == 3)] (SH.front 0 hS125930) hL125932 rfl rfl rfl rfl rfl rfl rfl (info4).1 (info4).2.1 rfl rfl rfl ?_
  intro w125933 hB125934 hS125935
  have hb125936 : Below B w w125933 := Below.trans hb125931 hB125934
  have hL125937 : B ≤ w125933.heap.size := Nat.le_trans hL125932 hB125934.size
  refine WL.sub [] trivial ?_
  refine WL.nil ?_
  obtain rfl := Option.some.inj hm
  exact WQ.post' ⟨rfl, hb125936, hL125937, hS125935⟩ trivial

theorem c_40 (n : Nat) (clauses_0 : List (List UInt8)) (a0' : Option Addr) (c0' : Nat) (w : World) {r : List STrouble × SStyle} (hm : m_spec_l24Check n clauses_0 = some r) (h0 : Rd fStr.ty w a0' clauses_0) (_hle0 : clauses_0.length ≤ c0') :
    CallV Tryd.prog 40 #[.slice a0' clauses_0.length c0'] w (fun v w' => ∃ (ra0 : Option Addr) (rc0 : Nat), v = .tuple #[.slice ra0 r.1.length rc0, .agg #[.string (bs r.2.Upper), .string (bs r.2.Color), .string (bs r.2.Lining), .string (bs r.2.Sole), .int .i64 r.2.Thick, .int .i64 r.2.Heel, .int .i64 r.2.Eyelets, .int .i64 r.2.Density, .bool r.2.Double]] ∧ Ext w w' ∧ SH w' w.heap.size [aOwn fTrouble 62 ra0 rc0 r.1]) := by
  unfold m_spec_l24Check at hm
  refine CallV.enter Tryd.func40 rfl (by kernel_rfl) Tryd.ntmps40 (env := [(0, .slice a0' clauses_0.length c0')]) ⟨rfl, trivial⟩ ?_
  refine WP.seq (fun K1 hK1 => ?_)
  refine WP.region ?_
  refine WL.runk 1 [0] [(0, .slice a0' clauses_0.length c0')] (by kernel_rfl) ?_
  refine WL.box 32 [.string (bs []), .string (bs []), .string (bs []), .string (bs []), .int .i64 0, .int .i64 0, .int .i64 0, .int .i64 0, .bool false] 3 (by kernel_rfl) rfl rfl rfl rfl ?_
  intro b2 w3 hE4 hR5
  have hb7 : Ext w w3 := Ext.trans (Ext.refl w) hE4
  have hL8 : w.heap.size ≤ w3.heap.size := Nat.le_trans (Nat.le_refl _) hE4.size
  have hS9 : SH w3 w.heap.size [aBox 32 b2 [.string (bs []), .string (bs []), .string (bs []), .string (bs []), .int .i64 0, .int .i64 0, .int .i64 0, .int .i64 0, .bool false]] := SH.add (SH.nil _ _) hE4 (Nat.le_refl _) hR5
  refine WL.sub [(0, .slice a0' clauses_0.length c0'), (3, .pointer (some ⟨b2, 0, none⟩))] ⟨rfl, rfl, trivial⟩ ?_
  refine WL.nil ?_
  refine WQ.then_normal (hK1 _ _ _ ?_)
  refine WP.seq (fun K10 hK10 => ?_)
  refine WP.region ?_
  refine WL.row fTrouble 62 ([] : List STrouble) 0 #[] 11 (by kernel_rfl) rfl rfl rfl rfl rfl rfl rfl ?_
  intro a11 c12 w13 hE14 hR15
  have hb17 : Ext w w13 := Ext.trans hb7 hE14
  have hL18 : w.heap.size ≤ w13.heap.size := Nat.le_trans hL8 hE14.size
  have hS19 : SH w13 w.heap.size [aOwn fTrouble 62 a11 c12 ([] : List STrouble), aBox 32 b2 [.string (bs []), .string (bs []), .string (bs []), .string (bs []), .int .i64 0, .int .i64 0, .int .i64 0, .int .i64 0, .bool false]] := SH.add hS9 hE14 hL8 hR15
  refine WL.runk 1 [0, 3, 4] [(0, .slice a0' clauses_0.length c0'), (3, .pointer (some ⟨b2, 0, none⟩)), (4, .slice a11 (([] : List STrouble).length) c12)] (by kernel_rfl) ?_
  refine WL.nil ?_
  refine WQ.then_normal (hK10 _ _ _ ?_)
  refine WP.seq (fun K20 hK20 => ?_)
  refine WP.region ?_
  refine WL.runk 1 [0, 3, 4, 12] [(0, .slice a0' clauses_0.length c0'), (3, .pointer (some ⟨b2, 0, none⟩)), (4, .slice a11 (([] : List STrouble).length) c12), (12, .agg #[.string (bs []), .string (bs []), .string (bs []), .string (bs []), .int .i64 0, .int .i64 0, .int .i64 0, .int .i64 0, .bool false])] (by kernel_rfl) ?_
  refine WL.box 32 [.string (bs []), .string (bs []), .string (bs []), .string (bs []), .int .i64 0, .int .i64 0, .int .i64 0, .int .i64 0, .bool false] 5 (by kernel_rfl) rfl rfl rfl rfl ?_
  intro b21 w22 hE23 hR24
  have hb26 : Ext w w22 := Ext.trans hb17 hE23
  have hL27 : w.heap.size ≤ w22.heap.size := Nat.le_trans hL18 hE23.size
  have hS28 : SH w22 w.heap.size [aBox 32 b21 [.string (bs []), .string (bs []), .string (bs []), .string (bs []), .int .i64 0, .int .i64 0, .int .i64 0, .int .i64 0, .bool false], aOwn fTrouble 62 a11 c12 ([] : List STrouble), aBox 32 b2 [.string (bs []), .string (bs []), .string (bs []), .string (bs []), .int .i64 0, .int .i64 0, .int .i64 0, .int .i64 0, .bool false]] := SH.add hS19 hE23 hL18 hR24
  refine WL.boxStore 0 [.string (bs []), .string (bs []), .string (bs []), .string (bs []), .int .i64 0, .int .i64 0, .int .i64 0, .int .i64 0, .bool false] [.string (bs []), .string (bs []), .string (bs []), .string (bs []), .int .i64 0, .int .i64 0, .int .i64 0, .int .i64 0, .bool false] (SH.front 0 hS28) hL27 rfl rfl rfl rfl rfl rfl rfl (info32).1 (info32).2.1 rfl rfl rfl ?_
  intro w29 hB30 hS31
  have hb32 : Ext w w29 := Below.trans hb26 hB30
  have hL33 : w.heap.size ≤ w29.heap.size := Nat.le_trans hL27 hB30.size
  refine WL.sub [(0, .slice a0' clauses_0.length c0'), (3, .pointer (some ⟨b2, 0, none⟩)), (4, .slice a11 (([] : List STrouble).length) c12), (5, .pointer (some ⟨b21, 0, none⟩))] ⟨rfl, rfl, rfl, rfl, trivial⟩ ?_
  refine WL.nil ?_
  refine WQ.then_normal (hK20 _ _ _ ?_)
  refine WP.seq (fun K34 hK34 => ?_)
  refine WP.region ?_
  obtain ⟨x35, hx36, hm⟩ := bindE hm
  refine WL.call 32 #[] rfl rfl (by kernel_rfl) (c_32 n  w29 hx36 ) ?_
  rintro _ w40 ⟨a37, c38, rfl, hE41, hR42⟩
  refine ⟨_, rfl, ?_⟩
  have hb43 : Ext w w40 := Ext.trans hb32 hE41
  have hL44 : w.heap.size ≤ w40.heap.size := Nat.le_trans hL33 hE41.size
  have hS45 : SH w40 w.heap.size [aOwn fStr 9 a37 c38 x35, aBox 32 b21 [.string (bs []), .string (bs []), .string (bs []), .string (bs []), .int .i64 0, .int .i64 0, .int .i64 0, .int .i64 0, .bool false], aOwn fTrouble 62 a11 c12 ([] : List STrouble), aBox 32 b2 [.string (bs []), .string (bs []), .string (bs []), .string (bs []), .int .i64 0, .int .i64 0, .int .i64 0, .int .i64 0, .bool false]] := SH.add hS31 hE41 hL33 hR42
  refine WL.runk 1 [0, 3, 4, 5, 14] [(0, .slice a0' clauses_0.length c0'), (3, .pointer (some ⟨b2, 0, none⟩)), (4, .slice a11 (([] : List STrouble).length) c12), (5, .pointer (some ⟨b21, 0, none⟩)), (14, .int .i64 (x35.length : Int))] (by kernel_rfl) ?_
  obtain ⟨x46, hx47, hm⟩ := bindE hm
  refine WL.make fBool 15 hx47 rfl rfl rfl Tryd.underlying81 (info4).1 (info4).2.2.1 (info4).2.1 (info4).2.2.2 rfl rfl rfl rfl rfl ?_
  intro a48 c49 w50 hE51 hR52
  have hb54 : Ext w w50 := Ext.trans hb43 hE51
  have hL55 : w.heap.size ≤ w50.heap.size := Nat.le_trans hL44 hE51.size
  have hS56 : SH w50 w.heap.size [aOwn fBool 4 a48 c49 x46, aOwn fStr 9 a37 c38 x35, aBox 32 b21 [.string (bs []), .string (bs []), .string (bs []), .string (bs []), .int .i64 0, .int .i64 0, .int .i64 0, .int .i64 0, .bool false], aOwn fTrouble 62 a11 c12 ([] : List STrouble), aBox 32 b2 [.string (bs []), .string (bs []), .string (bs []), .string (bs []), .int .i64 0, .int .i64 0, .int .i64 0, .int .i64 0, .bool false]] := SH.add hS45 hE51 hL44 hR52
  refine WL.runk 1 [0, 3, 4, 5, 6] [(0, .slice a0' clauses_0.length c0'), (3, .pointer (some ⟨b2, 0, none⟩)), (4, .slice a11 (([] : List STrouble).length) c12), (5, .pointer (some ⟨b21, 0, none⟩)), (6, .slice a48 x46.length c49)] (by kernel_rfl) ?_
  refine WL.nil ?_
  refine WQ.then_normal (hK34 _ _ _ ?_)
  refine WP.seq (fun K57 hK57 => ?_)
  refine WP.seq (fun K58 hK58 => ?_)
  refine WP.region ?_
  refine WL.runk 1 [0, 3, 4, 5, 6, 7] [(0, .slice a0' clauses_0.length c0'), (3, .pointer (some ⟨b2, 0, none⟩)), (4, .slice a11 (([] : List STrouble).length) c12), (5, .pointer (some ⟨b21, 0, none⟩)), (6, .slice a48 x46.length c49), (7, .int .i64 0)] (by kernel_rfl) ?_
  refine WL.nil ?_
  refine WQ.then_normal (hK58 _ _ _ ?_)
  refine WP.block ?_
  obtain ⟨t410, ht411, hm⟩ := bindE hm
  have hmo405 := hm; clear hm
  refine WP.sub [(0, .slice a0' clauses_0.length c0'), (3, .pointer (some ⟨b2, 0, none⟩)), (4, .slice a11 (([] : List STrouble).length) c12), (5, .pointer (some ⟨b21, 0, none⟩)), (6, .slice a48 x46.length c49), (7, .int .i64 0)] ⟨rfl, rfl, rfl, rfl, rfl, rfl, trivial⟩ ?_
  refine WP.loop (fun n' env' w' => ∃ (st396 : List STrouble × Int × List Bool × List UInt8 × List UInt8 × List UInt8 × List UInt8 × Int × Int × Int × Int × Bool) (a397 : Option Addr) (c398 : Nat), env' = [(0, .slice a0' clauses_0.length c0'), (3, .pointer (some ⟨b2, 0, none⟩)), (4, .slice a397 st396.1.length c398), (5, .pointer (some ⟨b21, 0, none⟩)), (6, .slice a48 st396.2.2.1.length c49), (7, .int .i64 st396.2.1)] ∧ Ext w w' ∧ w.heap.size ≤ w'.heap.size ∧ SH w' w.heap.size [aOwn fTrouble 62 a397 c398 st396.1, aOwn fBool 4 a48 c49 st396.2.2.1, aBox 32 b21 [.string (bs st396.2.2.2.1), .string (bs st396.2.2.2.2.1), .string (bs st396.2.2.2.2.2.1), .string (bs st396.2.2.2.2.2.2.1), .int .i64 st396.2.2.2.2.2.2.2.1, .int .i64 st396.2.2.2.2.2.2.2.2.1, .int .i64 st396.2.2.2.2.2.2.2.2.2.1, .int .i64 st396.2.2.2.2.2.2.2.2.2.2.1, .bool st396.2.2.2.2.2.2.2.2.2.2.2], aBox 32 b2 [.string (bs []), .string (bs []), .string (bs []), .string (bs []), .int .i64 0, .int .i64 0, .int .i64 0, .int .i64 0, .bool false]] ∧ loopN (m_spec_l24Check_l1 n clauses_0) n' st396 = some t410) n ⟨(([] : List STrouble), 0, x46, [], [], [], [], 0, 0, 0, 0, false), _, _, rfl, hb54, hL55, (SH.take 4 (SH.front 4 (SH.front 2 (SH.front 3 (SH.front 4 hS56))))), ht411⟩ ?_
  rintro n407 _ w400 ⟨st396, a397, c398, rfl, hb401, hL402, hS403, hl404⟩ K406 hK406
  obtain ⟨n408, s409, rfl, hm, hl404⟩ := loopN_some hl404
  unfold m_spec_l24Check_l1 at hm
  refine WP.seq (fun K412 hK412 => ?_)
  refine WP.seq (fun K413 hK413 => ?_)
  refine WP.region ?_
  refine WL.runk 4 [0, 3, 4, 5, 6, 7, 19] [(0, .slice a0' clauses_0.length c0'), (3, .pointer (some ⟨b2, 0, none⟩)), (4, .slice a397 st396.1.length c398), (5, .pointer (some ⟨b21, 0, none⟩)), (6, .slice a48 st396.2.2.1.length c49), (7, .int .i64 st396.2.1), (19, .bool (decide (st396.2.1 < (clauses_0.length : Int))))] (by kernel_rfl) ?_
  refine WL.nil ?_
  refine WQ.then_normal (hK413 _ _ _ ?_)
  refine WP.cond (decide (st396.2.1 < (clauses_0.length : Int))) rfl rfl (fun hc414 => ?_) (fun hc414 => ?_)
  rotate_left
  · have hm := iteF hm hc414
    refine WP.exit ?_
    refine WQ.then_exit ?_
    refine WQ.then_exit ?_
    refine WQ.block_here ?_
    obtain rfl := Option.some.inj hm
    obtain rfl := afterN_done hl404
    have hm := hmo405
    refine WQ.then_normal (hK57 _ _ _ ?_)
    refine WP.seq (fun K653 hK653 => ?_)
    refine WP.seq (fun K654 hK654 => ?_)
    obtain ⟨x660, hx661, hm⟩ := bindE hm
    refine WP.cut (fun env' w' => env' = [(0, .slice a0' clauses_0.length c0'), (3, .pointer (some ⟨b2, 0, none⟩)), (4, .slice a397 st396.1.length c398), (5, .pointer (some ⟨b21, 0, none⟩)), (68, .bool x660)] ∧ Ext w w' ∧ w.heap.size ≤ w'.heap.size ∧ SH w' w.heap.size [aOwn fTrouble 62 a397 c398 st396.1, aBox 32 b21 [.string (bs st396.2.2.2.1), .string (bs st396.2.2.2.2.1), .string (bs st396.2.2.2.2.2.1), .string (bs st396.2.2.2.2.2.2.1), .int .i64 st396.2.2.2.2.2.2.2.1, .int .i64 st396.2.2.2.2.2.2.2.2.1, .int .i64 st396.2.2.2.2.2.2.2.2.2.1, .int .i64 st396.2.2.2.2.2.2.2.2.2.2.1, .bool st396.2.2.2.2.2.2.2.2.2.2.2], aBox 32 b2 [.string (bs []), .string (bs []), .string (bs []), .string (bs []), .int .i64 0, .int .i64 0, .int .i64 0, .int .i64 0, .bool false]]) ?_ ?_
    · have hm := hx661; clear hx661
      refine WP.region ?_
      refine WL.runk 1 [0, 3, 4, 5, 6, 59] [(0, .slice a0' clauses_0.length c0'), (3, .pointer (some ⟨b2, 0, none⟩)), (4, .slice a397 st396.1.length c398), (5, .pointer (some ⟨b21, 0, none⟩)), (6, .slice a48 st396.2.2.1.length c49), (59, .slice a48 st396.2.2.1.length c49)] (by kernel_rfl) ?_
      obtain ⟨x662, hx663, hm⟩ := bindE hm
      refine WL.st (.pointer (some (at_ a48 (Int.toNat 0 * 1)))) (ST.index (T := fBool.ty) (xs := st396.2.2.1) (SH.rd (SH.front 1 hS403)) hx663 rfl rfl rfl Tryd.underlying81 (info4).1 (info4).2.1) rfl rfl rfl ?_
      refine WL.st (.bool x662) (ST.load (cell_ext (Rd.flat (F := fBool) (SH.rd (SH.front 1 hS403)) hx663 0 rfl)) rfl rfl Tryd.underlying4 rfl) rfl rfl rfl ?_
      refine WL.runk 2 [0, 3, 4, 5, 6, 63] [(0, .slice a0' clauses_0.length c0'), (3, .pointer (some ⟨b2, 0, none⟩)), (4, .slice a397 st396.1.length c398), (5, .pointer (some ⟨b21, 0, none⟩)), (6, .slice a48 st396.2.2.1.length c49), (63, .bool (!x662))] (by kernel_rfl) ?_
      refine WL.case (!x662) [63] ⟨rfl, trivial⟩ (fun hc664 => ?_) (fun hc664 => ?_)
      · have hm := iteT hm hc664
        refine WL.runk 5 [0, 3, 4, 5, 68] [(0, .slice a0' clauses_0.length c0'), (3, .pointer (some ⟨b2, 0, none⟩)), (4, .slice a397 st396.1.length c398), (5, .pointer (some ⟨b21, 0, none⟩)), (68, .bool true)] (by kernel_rfl) ?_
        refine WL.nil ?_
        obtain rfl := Option.some.inj hm
        exact WQ.post' ⟨rfl, hb401, hL402, (SH.take 3 (SH.front 2 (SH.front 3 (SH.front 3 hS403))))⟩ ⟨rfl, rfl, rfl, rfl, rfl, trivial⟩
      have hm := iteF hm hc664
      refine WL.runk 1 [0, 3, 4, 5, 63, 64] [(0, .slice a0' clauses_0.length c0'), (3, .pointer (some ⟨b2, 0, none⟩)), (4, .slice a397 st396.1.length c398), (5, .pointer (some ⟨b21, 0, none⟩)), (63, .bool false), (64, .slice a48 st396.2.2.1.length c49)] (by kernel_rfl) ?_
      obtain ⟨x665, hx666, hm⟩ := bindE hm
      refine WL.st (.pointer (some (at_ a48 (Int.toNat 2 * 1)))) (ST.index (T := fBool.ty) (xs := st396.2.2.1) (SH.rd (SH.front 1 hS403)) hx666 rfl rfl rfl Tryd.underlying81 (info4).1 (info4).2.1) rfl rfl rfl ?_
      refine WL.st (.bool x665) (ST.load (cell_ext (Rd.flat (F := fBool) (SH.rd (SH.front 1 hS403)) hx666 0 rfl)) rfl rfl Tryd.underlying4 rfl) rfl rfl rfl ?_
      refine WL.runk 2 [0, 3, 4, 5, 68] [(0, .slice a0' clauses_0.length c0'), (3, .pointer (some ⟨b2, 0, none⟩)), (4, .slice a397 st396.1.length c398), (5, .pointer (some ⟨b21, 0, none⟩)), (68, .bool (!x665))] (by kernel_rfl) ?_
      refine WL.nil ?_
      obtain rfl := Option.some.inj hm
      exact WQ.post' ⟨rfl, hb401, hL402, (SH.take 3 (SH.front 2 (SH.front 3 (SH.front 3 hS403))))⟩ ⟨rfl, rfl, rfl, rfl, rfl, trivial⟩
    clear hx661
    rintro _ w667 ⟨rfl, hb668, hL669, hS670⟩
    refine WQ.then_normal (hK654 _ _ _ ?_)
    obtain ⟨x690, hx691, hm⟩ := bindE hm
    refine WP.cut (fun env' w' => ∃ (a692 : Option Addr) (c693 : Nat), env' = [(3, .pointer (some ⟨b2, 0, none⟩)), (4, .slice a692 x690.length c693), (5, .pointer (some ⟨b21, 0, none⟩))] ∧ Ext w w' ∧ w.heap.size ≤ w'.heap.size ∧ SH w' w.heap.size [aOwn fTrouble 62 a692 c693 x690, aBox 32 b21 [.string (bs st396.2.2.2.1), .string (bs st396.2.2.2.2.1), .string (bs st396.2.2.2.2.2.1), .string (bs st396.2.2.2.2.2.2.1), .int .i64 st396.2.2.2.2.2.2.2.1, .int .i64 st396.2.2.2.2.2.2.2.2.1, .int .i64 st396.2.2.2.2.2.2.2.2.2.1, .int .i64 st396.2.2.2.2.2.2.2.2.2.2.1, .bool st396.2.2.2.2.2.2.2.2.2.2.2], aBox 32 b2 [.string (bs []), .string (bs []), .string (bs []), .string (bs []), .int .i64 0, .int .i64 0, .int .i64 0, .int .i64 0, .bool false]]) ?_ ?_
    · have hm := hx691; clear hx691
      refine WP.cond x660 rfl rfl (fun hc671 => ?_) (fun hc671 => ?_)
      rotate_left
      · have hm := iteF hm hc671
        refine WP.skip ?_
        obtain rfl := Option.some.inj hm
        exact WQ.post' ⟨_, _, rfl, hb668, hL669, hS670⟩ ⟨rfl, rfl, rfl, trivial⟩
      have hm := iteT hm hc671
      refine WP.region ?_
      refine WL.runk 4 [3, 5, 69, 72] [(3, .pointer (some ⟨b2, 0, none⟩)), (5, .pointer (some ⟨b21, 0, none⟩)), (69, .slice a397 st396.1.length c398), (72, .agg #[.int .i64 (clauses_0.length : Int), .int .i64 6])] (by kernel_rfl) ?_
      refine WL.row fTrouble 62 ([(STrouble.mk (clauses_0.length : Int) 6)] : List STrouble) 1 #[.int .i64 (clauses_0.length : Int), .int .i64 6] 73 (by kernel_rfl) rfl rfl rfl rfl rfl rfl rfl ?_
      intro a695 c696 w697 hE698 hR699
      have hb701 : Ext w w697 := Ext.trans hb668 hE698
      have hL702 : w.heap.size ≤ w697.heap.size := Nat.le_trans hL669 hE698.size
      have hS703 : SH w697 w.heap.size [aOwn fTrouble 62 a695 c696 ([(STrouble.mk (clauses_0.length : Int) 6)] : List STrouble), aOwn fTrouble 62 a397 c398 st396.1, aBox 32 b21 [.string (bs st396.2.2.2.1), .string (bs st396.2.2.2.2.1), .string (bs st396.2.2.2.2.2.1), .string (bs st396.2.2.2.2.2.2.1), .int .i64 st396.2.2.2.2.2.2.2.1, .int .i64 st396.2.2.2.2.2.2.2.2.1, .int .i64 st396.2.2.2.2.2.2.2.2.2.1, .int .i64 st396.2.2.2.2.2.2.2.2.2.2.1, .bool st396.2.2.2.2.2.2.2.2.2.2.2], aBox 32 b2 [.string (bs []), .string (bs []), .string (bs []), .string (bs []), .int .i64 0, .int .i64 0, .int .i64 0, .int .i64 0, .bool false]] := SH.add hS670 hE698 hL669 hR699
      obtain ⟨x704, hx705, hm⟩ := bindE hm
      refine WL.append (F := fTrouble) (xs := st396.1) (ys := ([(STrouble.mk (clauses_0.length : Int) 6)] : List STrouble)) 74 (SH.front 1 hS703) hL702 (SH.rd (SH.front 0 hS703)) hx705 rfl rfl rfl Tryd.underlying37 (info62).1 (info62).2.2.1 (info62).2.1 (info62).2.2.2 rfl rfl rfl rfl rfl ?_
      intro a706 c707 w708 hB709 hS710
      have hb711 : Ext w w708 := Below.trans hb701 hB709
      have hL712 : w.heap.size ≤ w708.heap.size := Nat.le_trans hL702 hB709.size
      refine WL.runk 1 [3, 4, 5] [(3, .pointer (some ⟨b2, 0, none⟩)), (5, .pointer (some ⟨b21, 0, none⟩)), (4, .slice a706 x704.length c707)] (by kernel_rfl) ?_
      refine WL.nil ?_
      obtain rfl := Option.some.inj hm
      exact WQ.post' ⟨_, _, rfl, hb711, hL712, (SH.take 3 (SH.front 2 (SH.front 3 (SH.front 3 hS710))))⟩ ⟨rfl, rfl, rfl, trivial⟩
    clear hx691
    rintro _ w713 ⟨a692, c693, rfl, hb714, hL715, hS716⟩
    refine WQ.then_normal (hK653 _ _ _ ?_)
    refine WP.seq (fun K717 hK717 => ?_)
    refine WP.open (n := 4) (by kernel_rfl) rfl (fun w718 hE719 => ?_)
    have hb720 : Ext w w718 := Ext.trans hb714 hE719
    have hL721 : w.heap.size ≤ w718.heap.size := Nat.le_trans hL715 hE719.size
    have hS722 : SH w718 w.heap.size [aOwn fTrouble 62 a692 c693 x690, aBox 32 b21 [.string (bs st396.2.2.2.1), .string (bs st396.2.2.2.2.1), .string (bs st396.2.2.2.2.2.1), .string (bs st396.2.2.2.2.2.2.1), .int .i64 st396.2.2.2.2.2.2.2.1, .int .i64 st396.2.2.2.2.2.2.2.2.1, .int .i64 st396.2.2.2.2.2.2.2.2.2.1, .int .i64 st396.2.2.2.2.2.2.2.2.2.2.1, .bool st396.2.2.2.2.2.2.2.2.2.2.2], aBox 32 b2 [.string (bs []), .string (bs []), .string (bs []), .string (bs []), .int .i64 0, .int .i64 0, .int .i64 0, .int .i64 0, .bool false]] := SH.ext hS716 hE719
    refine WA.quiet (f' := 1) (D' := [0, 1, 2]) [0, 1, 2] rfl rfl (by kernel_rfl) ?_
    refine QL.step1v 75 (.slice a692 x690.length c693) rfl (fun _ => by kernel_rfl) ?_
    refine QL.subk [3, 5, 75] [(3, .pointer (some ⟨b2, 0, none⟩)), (5, .pointer (some ⟨b21, 0, none⟩)), (75, .slice a692 x690.length c693)] (by kernel_rfl) ?_
    refine QL.st (.agg #[.string (bs st396.2.2.2.1), .string (bs st396.2.2.2.2.1), .string (bs st396.2.2.2.2.2.1), .string (bs st396.2.2.2.2.2.2.1), .int .i64 st396.2.2.2.2.2.2.2.1, .int .i64 st396.2.2.2.2.2.2.2.2.1, .int .i64 st396.2.2.2.2.2.2.2.2.2.1, .int .i64 st396.2.2.2.2.2.2.2.2.2.2.1, .bool st396.2.2.2.2.2.2.2.2.2.2.2]) (ST.loadAgg (vs := [.string (bs st396.2.2.2.1), .string (bs st396.2.2.2.2.1), .string (bs st396.2.2.2.2.2.1), .string (bs st396.2.2.2.2.2.2.1), .int .i64 st396.2.2.2.2.2.2.2.1, .int .i64 st396.2.2.2.2.2.2.2.2.1, .int .i64 st396.2.2.2.2.2.2.2.2.2.1, .int .i64 st396.2.2.2.2.2.2.2.2.2.2.1, .bool st396.2.2.2.2.2.2.2.2.2.2.2]) (fun j v hv => SH.boxPart (us := [.string (bs st396.2.2.2.1), .string (bs st396.2.2.2.2.1), .string (bs st396.2.2.2.2.2.1), .string (bs st396.2.2.2.2.2.2.1), .int .i64 st396.2.2.2.2.2.2.2.1, .int .i64 st396.2.2.2.2.2.2.2.2.1, .int .i64 st396.2.2.2.2.2.2.2.2.2.1, .int .i64 st396.2.2.2.2.2.2.2.2.2.2.1, .bool st396.2.2.2.2.2.2.2.2.2.2.2]) (SH.front 1 hS722) 0 rfl j v hv) rfl rfl rfl Tryd.underlying32 rfl (info32).1 (info32).2.1) rfl rfl rfl ?_
    refine QL.step1v 2 (.slice a692 x690.length c693) rfl (fun _ => by kernel_rfl) ?_
    refine QL.subk [3, 76, 2] [(3, .pointer (some ⟨b2, 0, none⟩)), (76, .agg #[.string (bs st396.2.2.2.1), .string (bs st396.2.2.2.2.1), .string (bs st396.2.2.2.2.2.1), .string (bs st396.2.2.2.2.2.2.1), .int .i64 st396.2.2.2.2.2.2.2.1, .int .i64 st396.2.2.2.2.2.2.2.2.1, .int .i64 st396.2.2.2.2.2.2.2.2.2.1, .int .i64 st396.2.2.2.2.2.2.2.2.2.2.1, .bool st396.2.2.2.2.2.2.2.2.2.2.2]), (2, .slice a692 x690.length c693)] (by kernel_rfl) ?_
    refine QL.nil ?_
    intro w723 hE724
    have hb725 : Ext w w723 := Ext.trans hb720 hE724
    have hL726 : w.heap.size ≤ w723.heap.size := Nat.le_trans hL721 hE724.size
    have hS727 : SH w723 w.heap.size [aOwn fTrouble 62 a692 c693 x690, aBox 32 b21 [.string (bs st396.2.2.2.1), .string (bs st396.2.2.2.2.1), .string (bs st396.2.2.2.2.2.1), .string (bs st396.2.2.2.2.2.2.1), .int .i64 st396.2.2.2.2.2.2.2.1, .int .i64 st396.2.2.2.2.2.2.2.2.1, .int .i64 st396.2.2.2.2.2.2.2.2.2.1, .int .i64 st396.2.2.2.2.2.2.2.2.2.2.1, .bool st396.2.2.2.2.2.2.2.2.2.2.2], aBox 32 b2 [.string (bs []), .string (bs []), .string (bs []), .string (bs []), .int .i64 0, .int .i64 0, .int .i64 0, .int .i64 0, .bool false]] := SH.ext hS722 hE724
    refine WA.one (i := 3) (D' := [0, 1, 2, 3]) rfl rfl (by kernel_rfl) ?_
    refine WL.boxStore 0 [.string (bs st396.2.2.2.1), .string (bs st396.2.2.2.2.1), .string (bs st396.2.2.2.2.2.1), .string (bs st396.2.2.2.2.2.2.1), .int .i64 st396.2.2.2.2.2.2.2.1, .int .i64 st396.2.2.2.2.2.2.2.2.1, .int .i64 st396.2.2.2.2.2.2.2.2.2.1, .int .i64 st396.2.2.2.2.2.2.2.2.2.2.1, .bool st396.2.2.2.2.2.2.2.2.2.2.2] [.string (bs st396.2.2.2.1), .string (bs st396.2.2.2.2.1), .string (bs st396.2.2.2.2.2.1), .string (bs st396.2.2.2.2.2.2.1), .int .i64 st396.2.2.2.2.2.2.2.1, .int .i64 st396.2.2.2.2.2.2.2.2.1, .int .i64 st396.2.2.2.2.2.2.2.2.2.1, .int .i64 st396.2.2.2.2.2.2.2.2.2.2.1, .bool st396.2.2.2.2.2.2.2.2.2.2.2] (SH.front 2 hS727) hL726 rfl rfl rfl rfl rfl rfl rfl (info32).1 (info32).2.1 rfl rfl rfl ?_
    intro w728 hB729 hS730
    have hb731 : Ext w w728 := Below.trans hb725 hB729
    have hL732 : w.heap.size ≤ w728.heap.size := Nat.le_trans hL726 hB729.size
    refine WL.sub [(3, .pointer (some ⟨b2, 0, none⟩)), (2, .slice a692 x690.length c693)] ⟨rfl, rfl, trivial⟩ ?_
    refine WL.nil ?_
    refine WA.done (by kernel_rfl) ?_
    refine WQ.then_normal (hK717 _ _ _ ?_)
    refine WP.ret ?_
    obtain rfl := Option.some.inj hm
    exact WQ.retv2 _ _ rfl (RVal.tmp rfl) (RVal.box (SH.front 0 hS730) rfl Tryd.underlying32 rfl (info32).1 (info32).2.1) ⟨_, _, rfl, hb731, (SH.take 1 (SH.front 1 hS730))⟩
  have hm := iteT hm hc414
  refine WP.skip ?_
  refine WQ.then_normal (hK412 _ _ _ ?_)
  refine WP.seq (fun K415 hK415 => ?_)
  refine WP.block ?_
  refine WP.seq (fun K416 hK416 => ?_)
  refine WP.region ?_
  refine WL.runk 2 [0, 3, 4, 5, 6, 7, 22, 23] [(0, .slice a0' clauses_0.length c0'), (3, .pointer (some ⟨b2, 0, none⟩)), (4, .slice a397 st396.1.length c398), (5, .pointer (some ⟨b21, 0, none⟩)), (6, .slice a48 st396.2.2.1.length c49), (7, .int .i64 st396.2.1), (22, .slice a0' clauses_0.length c0'), (23, .int .i64 st396.2.1)] (by kernel_rfl) ?_
  obtain ⟨x417, hx418, hm⟩ := bindE hm
  refine WL.st (.pointer (some (at_ a0' (Int.toNat st396.2.1 * 1)))) (ST.index (T := fStr.ty) (xs := clauses_0) (Rd.below h0 hb401) hx418 rfl rfl rfl Tryd.underlying22 (info9).1 (info9).2.1) rfl rfl rfl ?_
  refine WL.st (.string (bs x417)) (ST.load (cell_ext (Rd.flat (F := fStr) (Rd.below h0 hb401) hx418 0 rfl)) rfl rfl Tryd.underlying9 rfl) rfl rfl rfl ?_
  obtain ⟨x419, hx420, hm⟩ := bindE hm
  refine WL.call 47 #[.string (bs x417)] rfl rfl (by kernel_rfl) (c_47 n x417 w400 hx420 ) ?_
  rintro _ w424 ⟨a421, c422, rfl, hE425, hR426⟩
  refine ⟨_, rfl, ?_⟩
  have hb427 : Ext w w424 := Ext.trans hb401 hE425
  have hL428 : w.heap.size ≤ w424.heap.size := Nat.le_trans hL402 hE425.size
  have hS429 : SH w424 w.heap.size [aOwn fStr 9 a421 c422 x419, aOwn fTrouble 62 a397 c398 st396.1, aOwn fBool 4 a48 c49 st396.2.2.1, aBox 32 b21 [.string (bs st396.2.2.2.1), .string (bs st396.2.2.2.2.1), .string (bs st396.2.2.2.2.2.1), .string (bs st396.2.2.2.2.2.2.1), .int .i64 st396.2.2.2.2.2.2.2.1, .int .i64 st396.2.2.2.2.2.2.2.2.1, .int .i64 st396.2.2.2.2.2.2.2.2.2.1, .int .i64 st396.2.2.2.2.2.2.2.2.2.2.1, .bool st396.2.2.2.2.2.2.2.2.2.2.2], aBox 32 b2 [.string (bs []), .string (bs []), .string (bs []), .string (bs []), .int .i64 0, .int .i64 0, .int .i64 0, .int .i64 0, .bool false]] := SH.add hS403 hE425 hL402 hR426
  refine WL.runk 1 [0, 3, 4, 5, 6, 7, 8] [(0, .slice a0' clauses_0.length c0'), (3, .pointer (some ⟨b2, 0, none⟩)), (4, .slice a397 st396.1.length c398), (5, .pointer (some ⟨b21, 0, none⟩)), (6, .slice a48 st396.2.2.1.length c49), (7, .int .i64 st396.2.1), (8, .slice a421 x419.length c422)] (by kernel_rfl) ?_
  refine WL.nil ?_
  refine WQ.then_normal (hK416 _ _ _ ?_)
  refine WP.seq (fun K430 hK430 => ?_)
  refine WP.region ?_
  refine WL.runk 1 [0, 3, 4, 5, 6, 7, 8, 27] [(0, .slice a0' clauses_0.length c0'), (3, .pointer (some ⟨b2, 0, none⟩)), (4, .slice a397 st396.1.length c398), (5, .pointer (some ⟨b21, 0, none⟩)), (6, .slice a48 st396.2.2.1.length c49), (7, .int .i64 st396.2.1), (8, .slice a421 x419.length c422), (27, .slice a421 x419.length c422)] (by kernel_rfl) ?_
  obtain ⟨x431, hx432, hm⟩ := bindE hm
  refine WL.call 46 #[.slice a421 x419.length c422] rfl rfl (by kernel_rfl) (c_46 n x419 a421 c422 w424 hx432 (SH.rd (SH.front 0 hS429)) (SH.le (SH.front 0 hS429)).1) ?_
  rintro _ w433 ⟨rfl, hE434⟩
  refine ⟨_, rfl, ?_⟩
  have hb436 : Ext w w433 := Ext.trans hb427 hE434
  have hL437 : w.heap.size ≤ w433.heap.size := Nat.le_trans hL428 hE434.size
  have hS438 : SH w433 w.heap.size [aOwn fStr 9 a421 c422 x419, aOwn fTrouble 62 a397 c398 st396.1, aOwn fBool 4 a48 c49 st396.2.2.1, aBox 32 b21 [.string (bs st396.2.2.2.1), .string (bs st396.2.2.2.2.1), .string (bs st396.2.2.2.2.2.1), .string (bs st396.2.2.2.2.2.2.1), .int .i64 st396.2.2.2.2.2.2.2.1, .int .i64 st396.2.2.2.2.2.2.2.2.1, .int .i64 st396.2.2.2.2.2.2.2.2.2.1, .int .i64 st396.2.2.2.2.2.2.2.2.2.2.1, .bool st396.2.2.2.2.2.2.2.2.2.2.2], aBox 32 b2 [.string (bs []), .string (bs []), .string (bs []), .string (bs []), .int .i64 0, .int .i64 0, .int .i64 0, .int .i64 0, .bool false]] := SH.ext hS429 hE434
  refine WL.runk 1 [0, 3, 4, 5, 6, 7, 8, 9] [(0, .slice a0' clauses_0.length c0'), (3, .pointer (some ⟨b2, 0, none⟩)), (4, .slice a397 st396.1.length c398), (5, .pointer (some ⟨b21, 0, none⟩)), (6, .slice a48 st396.2.2.1.length c49), (7, .int .i64 st396.2.1), (8, .slice a421 x419.length c422), (9, .int .i64 x431)] (by kernel_rfl) ?_
  refine WL.nil ?_
  refine WQ.then_normal (hK430 _ _ _ ?_)
  refine WP.seq (fun K439 hK439 => ?_)
  refine WP.region ?_
  refine WL.runk 1 [0, 3, 4, 5, 6, 7, 8, 9, 10] [(0, .slice a0' clauses_0.length c0'), (3, .pointer (some ⟨b2, 0, none⟩)), (4, .slice a397 st396.1.length c398), (5, .pointer (some ⟨b21, 0, none⟩)), (6, .slice a48 st396.2.2.1.length c49), (7, .int .i64 st396.2.1), (8, .slice a421 x419.length c422), (9, .int .i64 x431), (10, .int .i64 (-1))] (by kernel_rfl) ?_
  refine WL.nil ?_
  refine WQ.then_normal (hK439 _ _ _ ?_)
  refine WP.seq (fun K440 hK440 => ?_)
  refine WP.seq (fun K441 hK441 => ?_)
  refine WP.region ?_
  refine WL.runk 3 [0, 3, 4, 5, 6, 7, 8, 9, 10, 31] [(0, .slice a0' clauses_0.length c0'), (3, .pointer (some ⟨b2, 0, none⟩)), (4, .slice a397 st396.1.length c398), (5, .pointer (some ⟨b21, 0, none⟩)), (6, .slice a48 st396.2.2.1.length c49), (7, .int .i64 st396.2.1), (8, .slice a421 x419.length c422), (9, .int .i64 x431), (10, .int .i64 (-1)), (31, .bool (decide ((x419.length : Int) > 0)))] (by kernel_rfl) ?_
  refine WL.nil ?_
  refine WQ.then_normal (hK441 _ _ _ ?_)
  obtain ⟨x453, hx454, hm⟩ := bindE hm
  refine WP.cut (fun env' w' => env' = [(0, .slice a0' clauses_0.length c0'), (3, .pointer (some ⟨b2, 0, none⟩)), (4, .slice a397 st396.1.length c398), (5, .pointer (some ⟨b21, 0, none⟩)), (6, .slice a48 st396.2.2.1.length c49), (7, .int .i64 st396.2.1), (8, .slice a421 x419.length c422), (9, .int .i64 x431), (10, .int .i64 x453)] ∧ Ext w w' ∧ w.heap.size ≤ w'.heap.size ∧ SH w' w.heap.size [aOwn fStr 9 a421 c422 x419, aOwn fTrouble 62 a397 c398 st396.1, aOwn fBool 4 a48 c49 st396.2.2.1, aBox 32 b21 [.string (bs st396.2.2.2.1), .string (bs st396.2.2.2.2.1), .string (bs st396.2.2.2.2.2.1), .string (bs st396.2.2.2.2.2.2.1), .int .i64 st396.2.2.2.2.2.2.2.1, .int .i64 st396.2.2.2.2.2.2.2.2.1, .int .i64 st396.2.2.2.2.2.2.2.2.2.1, .int .i64 st396.2.2.2.2.2.2.2.2.2.2.1, .bool st396.2.2.2.2.2.2.2.2.2.2.2], aBox 32 b2 [.string (bs []), .string (bs []), .string (bs []), .string (bs []), .int .i64 0, .int .i64 0, .int .i64 0, .int .i64 0, .bool false]]) ?_ ?_
  · have hm := hx454; clear hx454
    refine WP.cond (decide ((x419.length : Int) > 0)) rfl rfl (fun hc442 => ?_) (fun hc442 => ?_)
    rotate_left
    · have hm := iteF hm hc442
      refine WP.skip ?_
      obtain rfl := Option.some.inj hm
      exact WQ.post' ⟨rfl, hb436, hL437, hS438⟩ ⟨rfl, rfl, rfl, rfl, rfl, rfl, rfl, rfl, rfl, trivial⟩
    have hm := iteT hm hc442
    refine WP.region ?_
    refine WL.runk 1 [0, 3, 4, 5, 6, 7, 8, 9, 32] [(0, .slice a0' clauses_0.length c0'), (3, .pointer (some ⟨b2, 0, none⟩)), (4, .slice a397 st396.1.length c398), (5, .pointer (some ⟨b21, 0, none⟩)), (6, .slice a48 st396.2.2.1.length c49), (7, .int .i64 st396.2.1), (8, .slice a421 x419.length c422), (9, .int .i64 x431), (32, .slice a421 x419.length c422)] (by kernel_rfl) ?_
    obtain ⟨x455, hx456, hm⟩ := bindE hm
    refine WL.st (.pointer (some (at_ a421 (Int.toNat 0 * 1)))) (ST.index (T := fStr.ty) (xs := x419) (SH.rd (SH.front 0 hS438)) hx456 rfl rfl rfl Tryd.underlying22 (info9).1 (info9).2.1) rfl rfl rfl ?_
    refine WL.st (.string (bs x455)) (ST.load (cell_ext (Rd.flat (F := fStr) (SH.rd (SH.front 0 hS438)) hx456 0 rfl)) rfl rfl Tryd.underlying9 rfl) rfl rfl rfl ?_
    obtain ⟨x457, hx458, hm⟩ := bindE hm
    refine WL.call 57 #[.string (bs x455)] rfl rfl (by kernel_rfl) (c_57 n x455 w433 hx458 ) ?_
    rintro _ w459 ⟨rfl, hE460⟩
    refine ⟨_, rfl, ?_⟩
    have hb462 : Ext w w459 := Ext.trans hb436 hE460
    have hL463 : w.heap.size ≤ w459.heap.size := Nat.le_trans hL437 hE460.size
    have hS464 : SH w459 w.heap.size [aOwn fStr 9 a421 c422 x419, aOwn fTrouble 62 a397 c398 st396.1, aOwn fBool 4 a48 c49 st396.2.2.1, aBox 32 b21 [.string (bs st396.2.2.2.1), .string (bs st396.2.2.2.2.1), .string (bs st396.2.2.2.2.2.1), .string (bs st396.2.2.2.2.2.2.1), .int .i64 st396.2.2.2.2.2.2.2.1, .int .i64 st396.2.2.2.2.2.2.2.2.1, .int .i64 st396.2.2.2.2.2.2.2.2.2.1, .int .i64 st396.2.2.2.2.2.2.2.2.2.2.1, .bool st396.2.2.2.2.2.2.2.2.2.2.2], aBox 32 b2 [.string (bs []), .string (bs []), .string (bs []), .string (bs []), .int .i64 0, .int .i64 0, .int .i64 0, .int .i64 0, .bool false]] := SH.ext hS438 hE460
    refine WL.runk 1 [0, 3, 4, 5, 6, 7, 8, 9, 10] [(0, .slice a0' clauses_0.length c0'), (3, .pointer (some ⟨b2, 0, none⟩)), (4, .slice a397 st396.1.length c398), (5, .pointer (some ⟨b21, 0, none⟩)), (6, .slice a48 st396.2.2.1.length c49), (7, .int .i64 st396.2.1), (8, .slice a421 x419.length c422), (9, .int .i64 x431), (10, .int .i64 x457)] (by kernel_rfl) ?_
    refine WL.nil ?_
    obtain rfl := Option.some.inj hm
    exact WQ.post' ⟨rfl, hb462, hL463, hS464⟩ ⟨rfl, rfl, rfl, rfl, rfl, rfl, rfl, rfl, rfl, trivial⟩
  clear hx454
  rintro _ w465 ⟨rfl, hb466, hL467, hS468⟩
  refine WQ.then_normal (hK440 _ _ _ ?_)
  refine WP.seq (fun K469 hK469 => ?_)
  refine WP.seq (fun K470 hK470 => ?_)
  obtain ⟨x474, hx475, hm⟩ := bindE hm
  refine WP.cut (fun env' w' => env' = [(0, .slice a0' clauses_0.length c0'), (3, .pointer (some ⟨b2, 0, none⟩)), (4, .slice a397 st396.1.length c398), (5, .pointer (some ⟨b21, 0, none⟩)), (6, .slice a48 st396.2.2.1.length c49), (7, .int .i64 st396.2.1), (8, .slice a421 x419.length c422), (9, .int .i64 x431), (10, .int .i64 x453), (43, .bool x474)] ∧ Ext w w' ∧ w.heap.size ≤ w'.heap.size ∧ SH w' w.heap.size [aOwn fStr 9 a421 c422 x419, aOwn fTrouble 62 a397 c398 st396.1, aOwn fBool 4 a48 c49 st396.2.2.1, aBox 32 b21 [.string (bs st396.2.2.2.1), .string (bs st396.2.2.2.2.1), .string (bs st396.2.2.2.2.2.1), .string (bs st396.2.2.2.2.2.2.1), .int .i64 st396.2.2.2.2.2.2.2.1, .int .i64 st396.2.2.2.2.2.2.2.2.1, .int .i64 st396.2.2.2.2.2.2.2.2.2.1, .int .i64 st396.2.2.2.2.2.2.2.2.2.2.1, .bool st396.2.2.2.2.2.2.2.2.2.2.2], aBox 32 b2 [.string (bs []), .string (bs []), .string (bs []), .string (bs []), .int .i64 0, .int .i64 0, .int .i64 0, .int .i64 0, .bool false]]) ?_ ?_
  · have hm := hx475; clear hx475
    refine WP.region ?_
    refine WL.runk 3 [0, 3, 4, 5, 6, 7, 8, 9, 10, 38] [(0, .slice a0' clauses_0.length c0'), (3, .pointer (some ⟨b2, 0, none⟩)), (4, .slice a397 st396.1.length c398), (5, .pointer (some ⟨b21, 0, none⟩)), (6, .slice a48 st396.2.2.1.length c49), (7, .int .i64 st396.2.1), (8, .slice a421 x419.length c422), (9, .int .i64 x431), (10, .int .i64 x453), (38, .bool (x431 == 0))] (by kernel_rfl) ?_
    refine WL.case (x431 == 0) [38] ⟨rfl, trivial⟩ (fun hc476 => ?_) (fun hc476 => ?_)
    rotate_left
    · have hm := iteF hm hc476
      refine WL.runk 5 [0, 3, 4, 5, 6, 7, 8, 9, 10, 43] [(0, .slice a0' clauses_0.length c0'), (3, .pointer (some ⟨b2, 0, none⟩)), (4, .slice a397 st396.1.length c398), (5, .pointer (some ⟨b21, 0, none⟩)), (6, .slice a48 st396.2.2.1.length c49), (7, .int .i64 st396.2.1), (8, .slice a421 x419.length c422), (9, .int .i64 x431), (10, .int .i64 x453), (43, .bool false)] (by kernel_rfl) ?_
      refine WL.nil ?_
      obtain rfl := Option.some.inj hm
      exact WQ.post' ⟨rfl, hb466, hL467, hS468⟩ ⟨rfl, rfl, rfl, rfl, rfl, rfl, rfl, rfl, rfl, rfl, trivial⟩
    have hm := iteT hm hc476
    refine WL.runk 2 [0, 3, 4, 5, 6, 7, 8, 9, 10, 38, 39, 40] [(0, .slice a0' clauses_0.length c0'), (3, .pointer (some ⟨b2, 0, none⟩)), (4, .slice a397 st396.1.length c398), (5, .pointer (some ⟨b21, 0, none⟩)), (6, .slice a48 st396.2.2.1.length c49), (7, .int .i64 st396.2.1), (8, .slice a421 x419.length c422), (9, .int .i64 x431), (10, .int .i64 x453), (38, .bool true), (39, .slice a48 st396.2.2.1.length c49), (40, .int .i64 x453)] (by kernel_rfl) ?_
    obtain ⟨x477, hx478, hm⟩ := bindE hm
    refine WL.st (.pointer (some (at_ a48 (Int.toNat x453 * 1)))) (ST.index (T := fBool.ty) (xs := st396.2.2.1) (SH.rd (SH.front 2 hS468)) hx478 rfl rfl rfl Tryd.underlying81 (info4).1 (info4).2.1) rfl rfl rfl ?_
    refine WL.st (.bool x477) (ST.load (cell_ext (Rd.flat (F := fBool) (SH.rd (SH.front 2 hS468)) hx478 0 rfl)) rfl rfl Tryd.underlying4 rfl) rfl rfl rfl ?_
    refine WL.runk 1 [0, 3, 4, 5, 6, 7, 8, 9, 10, 43] [(0, .slice a0' clauses_0.length c0'), (3, .pointer (some ⟨b2, 0, none⟩)), (4, .slice a397 st396.1.length c398), (5, .pointer (some ⟨b21, 0, none⟩)), (6, .slice a48 st396.2.2.1.length c49), (7, .int .i64 st396.2.1), (8, .slice a421 x419.length c422), (9, .int .i64 x431), (10, .int .i64 x453), (43, .bool x477)] (by kernel_rfl) ?_
    refine WL.nil ?_
    obtain rfl := Option.some.inj hm
    exact WQ.post' ⟨rfl, hb466, hL467, hS468⟩ ⟨rfl, rfl, rfl, rfl, rfl, rfl, rfl, rfl, rfl, rfl, trivial⟩
  clear hx475
  rintro _ w479 ⟨rfl, hb480, hL481, hS482⟩
  refine WQ.then_normal (hK470 _ _ _ ?_)
  obtain ⟨x484, hx485, hm⟩ := bindE hm
  refine WP.cut (fun env' w' => env' = [(0, .slice a0' clauses_0.length c0'), (3, .pointer (some ⟨b2, 0, none⟩)), (4, .slice a397 st396.1.length c398), (5, .pointer (some ⟨b21, 0, none⟩)), (6, .slice a48 st396.2.2.1.length c49), (7, .int .i64 st396.2.1), (8, .slice a421 x419.length c422), (9, .int .i64 x484), (10, .int .i64 x453)] ∧ Ext w w' ∧ w.heap.size ≤ w'.heap.size ∧ SH w' w.heap.size [aOwn fStr 9 a421 c422 x419, aOwn fTrouble 62 a397 c398 st396.1, aOwn fBool 4 a48 c49 st396.2.2.1, aBox 32 b21 [.string (bs st396.2.2.2.1), .string (bs st396.2.2.2.2.1), .string (bs st396.2.2.2.2.2.1), .string (bs st396.2.2.2.2.2.2.1), .int .i64 st396.2.2.2.2.2.2.2.1, .int .i64 st396.2.2.2.2.2.2.2.2.1, .int .i64 st396.2.2.2.2.2.2.2.2.2.1, .int .i64 st396.2.2.2.2.2.2.2.2.2.2.1, .bool st396.2.2.2.2.2.2.2.2.2.2.2], aBox 32 b2 [.string (bs []), .string (bs []), .string (bs []), .string (bs []), .int .i64 0, .int .i64 0, .int .i64 0, .int .i64 0, .bool false]]) ?_ ?_
  · have hm := hx485; clear hx485
    refine WP.cond x474 rfl rfl (fun hc483 => ?_) (fun hc483 => ?_)
    rotate_left
    · have hm := iteF hm hc483
      refine WP.skip ?_
      obtain rfl := Option.some.inj hm
      exact WQ.post' ⟨rfl, hb480, hL481, hS482⟩ ⟨rfl, rfl, rfl, rfl, rfl, rfl, rfl, rfl, rfl, trivial⟩
    have hm := iteT hm hc483
    refine WP.region ?_
    refine WL.runk 1 [0, 3, 4, 5, 6, 7, 8, 9, 10] [(0, .slice a0' clauses_0.length c0'), (3, .pointer (some ⟨b2, 0, none⟩)), (4, .slice a397 st396.1.length c398), (5, .pointer (some ⟨b21, 0, none⟩)), (6, .slice a48 st396.2.2.1.length c49), (7, .int .i64 st396.2.1), (8, .slice a421 x419.length c422), (9, .int .i64 5), (10, .int .i64 x453)] (by kernel_rfl) ?_
    refine WL.nil ?_
    obtain rfl := Option.some.inj hm
    exact WQ.post' ⟨rfl, hb480, hL481, hS482⟩ ⟨rfl, rfl, rfl, rfl, rfl, rfl, rfl, rfl, rfl, trivial⟩
  clear hx485
  rintro _ w486 ⟨rfl, hb487, hL488, hS489⟩
  refine WQ.then_normal (hK469 _ _ _ ?_)
  refine WP.seq (fun K490 hK490 => ?_)
  refine WP.seq (fun K491 hK491 => ?_)
  refine WP.region ?_
  refine WL.runk 2 [0, 3, 4, 5, 6, 7, 8, 9, 10, 45] [(0, .slice a0' clauses_0.length c0'), (3, .pointer (some ⟨b2, 0, none⟩)), (4, .slice a397 st396.1.length c398), (5, .pointer (some ⟨b21, 0, none⟩)), (6, .slice a48 st396.2.2.1.length c49), (7, .int .i64 st396.2.1), (8, .slice a421 x419.length c422), (9, .int .i64 x484), (10, .int .i64 x453), (45, .bool (decide (x453 ≥ 0)))] (by kernel_rfl) ?_
  refine WL.nil ?_
  refine WQ.then_normal (hK491 _ _ _ ?_)
  obtain ⟨x516, hx517, hm⟩ := bindE hm
  refine WP.cut (fun env' w' => env' = [(0, .slice a0' clauses_0.length c0'), (3, .pointer (some ⟨b2, 0, none⟩)), (4, .slice a397 st396.1.length c398), (5, .pointer (some ⟨b21, 0, none⟩)), (6, .slice a48 x516.length c49), (7, .int .i64 st396.2.1), (8, .slice a421 x419.length c422), (9, .int .i64 x484)] ∧ Ext w w' ∧ w.heap.size ≤ w'.heap.size ∧ SH w' w.heap.size [aOwn fStr 9 a421 c422 x419, aOwn fTrouble 62 a397 c398 st396.1, aOwn fBool 4 a48 c49 x516, aBox 32 b21 [.string (bs st396.2.2.2.1), .string (bs st396.2.2.2.2.1), .string (bs st396.2.2.2.2.2.1), .string (bs st396.2.2.2.2.2.2.1), .int .i64 st396.2.2.2.2.2.2.2.1, .int .i64 st396.2.2.2.2.2.2.2.2.1, .int .i64 st396.2.2.2.2.2.2.2.2.2.1, .int .i64 st396.2.2.2.2.2.2.2.2.2.2.1, .bool st396.2.2.2.2.2.2.2.2.2.2.2], aBox 32 b2 [.string (bs []), .string (bs []), .string (bs []), .string (bs []), .int .i64 0, .int .i64 0, .int .i64 0, .int .i64 0, .bool false]]) ?_ ?_
  · have hm := hx517; clear hx517
    refine WP.cond (decide (x453 ≥ 0)) rfl rfl (fun hc492 => ?_) (fun hc492 => ?_)
    rotate_left
    · have hm := iteF hm hc492
      refine WP.skip ?_
      obtain rfl := Option.some.inj hm
      exact WQ.post' ⟨rfl, hb487, hL488, hS489⟩ ⟨rfl, rfl, rfl, rfl, rfl, rfl, rfl, rfl, trivial⟩
    have hm := iteT hm hc492
    refine WP.region ?_
    refine WL.runk 2 [0, 3, 4, 5, 6, 7, 8, 9, 46, 47] [(0, .slice a0' clauses_0.length c0'), (3, .pointer (some ⟨b2, 0, none⟩)), (4, .slice a397 st396.1.length c398), (5, .pointer (some ⟨b21, 0, none⟩)), (6, .slice a48 st396.2.2.1.length c49), (7, .int .i64 st396.2.1), (8, .slice a421 x419.length c422), (9, .int .i64 x484), (46, .slice a48 st396.2.2.1.length c49), (47, .int .i64 x453)] (by kernel_rfl) ?_
    obtain ⟨x518, hx519, hm⟩ := bindE hm
    refine WL.st (.pointer (some (at_ a48 (Int.toNat x453 * 1)))) (ST.index (T := fBool.ty) (xs := st396.2.2.1) (SH.rd (SH.front 2 hS489)) hx519 rfl rfl rfl Tryd.underlying81 (info4).1 (info4).2.1) rfl rfl rfl ?_
    refine WL.store (F := fBool) true 0 [.bool true] (SH.front 2 hS489) hL488 hx519 rfl rfl rfl rfl rfl rfl rfl (info4).1 (info4).2.1 rfl rfl rfl ?_
    intro w520 hB521 hS522
    have hb523 : Ext w w520 := Below.trans hb487 hB521
    have hL524 : w.heap.size ≤ w520.heap.size := Nat.le_trans hL488 hB521.size
    refine WL.sub [(0, .slice a0' clauses_0.length c0'), (3, .pointer (some ⟨b2, 0, none⟩)), (4, .slice a397 st396.1.length c398), (5, .pointer (some ⟨b21, 0, none⟩)), (6, .slice a48 ((st396.2.2.1.set (Int.toNat x453) true).length) c49), (7, .int .i64 st396.2.1), (8, .slice a421 x419.length c422), (9, .int .i64 x484), (46, .slice a48 ((st396.2.2.1.set (Int.toNat x453) true).length) c49), (47, .int .i64 x453)] ⟨rfl, rfl, rfl, rfl, by first | (simp only [List.length_set]; done) | (simp only [List.length_set]; rfl), rfl, rfl, rfl, by first | (simp only [List.length_set]; done) | (simp only [List.length_set]; rfl), rfl, trivial⟩ ?_
    refine WL.sub [(0, .slice a0' clauses_0.length c0'), (3, .pointer (some ⟨b2, 0, none⟩)), (4, .slice a397 st396.1.length c398), (5, .pointer (some ⟨b21, 0, none⟩)), (6, .slice a48 ((st396.2.2.1.set (Int.toNat x453) true).length) c49), (7, .int .i64 st396.2.1), (8, .slice a421 x419.length c422), (9, .int .i64 x484)] ⟨rfl, rfl, rfl, rfl, rfl, rfl, rfl, rfl, trivial⟩ ?_
    refine WL.nil ?_
    obtain rfl := Option.some.inj hm
    exact WQ.post' ⟨rfl, hb523, hL524, (SH.front 4 (SH.front 4 (SH.front 2 (SH.front 4 (SH.front 4 hS522)))))⟩ ⟨rfl, rfl, rfl, rfl, rfl, rfl, rfl, rfl, trivial⟩
  clear hx517
  rintro _ w525 ⟨rfl, hb526, hL527, hS528⟩
  refine WQ.then_normal (hK490 _ _ _ ?_)
  refine WP.seq (fun K529 hK529 => ?_)
  refine WP.region ?_
  refine WL.runk 2 [0, 3, 4, 5, 6, 7, 8, 9, 50] [(0, .slice a0' clauses_0.length c0'), (3, .pointer (some ⟨b2, 0, none⟩)), (4, .slice a397 st396.1.length c398), (5, .pointer (some ⟨b21, 0, none⟩)), (6, .slice a48 x516.length c49), (7, .int .i64 st396.2.1), (8, .slice a421 x419.length c422), (9, .int .i64 x484), (50, .bool (x484 == 0))] (by kernel_rfl) ?_
  refine WL.nil ?_
  refine WQ.then_normal (hK529 _ _ _ ?_)
  obtain ⟨x617, hx618, hm⟩ := bindE hm
  refine WP.cut (fun env' w' => ∃ (a619 : Option Addr) (c620 : Nat), env' = [(0, .slice a0' clauses_0.length c0'), (3, .pointer (some ⟨b2, 0, none⟩)), (4, .slice a619 x617.1.length c620), (5, .pointer (some ⟨b21, 0, none⟩)), (6, .slice a48 x516.length c49), (7, .int .i64 st396.2.1)] ∧ Ext w w' ∧ w.heap.size ≤ w'.heap.size ∧ SH w' w.heap.size [aOwn fTrouble 62 a619 c620 x617.1, aOwn fBool 4 a48 c49 x516, aBox 32 b21 [.string (bs x617.2.1), .string (bs x617.2.2.1), .string (bs x617.2.2.2.1), .string (bs x617.2.2.2.2.1), .int .i64 x617.2.2.2.2.2.1, .int .i64 x617.2.2.2.2.2.2.1, .int .i64 x617.2.2.2.2.2.2.2.1, .int .i64 x617.2.2.2.2.2.2.2.2.1, .bool x617.2.2.2.2.2.2.2.2.2], aBox 32 b2 [.string (bs []), .string (bs []), .string (bs []), .string (bs []), .int .i64 0, .int .i64 0, .int .i64 0, .int .i64 0, .bool false]]) ?_ ?_
  rotate_left
  · clear hx618
    rintro _ w649 ⟨a619, c620, rfl, hb650, hL651, hS652⟩
    refine WQ.block_normal ?_
    refine WQ.then_normal (hK415 _ _ _ ?_)
    refine WP.region ?_
    refine WL.runk 3 [0, 3, 4, 5, 6, 7] [(0, .slice a0' clauses_0.length c0'), (3, .pointer (some ⟨b2, 0, none⟩)), (4, .slice a619 x617.1.length c620), (5, .pointer (some ⟨b21, 0, none⟩)), (6, .slice a48 x516.length c49), (7, .int .i64 (wI64 (st396.2.1 + 1)))] (by kernel_rfl) ?_
    refine WL.nil ?_
    obtain rfl := Option.some.inj hm
    exact WQ.round hK406 ⟨(x617.1, (wI64 (st396.2.1 + 1)), x516, x617.2.1, x617.2.2.1, x617.2.2.2.1, x617.2.2.2.2.1, x617.2.2.2.2.2.1, x617.2.2.2.2.2.2.1, x617.2.2.2.2.2.2.2.1, x617.2.2.2.2.2.2.2.2.1, x617.2.2.2.2.2.2.2.2.2), _, _, rfl, hb650, hL651, hS652, hl404⟩ (Nat.lt_succ_self _) ⟨rfl, rfl, rfl, rfl, rfl, rfl, trivial⟩
  have hm := hx618; clear hx618
  refine WP.cond (x484 == 0) rfl rfl (fun hc530 => ?_) (fun hc530 => ?_)
  · have hm := iteT hm hc530
    refine WP.region ?_
    refine WL.runk 1 [0, 3, 4, 5, 6, 7, 51] [(0, .slice a0' clauses_0.length c0'), (3, .pointer (some ⟨b2, 0, none⟩)), (4, .slice a397 st396.1.length c398), (5, .pointer (some ⟨b21, 0, none⟩)), (6, .slice a48 x516.length c49), (7, .int .i64 st396.2.1), (51, .slice a421 x419.length c422)] (by kernel_rfl) ?_
    obtain ⟨x622, hx623, hm⟩ := bindE hm
    refine WL.call 58 #[.pointer (some ⟨b21, 0, none⟩), .slice a421 x419.length c422] rfl rfl (by kernel_rfl) (c_58_o1 n st396.2.2.2.1 st396.2.2.2.2.1 st396.2.2.2.2.2.1 st396.2.2.2.2.2.2.1 st396.2.2.2.2.2.2.2.1 st396.2.2.2.2.2.2.2.2.1 st396.2.2.2.2.2.2.2.2.2.1 st396.2.2.2.2.2.2.2.2.2.2.1 st396.2.2.2.2.2.2.2.2.2.2.2 b21 x419 a421 c422 w525 w w.heap.size [aOwn fTrouble 62 a397 c398 st396.1, aOwn fBool 4 a48 c49 x516, aBox 32 b2 [.string (bs []), .string (bs []), .string (bs []), .string (bs []), .int .i64 0, .int .i64 0, .int .i64 0, .int .i64 0, .bool false]] hx623 hb526 (Nat.le_refl _) hL527  (SH.front 4 (SH.front 3 (SH.front 3 (SH.front 3 (SH.front 4 hS528)))))) ?_
    rintro _ w624 ⟨rfl, hB628, hS627⟩
    refine ⟨_, rfl, ?_⟩
    have hb629 : Ext w w624 := Below.trans hb526 hB628
    have hL630 : w.heap.size ≤ w624.heap.size := Nat.le_trans hL527 hB628.size
    refine WL.sub [(0, .slice a0' clauses_0.length c0'), (3, .pointer (some ⟨b2, 0, none⟩)), (4, .slice a397 st396.1.length c398), (5, .pointer (some ⟨b21, 0, none⟩)), (6, .slice a48 x516.length c49), (7, .int .i64 st396.2.1)] ⟨rfl, rfl, rfl, rfl, rfl, rfl, trivial⟩ ?_
    refine WL.nil ?_
    obtain rfl := Option.some.inj hm
    exact WQ.post' ⟨_, _, rfl, hb629, hL630, (SH.take 4 (SH.front 4 (SH.front 4 (SH.front 1 (SH.front 4 hS627)))))⟩ ⟨rfl, rfl, rfl, rfl, rfl, rfl, trivial⟩
  have hm := iteF hm hc530
  refine WP.region ?_
  refine WL.runk 4 [0, 3, 5, 6, 7, 53, 56] [(0, .slice a0' clauses_0.length c0'), (3, .pointer (some ⟨b2, 0, none⟩)), (5, .pointer (some ⟨b21, 0, none⟩)), (6, .slice a48 x516.length c49), (7, .int .i64 st396.2.1), (53, .slice a397 st396.1.length c398), (56, .agg #[.int .i64 st396.2.1, .int .i64 x484])] (by kernel_rfl) ?_
  refine WL.row fTrouble 62 ([(STrouble.mk st396.2.1 x484)] : List STrouble) 1 #[.int .i64 st396.2.1, .int .i64 x484] 57 (by kernel_rfl) rfl rfl rfl rfl rfl rfl rfl ?_
  intro a631 c632 w633 hE634 hR635
  have hb637 : Ext w w633 := Ext.trans hb526 hE634
  have hL638 : w.heap.size ≤ w633.heap.size := Nat.le_trans hL527 hE634.size
  have hS639 : SH w633 w.heap.size [aOwn fTrouble 62 a631 c632 ([(STrouble.mk st396.2.1 x484)] : List STrouble), aOwn fStr 9 a421 c422 x419, aOwn fTrouble 62 a397 c398 st396.1, aOwn fBool 4 a48 c49 x516, aBox 32 b21 [.string (bs st396.2.2.2.1), .string (bs st396.2.2.2.2.1), .string (bs st396.2.2.2.2.2.1), .string (bs st396.2.2.2.2.2.2.1), .int .i64 st396.2.2.2.2.2.2.2.1, .int .i64 st396.2.2.2.2.2.2.2.2.1, .int .i64 st396.2.2.2.2.2.2.2.2.2.1, .int .i64 st396.2.2.2.2.2.2.2.2.2.2.1, .bool st396.2.2.2.2.2.2.2.2.2.2.2], aBox 32 b2 [.string (bs []), .string (bs []), .string (bs []), .string (bs []), .int .i64 0, .int .i64 0, .int .i64 0, .int .i64 0, .bool false]] := SH.add hS528 hE634 hL527 hR635
  obtain ⟨x640, hx641, hm⟩ := bindE hm
  refine WL.append (F := fTrouble) (xs := st396.1) (ys := ([(STrouble.mk st396.2.1 x484)] : List STrouble)) 58 (SH.front 2 hS639) hL638 (SH.rd (SH.front 0 hS639)) hx641 rfl rfl rfl Tryd.underlying37 (info62).1 (info62).2.2.1 (info62).2.1 (info62).2.2.2 rfl rfl rfl rfl rfl ?_
  intro a642 c643 w644 hB645 hS646
  have hb647 : Ext w w644 := Below.trans hb637 hB645
  have hL648 : w.heap.size ≤ w644.heap.size := Nat.le_trans hL638 hB645.size
  refine WL.runk 1 [0, 3, 4, 5, 6, 7] [(0, .slice a0' clauses_0.length c0'), (3, .pointer (some ⟨b2, 0, none⟩)), (5, .pointer (some ⟨b21, 0, none⟩)), (6, .slice a48 x516.length c49), (7, .int .i64 st396.2.1), (4, .slice a642 x640.length c643)] (by kernel_rfl) ?_
  refine WL.nil ?_
  obtain rfl := Option.some.inj hm
  exact WQ.post' ⟨_, _, rfl, hb647, hL648, (SH.take 4 (SH.front 3 (SH.front 5 (SH.front 5 (SH.front 5 hS646)))))⟩ ⟨rfl, rfl, rfl, rfl, rfl, rfl, trivial⟩

theorem c_60 (n : Nat) (clause_0 : List UInt8) (w : World) {r : List UInt8} (hm : m_impl_clauseWord n clause_0 = some r) (hG : GL 1 w) :
    CallV Tryd.prog 60 #[.string (bs clause_0)] w (fun v w' => v = .string (bs r) ∧ Ext w w') := by
  unfold m_impl_clauseWord at hm
  refine CallV.enter Tryd.func60 rfl (by kernel_rfl) Tryd.ntmps60 (env := [(0, .string (bs clause_0))]) ⟨rfl, trivial⟩ ?_
  refine WP.seq (fun K1 hK1 => ?_)
  refine WP.region ?_
  refine WL.runk 1 [0] [(0, .string (bs clause_0))] (by kernel_rfl) ?_
  refine WL.nil ?_
  refine WQ.then_normal (hK1 _ _ _ ?_)
  refine WP.seq (fun K2 hK2 => ?_)
  refine WP.region ?_
  refine WL.runk 1 [4] [(4, .string (bs clause_0))] (by kernel_rfl) ?_
  obtain ⟨x3, hx4, hm⟩ := bindE hm
  refine WL.call 62 #[.string (bs clause_0)] rfl rfl (by kernel_rfl) (c_62 n clause_0 w hx4 (GL.below hG (Ext.refl w))) ?_
  rintro _ w8 ⟨a5, c6, rfl, hE9, hR10⟩
  refine ⟨_, rfl, ?_⟩
  have hb11 : Ext w w8 := Ext.trans (Ext.refl w) hE9
  have hL12 : w.heap.size ≤ w8.heap.size := Nat.le_trans (Nat.le_refl _) hE9.size
  have hS13 : SH w8 w.heap.size [aOwn fStr 9 a5 c6 x3] := SH.add (SH.nil _ _) hE9 (Nat.le_refl _) hR10
  refine WL.runk 1 [3] [(3, .slice a5 x3.length c6)] (by kernel_rfl) ?_
  refine WL.nil ?_
  refine WQ.then_normal (hK2 _ _ _ ?_)
  refine WP.seq (fun K14 hK14 => ?_)
  refine WP.seq (fun K15 hK15 => ?_)
  refine WP.region ?_
  refine WL.runk 3 [3, 8] [(3, .slice a5 x3.length c6), (8, .bool ((x3.length : Int) == 0))] (by kernel_rfl) ?_
  refine WL.nil ?_
  refine WQ.then_normal (hK15 _ _ _ ?_)
  refine WP.cond ((x3.length : Int) == 0) rfl rfl (fun hc16 => ?_) (fun hc16 => ?_)
  · have hm := iteT hm hc16
    refine WP.seq (fun K17 hK17 => ?_)
    refine WP.region ?_
    refine WL.runk 1 [2] [(2, .string (bs []))] (by kernel_rfl) ?_
    refine WL.nil ?_
    refine WQ.then_normal (hK17 _ _ _ ?_)
    refine WP.ret ?_
    refine WQ.then_ret ?_
    obtain rfl := Option.some.inj hm
    exact WQ.ret1 _ rfl rfl ⟨rfl, hb11⟩
  have hm := iteF hm hc16
  refine WP.skip ?_
  refine WQ.then_normal (hK14 _ _ _ ?_)
  refine WP.seq (fun K18 hK18 => ?_)
  refine WP.region ?_
  refine WL.runk 1 [9] [(9, .slice a5 x3.length c6)] (by kernel_rfl) ?_
  obtain ⟨x19, hx20, hm⟩ := bindE hm
  refine WL.st (.pointer (some (at_ a5 (Int.toNat 0 * 1)))) (ST.index (T := fStr.ty) (xs := x3) (SH.rd (SH.front 0 hS13)) hx20 rfl rfl rfl Tryd.underlying22 (info9).1 (info9).2.1) rfl rfl rfl ?_
  refine WL.st (.string (bs x19)) (ST.load (cell_ext (Rd.flat (F := fStr) (SH.rd (SH.front 0 hS13)) hx20 0 rfl)) rfl rfl Tryd.underlying9 rfl) rfl rfl rfl ?_
  refine WL.runk 1 [2] [(2, .string (bs x19))] (by kernel_rfl) ?_
  refine WL.nil ?_
  refine WQ.then_normal (hK18 _ _ _ ?_)
  refine WP.ret ?_
  obtain rfl := Option.some.inj hm
  exact WQ.ret1 _ rfl rfl ⟨rfl, hb11⟩

theorem c_75 (n : Nat) (s_0 : List (List UInt8)) (a0' : Option Addr) (c0' : Nat) (v_1 : List UInt8) (w : World) {r : Int} (hm : m_slices_Index_string_string n s_0 v_1 = some r) (h0 : Rd fStr.ty w a0' s_0) (_hle0 : s_0.length ≤ c0') :
    CallV Tryd.prog 75 #[.slice a0' s_0.length c0', .string (bs v_1)] w (fun v w' => v = .int .i64 r ∧ Ext w w') := by
  unfold m_slices_Index_string_string at hm
  refine CallV.enter Tryd.func75 rfl (by kernel_rfl) Tryd.ntmps75 (env := [(0, .slice a0' s_0.length c0'), (1, .string (bs v_1))]) ⟨rfl, rfl, trivial⟩ ?_
  refine WP.seq (fun K1 hK1 => ?_)
  refine WP.region ?_
  refine WL.runk 1 [0, 1] [(0, .slice a0' s_0.length c0'), (1, .string (bs v_1))] (by kernel_rfl) ?_
  refine WL.nil ?_
  refine WQ.then_normal (hK1 _ _ _ ?_)
  refine WP.seq (fun K2 hK2 => ?_)
  refine WP.seq (fun K3 hK3 => ?_)
  refine WP.region ?_
  refine WL.runk 3 [0, 1, 7, 8] [(0, .slice a0' s_0.length c0'), (1, .string (bs v_1)), (7, .int .i64 (s_0.length : Int)), (8, .int .i64 0)] (by kernel_rfl) ?_
  refine WL.nil ?_
  refine WQ.then_normal (hK3 _ _ _ ?_)
  refine WP.block ?_
  obtain ⟨t15, ht16, hm⟩ := bindE hm
  have hmo10 := hm; clear hm
  refine WP.sub [(0, .slice a0' s_0.length c0'), (1, .string (bs v_1)), (7, .int .i64 (s_0.length : Int)), (8, .int .i64 0)] ⟨rfl, rfl, rfl, rfl, trivial⟩ ?_
  refine WP.loop (fun n' env' w' => ∃ (st4 : Int) , env' = [(0, .slice a0' s_0.length c0'), (1, .string (bs v_1)), (7, .int .i64 (s_0.length : Int)), (8, .int .i64 st4)] ∧ Ext w w' ∧ w.heap.size ≤ w'.heap.size ∧ SH w' w.heap.size [] ∧ loopN (m_slices_Index_string_string_l1 n s_0 v_1) n' st4 = some t15) n ⟨0, rfl, (Ext.refl w), (Nat.le_refl _), (SH.nil _ _), ht16⟩ ?_
  rintro n12 _ w5 ⟨st4, rfl, hb6, hL7, hS8, hl9⟩ K11 hK11
  obtain ⟨n13, s14, rfl, hm, hl9⟩ := loopN_some hl9
  unfold m_slices_Index_string_string_l1 at hm
  refine WP.seq (fun K17 hK17 => ?_)
  refine WP.region ?_
  refine WL.runk 1 [0, 1, 7, 8, 9] [(0, .slice a0' s_0.length c0'), (1, .string (bs v_1)), (7, .int .i64 (s_0.length : Int)), (8, .int .i64 st4), (9, .bool (decide (st4 < (s_0.length : Int))))] (by kernel_rfl) ?_
  refine WL.nil ?_
  refine WQ.then_normal (hK17 _ _ _ ?_)
  refine WP.seq (fun K18 hK18 => ?_)
  refine WP.cond (decide (st4 < (s_0.length : Int))) rfl rfl (fun hc19 => ?_) (fun hc19 => ?_)
  rotate_left
  · have hm := iteF hm hc19
    refine WP.exit ?_
    refine WQ.then_exit ?_
    refine WQ.then_exit ?_
    refine WQ.block_here ?_
    obtain rfl := Option.some.inj hm
    obtain rfl := afterN_done hl9
    have hm := hmo10
    refine WQ.then_normal (hK2 _ _ _ ?_)
    refine WP.seq (fun K27 hK27 => ?_)
    refine WP.region ?_
    refine WL.runk 1 [4] [(4, .int .i64 (-1))] (by kernel_rfl) ?_
    refine WL.nil ?_
    refine WQ.then_normal (hK27 _ _ _ ?_)
    refine WP.ret ?_
    obtain rfl := Option.some.inj hm
    exact WQ.ret1 _ rfl rfl ⟨rfl, hb6⟩
  have hm := iteT hm hc19
  refine WP.skip ?_
  refine WQ.then_normal (hK18 _ _ _ ?_)
  refine WP.seq (fun K20 hK20 => ?_)
  refine WP.block ?_
  refine WP.seq (fun K21 hK21 => ?_)
  refine WP.region ?_
  refine WL.runk 2 [0, 1, 5, 7, 8] [(0, .slice a0' s_0.length c0'), (1, .string (bs v_1)), (7, .int .i64 (s_0.length : Int)), (8, .int .i64 st4), (5, .int .i64 st4)] (by kernel_rfl) ?_
  refine WL.nil ?_
  refine WQ.then_normal (hK21 _ _ _ ?_)
  refine WP.seq (fun K22 hK22 => ?_)
  refine WP.region ?_
  refine WL.runk 3 [0, 1, 5, 7, 8, 11, 12, 13] [(0, .slice a0' s_0.length c0'), (1, .string (bs v_1)), (7, .int .i64 (s_0.length : Int)), (8, .int .i64 st4), (5, .int .i64 st4), (11, .string (bs v_1)), (12, .slice a0' s_0.length c0'), (13, .int .i64 st4)] (by kernel_rfl) ?_
  obtain ⟨x23, hx24, hm⟩ := bindE hm
  refine WL.st (.pointer (some (at_ a0' (Int.toNat st4 * 1)))) (ST.index (T := fStr.ty) (xs := s_0) (Rd.below h0 hb6) hx24 rfl rfl rfl Tryd.underlying22 (info9).1 (info9).2.1) rfl rfl rfl ?_
  refine WL.st (.string (bs x23)) (ST.load (cell_ext (Rd.flat (F := fStr) (Rd.below h0 hb6) hx24 0 rfl)) rfl rfl Tryd.underlying9 rfl) rfl rfl rfl ?_
  refine WL.st (.bool (v_1 == x23)) (ST.streq (x := v_1) (y := x23) rfl rfl rfl) rfl rfl rfl ?_
  refine WL.sub [(0, .slice a0' s_0.length c0'), (1, .string (bs v_1)), (7, .int .i64 (s_0.length : Int)), (8, .int .i64 st4), (5, .int .i64 st4), (16, .bool (v_1 == x23))] ⟨rfl, rfl, rfl, rfl, rfl, rfl, trivial⟩ ?_
  refine WL.nil ?_
  refine WQ.then_normal (hK22 _ _ _ ?_)
  refine WP.cond (v_1 == x23) rfl rfl (fun hc25 => ?_) (fun hc25 => ?_)
  rotate_left
  · have hm := iteF hm hc25
    refine WP.skip ?_
    refine WQ.block_normal ?_
    refine WQ.then_normal (hK20 _ _ _ ?_)
    refine WP.region ?_
    refine WL.runk 2 [0, 1, 7, 8] [(0, .slice a0' s_0.length c0'), (1, .string (bs v_1)), (7, .int .i64 (s_0.length : Int)), (8, .int .i64 (wI64 (st4 + 1)))] (by kernel_rfl) ?_
    refine WL.nil ?_
    obtain rfl := Option.some.inj hm
    exact WQ.round hK11 ⟨(wI64 (st4 + 1)), rfl, hb6, hL7, hS8, hl9⟩ (Nat.lt_succ_self _) ⟨rfl, rfl, rfl, rfl, trivial⟩
  have hm := iteT hm hc25
  refine WP.seq (fun K26 hK26 => ?_)
  refine WP.region ?_
  refine WL.runk 2 [4] [(4, .int .i64 st4)] (by kernel_rfl) ?_
  refine WL.nil ?_
  refine WQ.then_normal (hK26 _ _ _ ?_)
  refine WP.ret ?_
  refine WQ.block_ret ?_
  refine WQ.then_ret ?_
  refine WQ.then_ret ?_
  refine WQ.block_ret ?_
  refine WQ.then_ret ?_
  obtain rfl := Option.some.inj hm
  obtain rfl := afterN_done hl9
  have hm := hmo10
  obtain rfl := Option.some.inj hm
  exact WQ.ret1 _ rfl rfl ⟨rfl, hb6⟩

theorem c_61 (n : Nat) (s_0 : List (List UInt8)) (a0' : Option Addr) (c0' : Nat) (v_1 : List UInt8) (w : World) {r : Bool} (hm : m_slices_Contains_string_string n s_0 v_1 = some r) (h0 : Rd fStr.ty w a0' s_0) (hle0 : s_0.length ≤ c0') :
    CallV Tryd.prog 61 #[.slice a0' s_0.length c0', .string (bs v_1)] w (fun v w' => v = .bool r ∧ Ext w w') := by
  unfold m_slices_Contains_string_string at hm
  refine CallV.enter Tryd.func61 rfl (by kernel_rfl) Tryd.ntmps61 (env := [(0, .slice a0' s_0.length c0'), (1, .string (bs v_1))]) ⟨rfl, rfl, trivial⟩ ?_
  refine WP.seq (fun K1 hK1 => ?_)
  refine WP.region ?_
  refine WL.runk 1 [0, 1] [(0, .slice a0' s_0.length c0'), (1, .string (bs v_1))] (by kernel_rfl) ?_
  refine WL.nil ?_
  refine WQ.then_normal (hK1 _ _ _ ?_)
  refine WP.seq (fun K2 hK2 => ?_)
  refine WP.region ?_
  refine WL.runk 2 [5, 6] [(5, .slice a0' s_0.length c0'), (6, .string (bs v_1))] (by kernel_rfl) ?_
  obtain ⟨x3, hx4, hm⟩ := bindE hm
  refine WL.call 75 #[.slice a0' s_0.length c0', .string (bs v_1)] rfl rfl (by kernel_rfl) (c_75 n s_0 a0' c0' v_1 w hx4 (Rd.below h0 (Ext.refl w)) hle0) ?_
  rintro _ w5 ⟨rfl, hE6⟩
  refine ⟨_, rfl, ?_⟩
  have hb8 : Ext w w5 := Ext.trans (Ext.refl w) hE6
  have hL9 : w.heap.size ≤ w5.heap.size := Nat.le_trans (Nat.le_refl _) hE6.size
  have hS10 : SH w5 w.heap.size [] := SH.ext (SH.nil _ _) hE6
  refine WL.runk 2 [4] [(4, .bool (decide (x3 ≥ 0)))] (by kernel_rfl) ?_
  refine WL.nil ?_
  refine WQ.then_normal (hK2 _ _ _ ?_)
  refine WP.ret ?_
  obtain rfl := Option.some.inj hm
  exact WQ.ret1 _ rfl rfl ⟨rfl, hb8⟩

theorem c_64 (n : Nat) (s_0 : List UInt8) (w : World) {r : Int × Bool} (hm : m_impl_ReadDecimal n s_0 = some r) (hG : GL 3 w) :
    CallV Tryd.prog 64 #[.string (bs s_0)] w (fun v w' => v = .tuple #[.int .i64 r.1, .bool r.2] ∧ Ext w w') := by
  unfold m_impl_ReadDecimal at hm
  refine CallV.enter Tryd.func64 rfl (by kernel_rfl) Tryd.ntmps64 (env := [(0, .string (bs s_0))]) ⟨rfl, trivial⟩ ?_
  refine WP.seq (fun K1 hK1 => ?_)
  refine WP.region ?_
  refine WL.runk 2 [0] [(0, .string (bs s_0))] (by kernel_rfl) ?_
  refine WL.nil ?_
  refine WQ.then_normal (hK1 _ _ _ ?_)
  refine WP.seq (fun K2 hK2 => ?_)
  refine WP.seq (fun K3 hK3 => ?_)
  obtain ⟨x13, hx14, hm⟩ := bindE hm
  refine WP.cut (fun env' w' => env' = [(0, .string (bs s_0)), (14, .bool x13)] ∧ Ext w w' ∧ w.heap.size ≤ w'.heap.size ∧ SH w' w.heap.size []) ?_ ?_
  · have hm := hx14; clear hx14
    refine WP.region ?_
    refine WL.runk 4 [0, 9] [(0, .string (bs s_0)), (9, .bool (decide ((s_0.length : Int) > 19)))] (by kernel_rfl) ?_
    refine WL.case (decide ((s_0.length : Int) > 19)) [9] ⟨rfl, trivial⟩ (fun hc15 => ?_) (fun hc15 => ?_)
    · have hm := iteT hm hc15
      refine WL.runk 5 [0, 14] [(0, .string (bs s_0)), (14, .bool true)] (by kernel_rfl) ?_
      refine WL.nil ?_
      obtain rfl := Option.some.inj hm
      exact WQ.post' ⟨rfl, (Ext.refl w), (Nat.le_refl _), (SH.nil _ _)⟩ ⟨rfl, rfl, trivial⟩
    have hm := iteF hm hc15
    refine WL.runk 1 [0, 9, 10] [(0, .string (bs s_0)), (9, .bool false), (10, .string (bs s_0))] (by kernel_rfl) ?_
    obtain ⟨x16, hx17, hm⟩ := bindE hm
    refine WL.call 77 #[.string (bs s_0), .string (bs [45])] rfl rfl (by kernel_rfl) (c_77 n s_0 [45] w hx17 ) ?_
    rintro _ w18 ⟨rfl, hE19⟩
    refine ⟨_, rfl, ?_⟩
    have hb21 : Ext w w18 := Ext.trans (Ext.refl w) hE19
    have hL22 : w.heap.size ≤ w18.heap.size := Nat.le_trans (Nat.le_refl _) hE19.size
    have hS23 : SH w18 w.heap.size [] := SH.ext (SH.nil _ _) hE19
    refine WL.runk 3 [0, 14] [(0, .string (bs s_0)), (14, .bool (decide ((x16.length : Int) > 18)))] (by kernel_rfl) ?_
    refine WL.nil ?_
    obtain rfl := Option.some.inj hm
    exact WQ.post' ⟨rfl, hb21, hL22, hS23⟩ ⟨rfl, rfl, trivial⟩
  clear hx14
  rintro _ w24 ⟨rfl, hb25, hL26, hS27⟩
  refine WQ.then_normal (hK3 _ _ _ ?_)
  refine WP.cond x13 rfl rfl (fun hc28 => ?_) (fun hc28 => ?_)
  · have hm := iteT hm hc28
    refine WP.seq (fun K29 hK29 => ?_)
    refine WP.region ?_
    refine WL.runk 2 [2, 3] [(2, .int .i64 0), (3, .bool false)] (by kernel_rfl) ?_
    refine WL.nil ?_
    refine WQ.then_normal (hK29 _ _ _ ?_)
    refine WP.ret ?_
    refine WQ.then_ret ?_
    obtain rfl := Option.some.inj hm
    exact WQ.ret2 _ _ rfl rfl rfl ⟨rfl, hb25⟩
  have hm := iteF hm hc28
  refine WP.skip ?_
  refine WQ.then_normal (hK2 _ _ _ ?_)
  refine WP.seq (fun K30 hK30 => ?_)
  refine WP.region ?_
  refine WL.runk 1 [0, 16] [(0, .string (bs s_0)), (16, .string (bs s_0))] (by kernel_rfl) ?_
  obtain ⟨x31, hx32, hm⟩ := bindE hm
  refine WL.call 78 #[.string (bs s_0), .int .i64 10, .int .i64 64] rfl rfl (by kernel_rfl) (c_78 n s_0 10 64 w24 hx32 (GL.below hG hb25)) ?_
  rintro _ w35 ⟨ev33, rfl, hev34, hE36⟩
  refine ⟨_, rfl, ?_⟩
  have hb38 : Ext w w35 := Ext.trans hb25 hE36
  have hL39 : w.heap.size ≤ w35.heap.size := Nat.le_trans hL26 hE36.size
  have hS40 : SH w35 w.heap.size [] := SH.ext hS27 hE36
  refine WL.runk 5 [0, 4, 5] [(0, .string (bs s_0)), (4, .int .i64 x31.1), (5, ev33)] (by kernel_rfl) ?_
  refine WL.nil ?_
  refine WQ.then_normal (hK30 _ _ _ ?_)
  refine WP.seq (fun K41 hK41 => ?_)
  refine WP.seq (fun K42 hK42 => ?_)
  obtain ⟨x52, hx53, hm⟩ := bindE hm
  refine WP.cut (fun env' w' => env' = [(4, .int .i64 x31.1), (27, .bool x52)] ∧ Ext w w' ∧ w.heap.size ≤ w'.heap.size ∧ SH w' w.heap.size []) ?_ ?_
  rotate_left
  · clear hx53
    rintro _ w63 ⟨rfl, hb64, hL65, hS66⟩
    refine WQ.then_normal (hK42 _ _ _ ?_)
    refine WP.cond x52 rfl rfl (fun hc67 => ?_) (fun hc67 => ?_)
    · have hm := iteT hm hc67
      refine WP.seq (fun K68 hK68 => ?_)
      refine WP.region ?_
      refine WL.runk 2 [2, 3] [(2, .int .i64 0), (3, .bool false)] (by kernel_rfl) ?_
      refine WL.nil ?_
      refine WQ.then_normal (hK68 _ _ _ ?_)
      refine WP.ret ?_
      refine WQ.then_ret ?_
      obtain rfl := Option.some.inj hm
      exact WQ.ret2 _ _ rfl rfl rfl ⟨rfl, hb64⟩
    have hm := iteF hm hc67
    refine WP.skip ?_
    refine WQ.then_normal (hK41 _ _ _ ?_)
    refine WP.seq (fun K69 hK69 => ?_)
    refine WP.region ?_
    refine WL.runk 3 [2, 3] [(2, .int .i64 x31.1), (3, .bool true)] (by kernel_rfl) ?_
    refine WL.nil ?_
    refine WQ.then_normal (hK69 _ _ _ ?_)
    refine WP.ret ?_
    obtain rfl := Option.some.inj hm
    exact WQ.ret2 _ _ rfl rfl rfl ⟨rfl, hb64⟩
  have hm := hx53; clear hx53
  refine WP.region ?_
  refine WL.runk 1 [0, 4, 20] [(0, .string (bs s_0)), (4, .int .i64 x31.1), (20, ev33)] (by kernel_rfl) ?_
  refine WL.st (.bool x31.2) (ST.errne (b := x31.2) hev34 (by kernel_rfl) rfl rfl) rfl rfl rfl ?_
  refine WL.runk 1 [0, 4, 22] [(0, .string (bs s_0)), (4, .int .i64 x31.1), (22, .bool x31.2)] (by kernel_rfl) ?_
  refine WL.case x31.2 [22] ⟨rfl, trivial⟩ (fun hc54 => ?_) (fun hc54 => ?_)
  · have hm := iteT hm hc54
    refine WL.runk 5 [4, 27] [(4, .int .i64 x31.1), (27, .bool true)] (by kernel_rfl) ?_
    refine WL.nil ?_
    obtain rfl := Option.some.inj hm
    exact WQ.post' ⟨rfl, hb38, hL39, hS40⟩ ⟨rfl, rfl, trivial⟩
  have hm := iteF hm hc54
  refine WL.runk 1 [0, 4, 22, 23] [(0, .string (bs s_0)), (4, .int .i64 x31.1), (22, .bool false), (23, .int .i64 x31.1)] (by kernel_rfl) ?_
  obtain ⟨x55, hx56, hm⟩ := bindE hm
  refine WL.call 53 #[.int .i64 x31.1] rfl rfl (by kernel_rfl) (c_53 n x31.1 w35 hx56 (GL.below (GL.low (j := 2) hG rfl) hb38)) ?_
  rintro _ w57 ⟨rfl, hE58⟩
  refine ⟨_, rfl, ?_⟩
  have hb60 : Ext w w57 := Ext.trans hb38 hE58
  have hL61 : w.heap.size ≤ w57.heap.size := Nat.le_trans hL39 hE58.size
  have hS62 : SH w57 w.heap.size [] := SH.ext hS40 hE58
  refine WL.runk 1 [4, 22, 24, 25] [(4, .int .i64 x31.1), (22, .bool false), (24, .string (bs x55)), (25, .string (bs s_0))] (by kernel_rfl) ?_
  refine WL.st (.bool (!(x55 == s_0))) (ST.strne (x := x55) (y := s_0) rfl rfl rfl) rfl rfl rfl ?_
  refine WL.runk 1 [4, 27] [(4, .int .i64 x31.1), (27, .bool (!(x55 == s_0)))] (by kernel_rfl) ?_
  refine WL.nil ?_
  obtain rfl := Option.some.inj hm
  exact WQ.post' ⟨rfl, hb60, hL61, hS62⟩ ⟨rfl, rfl, trivial⟩

theorem c_74 (n : Nat) (word_0 : List UInt8) (low_1 : Int) (high_2 : Int) (w : World) {r : Bool} (hm : m_impl_isNumber n word_0 low_1 high_2 = some r) (hG : GL 3 w) :
    CallV Tryd.prog 74 #[.string (bs word_0), .int .i64 low_1, .int .i64 high_2] w (fun v w' => v = .bool r ∧ Ext w w') := by
  unfold m_impl_isNumber at hm
  refine CallV.enter Tryd.func74 rfl (by kernel_rfl) Tryd.ntmps74 (env := [(0, .string (bs word_0)), (1, .int .i64 low_1), (2, .int .i64 high_2)]) ⟨rfl, rfl, rfl, trivial⟩ ?_
  refine WP.seq (fun K1 hK1 => ?_)
  refine WP.region ?_
  refine WL.runk 1 [0, 1, 2] [(0, .string (bs word_0)), (1, .int .i64 low_1), (2, .int .i64 high_2)] (by kernel_rfl) ?_
  refine WL.nil ?_
  refine WQ.then_normal (hK1 _ _ _ ?_)
  refine WP.seq (fun K2 hK2 => ?_)
  refine WP.region ?_
  refine WL.runk 1 [1, 2, 10] [(1, .int .i64 low_1), (2, .int .i64 high_2), (10, .string (bs word_0))] (by kernel_rfl) ?_
  obtain ⟨x3, hx4, hm⟩ := bindE hm
  refine WL.call 64 #[.string (bs word_0)] rfl rfl (by kernel_rfl) (c_64 n word_0 w hx4 (GL.below hG (Ext.refl w))) ?_
  rintro _ w5 ⟨rfl, hE6⟩
  refine ⟨_, rfl, ?_⟩
  have hb8 : Ext w w5 := Ext.trans (Ext.refl w) hE6
  have hL9 : w.heap.size ≤ w5.heap.size := Nat.le_trans (Nat.le_refl _) hE6.size
  have hS10 : SH w5 w.heap.size [] := SH.ext (SH.nil _ _) hE6
  refine WL.runk 5 [1, 2, 7, 8] [(1, .int .i64 low_1), (2, .int .i64 high_2), (7, .int .i64 x3.1), (8, .bool x3.2)] (by kernel_rfl) ?_
  refine WL.nil ?_
  refine WQ.then_normal (hK2 _ _ _ ?_)
  refine WP.seq (fun K11 hK11 => ?_)
  obtain ⟨x21, hx22, hm⟩ := bindE hm
  refine WP.cut (fun env' w' => env' = [(6, .bool x21)] ∧ Ext w w' ∧ w.heap.size ≤ w'.heap.size ∧ SH w' w.heap.size []) ?_ ?_
  rotate_left
  · clear hx22
    rintro _ w32 ⟨rfl, hb33, hL34, hS35⟩
    refine WQ.then_normal (hK11 _ _ _ ?_)
    refine WP.ret ?_
    obtain rfl := Option.some.inj hm
    exact WQ.ret1 _ rfl rfl ⟨rfl, hb33⟩
  have hm := hx22; clear hx22
  refine WP.region ?_
  refine WL.runk 2 [1, 2, 7, 15] [(1, .int .i64 low_1), (2, .int .i64 high_2), (7, .int .i64 x3.1), (15, .bool x3.2)] (by kernel_rfl) ?_
  refine WL.case x3.2 [15] ⟨rfl, trivial⟩ (fun hc23 => ?_) (fun hc23 => ?_)
  rotate_left
  · have hm := iteF hm hc23
    refine WL.runk 6 [6] [(6, .bool false)] (by kernel_rfl) ?_
    refine WL.nil ?_
    obtain rfl := Option.some.inj hm
    exact WQ.post' ⟨rfl, hb8, hL9, hS10⟩ ⟨rfl, trivial⟩
  have hm := iteT hm hc23
  refine WL.runk 3 [15, 16, 17, 18] [(15, .bool true), (16, .int .i64 x3.1), (17, .int .i64 low_1), (18, .int .i64 high_2)] (by kernel_rfl) ?_
  obtain ⟨x24, hx25, hm⟩ := bindE hm
  refine WL.call 51 #[.int .i64 x3.1, .int .i64 low_1, .int .i64 high_2] rfl rfl (by kernel_rfl) (c_51 n x3.1 low_1 high_2 w5 hx25 ) ?_
  rintro _ w26 ⟨rfl, hE27⟩
  refine ⟨_, rfl, ?_⟩
  have hb29 : Ext w w26 := Ext.trans hb8 hE27
  have hL30 : w.heap.size ≤ w26.heap.size := Nat.le_trans hL9 hE27.size
  have hS31 : SH w26 w.heap.size [] := SH.ext hS10 hE27
  refine WL.runk 2 [6] [(6, .bool x24)] (by kernel_rfl) ?_
  refine WL.nil ?_
  obtain rfl := Option.some.inj hm
  exact WQ.post' ⟨rfl, hb29, hL30, hS31⟩ ⟨rfl, trivial⟩

theorem c_59 (n : Nat) (clause_0 : List UInt8) (w : World) {r : Int} (hm : m_impl_clauseProblem n clause_0 = some r) (hG : GL 3 w) :
    CallV Tryd.prog 59 #[.string (bs clause_0)] w (fun v w' => v = .int .i64 r ∧ Ext w w') := by
  unfold m_impl_clauseProblem at hm
  refine CallV.enter Tryd.func59 rfl (by kernel_rfl) Tryd.ntmps59 (env := [(0, .string (bs clause_0))]) ⟨rfl, trivial⟩ ?_
  refine WP.seq (fun K1 hK1 => ?_)
  refine WP.region ?_
  refine WL.runk 1 [0] [(0, .string (bs clause_0))] (by kernel_rfl) ?_
  refine WL.nil ?_
  refine WQ.then_normal (hK1 _ _ _ ?_)
  refine WP.seq (fun K2 hK2 => ?_)
  refine WP.region ?_
  refine WL.runk 1 [0, 8] [(0, .string (bs clause_0)), (8, .string (bs clause_0))] (by kernel_rfl) ?_
  obtain ⟨x3, hx4, hm⟩ := bindE hm
  refine WL.call 62 #[.string (bs clause_0)] rfl rfl (by kernel_rfl) (c_62 n clause_0 w hx4 (GL.below (GL.low (j := 1) hG rfl) (Ext.refl w))) ?_
  rintro _ w8 ⟨a5, c6, rfl, hE9, hR10⟩
  refine ⟨_, rfl, ?_⟩
  have hb11 : Ext w w8 := Ext.trans (Ext.refl w) hE9
  have hL12 : w.heap.size ≤ w8.heap.size := Nat.le_trans (Nat.le_refl _) hE9.size
  have hS13 : SH w8 w.heap.size [aOwn fStr 9 a5 c6 x3] := SH.add (SH.nil _ _) hE9 (Nat.le_refl _) hR10
  refine WL.runk 1 [0, 3] [(0, .string (bs clause_0)), (3, .slice a5 x3.length c6)] (by kernel_rfl) ?_
  refine WL.nil ?_
  refine WQ.then_normal (hK2 _ _ _ ?_)
  refine WP.seq (fun K14 hK14 => ?_)
  refine WP.seq (fun K15 hK15 => ?_)
  refine WP.region ?_
  obtain ⟨x16, hx17, hm⟩ := bindE hm
  refine WL.call 35 #[] rfl rfl (by kernel_rfl) (c_35 n  w8 hx17 ) ?_
  rintro _ w21 ⟨a18, c19, rfl, hE22, hR23⟩
  refine ⟨_, rfl, ?_⟩
  have hb24 : Ext w w21 := Ext.trans hb11 hE22
  have hL25 : w.heap.size ≤ w21.heap.size := Nat.le_trans hL12 hE22.size
  have hS26 : SH w21 w.heap.size [aOwn fStr 9 a18 c19 x16, aOwn fStr 9 a5 c6 x3] := SH.add hS13 hE22 hL12 hR23
  refine WL.runk 1 [3, 10, 11] [(3, .slice a5 x3.length c6), (10, .slice a18 x16.length c19), (11, .string (bs clause_0))] (by kernel_rfl) ?_
  obtain ⟨x27, hx28, hm⟩ := bindE hm
  refine WL.call 60 #[.string (bs clause_0)] rfl rfl (by kernel_rfl) (c_60 n clause_0 w21 hx28 (GL.below (GL.low (j := 1) hG rfl) hb24)) ?_
  rintro _ w29 ⟨rfl, hE30⟩
  refine ⟨_, rfl, ?_⟩
  have hb32 : Ext w w29 := Ext.trans hb24 hE30
  have hL33 : w.heap.size ≤ w29.heap.size := Nat.le_trans hL25 hE30.size
  have hS34 : SH w29 w.heap.size [aOwn fStr 9 a18 c19 x16, aOwn fStr 9 a5 c6 x3] := SH.ext hS26 hE30
  obtain ⟨x35, hx36, hm⟩ := bindE hm
  refine WL.call 61 #[.slice a18 x16.length c19, .string (bs x27)] rfl rfl (by kernel_rfl) (c_61 n x16 a18 c19 x27 w29 hx36 (SH.rd (SH.front 0 hS34)) (SH.le (SH.front 0 hS34)).1) ?_
  rintro _ w37 ⟨rfl, hE38⟩
  refine ⟨_, rfl, ?_⟩
  have hb40 : Ext w w37 := Ext.trans hb32 hE38
  have hL41 : w.heap.size ≤ w37.heap.size := Nat.le_trans hL33 hE38.size
  have hS42 : SH w37 w.heap.size [aOwn fStr 9 a18 c19 x16, aOwn fStr 9 a5 c6 x3] := SH.ext hS34 hE38
  refine WL.runk 1 [3, 14] [(3, .slice a5 x3.length c6), (14, .bool (!x35))] (by kernel_rfl) ?_
  refine WL.nil ?_
  refine WQ.then_normal (hK15 _ _ _ ?_)
  refine WP.cond (!x35) rfl rfl (fun hc43 => ?_) (fun hc43 => ?_)
  · have hm := iteT hm hc43
    refine WP.seq (fun K44 hK44 => ?_)
    refine WP.region ?_
    refine WL.runk 1 [2] [(2, .int .i64 1)] (by kernel_rfl) ?_
    refine WL.nil ?_
    refine WQ.then_normal (hK44 _ _ _ ?_)
    refine WP.ret ?_
    refine WQ.then_ret ?_
    obtain rfl := Option.some.inj hm
    exact WQ.ret1 _ rfl rfl ⟨rfl, hb40⟩
  have hm := iteF hm hc43
  refine WP.skip ?_
  refine WQ.then_normal (hK14 _ _ _ ?_)
  refine WP.seq (fun K45 hK45 => ?_)
  refine WP.region ?_
  refine WL.runk 5 [3, 4, 5, 6] [(3, .slice a5 x3.length c6), (4, .int .i64 (x3.length : Int)), (5, .bool true), (6, .bool true)] (by kernel_rfl) ?_
  refine WL.nil ?_
  refine WQ.then_normal (hK45 _ _ _ ?_)
  refine WP.seq (fun K46 hK46 => ?_)
  refine WP.region ?_
  refine WL.runk 1 [3, 4, 5, 6, 7] [(3, .slice a5 x3.length c6), (4, .int .i64 (x3.length : Int)), (5, .bool true), (6, .bool true), (7, .int .i64 2)] (by kernel_rfl) ?_
  refine WL.nil ?_
  refine WQ.then_normal (hK46 _ _ _ ?_)
  refine WP.seq (fun K47 hK47 => ?_)
  refine WP.seq (fun K48 hK48 => ?_)
  refine WP.region ?_
  refine WL.runk 1 [3, 4, 5, 6, 7, 17] [(3, .slice a5 x3.length c6), (4, .int .i64 (x3.length : Int)), (5, .bool true), (6, .bool true), (7, .int .i64 2), (17, .slice a5 x3.length c6)] (by kernel_rfl) ?_
  obtain ⟨x49, hx50, hm⟩ := bindE hm
  refine WL.st (.pointer (some (at_ a5 (Int.toNat 0 * 1)))) (ST.index (T := fStr.ty) (xs := x3) (SH.rd (SH.front 1 hS42)) hx50 rfl rfl rfl Tryd.underlying22 (info9).1 (info9).2.1) rfl rfl rfl ?_
  refine WL.st (.string (bs x49)) (ST.load (cell_ext (Rd.flat (F := fStr) (SH.rd (SH.front 1 hS42)) hx50 0 rfl)) rfl rfl Tryd.underlying9 rfl) rfl rfl rfl ?_
  refine WL.sub [(3, .slice a5 x3.length c6), (4, .int .i64 (x3.length : Int)), (5, .bool true), (6, .bool true), (7, .int .i64 2), (19, .string (bs x49))] ⟨rfl, rfl, rfl, rfl, rfl, rfl, trivial⟩ ?_
  refine WL.nil ?_
  refine WQ.then_normal (hK48 _ _ _ ?_)
  refine WP.block ?_
  refine WP.seq (fun K51 hK51 => ?_)
  refine WP.seq (fun K52 hK52 => ?_)
  refine WP.region ?_
  refine WL.st (.bool (x49 == [117, 112, 112, 101, 114])) (ST.streq (x := x49) (y := [117, 112, 112, 101, 114]) rfl rfl rfl) rfl rfl rfl ?_
  refine WL.runk 1 [3, 4, 5, 6, 7, 19, 20] [(3, .slice a5 x3.length c6), (4, .int .i64 (x3.length : Int)), (5, .bool true), (6, .bool true), (7, .int .i64 2), (19, .string (bs x49)), (20, .bool (x49 == [117, 112, 112, 101, 114]))] (by kernel_rfl) ?_
  refine WL.nil ?_
  refine WQ.then_normal (hK52 _ _ _ ?_)
  obtain ⟨x54, hx55, hm⟩ := bindE hm
  refine WP.cut (fun env' w' => env' = [(3, .slice a5 x3.length c6), (4, .int .i64 (x3.length : Int)), (5, .bool true), (6, .bool true), (7, .int .i64 2), (19, .string (bs x49)), (20, .bool x54)] ∧ Ext w w' ∧ w.heap.size ≤ w'.heap.size ∧ SH w' w.heap.size [aOwn fStr 9 a5 c6 x3]) ?_ ?_
  · have hm := hx55; clear hx55
    refine WP.cond (x49 == [117, 112, 112, 101, 114]) rfl rfl (fun hc53 => ?_) (fun hc53 => ?_)
    · have hm := iteT hm hc53
      refine WP.skip ?_
      obtain rfl := Option.some.inj hm
      exact WQ.post' ⟨rfl, hb40, hL41, (SH.take 1 (SH.front 1 hS42))⟩ ⟨rfl, rfl, rfl, rfl, rfl, rfl, rfl, trivial⟩
    have hm := iteF hm hc53
    refine WP.region ?_
    refine WL.st (.bool (x49 == [115, 111, 108, 101])) (ST.streq (x := x49) (y := [115, 111, 108, 101]) rfl rfl rfl) rfl rfl rfl ?_
    refine WL.runk 1 [3, 4, 5, 6, 7, 19, 20] [(3, .slice a5 x3.length c6), (4, .int .i64 (x3.length : Int)), (5, .bool true), (6, .bool true), (7, .int .i64 2), (19, .string (bs x49)), (20, .bool (x49 == [115, 111, 108, 101]))] (by kernel_rfl) ?_
    refine WL.nil ?_
    obtain rfl := Option.some.inj hm
    exact WQ.post' ⟨rfl, hb40, hL41, (SH.take 1 (SH.front 1 hS42))⟩ ⟨rfl, rfl, rfl, rfl, rfl, rfl, rfl, trivial⟩
  clear hx55
  rintro _ w56 ⟨rfl, hb57, hL58, hS59⟩
  refine WQ.then_normal (hK51 _ _ _ ?_)
  obtain ⟨x85, hx86, hm⟩ := bindE hm
  refine WP.cut (fun env' w' => env' = [(3, .slice a5 x3.length c6), (4, .int .i64 (x3.length : Int)), (5, .bool true), (6, .bool true), (7, .int .i64 x85)] ∧ Ext w w' ∧ w.heap.size ≤ w'.heap.size ∧ SH w' w.heap.size [aOwn fStr 9 a5 c6 x3]) ?_ ?_
  · have hm := hx86; clear hx86
    refine WP.cond x54 rfl rfl (fun hc60 => ?_) (fun hc60 => ?_)
    · have hm := iteT hm hc60
      refine WP.region ?_
      refine WL.runk 1 [3, 4, 5, 6, 7] [(3, .slice a5 x3.length c6), (4, .int .i64 (x3.length : Int)), (5, .bool true), (6, .bool true), (7, .int .i64 3)] (by kernel_rfl) ?_
      refine WL.nil ?_
      obtain rfl := Option.some.inj hm
      exact WQ.post' ⟨rfl, hb57, hL58, hS59⟩ ⟨rfl, rfl, rfl, rfl, rfl, trivial⟩
    have hm := iteF hm hc60
    refine WP.seq (fun K87 hK87 => ?_)
    refine WP.region ?_
    refine WL.st (.bool (x49 == [115, 116, 105, 116, 99, 104])) (ST.streq (x := x49) (y := [115, 116, 105, 116, 99, 104]) rfl rfl rfl) rfl rfl rfl ?_
    refine WL.runk 1 [3, 4, 5, 6, 7, 23] [(3, .slice a5 x3.length c6), (4, .int .i64 (x3.length : Int)), (5, .bool true), (6, .bool true), (7, .int .i64 2), (23, .bool (x49 == [115, 116, 105, 116, 99, 104]))] (by kernel_rfl) ?_
    refine WL.nil ?_
    refine WQ.then_normal (hK87 _ _ _ ?_)
    obtain ⟨x97, hx98, hm⟩ := bindE hm
    refine WP.cut (fun env' w' => env' = [(3, .slice a5 x3.length c6), (4, .int .i64 (x3.length : Int)), (5, .bool true), (6, .bool true), (7, .int .i64 x97)] ∧ Ext w w' ∧ w.heap.size ≤ w'.heap.size ∧ SH w' w.heap.size [aOwn fStr 9 a5 c6 x3]) ?_ ?_
    rotate_left
    · clear hx98
      rintro _ w107 ⟨rfl, hb108, hL109, hS110⟩
      obtain rfl := Option.some.inj hm
      exact WQ.post' ⟨rfl, hb108, hL109, hS110⟩ ⟨rfl, rfl, rfl, rfl, rfl, trivial⟩
    have hm := hx98; clear hx98
    refine WP.cond (x49 == [115, 116, 105, 116, 99, 104]) rfl rfl (fun hc88 => ?_) (fun hc88 => ?_)
    rotate_left
    · have hm := iteF hm hc88
      refine WP.skip ?_
      obtain rfl := Option.some.inj hm
      exact WQ.post' ⟨rfl, hb57, hL58, hS59⟩ ⟨rfl, rfl, rfl, rfl, rfl, trivial⟩
    have hm := iteT hm hc88
    refine WP.seq (fun K99 hK99 => ?_)
    refine WP.region ?_
    refine WL.runk 2 [3, 4, 5, 6, 7, 26] [(3, .slice a5 x3.length c6), (4, .int .i64 (x3.length : Int)), (5, .bool true), (6, .bool true), (7, .int .i64 2), (26, .bool ((x3.length : Int) == 3))] (by kernel_rfl) ?_
    refine WL.nil ?_
    refine WQ.then_normal (hK99 _ _ _ ?_)
    obtain ⟨x101, hx102, hm⟩ := bindE hm
    refine WP.cut (fun env' w' => env' = [(3, .slice a5 x3.length c6), (4, .int .i64 (x3.length : Int)), (5, .bool true), (6, .bool true), (7, .int .i64 x101)] ∧ Ext w w' ∧ w.heap.size ≤ w'.heap.size ∧ SH w' w.heap.size [aOwn fStr 9 a5 c6 x3]) ?_ ?_
    rotate_left
    · clear hx102
      rintro _ w103 ⟨rfl, hb104, hL105, hS106⟩
      obtain rfl := Option.some.inj hm
      exact WQ.post' ⟨rfl, hb104, hL105, hS106⟩ ⟨rfl, rfl, rfl, rfl, rfl, trivial⟩
    have hm := hx102; clear hx102
    refine WP.cond ((x3.length : Int) == 3) rfl rfl (fun hc100 => ?_) (fun hc100 => ?_)
    rotate_left
    · have hm := iteF hm hc100
      refine WP.skip ?_
      obtain rfl := Option.some.inj hm
      exact WQ.post' ⟨rfl, hb57, hL58, hS59⟩ ⟨rfl, rfl, rfl, rfl, rfl, trivial⟩
    have hm := iteT hm hc100
    refine WP.region ?_
    refine WL.runk 1 [3, 4, 5, 6, 7] [(3, .slice a5 x3.length c6), (4, .int .i64 (x3.length : Int)), (5, .bool true), (6, .bool true), (7, .int .i64 3)] (by kernel_rfl) ?_
    refine WL.nil ?_
    obtain rfl := Option.some.inj hm
    exact WQ.post' ⟨rfl, hb57, hL58, hS59⟩ ⟨rfl, rfl, rfl, rfl, rfl, trivial⟩
  clear hx86
  rintro _ w111 ⟨rfl, hb112, hL113, hS114⟩
  refine WQ.block_normal ?_
  refine WQ.then_normal (hK47 _ _ _ ?_)
  refine WP.seq (fun K115 hK115 => ?_)
  refine WP.seq (fun K116 hK116 => ?_)
  refine WP.region ?_
  refine WL.runk 3 [3, 4, 5, 6, 29] [(3, .slice a5 x3.length c6), (4, .int .i64 (x3.length : Int)), (5, .bool true), (6, .bool true), (29, .bool ((x3.length : Int) != x85))] (by kernel_rfl) ?_
  refine WL.nil ?_
  refine WQ.then_normal (hK116 _ _ _ ?_)
  refine WP.cond ((x3.length : Int) != x85) rfl rfl (fun hc117 => ?_) (fun hc117 => ?_)
  · have hm := iteT hm hc117
    refine WP.seq (fun K118 hK118 => ?_)
    refine WP.region ?_
    refine WL.runk 1 [2] [(2, .int .i64 2)] (by kernel_rfl) ?_
    refine WL.nil ?_
    refine WQ.then_normal (hK118 _ _ _ ?_)
    refine WP.ret ?_
    refine WQ.then_ret ?_
    obtain rfl := Option.some.inj hm
    exact WQ.ret1 _ rfl rfl ⟨rfl, hb112⟩
  have hm := iteF hm hc117
  refine WP.skip ?_
  refine WQ.then_normal (hK115 _ _ _ ?_)
  refine WP.seq (fun K119 hK119 => ?_)
  refine WP.seq (fun K120 hK120 => ?_)
  refine WP.region ?_
  refine WL.runk 1 [3, 4, 5, 6, 30] [(3, .slice a5 x3.length c6), (4, .int .i64 (x3.length : Int)), (5, .bool true), (6, .bool true), (30, .slice a5 x3.length c6)] (by kernel_rfl) ?_
  obtain ⟨x121, hx122, hm⟩ := bindE hm
  refine WL.st (.pointer (some (at_ a5 (Int.toNat 0 * 1)))) (ST.index (T := fStr.ty) (xs := x3) (SH.rd (SH.front 0 hS114)) hx122 rfl rfl rfl Tryd.underlying22 (info9).1 (info9).2.1) rfl rfl rfl ?_
  refine WL.st (.string (bs x121)) (ST.load (cell_ext (Rd.flat (F := fStr) (SH.rd (SH.front 0 hS114)) hx122 0 rfl)) rfl rfl Tryd.underlying9 rfl) rfl rfl rfl ?_
  refine WL.sub [(3, .slice a5 x3.length c6), (4, .int .i64 (x3.length : Int)), (5, .bool true), (6, .bool true), (32, .string (bs x121))] ⟨rfl, rfl, rfl, rfl, rfl, trivial⟩ ?_
  refine WL.nil ?_
  refine WQ.then_normal (hK120 _ _ _ ?_)
  refine WP.block ?_
  refine WP.seq (fun K123 hK123 => ?_)
  refine WP.region ?_
  refine WL.st (.bool (x121 == [117, 112, 112, 101, 114])) (ST.streq (x := x121) (y := [117, 112, 112, 101, 114]) rfl rfl rfl) rfl rfl rfl ?_
  refine WL.runk 1 [3, 4, 5, 6, 32, 33] [(3, .slice a5 x3.length c6), (4, .int .i64 (x3.length : Int)), (5, .bool true), (6, .bool true), (32, .string (bs x121)), (33, .bool (x121 == [117, 112, 112, 101, 114]))] (by kernel_rfl) ?_
  refine WL.nil ?_
  refine WQ.then_normal (hK123 _ _ _ ?_)
  obtain ⟨x1837, hx1838, hm⟩ := bindE hm
  refine WP.cut (fun env' w' => env' = [(5, .bool x1837.1), (6, .bool x1837.2)] ∧ Ext w w' ∧ w.heap.size ≤ w'.heap.size ∧ SH w' w.heap.size []) ?_ ?_
  rotate_left
  · clear hx1838
    rintro _ w3551 ⟨rfl, hb3552, hL3553, hS3554⟩
    refine WQ.block_normal ?_
    refine WQ.then_normal (hK119 _ _ _ ?_)
    refine WP.seq (fun K3555 hK3555 => ?_)
    refine WP.block ?_
    refine WP.seq (fun K3556 hK3556 => ?_)
    refine WP.region ?_
    refine WL.runk 3 [6, 89] [(6, .bool x1837.2), (89, .bool (!x1837.1))] (by kernel_rfl) ?_
    refine WL.nil ?_
    refine WQ.then_normal (hK3556 _ _ _ ?_)
    refine WP.cond (!x1837.1) rfl rfl (fun hc3557 => ?_) (fun hc3557 => ?_)
    · have hm := iteT hm hc3557
      refine WP.seq (fun K3558 hK3558 => ?_)
      refine WP.region ?_
      refine WL.runk 1 [2] [(2, .int .i64 4)] (by kernel_rfl) ?_
      refine WL.nil ?_
      refine WQ.then_normal (hK3558 _ _ _ ?_)
      refine WP.ret ?_
      refine WQ.block_ret ?_
      refine WQ.then_ret ?_
      obtain rfl := Option.some.inj hm
      exact WQ.ret1 _ rfl rfl ⟨rfl, hb3552⟩
    have hm := iteF hm hc3557
    refine WP.seq (fun K3559 hK3559 => ?_)
    refine WP.region ?_
    refine WL.runk 3 [92] [(92, .bool (!x1837.2))] (by kernel_rfl) ?_
    refine WL.nil ?_
    refine WQ.then_normal (hK3559 _ _ _ ?_)
    refine WP.cond (!x1837.2) rfl rfl (fun hc3560 => ?_) (fun hc3560 => ?_)
    · have hm := iteT hm hc3560
      refine WP.seq (fun K3561 hK3561 => ?_)
      refine WP.region ?_
      refine WL.runk 1 [2] [(2, .int .i64 3)] (by kernel_rfl) ?_
      refine WL.nil ?_
      refine WQ.then_normal (hK3561 _ _ _ ?_)
      refine WP.ret ?_
      refine WQ.block_ret ?_
      refine WQ.then_ret ?_
      obtain rfl := Option.some.inj hm
      exact WQ.ret1 _ rfl rfl ⟨rfl, hb3552⟩
    have hm := iteF hm hc3560
    refine WP.skip ?_
    refine WQ.block_normal ?_
    refine WQ.then_normal (hK3555 _ _ _ ?_)
    refine WP.seq (fun K3562 hK3562 => ?_)
    refine WP.region ?_
    refine WL.runk 1 [2] [(2, .int .i64 0)] (by kernel_rfl) ?_
    refine WL.nil ?_
    refine WQ.then_normal (hK3562 _ _ _ ?_)
    refine WP.ret ?_
    obtain rfl := Option.some.inj hm
    exact WQ.ret1 _ rfl rfl ⟨rfl, hb3552⟩
  have hm := hx1838; clear hx1838
  refine WP.cond (x121 == [117, 112, 112, 101, 114]) rfl rfl (fun hc124 => ?_) (fun hc124 => ?_)
  · have hm := iteT hm hc124
    obtain ⟨x1860, hx1861, hm⟩ := bindE hm
    refine WP.cut (fun env' w' => env' = [(5, .bool x1860), (6, .bool true)] ∧ Ext w w' ∧ w.heap.size ≤ w'.heap.size ∧ SH w' w.heap.size []) ?_ ?_
    rotate_left
    · clear hx1861
      rintro _ w1883 ⟨rfl, hb1884, hL1885, hS1886⟩
      obtain rfl := Option.some.inj hm
      exact WQ.post' ⟨rfl, hb1884, hL1885, hS1886⟩ ⟨rfl, rfl, trivial⟩
    have hm := hx1861; clear hx1861
    refine WP.region ?_
    refine WL.runk 1 [3, 6, 35] [(3, .slice a5 x3.length c6), (6, .bool true), (35, .slice a5 x3.length c6)] (by kernel_rfl) ?_
    obtain ⟨x1862, hx1863, hm⟩ := bindE hm
    refine WL.st (.pointer (some (at_ a5 (Int.toNat 1 * 1)))) (ST.index (T := fStr.ty) (xs := x3) (SH.rd (SH.front 0 hS114)) hx1863 rfl rfl rfl Tryd.underlying22 (info9).1 (info9).2.1) rfl rfl rfl ?_
    refine WL.st (.string (bs x1862)) (ST.load (cell_ext (Rd.flat (F := fStr) (SH.rd (SH.front 0 hS114)) hx1863 0 rfl)) rfl rfl Tryd.underlying9 rfl) rfl rfl rfl ?_
    obtain ⟨x1864, hx1865, hm⟩ := bindE hm
    refine WL.call 50 #[.string (bs x1862)] rfl rfl (by kernel_rfl) (c_50 n x1862 w111 hx1865 ) ?_
    rintro _ w1866 ⟨rfl, hE1867⟩
    refine ⟨_, rfl, ?_⟩
    have hb1869 : Ext w w1866 := Ext.trans hb112 hE1867
    have hL1870 : w.heap.size ≤ w1866.heap.size := Nat.le_trans hL113 hE1867.size
    have hS1871 : SH w1866 w.heap.size [aOwn fStr 9 a5 c6 x3] := SH.ext hS114 hE1867
    refine WL.runk 1 [3, 6, 39] [(3, .slice a5 x3.length c6), (6, .bool true), (39, .bool x1864)] (by kernel_rfl) ?_
    refine WL.case x1864 [39] ⟨rfl, trivial⟩ (fun hc1872 => ?_) (fun hc1872 => ?_)
    rotate_left
    · have hm := iteF hm hc1872
      refine WL.runk 6 [5, 6] [(6, .bool true), (5, .bool false)] (by kernel_rfl) ?_
      refine WL.nil ?_
      obtain rfl := Option.some.inj hm
      exact WQ.post' ⟨rfl, hb1869, hL1870, (SH.take 0 hS1871)⟩ ⟨rfl, rfl, trivial⟩
    have hm := iteT hm hc1872
    refine WL.runk 1 [6, 39, 40] [(6, .bool true), (39, .bool true), (40, .slice a5 x3.length c6)] (by kernel_rfl) ?_
    obtain ⟨x1873, hx1874, hm⟩ := bindE hm
    refine WL.st (.pointer (some (at_ a5 (Int.toNat 2 * 1)))) (ST.index (T := fStr.ty) (xs := x3) (SH.rd (SH.front 0 hS1871)) hx1874 rfl rfl rfl Tryd.underlying22 (info9).1 (info9).2.1) rfl rfl rfl ?_
    refine WL.st (.string (bs x1873)) (ST.load (cell_ext (Rd.flat (F := fStr) (SH.rd (SH.front 0 hS1871)) hx1874 0 rfl)) rfl rfl Tryd.underlying9 rfl) rfl rfl rfl ?_
    obtain ⟨x1875, hx1876, hm⟩ := bindE hm
    refine WL.call 50 #[.string (bs x1873)] rfl rfl (by kernel_rfl) (c_50 n x1873 w1866 hx1876 ) ?_
    rintro _ w1877 ⟨rfl, hE1878⟩
    refine ⟨_, rfl, ?_⟩
    have hb1880 : Ext w w1877 := Ext.trans hb1869 hE1878
    have hL1881 : w.heap.size ≤ w1877.heap.size := Nat.le_trans hL1870 hE1878.size
    have hS1882 : SH w1877 w.heap.size [aOwn fStr 9 a5 c6 x3] := SH.ext hS1871 hE1878
    refine WL.runk 2 [5, 6] [(6, .bool true), (5, .bool x1875)] (by kernel_rfl) ?_
    refine WL.nil ?_
    obtain rfl := Option.some.inj hm
    exact WQ.post' ⟨rfl, hb1880, hL1881, (SH.take 0 hS1882)⟩ ⟨rfl, rfl, trivial⟩
  have hm := iteF hm hc124
  refine WP.seq (fun K1887 hK1887 => ?_)
  refine WP.region ?_
  refine WL.st (.bool (x121 == [108, 105, 110, 105, 110, 103])) (ST.streq (x := x121) (y := [108, 105, 110, 105, 110, 103]) rfl rfl rfl) rfl rfl rfl ?_
  refine WL.runk 1 [3, 4, 5, 6, 32, 45] [(3, .slice a5 x3.length c6), (4, .int .i64 (x3.length : Int)), (5, .bool true), (6, .bool true), (32, .string (bs x121)), (45, .bool (x121 == [108, 105, 110, 105, 110, 103]))] (by kernel_rfl) ?_
  refine WL.nil ?_
  refine WQ.then_normal (hK1887 _ _ _ ?_)
  obtain ⟨x2717, hx2718, hm⟩ := bindE hm
  refine WP.cut (fun env' w' => env' = [(5, .bool x2717.1), (6, .bool x2717.2)] ∧ Ext w w' ∧ w.heap.size ≤ w'.heap.size ∧ SH w' w.heap.size []) ?_ ?_
  rotate_left
  · clear hx2718
    rintro _ w3547 ⟨rfl, hb3548, hL3549, hS3550⟩
    obtain rfl := Option.some.inj hm
    exact WQ.post' ⟨rfl, hb3548, hL3549, hS3550⟩ ⟨rfl, rfl, trivial⟩
  have hm := hx2718; clear hx2718
  refine WP.cond (x121 == [108, 105, 110, 105, 110, 103]) rfl rfl (fun hc1888 => ?_) (fun hc1888 => ?_)
  · have hm := iteT hm hc1888
    refine WP.region ?_
    refine WL.runk 1 [6, 47] [(6, .bool true), (47, .slice a5 x3.length c6)] (by kernel_rfl) ?_
    obtain ⟨x2719, hx2720, hm⟩ := bindE hm
    refine WL.st (.pointer (some (at_ a5 (Int.toNat 1 * 1)))) (ST.index (T := fStr.ty) (xs := x3) (SH.rd (SH.front 0 hS114)) hx2720 rfl rfl rfl Tryd.underlying22 (info9).1 (info9).2.1) rfl rfl rfl ?_
    refine WL.st (.string (bs x2719)) (ST.load (cell_ext (Rd.flat (F := fStr) (SH.rd (SH.front 0 hS114)) hx2720 0 rfl)) rfl rfl Tryd.underlying9 rfl) rfl rfl rfl ?_
    obtain ⟨x2721, hx2722, hm⟩ := bindE hm
    refine WL.call 50 #[.string (bs x2719)] rfl rfl (by kernel_rfl) (c_50 n x2719 w111 hx2722 ) ?_
    rintro _ w2723 ⟨rfl, hE2724⟩
    refine ⟨_, rfl, ?_⟩
    have hb2726 : Ext w w2723 := Ext.trans hb112 hE2724
    have hL2727 : w.heap.size ≤ w2723.heap.size := Nat.le_trans hL113 hE2724.size
    have hS2728 : SH w2723 w.heap.size [aOwn fStr 9 a5 c6 x3] := SH.ext hS114 hE2724
    refine WL.runk 1 [5, 6] [(6, .bool true), (5, .bool x2721)] (by kernel_rfl) ?_
    refine WL.nil ?_
    obtain rfl := Option.some.inj hm
    exact WQ.post' ⟨rfl, hb2726, hL2727, (SH.take 0 hS2728)⟩ ⟨rfl, rfl, trivial⟩
  have hm := iteF hm hc1888
  refine WP.seq (fun K2729 hK2729 => ?_)
  refine WP.region ?_
  refine WL.st (.bool (x121 == [115, 111, 108, 101])) (ST.streq (x := x121) (y := [115, 111, 108, 101]) rfl rfl rfl) rfl rfl rfl ?_
  refine WL.runk 1 [3, 4, 5, 6, 32, 51] [(3, .slice a5 x3.length c6), (4, .int .i64 (x3.length : Int)), (5, .bool true), (6, .bool true), (32, .string (bs x121)), (51, .bool (x121 == [115, 111, 108, 101]))] (by kernel_rfl) ?_
  refine WL.nil ?_
  refine WQ.then_normal (hK2729 _ _ _ ?_)
  obtain ⟨x3136, hx3137, hm⟩ := bindE hm
  refine WP.cut (fun env' w' => env' = [(5, .bool x3136.1), (6, .bool x3136.2)] ∧ Ext w w' ∧ w.heap.size ≤ w'.heap.size ∧ SH w' w.heap.size []) ?_ ?_
  rotate_left
  · clear hx3137
    rintro _ w3543 ⟨rfl, hb3544, hL3545, hS3546⟩
    obtain rfl := Option.some.inj hm
    exact WQ.post' ⟨rfl, hb3544, hL3545, hS3546⟩ ⟨rfl, rfl, trivial⟩
  have hm := hx3137; clear hx3137
  refine WP.cond (x121 == [115, 111, 108, 101]) rfl rfl (fun hc2730 => ?_) (fun hc2730 => ?_)
  · have hm := iteT hm hc2730
    refine WP.quiet (by kernel_rfl) (by kernel_rfl) ?_
    refine QL.step1v 53 (.slice a5 x3.length c6) rfl (fun _ => by kernel_rfl) ?_
    refine QL.subk [3, 53] [(3, .slice a5 x3.length c6), (53, .slice a5 x3.length c6)] (by kernel_rfl) ?_
    obtain ⟨x3138, hx3139, hm⟩ := bindE hm
    refine QL.st (.pointer (some (at_ a5 (Int.toNat 1 * 1)))) (ST.index (T := fStr.ty) (xs := x3) (SH.rd (SH.front 0 hS114)) hx3139 rfl rfl rfl Tryd.underlying22 (info9).1 (info9).2.1) rfl rfl rfl ?_
    refine QL.st (.string (bs x3138)) (ST.load (cell_ext (Rd.flat (F := fStr) (SH.rd (SH.front 0 hS114)) hx3139 0 rfl)) rfl rfl Tryd.underlying9 rfl) rfl rfl rfl ?_
    obtain ⟨x3140, hx3141, hm⟩ := bindE hm
    refine QL.call 50 #[.string (bs x3138)] (.bool x3140) (fun _ => by kernel_rfl) (fun w3142 hE3143 => c_50 n x3138 w3142 hx3141 ) rfl rfl rfl ?_
    refine QL.step1v 57 (.slice a5 x3.length c6) rfl (fun _ => by kernel_rfl) ?_
    refine QL.subk [56, 57] [(56, .bool x3140), (57, .slice a5 x3.length c6)] (by kernel_rfl) ?_
    obtain ⟨x3144, hx3145, hm⟩ := bindE hm
    refine QL.st (.pointer (some (at_ a5 (Int.toNat 2 * 1)))) (ST.index (T := fStr.ty) (xs := x3) (SH.rd (SH.front 0 hS114)) hx3145 rfl rfl rfl Tryd.underlying22 (info9).1 (info9).2.1) rfl rfl rfl ?_
    refine QL.st (.string (bs x3144)) (ST.load (cell_ext (Rd.flat (F := fStr) (SH.rd (SH.front 0 hS114)) hx3145 0 rfl)) rfl rfl Tryd.underlying9 rfl) rfl rfl rfl ?_
    obtain ⟨x3146, hx3147, hm⟩ := bindE hm
    refine QL.call 74 #[.string (bs x3144), .int .i64 10, .int .i64 300] (.bool x3146) (fun _ => by kernel_rfl) (fun w3148 hE3149 => c_74 n x3144 10 300 w3148 hx3147 (GL.below (GL.below hG hb112) hE3149)) rfl rfl rfl ?_
    refine QL.step1v 5 (.bool x3140) rfl (fun _ => by kernel_rfl) ?_
    refine QL.step1v 6 (.bool x3146) rfl (fun _ => by kernel_rfl) ?_
    refine QL.subk [5, 6] [(5, .bool x3140), (6, .bool x3146)] (by kernel_rfl) ?_
    refine QL.nil ?_
    intro w3150 hE3151
    have hb3152 : Ext w w3150 := Ext.trans hb112 hE3151
    have hL3153 : w.heap.size ≤ w3150.heap.size := Nat.le_trans hL113 hE3151.size
    have hS3154 : SH w3150 w.heap.size [aOwn fStr 9 a5 c6 x3] := SH.ext hS114 hE3151
    obtain rfl := Option.some.inj hm
    exact WQ.post' ⟨rfl, hb3152, hL3153, (SH.take 0 hS3154)⟩ ⟨rfl, rfl, trivial⟩
  have hm := iteF hm hc2730
  refine WP.seq (fun K3155 hK3155 => ?_)
  refine WP.region ?_
  refine WL.st (.bool (x121 == [104, 101, 101, 108])) (ST.streq (x := x121) (y := [104, 101, 101, 108]) rfl rfl rfl) rfl rfl rfl ?_
  refine WL.runk 1 [3, 4, 5, 6, 32, 61] [(3, .slice a5 x3.length c6), (4, .int .i64 (x3.length : Int)), (5, .bool true), (6, .bool true), (32, .string (bs x121)), (61, .bool (x121 == [104, 101, 101, 108]))] (by kernel_rfl) ?_
  refine WL.nil ?_
  refine WQ.then_normal (hK3155 _ _ _ ?_)
  obtain ⟨x3347, hx3348, hm⟩ := bindE hm
  refine WP.cut (fun env' w' => env' = [(5, .bool true), (6, .bool x3347)] ∧ Ext w w' ∧ w.heap.size ≤ w'.heap.size ∧ SH w' w.heap.size []) ?_ ?_
  rotate_left
  · clear hx3348
    rintro _ w3539 ⟨rfl, hb3540, hL3541, hS3542⟩
    obtain rfl := Option.some.inj hm
    exact WQ.post' ⟨rfl, hb3540, hL3541, hS3542⟩ ⟨rfl, rfl, trivial⟩
  have hm := hx3348; clear hx3348
  refine WP.cond (x121 == [104, 101, 101, 108]) rfl rfl (fun hc3156 => ?_) (fun hc3156 => ?_)
  · have hm := iteT hm hc3156
    refine WP.region ?_
    refine WL.runk 1 [5, 63] [(5, .bool true), (63, .slice a5 x3.length c6)] (by kernel_rfl) ?_
    obtain ⟨x3349, hx3350, hm⟩ := bindE hm
    refine WL.st (.pointer (some (at_ a5 (Int.toNat 1 * 1)))) (ST.index (T := fStr.ty) (xs := x3) (SH.rd (SH.front 0 hS114)) hx3350 rfl rfl rfl Tryd.underlying22 (info9).1 (info9).2.1) rfl rfl rfl ?_
    refine WL.st (.string (bs x3349)) (ST.load (cell_ext (Rd.flat (F := fStr) (SH.rd (SH.front 0 hS114)) hx3350 0 rfl)) rfl rfl Tryd.underlying9 rfl) rfl rfl rfl ?_
    obtain ⟨x3351, hx3352, hm⟩ := bindE hm
    refine WL.call 74 #[.string (bs x3349), .int .i64 0, .int .i64 1200] rfl rfl (by kernel_rfl) (c_74 n x3349 0 1200 w111 hx3352 (GL.below hG hb112)) ?_
    rintro _ w3353 ⟨rfl, hE3354⟩
    refine ⟨_, rfl, ?_⟩
    have hb3356 : Ext w w3353 := Ext.trans hb112 hE3354
    have hL3357 : w.heap.size ≤ w3353.heap.size := Nat.le_trans hL113 hE3354.size
    have hS3358 : SH w3353 w.heap.size [aOwn fStr 9 a5 c6 x3] := SH.ext hS114 hE3354
    refine WL.runk 1 [5, 6] [(5, .bool true), (6, .bool x3351)] (by kernel_rfl) ?_
    refine WL.nil ?_
    obtain rfl := Option.some.inj hm
    exact WQ.post' ⟨rfl, hb3356, hL3357, (SH.take 0 hS3358)⟩ ⟨rfl, rfl, trivial⟩
  have hm := iteF hm hc3156
  refine WP.seq (fun K3359 hK3359 => ?_)
  refine WP.region ?_
  refine WL.st (.bool (x121 == [101, 121, 101, 108, 101, 116, 115])) (ST.streq (x := x121) (y := [101, 121, 101, 108, 101, 116, 115]) rfl rfl rfl) rfl rfl rfl ?_
  refine WL.runk 1 [3, 4, 5, 6, 32, 67] [(3, .slice a5 x3.length c6), (4, .int .i64 (x3.length : Int)), (5, .bool true), (6, .bool true), (32, .string (bs x121)), (67, .bool (x121 == [101, 121, 101, 108, 101, 116, 115]))] (by kernel_rfl) ?_
  refine WL.nil ?_
  refine WQ.then_normal (hK3359 _ _ _ ?_)
  obtain ⟨x3447, hx3448, hm⟩ := bindE hm
  refine WP.cut (fun env' w' => env' = [(5, .bool true), (6, .bool x3447)] ∧ Ext w w' ∧ w.heap.size ≤ w'.heap.size ∧ SH w' w.heap.size []) ?_ ?_
  rotate_left
  · clear hx3448
    rintro _ w3535 ⟨rfl, hb3536, hL3537, hS3538⟩
    obtain rfl := Option.some.inj hm
    exact WQ.post' ⟨rfl, hb3536, hL3537, hS3538⟩ ⟨rfl, rfl, trivial⟩
  have hm := hx3448; clear hx3448
  refine WP.cond (x121 == [101, 121, 101, 108, 101, 116, 115]) rfl rfl (fun hc3360 => ?_) (fun hc3360 => ?_)
  · have hm := iteT hm hc3360
    refine WP.region ?_
    refine WL.runk 1 [5, 69] [(5, .bool true), (69, .slice a5 x3.length c6)] (by kernel_rfl) ?_
    obtain ⟨x3449, hx3450, hm⟩ := bindE hm
    refine WL.st (.pointer (some (at_ a5 (Int.toNat 1 * 1)))) (ST.index (T := fStr.ty) (xs := x3) (SH.rd (SH.front 0 hS114)) hx3450 rfl rfl rfl Tryd.underlying22 (info9).1 (info9).2.1) rfl rfl rfl ?_
    refine WL.st (.string (bs x3449)) (ST.load (cell_ext (Rd.flat (F := fStr) (SH.rd (SH.front 0 hS114)) hx3450 0 rfl)) rfl rfl Tryd.underlying9 rfl) rfl rfl rfl ?_
    obtain ⟨x3451, hx3452, hm⟩ := bindE hm
    refine WL.call 74 #[.string (bs x3449), .int .i64 1, .int .i64 12] rfl rfl (by kernel_rfl) (c_74 n x3449 1 12 w111 hx3452 (GL.below hG hb112)) ?_
    rintro _ w3453 ⟨rfl, hE3454⟩
    refine ⟨_, rfl, ?_⟩
    have hb3456 : Ext w w3453 := Ext.trans hb112 hE3454
    have hL3457 : w.heap.size ≤ w3453.heap.size := Nat.le_trans hL113 hE3454.size
    have hS3458 : SH w3453 w.heap.size [aOwn fStr 9 a5 c6 x3] := SH.ext hS114 hE3454
    refine WL.runk 1 [5, 6] [(5, .bool true), (6, .bool x3451)] (by kernel_rfl) ?_
    refine WL.nil ?_
    obtain rfl := Option.some.inj hm
    exact WQ.post' ⟨rfl, hb3456, hL3457, (SH.take 0 hS3458)⟩ ⟨rfl, rfl, trivial⟩
  have hm := iteF hm hc3360
  refine WP.seq (fun K3459 hK3459 => ?_)
  refine WP.region ?_
  refine WL.st (.bool (x121 == [115, 116, 105, 116, 99, 104])) (ST.streq (x := x121) (y := [115, 116, 105, 116, 99, 104]) rfl rfl rfl) rfl rfl rfl ?_
  refine WL.runk 1 [3, 4, 5, 6, 73] [(3, .slice a5 x3.length c6), (4, .int .i64 (x3.length : Int)), (5, .bool true), (6, .bool true), (73, .bool (x121 == [115, 116, 105, 116, 99, 104]))] (by kernel_rfl) ?_
  refine WL.nil ?_
  refine WQ.then_normal (hK3459 _ _ _ ?_)
  obtain ⟨x3495, hx3496, hm⟩ := bindE hm
  refine WP.cut (fun env' w' => env' = [(5, .bool true), (6, .bool x3495)] ∧ Ext w w' ∧ w.heap.size ≤ w'.heap.size ∧ SH w' w.heap.size []) ?_ ?_
  rotate_left
  · clear hx3496
    rintro _ w3531 ⟨rfl, hb3532, hL3533, hS3534⟩
    obtain rfl := Option.some.inj hm
    exact WQ.post' ⟨rfl, hb3532, hL3533, hS3534⟩ ⟨rfl, rfl, trivial⟩
  have hm := hx3496; clear hx3496
  refine WP.cond (x121 == [115, 116, 105, 116, 99, 104]) rfl rfl (fun hc3460 => ?_) (fun hc3460 => ?_)
  rotate_left
  · have hm := iteF hm hc3460
    refine WP.skip ?_
    obtain rfl := Option.some.inj hm
    exact WQ.post' ⟨rfl, hb112, hL113, (SH.take 0 hS114)⟩ ⟨rfl, rfl, trivial⟩
  have hm := iteT hm hc3460
  obtain ⟨x3511, hx3512, hm⟩ := bindE hm
  refine WP.cut (fun env' w' => env' = [(5, .bool true), (6, .bool x3511)] ∧ Ext w w' ∧ w.heap.size ≤ w'.heap.size ∧ SH w' w.heap.size []) ?_ ?_
  rotate_left
  · clear hx3512
    rintro _ w3527 ⟨rfl, hb3528, hL3529, hS3530⟩
    obtain rfl := Option.some.inj hm
    exact WQ.post' ⟨rfl, hb3528, hL3529, hS3530⟩ ⟨rfl, rfl, trivial⟩
  have hm := hx3512; clear hx3512
  refine WP.region ?_
  refine WL.runk 1 [3, 4, 5, 75] [(3, .slice a5 x3.length c6), (4, .int .i64 (x3.length : Int)), (5, .bool true), (75, .slice a5 x3.length c6)] (by kernel_rfl) ?_
  obtain ⟨x3513, hx3514, hm⟩ := bindE hm
  refine WL.st (.pointer (some (at_ a5 (Int.toNat 1 * 1)))) (ST.index (T := fStr.ty) (xs := x3) (SH.rd (SH.front 0 hS114)) hx3514 rfl rfl rfl Tryd.underlying22 (info9).1 (info9).2.1) rfl rfl rfl ?_
  refine WL.st (.string (bs x3513)) (ST.load (cell_ext (Rd.flat (F := fStr) (SH.rd (SH.front 0 hS114)) hx3514 0 rfl)) rfl rfl Tryd.underlying9 rfl) rfl rfl rfl ?_
  obtain ⟨x3515, hx3516, hm⟩ := bindE hm
  refine WL.call 74 #[.string (bs x3513), .int .i64 10, .int .i64 80] rfl rfl (by kernel_rfl) (c_74 n x3513 10 80 w111 hx3516 (GL.below hG hb112)) ?_
  rintro _ w3517 ⟨rfl, hE3518⟩
  refine ⟨_, rfl, ?_⟩
  have hb3520 : Ext w w3517 := Ext.trans hb112 hE3518
  have hL3521 : w.heap.size ≤ w3517.heap.size := Nat.le_trans hL113 hE3518.size
  have hS3522 : SH w3517 w.heap.size [aOwn fStr 9 a5 c6 x3] := SH.ext hS114 hE3518
  refine WL.runk 1 [3, 4, 5, 79] [(3, .slice a5 x3.length c6), (4, .int .i64 (x3.length : Int)), (5, .bool true), (79, .bool x3515)] (by kernel_rfl) ?_
  refine WL.case x3515 [79] ⟨rfl, trivial⟩ (fun hc3523 => ?_) (fun hc3523 => ?_)
  rotate_left
  · have hm := iteF hm hc3523
    refine WL.runk 10 [5, 6] [(5, .bool true), (6, .bool false)] (by kernel_rfl) ?_
    refine WL.nil ?_
    obtain rfl := Option.some.inj hm
    exact WQ.post' ⟨rfl, hb3520, hL3521, (SH.take 0 hS3522)⟩ ⟨rfl, rfl, trivial⟩
  have hm := iteT hm hc3523
  refine WL.runk 3 [3, 5, 79, 82] [(3, .slice a5 x3.length c6), (5, .bool true), (79, .bool true), (82, .bool ((x3.length : Int) == 2))] (by kernel_rfl) ?_
  refine WL.case ((x3.length : Int) == 2) [82] ⟨rfl, trivial⟩ (fun hc3524 => ?_) (fun hc3524 => ?_)
  · have hm := iteT hm hc3524
    refine WL.runk 7 [5, 6] [(5, .bool true), (6, .bool true)] (by kernel_rfl) ?_
    refine WL.nil ?_
    obtain rfl := Option.some.inj hm
    exact WQ.post' ⟨rfl, hb3520, hL3521, (SH.take 0 hS3522)⟩ ⟨rfl, rfl, trivial⟩
  have hm := iteF hm hc3524
  refine WL.runk 1 [5, 79, 82, 83] [(5, .bool true), (79, .bool true), (82, .bool false), (83, .slice a5 x3.length c6)] (by kernel_rfl) ?_
  obtain ⟨x3525, hx3526, hm⟩ := bindE hm
  refine WL.st (.pointer (some (at_ a5 (Int.toNat 2 * 1)))) (ST.index (T := fStr.ty) (xs := x3) (SH.rd (SH.front 0 hS3522)) hx3526 rfl rfl rfl Tryd.underlying22 (info9).1 (info9).2.1) rfl rfl rfl ?_
  refine WL.st (.string (bs x3525)) (ST.load (cell_ext (Rd.flat (F := fStr) (SH.rd (SH.front 0 hS3522)) hx3526 0 rfl)) rfl rfl Tryd.underlying9 rfl) rfl rfl rfl ?_
  refine WL.st (.bool (x3525 == [100, 111, 117, 98, 108, 101])) (ST.streq (x := x3525) (y := [100, 111, 117, 98, 108, 101]) rfl rfl rfl) rfl rfl rfl ?_
  refine WL.runk 3 [5, 6] [(5, .bool true), (6, .bool (x3525 == [100, 111, 117, 98, 108, 101]))] (by kernel_rfl) ?_
  refine WL.nil ?_
  obtain rfl := Option.some.inj hm
  exact WQ.post' ⟨rfl, hb3520, hL3521, (SH.take 0 hS3522)⟩ ⟨rfl, rfl, trivial⟩

end Go.Proofs.YtkjjjbfpecmieaaDoor
