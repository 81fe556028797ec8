/- Each call does what its Lean function says. -/
import Derived.Test.YtkglfbcelaphhaaKCheapRepairs2
set_option maxRecDepth 20000
set_option maxHeartbeats 40000000
namespace Go.Proofs.Ytkglfbcelaphhaa
open Go Go.Gv Go.RowKit

theorem c_57 (n : Nat) (list_0 : List SRepair) (a0' : Option Addr) (c0' : Nat) (faults_1 : List Int) (a1' : Option Addr) (c1' : Nat) (w : World) {r : List Int × Bool} (hm : m_spec_l21Cheapest n list_0 faults_1 = some r) (h0 : Rd fRepair.ty w a0' list_0) (hle0 : list_0.length ≤ c0') (h1 : Rd fInt.ty w a1' faults_1) (hle1 : faults_1.length ≤ c1') :
    CallV Try.prog 57 #[.slice a0' list_0.length c0', .slice a1' faults_1.length c1'] w (fun v w' => ∃ (ra0 : Option Addr) (rc0 : Nat), v = .tuple #[.slice ra0 r.1.length rc0, .bool r.2] ∧ Ext w w' ∧ SH w' w.heap.size [aOwn fInt 2 ra0 rc0 r.1]) := by
  unfold m_spec_l21Cheapest at hm
  refine CallV.enter Try.func57 rfl (by kernel_rfl) Try.ntmps57 (env := [(0, .slice a0' list_0.length c0'), (1, .slice a1' faults_1.length c1')]) ⟨rfl, rfl, trivial⟩ ?_
  refine WP.seq (fun K1 hK1 => ?_)
  refine WP.region ?_
  refine WL.runk 2 [0, 1] [(0, .slice a0' list_0.length c0'), (1, .slice a1' faults_1.length c1')] (by kernel_rfl) ?_
  refine WL.nil ?_
  refine WQ.then_normal (hK1 _ _ _ ?_)
  refine WP.seq (fun K2 hK2 => ?_)
  refine WP.region ?_
  refine WL.row fInt 2 ([] : List Int) 0 #[] 13 (by kernel_rfl) rfl rfl rfl rfl rfl rfl rfl ?_
  intro a3 c4 w5 hE6 hR7
  have hb9 : Ext w w5 := Ext.trans (Ext.refl w) hE6
  have hL10 : w.heap.size ≤ w5.heap.size := Nat.le_trans (Nat.le_refl _) hE6.size
  have hS11 : SH w5 w.heap.size [aOwn fInt 2 a3 c4 ([] : List Int)] := SH.add (SH.nil _ _) hE6 (Nat.le_refl _) hR7
  refine WL.runk 1 [0, 1, 6] [(0, .slice a0' list_0.length c0'), (1, .slice a1' faults_1.length c1'), (6, .slice a3 (([] : List Int).length) c4)] (by kernel_rfl) ?_
  refine WL.nil ?_
  refine WQ.then_normal (hK2 _ _ _ ?_)
  refine WP.seq (fun K12 hK12 => ?_)
  refine WP.region ?_
  refine WL.runk 1 [0, 1, 6, 7] [(0, .slice a0' list_0.length c0'), (1, .slice a1' faults_1.length c1'), (6, .slice a3 (([] : List Int).length) c4), (7, .bool false)] (by kernel_rfl) ?_
  refine WL.nil ?_
  refine WQ.then_normal (hK12 _ _ _ ?_)
  refine WP.seq (fun K13 hK13 => ?_)
  refine WP.seq (fun K14 hK14 => ?_)
  refine WP.region ?_
  refine WL.runk 1 [0, 1, 6, 7, 8] [(0, .slice a0' list_0.length c0'), (1, .slice a1' faults_1.length c1'), (6, .slice a3 (([] : List Int).length) c4), (7, .bool false), (8, .int .i64 0)] (by kernel_rfl) ?_
  refine WL.nil ?_
  refine WQ.then_normal (hK14 _ _ _ ?_)
  refine WP.block ?_
  obtain ⟨t29, ht30, hm⟩ := bindE hm
  have hmo24 := hm; clear hm
  refine WP.sub [(0, .slice a0' list_0.length c0'), (1, .slice a1' faults_1.length c1'), (6, .slice a3 (([] : List Int).length) c4), (7, .bool false), (8, .int .i64 0)] ⟨rfl, rfl, rfl, rfl, rfl, trivial⟩ ?_
  refine WP.loop (fun n' env' w' => ∃ (st15 : List Int × Bool × Int) (a16 : Option Addr) (c17 : Nat), env' = [(0, .slice a0' list_0.length c0'), (1, .slice a1' faults_1.length c1'), (6, .slice a16 st15.1.length c17), (7, .bool st15.2.1), (8, .int .i64 st15.2.2)] ∧ Ext w w' ∧ w.heap.size ≤ w'.heap.size ∧ SH w' w.heap.size [aOwn fInt 2 a16 c17 st15.1] ∧ loopN (m_spec_l21Cheapest_l1 n list_0 faults_1) n' st15 = some t29) n ⟨(([] : List Int), false, 0), _, _, rfl, hb9, hL10, hS11, ht30⟩ ?_
  rintro n26 _ w19 ⟨st15, a16, c17, rfl, hb20, hL21, hS22, hl23⟩ K25 hK25
  obtain ⟨n27, s28, rfl, hm, hl23⟩ := loopN_some hl23
  unfold m_spec_l21Cheapest_l1 at hm
  refine WP.seq (fun K31 hK31 => ?_)
  refine WP.seq (fun K32 hK32 => ?_)
  refine WP.region ?_
  refine WL.runk 4 [0, 1, 6, 7, 8, 14, 17] [(0, .slice a0' list_0.length c0'), (1, .slice a1' faults_1.length c1'), (6, .slice a16 st15.1.length c17), (7, .bool st15.2.1), (8, .int .i64 st15.2.2), (14, .int .i64 st15.2.2), (17, .int .u64 (IntKind.u64.wrap (list_0.length : Int)))] (by kernel_rfl) ?_
  obtain ⟨x33, hx34, hm⟩ := bindE hm
  refine WL.st (.int .i64 x33) (ST.shl (k := .i64) hx34 rfl rfl rfl) rfl rfl rfl ?_
  refine WL.runk 1 [0, 1, 6, 7, 8, 19] [(0, .slice a0' list_0.length c0'), (1, .slice a1' faults_1.length c1'), (6, .slice a16 st15.1.length c17), (7, .bool st15.2.1), (8, .int .i64 st15.2.2), (19, .bool (decide (st15.2.2 < x33)))] (by kernel_rfl) ?_
  refine WL.nil ?_
  refine WQ.then_normal (hK32 _ _ _ ?_)
  refine WP.cond (decide (st15.2.2 < x33)) rfl rfl (fun hc35 => ?_) (fun hc35 => ?_)
  rotate_left
  · have hm := iteF hm hc35
    refine WP.exit ?_
    refine WQ.then_exit ?_
    refine WQ.then_exit ?_
    refine WQ.block_here ?_
    obtain rfl := Option.some.inj hm
    obtain rfl := afterN_done hl23
    have hm := hmo24
    refine WQ.then_normal (hK13 _ _ _ ?_)
    refine WP.seq (fun K270 hK270 => ?_)
    refine WP.region ?_
    refine WL.runk 4 [4, 5] [(4, .slice a16 st15.1.length c17), (5, .bool st15.2.1)] (by kernel_rfl) ?_
    refine WL.nil ?_
    refine WQ.then_normal (hK270 _ _ _ ?_)
    refine WP.ret ?_
    obtain rfl := Option.some.inj hm
    exact WQ.ret2 _ _ rfl rfl rfl ⟨_, _, rfl, hb20, hS22⟩
  have hm := iteT hm hc35
  refine WP.skip ?_
  refine WQ.then_normal (hK31 _ _ _ ?_)
  refine WP.seq (fun K36 hK36 => ?_)
  refine WP.block ?_
  refine WP.seq (fun K37 hK37 => ?_)
  refine WP.region ?_
  refine WL.row fInt 2 ([] : List Int) 0 #[] 22 (by kernel_rfl) rfl rfl rfl rfl rfl rfl rfl ?_
  intro a38 c39 w40 hE41 hR42
  have hb44 : Ext w w40 := Ext.trans hb20 hE41
  have hL45 : w.heap.size ≤ w40.heap.size := Nat.le_trans hL21 hE41.size
  have hS46 : SH w40 w.heap.size [aOwn fInt 2 a38 c39 ([] : List Int), aOwn fInt 2 a16 c17 st15.1] := SH.add hS22 hE41 hL21 hR42
  refine WL.runk 1 [0, 1, 6, 7, 8, 9] [(0, .slice a0' list_0.length c0'), (1, .slice a1' faults_1.length c1'), (6, .slice a16 st15.1.length c17), (7, .bool st15.2.1), (8, .int .i64 st15.2.2), (9, .slice a38 (([] : List Int).length) c39)] (by kernel_rfl) ?_
  refine WL.nil ?_
  refine WQ.then_normal (hK37 _ _ _ ?_)
  refine WP.seq (fun K47 hK47 => ?_)
  refine WP.seq (fun K48 hK48 => ?_)
  refine WP.region ?_
  refine WL.runk 1 [0, 1, 6, 7, 8, 9, 10] [(0, .slice a0' list_0.length c0'), (1, .slice a1' faults_1.length c1'), (6, .slice a16 st15.1.length c17), (7, .bool st15.2.1), (8, .int .i64 st15.2.2), (9, .slice a38 (([] : List Int).length) c39), (10, .int .i64 0)] (by kernel_rfl) ?_
  refine WL.nil ?_
  refine WQ.then_normal (hK48 _ _ _ ?_)
  refine WP.block ?_
  obtain ⟨t63, ht64, hm⟩ := bindE hm
  have hmo58 := hm; clear hm
  refine WP.sub [(0, .slice a0' list_0.length c0'), (1, .slice a1' faults_1.length c1'), (6, .slice a16 st15.1.length c17), (7, .bool st15.2.1), (8, .int .i64 st15.2.2), (9, .slice a38 (([] : List Int).length) c39), (10, .int .i64 0)] ⟨rfl, rfl, rfl, rfl, rfl, rfl, rfl, trivial⟩ ?_
  refine WP.loop (fun n' env' w' => ∃ (st49 : List Int × Int) (a50 : Option Addr) (c51 : Nat), env' = [(0, .slice a0' list_0.length c0'), (1, .slice a1' faults_1.length c1'), (6, .slice a16 st15.1.length c17), (7, .bool st15.2.1), (8, .int .i64 st15.2.2), (9, .slice a50 st49.1.length c51), (10, .int .i64 st49.2)] ∧ Ext w w' ∧ w.heap.size ≤ w'.heap.size ∧ SH w' w.heap.size [aOwn fInt 2 a50 c51 st49.1, aOwn fInt 2 a16 c17 st15.1] ∧ loopN (m_spec_l21Cheapest_l2 n list_0 st15) n' st49 = some t63) n ⟨(([] : List Int), 0), _, _, rfl, hb44, hL45, hS46, ht64⟩ ?_
  rintro n60 _ w53 ⟨st49, a50, c51, rfl, hb54, hL55, hS56, hl57⟩ K59 hK59
  obtain ⟨n61, s62, rfl, hm, hl57⟩ := loopN_some hl57
  unfold m_spec_l21Cheapest_l2 at hm
  refine WP.seq (fun K65 hK65 => ?_)
  refine WP.seq (fun K66 hK66 => ?_)
  refine WP.region ?_
  refine WL.runk 4 [0, 1, 6, 7, 8, 9, 10, 26] [(0, .slice a0' list_0.length c0'), (1, .slice a1' faults_1.length c1'), (6, .slice a16 st15.1.length c17), (7, .bool st15.2.1), (8, .int .i64 st15.2.2), (9, .slice a50 st49.1.length c51), (10, .int .i64 st49.2), (26, .bool (decide (st49.2 < (list_0.length : Int))))] (by kernel_rfl) ?_
  refine WL.nil ?_
  refine WQ.then_normal (hK66 _ _ _ ?_)
  refine WP.cond (decide (st49.2 < (list_0.length : Int))) rfl rfl (fun hc67 => ?_) (fun hc67 => ?_)
  · have hm := iteT hm hc67
    refine WP.skip ?_
    refine WQ.then_normal (hK65 _ _ _ ?_)
    refine WP.seq (fun K68 hK68 => ?_)
    refine WP.block ?_
    refine WP.seq (fun K69 hK69 => ?_)
    refine WP.region ?_
    refine WL.runk 3 [0, 1, 6, 7, 8, 9, 10, 29, 31] [(0, .slice a0' list_0.length c0'), (1, .slice a1' faults_1.length c1'), (6, .slice a16 st15.1.length c17), (7, .bool st15.2.1), (8, .int .i64 st15.2.2), (9, .slice a50 st49.1.length c51), (10, .int .i64 st49.2), (29, .int .i64 st15.2.2), (31, .int .u64 (IntKind.u64.wrap st49.2))] (by kernel_rfl) ?_
    obtain ⟨x70, hx71, hm⟩ := bindE hm
    refine WL.st (.int .i64 x70) (ST.shr (k := .i64) hx71 rfl rfl rfl) rfl rfl rfl ?_
    refine WL.runk 2 [0, 1, 6, 7, 8, 9, 10, 34] [(0, .slice a0' list_0.length c0'), (1, .slice a1' faults_1.length c1'), (6, .slice a16 st15.1.length c17), (7, .bool st15.2.1), (8, .int .i64 st15.2.2), (9, .slice a50 st49.1.length c51), (10, .int .i64 st49.2), (34, .bool ((iand .i64 x70 1) == 1))] (by kernel_rfl) ?_
    refine WL.nil ?_
    refine WQ.then_normal (hK69 _ _ _ ?_)
    obtain ⟨x91, hx92, hm⟩ := bindE hm
    refine WP.cut (fun env' w' => ∃ (a93 : Option Addr) (c94 : Nat), env' = [(0, .slice a0' list_0.length c0'), (1, .slice a1' faults_1.length c1'), (6, .slice a16 st15.1.length c17), (7, .bool st15.2.1), (8, .int .i64 st15.2.2), (9, .slice a93 x91.length c94), (10, .int .i64 st49.2)] ∧ Ext w w' ∧ w.heap.size ≤ w'.heap.size ∧ SH w' w.heap.size [aOwn fInt 2 a93 c94 x91, aOwn fInt 2 a16 c17 st15.1]) ?_ ?_
    rotate_left
    · clear hx92
      rintro _ w114 ⟨a93, c94, rfl, hb115, hL116, hS117⟩
      refine WQ.block_normal ?_
      refine WQ.then_normal (hK68 _ _ _ ?_)
      refine WP.region ?_
      refine WL.runk 3 [0, 1, 6, 7, 8, 9, 10] [(0, .slice a0' list_0.length c0'), (1, .slice a1' faults_1.length c1'), (6, .slice a16 st15.1.length c17), (7, .bool st15.2.1), (8, .int .i64 st15.2.2), (9, .slice a93 x91.length c94), (10, .int .i64 (wI64 (st49.2 + 1)))] (by kernel_rfl) ?_
      refine WL.nil ?_
      obtain rfl := Option.some.inj hm
      exact WQ.round hK59 ⟨(x91, (wI64 (st49.2 + 1))), _, _, rfl, hb115, hL116, hS117, hl57⟩ (Nat.lt_succ_self _) ⟨rfl, rfl, rfl, rfl, rfl, rfl, rfl, trivial⟩
    have hm := hx92; clear hx92
    refine WP.cond ((iand .i64 x70 1) == 1) rfl rfl (fun hc72 => ?_) (fun hc72 => ?_)
    rotate_left
    · have hm := iteF hm hc72
      refine WP.skip ?_
      obtain rfl := Option.some.inj hm
      exact WQ.post' ⟨_, _, rfl, hb54, hL55, hS56⟩ ⟨rfl, rfl, rfl, rfl, rfl, rfl, rfl, trivial⟩
    have hm := iteT hm hc72
    refine WP.region ?_
    refine WL.runk 2 [0, 1, 6, 7, 8, 10, 35, 36] [(0, .slice a0' list_0.length c0'), (1, .slice a1' faults_1.length c1'), (6, .slice a16 st15.1.length c17), (7, .bool st15.2.1), (8, .int .i64 st15.2.2), (10, .int .i64 st49.2), (35, .slice a50 st49.1.length c51), (36, .int .i64 st49.2)] (by kernel_rfl) ?_
    refine WL.row fInt 2 ([st49.2] : List Int) 1 #[.int .i64 st49.2] 37 (by kernel_rfl) rfl rfl rfl rfl rfl rfl rfl ?_
    intro a96 c97 w98 hE99 hR100
    have hb102 : Ext w w98 := Ext.trans hb54 hE99
    have hL103 : w.heap.size ≤ w98.heap.size := Nat.le_trans hL55 hE99.size
    have hS104 : SH w98 w.heap.size [aOwn fInt 2 a96 c97 ([st49.2] : List Int), aOwn fInt 2 a50 c51 st49.1, aOwn fInt 2 a16 c17 st15.1] := SH.add hS56 hE99 hL55 hR100
    obtain ⟨x105, hx106, hm⟩ := bindE hm
    refine WL.append (F := fInt) (xs := st49.1) (ys := ([st49.2] : List Int)) 38 (SH.front 1 hS104) hL103 (SH.rd (SH.front 0 hS104)) hx106 rfl rfl rfl Try.underlying25 (info2).1 (info2).2.2.1 (info2).2.1 (info2).2.2.2 rfl rfl rfl rfl rfl ?_
    intro a107 c108 w109 hB110 hS111
    have hb112 : Ext w w109 := Below.trans hb102 hB110
    have hL113 : w.heap.size ≤ w109.heap.size := Nat.le_trans hL103 hB110.size
    refine WL.runk 1 [0, 1, 6, 7, 8, 9, 10] [(0, .slice a0' list_0.length c0'), (1, .slice a1' faults_1.length c1'), (6, .slice a16 st15.1.length c17), (7, .bool st15.2.1), (8, .int .i64 st15.2.2), (10, .int .i64 st49.2), (9, .slice a107 x105.length c108)] (by kernel_rfl) ?_
    refine WL.nil ?_
    obtain rfl := Option.some.inj hm
    exact WQ.post' ⟨_, _, rfl, hb112, hL113, (SH.take 2 (SH.front 1 (SH.front 2 hS111)))⟩ ⟨rfl, rfl, rfl, rfl, rfl, rfl, rfl, trivial⟩
  have hm := iteF hm hc67
  refine WP.exit ?_
  refine WQ.then_exit ?_
  refine WQ.then_exit ?_
  refine WQ.block_here ?_
  obtain rfl := Option.some.inj hm
  obtain rfl := afterN_done hl57
  have hm := hmo58
  refine WQ.then_normal (hK47 _ _ _ ?_)
  refine WP.seq (fun K118 hK118 => ?_)
  refine WP.seq (fun K119 hK119 => ?_)
  refine WP.region ?_
  refine WL.runk 3 [0, 1, 6, 7, 8, 9, 39, 40, 41] [(0, .slice a0' list_0.length c0'), (1, .slice a1' faults_1.length c1'), (6, .slice a16 st15.1.length c17), (7, .bool st15.2.1), (8, .int .i64 st15.2.2), (9, .slice a50 st49.1.length c51), (39, .slice a0' list_0.length c0'), (40, .slice a50 st49.1.length c51), (41, .slice a1' faults_1.length c1')] (by kernel_rfl) ?_
  obtain ⟨x120, hx121, hm⟩ := bindE hm
  refine WL.call 53 #[.slice a0' list_0.length c0', .slice a50 st49.1.length c51, .slice a1' faults_1.length c1'] rfl rfl (by kernel_rfl) (c_53 n list_0 a0' c0' st49.1 a50 c51 faults_1 a1' c1' w53 hx121 (Rd.below h0 hb54) hle0 (SH.rd (SH.front 0 hS56)) (SH.le (SH.front 0 hS56)).1 (Rd.below h1 hb54) hle1) ?_
  rintro _ w122 ⟨rfl, hE123⟩
  refine ⟨_, rfl, ?_⟩
  have hb125 : Ext w w122 := Ext.trans hb54 hE123
  have hL126 : w.heap.size ≤ w122.heap.size := Nat.le_trans hL55 hE123.size
  have hS127 : SH w122 w.heap.size [aOwn fInt 2 a50 c51 st49.1, aOwn fInt 2 a16 c17 st15.1] := SH.ext hS56 hE123
  refine WL.runk 1 [0, 1, 6, 7, 8, 9, 43] [(0, .slice a0' list_0.length c0'), (1, .slice a1' faults_1.length c1'), (6, .slice a16 st15.1.length c17), (7, .bool st15.2.1), (8, .int .i64 st15.2.2), (9, .slice a50 st49.1.length c51), (43, .bool (!x120))] (by kernel_rfl) ?_
  refine WL.nil ?_
  refine WQ.then_normal (hK119 _ _ _ ?_)
  refine WP.cond (!x120) rfl rfl (fun hc128 => ?_) (fun hc128 => ?_)
  · have hm := iteT hm hc128
    refine WP.exit ?_
    refine WQ.then_exit ?_
    refine WQ.block_here ?_
    refine WQ.then_normal (hK36 _ _ _ ?_)
    refine WP.region ?_
    refine WL.runk 3 [0, 1, 6, 7, 8] [(0, .slice a0' list_0.length c0'), (1, .slice a1' faults_1.length c1'), (6, .slice a16 st15.1.length c17), (7, .bool st15.2.1), (8, .int .i64 (wI64 (st15.2.2 + 1)))] (by kernel_rfl) ?_
    refine WL.nil ?_
    obtain rfl := Option.some.inj hm
    exact WQ.round hK25 ⟨(st15.1, st15.2.1, (wI64 (st15.2.2 + 1))), _, _, rfl, hb125, hL126, (SH.take 1 (SH.front 1 hS127)), hl23⟩ (Nat.lt_succ_self _) ⟨rfl, rfl, rfl, rfl, rfl, trivial⟩
  have hm := iteF hm hc128
  refine WP.skip ?_
  refine WQ.then_normal (hK118 _ _ _ ?_)
  refine WP.seq (fun K129 hK129 => ?_)
  refine WP.region ?_
  refine WL.runk 2 [0, 1, 6, 7, 8, 9, 44, 45] [(0, .slice a0' list_0.length c0'), (1, .slice a1' faults_1.length c1'), (6, .slice a16 st15.1.length c17), (7, .bool st15.2.1), (8, .int .i64 st15.2.2), (9, .slice a50 st49.1.length c51), (44, .slice a0' list_0.length c0'), (45, .slice a50 st49.1.length c51)] (by kernel_rfl) ?_
  obtain ⟨x130, hx131, hm⟩ := bindE hm
  refine WL.call 66 #[.slice a0' list_0.length c0', .slice a50 st49.1.length c51] rfl rfl (by kernel_rfl) (c_66 n list_0 a0' c0' st49.1 a50 c51 w122 hx131 (Rd.below h0 hb125) hle0 (SH.rd (SH.front 0 hS127)) (SH.le (SH.front 0 hS127)).1) ?_
  rintro _ w132 ⟨rfl, hE133⟩
  refine ⟨_, rfl, ?_⟩
  have hb135 : Ext w w132 := Ext.trans hb125 hE133
  have hL136 : w.heap.size ≤ w132.heap.size := Nat.le_trans hL126 hE133.size
  have hS137 : SH w132 w.heap.size [aOwn fInt 2 a50 c51 st49.1, aOwn fInt 2 a16 c17 st15.1] := SH.ext hS127 hE133
  refine WL.runk 1 [0, 1, 6, 7, 8, 9, 11] [(0, .slice a0' list_0.length c0'), (1, .slice a1' faults_1.length c1'), (6, .slice a16 st15.1.length c17), (7, .bool st15.2.1), (8, .int .i64 st15.2.2), (9, .slice a50 st49.1.length c51), (11, .int .i64 x130)] (by kernel_rfl) ?_
  refine WL.nil ?_
  refine WQ.then_normal (hK129 _ _ _ ?_)
  refine WP.seq (fun K138 hK138 => ?_)
  refine WP.region ?_
  refine WL.runk 2 [0, 1, 6, 7, 8, 9, 11, 47, 48] [(0, .slice a0' list_0.length c0'), (1, .slice a1' faults_1.length c1'), (6, .slice a16 st15.1.length c17), (7, .bool st15.2.1), (8, .int .i64 st15.2.2), (9, .slice a50 st49.1.length c51), (11, .int .i64 x130), (47, .slice a0' list_0.length c0'), (48, .slice a16 st15.1.length c17)] (by kernel_rfl) ?_
  obtain ⟨x139, hx140, hm⟩ := bindE hm
  refine WL.call 66 #[.slice a0' list_0.length c0', .slice a16 st15.1.length c17] rfl rfl (by kernel_rfl) (c_66 n list_0 a0' c0' st15.1 a16 c17 w132 hx140 (Rd.below h0 hb135) hle0 (SH.rd (SH.front 1 hS137)) (SH.le (SH.front 1 hS137)).1) ?_
  rintro _ w141 ⟨rfl, hE142⟩
  refine ⟨_, rfl, ?_⟩
  have hb144 : Ext w w141 := Ext.trans hb135 hE142
  have hL145 : w.heap.size ≤ w141.heap.size := Nat.le_trans hL136 hE142.size
  have hS146 : SH w141 w.heap.size [aOwn fInt 2 a50 c51 st49.1, aOwn fInt 2 a16 c17 st15.1] := SH.ext hS137 hE142
  refine WL.runk 1 [0, 1, 6, 7, 8, 9, 11, 12] [(0, .slice a0' list_0.length c0'), (1, .slice a1' faults_1.length c1'), (6, .slice a16 st15.1.length c17), (7, .bool st15.2.1), (8, .int .i64 st15.2.2), (9, .slice a50 st49.1.length c51), (11, .int .i64 x130), (12, .int .i64 x139)] (by kernel_rfl) ?_
  refine WL.nil ?_
  refine WQ.then_normal (hK138 _ _ _ ?_)
  refine WP.seq (fun K147 hK147 => ?_)
  obtain ⟨x161, hx162, hm⟩ := bindE hm
  refine WP.cut (fun env' w' => env' = [(0, .slice a0' list_0.length c0'), (1, .slice a1' faults_1.length c1'), (6, .slice a16 st15.1.length c17), (7, .bool st15.2.1), (8, .int .i64 st15.2.2), (9, .slice a50 st49.1.length c51), (80, .bool x161)] ∧ Ext w w' ∧ w.heap.size ≤ w'.heap.size ∧ SH w' w.heap.size [aOwn fInt 2 a50 c51 st49.1, aOwn fInt 2 a16 c17 st15.1]) ?_ ?_
  rotate_left
  · clear hx162
    rintro _ w176 ⟨rfl, hb177, hL178, hS179⟩
    refine WQ.then_normal (hK147 _ _ _ ?_)
    obtain ⟨x182, hx183, hm⟩ := bindE hm
    refine WP.cut (fun env' w' => ∃ (a184 : Option Addr) (c185 : Nat), env' = [(0, .slice a0' list_0.length c0'), (1, .slice a1' faults_1.length c1'), (6, .slice a184 x182.1.length c185), (7, .bool x182.2), (8, .int .i64 st15.2.2)] ∧ Ext w w' ∧ w.heap.size ≤ w'.heap.size ∧ SH w' w.heap.size [aOwn fInt 2 a184 c185 x182.1]) ?_ ?_
    rotate_left
    · clear hx183
      rintro _ w188 ⟨a184, c185, rfl, hb189, hL190, hS191⟩
      refine WQ.block_normal ?_
      refine WQ.then_normal (hK36 _ _ _ ?_)
      refine WP.region ?_
      refine WL.runk 3 [0, 1, 6, 7, 8] [(0, .slice a0' list_0.length c0'), (1, .slice a1' faults_1.length c1'), (6, .slice a184 x182.1.length c185), (7, .bool x182.2), (8, .int .i64 (wI64 (st15.2.2 + 1)))] (by kernel_rfl) ?_
      refine WL.nil ?_
      obtain rfl := Option.some.inj hm
      exact WQ.round hK25 ⟨(x182.1, x182.2, (wI64 (st15.2.2 + 1))), _, _, rfl, hb189, hL190, hS191, hl23⟩ (Nat.lt_succ_self _) ⟨rfl, rfl, rfl, rfl, rfl, trivial⟩
    have hm := hx183; clear hx183
    refine WP.cond x161 rfl rfl (fun hc180 => ?_) (fun hc180 => ?_)
    rotate_left
    · have hm := iteF hm hc180
      refine WP.skip ?_
      obtain rfl := Option.some.inj hm
      exact WQ.post' ⟨_, _, rfl, hb177, hL178, (SH.take 1 (SH.front 1 hS179))⟩ ⟨rfl, rfl, rfl, rfl, rfl, trivial⟩
    have hm := iteT hm hc180
    refine WP.seq (fun K187 hK187 => ?_)
    refine WP.region ?_
    refine WL.runk 2 [0, 1, 6, 8] [(0, .slice a0' list_0.length c0'), (1, .slice a1' faults_1.length c1'), (6, .slice a50 st49.1.length c51), (8, .int .i64 st15.2.2)] (by kernel_rfl) ?_
    refine WL.nil ?_
    refine WQ.then_normal (hK187 _ _ _ ?_)
    refine WP.region ?_
    refine WL.runk 1 [0, 1, 6, 7, 8] [(0, .slice a0' list_0.length c0'), (1, .slice a1' faults_1.length c1'), (6, .slice a50 st49.1.length c51), (8, .int .i64 st15.2.2), (7, .bool true)] (by kernel_rfl) ?_
    refine WL.nil ?_
    obtain rfl := Option.some.inj hm
    exact WQ.post' ⟨_, _, rfl, hb177, hL178, (SH.take 1 hS179)⟩ ⟨rfl, rfl, rfl, rfl, rfl, trivial⟩
  have hm := hx162; clear hx162
  refine WP.region ?_
  refine WL.runk 3 [0, 1, 6, 7, 8, 9, 11, 12, 52] [(0, .slice a0' list_0.length c0'), (1, .slice a1' faults_1.length c1'), (6, .slice a16 st15.1.length c17), (7, .bool st15.2.1), (8, .int .i64 st15.2.2), (9, .slice a50 st49.1.length c51), (11, .int .i64 x130), (12, .int .i64 x139), (52, .bool (!st15.2.1))] (by kernel_rfl) ?_
  refine WL.case (!st15.2.1) [52] ⟨rfl, trivial⟩ (fun hc163 => ?_) (fun hc163 => ?_)
  · have hm := iteT hm hc163
    refine WL.runk 28 [0, 1, 6, 7, 8, 9, 80] [(0, .slice a0' list_0.length c0'), (1, .slice a1' faults_1.length c1'), (6, .slice a16 st15.1.length c17), (7, .bool st15.2.1), (8, .int .i64 st15.2.2), (9, .slice a50 st49.1.length c51), (80, .bool true)] (by kernel_rfl) ?_
    refine WL.nil ?_
    obtain rfl := Option.some.inj hm
    exact WQ.post' ⟨rfl, hb144, hL145, hS146⟩ ⟨rfl, rfl, rfl, rfl, rfl, rfl, rfl, trivial⟩
  have hm := iteF hm hc163
  refine WL.runk 5 [0, 1, 6, 7, 8, 9, 11, 12, 57] [(0, .slice a0' list_0.length c0'), (1, .slice a1' faults_1.length c1'), (6, .slice a16 st15.1.length c17), (7, .bool st15.2.1), (8, .int .i64 st15.2.2), (9, .slice a50 st49.1.length c51), (11, .int .i64 x130), (12, .int .i64 x139), (57, .bool (decide (x130 < x139)))] (by kernel_rfl) ?_
  refine WL.case (decide (x130 < x139)) [57] ⟨rfl, trivial⟩ (fun hc164 => ?_) (fun hc164 => ?_)
  · have hm := iteT hm hc164
    refine WL.runk 23 [0, 1, 6, 7, 8, 9, 80] [(0, .slice a0' list_0.length c0'), (1, .slice a1' faults_1.length c1'), (6, .slice a16 st15.1.length c17), (7, .bool st15.2.1), (8, .int .i64 st15.2.2), (9, .slice a50 st49.1.length c51), (80, .bool true)] (by kernel_rfl) ?_
    refine WL.nil ?_
    obtain rfl := Option.some.inj hm
    exact WQ.post' ⟨rfl, hb144, hL145, hS146⟩ ⟨rfl, rfl, rfl, rfl, rfl, rfl, rfl, trivial⟩
  have hm := iteF hm hc164
  refine WL.runk 4 [0, 1, 6, 7, 8, 9, 57, 61] [(0, .slice a0' list_0.length c0'), (1, .slice a1' faults_1.length c1'), (6, .slice a16 st15.1.length c17), (7, .bool st15.2.1), (8, .int .i64 st15.2.2), (9, .slice a50 st49.1.length c51), (57, .bool false), (61, .bool (x130 == x139))] (by kernel_rfl) ?_
  refine WL.case (x130 == x139) [61] ⟨rfl, trivial⟩ (fun hc165 => ?_) (fun hc165 => ?_)
  rotate_left
  · have hm := iteF hm hc165
    refine WL.runk 19 [0, 1, 6, 7, 8, 9, 80] [(0, .slice a0' list_0.length c0'), (1, .slice a1' faults_1.length c1'), (6, .slice a16 st15.1.length c17), (7, .bool st15.2.1), (8, .int .i64 st15.2.2), (9, .slice a50 st49.1.length c51), (80, .bool false)] (by kernel_rfl) ?_
    refine WL.nil ?_
    obtain rfl := Option.some.inj hm
    exact WQ.post' ⟨rfl, hb144, hL145, hS146⟩ ⟨rfl, rfl, rfl, rfl, rfl, rfl, rfl, trivial⟩
  have hm := iteT hm hc165
  refine WL.runk 6 [0, 1, 6, 7, 8, 9, 57, 61, 67] [(0, .slice a0' list_0.length c0'), (1, .slice a1' faults_1.length c1'), (6, .slice a16 st15.1.length c17), (7, .bool st15.2.1), (8, .int .i64 st15.2.2), (9, .slice a50 st49.1.length c51), (57, .bool false), (61, .bool true), (67, .bool (decide ((st49.1.length : Int) < (st15.1.length : Int))))] (by kernel_rfl) ?_
  refine WL.case (decide ((st49.1.length : Int) < (st15.1.length : Int))) [67] ⟨rfl, trivial⟩ (fun hc166 => ?_) (fun hc166 => ?_)
  · have hm := iteT hm hc166
    refine WL.runk 13 [0, 1, 6, 7, 8, 9, 80] [(0, .slice a0' list_0.length c0'), (1, .slice a1' faults_1.length c1'), (6, .slice a16 st15.1.length c17), (7, .bool st15.2.1), (8, .int .i64 st15.2.2), (9, .slice a50 st49.1.length c51), (80, .bool true)] (by kernel_rfl) ?_
    refine WL.nil ?_
    obtain rfl := Option.some.inj hm
    exact WQ.post' ⟨rfl, hb144, hL145, hS146⟩ ⟨rfl, rfl, rfl, rfl, rfl, rfl, rfl, trivial⟩
  have hm := iteF hm hc166
  refine WL.runk 6 [0, 1, 6, 7, 8, 9, 57, 61, 67, 73] [(0, .slice a0' list_0.length c0'), (1, .slice a1' faults_1.length c1'), (6, .slice a16 st15.1.length c17), (7, .bool st15.2.1), (8, .int .i64 st15.2.2), (9, .slice a50 st49.1.length c51), (57, .bool false), (61, .bool true), (67, .bool false), (73, .bool ((st49.1.length : Int) == (st15.1.length : Int)))] (by kernel_rfl) ?_
  refine WL.case ((st49.1.length : Int) == (st15.1.length : Int)) [73] ⟨rfl, trivial⟩ (fun hc167 => ?_) (fun hc167 => ?_)
  rotate_left
  · have hm := iteF hm hc167
    refine WL.runk 7 [0, 1, 6, 7, 8, 9, 80] [(0, .slice a0' list_0.length c0'), (1, .slice a1' faults_1.length c1'), (6, .slice a16 st15.1.length c17), (7, .bool st15.2.1), (8, .int .i64 st15.2.2), (9, .slice a50 st49.1.length c51), (80, .bool false)] (by kernel_rfl) ?_
    refine WL.nil ?_
    obtain rfl := Option.some.inj hm
    exact WQ.post' ⟨rfl, hb144, hL145, hS146⟩ ⟨rfl, rfl, rfl, rfl, rfl, rfl, rfl, trivial⟩
  have hm := iteT hm hc167
  refine WL.runk 2 [0, 1, 6, 7, 8, 9, 57, 61, 67, 73, 74, 75] [(0, .slice a0' list_0.length c0'), (1, .slice a1' faults_1.length c1'), (6, .slice a16 st15.1.length c17), (7, .bool st15.2.1), (8, .int .i64 st15.2.2), (9, .slice a50 st49.1.length c51), (57, .bool false), (61, .bool true), (67, .bool false), (73, .bool true), (74, .slice a50 st49.1.length c51), (75, .slice a16 st15.1.length c17)] (by kernel_rfl) ?_
  obtain ⟨x168, hx169, hm⟩ := bindE hm
  refine WL.call 100 #[.slice a50 st49.1.length c51, .slice a16 st15.1.length c17] rfl rfl (by kernel_rfl) (c_100 n st49.1 a50 c51 st15.1 a16 c17 w141 hx169 (SH.rd (SH.front 0 hS146)) (SH.le (SH.front 0 hS146)).1 (SH.rd (SH.front 1 hS146)) (SH.le (SH.front 1 hS146)).1) ?_
  rintro _ w170 ⟨rfl, hE171⟩
  refine ⟨_, rfl, ?_⟩
  have hb173 : Ext w w170 := Ext.trans hb144 hE171
  have hL174 : w.heap.size ≤ w170.heap.size := Nat.le_trans hL145 hE171.size
  have hS175 : SH w170 w.heap.size [aOwn fInt 2 a50 c51 st49.1, aOwn fInt 2 a16 c17 st15.1] := SH.ext hS146 hE171
  refine WL.runk 4 [0, 1, 6, 7, 8, 9, 80] [(0, .slice a0' list_0.length c0'), (1, .slice a1' faults_1.length c1'), (6, .slice a16 st15.1.length c17), (7, .bool st15.2.1), (8, .int .i64 st15.2.2), (9, .slice a50 st49.1.length c51), (80, .bool x168)] (by kernel_rfl) ?_
  refine WL.nil ?_
  obtain rfl := Option.some.inj hm
  exact WQ.post' ⟨rfl, hb173, hL174, hS175⟩ ⟨rfl, rfl, rfl, rfl, rfl, rfl, rfl, trivial⟩

theorem c_20 (n : Nat) (list_0 : List SRepair) (a0' : Option Addr) (c0' : Nat) (faults_1 : List Int) (a1' : Option Addr) (c1' : Nat) (w : World) {r : List Int × Int} (hm : m_spec_CheapestRepairs n list_0 faults_1 = some r) (h0 : Rd fRepair.ty w a0' list_0) (hle0 : list_0.length ≤ c0') (h1 : Rd fInt.ty w a1' faults_1) (hle1 : faults_1.length ≤ c1') :
    CallV Try.prog 20 #[.slice a0' list_0.length c0', .slice a1' faults_1.length c1'] w (fun v w' => ∃ (ra0 : Option Addr) (rc0 : Nat), v = .tuple #[.slice ra0 r.1.length rc0, .int .i64 r.2] ∧ Ext w w' ∧ SH w' w.heap.size [aOwn fInt 2 ra0 rc0 r.1]) := by
  unfold m_spec_CheapestRepairs at hm
  refine CallV.enter Try.func20 rfl (by kernel_rfl) Try.ntmps20 (env := [(0, .slice a0' list_0.length c0'), (1, .slice a1' faults_1.length c1')]) ⟨rfl, rfl, trivial⟩ ?_
  refine WP.seq (fun K1 hK1 => ?_)
  refine WP.region ?_
  refine WL.runk 2 [0, 1] [(0, .slice a0' list_0.length c0'), (1, .slice a1' faults_1.length c1')] (by kernel_rfl) ?_
  refine WL.nil ?_
  refine WQ.then_normal (hK1 _ _ _ ?_)
  refine WP.seq (fun K2 hK2 => ?_)
  refine WP.region ?_
  refine WL.runk 1 [0, 1, 9] [(0, .slice a0' list_0.length c0'), (1, .slice a1' faults_1.length c1'), (9, .slice a0' list_0.length c0')] (by kernel_rfl) ?_
  refine WL.row fInt 2 ([] : List Int) 0 #[] 10 (by kernel_rfl) rfl rfl rfl rfl rfl rfl rfl ?_
  intro a3 c4 w5 hE6 hR7
  have hb9 : Ext w w5 := Ext.trans (Ext.refl w) hE6
  have hL10 : w.heap.size ≤ w5.heap.size := Nat.le_trans (Nat.le_refl _) hE6.size
  have hS11 : SH w5 w.heap.size [aOwn fInt 2 a3 c4 ([] : List Int)] := SH.add (SH.nil _ _) hE6 (Nat.le_refl _) hR7
  refine WL.runk 1 [0, 1, 9, 10, 11] [(0, .slice a0' list_0.length c0'), (1, .slice a1' faults_1.length c1'), (9, .slice a0' list_0.length c0'), (10, .slice a3 (([] : List Int).length) c4), (11, .slice a1' faults_1.length c1')] (by kernel_rfl) ?_
  obtain ⟨x12, hx13, hm⟩ := bindE hm
  refine WL.call 52 #[.slice a0' list_0.length c0', .slice a3 (([] : List Int).length) c4, .slice a1' faults_1.length c1'] rfl rfl (by kernel_rfl) (c_52 n list_0 a0' c0' ([] : List Int) a3 c4 faults_1 a1' c1' w5 hx13 (Rd.below h0 hb9) hle0 (SH.rd (SH.front 0 hS11)) (SH.le (SH.front 0 hS11)).1 (Rd.below h1 hb9) hle1) ?_
  rintro _ w14 ⟨rfl, hE15⟩
  refine ⟨_, rfl, ?_⟩
  have hb17 : Ext w w14 := Ext.trans hb9 hE15
  have hL18 : w.heap.size ≤ w14.heap.size := Nat.le_trans hL10 hE15.size
  have hS19 : SH w14 w.heap.size [aOwn fInt 2 a3 c4 ([] : List Int)] := SH.ext hS11 hE15
  refine WL.runk 1 [0, 1, 6] [(0, .slice a0' list_0.length c0'), (1, .slice a1' faults_1.length c1'), (6, .int .i64 x12)] (by kernel_rfl) ?_
  refine WL.nil ?_
  refine WQ.then_normal (hK2 _ _ _ ?_)
  refine WP.seq (fun K20 hK20 => ?_)
  refine WP.seq (fun K21 hK21 => ?_)
  refine WP.region ?_
  refine WL.runk 2 [0, 1, 6, 14] [(0, .slice a0' list_0.length c0'), (1, .slice a1' faults_1.length c1'), (6, .int .i64 x12), (14, .bool (x12 != 0))] (by kernel_rfl) ?_
  refine WL.nil ?_
  refine WQ.then_normal (hK21 _ _ _ ?_)
  refine WP.cond (x12 != 0) rfl rfl (fun hc22 => ?_) (fun hc22 => ?_)
  · have hm := iteT hm hc22
    refine WP.seq (fun K23 hK23 => ?_)
    refine WP.region ?_
    refine WL.runk 3 [4, 5] [(4, .slice none 0 0), (5, .int .i64 x12)] (by kernel_rfl) ?_
    refine WL.nil ?_
    refine WQ.then_normal (hK23 _ _ _ ?_)
    refine WP.ret ?_
    refine WQ.then_ret ?_
    obtain rfl := Option.some.inj hm
    have hS25 : SH w14 w.heap.size [aOwn fInt 2 none 0 ([] : List Int), aOwn fInt 2 a3 c4 ([] : List Int)] := SH.nilOwn hS19
    exact WQ.ret2 _ _ rfl rfl rfl ⟨_, _, rfl, hb17, (SH.take 1 hS25)⟩
  have hm := iteF hm hc22
  refine WP.skip ?_
  refine WQ.then_normal (hK20 _ _ _ ?_)
  refine WP.seq (fun K26 hK26 => ?_)
  refine WP.region ?_
  refine WL.runk 2 [17, 18] [(17, .slice a0' list_0.length c0'), (18, .slice a1' faults_1.length c1')] (by kernel_rfl) ?_
  obtain ⟨x27, hx28, hm⟩ := bindE hm
  refine WL.call 57 #[.slice a0' list_0.length c0', .slice a1' faults_1.length c1'] rfl rfl (by kernel_rfl) (c_57 n list_0 a0' c0' faults_1 a1' c1' w14 hx28 (Rd.below h0 hb17) hle0 (Rd.below h1 hb17) hle1) ?_
  rintro _ w32 ⟨a29, c30, rfl, hE33, hR34⟩
  refine ⟨_, rfl, ?_⟩
  have hb35 : Ext w w32 := Ext.trans hb17 hE33
  have hL36 : w.heap.size ≤ w32.heap.size := Nat.le_trans hL18 hE33.size
  have hS37 : SH w32 w.heap.size [aOwn fInt 2 a29 c30 x27.1, aOwn fInt 2 a3 c4 ([] : List Int)] := SH.add hS19 hE33 hL18 hR34
  refine WL.runk 5 [7, 8] [(7, .slice a29 x27.1.length c30), (8, .bool x27.2)] (by kernel_rfl) ?_
  refine WL.nil ?_
  refine WQ.then_normal (hK26 _ _ _ ?_)
  refine WP.seq (fun K38 hK38 => ?_)
  refine WP.seq (fun K39 hK39 => ?_)
  refine WP.region ?_
  refine WL.runk 2 [7, 23] [(7, .slice a29 x27.1.length c30), (23, .bool (!x27.2))] (by kernel_rfl) ?_
  refine WL.nil ?_
  refine WQ.then_normal (hK39 _ _ _ ?_)
  refine WP.cond (!x27.2) rfl rfl (fun hc40 => ?_) (fun hc40 => ?_)
  · have hm := iteT hm hc40
    refine WP.seq (fun K41 hK41 => ?_)
    refine WP.region ?_
    refine WL.runk 2 [4, 5] [(4, .slice none 0 0), (5, .int .i64 3)] (by kernel_rfl) ?_
    refine WL.nil ?_
    refine WQ.then_normal (hK41 _ _ _ ?_)
    refine WP.ret ?_
    refine WQ.then_ret ?_
    obtain rfl := Option.some.inj hm
    have hS43 : SH w32 w.heap.size [aOwn fInt 2 none 0 ([] : List Int), aOwn fInt 2 a29 c30 x27.1, aOwn fInt 2 a3 c4 ([] : List Int)] := SH.nilOwn hS37
    exact WQ.ret2 _ _ rfl rfl rfl ⟨_, _, rfl, hb35, (SH.take 1 hS43)⟩
  have hm := iteF hm hc40
  refine WP.skip ?_
  refine WQ.then_normal (hK38 _ _ _ ?_)
  refine WP.seq (fun K44 hK44 => ?_)
  refine WP.region ?_
  refine WL.runk 3 [4, 5] [(4, .slice a29 x27.1.length c30), (5, .int .i64 0)] (by kernel_rfl) ?_
  refine WL.nil ?_
  refine WQ.then_normal (hK44 _ _ _ ?_)
  refine WP.ret ?_
  obtain rfl := Option.some.inj hm
  exact WQ.ret2 _ _ rfl rfl rfl ⟨_, _, rfl, hb35, (SH.take 1 hS37)⟩

theorem c_101 (n : Nat) (n_1 : Int) (w : World) {r : List Int} (hm : m_slices_Grow_int64_int64 n n_1 = some r)  :
    CallV Try.prog 101 #[.slice none 0 0, .int .i64 n_1] w (fun v w' => ∃ (ra0 : Option Addr) (rc0 : Nat), v = .slice ra0 r.length rc0 ∧ Ext w w' ∧ SH w' w.heap.size [aOwn fInt 2 ra0 rc0 r]) := by
  unfold m_slices_Grow_int64_int64 at hm
  refine CallV.enter Try.func101 rfl (by kernel_rfl) Try.ntmps101 (env := [(0, .slice none 0 0), (1, .int .i64 n_1)]) ⟨rfl, rfl, trivial⟩ ?_
  refine WP.seq (fun K1 hK1 => ?_)
  refine WP.region ?_
  refine WL.runk 1 [0, 1] [(0, .slice none 0 0), (1, .int .i64 n_1)] (by kernel_rfl) ?_
  refine WL.nil ?_
  refine WQ.then_normal (hK1 _ _ _ ?_)
  refine WP.seq (fun K2 hK2 => ?_)
  refine WP.seq (fun K3 hK3 => ?_)
  refine WP.region ?_
  refine WL.runk 2 [0, 1, 6] [(0, .slice none 0 0), (1, .int .i64 n_1), (6, .bool (decide (n_1 < 0)))] (by kernel_rfl) ?_
  refine WL.nil ?_
  refine WQ.then_normal (hK3 _ _ _ ?_)
  obtain ⟨x5, hx6, hm⟩ := bindE hm
  refine WP.cut (fun env' w' => env' = [(0, .slice none 0 0), (1, .int .i64 n_1)] ∧ Ext w w' ∧ w.heap.size ≤ w'.heap.size ∧ SH w' w.heap.size []) ?_ ?_
  · have hm := hx6; clear hx6
    refine WP.cond (decide (n_1 < 0)) rfl rfl (fun hc4 => ?_) (fun hc4 => ?_)
    · have hm := iteT hm hc4
      cases hm
    have hm := iteF hm hc4
    refine WP.skip ?_
    obtain rfl := Option.some.inj hm
    exact WQ.post' ⟨rfl, (Ext.refl w), (Nat.le_refl _), (SH.nil _ _)⟩ ⟨rfl, rfl, trivial⟩
  clear hx6
  rintro _ w7 ⟨rfl, hb8, hL9, hS10⟩
  refine WQ.then_normal (hK2 _ _ _ ?_)
  refine WP.seq (fun K11 hK11 => ?_)
  refine WP.seq (fun K12 hK12 => ?_)
  refine WP.region ?_
  refine WL.runk 8 [0, 1] [(0, .slice none 0 0), (1, .int .i64 (wI64 (n_1 - (wI64 (0 - 0)))))] (by kernel_rfl) ?_
  refine WL.nil ?_
  refine WQ.then_normal (hK12 _ _ _ ?_)
  refine WP.seq (fun K13 hK13 => ?_)
  refine WP.region ?_
  refine WL.runk 2 [0, 1, 16] [(0, .slice none 0 0), (1, .int .i64 (wI64 (n_1 - (wI64 (0 - 0))))), (16, .bool (decide ((wI64 (n_1 - (wI64 (0 - 0)))) > 0)))] (by kernel_rfl) ?_
  refine WL.nil ?_
  refine WQ.then_normal (hK13 _ _ _ ?_)
  obtain ⟨x29, hx30, hm⟩ := bindE hm
  refine WP.cut (fun env' w' => ∃ (a31 : Option Addr) (c32 : Nat), env' = [(0, .slice a31 x29.length c32)] ∧ Ext w w' ∧ w.heap.size ≤ w'.heap.size ∧ SH w' w.heap.size [aOwn fInt 2 a31 c32 x29]) ?_ ?_
  rotate_left
  · clear hx30
    rintro _ w50 ⟨a31, c32, rfl, hb51, hL52, hS53⟩
    refine WQ.then_normal (hK11 _ _ _ ?_)
    refine WP.seq (fun K54 hK54 => ?_)
    refine WP.region ?_
    refine WL.runk 2 [4] [(4, .slice a31 x29.length c32)] (by kernel_rfl) ?_
    refine WL.nil ?_
    refine WQ.then_normal (hK54 _ _ _ ?_)
    refine WP.ret ?_
    obtain rfl := Option.some.inj hm
    exact WQ.ret1 _ rfl rfl ⟨_, _, rfl, hb51, hS53⟩
  have hm := hx30; clear hx30
  refine WP.cond (decide ((wI64 (n_1 - (wI64 (0 - 0)))) > 0)) rfl rfl (fun hc14 => ?_) (fun hc14 => ?_)
  rotate_left
  · have hm := iteF hm hc14
    refine WP.skip ?_
    have hS49 : SH w7 w.heap.size [aOwn fInt 2 none 0 ([] : List Int)] := SH.nilOwn hS10
    obtain rfl := Option.some.inj hm
    exact WQ.post' ⟨_, _, rfl, hb8, hL9, hS49⟩ ⟨rfl, trivial⟩
  have hm := iteT hm hc14
  refine WP.region ?_
  refine WL.runk 5 [0, 20, 21] [(0, .slice none 0 0), (20, .slice none 0 0), (21, .int .i64 (wI64 (n_1 - (wI64 (0 - 0)))))] (by kernel_rfl) ?_
  obtain ⟨x34, hx35, hm⟩ := bindE hm
  refine WL.growNil (F := fInt) 0 22 hx35 rfl rfl rfl Try.underlying25 Try.underlying3 (info2).1 (info2).2.2.1 (info2).2.1 (info2).2.2.2 rfl hc14 rfl rfl rfl rfl ?_
  intro a36 c37 w38 hE39 hR40
  have hb42 : Ext w w38 := Ext.trans hb8 hE39
  have hL43 : w.heap.size ≤ w38.heap.size := Nat.le_trans hL9 hE39.size
  have hS44 : SH w38 w.heap.size [aOwn fInt 2 a36 c37 x34] := SH.add hS10 hE39 hL9 hR40
  refine WL.runk 2 [22, 24] [(22, .slice a36 x34.length c37), (24, .int .i64 0)] (by kernel_rfl) ?_
  obtain ⟨x45, hx46, hm⟩ := bindE hm
  refine WL.shrink (F := fInt) 25 (SH.front 0 hS44) hx46 rfl rfl Try.underlying25 (info2).1 (info2).2.1 ⟨_, rfl⟩ rfl rfl rfl rfl ?_
  intro hS47
  refine WL.runk 1 [0] [(0, .slice a36 x45.length c37)] (by kernel_rfl) ?_
  refine WL.nil ?_
  obtain rfl := Option.some.inj hm
  exact WQ.post' ⟨_, _, rfl, hb42, hL43, hS47⟩ ⟨rfl, trivial⟩

theorem c_58 (n : Nat) (slices_0 : List (List Int)) (a0' : Option Addr) (c0' : Nat) (w : World) {r : List Int} (hm : m_slices_Concat_int64_int64 n slices_0 = some r) (h0 : Rd fRow.ty w a0' slices_0) (_hle0 : slices_0.length ≤ c0') :
    CallV Try.prog 58 #[.slice a0' slices_0.length c0'] w (fun v w' => ∃ (ra0 : Option Addr) (rc0 : Nat), v = .slice ra0 r.length rc0 ∧ Ext w w' ∧ SH w' w.heap.size [aOwn fInt 2 ra0 rc0 r]) := by
  unfold m_slices_Concat_int64_int64 at hm
  refine CallV.enter Try.func58 rfl (by kernel_rfl) Try.ntmps58 (env := [(0, .slice a0' slices_0.length c0')]) ⟨rfl, trivial⟩ ?_
  refine WP.seq (fun K1 hK1 => ?_)
  refine WP.region ?_
  refine WL.runk 1 [0] [(0, .slice a0' slices_0.length c0')] (by kernel_rfl) ?_
  refine WL.nil ?_
  refine WQ.then_normal (hK1 _ _ _ ?_)
  refine WP.seq (fun K2 hK2 => ?_)
  refine WP.region ?_
  refine WL.runk 1 [0, 3] [(0, .slice a0' slices_0.length c0'), (3, .int .i64 0)] (by kernel_rfl) ?_
  refine WL.nil ?_
  refine WQ.then_normal (hK2 _ _ _ ?_)
  refine WP.seq (fun K3 hK3 => ?_)
  refine WP.seq (fun K4 hK4 => ?_)
  refine WP.region ?_
  refine WL.runk 3 [0, 3, 9, 10, 11] [(0, .slice a0' slices_0.length c0'), (3, .int .i64 0), (9, .slice a0' slices_0.length c0'), (10, .int .i64 (slices_0.length : Int)), (11, .int .i64 0)] (by kernel_rfl) ?_
  refine WL.nil ?_
  refine WQ.then_normal (hK4 _ _ _ ?_)
  refine WP.block ?_
  obtain ⟨t16, ht17, hm⟩ := bindE hm
  have hmo11 := hm; clear hm
  refine WP.sub [(0, .slice a0' slices_0.length c0'), (3, .int .i64 0), (9, .slice a0' slices_0.length c0'), (10, .int .i64 (slices_0.length : Int)), (11, .int .i64 0)] ⟨rfl, rfl, rfl, rfl, rfl, trivial⟩ ?_
  refine WP.loop (fun n' env' w' => ∃ (st5 : Int × Int) , env' = [(0, .slice a0' slices_0.length c0'), (3, .int .i64 st5.1), (9, .slice a0' slices_0.length c0'), (10, .int .i64 (slices_0.length : Int)), (11, .int .i64 st5.2)] ∧ Ext w w' ∧ w.heap.size ≤ w'.heap.size ∧ SH w' w.heap.size [] ∧ loopN (m_slices_Concat_int64_int64_l1 n slices_0) n' st5 = some t16) n ⟨(0, 0), rfl, (Ext.refl w), (Nat.le_refl _), (SH.nil _ _), ht17⟩ ?_
  rintro n13 _ w6 ⟨st5, rfl, hb7, hL8, hS9, hl10⟩ K12 hK12
  obtain ⟨n14, s15, rfl, hm, hl10⟩ := loopN_some hl10
  unfold m_slices_Concat_int64_int64_l1 at hm
  refine WP.seq (fun K18 hK18 => ?_)
  refine WP.region ?_
  refine WL.runk 1 [0, 3, 9, 10, 11, 12] [(0, .slice a0' slices_0.length c0'), (3, .int .i64 st5.1), (9, .slice a0' slices_0.length c0'), (10, .int .i64 (slices_0.length : Int)), (11, .int .i64 st5.2), (12, .bool (decide (st5.2 < (slices_0.length : Int))))] (by kernel_rfl) ?_
  refine WL.nil ?_
  refine WQ.then_normal (hK18 _ _ _ ?_)
  refine WP.seq (fun K19 hK19 => ?_)
  refine WP.cond (decide (st5.2 < (slices_0.length : Int))) rfl rfl (fun hc20 => ?_) (fun hc20 => ?_)
  · have hm := iteT hm hc20
    refine WP.skip ?_
    refine WQ.then_normal (hK19 _ _ _ ?_)
    refine WP.seq (fun K21 hK21 => ?_)
    refine WP.block ?_
    refine WP.seq (fun K22 hK22 => ?_)
    refine WP.region ?_
    obtain ⟨x23, hx24, hm⟩ := bindE hm
    obtain ⟨a25, c26, hc30, hR27, hle28⟩ := nest_Row h0 hx24
    refine WL.st (.pointer (some (at_ a0' (Int.toNat st5.2 * 1)))) (ST.index (T := fRow.ty) (xs := slices_0) (Rd.below h0 hb7) hx24 rfl rfl rfl Try.underlying93 (info25).1 (info25).2.1) rfl rfl rfl ?_
    refine WL.st (.slice a25 x23.length c26) (ST.load (cell_ext ((cells_ext hc30 hb7) 0 _ rfl)) rfl rfl Try.underlying25 rfl) rfl rfl rfl ?_
    refine WL.runk 1 [0, 3, 5, 9, 10, 11] [(0, .slice a0' slices_0.length c0'), (3, .int .i64 st5.1), (9, .slice a0' slices_0.length c0'), (10, .int .i64 (slices_0.length : Int)), (11, .int .i64 st5.2), (5, .slice a25 x23.length c26)] (by kernel_rfl) ?_
    refine WL.nil ?_
    refine WQ.then_normal (hK22 _ _ _ ?_)
    refine WP.seq (fun K31 hK31 => ?_)
    refine WP.region ?_
    refine WL.runk 5 [0, 3, 9, 10, 11] [(0, .slice a0' slices_0.length c0'), (3, .int .i64 (wI64 (st5.1 + (x23.length : Int)))), (9, .slice a0' slices_0.length c0'), (10, .int .i64 (slices_0.length : Int)), (11, .int .i64 st5.2)] (by kernel_rfl) ?_
    refine WL.nil ?_
    refine WQ.then_normal (hK31 _ _ _ ?_)
    refine WP.seq (fun K32 hK32 => ?_)
    refine WP.region ?_
    refine WL.runk 2 [0, 3, 9, 10, 11, 20] [(0, .slice a0' slices_0.length c0'), (3, .int .i64 (wI64 (st5.1 + (x23.length : Int)))), (9, .slice a0' slices_0.length c0'), (10, .int .i64 (slices_0.length : Int)), (11, .int .i64 st5.2), (20, .bool (decide ((wI64 (st5.1 + (x23.length : Int))) < 0)))] (by kernel_rfl) ?_
    refine WL.nil ?_
    refine WQ.then_normal (hK32 _ _ _ ?_)
    obtain ⟨x34, hx35, hm⟩ := bindE hm
    refine WP.cut (fun env' w' => env' = [(0, .slice a0' slices_0.length c0'), (3, .int .i64 (wI64 (st5.1 + (x23.length : Int)))), (9, .slice a0' slices_0.length c0'), (10, .int .i64 (slices_0.length : Int)), (11, .int .i64 st5.2)] ∧ Ext w w' ∧ w.heap.size ≤ w'.heap.size ∧ SH w' w.heap.size []) ?_ ?_
    · have hm := hx35; clear hx35
      refine WP.cond (decide ((wI64 (st5.1 + (x23.length : Int))) < 0)) rfl rfl (fun hc33 => ?_) (fun hc33 => ?_)
      · have hm := iteT hm hc33
        cases hm
      have hm := iteF hm hc33
      refine WP.skip ?_
      obtain rfl := Option.some.inj hm
      exact WQ.post' ⟨rfl, hb7, hL8, hS9⟩ ⟨rfl, rfl, rfl, rfl, rfl, trivial⟩
    clear hx35
    rintro _ w36 ⟨rfl, hb37, hL38, hS39⟩
    refine WQ.block_normal ?_
    refine WQ.then_normal (hK21 _ _ _ ?_)
    refine WP.region ?_
    refine WL.runk 2 [0, 3, 9, 10, 11] [(0, .slice a0' slices_0.length c0'), (3, .int .i64 (wI64 (st5.1 + (x23.length : Int)))), (9, .slice a0' slices_0.length c0'), (10, .int .i64 (slices_0.length : Int)), (11, .int .i64 (wI64 (st5.2 + 1)))] (by kernel_rfl) ?_
    refine WL.nil ?_
    obtain rfl := Option.some.inj hm
    exact WQ.round hK12 ⟨((wI64 (st5.1 + (x23.length : Int))), (wI64 (st5.2 + 1))), rfl, hb37, hL38, hS39, hl10⟩ (Nat.lt_succ_self _) ⟨rfl, rfl, rfl, rfl, rfl, trivial⟩
  have hm := iteF hm hc20
  refine WP.exit ?_
  refine WQ.then_exit ?_
  refine WQ.then_exit ?_
  refine WQ.block_here ?_
  obtain rfl := Option.some.inj hm
  obtain rfl := afterN_done hl10
  have hm := hmo11
  refine WQ.then_normal (hK3 _ _ _ ?_)
  refine WP.seq (fun K40 hK40 => ?_)
  refine WP.region ?_
  refine WL.runk 1 [0, 23] [(0, .slice a0' slices_0.length c0'), (23, .int .i64 st5.1)] (by kernel_rfl) ?_
  obtain ⟨x41, hx42, hm⟩ := bindE hm
  refine WL.call 101 #[.slice none 0 0, .int .i64 st5.1] rfl rfl (by kernel_rfl) (c_101 n st5.1 w6 hx42 ) ?_
  rintro _ w46 ⟨a43, c44, rfl, hE47, hR48⟩
  refine ⟨_, rfl, ?_⟩
  have hb49 : Ext w w46 := Ext.trans hb7 hE47
  have hL50 : w.heap.size ≤ w46.heap.size := Nat.le_trans hL8 hE47.size
  have hS51 : SH w46 w.heap.size [aOwn fInt 2 a43 c44 x41] := SH.add hS9 hE47 hL8 hR48
  refine WL.runk 1 [0, 6] [(0, .slice a0' slices_0.length c0'), (6, .slice a43 x41.length c44)] (by kernel_rfl) ?_
  refine WL.nil ?_
  refine WQ.then_normal (hK40 _ _ _ ?_)
  refine WP.seq (fun K52 hK52 => ?_)
  refine WP.seq (fun K53 hK53 => ?_)
  refine WP.region ?_
  refine WL.runk 3 [6, 25, 26, 27] [(6, .slice a43 x41.length c44), (25, .slice a0' slices_0.length c0'), (26, .int .i64 (slices_0.length : Int)), (27, .int .i64 0)] (by kernel_rfl) ?_
  refine WL.nil ?_
  refine WQ.then_normal (hK53 _ _ _ ?_)
  refine WP.block ?_
  obtain ⟨t68, ht69, hm⟩ := bindE hm
  have hmo63 := hm; clear hm
  refine WP.sub [(6, .slice a43 x41.length c44), (25, .slice a0' slices_0.length c0'), (26, .int .i64 (slices_0.length : Int)), (27, .int .i64 0)] ⟨rfl, rfl, rfl, rfl, trivial⟩ ?_
  refine WP.loop (fun n' env' w' => ∃ (st54 : List Int × Int) (a55 : Option Addr) (c56 : Nat), env' = [(6, .slice a55 st54.1.length c56), (25, .slice a0' slices_0.length c0'), (26, .int .i64 (slices_0.length : Int)), (27, .int .i64 st54.2)] ∧ Ext w w' ∧ w.heap.size ≤ w'.heap.size ∧ SH w' w.heap.size [aOwn fInt 2 a55 c56 st54.1] ∧ loopN (m_slices_Concat_int64_int64_l2 n slices_0) n' st54 = some t68) n ⟨(x41, 0), _, _, rfl, hb49, hL50, hS51, ht69⟩ ?_
  rintro n65 _ w58 ⟨st54, a55, c56, rfl, hb59, hL60, hS61, hl62⟩ K64 hK64
  obtain ⟨n66, s67, rfl, hm, hl62⟩ := loopN_some hl62
  unfold m_slices_Concat_int64_int64_l2 at hm
  refine WP.seq (fun K70 hK70 => ?_)
  refine WP.region ?_
  refine WL.runk 1 [6, 25, 26, 27, 28] [(6, .slice a55 st54.1.length c56), (25, .slice a0' slices_0.length c0'), (26, .int .i64 (slices_0.length : Int)), (27, .int .i64 st54.2), (28, .bool (decide (st54.2 < (slices_0.length : Int))))] (by kernel_rfl) ?_
  refine WL.nil ?_
  refine WQ.then_normal (hK70 _ _ _ ?_)
  refine WP.seq (fun K71 hK71 => ?_)
  refine WP.cond (decide (st54.2 < (slices_0.length : Int))) rfl rfl (fun hc72 => ?_) (fun hc72 => ?_)
  rotate_left
  · have hm := iteF hm hc72
    refine WP.exit ?_
    refine WQ.then_exit ?_
    refine WQ.then_exit ?_
    refine WQ.block_here ?_
    obtain rfl := Option.some.inj hm
    obtain rfl := afterN_done hl62
    have hm := hmo63
    refine WQ.then_normal (hK52 _ _ _ ?_)
    refine WP.seq (fun K92 hK92 => ?_)
    refine WP.region ?_
    refine WL.runk 2 [2] [(2, .slice a55 st54.1.length c56)] (by kernel_rfl) ?_
    refine WL.nil ?_
    refine WQ.then_normal (hK92 _ _ _ ?_)
    refine WP.ret ?_
    obtain rfl := Option.some.inj hm
    exact WQ.ret1 _ rfl rfl ⟨_, _, rfl, hb59, hS61⟩
  have hm := iteT hm hc72
  refine WP.skip ?_
  refine WQ.then_normal (hK71 _ _ _ ?_)
  refine WP.seq (fun K73 hK73 => ?_)
  refine WP.block ?_
  refine WP.seq (fun K74 hK74 => ?_)
  refine WP.region ?_
  obtain ⟨x75, hx76, hm⟩ := bindE hm
  obtain ⟨a77, c78, hc82, hR79, hle80⟩ := nest_Row h0 hx76
  refine WL.st (.pointer (some (at_ a0' (Int.toNat st54.2 * 1)))) (ST.index (T := fRow.ty) (xs := slices_0) (Rd.below h0 hb59) hx76 rfl rfl rfl Try.underlying93 (info25).1 (info25).2.1) rfl rfl rfl ?_
  refine WL.st (.slice a77 x75.length c78) (ST.load (cell_ext ((cells_ext hc82 hb59) 0 _ rfl)) rfl rfl Try.underlying25 rfl) rfl rfl rfl ?_
  refine WL.runk 1 [6, 8, 25, 26, 27] [(6, .slice a55 st54.1.length c56), (25, .slice a0' slices_0.length c0'), (26, .int .i64 (slices_0.length : Int)), (27, .int .i64 st54.2), (8, .slice a77 x75.length c78)] (by kernel_rfl) ?_
  refine WL.nil ?_
  refine WQ.then_normal (hK74 _ _ _ ?_)
  refine WP.region ?_
  refine WL.runk 2 [25, 26, 27, 31, 32] [(25, .slice a0' slices_0.length c0'), (26, .int .i64 (slices_0.length : Int)), (27, .int .i64 st54.2), (31, .slice a55 st54.1.length c56), (32, .slice a77 x75.length c78)] (by kernel_rfl) ?_
  obtain ⟨x83, hx84, hm⟩ := bindE hm
  refine WL.append (F := fInt) (xs := st54.1) (ys := x75) 33 (SH.front 0 hS61) hL60 (Rd.below hR79 hb59) hx84 rfl rfl rfl Try.underlying25 (info2).1 (info2).2.2.1 (info2).2.1 (info2).2.2.2 rfl rfl rfl rfl rfl ?_
  intro a85 c86 w87 hB88 hS89
  have hb90 : Ext w w87 := Below.trans hb59 hB88
  have hL91 : w.heap.size ≤ w87.heap.size := Nat.le_trans hL60 hB88.size
  refine WL.runk 1 [6, 25, 26, 27] [(25, .slice a0' slices_0.length c0'), (26, .int .i64 (slices_0.length : Int)), (27, .int .i64 st54.2), (6, .slice a85 x83.length c86)] (by kernel_rfl) ?_
  refine WL.nil ?_
  refine WQ.block_normal ?_
  refine WQ.then_normal (hK73 _ _ _ ?_)
  refine WP.region ?_
  refine WL.runk 2 [6, 25, 26, 27] [(25, .slice a0' slices_0.length c0'), (26, .int .i64 (slices_0.length : Int)), (27, .int .i64 (wI64 (st54.2 + 1))), (6, .slice a85 x83.length c86)] (by kernel_rfl) ?_
  refine WL.nil ?_
  obtain rfl := Option.some.inj hm
  exact WQ.round hK64 ⟨(x83, (wI64 (st54.2 + 1))), _, _, rfl, hb90, hL91, hS89, hl62⟩ (Nat.lt_succ_self _) ⟨rfl, rfl, rfl, rfl, trivial⟩

theorem c_21 (n : Nat) (list_0 : List SRepair) (a0' : Option Addr) (c0' : Nat) (some_1 : List Int) (a1' : Option Addr) (c1' : Nat) (faults_2 : List Int) (a2' : Option Addr) (c2' : Nat) (w : World) {r : List Int × Int} (hm : m_impl_NeedlessRepairs n list_0 some_1 faults_2 = some r) (h0 : Rd fRepair.ty w a0' list_0) (hle0 : list_0.length ≤ c0') (h1 : Rd fInt.ty w a1' some_1) (hle1 : some_1.length ≤ c1') (h2 : Rd fInt.ty w a2' faults_2) (hle2 : faults_2.length ≤ c2') :
    CallV Try.prog 21 #[.slice a0' list_0.length c0', .slice a1' some_1.length c1', .slice a2' faults_2.length c2'] w (fun v w' => ∃ (ra0 : Option Addr) (rc0 : Nat), v = .tuple #[.slice ra0 r.1.length rc0, .int .i64 r.2] ∧ Ext w w' ∧ SH w' w.heap.size [aOwn fInt 2 ra0 rc0 r.1]) := by
  unfold m_impl_NeedlessRepairs at hm
  refine CallV.enter Try.func21 rfl (by kernel_rfl) Try.ntmps21 (env := [(0, .slice a0' list_0.length c0'), (1, .slice a1' some_1.length c1'), (2, .slice a2' faults_2.length c2')]) ⟨rfl, rfl, rfl, trivial⟩ ?_
  refine WP.seq (fun K1 hK1 => ?_)
  refine WP.region ?_
  refine WL.runk 2 [0, 1, 2] [(0, .slice a0' list_0.length c0'), (1, .slice a1' some_1.length c1'), (2, .slice a2' faults_2.length c2')] (by kernel_rfl) ?_
  refine WL.nil ?_
  refine WQ.then_normal (hK1 _ _ _ ?_)
  refine WP.seq (fun K2 hK2 => ?_)
  refine WP.region ?_
  refine WL.runk 3 [0, 1, 2, 12, 13, 14] [(0, .slice a0' list_0.length c0'), (1, .slice a1' some_1.length c1'), (2, .slice a2' faults_2.length c2'), (12, .slice a0' list_0.length c0'), (13, .slice a1' some_1.length c1'), (14, .slice a2' faults_2.length c2')] (by kernel_rfl) ?_
  obtain ⟨x3, hx4, hm⟩ := bindE hm
  refine WL.call 50 #[.slice a0' list_0.length c0', .slice a1' some_1.length c1', .slice a2' faults_2.length c2'] rfl rfl (by kernel_rfl) (c_50 n list_0 a0' c0' some_1 a1' c1' faults_2 a2' c2' w hx4 (Rd.below h0 (Ext.refl w)) hle0 (Rd.below h1 (Ext.refl w)) hle1 (Rd.below h2 (Ext.refl w)) hle2) ?_
  rintro _ w5 ⟨rfl, hE6⟩
  refine ⟨_, rfl, ?_⟩
  have hb8 : Ext w w5 := Ext.trans (Ext.refl w) hE6
  have hL9 : w.heap.size ≤ w5.heap.size := Nat.le_trans (Nat.le_refl _) hE6.size
  have hS10 : SH w5 w.heap.size [] := SH.ext (SH.nil _ _) hE6
  refine WL.runk 1 [0, 1, 2, 8] [(0, .slice a0' list_0.length c0'), (1, .slice a1' some_1.length c1'), (2, .slice a2' faults_2.length c2'), (8, .int .i64 x3)] (by kernel_rfl) ?_
  refine WL.nil ?_
  refine WQ.then_normal (hK2 _ _ _ ?_)
  refine WP.seq (fun K11 hK11 => ?_)
  refine WP.block ?_
  refine WP.seq (fun K12 hK12 => ?_)
  refine WP.region ?_
  refine WL.runk 3 [0, 1, 2, 8, 16] [(0, .slice a0' list_0.length c0'), (1, .slice a1' some_1.length c1'), (2, .slice a2' faults_2.length c2'), (8, .int .i64 x3), (16, .bool (x3 != 0))] (by kernel_rfl) ?_
  refine WL.nil ?_
  refine WQ.then_normal (hK12 _ _ _ ?_)
  refine WP.cond (x3 != 0) rfl rfl (fun hc13 => ?_) (fun hc13 => ?_)
  · have hm := iteT hm hc13
    refine WP.seq (fun K14 hK14 => ?_)
    refine WP.region ?_
    refine WL.runk 3 [6, 7] [(6, .slice none 0 0), (7, .int .i64 x3)] (by kernel_rfl) ?_
    refine WL.nil ?_
    refine WQ.then_normal (hK14 _ _ _ ?_)
    refine WP.ret ?_
    refine WQ.block_ret ?_
    refine WQ.then_ret ?_
    obtain rfl := Option.some.inj hm
    have hS16 : SH w5 w.heap.size [aOwn fInt 2 none 0 ([] : List Int)] := SH.nilOwn hS10
    exact WQ.ret2 _ _ rfl rfl rfl ⟨_, _, rfl, hb8, hS16⟩
  have hm := iteF hm hc13
  refine WP.seq (fun K17 hK17 => ?_)
  refine WP.region ?_
  refine WL.runk 3 [0, 1, 2, 21, 22, 23] [(0, .slice a0' list_0.length c0'), (1, .slice a1' some_1.length c1'), (2, .slice a2' faults_2.length c2'), (21, .slice a0' list_0.length c0'), (22, .slice a1' some_1.length c1'), (23, .slice a2' faults_2.length c2')] (by kernel_rfl) ?_
  obtain ⟨x18, hx19, hm⟩ := bindE hm
  refine WL.call 51 #[.slice a0' list_0.length c0', .slice a1' some_1.length c1', .slice a2' faults_2.length c2'] rfl rfl (by kernel_rfl) (c_51 n list_0 a0' c0' some_1 a1' c1' faults_2 a2' c2' w5 hx19 (Rd.below h0 hb8) hle0 (Rd.below h1 hb8) hle1 (Rd.below h2 hb8) hle2) ?_
  rintro _ w20 ⟨rfl, hE21⟩
  refine ⟨_, rfl, ?_⟩
  have hb23 : Ext w w20 := Ext.trans hb8 hE21
  have hL24 : w.heap.size ≤ w20.heap.size := Nat.le_trans hL9 hE21.size
  have hS25 : SH w20 w.heap.size [] := SH.ext hS10 hE21
  refine WL.runk 2 [0, 1, 2, 20] [(0, .slice a0' list_0.length c0'), (1, .slice a1' some_1.length c1'), (2, .slice a2' faults_2.length c2'), (20, .bool (!x18))] (by kernel_rfl) ?_
  refine WL.nil ?_
  refine WQ.then_normal (hK17 _ _ _ ?_)
  refine WP.cond (!x18) rfl rfl (fun hc26 => ?_) (fun hc26 => ?_)
  · have hm := iteT hm hc26
    refine WP.seq (fun K27 hK27 => ?_)
    refine WP.region ?_
    refine WL.runk 2 [6, 7] [(6, .slice none 0 0), (7, .int .i64 6)] (by kernel_rfl) ?_
    refine WL.nil ?_
    refine WQ.then_normal (hK27 _ _ _ ?_)
    refine WP.ret ?_
    refine WQ.block_ret ?_
    refine WQ.then_ret ?_
    obtain rfl := Option.some.inj hm
    have hS29 : SH w20 w.heap.size [aOwn fInt 2 none 0 ([] : List Int)] := SH.nilOwn hS25
    exact WQ.ret2 _ _ rfl rfl rfl ⟨_, _, rfl, hb23, hS29⟩
  have hm := iteF hm hc26
  refine WP.skip ?_
  refine WQ.block_normal ?_
  refine WQ.then_normal (hK11 _ _ _ ?_)
  refine WP.seq (fun K30 hK30 => ?_)
  refine WP.region ?_
  refine WL.row fInt 2 ([] : List Int) 0 #[] 26 (by kernel_rfl) rfl rfl rfl rfl rfl rfl rfl ?_
  intro a31 c32 w33 hE34 hR35
  have hb37 : Ext w w33 := Ext.trans hb23 hE34
  have hL38 : w.heap.size ≤ w33.heap.size := Nat.le_trans hL24 hE34.size
  have hS39 : SH w33 w.heap.size [aOwn fInt 2 a31 c32 ([] : List Int)] := SH.add hS25 hE34 hL24 hR35
  refine WL.runk 1 [0, 1, 2, 9] [(0, .slice a0' list_0.length c0'), (1, .slice a1' some_1.length c1'), (2, .slice a2' faults_2.length c2'), (9, .slice a31 (([] : List Int).length) c32)] (by kernel_rfl) ?_
  refine WL.nil ?_
  refine WQ.then_normal (hK30 _ _ _ ?_)
  refine WP.seq (fun K40 hK40 => ?_)
  refine WP.seq (fun K41 hK41 => ?_)
  refine WP.region ?_
  refine WL.runk 3 [0, 1, 2, 9, 27, 28, 29] [(0, .slice a0' list_0.length c0'), (1, .slice a1' some_1.length c1'), (2, .slice a2' faults_2.length c2'), (9, .slice a31 (([] : List Int).length) c32), (27, .slice a1' some_1.length c1'), (28, .int .i64 (some_1.length : Int)), (29, .int .i64 0)] (by kernel_rfl) ?_
  refine WL.nil ?_
  refine WQ.then_normal (hK41 _ _ _ ?_)
  refine WP.block ?_
  obtain ⟨t56, ht57, hm⟩ := bindE hm
  have hmo51 := hm; clear hm
  refine WP.sub [(0, .slice a0' list_0.length c0'), (1, .slice a1' some_1.length c1'), (2, .slice a2' faults_2.length c2'), (9, .slice a31 (([] : List Int).length) c32), (27, .slice a1' some_1.length c1'), (28, .int .i64 (some_1.length : Int)), (29, .int .i64 0)] ⟨rfl, rfl, rfl, rfl, rfl, rfl, rfl, trivial⟩ ?_
  refine WP.loop (fun n' env' w' => ∃ (st42 : List Int × Int) (a43 : Option Addr) (c44 : Nat), env' = [(0, .slice a0' list_0.length c0'), (1, .slice a1' some_1.length c1'), (2, .slice a2' faults_2.length c2'), (9, .slice a43 st42.1.length c44), (27, .slice a1' some_1.length c1'), (28, .int .i64 (some_1.length : Int)), (29, .int .i64 st42.2)] ∧ Ext w w' ∧ w.heap.size ≤ w'.heap.size ∧ SH w' w.heap.size [aOwn fInt 2 a43 c44 st42.1] ∧ loopN (m_impl_NeedlessRepairs_l1 n list_0 some_1 faults_2) n' st42 = some t56) n ⟨(([] : List Int), 0), _, _, rfl, hb37, hL38, hS39, ht57⟩ ?_
  rintro n53 _ w46 ⟨st42, a43, c44, rfl, hb47, hL48, hS49, hl50⟩ K52 hK52
  obtain ⟨n54, s55, rfl, hm, hl50⟩ := loopN_some hl50
  unfold m_impl_NeedlessRepairs_l1 at hm
  refine WP.seq (fun K58 hK58 => ?_)
  refine WP.region ?_
  refine WL.runk 1 [0, 1, 2, 9, 27, 28, 29, 30] [(0, .slice a0' list_0.length c0'), (1, .slice a1' some_1.length c1'), (2, .slice a2' faults_2.length c2'), (9, .slice a43 st42.1.length c44), (27, .slice a1' some_1.length c1'), (28, .int .i64 (some_1.length : Int)), (29, .int .i64 st42.2), (30, .bool (decide (st42.2 < (some_1.length : Int))))] (by kernel_rfl) ?_
  refine WL.nil ?_
  refine WQ.then_normal (hK58 _ _ _ ?_)
  refine WP.seq (fun K59 hK59 => ?_)
  refine WP.cond (decide (st42.2 < (some_1.length : Int))) rfl rfl (fun hc60 => ?_) (fun hc60 => ?_)
  rotate_left
  · have hm := iteF hm hc60
    refine WP.exit ?_
    refine WQ.then_exit ?_
    refine WQ.then_exit ?_
    refine WQ.block_here ?_
    obtain rfl := Option.some.inj hm
    obtain rfl := afterN_done hl50
    have hm := hmo51
    refine WQ.then_normal (hK40 _ _ _ ?_)
    refine WP.seq (fun K171 hK171 => ?_)
    refine WP.region ?_
    refine WL.runk 3 [6, 7] [(6, .slice a43 st42.1.length c44), (7, .int .i64 0)] (by kernel_rfl) ?_
    refine WL.nil ?_
    refine WQ.then_normal (hK171 _ _ _ ?_)
    refine WP.ret ?_
    obtain rfl := Option.some.inj hm
    exact WQ.ret2 _ _ rfl rfl rfl ⟨_, _, rfl, hb47, hS49⟩
  have hm := iteT hm hc60
  refine WP.skip ?_
  refine WQ.then_normal (hK59 _ _ _ ?_)
  refine WP.seq (fun K61 hK61 => ?_)
  refine WP.block ?_
  refine WP.seq (fun K62 hK62 => ?_)
  refine WP.region ?_
  refine WL.runk 1 [0, 1, 2, 9, 27, 28, 29, 31] [(0, .slice a0' list_0.length c0'), (1, .slice a1' some_1.length c1'), (2, .slice a2' faults_2.length c2'), (9, .slice a43 st42.1.length c44), (27, .slice a1' some_1.length c1'), (28, .int .i64 (some_1.length : Int)), (29, .int .i64 st42.2), (31, .int .i64 st42.2)] (by kernel_rfl) ?_
  obtain ⟨x63, hx64, hm⟩ := bindE hm
  refine WL.st (.pointer (some (at_ a1' (Int.toNat st42.2 * 1)))) (ST.index (T := fInt.ty) (xs := some_1) (Rd.below h1 hb47) hx64 rfl rfl rfl Try.underlying25 (info2).1 (info2).2.1) rfl rfl rfl ?_
  refine WL.st (.int .i64 x63) (ST.load (cell_ext (Rd.flat (F := fInt) (Rd.below h1 hb47) hx64 0 rfl)) rfl rfl Try.underlying2 rfl) rfl rfl rfl ?_
  refine WL.runk 2 [0, 1, 2, 9, 10, 11, 27, 28, 29] [(0, .slice a0' list_0.length c0'), (1, .slice a1' some_1.length c1'), (2, .slice a2' faults_2.length c2'), (9, .slice a43 st42.1.length c44), (27, .slice a1' some_1.length c1'), (28, .int .i64 (some_1.length : Int)), (29, .int .i64 st42.2), (10, .int .i64 st42.2), (11, .int .i64 x63)] (by kernel_rfl) ?_
  refine WL.nil ?_
  refine WQ.then_normal (hK62 _ _ _ ?_)
  refine WP.seq (fun K65 hK65 => ?_)
  refine WP.open (n := 12) (by kernel_rfl) rfl (fun w66 hE67 => ?_)
  have hb68 : Ext w w66 := Ext.trans hb47 hE67
  have hL69 : w.heap.size ≤ w66.heap.size := Nat.le_trans hL48 hE67.size
  have hS70 : SH w66 w.heap.size [aOwn fInt 2 a43 c44 st42.1] := SH.ext hS49 hE67
  refine WA.pre (i := 0) (D' := [0]) [(0, .slice a0' list_0.length c0'), (1, .slice a1' some_1.length c1'), (2, .slice a2' faults_2.length c2'), (9, .slice a43 st42.1.length c44), (27, .slice a1' some_1.length c1'), (28, .int .i64 (some_1.length : Int)), (29, .int .i64 st42.2), (10, .int .i64 st42.2), (11, .int .i64 x63), (34, .slice a0' list_0.length c0')] rfl (by kernel_rfl) rfl (fun _ => by kernel_rfl) rfl ?_
  refine WA.pre (i := 10) (D' := [0, 10]) [(0, .slice a0' list_0.length c0'), (1, .slice a1' some_1.length c1'), (2, .slice a2' faults_2.length c2'), (9, .slice a43 st42.1.length c44), (27, .slice a1' some_1.length c1'), (28, .int .i64 (some_1.length : Int)), (29, .int .i64 st42.2), (10, .int .i64 st42.2), (11, .int .i64 x63), (34, .slice a0' list_0.length c0'), (44, .slice a2' faults_2.length c2')] rfl (by kernel_rfl) rfl (fun _ => by kernel_rfl) rfl ?_
  refine WA.quiet (f' := 3) (D' := [0, 10, 1, 2, 3, 4, 5, 6, 7]) [1, 2, 3, 4, 5, 6, 7] rfl rfl (by kernel_rfl) ?_
  refine QL.step1v 35 (.slice a1' some_1.length c1') rfl (fun _ => by kernel_rfl) ?_
  refine QL.step1v 36 (.int .i64 st42.2) rfl (fun _ => by kernel_rfl) ?_
  refine QL.subk [0, 1, 2, 9, 27, 28, 29, 10, 11, 34, 44, 35, 36] [(0, .slice a0' list_0.length c0'), (1, .slice a1' some_1.length c1'), (2, .slice a2' faults_2.length c2'), (9, .slice a43 st42.1.length c44), (27, .slice a1' some_1.length c1'), (28, .int .i64 (some_1.length : Int)), (29, .int .i64 st42.2), (10, .int .i64 st42.2), (11, .int .i64 x63), (34, .slice a0' list_0.length c0'), (44, .slice a2' faults_2.length c2'), (35, .slice a1' some_1.length c1'), (36, .int .i64 st42.2)] (by kernel_rfl) ?_
  obtain ⟨x71, hx72, hm⟩ := bindE hm
  refine QL.rsub (T := fInt.ty) 37 h1 hb68 hle1 hx72 rfl rfl Try.underlying25 (info2).1 (info2).2.1 rfl ⟨_, rfl⟩ rfl rfl rfl rfl ?_
  intro a73 c74 hR76 hle77
  refine QL.step1v 38 (.slice a1' some_1.length c1') rfl (fun _ => by kernel_rfl) ?_
  refine QL.step1v 39 (.int .i64 st42.2) rfl (fun _ => by kernel_rfl) ?_
  refine QL.step1v 40 (.int .i64 (wI64 (st42.2 + 1))) rfl (fun _ => by kernel_rfl) ?_
  refine QL.subk [0, 1, 2, 9, 27, 28, 29, 11, 34, 44, 37, 38, 40] [(0, .slice a0' list_0.length c0'), (1, .slice a1' some_1.length c1'), (2, .slice a2' faults_2.length c2'), (9, .slice a43 st42.1.length c44), (27, .slice a1' some_1.length c1'), (28, .int .i64 (some_1.length : Int)), (29, .int .i64 st42.2), (11, .int .i64 x63), (34, .slice a0' list_0.length c0'), (44, .slice a2' faults_2.length c2'), (37, .slice a73 x71.length c74), (38, .slice a1' some_1.length c1'), (40, .int .i64 (wI64 (st42.2 + 1)))] (by kernel_rfl) ?_
  obtain ⟨x79, hx80, hm⟩ := bindE hm
  refine QL.rsub (T := fInt.ty) 41 h1 hb68 hle1 hx80 rfl rfl Try.underlying25 (info2).1 (info2).2.1 ⟨_, rfl⟩ rfl rfl rfl rfl rfl ?_
  intro a81 c82 hR84 hle85
  refine QL.subk [0, 1, 2, 9, 27, 28, 29, 11, 34, 44, 37, 41] [(0, .slice a0' list_0.length c0'), (1, .slice a1' some_1.length c1'), (2, .slice a2' faults_2.length c2'), (9, .slice a43 st42.1.length c44), (27, .slice a1' some_1.length c1'), (28, .int .i64 (some_1.length : Int)), (29, .int .i64 st42.2), (11, .int .i64 x63), (34, .slice a0' list_0.length c0'), (44, .slice a2' faults_2.length c2'), (37, .slice a73 x71.length c74), (41, .slice a81 x79.length c82)] (by kernel_rfl) ?_
  refine QL.nil ?_
  intro w87 hE88
  have hb89 : Ext w w87 := Ext.trans hb68 hE88
  have hL90 : w.heap.size ≤ w87.heap.size := Nat.le_trans hL69 hE88.size
  have hS91 : SH w87 w.heap.size [aOwn fInt 2 a43 c44 st42.1] := SH.ext hS70 hE88
  refine WA.one (i := 8) (D' := [0, 10, 1, 2, 3, 4, 5, 6, 7, 8]) rfl rfl (by kernel_rfl) ?_
  refine WL.rowsRow 25 ([(x71 : List Int), (x79 : List Int)] : List (List Int)) [.slice a73 x71.length c74, .slice a81 x79.length c82] 2 #[.slice a73 x71.length c74, .slice a81 x79.length c82] 42 ⟨_, _, _, rfl, (Rd.below hR76 hb89), hle77, ⟨_, _, _, rfl, (Rd.below hR84 hb89), hle85, rfl⟩⟩ rfl rfl (by kernel_rfl) rfl rfl rfl rfl ?_
  intro a92 c93 w94 hE95 hR96 hle97
  have hb99 : Ext w w94 := Ext.trans hb89 hE95
  have hL100 : w.heap.size ≤ w94.heap.size := Nat.le_trans hL90 hE95.size
  have hS101 : SH w94 w.heap.size [aOwn fInt 2 a43 c44 st42.1] := SH.ext hS91 hE95
  refine WL.sub [(0, .slice a0' list_0.length c0'), (1, .slice a1' some_1.length c1'), (2, .slice a2' faults_2.length c2'), (9, .slice a43 st42.1.length c44), (27, .slice a1' some_1.length c1'), (28, .int .i64 (some_1.length : Int)), (29, .int .i64 st42.2), (11, .int .i64 x63), (34, .slice a0' list_0.length c0'), (44, .slice a2' faults_2.length c2'), (42, .slice a92 (([(x71 : List Int), (x79 : List Int)] : List (List Int)).length) c93)] ⟨rfl, rfl, rfl, rfl, rfl, rfl, rfl, rfl, rfl, rfl, rfl, trivial⟩ ?_
  refine WL.nil ?_
  refine WA.one (i := 9) (D' := [0, 10, 1, 2, 3, 4, 5, 6, 7, 8, 9]) rfl rfl (by kernel_rfl) ?_
  obtain ⟨x102, hx103, hm⟩ := bindE hm
  refine WL.call 58 #[.slice a92 (([(x71 : List Int), (x79 : List Int)] : List (List Int)).length) c93] rfl rfl (by kernel_rfl) (c_58 n ([(x71 : List Int), (x79 : List Int)] : List (List Int)) a92 c93 w94 hx103 hR96 hle97) ?_
  rintro _ w107 ⟨a104, c105, rfl, hE108, hR109⟩
  refine ⟨_, rfl, ?_⟩
  have hb110 : Ext w w107 := Ext.trans hb99 hE108
  have hL111 : w.heap.size ≤ w107.heap.size := Nat.le_trans hL100 hE108.size
  have hS112 : SH w107 w.heap.size [aOwn fInt 2 a104 c105 x102, aOwn fInt 2 a43 c44 st42.1] := SH.add hS101 hE108 hL100 hR109
  have hx113 := hE108
  refine WL.sub [(0, .slice a0' list_0.length c0'), (1, .slice a1' some_1.length c1'), (2, .slice a2' faults_2.length c2'), (9, .slice a43 st42.1.length c44), (27, .slice a1' some_1.length c1'), (28, .int .i64 (some_1.length : Int)), (29, .int .i64 st42.2), (11, .int .i64 x63), (34, .slice a0' list_0.length c0'), (44, .slice a2' faults_2.length c2'), (43, .slice a104 x102.length c105)] ⟨rfl, rfl, rfl, rfl, rfl, rfl, rfl, rfl, rfl, rfl, rfl, trivial⟩ ?_
  refine WL.nil ?_
  refine WA.one (i := 11) (D' := [0, 10, 1, 2, 3, 4, 5, 6, 7, 8, 9, 11]) rfl rfl (by kernel_rfl) ?_
  obtain ⟨x114, hx115, hm⟩ := bindE hm
  refine WL.call 51 #[.slice a0' list_0.length c0', .slice a104 x102.length c105, .slice a2' faults_2.length c2'] rfl rfl (by kernel_rfl) (c_51 n list_0 a0' c0' x102 a104 c105 faults_2 a2' c2' w107 hx115 (Rd.below h0 hb110) hle0 (SH.rd (SH.front 0 hS112)) (SH.le (SH.front 0 hS112)).1 (Rd.below h2 hb110) hle2) ?_
  rintro _ w116 ⟨rfl, hE117⟩
  refine ⟨_, rfl, ?_⟩
  have hb119 : Ext w w116 := Ext.trans hb110 hE117
  have hL120 : w.heap.size ≤ w116.heap.size := Nat.le_trans hL111 hE117.size
  have hS121 : SH w116 w.heap.size [aOwn fInt 2 a104 c105 x102, aOwn fInt 2 a43 c44 st42.1] := SH.ext hS112 hE117
  have hx122 := Ext.trans hx113 hE117
  refine WL.sub [(0, .slice a0' list_0.length c0'), (1, .slice a1' some_1.length c1'), (2, .slice a2' faults_2.length c2'), (9, .slice a43 st42.1.length c44), (27, .slice a1' some_1.length c1'), (28, .int .i64 (some_1.length : Int)), (29, .int .i64 st42.2), (11, .int .i64 x63), (45, .bool x114)] ⟨rfl, rfl, rfl, rfl, rfl, rfl, rfl, rfl, rfl, trivial⟩ ?_
  refine WL.nil ?_
  refine WA.done (by kernel_rfl) ?_
  refine WQ.then_normal (hK65 _ _ _ ?_)
  obtain ⟨x143, hx144, hm⟩ := bindE hm
  refine WP.cut (fun env' w' => ∃ (a145 : Option Addr) (c146 : Nat), env' = [(0, .slice a0' list_0.length c0'), (1, .slice a1' some_1.length c1'), (2, .slice a2' faults_2.length c2'), (9, .slice a145 x143.length c146), (27, .slice a1' some_1.length c1'), (28, .int .i64 (some_1.length : Int)), (29, .int .i64 st42.2)] ∧ Ext w w' ∧ w.heap.size ≤ w'.heap.size ∧ SH w' w.heap.size [aOwn fInt 2 a145 c146 x143]) ?_ ?_
  rotate_left
  · clear hx144
    rintro _ w167 ⟨a145, c146, rfl, hb168, hL169, hS170⟩
    refine WQ.block_normal ?_
    refine WQ.then_normal (hK61 _ _ _ ?_)
    refine WP.region ?_
    refine WL.runk 2 [0, 1, 2, 9, 27, 28, 29] [(0, .slice a0' list_0.length c0'), (1, .slice a1' some_1.length c1'), (2, .slice a2' faults_2.length c2'), (9, .slice a145 x143.length c146), (27, .slice a1' some_1.length c1'), (28, .int .i64 (some_1.length : Int)), (29, .int .i64 (wI64 (st42.2 + 1)))] (by kernel_rfl) ?_
    refine WL.nil ?_
    obtain rfl := Option.some.inj hm
    exact WQ.round hK52 ⟨(x143, (wI64 (st42.2 + 1))), _, _, rfl, hb168, hL169, hS170, hl50⟩ (Nat.lt_succ_self _) ⟨rfl, rfl, rfl, rfl, rfl, rfl, rfl, trivial⟩
  have hm := hx144; clear hx144
  refine WP.cond x114 rfl rfl (fun hc123 => ?_) (fun hc123 => ?_)
  rotate_left
  · have hm := iteF hm hc123
    refine WP.skip ?_
    obtain rfl := Option.some.inj hm
    exact WQ.post' ⟨_, _, rfl, hb119, hL120, (SH.take 1 (SH.front 1 hS121))⟩ ⟨rfl, rfl, rfl, rfl, rfl, rfl, rfl, trivial⟩
  have hm := iteT hm hc123
  refine WP.region ?_
  refine WL.runk 2 [0, 1, 2, 27, 28, 29, 46, 47] [(0, .slice a0' list_0.length c0'), (1, .slice a1' some_1.length c1'), (2, .slice a2' faults_2.length c2'), (27, .slice a1' some_1.length c1'), (28, .int .i64 (some_1.length : Int)), (29, .int .i64 st42.2), (46, .slice a43 st42.1.length c44), (47, .int .i64 x63)] (by kernel_rfl) ?_
  refine WL.row fInt 2 ([x63] : List Int) 1 #[.int .i64 x63] 48 (by kernel_rfl) rfl rfl rfl rfl rfl rfl rfl ?_
  intro a148 c149 w150 hE151 hR152
  have hb154 : Ext w w150 := Ext.trans hb119 hE151
  have hL155 : w.heap.size ≤ w150.heap.size := Nat.le_trans hL120 hE151.size
  have hS156 : SH w150 w.heap.size [aOwn fInt 2 a148 c149 ([x63] : List Int), aOwn fInt 2 a104 c105 x102, aOwn fInt 2 a43 c44 st42.1] := SH.add hS121 hE151 hL120 hR152
  have hx157 := Ext.trans hx122 hE151
  obtain ⟨x158, hx159, hm⟩ := bindE hm
  refine WL.append (F := fInt) (xs := st42.1) (ys := ([x63] : List Int)) 49 (SH.front 2 hS156) hL155 (SH.rd (SH.front 0 hS156)) hx159 rfl rfl rfl Try.underlying25 (info2).1 (info2).2.2.1 (info2).2.1 (info2).2.2.2 rfl rfl rfl rfl rfl ?_
  intro a160 c161 w162 hB163 hS164
  have hb165 : Ext w w162 := Below.trans hb154 hB163
  have hL166 : w.heap.size ≤ w162.heap.size := Nat.le_trans hL155 hB163.size
  refine WL.runk 1 [0, 1, 2, 9, 27, 28, 29] [(0, .slice a0' list_0.length c0'), (1, .slice a1' some_1.length c1'), (2, .slice a2' faults_2.length c2'), (27, .slice a1' some_1.length c1'), (28, .int .i64 (some_1.length : Int)), (29, .int .i64 st42.2), (9, .slice a160 x158.length c161)] (by kernel_rfl) ?_
  refine WL.nil ?_
  obtain rfl := Option.some.inj hm
  exact WQ.post' ⟨_, _, rfl, hb165, hL166, (SH.take 1 hS164)⟩ ⟨rfl, rfl, rfl, rfl, rfl, rfl, rfl, trivial⟩

theorem c_22 (n : Nat) (list_0 : List SRepair) (a0' : Option Addr) (c0' : Nat) (some_1 : List Int) (a1' : Option Addr) (c1' : Nat) (faults_2 : List Int) (a2' : Option Addr) (c2' : Nat) (w : World) {r : List Int × Int} (hm : m_spec_NeedlessRepairs n list_0 some_1 faults_2 = some r) (h0 : Rd fRepair.ty w a0' list_0) (hle0 : list_0.length ≤ c0') (h1 : Rd fInt.ty w a1' some_1) (hle1 : some_1.length ≤ c1') (h2 : Rd fInt.ty w a2' faults_2) (hle2 : faults_2.length ≤ c2') :
    CallV Try.prog 22 #[.slice a0' list_0.length c0', .slice a1' some_1.length c1', .slice a2' faults_2.length c2'] w (fun v w' => ∃ (ra0 : Option Addr) (rc0 : Nat), v = .tuple #[.slice ra0 r.1.length rc0, .int .i64 r.2] ∧ Ext w w' ∧ SH w' w.heap.size [aOwn fInt 2 ra0 rc0 r.1]) := by
  unfold m_spec_NeedlessRepairs at hm
  refine CallV.enter Try.func22 rfl (by kernel_rfl) Try.ntmps22 (env := [(0, .slice a0' list_0.length c0'), (1, .slice a1' some_1.length c1'), (2, .slice a2' faults_2.length c2')]) ⟨rfl, rfl, rfl, trivial⟩ ?_
  refine WP.seq (fun K1 hK1 => ?_)
  refine WP.region ?_
  refine WL.runk 2 [0, 1, 2] [(0, .slice a0' list_0.length c0'), (1, .slice a1' some_1.length c1'), (2, .slice a2' faults_2.length c2')] (by kernel_rfl) ?_
  refine WL.nil ?_
  refine WQ.then_normal (hK1 _ _ _ ?_)
  refine WP.seq (fun K2 hK2 => ?_)
  refine WP.region ?_
  refine WL.runk 3 [0, 1, 2, 12, 13, 14] [(0, .slice a0' list_0.length c0'), (1, .slice a1' some_1.length c1'), (2, .slice a2' faults_2.length c2'), (12, .slice a0' list_0.length c0'), (13, .slice a1' some_1.length c1'), (14, .slice a2' faults_2.length c2')] (by kernel_rfl) ?_
  obtain ⟨x3, hx4, hm⟩ := bindE hm
  refine WL.call 52 #[.slice a0' list_0.length c0', .slice a1' some_1.length c1', .slice a2' faults_2.length c2'] rfl rfl (by kernel_rfl) (c_52 n list_0 a0' c0' some_1 a1' c1' faults_2 a2' c2' w hx4 (Rd.below h0 (Ext.refl w)) hle0 (Rd.below h1 (Ext.refl w)) hle1 (Rd.below h2 (Ext.refl w)) hle2) ?_
  rintro _ w5 ⟨rfl, hE6⟩
  refine ⟨_, rfl, ?_⟩
  have hb8 : Ext w w5 := Ext.trans (Ext.refl w) hE6
  have hL9 : w.heap.size ≤ w5.heap.size := Nat.le_trans (Nat.le_refl _) hE6.size
  have hS10 : SH w5 w.heap.size [] := SH.ext (SH.nil _ _) hE6
  refine WL.runk 1 [0, 1, 2, 8] [(0, .slice a0' list_0.length c0'), (1, .slice a1' some_1.length c1'), (2, .slice a2' faults_2.length c2'), (8, .int .i64 x3)] (by kernel_rfl) ?_
  refine WL.nil ?_
  refine WQ.then_normal (hK2 _ _ _ ?_)
  refine WP.seq (fun K11 hK11 => ?_)
  refine WP.seq (fun K12 hK12 => ?_)
  obtain ⟨x22, hx23, hm⟩ := bindE hm
  refine WP.cut (fun env' w' => env' = [(0, .slice a0' list_0.length c0'), (1, .slice a1' some_1.length c1'), (2, .slice a2' faults_2.length c2'), (8, .int .i64 x3), (24, .bool x22)] ∧ Ext w w' ∧ w.heap.size ≤ w'.heap.size ∧ SH w' w.heap.size []) ?_ ?_
  · have hm := hx23; clear hx23
    refine WP.region ?_
    refine WL.runk 3 [0, 1, 2, 8, 18] [(0, .slice a0' list_0.length c0'), (1, .slice a1' some_1.length c1'), (2, .slice a2' faults_2.length c2'), (8, .int .i64 x3), (18, .bool (x3 == 0))] (by kernel_rfl) ?_
    refine WL.case (x3 == 0) [18] ⟨rfl, trivial⟩ (fun hc24 => ?_) (fun hc24 => ?_)
    rotate_left
    · have hm := iteF hm hc24
      refine WL.runk 6 [0, 1, 2, 8, 24] [(0, .slice a0' list_0.length c0'), (1, .slice a1' some_1.length c1'), (2, .slice a2' faults_2.length c2'), (8, .int .i64 x3), (24, .bool false)] (by kernel_rfl) ?_
      refine WL.nil ?_
      obtain rfl := Option.some.inj hm
      exact WQ.post' ⟨rfl, hb8, hL9, hS10⟩ ⟨rfl, rfl, rfl, rfl, rfl, trivial⟩
    have hm := iteT hm hc24
    refine WL.runk 3 [0, 1, 2, 8, 18, 19, 20, 21] [(0, .slice a0' list_0.length c0'), (1, .slice a1' some_1.length c1'), (2, .slice a2' faults_2.length c2'), (8, .int .i64 x3), (18, .bool true), (19, .slice a0' list_0.length c0'), (20, .slice a1' some_1.length c1'), (21, .slice a2' faults_2.length c2')] (by kernel_rfl) ?_
    obtain ⟨x25, hx26, hm⟩ := bindE hm
    refine WL.call 53 #[.slice a0' list_0.length c0', .slice a1' some_1.length c1', .slice a2' faults_2.length c2'] rfl rfl (by kernel_rfl) (c_53 n list_0 a0' c0' some_1 a1' c1' faults_2 a2' c2' w5 hx26 (Rd.below h0 hb8) hle0 (Rd.below h1 hb8) hle1 (Rd.below h2 hb8) hle2) ?_
    rintro _ w27 ⟨rfl, hE28⟩
    refine ⟨_, rfl, ?_⟩
    have hb30 : Ext w w27 := Ext.trans hb8 hE28
    have hL31 : w.heap.size ≤ w27.heap.size := Nat.le_trans hL9 hE28.size
    have hS32 : SH w27 w.heap.size [] := SH.ext hS10 hE28
    refine WL.runk 2 [0, 1, 2, 8, 24] [(0, .slice a0' list_0.length c0'), (1, .slice a1' some_1.length c1'), (2, .slice a2' faults_2.length c2'), (8, .int .i64 x3), (24, .bool (!x25))] (by kernel_rfl) ?_
    refine WL.nil ?_
    obtain rfl := Option.some.inj hm
    exact WQ.post' ⟨rfl, hb30, hL31, hS32⟩ ⟨rfl, rfl, rfl, rfl, rfl, trivial⟩
  clear hx23
  rintro _ w33 ⟨rfl, hb34, hL35, hS36⟩
  refine WQ.then_normal (hK12 _ _ _ ?_)
  obtain ⟨x38, hx39, hm⟩ := bindE hm
  refine WP.cut (fun env' w' => env' = [(0, .slice a0' list_0.length c0'), (1, .slice a1' some_1.length c1'), (2, .slice a2' faults_2.length c2'), (8, .int .i64 x38)] ∧ Ext w w' ∧ w.heap.size ≤ w'.heap.size ∧ SH w' w.heap.size []) ?_ ?_
  · have hm := hx39; clear hx39
    refine WP.cond x22 rfl rfl (fun hc37 => ?_) (fun hc37 => ?_)
    rotate_left
    · have hm := iteF hm hc37
      refine WP.skip ?_
      obtain rfl := Option.some.inj hm
      exact WQ.post' ⟨rfl, hb34, hL35, hS36⟩ ⟨rfl, rfl, rfl, rfl, trivial⟩
    have hm := iteT hm hc37
    refine WP.region ?_
    refine WL.runk 1 [0, 1, 2, 8] [(0, .slice a0' list_0.length c0'), (1, .slice a1' some_1.length c1'), (2, .slice a2' faults_2.length c2'), (8, .int .i64 6)] (by kernel_rfl) ?_
    refine WL.nil ?_
    obtain rfl := Option.some.inj hm
    exact WQ.post' ⟨rfl, hb34, hL35, hS36⟩ ⟨rfl, rfl, rfl, rfl, trivial⟩
  clear hx39
  rintro _ w40 ⟨rfl, hb41, hL42, hS43⟩
  refine WQ.then_normal (hK11 _ _ _ ?_)
  refine WP.seq (fun K44 hK44 => ?_)
  refine WP.seq (fun K45 hK45 => ?_)
  refine WP.region ?_
  refine WL.runk 2 [0, 1, 2, 8, 26] [(0, .slice a0' list_0.length c0'), (1, .slice a1' some_1.length c1'), (2, .slice a2' faults_2.length c2'), (8, .int .i64 x38), (26, .bool (x38 != 0))] (by kernel_rfl) ?_
  refine WL.nil ?_
  refine WQ.then_normal (hK45 _ _ _ ?_)
  refine WP.cond (x38 != 0) rfl rfl (fun hc46 => ?_) (fun hc46 => ?_)
  · have hm := iteT hm hc46
    refine WP.seq (fun K47 hK47 => ?_)
    refine WP.region ?_
    refine WL.runk 3 [6, 7] [(6, .slice none 0 0), (7, .int .i64 x38)] (by kernel_rfl) ?_
    refine WL.nil ?_
    refine WQ.then_normal (hK47 _ _ _ ?_)
    refine WP.ret ?_
    refine WQ.then_ret ?_
    obtain rfl := Option.some.inj hm
    have hS49 : SH w40 w.heap.size [aOwn fInt 2 none 0 ([] : List Int)] := SH.nilOwn hS43
    exact WQ.ret2 _ _ rfl rfl rfl ⟨_, _, rfl, hb41, hS49⟩
  have hm := iteF hm hc46
  refine WP.skip ?_
  refine WQ.then_normal (hK44 _ _ _ ?_)
  refine WP.seq (fun K50 hK50 => ?_)
  refine WP.region ?_
  refine WL.row fInt 2 ([] : List Int) 0 #[] 28 (by kernel_rfl) rfl rfl rfl rfl rfl rfl rfl ?_
  intro a51 c52 w53 hE54 hR55
  have hb57 : Ext w w53 := Ext.trans hb41 hE54
  have hL58 : w.heap.size ≤ w53.heap.size := Nat.le_trans hL42 hE54.size
  have hS59 : SH w53 w.heap.size [aOwn fInt 2 a51 c52 ([] : List Int)] := SH.add hS43 hE54 hL42 hR55
  refine WL.runk 1 [0, 1, 2, 9] [(0, .slice a0' list_0.length c0'), (1, .slice a1' some_1.length c1'), (2, .slice a2' faults_2.length c2'), (9, .slice a51 (([] : List Int).length) c52)] (by kernel_rfl) ?_
  refine WL.nil ?_
  refine WQ.then_normal (hK50 _ _ _ ?_)
  refine WP.seq (fun K60 hK60 => ?_)
  refine WP.seq (fun K61 hK61 => ?_)
  refine WP.region ?_
  refine WL.runk 1 [0, 1, 2, 9, 10] [(0, .slice a0' list_0.length c0'), (1, .slice a1' some_1.length c1'), (2, .slice a2' faults_2.length c2'), (9, .slice a51 (([] : List Int).length) c52), (10, .int .i64 0)] (by kernel_rfl) ?_
  refine WL.nil ?_
  refine WQ.then_normal (hK61 _ _ _ ?_)
  refine WP.block ?_
  obtain ⟨t76, ht77, hm⟩ := bindE hm
  have hmo71 := hm; clear hm
  refine WP.sub [(0, .slice a0' list_0.length c0'), (1, .slice a1' some_1.length c1'), (2, .slice a2' faults_2.length c2'), (9, .slice a51 (([] : List Int).length) c52), (10, .int .i64 0)] ⟨rfl, rfl, rfl, rfl, rfl, trivial⟩ ?_
  refine WP.loop (fun n' env' w' => ∃ (st62 : List Int × Int) (a63 : Option Addr) (c64 : Nat), env' = [(0, .slice a0' list_0.length c0'), (1, .slice a1' some_1.length c1'), (2, .slice a2' faults_2.length c2'), (9, .slice a63 st62.1.length c64), (10, .int .i64 st62.2)] ∧ Ext w w' ∧ w.heap.size ≤ w'.heap.size ∧ SH w' w.heap.size [aOwn fInt 2 a63 c64 st62.1] ∧ loopN (m_spec_NeedlessRepairs_l1 n list_0 some_1 faults_2) n' st62 = some t76) n ⟨(([] : List Int), 0), _, _, rfl, hb57, hL58, hS59, ht77⟩ ?_
  rintro n73 _ w66 ⟨st62, a63, c64, rfl, hb67, hL68, hS69, hl70⟩ K72 hK72
  obtain ⟨n74, s75, rfl, hm, hl70⟩ := loopN_some hl70
  unfold m_spec_NeedlessRepairs_l1 at hm
  refine WP.seq (fun K78 hK78 => ?_)
  refine WP.seq (fun K79 hK79 => ?_)
  refine WP.region ?_
  refine WL.runk 4 [0, 1, 2, 9, 10, 32] [(0, .slice a0' list_0.length c0'), (1, .slice a1' some_1.length c1'), (2, .slice a2' faults_2.length c2'), (9, .slice a63 st62.1.length c64), (10, .int .i64 st62.2), (32, .bool (decide (st62.2 < (some_1.length : Int))))] (by kernel_rfl) ?_
  refine WL.nil ?_
  refine WQ.then_normal (hK79 _ _ _ ?_)
  refine WP.cond (decide (st62.2 < (some_1.length : Int))) rfl rfl (fun hc80 => ?_) (fun hc80 => ?_)
  rotate_left
  · have hm := iteF hm hc80
    refine WP.exit ?_
    refine WQ.then_exit ?_
    refine WQ.then_exit ?_
    refine WQ.block_here ?_
    obtain rfl := Option.some.inj hm
    obtain rfl := afterN_done hl70
    have hm := hmo71
    refine WQ.then_normal (hK60 _ _ _ ?_)
    refine WP.seq (fun K179 hK179 => ?_)
    refine WP.region ?_
    refine WL.runk 3 [6, 7] [(6, .slice a63 st62.1.length c64), (7, .int .i64 0)] (by kernel_rfl) ?_
    refine WL.nil ?_
    refine WQ.then_normal (hK179 _ _ _ ?_)
    refine WP.ret ?_
    obtain rfl := Option.some.inj hm
    exact WQ.ret2 _ _ rfl rfl rfl ⟨_, _, rfl, hb67, hS69⟩
  have hm := iteT hm hc80
  refine WP.skip ?_
  refine WQ.then_normal (hK78 _ _ _ ?_)
  refine WP.seq (fun K81 hK81 => ?_)
  refine WP.block ?_
  refine WP.seq (fun K82 hK82 => ?_)
  refine WP.region ?_
  refine WL.runk 2 [0, 1, 2, 9, 10, 35, 36] [(0, .slice a0' list_0.length c0'), (1, .slice a1' some_1.length c1'), (2, .slice a2' faults_2.length c2'), (9, .slice a63 st62.1.length c64), (10, .int .i64 st62.2), (35, .slice a1' some_1.length c1'), (36, .int .i64 st62.2)] (by kernel_rfl) ?_
  obtain ⟨x83, hx84, hm⟩ := bindE hm
  refine WL.rsub (T := fInt.ty) 37 h1 hb67 hle1 hx84 rfl rfl Try.underlying25 (info2).1 (info2).2.1 rfl ⟨_, rfl⟩ rfl rfl rfl rfl ?_
  intro a85 c86 hR88 hle89
  obtain ⟨x91, hx92, hm⟩ := bindE hm
  refine WL.call 59 #[.slice a85 x83.length c86] rfl rfl (by kernel_rfl) (c_59 n x83 a85 c86 w66 hx92 (Rd.below hR88 hb67) hle89) ?_
  rintro _ w96 ⟨a93, c94, rfl, hE97, hR98⟩
  refine ⟨_, rfl, ?_⟩
  have hb99 : Ext w w96 := Ext.trans hb67 hE97
  have hL100 : w.heap.size ≤ w96.heap.size := Nat.le_trans hL68 hE97.size
  have hS101 : SH w96 w.heap.size [aOwn fInt 2 a93 c94 x91, aOwn fInt 2 a63 c64 st62.1] := SH.add hS69 hE97 hL68 hR98
  refine WL.runk 1 [0, 1, 2, 9, 10, 11] [(0, .slice a0' list_0.length c0'), (1, .slice a1' some_1.length c1'), (2, .slice a2' faults_2.length c2'), (9, .slice a63 st62.1.length c64), (10, .int .i64 st62.2), (11, .slice a93 x91.length c94)] (by kernel_rfl) ?_
  refine WL.nil ?_
  refine WQ.then_normal (hK82 _ _ _ ?_)
  refine WP.seq (fun K102 hK102 => ?_)
  refine WP.region ?_
  refine WL.runk 4 [0, 1, 2, 9, 10, 39, 40, 42] [(0, .slice a0' list_0.length c0'), (1, .slice a1' some_1.length c1'), (2, .slice a2' faults_2.length c2'), (9, .slice a63 st62.1.length c64), (10, .int .i64 st62.2), (39, .slice a93 x91.length c94), (40, .slice a1' some_1.length c1'), (42, .int .i64 (wI64 (st62.2 + 1)))] (by kernel_rfl) ?_
  obtain ⟨x103, hx104, hm⟩ := bindE hm
  refine WL.rsub (T := fInt.ty) 43 h1 hb99 hle1 hx104 rfl rfl Try.underlying25 (info2).1 (info2).2.1 ⟨_, rfl⟩ rfl rfl rfl rfl rfl ?_
  intro a105 c106 hR108 hle109
  obtain ⟨x111, hx112, hm⟩ := bindE hm
  refine WL.append (F := fInt) (xs := x91) (ys := x103) 44 (SH.front 0 hS101) hL100 (Rd.below hR108 hb99) hx112 rfl rfl rfl Try.underlying25 (info2).1 (info2).2.2.1 (info2).2.1 (info2).2.2.2 rfl rfl rfl rfl rfl ?_
  intro a113 c114 w115 hB116 hS117
  have hb118 : Ext w w115 := Below.trans hb99 hB116
  have hL119 : w.heap.size ≤ w115.heap.size := Nat.le_trans hL100 hB116.size
  refine WL.runk 1 [0, 1, 2, 9, 10, 11] [(0, .slice a0' list_0.length c0'), (1, .slice a1' some_1.length c1'), (2, .slice a2' faults_2.length c2'), (9, .slice a63 st62.1.length c64), (10, .int .i64 st62.2), (11, .slice a113 x111.length c114)] (by kernel_rfl) ?_
  refine WL.nil ?_
  refine WQ.then_normal (hK102 _ _ _ ?_)
  refine WP.seq (fun K120 hK120 => ?_)
  refine WP.region ?_
  refine WL.runk 3 [0, 1, 2, 9, 10, 45, 46, 47] [(0, .slice a0' list_0.length c0'), (1, .slice a1' some_1.length c1'), (2, .slice a2' faults_2.length c2'), (9, .slice a63 st62.1.length c64), (10, .int .i64 st62.2), (45, .slice a0' list_0.length c0'), (46, .slice a113 x111.length c114), (47, .slice a2' faults_2.length c2')] (by kernel_rfl) ?_
  obtain ⟨x121, hx122, hm⟩ := bindE hm
  refine WL.call 53 #[.slice a0' list_0.length c0', .slice a113 x111.length c114, .slice a2' faults_2.length c2'] rfl rfl (by kernel_rfl) (c_53 n list_0 a0' c0' x111 a113 c114 faults_2 a2' c2' w115 hx122 (Rd.below h0 hb118) hle0 (SH.rd (SH.front 0 hS117)) (SH.le (SH.front 0 hS117)).1 (Rd.below h2 hb118) hle2) ?_
  rintro _ w123 ⟨rfl, hE124⟩
  refine ⟨_, rfl, ?_⟩
  have hb126 : Ext w w123 := Ext.trans hb118 hE124
  have hL127 : w.heap.size ≤ w123.heap.size := Nat.le_trans hL119 hE124.size
  have hS128 : SH w123 w.heap.size [aOwn fInt 2 a113 c114 x111, aOwn fInt 2 a63 c64 st62.1] := SH.ext hS117 hE124
  refine WL.sub [(0, .slice a0' list_0.length c0'), (1, .slice a1' some_1.length c1'), (2, .slice a2' faults_2.length c2'), (9, .slice a63 st62.1.length c64), (10, .int .i64 st62.2), (48, .bool x121)] ⟨rfl, rfl, rfl, rfl, rfl, rfl, trivial⟩ ?_
  refine WL.nil ?_
  refine WQ.then_normal (hK120 _ _ _ ?_)
  obtain ⟨x150, hx151, hm⟩ := bindE hm
  refine WP.cut (fun env' w' => ∃ (a152 : Option Addr) (c153 : Nat), env' = [(0, .slice a0' list_0.length c0'), (1, .slice a1' some_1.length c1'), (2, .slice a2' faults_2.length c2'), (9, .slice a152 x150.length c153), (10, .int .i64 st62.2)] ∧ Ext w w' ∧ w.heap.size ≤ w'.heap.size ∧ SH w' w.heap.size [aOwn fInt 2 a152 c153 x150]) ?_ ?_
  rotate_left
  · clear hx151
    rintro _ w175 ⟨a152, c153, rfl, hb176, hL177, hS178⟩
    refine WQ.block_normal ?_
    refine WQ.then_normal (hK81 _ _ _ ?_)
    refine WP.region ?_
    refine WL.runk 3 [0, 1, 2, 9, 10] [(0, .slice a0' list_0.length c0'), (1, .slice a1' some_1.length c1'), (2, .slice a2' faults_2.length c2'), (9, .slice a152 x150.length c153), (10, .int .i64 (wI64 (st62.2 + 1)))] (by kernel_rfl) ?_
    refine WL.nil ?_
    obtain rfl := Option.some.inj hm
    exact WQ.round hK72 ⟨(x150, (wI64 (st62.2 + 1))), _, _, rfl, hb176, hL177, hS178, hl70⟩ (Nat.lt_succ_self _) ⟨rfl, rfl, rfl, rfl, rfl, trivial⟩
  have hm := hx151; clear hx151
  refine WP.cond x121 rfl rfl (fun hc129 => ?_) (fun hc129 => ?_)
  rotate_left
  · have hm := iteF hm hc129
    refine WP.skip ?_
    obtain rfl := Option.some.inj hm
    exact WQ.post' ⟨_, _, rfl, hb126, hL127, (SH.take 1 (SH.front 1 hS128))⟩ ⟨rfl, rfl, rfl, rfl, rfl, trivial⟩
  have hm := iteT hm hc129
  refine WP.region ?_
  refine WL.runk 3 [0, 1, 2, 10, 49, 50, 51] [(0, .slice a0' list_0.length c0'), (1, .slice a1' some_1.length c1'), (2, .slice a2' faults_2.length c2'), (10, .int .i64 st62.2), (49, .slice a63 st62.1.length c64), (50, .slice a1' some_1.length c1'), (51, .int .i64 st62.2)] (by kernel_rfl) ?_
  obtain ⟨x155, hx156, hm⟩ := bindE hm
  refine WL.st (.pointer (some (at_ a1' (Int.toNat st62.2 * 1)))) (ST.index (T := fInt.ty) (xs := some_1) (Rd.below h1 hb126) hx156 rfl rfl rfl Try.underlying25 (info2).1 (info2).2.1) rfl rfl rfl ?_
  refine WL.st (.int .i64 x155) (ST.load (cell_ext (Rd.flat (F := fInt) (Rd.below h1 hb126) hx156 0 rfl)) rfl rfl Try.underlying2 rfl) rfl rfl rfl ?_
  refine WL.row fInt 2 ([x155] : List Int) 1 #[.int .i64 x155] 54 (by kernel_rfl) rfl rfl rfl rfl rfl rfl rfl ?_
  intro a157 c158 w159 hE160 hR161
  have hb163 : Ext w w159 := Ext.trans hb126 hE160
  have hL164 : w.heap.size ≤ w159.heap.size := Nat.le_trans hL127 hE160.size
  have hS165 : SH w159 w.heap.size [aOwn fInt 2 a157 c158 ([x155] : List Int), aOwn fInt 2 a113 c114 x111, aOwn fInt 2 a63 c64 st62.1] := SH.add hS128 hE160 hL127 hR161
  obtain ⟨x166, hx167, hm⟩ := bindE hm
  refine WL.append (F := fInt) (xs := st62.1) (ys := ([x155] : List Int)) 55 (SH.front 2 hS165) hL164 (SH.rd (SH.front 0 hS165)) hx167 rfl rfl rfl Try.underlying25 (info2).1 (info2).2.2.1 (info2).2.1 (info2).2.2.2 rfl rfl rfl rfl rfl ?_
  intro a168 c169 w170 hB171 hS172
  have hb173 : Ext w w170 := Below.trans hb163 hB171
  have hL174 : w.heap.size ≤ w170.heap.size := Nat.le_trans hL164 hB171.size
  refine WL.runk 1 [0, 1, 2, 9, 10] [(0, .slice a0' list_0.length c0'), (1, .slice a1' some_1.length c1'), (2, .slice a2' faults_2.length c2'), (10, .int .i64 st62.2), (9, .slice a168 x166.length c169)] (by kernel_rfl) ?_
  refine WL.nil ?_
  obtain rfl := Option.some.inj hm
  exact WQ.post' ⟨_, _, rfl, hb173, hL174, (SH.take 1 hS172)⟩ ⟨rfl, rfl, rfl, rfl, rfl, trivial⟩

theorem c_60 (n : Nat) (code_0 : List Int) (a0' : Option Addr) (c0' : Nat) (w : World) {r : List SRepair × List Int} (hm : m_spec_l21Two n code_0 = some r) (h0 : Rd fU8.ty w a0' code_0) (hle0 : code_0.length ≤ c0') :
    CallV Try.prog 60 #[.slice a0' code_0.length c0'] w (fun v w' => ∃ (ra0 : Option Addr) (rc0 : Nat) (ra1 : Option Addr) (rc1 : Nat), v = .tuple #[.slice ra0 r.1.length rc0, .slice ra1 r.2.length rc1] ∧ Ext w w' ∧ SH w' w.heap.size [aNest fRepair 73 2 ra0 rc0 r.1, aOwn fInt 2 ra1 rc1 r.2]) := by
  unfold m_spec_l21Two at hm
  refine CallV.enter Try.func60 rfl (by kernel_rfl) Try.ntmps60 (env := [(0, .slice a0' code_0.length c0')]) ⟨rfl, trivial⟩ ?_
  refine WP.seq (fun K1 hK1 => ?_)
  refine WP.region ?_
  refine WL.runk 2 [0] [(0, .slice a0' code_0.length c0')] (by kernel_rfl) ?_
  refine WL.nil ?_
  refine WQ.then_normal (hK1 _ _ _ ?_)
  refine WP.seq (fun K2 hK2 => ?_)
  refine WP.region ?_
  refine WL.runk 1 [8] [(8, .slice a0' code_0.length c0')] (by kernel_rfl) ?_
  obtain ⟨x3, hx4, hm⟩ := bindE hm
  refine WL.call 49 #[.slice a0' code_0.length c0'] rfl rfl (by kernel_rfl) (c_49 n code_0 a0' c0' w hx4 (Rd.below h0 (Ext.refl w)) hle0) ?_
  rintro _ w14 ⟨a5, c6, a8, c9, a11, c12, rfl, hE15, hR16⟩
  refine ⟨_, rfl, ?_⟩
  have hb17 : Ext w w14 := Ext.trans (Ext.refl w) hE15
  have hL18 : w.heap.size ≤ w14.heap.size := Nat.le_trans (Nat.le_refl _) hE15.size
  have hS19 : SH w14 w.heap.size [aNest fRepair 73 2 a5 c6 x3.1, aOwn fInt 2 a8 c9 x3.2.1, aOwn fInt 2 a11 c12 x3.2.2] := SH.add (SH.nil _ _) hE15 (Nat.le_refl _) hR16
  refine WL.runk 7 [4, 6] [(4, .slice a5 x3.1.length c6), (6, .slice a11 x3.2.2.length c12)] (by kernel_rfl) ?_
  refine WL.nil ?_
  refine WQ.then_normal (hK2 _ _ _ ?_)
  refine WP.seq (fun K20 hK20 => ?_)
  refine WP.region ?_
  refine WL.runk 4 [2, 3] [(2, .slice a5 x3.1.length c6), (3, .slice a11 x3.2.2.length c12)] (by kernel_rfl) ?_
  refine WL.nil ?_
  refine WQ.then_normal (hK20 _ _ _ ?_)
  refine WP.ret ?_
  obtain rfl := Option.some.inj hm
  exact WQ.ret2 _ _ rfl rfl rfl ⟨_, _, _, _, rfl, hb17, (SH.take 2 (SH.front 1 (SH.front 2 hS19)))⟩

theorem c_23 (n : Nat) (code_0 : List Int) (a0' : Option Addr) (c0' : Nat) (w : World) {r : List SRepair × List Int × Int × Int} (hm : m_spec_DrawIsWorthwhile n code_0 = some r) (h0 : Rd fU8.ty w a0' code_0) (hle0 : code_0.length ≤ c0') :
    CallV Try.prog 23 #[.slice a0' code_0.length c0'] w (fun v w' => ∃ (ra0 : Option Addr) (rc0 : Nat) (ra1 : Option Addr) (rc1 : Nat), v = .tuple #[.slice ra0 r.1.length rc0, .slice ra1 r.2.1.length rc1, .int .i64 r.2.2.1, .int .i64 r.2.2.2] ∧ Ext w w' ∧ SH w' w.heap.size [aNest fRepair 73 2 ra0 rc0 r.1, aOwn fInt 2 ra1 rc1 r.2.1]) := by
  unfold m_spec_DrawIsWorthwhile at hm
  refine CallV.enter Try.func23 rfl (by kernel_rfl) Try.ntmps23 (env := [(0, .slice a0' code_0.length c0')]) ⟨rfl, trivial⟩ ?_
  refine WP.seq (fun K1 hK1 => ?_)
  refine WP.region ?_
  refine WL.runk 4 [0] [(0, .slice a0' code_0.length c0')] (by kernel_rfl) ?_
  refine WL.nil ?_
  refine WQ.then_normal (hK1 _ _ _ ?_)
  refine WP.seq (fun K2 hK2 => ?_)
  refine WP.region ?_
  refine WL.runk 1 [0, 11] [(0, .slice a0' code_0.length c0'), (11, .slice a0' code_0.length c0')] (by kernel_rfl) ?_
  obtain ⟨x3, hx4, hm⟩ := bindE hm
  refine WL.call 60 #[.slice a0' code_0.length c0'] rfl rfl (by kernel_rfl) (c_60 n code_0 a0' c0' w hx4 (Rd.below h0 (Ext.refl w)) hle0) ?_
  rintro _ w11 ⟨a5, c6, a8, c9, rfl, hE12, hR13⟩
  refine ⟨_, rfl, ?_⟩
  have hb14 : Ext w w11 := Ext.trans (Ext.refl w) hE12
  have hL15 : w.heap.size ≤ w11.heap.size := Nat.le_trans (Nat.le_refl _) hE12.size
  have hS16 : SH w11 w.heap.size [aNest fRepair 73 2 a5 c6 x3.1, aOwn fInt 2 a8 c9 x3.2] := SH.add (SH.nil _ _) hE12 (Nat.le_refl _) hR13
  refine WL.runk 5 [0, 6, 7] [(0, .slice a0' code_0.length c0'), (6, .slice a5 x3.1.length c6), (7, .slice a8 x3.2.length c9)] (by kernel_rfl) ?_
  refine WL.nil ?_
  refine WQ.then_normal (hK2 _ _ _ ?_)
  refine WP.seq (fun K17 hK17 => ?_)
  refine WP.region ?_
  refine WL.runk 1 [6, 7, 15] [(6, .slice a5 x3.1.length c6), (7, .slice a8 x3.2.length c9), (15, .slice a0' code_0.length c0')] (by kernel_rfl) ?_
  obtain ⟨x18, hx19, hm⟩ := bindE hm
  refine WL.call 61 #[.slice a0' code_0.length c0'] rfl rfl (by kernel_rfl) (c_61 n code_0 a0' c0' w11 hx19 (Rd.below h0 hb14) hle0) ?_
  rintro _ w22 ⟨b20, rfl, hE23, hR24⟩
  refine ⟨_, rfl, ?_⟩
  have hb25 : Ext w w22 := Ext.trans hb14 hE23
  have hL26 : w.heap.size ≤ w22.heap.size := Nat.le_trans hL15 hE23.size
  have hS27 : SH w22 w.heap.size [aBox 97 b20 [.slice a0' code_0.length c0', .int .i64 x18.1, .int .u64 x18.2], aNest fRepair 73 2 a5 c6 x3.1, aOwn fInt 2 a8 c9 x3.2] := SH.add hS16 hE23 hL15 hR24
  refine WL.runk 1 [6, 7, 8] [(6, .slice a5 x3.1.length c6), (7, .slice a8 x3.2.length c9), (8, .pointer (some ⟨b20, 0, none⟩))] (by kernel_rfl) ?_
  refine WL.nil ?_
  refine WQ.then_normal (hK17 _ _ _ ?_)
  refine WP.seq (fun K28 hK28 => ?_)
  refine WP.region ?_
  refine WL.runk 1 [6, 7, 8, 17] [(6, .slice a5 x3.1.length c6), (7, .slice a8 x3.2.length c9), (8, .pointer (some ⟨b20, 0, none⟩)), (17, .pointer (some ⟨b20, 0, none⟩))] (by kernel_rfl) ?_
  obtain ⟨x29, hx30, hm⟩ := bindE hm
  refine WL.call 62 #[.pointer (some ⟨b20, 0, none⟩), .int .i64 60] rfl rfl (by kernel_rfl) (c_62 n code_0 a0' c0' x18.1 x18.2 b20 60 w22 w w.heap.size [aNest fRepair 73 2 a5 c6 x3.1, aOwn fInt 2 a8 c9 x3.2] hx30 hb25 (Nat.le_refl _) hL26 h0 hle0 hS27) ?_
  rintro _ w31 ⟨rfl, hB35, hS34⟩
  refine ⟨_, rfl, ?_⟩
  have hb36 : Ext w w31 := Below.trans hb25 hB35
  have hL37 : w.heap.size ≤ w31.heap.size := Nat.le_trans hL26 hB35.size
  refine WL.runk 2 [6, 7, 8, 9] [(6, .slice a5 x3.1.length c6), (7, .slice a8 x3.2.length c9), (8, .pointer (some ⟨b20, 0, none⟩)), (9, .int .i64 (wI64 (100 * x29.1)))] (by kernel_rfl) ?_
  refine WL.nil ?_
  refine WQ.then_normal (hK28 _ _ _ ?_)
  refine WP.seq (fun K38 hK38 => ?_)
  refine WP.seq (fun K39 hK39 => ?_)
  refine WP.region ?_
  refine WL.runk 1 [6, 7, 8, 9, 20] [(6, .slice a5 x3.1.length c6), (7, .slice a8 x3.2.length c9), (8, .pointer (some ⟨b20, 0, none⟩)), (9, .int .i64 (wI64 (100 * x29.1))), (20, .pointer (some ⟨b20, 0, none⟩))] (by kernel_rfl) ?_
  obtain ⟨x40, hx41, hm⟩ := bindE hm
  refine WL.call 62 #[.pointer (some ⟨b20, 0, none⟩), .int .i64 12] rfl rfl (by kernel_rfl) (c_62 n code_0 a0' c0' x29.2.1 x29.2.2 b20 12 w31 w w.heap.size [aNest fRepair 73 2 a5 c6 x3.1, aOwn fInt 2 a8 c9 x3.2] hx41 hb36 (Nat.le_refl _) hL37 h0 hle0 hS34) ?_
  rintro _ w42 ⟨rfl, hB46, hS45⟩
  refine ⟨_, rfl, ?_⟩
  have hb47 : Ext w w42 := Below.trans hb36 hB46
  have hL48 : w.heap.size ≤ w42.heap.size := Nat.le_trans hL37 hB46.size
  refine WL.sub [(6, .slice a5 x3.1.length c6), (7, .slice a8 x3.2.length c9), (8, .pointer (some ⟨b20, 0, none⟩)), (9, .int .i64 (wI64 (100 * x29.1))), (21, .int .i64 x40.1)] ⟨rfl, rfl, rfl, rfl, rfl, trivial⟩ ?_
  refine WL.nil ?_
  refine WQ.then_normal (hK39 _ _ _ ?_)
  refine WP.block ?_
  refine WP.seq (fun K49 hK49 => ?_)
  refine WP.region ?_
  refine WL.runk 2 [6, 7, 8, 9, 21, 22] [(6, .slice a5 x3.1.length c6), (7, .slice a8 x3.2.length c9), (8, .pointer (some ⟨b20, 0, none⟩)), (9, .int .i64 (wI64 (100 * x29.1))), (21, .int .i64 x40.1), (22, .bool (x40.1 == 0))] (by kernel_rfl) ?_
  refine WL.nil ?_
  refine WQ.then_normal (hK49 _ _ _ ?_)
  refine WP.cond (x40.1 == 0) rfl rfl (fun hc50 => ?_) (fun hc50 => ?_)
  · have hm := iteT hm hc50
    refine WP.region ?_
    refine WL.runk 1 [6, 7, 8, 24] [(6, .slice a5 x3.1.length c6), (7, .slice a8 x3.2.length c9), (8, .pointer (some ⟨b20, 0, none⟩)), (24, .pointer (some ⟨b20, 0, none⟩))] (by kernel_rfl) ?_
    refine WL.row fInt 2 ([(-1), 0, 100000, 100001] : List Int) 4 #[.int .i64 (-1), .int .i64 0, .int .i64 100000, .int .i64 100001] 25 (by kernel_rfl) rfl rfl rfl rfl rfl rfl rfl ?_
    intro a51 c52 w53 hE54 hR55
    have hb57 : Ext w w53 := Ext.trans hb47 hE54
    have hL58 : w.heap.size ≤ w53.heap.size := Nat.le_trans hL48 hE54.size
    have hS59 : SH w53 w.heap.size [aOwn fInt 2 a51 c52 ([(-1), 0, 100000, 100001] : List Int), aBox 97 b20 [.slice a0' code_0.length c0', .int .i64 x40.2.1, .int .u64 x40.2.2], aNest fRepair 73 2 a5 c6 x3.1, aOwn fInt 2 a8 c9 x3.2] := SH.add hS45 hE54 hL48 hR55
    obtain ⟨x60, hx61, hm⟩ := bindE hm
    refine WL.call 63 #[.pointer (some ⟨b20, 0, none⟩), .slice a51 (([(-1), 0, 100000, 100001] : List Int).length) c52] rfl rfl (by kernel_rfl) (c_63_o1 n code_0 a0' c0' x40.2.1 x40.2.2 b20 ([(-1), 0, 100000, 100001] : List Int) a51 c52 w53 w w.heap.size [aNest fRepair 73 2 a5 c6 x3.1, aOwn fInt 2 a8 c9 x3.2] hx61 hb57 (Nat.le_refl _) hL58 h0 hle0 (SH.front 3 (SH.front 2 (SH.front 3 (SH.front 3 hS59))))) ?_
    rintro _ w62 ⟨rfl, hB66, hS65⟩
    refine ⟨_, rfl, ?_⟩
    have hb67 : Ext w w62 := Below.trans hb57 hB66
    have hL68 : w.heap.size ≤ w62.heap.size := Nat.le_trans hL58 hB66.size
    refine WL.runk 1 [6, 7, 8, 9] [(6, .slice a5 x3.1.length c6), (7, .slice a8 x3.2.length c9), (8, .pointer (some ⟨b20, 0, none⟩)), (9, .int .i64 x60.1)] (by kernel_rfl) ?_
    refine WL.nil ?_
    refine WQ.block_normal ?_
    refine WQ.then_normal (hK38 _ _ _ ?_)
    refine WP.seq (fun K69 hK69 => ?_)
    refine WP.region ?_
    refine WL.runk 4 [35, 36, 37, 38] [(35, .slice a5 x3.1.length c6), (36, .slice a8 x3.2.length c9), (37, .int .i64 x60.1), (38, .pointer (some ⟨b20, 0, none⟩))] (by kernel_rfl) ?_
    obtain ⟨x70, hx71, hm⟩ := bindE hm
    refine WL.call 62 #[.pointer (some ⟨b20, 0, none⟩), .int .i64 11] rfl rfl (by kernel_rfl) (c_62 n code_0 a0' c0' x60.2.1 x60.2.2 b20 11 w62 w w.heap.size [aOwn fInt 2 a51 c52 ([(-1), 0, 100000, 100001] : List Int), aNest fRepair 73 2 a5 c6 x3.1, aOwn fInt 2 a8 c9 x3.2] hx71 hb67 (Nat.le_refl _) hL68 h0 hle0 hS65) ?_
    rintro _ w72 ⟨rfl, hB76, hS75⟩
    refine ⟨_, rfl, ?_⟩
    have hb77 : Ext w w72 := Below.trans hb67 hB76
    have hL78 : w.heap.size ≤ w72.heap.size := Nat.le_trans hL68 hB76.size
    refine WL.runk 5 [2, 3, 4, 5] [(2, .slice a5 x3.1.length c6), (3, .slice a8 x3.2.length c9), (4, .int .i64 x60.1), (5, .int .i64 (wI64 (10 * x70.1)))] (by kernel_rfl) ?_
    refine WL.nil ?_
    refine WQ.then_normal (hK69 _ _ _ ?_)
    refine WP.ret ?_
    obtain rfl := Option.some.inj hm
    exact WQ.ret4 _ _ _ _ rfl rfl rfl rfl rfl ⟨_, _, _, _, rfl, hb77, (SH.take 2 (SH.front 3 (SH.front 3 hS75)))⟩
  have hm := iteF hm hc50
  refine WP.seq (fun K79 hK79 => ?_)
  refine WP.region ?_
  refine WL.runk 2 [6, 7, 8, 9, 27] [(6, .slice a5 x3.1.length c6), (7, .slice a8 x3.2.length c9), (8, .pointer (some ⟨b20, 0, none⟩)), (9, .int .i64 (wI64 (100 * x29.1))), (27, .bool (x40.1 == 1))] (by kernel_rfl) ?_
  refine WL.nil ?_
  refine WQ.then_normal (hK79 _ _ _ ?_)
  refine WP.cond (x40.1 == 1) rfl rfl (fun hc80 => ?_) (fun hc80 => ?_)
  rotate_left
  · have hm := iteF hm hc80
    refine WP.skip ?_
    refine WQ.block_normal ?_
    refine WQ.then_normal (hK38 _ _ _ ?_)
    refine WP.seq (fun K100 hK100 => ?_)
    refine WP.region ?_
    refine WL.runk 4 [35, 36, 37, 38] [(35, .slice a5 x3.1.length c6), (36, .slice a8 x3.2.length c9), (37, .int .i64 (wI64 (100 * x29.1))), (38, .pointer (some ⟨b20, 0, none⟩))] (by kernel_rfl) ?_
    obtain ⟨x101, hx102, hm⟩ := bindE hm
    refine WL.call 62 #[.pointer (some ⟨b20, 0, none⟩), .int .i64 11] rfl rfl (by kernel_rfl) (c_62 n code_0 a0' c0' x40.2.1 x40.2.2 b20 11 w42 w w.heap.size [aNest fRepair 73 2 a5 c6 x3.1, aOwn fInt 2 a8 c9 x3.2] hx102 hb47 (Nat.le_refl _) hL48 h0 hle0 hS45) ?_
    rintro _ w103 ⟨rfl, hB107, hS106⟩
    refine ⟨_, rfl, ?_⟩
    have hb108 : Ext w w103 := Below.trans hb47 hB107
    have hL109 : w.heap.size ≤ w103.heap.size := Nat.le_trans hL48 hB107.size
    refine WL.runk 5 [2, 3, 4, 5] [(2, .slice a5 x3.1.length c6), (3, .slice a8 x3.2.length c9), (4, .int .i64 (wI64 (100 * x29.1))), (5, .int .i64 (wI64 (10 * x101.1)))] (by kernel_rfl) ?_
    refine WL.nil ?_
    refine WQ.then_normal (hK100 _ _ _ ?_)
    refine WP.ret ?_
    obtain rfl := Option.some.inj hm
    exact WQ.ret4 _ _ _ _ rfl rfl rfl rfl rfl ⟨_, _, _, _, rfl, hb108, (SH.take 2 (SH.front 2 (SH.front 2 hS106)))⟩
  have hm := iteT hm hc80
  refine WP.seq (fun K81 hK81 => ?_)
  refine WP.region ?_
  refine WL.runk 4 [29, 30, 31, 32] [(29, .slice a5 x3.1.length c6), (30, .slice a8 x3.2.length c9), (31, .int .i64 (wI64 (100 * x29.1))), (32, .pointer (some ⟨b20, 0, none⟩))] (by kernel_rfl) ?_
  refine WL.row fInt 2 ([(-1), 0, 100, 101] : List Int) 4 #[.int .i64 (-1), .int .i64 0, .int .i64 100, .int .i64 101] 33 (by kernel_rfl) rfl rfl rfl rfl rfl rfl rfl ?_
  intro a82 c83 w84 hE85 hR86
  have hb88 : Ext w w84 := Ext.trans hb47 hE85
  have hL89 : w.heap.size ≤ w84.heap.size := Nat.le_trans hL48 hE85.size
  have hS90 : SH w84 w.heap.size [aOwn fInt 2 a82 c83 ([(-1), 0, 100, 101] : List Int), aBox 97 b20 [.slice a0' code_0.length c0', .int .i64 x40.2.1, .int .u64 x40.2.2], aNest fRepair 73 2 a5 c6 x3.1, aOwn fInt 2 a8 c9 x3.2] := SH.add hS45 hE85 hL48 hR86
  obtain ⟨x91, hx92, hm⟩ := bindE hm
  refine WL.call 63 #[.pointer (some ⟨b20, 0, none⟩), .slice a82 (([(-1), 0, 100, 101] : List Int).length) c83] rfl rfl (by kernel_rfl) (c_63_o1 n code_0 a0' c0' x40.2.1 x40.2.2 b20 ([(-1), 0, 100, 101] : List Int) a82 c83 w84 w w.heap.size [aNest fRepair 73 2 a5 c6 x3.1, aOwn fInt 2 a8 c9 x3.2] hx92 hb88 (Nat.le_refl _) hL89 h0 hle0 (SH.front 3 (SH.front 2 (SH.front 3 (SH.front 3 hS90))))) ?_
  rintro _ w93 ⟨rfl, hB97, hS96⟩
  refine ⟨_, rfl, ?_⟩
  have hb98 : Ext w w93 := Below.trans hb88 hB97
  have hL99 : w.heap.size ≤ w93.heap.size := Nat.le_trans hL89 hB97.size
  refine WL.runk 4 [2, 3, 4, 5] [(2, .slice a5 x3.1.length c6), (3, .slice a8 x3.2.length c9), (4, .int .i64 (wI64 (100 * x29.1))), (5, .int .i64 x91.1)] (by kernel_rfl) ?_
  refine WL.nil ?_
  refine WQ.then_normal (hK81 _ _ _ ?_)
  refine WP.ret ?_
  refine WQ.block_ret ?_
  refine WQ.then_ret ?_
  obtain rfl := Option.some.inj hm
  exact WQ.ret4 _ _ _ _ rfl rfl rfl rfl rfl ⟨_, _, _, _, rfl, hb98, (SH.take 2 (SH.front 3 (SH.front 3 hS96)))⟩

theorem c_24 (n : Nat) (list_0 : List SRepair) (a0' : Option Addr) (c0' : Nat) (faults_1 : List Int) (a1' : Option Addr) (c1' : Nat) (value_2 : Int) (percent_3 : Int) (w : World) {r : Bool × Int} (hm : m_impl_IsWorthwhile n list_0 faults_1 value_2 percent_3 = some r) (h0 : Rd fRepair.ty w a0' list_0) (hle0 : list_0.length ≤ c0') (h1 : Rd fInt.ty w a1' faults_1) (hle1 : faults_1.length ≤ c1') :
    CallV Try.prog 24 #[.slice a0' list_0.length c0', .slice a1' faults_1.length c1', .int .i64 value_2, .int .i64 percent_3] w (fun v w' => v = .tuple #[.bool r.1, .int .i64 r.2] ∧ Ext w w') := by
  unfold m_impl_IsWorthwhile at hm
  refine CallV.enter Try.func24 rfl (by kernel_rfl) Try.ntmps24 (env := [(0, .slice a0' list_0.length c0'), (1, .slice a1' faults_1.length c1'), (2, .int .i64 value_2), (3, .int .i64 percent_3)]) ⟨rfl, rfl, rfl, rfl, trivial⟩ ?_
  refine WP.seq (fun K1 hK1 => ?_)
  refine WP.region ?_
  refine WL.runk 2 [0, 1, 2, 3] [(0, .slice a0' list_0.length c0'), (1, .slice a1' faults_1.length c1'), (2, .int .i64 value_2), (3, .int .i64 percent_3)] (by kernel_rfl) ?_
  refine WL.nil ?_
  refine WQ.then_normal (hK1 _ _ _ ?_)
  refine WP.seq (fun K2 hK2 => ?_)
  refine WP.region ?_
  refine WL.runk 2 [0, 1, 2, 3, 12, 13] [(0, .slice a0' list_0.length c0'), (1, .slice a1' faults_1.length c1'), (2, .int .i64 value_2), (3, .int .i64 percent_3), (12, .slice a0' list_0.length c0'), (13, .slice a1' faults_1.length c1')] (by kernel_rfl) ?_
  obtain ⟨x3, hx4, hm⟩ := bindE hm
  refine WL.call 50 #[.slice a0' list_0.length c0', .slice none 0 0, .slice a1' faults_1.length c1'] rfl rfl (by kernel_rfl) (c_50 n list_0 a0' c0' ([] : List Int) none 0 faults_1 a1' c1' w hx4 (Rd.below h0 (Ext.refl w)) hle0 (Rd.nil _ _ _) (Nat.zero_le _) (Rd.below h1 (Ext.refl w)) hle1) ?_
  rintro _ w5 ⟨rfl, hE6⟩
  refine ⟨_, rfl, ?_⟩
  have hb8 : Ext w w5 := Ext.trans (Ext.refl w) hE6
  have hL9 : w.heap.size ≤ w5.heap.size := Nat.le_trans (Nat.le_refl _) hE6.size
  have hS10 : SH w5 w.heap.size [] := SH.ext (SH.nil _ _) hE6
  refine WL.runk 1 [0, 1, 2, 3, 10] [(0, .slice a0' list_0.length c0'), (1, .slice a1' faults_1.length c1'), (2, .int .i64 value_2), (3, .int .i64 percent_3), (10, .int .i64 x3)] (by kernel_rfl) ?_
  refine WL.nil ?_
  refine WQ.then_normal (hK2 _ _ _ ?_)
  refine WP.seq (fun K11 hK11 => ?_)
  refine WP.seq (fun K12 hK12 => ?_)
  obtain ⟨x31, hx32, hm⟩ := bindE hm
  refine WP.cut (fun env' w' => env' = [(0, .slice a0' list_0.length c0'), (1, .slice a1' faults_1.length c1'), (2, .int .i64 value_2), (3, .int .i64 percent_3), (10, .int .i64 x3), (26, .bool x31)] ∧ Ext w w' ∧ w.heap.size ≤ w'.heap.size ∧ SH w' w.heap.size []) ?_ ?_
  · have hm := hx32; clear hx32
    refine WP.region ?_
    refine WL.runk 3 [0, 1, 2, 3, 10, 17] [(0, .slice a0' list_0.length c0'), (1, .slice a1' faults_1.length c1'), (2, .int .i64 value_2), (3, .int .i64 percent_3), (10, .int .i64 x3), (17, .bool (x3 == 0))] (by kernel_rfl) ?_
    refine WL.case (x3 == 0) [17] ⟨rfl, trivial⟩ (fun hc33 => ?_) (fun hc33 => ?_)
    rotate_left
    · have hm := iteF hm hc33
      refine WL.runk 9 [0, 1, 2, 3, 10, 26] [(0, .slice a0' list_0.length c0'), (1, .slice a1' faults_1.length c1'), (2, .int .i64 value_2), (3, .int .i64 percent_3), (10, .int .i64 x3), (26, .bool false)] (by kernel_rfl) ?_
      refine WL.nil ?_
      obtain rfl := Option.some.inj hm
      exact WQ.post' ⟨rfl, hb8, hL9, hS10⟩ ⟨rfl, rfl, rfl, rfl, rfl, rfl, trivial⟩
    have hm := iteT hm hc33
    refine WL.runk 1 [0, 1, 2, 3, 10, 17, 18] [(0, .slice a0' list_0.length c0'), (1, .slice a1' faults_1.length c1'), (2, .int .i64 value_2), (3, .int .i64 percent_3), (10, .int .i64 x3), (17, .bool true), (18, .int .i64 value_2)] (by kernel_rfl) ?_
    obtain ⟨x34, hx35, hm⟩ := bindE hm
    refine WL.call 64 #[.int .i64 value_2, .int .i64 0, .int .i64 100000] rfl rfl (by kernel_rfl) (c_64 n value_2 0 100000 w5 hx35 ) ?_
    rintro _ w36 ⟨rfl, hE37⟩
    refine ⟨_, rfl, ?_⟩
    have hb39 : Ext w w36 := Ext.trans hb8 hE37
    have hL40 : w.heap.size ≤ w36.heap.size := Nat.le_trans hL9 hE37.size
    have hS41 : SH w36 w.heap.size [] := SH.ext hS10 hE37
    refine WL.runk 2 [0, 1, 2, 3, 10, 17, 21] [(0, .slice a0' list_0.length c0'), (1, .slice a1' faults_1.length c1'), (2, .int .i64 value_2), (3, .int .i64 percent_3), (10, .int .i64 x3), (17, .bool true), (21, .bool (!x34))] (by kernel_rfl) ?_
    refine WL.case (!x34) [21] ⟨rfl, trivial⟩ (fun hc42 => ?_) (fun hc42 => ?_)
    · have hm := iteT hm hc42
      refine WL.runk 5 [0, 1, 2, 3, 10, 26] [(0, .slice a0' list_0.length c0'), (1, .slice a1' faults_1.length c1'), (2, .int .i64 value_2), (3, .int .i64 percent_3), (10, .int .i64 x3), (26, .bool true)] (by kernel_rfl) ?_
      refine WL.nil ?_
      obtain rfl := Option.some.inj hm
      exact WQ.post' ⟨rfl, hb39, hL40, hS41⟩ ⟨rfl, rfl, rfl, rfl, rfl, rfl, trivial⟩
    have hm := iteF hm hc42
    refine WL.runk 1 [0, 1, 2, 3, 10, 17, 21, 22] [(0, .slice a0' list_0.length c0'), (1, .slice a1' faults_1.length c1'), (2, .int .i64 value_2), (3, .int .i64 percent_3), (10, .int .i64 x3), (17, .bool true), (21, .bool false), (22, .int .i64 percent_3)] (by kernel_rfl) ?_
    obtain ⟨x43, hx44, hm⟩ := bindE hm
    refine WL.call 64 #[.int .i64 percent_3, .int .i64 0, .int .i64 100] rfl rfl (by kernel_rfl) (c_64 n percent_3 0 100 w36 hx44 ) ?_
    rintro _ w45 ⟨rfl, hE46⟩
    refine ⟨_, rfl, ?_⟩
    have hb48 : Ext w w45 := Ext.trans hb39 hE46
    have hL49 : w.heap.size ≤ w45.heap.size := Nat.le_trans hL40 hE46.size
    have hS50 : SH w45 w.heap.size [] := SH.ext hS41 hE46
    refine WL.runk 3 [0, 1, 2, 3, 10, 26] [(0, .slice a0' list_0.length c0'), (1, .slice a1' faults_1.length c1'), (2, .int .i64 value_2), (3, .int .i64 percent_3), (10, .int .i64 x3), (26, .bool (!x43))] (by kernel_rfl) ?_
    refine WL.nil ?_
    obtain rfl := Option.some.inj hm
    exact WQ.post' ⟨rfl, hb48, hL49, hS50⟩ ⟨rfl, rfl, rfl, rfl, rfl, rfl, trivial⟩
  clear hx32
  rintro _ w51 ⟨rfl, hb52, hL53, hS54⟩
  refine WQ.then_normal (hK12 _ _ _ ?_)
  obtain ⟨x56, hx57, hm⟩ := bindE hm
  refine WP.cut (fun env' w' => env' = [(0, .slice a0' list_0.length c0'), (1, .slice a1' faults_1.length c1'), (2, .int .i64 value_2), (3, .int .i64 percent_3), (10, .int .i64 x56)] ∧ Ext w w' ∧ w.heap.size ≤ w'.heap.size ∧ SH w' w.heap.size []) ?_ ?_
  · have hm := hx57; clear hx57
    refine WP.cond x31 rfl rfl (fun hc55 => ?_) (fun hc55 => ?_)
    rotate_left
    · have hm := iteF hm hc55
      refine WP.skip ?_
      obtain rfl := Option.some.inj hm
      exact WQ.post' ⟨rfl, hb52, hL53, hS54⟩ ⟨rfl, rfl, rfl, rfl, rfl, trivial⟩
    have hm := iteT hm hc55
    refine WP.region ?_
    refine WL.runk 1 [0, 1, 2, 3, 10] [(0, .slice a0' list_0.length c0'), (1, .slice a1' faults_1.length c1'), (2, .int .i64 value_2), (3, .int .i64 percent_3), (10, .int .i64 2)] (by kernel_rfl) ?_
    refine WL.nil ?_
    obtain rfl := Option.some.inj hm
    exact WQ.post' ⟨rfl, hb52, hL53, hS54⟩ ⟨rfl, rfl, rfl, rfl, rfl, trivial⟩
  clear hx57
  rintro _ w58 ⟨rfl, hb59, hL60, hS61⟩
  refine WQ.then_normal (hK11 _ _ _ ?_)
  refine WP.seq (fun K62 hK62 => ?_)
  refine WP.seq (fun K63 hK63 => ?_)
  refine WP.region ?_
  refine WL.runk 2 [0, 1, 2, 3, 10, 28] [(0, .slice a0' list_0.length c0'), (1, .slice a1' faults_1.length c1'), (2, .int .i64 value_2), (3, .int .i64 percent_3), (10, .int .i64 x56), (28, .bool (x56 != 0))] (by kernel_rfl) ?_
  refine WL.nil ?_
  refine WQ.then_normal (hK63 _ _ _ ?_)
  refine WP.cond (x56 != 0) rfl rfl (fun hc64 => ?_) (fun hc64 => ?_)
  · have hm := iteT hm hc64
    refine WP.seq (fun K65 hK65 => ?_)
    refine WP.region ?_
    refine WL.runk 3 [8, 9] [(8, .bool false), (9, .int .i64 x56)] (by kernel_rfl) ?_
    refine WL.nil ?_
    refine WQ.then_normal (hK65 _ _ _ ?_)
    refine WP.ret ?_
    refine WQ.then_ret ?_
    obtain rfl := Option.some.inj hm
    exact WQ.ret2 _ _ rfl rfl rfl ⟨rfl, hb59⟩
  have hm := iteF hm hc64
  refine WP.skip ?_
  refine WQ.then_normal (hK62 _ _ _ ?_)
  refine WP.seq (fun K66 hK66 => ?_)
  refine WP.region ?_
  refine WL.runk 2 [0, 2, 3, 31, 32] [(0, .slice a0' list_0.length c0'), (2, .int .i64 value_2), (3, .int .i64 percent_3), (31, .slice a0' list_0.length c0'), (32, .slice a1' faults_1.length c1')] (by kernel_rfl) ?_
  obtain ⟨x67, hx68, hm⟩ := bindE hm
  refine WL.call 19 #[.slice a0' list_0.length c0', .slice a1' faults_1.length c1'] rfl rfl (by kernel_rfl) (c_19 n list_0 a0' c0' faults_1 a1' c1' w58 hx68 (Rd.below h0 hb59) hle0 (Rd.below h1 hb59) hle1) ?_
  rintro _ w72 ⟨a69, c70, rfl, hE73, hR74⟩
  refine ⟨_, rfl, ?_⟩
  have hb75 : Ext w w72 := Ext.trans hb59 hE73
  have hL76 : w.heap.size ≤ w72.heap.size := Nat.le_trans hL60 hE73.size
  have hS77 : SH w72 w.heap.size [aOwn fInt 2 a69 c70 x67.1] := SH.add hS61 hE73 hL60 hR74
  refine WL.runk 5 [0, 2, 3, 10, 11] [(0, .slice a0' list_0.length c0'), (2, .int .i64 value_2), (3, .int .i64 percent_3), (11, .slice a69 x67.1.length c70), (10, .int .i64 x67.2)] (by kernel_rfl) ?_
  refine WL.nil ?_
  refine WQ.then_normal (hK66 _ _ _ ?_)
  refine WP.seq (fun K78 hK78 => ?_)
  refine WP.seq (fun K79 hK79 => ?_)
  refine WP.region ?_
  refine WL.runk 2 [0, 2, 3, 10, 11, 37] [(0, .slice a0' list_0.length c0'), (2, .int .i64 value_2), (3, .int .i64 percent_3), (11, .slice a69 x67.1.length c70), (10, .int .i64 x67.2), (37, .bool (x67.2 != 0))] (by kernel_rfl) ?_
  refine WL.nil ?_
  refine WQ.then_normal (hK79 _ _ _ ?_)
  refine WP.cond (x67.2 != 0) rfl rfl (fun hc80 => ?_) (fun hc80 => ?_)
  · have hm := iteT hm hc80
    refine WP.seq (fun K81 hK81 => ?_)
    refine WP.region ?_
    refine WL.runk 3 [8, 9] [(8, .bool false), (9, .int .i64 x67.2)] (by kernel_rfl) ?_
    refine WL.nil ?_
    refine WQ.then_normal (hK81 _ _ _ ?_)
    refine WP.ret ?_
    refine WQ.then_ret ?_
    obtain rfl := Option.some.inj hm
    exact WQ.ret2 _ _ rfl rfl rfl ⟨rfl, hb75⟩
  have hm := iteF hm hc80
  refine WP.skip ?_
  refine WQ.then_normal (hK78 _ _ _ ?_)
  refine WP.seq (fun K82 hK82 => ?_)
  refine WP.region ?_
  refine WL.runk 2 [2, 3, 39, 40] [(2, .int .i64 value_2), (3, .int .i64 percent_3), (39, .slice a0' list_0.length c0'), (40, .slice a69 x67.1.length c70)] (by kernel_rfl) ?_
  obtain ⟨x83, hx84, hm⟩ := bindE hm
  refine WL.call 55 #[.slice a0' list_0.length c0', .slice a69 x67.1.length c70] rfl rfl (by kernel_rfl) (c_55 n list_0 a0' c0' x67.1 a69 c70 w72 hx84 (Rd.below h0 hb75) hle0 (SH.rd (SH.front 0 hS77)) (SH.le (SH.front 0 hS77)).1) ?_
  rintro _ w85 ⟨rfl, hE86⟩
  refine ⟨_, rfl, ?_⟩
  have hb88 : Ext w w85 := Ext.trans hb75 hE86
  have hL89 : w.heap.size ≤ w85.heap.size := Nat.le_trans hL76 hE86.size
  have hS90 : SH w85 w.heap.size [aOwn fInt 2 a69 c70 x67.1] := SH.ext hS77 hE86
  refine WL.runk 7 [8, 9] [(8, .bool (decide ((wI64 (100 * x83)) ≤ (wI64 (value_2 * percent_3))))), (9, .int .i64 0)] (by kernel_rfl) ?_
  refine WL.nil ?_
  refine WQ.then_normal (hK82 _ _ _ ?_)
  refine WP.ret ?_
  obtain rfl := Option.some.inj hm
  exact WQ.ret2 _ _ rfl rfl rfl ⟨rfl, hb88⟩

theorem c_25 (n : Nat) (list_0 : List SRepair) (a0' : Option Addr) (c0' : Nat) (faults_1 : List Int) (a1' : Option Addr) (c1' : Nat) (value_2 : Int) (percent_3 : Int) (w : World) {r : Bool × Int} (hm : m_spec_IsWorthwhile n list_0 faults_1 value_2 percent_3 = some r) (h0 : Rd fRepair.ty w a0' list_0) (hle0 : list_0.length ≤ c0') (h1 : Rd fInt.ty w a1' faults_1) (hle1 : faults_1.length ≤ c1') :
    CallV Try.prog 25 #[.slice a0' list_0.length c0', .slice a1' faults_1.length c1', .int .i64 value_2, .int .i64 percent_3] w (fun v w' => v = .tuple #[.bool r.1, .int .i64 r.2] ∧ Ext w w') := by
  unfold m_spec_IsWorthwhile at hm
  refine CallV.enter Try.func25 rfl (by kernel_rfl) Try.ntmps25 (env := [(0, .slice a0' list_0.length c0'), (1, .slice a1' faults_1.length c1'), (2, .int .i64 value_2), (3, .int .i64 percent_3)]) ⟨rfl, rfl, rfl, rfl, trivial⟩ ?_
  refine WP.seq (fun K1 hK1 => ?_)
  refine WP.region ?_
  refine WL.runk 2 [0, 1, 2, 3] [(0, .slice a0' list_0.length c0'), (1, .slice a1' faults_1.length c1'), (2, .int .i64 value_2), (3, .int .i64 percent_3)] (by kernel_rfl) ?_
  refine WL.nil ?_
  refine WQ.then_normal (hK1 _ _ _ ?_)
  refine WP.seq (fun K2 hK2 => ?_)
  refine WP.region ?_
  refine WL.runk 1 [0, 1, 2, 3, 13] [(0, .slice a0' list_0.length c0'), (1, .slice a1' faults_1.length c1'), (2, .int .i64 value_2), (3, .int .i64 percent_3), (13, .slice a0' list_0.length c0')] (by kernel_rfl) ?_
  refine WL.row fInt 2 ([] : List Int) 0 #[] 14 (by kernel_rfl) rfl rfl rfl rfl rfl rfl rfl ?_
  intro a3 c4 w5 hE6 hR7
  have hb9 : Ext w w5 := Ext.trans (Ext.refl w) hE6
  have hL10 : w.heap.size ≤ w5.heap.size := Nat.le_trans (Nat.le_refl _) hE6.size
  have hS11 : SH w5 w.heap.size [aOwn fInt 2 a3 c4 ([] : List Int)] := SH.add (SH.nil _ _) hE6 (Nat.le_refl _) hR7
  refine WL.runk 1 [0, 1, 2, 3, 13, 14, 15] [(0, .slice a0' list_0.length c0'), (1, .slice a1' faults_1.length c1'), (2, .int .i64 value_2), (3, .int .i64 percent_3), (13, .slice a0' list_0.length c0'), (14, .slice a3 (([] : List Int).length) c4), (15, .slice a1' faults_1.length c1')] (by kernel_rfl) ?_
  obtain ⟨x12, hx13, hm⟩ := bindE hm
  refine WL.call 52 #[.slice a0' list_0.length c0', .slice a3 (([] : List Int).length) c4, .slice a1' faults_1.length c1'] rfl rfl (by kernel_rfl) (c_52 n list_0 a0' c0' ([] : List Int) a3 c4 faults_1 a1' c1' w5 hx13 (Rd.below h0 hb9) hle0 (SH.rd (SH.front 0 hS11)) (SH.le (SH.front 0 hS11)).1 (Rd.below h1 hb9) hle1) ?_
  rintro _ w14 ⟨rfl, hE15⟩
  refine ⟨_, rfl, ?_⟩
  have hb17 : Ext w w14 := Ext.trans hb9 hE15
  have hL18 : w.heap.size ≤ w14.heap.size := Nat.le_trans hL10 hE15.size
  have hS19 : SH w14 w.heap.size [aOwn fInt 2 a3 c4 ([] : List Int)] := SH.ext hS11 hE15
  refine WL.runk 1 [0, 1, 2, 3, 10] [(0, .slice a0' list_0.length c0'), (1, .slice a1' faults_1.length c1'), (2, .int .i64 value_2), (3, .int .i64 percent_3), (10, .int .i64 x12)] (by kernel_rfl) ?_
  refine WL.nil ?_
  refine WQ.then_normal (hK2 _ _ _ ?_)
  refine WP.seq (fun K20 hK20 => ?_)
  refine WP.seq (fun K21 hK21 => ?_)
  obtain ⟨x40, hx41, hm⟩ := bindE hm
  refine WP.cut (fun env' w' => env' = [(0, .slice a0' list_0.length c0'), (1, .slice a1' faults_1.length c1'), (2, .int .i64 value_2), (3, .int .i64 percent_3), (10, .int .i64 x12), (28, .bool x40)] ∧ Ext w w' ∧ w.heap.size ≤ w'.heap.size ∧ SH w' w.heap.size []) ?_ ?_
  · have hm := hx41; clear hx41
    refine WP.region ?_
    refine WL.runk 3 [0, 1, 2, 3, 10, 19] [(0, .slice a0' list_0.length c0'), (1, .slice a1' faults_1.length c1'), (2, .int .i64 value_2), (3, .int .i64 percent_3), (10, .int .i64 x12), (19, .bool (x12 == 0))] (by kernel_rfl) ?_
    refine WL.case (x12 == 0) [19] ⟨rfl, trivial⟩ (fun hc42 => ?_) (fun hc42 => ?_)
    rotate_left
    · have hm := iteF hm hc42
      refine WL.runk 9 [0, 1, 2, 3, 10, 28] [(0, .slice a0' list_0.length c0'), (1, .slice a1' faults_1.length c1'), (2, .int .i64 value_2), (3, .int .i64 percent_3), (10, .int .i64 x12), (28, .bool false)] (by kernel_rfl) ?_
      refine WL.nil ?_
      obtain rfl := Option.some.inj hm
      exact WQ.post' ⟨rfl, hb17, hL18, (SH.take 0 hS19)⟩ ⟨rfl, rfl, rfl, rfl, rfl, rfl, trivial⟩
    have hm := iteT hm hc42
    refine WL.runk 1 [0, 1, 2, 3, 10, 19, 20] [(0, .slice a0' list_0.length c0'), (1, .slice a1' faults_1.length c1'), (2, .int .i64 value_2), (3, .int .i64 percent_3), (10, .int .i64 x12), (19, .bool true), (20, .int .i64 value_2)] (by kernel_rfl) ?_
    obtain ⟨x43, hx44, hm⟩ := bindE hm
    refine WL.call 65 #[.int .i64 value_2, .int .i64 0, .int .i64 100000] rfl rfl (by kernel_rfl) (c_65 n value_2 0 100000 w14 hx44 ) ?_
    rintro _ w45 ⟨rfl, hE46⟩
    refine ⟨_, rfl, ?_⟩
    have hb48 : Ext w w45 := Ext.trans hb17 hE46
    have hL49 : w.heap.size ≤ w45.heap.size := Nat.le_trans hL18 hE46.size
    have hS50 : SH w45 w.heap.size [aOwn fInt 2 a3 c4 ([] : List Int)] := SH.ext hS19 hE46
    refine WL.runk 2 [0, 1, 2, 3, 10, 19, 23] [(0, .slice a0' list_0.length c0'), (1, .slice a1' faults_1.length c1'), (2, .int .i64 value_2), (3, .int .i64 percent_3), (10, .int .i64 x12), (19, .bool true), (23, .bool (!x43))] (by kernel_rfl) ?_
    refine WL.case (!x43) [23] ⟨rfl, trivial⟩ (fun hc51 => ?_) (fun hc51 => ?_)
    · have hm := iteT hm hc51
      refine WL.runk 5 [0, 1, 2, 3, 10, 28] [(0, .slice a0' list_0.length c0'), (1, .slice a1' faults_1.length c1'), (2, .int .i64 value_2), (3, .int .i64 percent_3), (10, .int .i64 x12), (28, .bool true)] (by kernel_rfl) ?_
      refine WL.nil ?_
      obtain rfl := Option.some.inj hm
      exact WQ.post' ⟨rfl, hb48, hL49, (SH.take 0 hS50)⟩ ⟨rfl, rfl, rfl, rfl, rfl, rfl, trivial⟩
    have hm := iteF hm hc51
    refine WL.runk 1 [0, 1, 2, 3, 10, 19, 23, 24] [(0, .slice a0' list_0.length c0'), (1, .slice a1' faults_1.length c1'), (2, .int .i64 value_2), (3, .int .i64 percent_3), (10, .int .i64 x12), (19, .bool true), (23, .bool false), (24, .int .i64 percent_3)] (by kernel_rfl) ?_
    obtain ⟨x52, hx53, hm⟩ := bindE hm
    refine WL.call 65 #[.int .i64 percent_3, .int .i64 0, .int .i64 100] rfl rfl (by kernel_rfl) (c_65 n percent_3 0 100 w45 hx53 ) ?_
    rintro _ w54 ⟨rfl, hE55⟩
    refine ⟨_, rfl, ?_⟩
    have hb57 : Ext w w54 := Ext.trans hb48 hE55
    have hL58 : w.heap.size ≤ w54.heap.size := Nat.le_trans hL49 hE55.size
    have hS59 : SH w54 w.heap.size [aOwn fInt 2 a3 c4 ([] : List Int)] := SH.ext hS50 hE55
    refine WL.runk 3 [0, 1, 2, 3, 10, 28] [(0, .slice a0' list_0.length c0'), (1, .slice a1' faults_1.length c1'), (2, .int .i64 value_2), (3, .int .i64 percent_3), (10, .int .i64 x12), (28, .bool (!x52))] (by kernel_rfl) ?_
    refine WL.nil ?_
    obtain rfl := Option.some.inj hm
    exact WQ.post' ⟨rfl, hb57, hL58, (SH.take 0 hS59)⟩ ⟨rfl, rfl, rfl, rfl, rfl, rfl, trivial⟩
  clear hx41
  rintro _ w60 ⟨rfl, hb61, hL62, hS63⟩
  refine WQ.then_normal (hK21 _ _ _ ?_)
  obtain ⟨x65, hx66, hm⟩ := bindE hm
  refine WP.cut (fun env' w' => env' = [(0, .slice a0' list_0.length c0'), (1, .slice a1' faults_1.length c1'), (2, .int .i64 value_2), (3, .int .i64 percent_3), (10, .int .i64 x65)] ∧ Ext w w' ∧ w.heap.size ≤ w'.heap.size ∧ SH w' w.heap.size []) ?_ ?_
  · have hm := hx66; clear hx66
    refine WP.cond x40 rfl rfl (fun hc64 => ?_) (fun hc64 => ?_)
    rotate_left
    · have hm := iteF hm hc64
      refine WP.skip ?_
      obtain rfl := Option.some.inj hm
      exact WQ.post' ⟨rfl, hb61, hL62, hS63⟩ ⟨rfl, rfl, rfl, rfl, rfl, trivial⟩
    have hm := iteT hm hc64
    refine WP.region ?_
    refine WL.runk 1 [0, 1, 2, 3, 10] [(0, .slice a0' list_0.length c0'), (1, .slice a1' faults_1.length c1'), (2, .int .i64 value_2), (3, .int .i64 percent_3), (10, .int .i64 2)] (by kernel_rfl) ?_
    refine WL.nil ?_
    obtain rfl := Option.some.inj hm
    exact WQ.post' ⟨rfl, hb61, hL62, hS63⟩ ⟨rfl, rfl, rfl, rfl, rfl, trivial⟩
  clear hx66
  rintro _ w67 ⟨rfl, hb68, hL69, hS70⟩
  refine WQ.then_normal (hK20 _ _ _ ?_)
  refine WP.seq (fun K71 hK71 => ?_)
  refine WP.seq (fun K72 hK72 => ?_)
  refine WP.region ?_
  refine WL.runk 2 [0, 1, 2, 3, 10, 30] [(0, .slice a0' list_0.length c0'), (1, .slice a1' faults_1.length c1'), (2, .int .i64 value_2), (3, .int .i64 percent_3), (10, .int .i64 x65), (30, .bool (x65 != 0))] (by kernel_rfl) ?_
  refine WL.nil ?_
  refine WQ.then_normal (hK72 _ _ _ ?_)
  refine WP.cond (x65 != 0) rfl rfl (fun hc73 => ?_) (fun hc73 => ?_)
  · have hm := iteT hm hc73
    refine WP.seq (fun K74 hK74 => ?_)
    refine WP.region ?_
    refine WL.runk 3 [8, 9] [(8, .bool false), (9, .int .i64 x65)] (by kernel_rfl) ?_
    refine WL.nil ?_
    refine WQ.then_normal (hK74 _ _ _ ?_)
    refine WP.ret ?_
    refine WQ.then_ret ?_
    obtain rfl := Option.some.inj hm
    exact WQ.ret2 _ _ rfl rfl rfl ⟨rfl, hb68⟩
  have hm := iteF hm hc73
  refine WP.skip ?_
  refine WQ.then_normal (hK71 _ _ _ ?_)
  refine WP.seq (fun K75 hK75 => ?_)
  refine WP.region ?_
  refine WL.runk 2 [0, 2, 3, 33, 34] [(0, .slice a0' list_0.length c0'), (2, .int .i64 value_2), (3, .int .i64 percent_3), (33, .slice a0' list_0.length c0'), (34, .slice a1' faults_1.length c1')] (by kernel_rfl) ?_
  obtain ⟨x76, hx77, hm⟩ := bindE hm
  refine WL.call 57 #[.slice a0' list_0.length c0', .slice a1' faults_1.length c1'] rfl rfl (by kernel_rfl) (c_57 n list_0 a0' c0' faults_1 a1' c1' w67 hx77 (Rd.below h0 hb68) hle0 (Rd.below h1 hb68) hle1) ?_
  rintro _ w81 ⟨a78, c79, rfl, hE82, hR83⟩
  refine ⟨_, rfl, ?_⟩
  have hb84 : Ext w w81 := Ext.trans hb68 hE82
  have hL85 : w.heap.size ≤ w81.heap.size := Nat.le_trans hL69 hE82.size
  have hS86 : SH w81 w.heap.size [aOwn fInt 2 a78 c79 x76.1] := SH.add hS70 hE82 hL69 hR83
  refine WL.runk 5 [0, 2, 3, 11, 12] [(0, .slice a0' list_0.length c0'), (2, .int .i64 value_2), (3, .int .i64 percent_3), (11, .slice a78 x76.1.length c79), (12, .bool x76.2)] (by kernel_rfl) ?_
  refine WL.nil ?_
  refine WQ.then_normal (hK75 _ _ _ ?_)
  refine WP.seq (fun K87 hK87 => ?_)
  refine WP.seq (fun K88 hK88 => ?_)
  refine WP.region ?_
  refine WL.runk 2 [0, 2, 3, 11, 39] [(0, .slice a0' list_0.length c0'), (2, .int .i64 value_2), (3, .int .i64 percent_3), (11, .slice a78 x76.1.length c79), (39, .bool (!x76.2))] (by kernel_rfl) ?_
  refine WL.nil ?_
  refine WQ.then_normal (hK88 _ _ _ ?_)
  refine WP.cond (!x76.2) rfl rfl (fun hc89 => ?_) (fun hc89 => ?_)
  · have hm := iteT hm hc89
    refine WP.seq (fun K90 hK90 => ?_)
    refine WP.region ?_
    refine WL.runk 2 [8, 9] [(8, .bool false), (9, .int .i64 3)] (by kernel_rfl) ?_
    refine WL.nil ?_
    refine WQ.then_normal (hK90 _ _ _ ?_)
    refine WP.ret ?_
    refine WQ.then_ret ?_
    obtain rfl := Option.some.inj hm
    exact WQ.ret2 _ _ rfl rfl rfl ⟨rfl, hb84⟩
  have hm := iteF hm hc89
  refine WP.skip ?_
  refine WQ.then_normal (hK87 _ _ _ ?_)
  refine WP.seq (fun K91 hK91 => ?_)
  refine WP.region ?_
  refine WL.runk 2 [2, 3, 40, 41] [(2, .int .i64 value_2), (3, .int .i64 percent_3), (40, .slice a0' list_0.length c0'), (41, .slice a78 x76.1.length c79)] (by kernel_rfl) ?_
  obtain ⟨x92, hx93, hm⟩ := bindE hm
  refine WL.call 66 #[.slice a0' list_0.length c0', .slice a78 x76.1.length c79] rfl rfl (by kernel_rfl) (c_66 n list_0 a0' c0' x76.1 a78 c79 w81 hx93 (Rd.below h0 hb84) hle0 (SH.rd (SH.front 0 hS86)) (SH.le (SH.front 0 hS86)).1) ?_
  rintro _ w94 ⟨rfl, hE95⟩
  refine ⟨_, rfl, ?_⟩
  have hb97 : Ext w w94 := Ext.trans hb84 hE95
  have hL98 : w.heap.size ≤ w94.heap.size := Nat.le_trans hL85 hE95.size
  have hS99 : SH w94 w.heap.size [aOwn fInt 2 a78 c79 x76.1] := SH.ext hS86 hE95
  refine WL.runk 7 [8, 9] [(8, .bool (decide ((wI64 (100 * x92)) ≤ (wI64 (value_2 * percent_3))))), (9, .int .i64 0)] (by kernel_rfl) ?_
  refine WL.nil ?_
  refine WQ.then_normal (hK91 _ _ _ ?_)
  refine WP.ret ?_
  obtain rfl := Option.some.inj hm
  exact WQ.ret2 _ _ rfl rfl rfl ⟨rfl, hb97⟩

theorem c_26 (n : Nat) (a_0 : List Int) (a0' : Option Addr) (c0' : Nat) (b_1 : List Int) (a1' : Option Addr) (c1' : Nat) (w : World) {r : Bool} (hm : m_laws_f6ints n a_0 b_1 = some r) (h0 : Rd fInt.ty w a0' a_0) (_hle0 : a_0.length ≤ c0') (h1 : Rd fInt.ty w a1' b_1) (_hle1 : b_1.length ≤ c1') :
    CallV Try.prog 26 #[.slice a0' a_0.length c0', .slice a1' b_1.length c1'] w (fun v w' => v = .bool r ∧ Ext w w') := by
  unfold m_laws_f6ints at hm
  refine CallV.enter Try.func26 rfl (by kernel_rfl) Try.ntmps26 (env := [(0, .slice a0' a_0.length c0'), (1, .slice a1' b_1.length c1')]) ⟨rfl, rfl, trivial⟩ ?_
  refine WP.seq (fun K1 hK1 => ?_)
  refine WP.region ?_
  refine WL.runk 1 [0, 1] [(0, .slice a0' a_0.length c0'), (1, .slice a1' b_1.length c1')] (by kernel_rfl) ?_
  refine WL.nil ?_
  refine WQ.then_normal (hK1 _ _ _ ?_)
  refine WP.seq (fun K2 hK2 => ?_)
  refine WP.seq (fun K3 hK3 => ?_)
  refine WP.region ?_
  refine WL.runk 5 [0, 1, 10] [(0, .slice a0' a_0.length c0'), (1, .slice a1' b_1.length c1'), (10, .bool ((a_0.length : Int) != (b_1.length : Int)))] (by kernel_rfl) ?_
  refine WL.nil ?_
  refine WQ.then_normal (hK3 _ _ _ ?_)
  refine WP.cond ((a_0.length : Int) != (b_1.length : Int)) rfl rfl (fun hc4 => ?_) (fun hc4 => ?_)
  · have hm := iteT hm hc4
    refine WP.seq (fun K5 hK5 => ?_)
    refine WP.region ?_
    refine WL.runk 1 [4] [(4, .bool false)] (by kernel_rfl) ?_
    refine WL.nil ?_
    refine WQ.then_normal (hK5 _ _ _ ?_)
    refine WP.ret ?_
    refine WQ.then_ret ?_
    obtain rfl := Option.some.inj hm
    exact WQ.ret1 _ rfl rfl ⟨rfl, (Ext.refl w)⟩
  have hm := iteF hm hc4
  refine WP.skip ?_
  refine WQ.then_normal (hK2 _ _ _ ?_)
  refine WP.seq (fun K6 hK6 => ?_)
  refine WP.seq (fun K7 hK7 => ?_)
  refine WP.region ?_
  refine WL.runk 1 [0, 1, 5] [(0, .slice a0' a_0.length c0'), (1, .slice a1' b_1.length c1'), (5, .int .i64 0)] (by kernel_rfl) ?_
  refine WL.nil ?_
  refine WQ.then_normal (hK7 _ _ _ ?_)
  refine WP.block ?_
  obtain ⟨t19, ht20, hm⟩ := bindE hm
  have hmo14 := hm; clear hm
  refine WP.sub [(0, .slice a0' a_0.length c0'), (1, .slice a1' b_1.length c1'), (5, .int .i64 0)] ⟨rfl, rfl, rfl, trivial⟩ ?_
  refine WP.loop (fun n' env' w' => ∃ (st8 : Int) , env' = [(0, .slice a0' a_0.length c0'), (1, .slice a1' b_1.length c1'), (5, .int .i64 st8)] ∧ Ext w w' ∧ w.heap.size ≤ w'.heap.size ∧ SH w' w.heap.size [] ∧ loopN (m_laws_f6ints_l1 n a_0 b_1) n' st8 = some t19) n ⟨0, rfl, (Ext.refl w), (Nat.le_refl _), (SH.nil _ _), ht20⟩ ?_
  rintro n16 _ w9 ⟨st8, rfl, hb10, hL11, hS12, hl13⟩ K15 hK15
  obtain ⟨n17, s18, rfl, hm, hl13⟩ := loopN_some hl13
  unfold m_laws_f6ints_l1 at hm
  refine WP.seq (fun K21 hK21 => ?_)
  refine WP.seq (fun K22 hK22 => ?_)
  refine WP.region ?_
  refine WL.runk 4 [0, 1, 5, 14] [(0, .slice a0' a_0.length c0'), (1, .slice a1' b_1.length c1'), (5, .int .i64 st8), (14, .bool (decide (st8 < (a_0.length : Int))))] (by kernel_rfl) ?_
  refine WL.nil ?_
  refine WQ.then_normal (hK22 _ _ _ ?_)
  refine WP.cond (decide (st8 < (a_0.length : Int))) rfl rfl (fun hc23 => ?_) (fun hc23 => ?_)
  rotate_left
  · have hm := iteF hm hc23
    refine WP.exit ?_
    refine WQ.then_exit ?_
    refine WQ.then_exit ?_
    refine WQ.block_here ?_
    obtain rfl := Option.some.inj hm
    obtain rfl := afterN_done hl13
    have hm := hmo14
    refine WQ.then_normal (hK6 _ _ _ ?_)
    refine WP.seq (fun K37 hK37 => ?_)
    refine WP.region ?_
    refine WL.runk 1 [4] [(4, .bool true)] (by kernel_rfl) ?_
    refine WL.nil ?_
    refine WQ.then_normal (hK37 _ _ _ ?_)
    refine WP.ret ?_
    obtain rfl := Option.some.inj hm
    exact WQ.ret1 _ rfl rfl ⟨rfl, hb10⟩
  have hm := iteT hm hc23
  refine WP.skip ?_
  refine WQ.then_normal (hK21 _ _ _ ?_)
  refine WP.seq (fun K24 hK24 => ?_)
  refine WP.block ?_
  refine WP.seq (fun K25 hK25 => ?_)
  refine WP.quiet (by kernel_rfl) (by kernel_rfl) ?_
  refine QL.step1v 17 (.slice a0' a_0.length c0') rfl (fun _ => by kernel_rfl) ?_
  refine QL.step1v 18 (.int .i64 st8) rfl (fun _ => by kernel_rfl) ?_
  refine QL.subk [0, 1, 5, 17, 18] [(0, .slice a0' a_0.length c0'), (1, .slice a1' b_1.length c1'), (5, .int .i64 st8), (17, .slice a0' a_0.length c0'), (18, .int .i64 st8)] (by kernel_rfl) ?_
  obtain ⟨x26, hx27, hm⟩ := bindE hm
  refine QL.st (.pointer (some (at_ a0' (Int.toNat st8 * 1)))) (ST.index (T := fInt.ty) (xs := a_0) (Rd.below h0 hb10) hx27 rfl rfl rfl Try.underlying25 (info2).1 (info2).2.1) rfl rfl rfl ?_
  refine QL.st (.int .i64 x26) (ST.load (cell_ext (Rd.flat (F := fInt) (Rd.below h0 hb10) hx27 0 rfl)) rfl rfl Try.underlying2 rfl) rfl rfl rfl ?_
  refine QL.step1v 21 (.slice a1' b_1.length c1') rfl (fun _ => by kernel_rfl) ?_
  refine QL.step1v 22 (.int .i64 st8) rfl (fun _ => by kernel_rfl) ?_
  refine QL.subk [0, 1, 5, 20, 21, 22] [(0, .slice a0' a_0.length c0'), (1, .slice a1' b_1.length c1'), (5, .int .i64 st8), (20, .int .i64 x26), (21, .slice a1' b_1.length c1'), (22, .int .i64 st8)] (by kernel_rfl) ?_
  obtain ⟨x28, hx29, hm⟩ := bindE hm
  refine QL.st (.pointer (some (at_ a1' (Int.toNat st8 * 1)))) (ST.index (T := fInt.ty) (xs := b_1) (Rd.below h1 hb10) hx29 rfl rfl rfl Try.underlying25 (info2).1 (info2).2.1) rfl rfl rfl ?_
  refine QL.st (.int .i64 x28) (ST.load (cell_ext (Rd.flat (F := fInt) (Rd.below h1 hb10) hx29 0 rfl)) rfl rfl Try.underlying2 rfl) rfl rfl rfl ?_
  refine QL.step1v 25 (.bool (x26 != x28)) rfl (fun _ => by kernel_rfl) ?_
  refine QL.subk [0, 1, 5, 25] [(0, .slice a0' a_0.length c0'), (1, .slice a1' b_1.length c1'), (5, .int .i64 st8), (25, .bool (x26 != x28))] (by kernel_rfl) ?_
  refine QL.nil ?_
  intro w30 hE31
  have hb32 : Ext w w30 := Ext.trans hb10 hE31
  have hL33 : w.heap.size ≤ w30.heap.size := Nat.le_trans hL11 hE31.size
  have hS34 : SH w30 w.heap.size [] := SH.ext hS12 hE31
  refine WQ.then_normal (hK25 _ _ _ ?_)
  refine WP.cond (x26 != x28) rfl rfl (fun hc35 => ?_) (fun hc35 => ?_)
  rotate_left
  · have hm := iteF hm hc35
    refine WP.skip ?_
    refine WQ.block_normal ?_
    refine WQ.then_normal (hK24 _ _ _ ?_)
    refine WP.region ?_
    refine WL.runk 3 [0, 1, 5] [(0, .slice a0' a_0.length c0'), (1, .slice a1' b_1.length c1'), (5, .int .i64 (wI64 (st8 + 1)))] (by kernel_rfl) ?_
    refine WL.nil ?_
    obtain rfl := Option.some.inj hm
    exact WQ.round hK15 ⟨(wI64 (st8 + 1)), rfl, hb32, hL33, hS34, hl13⟩ (Nat.lt_succ_self _) ⟨rfl, rfl, rfl, trivial⟩
  have hm := iteT hm hc35
  refine WP.seq (fun K36 hK36 => ?_)
  refine WP.region ?_
  refine WL.runk 1 [4] [(4, .bool false)] (by kernel_rfl) ?_
  refine WL.nil ?_
  refine WQ.then_normal (hK36 _ _ _ ?_)
  refine WP.ret ?_
  refine WQ.block_ret ?_
  refine WQ.then_ret ?_
  refine WQ.then_ret ?_
  refine WQ.block_ret ?_
  refine WQ.then_ret ?_
  obtain rfl := Option.some.inj hm
  obtain rfl := afterN_done hl13
  have hm := hmo14
  obtain rfl := Option.some.inj hm
  exact WQ.ret1 _ rfl rfl ⟨rfl, hb32⟩

theorem c_27 (n : Nat) (list_0 : List SRepair) (a0' : Option Addr) (c0' : Nat) (some_1 : List Int) (a1' : Option Addr) (c1' : Nat) (w : World) {r : Int × Int} (hm : m_impl_PriceOfRepairs n list_0 some_1 = some r) (h0 : Rd fRepair.ty w a0' list_0) (hle0 : list_0.length ≤ c0') (h1 : Rd fInt.ty w a1' some_1) (hle1 : some_1.length ≤ c1') :
    CallV Try.prog 27 #[.slice a0' list_0.length c0', .slice a1' some_1.length c1'] w (fun v w' => v = .tuple #[.int .i64 r.1, .int .i64 r.2] ∧ Ext w w') := by
  unfold m_impl_PriceOfRepairs at hm
  refine CallV.enter Try.func27 rfl (by kernel_rfl) Try.ntmps27 (env := [(0, .slice a0' list_0.length c0'), (1, .slice a1' some_1.length c1')]) ⟨rfl, rfl, trivial⟩ ?_
  refine WP.seq (fun K1 hK1 => ?_)
  refine WP.region ?_
  refine WL.runk 2 [0, 1] [(0, .slice a0' list_0.length c0'), (1, .slice a1' some_1.length c1')] (by kernel_rfl) ?_
  refine WL.nil ?_
  refine WQ.then_normal (hK1 _ _ _ ?_)
  refine WP.seq (fun K2 hK2 => ?_)
  refine WP.seq (fun K3 hK3 => ?_)
  refine WP.region ?_
  refine WL.runk 2 [0, 1, 7, 8] [(0, .slice a0' list_0.length c0'), (1, .slice a1' some_1.length c1'), (7, .slice a0' list_0.length c0'), (8, .slice a1' some_1.length c1')] (by kernel_rfl) ?_
  obtain ⟨x4, hx5, hm⟩ := bindE hm
  refine WL.call 50 #[.slice a0' list_0.length c0', .slice a1' some_1.length c1', .slice none 0 0] rfl rfl (by kernel_rfl) (c_50 n list_0 a0' c0' some_1 a1' c1' ([] : List Int) none 0 w hx5 (Rd.below h0 (Ext.refl w)) hle0 (Rd.below h1 (Ext.refl w)) hle1 (Rd.nil _ _ _) (Nat.zero_le _)) ?_
  rintro _ w6 ⟨rfl, hE7⟩
  refine ⟨_, rfl, ?_⟩
  have hb9 : Ext w w6 := Ext.trans (Ext.refl w) hE7
  have hL10 : w.heap.size ≤ w6.heap.size := Nat.le_trans (Nat.le_refl _) hE7.size
  have hS11 : SH w6 w.heap.size [] := SH.ext (SH.nil _ _) hE7
  refine WL.runk 1 [0, 1, 6] [(0, .slice a0' list_0.length c0'), (1, .slice a1' some_1.length c1'), (6, .int .i64 x4)] (by kernel_rfl) ?_
  refine WL.nil ?_
  refine WQ.then_normal (hK3 _ _ _ ?_)
  refine WP.seq (fun K12 hK12 => ?_)
  refine WP.region ?_
  refine WL.runk 2 [0, 1, 6, 11] [(0, .slice a0' list_0.length c0'), (1, .slice a1' some_1.length c1'), (6, .int .i64 x4), (11, .bool (x4 != 0))] (by kernel_rfl) ?_
  refine WL.nil ?_
  refine WQ.then_normal (hK12 _ _ _ ?_)
  refine WP.cond (x4 != 0) rfl rfl (fun hc13 => ?_) (fun hc13 => ?_)
  · have hm := iteT hm hc13
    refine WP.seq (fun K14 hK14 => ?_)
    refine WP.region ?_
    refine WL.runk 3 [4, 5] [(4, .int .i64 0), (5, .int .i64 x4)] (by kernel_rfl) ?_
    refine WL.nil ?_
    refine WQ.then_normal (hK14 _ _ _ ?_)
    refine WP.ret ?_
    refine WQ.then_ret ?_
    obtain rfl := Option.some.inj hm
    exact WQ.ret2 _ _ rfl rfl rfl ⟨rfl, hb9⟩
  have hm := iteF hm hc13
  refine WP.skip ?_
  refine WQ.then_normal (hK2 _ _ _ ?_)
  refine WP.seq (fun K15 hK15 => ?_)
  refine WP.region ?_
  refine WL.runk 2 [13, 14] [(13, .slice a0' list_0.length c0'), (14, .slice a1' some_1.length c1')] (by kernel_rfl) ?_
  obtain ⟨x16, hx17, hm⟩ := bindE hm
  refine WL.call 55 #[.slice a0' list_0.length c0', .slice a1' some_1.length c1'] rfl rfl (by kernel_rfl) (c_55 n list_0 a0' c0' some_1 a1' c1' w6 hx17 (Rd.below h0 hb9) hle0 (Rd.below h1 hb9) hle1) ?_
  rintro _ w18 ⟨rfl, hE19⟩
  refine ⟨_, rfl, ?_⟩
  have hb21 : Ext w w18 := Ext.trans hb9 hE19
  have hL22 : w.heap.size ≤ w18.heap.size := Nat.le_trans hL10 hE19.size
  have hS23 : SH w18 w.heap.size [] := SH.ext hS11 hE19
  refine WL.runk 2 [4, 5] [(4, .int .i64 x16), (5, .int .i64 0)] (by kernel_rfl) ?_
  refine WL.nil ?_
  refine WQ.then_normal (hK15 _ _ _ ?_)
  refine WP.ret ?_
  obtain rfl := Option.some.inj hm
  exact WQ.ret2 _ _ rfl rfl rfl ⟨rfl, hb21⟩

theorem c_3 (n : Nat) (code_0 : List Int) (a0' : Option Addr) (c0' : Nat) (w : World) {r : Bool} (hm : m_laws_FnCheapRepairs n code_0 = some r) (h0 : Rd fU8.ty w a0' code_0) (hle0 : code_0.length ≤ c0') :
    CallV Try.prog 3 #[.slice a0' code_0.length c0'] w (fun v w' => v = .bool r ∧ Ext w w') := by
  unfold m_laws_FnCheapRepairs at hm
  refine CallV.enter Try.func3 rfl (by kernel_rfl) Try.ntmps3 (env := [(0, .slice a0' code_0.length c0')]) ⟨rfl, trivial⟩ ?_
  refine WP.seq (fun K1 hK1 => ?_)
  refine WP.region ?_
  refine WL.runk 1 [0] [(0, .slice a0' code_0.length c0')] (by kernel_rfl) ?_
  refine WL.nil ?_
  refine WQ.then_normal (hK1 _ _ _ ?_)
  refine WP.seq (fun K2 hK2 => ?_)
  refine WP.seq (fun K3 hK3 => ?_)
  refine WP.region ?_
  refine WL.runk 1 [0, 38] [(0, .slice a0' code_0.length c0'), (38, .slice a0' code_0.length c0')] (by kernel_rfl) ?_
  obtain ⟨x4, hx5, hm⟩ := bindE hm
  refine WL.call 15 #[.slice a0' code_0.length c0'] rfl rfl (by kernel_rfl) (c_15 n code_0 a0' c0' w hx5 (Rd.below h0 (Ext.refl w)) hle0) ?_
  rintro _ w6 ⟨rfl, hE7⟩
  refine ⟨_, rfl, ?_⟩
  have hb9 : Ext w w6 := Ext.trans (Ext.refl w) hE7
  have hL10 : w.heap.size ≤ w6.heap.size := Nat.le_trans (Nat.le_refl _) hE7.size
  have hS11 : SH w6 w.heap.size [] := SH.ext (SH.nil _ _) hE7
  refine WL.sub [(0, .slice a0' code_0.length c0'), (39, .bool x4)] ⟨rfl, rfl, trivial⟩ ?_
  refine WL.nil ?_
  refine WQ.then_normal (hK3 _ _ _ ?_)
  refine WP.cond x4 rfl rfl (fun hc12 => ?_) (fun hc12 => ?_)
  · have hm := iteT hm hc12
    refine WP.seq (fun K13 hK13 => ?_)
    refine WP.region ?_
    refine WL.runk 1 [2] [(2, .bool true)] (by kernel_rfl) ?_
    refine WL.nil ?_
    refine WQ.then_normal (hK13 _ _ _ ?_)
    refine WP.ret ?_
    refine WQ.then_ret ?_
    obtain rfl := Option.some.inj hm
    exact WQ.ret1 _ rfl rfl ⟨rfl, hb9⟩
  have hm := iteF hm hc12
  refine WP.skip ?_
  refine WQ.then_normal (hK2 _ _ _ ?_)
  refine WP.seq (fun K14 hK14 => ?_)
  refine WP.region ?_
  refine WL.runk 1 [0, 41] [(0, .slice a0' code_0.length c0'), (41, .slice a0' code_0.length c0')] (by kernel_rfl) ?_
  obtain ⟨x15, hx16, hm⟩ := bindE hm
  refine WL.call 16 #[.slice a0' code_0.length c0'] rfl rfl (by kernel_rfl) (c_16 n code_0 a0' c0' w6 hx16 (Rd.below h0 hb9) hle0) ?_
  rintro _ w26 ⟨a17, c18, a20, c21, a23, c24, rfl, hE27, hR28⟩
  refine ⟨_, rfl, ?_⟩
  have hb29 : Ext w w26 := Ext.trans hb9 hE27
  have hL30 : w.heap.size ≤ w26.heap.size := Nat.le_trans hL10 hE27.size
  have hS31 : SH w26 w.heap.size [aNest fRepair 73 2 a17 c18 x15.1, aOwn fInt 2 a20 c21 x15.2.1, aOwn fInt 2 a23 c24 x15.2.2] := SH.add hS11 hE27 hL10 hR28
  refine WL.runk 7 [0, 3, 4, 5] [(0, .slice a0' code_0.length c0'), (3, .slice a17 x15.1.length c18), (4, .slice a20 x15.2.1.length c21), (5, .slice a23 x15.2.2.length c24)] (by kernel_rfl) ?_
  refine WL.nil ?_
  refine WQ.then_normal (hK14 _ _ _ ?_)
  refine WP.seq (fun K32 hK32 => ?_)
  refine WP.region ?_
  refine WL.runk 3 [0, 3, 4, 5, 47, 48, 49] [(0, .slice a0' code_0.length c0'), (3, .slice a17 x15.1.length c18), (4, .slice a20 x15.2.1.length c21), (5, .slice a23 x15.2.2.length c24), (47, .slice a17 x15.1.length c18), (48, .slice a20 x15.2.1.length c21), (49, .slice a23 x15.2.2.length c24)] (by kernel_rfl) ?_
  obtain ⟨x33, hx34, hm⟩ := bindE hm
  refine WL.call 17 #[.slice a17 x15.1.length c18, .slice a20 x15.2.1.length c21, .slice a23 x15.2.2.length c24] rfl rfl (by kernel_rfl) (c_17 n x15.1 a17 c18 x15.2.1 a20 c21 x15.2.2 a23 c24 w26 hx34 (SH.rdN (SH.front 0 hS31)) (SH.leN (SH.front 0 hS31)).1 (SH.rd (SH.front 1 hS31)) (SH.le (SH.front 1 hS31)).1 (SH.rd (SH.front 2 hS31)) (SH.le (SH.front 2 hS31)).1) ?_
  rintro _ w35 ⟨rfl, hE36⟩
  refine ⟨_, rfl, ?_⟩
  have hb38 : Ext w w35 := Ext.trans hb29 hE36
  have hL39 : w.heap.size ≤ w35.heap.size := Nat.le_trans hL30 hE36.size
  have hS40 : SH w35 w.heap.size [aNest fRepair 73 2 a17 c18 x15.1, aOwn fInt 2 a20 c21 x15.2.1, aOwn fInt 2 a23 c24 x15.2.2] := SH.ext hS31 hE36
  refine WL.runk 5 [0, 3, 4, 5, 6, 7] [(0, .slice a0' code_0.length c0'), (3, .slice a17 x15.1.length c18), (4, .slice a20 x15.2.1.length c21), (5, .slice a23 x15.2.2.length c24), (6, .bool x33.1), (7, .int .i64 x33.2)] (by kernel_rfl) ?_
  refine WL.nil ?_
  refine WQ.then_normal (hK32 _ _ _ ?_)
  refine WP.seq (fun K41 hK41 => ?_)
  refine WP.region ?_
  refine WL.runk 3 [0, 3, 4, 5, 6, 7, 54, 55, 56] [(0, .slice a0' code_0.length c0'), (3, .slice a17 x15.1.length c18), (4, .slice a20 x15.2.1.length c21), (5, .slice a23 x15.2.2.length c24), (6, .bool x33.1), (7, .int .i64 x33.2), (54, .slice a17 x15.1.length c18), (55, .slice a20 x15.2.1.length c21), (56, .slice a23 x15.2.2.length c24)] (by kernel_rfl) ?_
  obtain ⟨x42, hx43, hm⟩ := bindE hm
  refine WL.call 18 #[.slice a17 x15.1.length c18, .slice a20 x15.2.1.length c21, .slice a23 x15.2.2.length c24] rfl rfl (by kernel_rfl) (c_18 n x15.1 a17 c18 x15.2.1 a20 c21 x15.2.2 a23 c24 w35 hx43 (SH.rdN (SH.front 0 hS40)) (SH.leN (SH.front 0 hS40)).1 (SH.rd (SH.front 1 hS40)) (SH.le (SH.front 1 hS40)).1 (SH.rd (SH.front 2 hS40)) (SH.le (SH.front 2 hS40)).1) ?_
  rintro _ w44 ⟨rfl, hE45⟩
  refine ⟨_, rfl, ?_⟩
  have hb47 : Ext w w44 := Ext.trans hb38 hE45
  have hL48 : w.heap.size ≤ w44.heap.size := Nat.le_trans hL39 hE45.size
  have hS49 : SH w44 w.heap.size [aNest fRepair 73 2 a17 c18 x15.1, aOwn fInt 2 a20 c21 x15.2.1, aOwn fInt 2 a23 c24 x15.2.2] := SH.ext hS40 hE45
  refine WL.runk 5 [0, 3, 4, 5, 6, 7, 8, 9] [(0, .slice a0' code_0.length c0'), (3, .slice a17 x15.1.length c18), (4, .slice a20 x15.2.1.length c21), (5, .slice a23 x15.2.2.length c24), (6, .bool x33.1), (7, .int .i64 x33.2), (8, .bool x42.1), (9, .int .i64 x42.2)] (by kernel_rfl) ?_
  refine WL.nil ?_
  refine WQ.then_normal (hK41 _ _ _ ?_)
  refine WP.seq (fun K50 hK50 => ?_)
  refine WP.region ?_
  refine WL.runk 2 [0, 3, 4, 5, 6, 7, 8, 9, 61, 62] [(0, .slice a0' code_0.length c0'), (3, .slice a17 x15.1.length c18), (4, .slice a20 x15.2.1.length c21), (5, .slice a23 x15.2.2.length c24), (6, .bool x33.1), (7, .int .i64 x33.2), (8, .bool x42.1), (9, .int .i64 x42.2), (61, .slice a17 x15.1.length c18), (62, .slice a23 x15.2.2.length c24)] (by kernel_rfl) ?_
  obtain ⟨x51, hx52, hm⟩ := bindE hm
  refine WL.call 19 #[.slice a17 x15.1.length c18, .slice a23 x15.2.2.length c24] rfl rfl (by kernel_rfl) (c_19 n x15.1 a17 c18 x15.2.2 a23 c24 w44 hx52 (SH.rdN (SH.front 0 hS49)) (SH.leN (SH.front 0 hS49)).1 (SH.rd (SH.front 2 hS49)) (SH.le (SH.front 2 hS49)).1) ?_
  rintro _ w56 ⟨a53, c54, rfl, hE57, hR58⟩
  refine ⟨_, rfl, ?_⟩
  have hb59 : Ext w w56 := Ext.trans hb47 hE57
  have hL60 : w.heap.size ≤ w56.heap.size := Nat.le_trans hL48 hE57.size
  have hS61 : SH w56 w.heap.size [aOwn fInt 2 a53 c54 x51.1, aNest fRepair 73 2 a17 c18 x15.1, aOwn fInt 2 a20 c21 x15.2.1, aOwn fInt 2 a23 c24 x15.2.2] := SH.add hS49 hE57 hL48 hR58
  refine WL.runk 5 [0, 3, 4, 5, 6, 7, 8, 9, 10, 11] [(0, .slice a0' code_0.length c0'), (3, .slice a17 x15.1.length c18), (4, .slice a20 x15.2.1.length c21), (5, .slice a23 x15.2.2.length c24), (6, .bool x33.1), (7, .int .i64 x33.2), (8, .bool x42.1), (9, .int .i64 x42.2), (10, .slice a53 x51.1.length c54), (11, .int .i64 x51.2)] (by kernel_rfl) ?_
  refine WL.nil ?_
  refine WQ.then_normal (hK50 _ _ _ ?_)
  refine WP.seq (fun K62 hK62 => ?_)
  refine WP.region ?_
  refine WL.runk 2 [0, 3, 4, 5, 6, 7, 8, 9, 10, 11, 67, 68] [(0, .slice a0' code_0.length c0'), (3, .slice a17 x15.1.length c18), (4, .slice a20 x15.2.1.length c21), (5, .slice a23 x15.2.2.length c24), (6, .bool x33.1), (7, .int .i64 x33.2), (8, .bool x42.1), (9, .int .i64 x42.2), (10, .slice a53 x51.1.length c54), (11, .int .i64 x51.2), (67, .slice a17 x15.1.length c18), (68, .slice a23 x15.2.2.length c24)] (by kernel_rfl) ?_
  obtain ⟨x63, hx64, hm⟩ := bindE hm
  refine WL.call 20 #[.slice a17 x15.1.length c18, .slice a23 x15.2.2.length c24] rfl rfl (by kernel_rfl) (c_20 n x15.1 a17 c18 x15.2.2 a23 c24 w56 hx64 (SH.rdN (SH.front 1 hS61)) (SH.leN (SH.front 1 hS61)).1 (SH.rd (SH.front 3 hS61)) (SH.le (SH.front 3 hS61)).1) ?_
  rintro _ w68 ⟨a65, c66, rfl, hE69, hR70⟩
  refine ⟨_, rfl, ?_⟩
  have hb71 : Ext w w68 := Ext.trans hb59 hE69
  have hL72 : w.heap.size ≤ w68.heap.size := Nat.le_trans hL60 hE69.size
  have hS73 : SH w68 w.heap.size [aOwn fInt 2 a65 c66 x63.1, aOwn fInt 2 a53 c54 x51.1, aNest fRepair 73 2 a17 c18 x15.1, aOwn fInt 2 a20 c21 x15.2.1, aOwn fInt 2 a23 c24 x15.2.2] := SH.add hS61 hE69 hL60 hR70
  refine WL.runk 5 [0, 3, 4, 5, 6, 7, 8, 9, 10, 11, 12, 13] [(0, .slice a0' code_0.length c0'), (3, .slice a17 x15.1.length c18), (4, .slice a20 x15.2.1.length c21), (5, .slice a23 x15.2.2.length c24), (6, .bool x33.1), (7, .int .i64 x33.2), (8, .bool x42.1), (9, .int .i64 x42.2), (10, .slice a53 x51.1.length c54), (11, .int .i64 x51.2), (12, .slice a65 x63.1.length c66), (13, .int .i64 x63.2)] (by kernel_rfl) ?_
  refine WL.nil ?_
  refine WQ.then_normal (hK62 _ _ _ ?_)
  refine WP.seq (fun K74 hK74 => ?_)
  refine WP.region ?_
  refine WL.runk 3 [0, 3, 4, 5, 6, 7, 8, 9, 10, 11, 12, 13, 73, 74, 75] [(0, .slice a0' code_0.length c0'), (3, .slice a17 x15.1.length c18), (4, .slice a20 x15.2.1.length c21), (5, .slice a23 x15.2.2.length c24), (6, .bool x33.1), (7, .int .i64 x33.2), (8, .bool x42.1), (9, .int .i64 x42.2), (10, .slice a53 x51.1.length c54), (11, .int .i64 x51.2), (12, .slice a65 x63.1.length c66), (13, .int .i64 x63.2), (73, .slice a17 x15.1.length c18), (74, .slice a20 x15.2.1.length c21), (75, .slice a23 x15.2.2.length c24)] (by kernel_rfl) ?_
  obtain ⟨x75, hx76, hm⟩ := bindE hm
  refine WL.call 21 #[.slice a17 x15.1.length c18, .slice a20 x15.2.1.length c21, .slice a23 x15.2.2.length c24] rfl rfl (by kernel_rfl) (c_21 n x15.1 a17 c18 x15.2.1 a20 c21 x15.2.2 a23 c24 w68 hx76 (SH.rdN (SH.front 2 hS73)) (SH.leN (SH.front 2 hS73)).1 (SH.rd (SH.front 3 hS73)) (SH.le (SH.front 3 hS73)).1 (SH.rd (SH.front 4 hS73)) (SH.le (SH.front 4 hS73)).1) ?_
  rintro _ w80 ⟨a77, c78, rfl, hE81, hR82⟩
  refine ⟨_, rfl, ?_⟩
  have hb83 : Ext w w80 := Ext.trans hb71 hE81
  have hL84 : w.heap.size ≤ w80.heap.size := Nat.le_trans hL72 hE81.size
  have hS85 : SH w80 w.heap.size [aOwn fInt 2 a77 c78 x75.1, aOwn fInt 2 a65 c66 x63.1, aOwn fInt 2 a53 c54 x51.1, aNest fRepair 73 2 a17 c18 x15.1, aOwn fInt 2 a20 c21 x15.2.1, aOwn fInt 2 a23 c24 x15.2.2] := SH.add hS73 hE81 hL72 hR82
  refine WL.runk 5 [0, 3, 4, 5, 6, 7, 8, 9, 10, 11, 12, 13, 14, 15] [(0, .slice a0' code_0.length c0'), (3, .slice a17 x15.1.length c18), (4, .slice a20 x15.2.1.length c21), (5, .slice a23 x15.2.2.length c24), (6, .bool x33.1), (7, .int .i64 x33.2), (8, .bool x42.1), (9, .int .i64 x42.2), (10, .slice a53 x51.1.length c54), (11, .int .i64 x51.2), (12, .slice a65 x63.1.length c66), (13, .int .i64 x63.2), (14, .slice a77 x75.1.length c78), (15, .int .i64 x75.2)] (by kernel_rfl) ?_
  refine WL.nil ?_
  refine WQ.then_normal (hK74 _ _ _ ?_)
  refine WP.seq (fun K86 hK86 => ?_)
  refine WP.region ?_
  refine WL.runk 3 [0, 3, 4, 5, 6, 7, 8, 9, 10, 11, 12, 13, 14, 15, 80, 81, 82] [(0, .slice a0' code_0.length c0'), (3, .slice a17 x15.1.length c18), (4, .slice a20 x15.2.1.length c21), (5, .slice a23 x15.2.2.length c24), (6, .bool x33.1), (7, .int .i64 x33.2), (8, .bool x42.1), (9, .int .i64 x42.2), (10, .slice a53 x51.1.length c54), (11, .int .i64 x51.2), (12, .slice a65 x63.1.length c66), (13, .int .i64 x63.2), (14, .slice a77 x75.1.length c78), (15, .int .i64 x75.2), (80, .slice a17 x15.1.length c18), (81, .slice a20 x15.2.1.length c21), (82, .slice a23 x15.2.2.length c24)] (by kernel_rfl) ?_
  obtain ⟨x87, hx88, hm⟩ := bindE hm
  refine WL.call 22 #[.slice a17 x15.1.length c18, .slice a20 x15.2.1.length c21, .slice a23 x15.2.2.length c24] rfl rfl (by kernel_rfl) (c_22 n x15.1 a17 c18 x15.2.1 a20 c21 x15.2.2 a23 c24 w80 hx88 (SH.rdN (SH.front 3 hS85)) (SH.leN (SH.front 3 hS85)).1 (SH.rd (SH.front 4 hS85)) (SH.le (SH.front 4 hS85)).1 (SH.rd (SH.front 5 hS85)) (SH.le (SH.front 5 hS85)).1) ?_
  rintro _ w92 ⟨a89, c90, rfl, hE93, hR94⟩
  refine ⟨_, rfl, ?_⟩
  have hb95 : Ext w w92 := Ext.trans hb83 hE93
  have hL96 : w.heap.size ≤ w92.heap.size := Nat.le_trans hL84 hE93.size
  have hS97 : SH w92 w.heap.size [aOwn fInt 2 a89 c90 x87.1, aOwn fInt 2 a77 c78 x75.1, aOwn fInt 2 a65 c66 x63.1, aOwn fInt 2 a53 c54 x51.1, aNest fRepair 73 2 a17 c18 x15.1, aOwn fInt 2 a20 c21 x15.2.1, aOwn fInt 2 a23 c24 x15.2.2] := SH.add hS85 hE93 hL84 hR94
  refine WL.runk 5 [0, 3, 4, 5, 6, 7, 8, 9, 10, 11, 12, 13, 14, 15, 16, 17] [(0, .slice a0' code_0.length c0'), (3, .slice a17 x15.1.length c18), (4, .slice a20 x15.2.1.length c21), (5, .slice a23 x15.2.2.length c24), (6, .bool x33.1), (7, .int .i64 x33.2), (8, .bool x42.1), (9, .int .i64 x42.2), (10, .slice a53 x51.1.length c54), (11, .int .i64 x51.2), (12, .slice a65 x63.1.length c66), (13, .int .i64 x63.2), (14, .slice a77 x75.1.length c78), (15, .int .i64 x75.2), (16, .slice a89 x87.1.length c90), (17, .int .i64 x87.2)] (by kernel_rfl) ?_
  refine WL.nil ?_
  refine WQ.then_normal (hK86 _ _ _ ?_)
  refine WP.seq (fun K98 hK98 => ?_)
  refine WP.region ?_
  refine WL.runk 1 [3, 4, 5, 6, 7, 8, 9, 10, 11, 12, 13, 14, 15, 16, 17, 87] [(3, .slice a17 x15.1.length c18), (4, .slice a20 x15.2.1.length c21), (5, .slice a23 x15.2.2.length c24), (6, .bool x33.1), (7, .int .i64 x33.2), (8, .bool x42.1), (9, .int .i64 x42.2), (10, .slice a53 x51.1.length c54), (11, .int .i64 x51.2), (12, .slice a65 x63.1.length c66), (13, .int .i64 x63.2), (14, .slice a77 x75.1.length c78), (15, .int .i64 x75.2), (16, .slice a89 x87.1.length c90), (17, .int .i64 x87.2), (87, .slice a0' code_0.length c0')] (by kernel_rfl) ?_
  obtain ⟨x99, hx100, hm⟩ := bindE hm
  refine WL.call 23 #[.slice a0' code_0.length c0'] rfl rfl (by kernel_rfl) (c_23 n code_0 a0' c0' w92 hx100 (Rd.below h0 hb95) hle0) ?_
  rintro _ w107 ⟨a101, c102, a104, c105, rfl, hE108, hR109⟩
  refine ⟨_, rfl, ?_⟩
  have hb110 : Ext w w107 := Ext.trans hb95 hE108
  have hL111 : w.heap.size ≤ w107.heap.size := Nat.le_trans hL96 hE108.size
  have hS112 : SH w107 w.heap.size [aNest fRepair 73 2 a101 c102 x99.1, aOwn fInt 2 a104 c105 x99.2.1, aOwn fInt 2 a89 c90 x87.1, aOwn fInt 2 a77 c78 x75.1, aOwn fInt 2 a65 c66 x63.1, aOwn fInt 2 a53 c54 x51.1, aNest fRepair 73 2 a17 c18 x15.1, aOwn fInt 2 a20 c21 x15.2.1, aOwn fInt 2 a23 c24 x15.2.2] := SH.add hS97 hE108 hL96 hR109
  refine WL.runk 9 [3, 4, 5, 6, 7, 8, 9, 10, 11, 12, 13, 14, 15, 16, 17, 18, 19, 20, 21] [(3, .slice a17 x15.1.length c18), (4, .slice a20 x15.2.1.length c21), (5, .slice a23 x15.2.2.length c24), (6, .bool x33.1), (7, .int .i64 x33.2), (8, .bool x42.1), (9, .int .i64 x42.2), (10, .slice a53 x51.1.length c54), (11, .int .i64 x51.2), (12, .slice a65 x63.1.length c66), (13, .int .i64 x63.2), (14, .slice a77 x75.1.length c78), (15, .int .i64 x75.2), (16, .slice a89 x87.1.length c90), (17, .int .i64 x87.2), (18, .slice a101 x99.1.length c102), (19, .slice a104 x99.2.1.length c105), (20, .int .i64 x99.2.2.1), (21, .int .i64 x99.2.2.2)] (by kernel_rfl) ?_
  refine WL.nil ?_
  refine WQ.then_normal (hK98 _ _ _ ?_)
  refine WP.seq (fun K113 hK113 => ?_)
  refine WP.region ?_
  refine WL.runk 4 [3, 4, 5, 6, 7, 8, 9, 10, 11, 12, 13, 14, 15, 16, 17, 18, 19, 20, 21, 94, 95, 96, 97] [(3, .slice a17 x15.1.length c18), (4, .slice a20 x15.2.1.length c21), (5, .slice a23 x15.2.2.length c24), (6, .bool x33.1), (7, .int .i64 x33.2), (8, .bool x42.1), (9, .int .i64 x42.2), (10, .slice a53 x51.1.length c54), (11, .int .i64 x51.2), (12, .slice a65 x63.1.length c66), (13, .int .i64 x63.2), (14, .slice a77 x75.1.length c78), (15, .int .i64 x75.2), (16, .slice a89 x87.1.length c90), (17, .int .i64 x87.2), (18, .slice a101 x99.1.length c102), (19, .slice a104 x99.2.1.length c105), (20, .int .i64 x99.2.2.1), (21, .int .i64 x99.2.2.2), (94, .slice a101 x99.1.length c102), (95, .slice a104 x99.2.1.length c105), (96, .int .i64 x99.2.2.1), (97, .int .i64 x99.2.2.2)] (by kernel_rfl) ?_
  obtain ⟨x114, hx115, hm⟩ := bindE hm
  refine WL.call 24 #[.slice a101 x99.1.length c102, .slice a104 x99.2.1.length c105, .int .i64 x99.2.2.1, .int .i64 x99.2.2.2] rfl rfl (by kernel_rfl) (c_24 n x99.1 a101 c102 x99.2.1 a104 c105 x99.2.2.1 x99.2.2.2 w107 hx115 (SH.rdN (SH.front 0 hS112)) (SH.leN (SH.front 0 hS112)).1 (SH.rd (SH.front 1 hS112)) (SH.le (SH.front 1 hS112)).1) ?_
  rintro _ w116 ⟨rfl, hE117⟩
  refine ⟨_, rfl, ?_⟩
  have hb119 : Ext w w116 := Ext.trans hb110 hE117
  have hL120 : w.heap.size ≤ w116.heap.size := Nat.le_trans hL111 hE117.size
  have hS121 : SH w116 w.heap.size [aNest fRepair 73 2 a101 c102 x99.1, aOwn fInt 2 a104 c105 x99.2.1, aOwn fInt 2 a89 c90 x87.1, aOwn fInt 2 a77 c78 x75.1, aOwn fInt 2 a65 c66 x63.1, aOwn fInt 2 a53 c54 x51.1, aNest fRepair 73 2 a17 c18 x15.1, aOwn fInt 2 a20 c21 x15.2.1, aOwn fInt 2 a23 c24 x15.2.2] := SH.ext hS112 hE117
  refine WL.runk 5 [3, 4, 5, 6, 7, 8, 9, 10, 11, 12, 13, 14, 15, 16, 17, 18, 19, 20, 21, 22, 23] [(3, .slice a17 x15.1.length c18), (4, .slice a20 x15.2.1.length c21), (5, .slice a23 x15.2.2.length c24), (6, .bool x33.1), (7, .int .i64 x33.2), (8, .bool x42.1), (9, .int .i64 x42.2), (10, .slice a53 x51.1.length c54), (11, .int .i64 x51.2), (12, .slice a65 x63.1.length c66), (13, .int .i64 x63.2), (14, .slice a77 x75.1.length c78), (15, .int .i64 x75.2), (16, .slice a89 x87.1.length c90), (17, .int .i64 x87.2), (18, .slice a101 x99.1.length c102), (19, .slice a104 x99.2.1.length c105), (20, .int .i64 x99.2.2.1), (21, .int .i64 x99.2.2.2), (22, .bool x114.1), (23, .int .i64 x114.2)] (by kernel_rfl) ?_
  refine WL.nil ?_
  refine WQ.then_normal (hK113 _ _ _ ?_)
  refine WP.seq (fun K122 hK122 => ?_)
  refine WP.region ?_
  refine WL.runk 4 [3, 4, 5, 6, 7, 8, 9, 10, 11, 12, 13, 14, 15, 16, 17, 18, 19, 20, 21, 22, 23, 102, 103, 104, 105] [(3, .slice a17 x15.1.length c18), (4, .slice a20 x15.2.1.length c21), (5, .slice a23 x15.2.2.length c24), (6, .bool x33.1), (7, .int .i64 x33.2), (8, .bool x42.1), (9, .int .i64 x42.2), (10, .slice a53 x51.1.length c54), (11, .int .i64 x51.2), (12, .slice a65 x63.1.length c66), (13, .int .i64 x63.2), (14, .slice a77 x75.1.length c78), (15, .int .i64 x75.2), (16, .slice a89 x87.1.length c90), (17, .int .i64 x87.2), (18, .slice a101 x99.1.length c102), (19, .slice a104 x99.2.1.length c105), (20, .int .i64 x99.2.2.1), (21, .int .i64 x99.2.2.2), (22, .bool x114.1), (23, .int .i64 x114.2), (102, .slice a101 x99.1.length c102), (103, .slice a104 x99.2.1.length c105), (104, .int .i64 x99.2.2.1), (105, .int .i64 x99.2.2.2)] (by kernel_rfl) ?_
  obtain ⟨x123, hx124, hm⟩ := bindE hm
  refine WL.call 25 #[.slice a101 x99.1.length c102, .slice a104 x99.2.1.length c105, .int .i64 x99.2.2.1, .int .i64 x99.2.2.2] rfl rfl (by kernel_rfl) (c_25 n x99.1 a101 c102 x99.2.1 a104 c105 x99.2.2.1 x99.2.2.2 w116 hx124 (SH.rdN (SH.front 0 hS121)) (SH.leN (SH.front 0 hS121)).1 (SH.rd (SH.front 1 hS121)) (SH.le (SH.front 1 hS121)).1) ?_
  rintro _ w125 ⟨rfl, hE126⟩
  refine ⟨_, rfl, ?_⟩
  have hb128 : Ext w w125 := Ext.trans hb119 hE126
  have hL129 : w.heap.size ≤ w125.heap.size := Nat.le_trans hL120 hE126.size
  have hS130 : SH w125 w.heap.size [aNest fRepair 73 2 a101 c102 x99.1, aOwn fInt 2 a104 c105 x99.2.1, aOwn fInt 2 a89 c90 x87.1, aOwn fInt 2 a77 c78 x75.1, aOwn fInt 2 a65 c66 x63.1, aOwn fInt 2 a53 c54 x51.1, aNest fRepair 73 2 a17 c18 x15.1, aOwn fInt 2 a20 c21 x15.2.1, aOwn fInt 2 a23 c24 x15.2.2] := SH.ext hS121 hE126
  refine WL.runk 5 [3, 4, 5, 6, 7, 8, 9, 10, 11, 12, 13, 14, 15, 16, 17, 18, 19, 20, 21, 22, 23, 24, 25] [(3, .slice a17 x15.1.length c18), (4, .slice a20 x15.2.1.length c21), (5, .slice a23 x15.2.2.length c24), (6, .bool x33.1), (7, .int .i64 x33.2), (8, .bool x42.1), (9, .int .i64 x42.2), (10, .slice a53 x51.1.length c54), (11, .int .i64 x51.2), (12, .slice a65 x63.1.length c66), (13, .int .i64 x63.2), (14, .slice a77 x75.1.length c78), (15, .int .i64 x75.2), (16, .slice a89 x87.1.length c90), (17, .int .i64 x87.2), (18, .slice a101 x99.1.length c102), (19, .slice a104 x99.2.1.length c105), (20, .int .i64 x99.2.2.1), (21, .int .i64 x99.2.2.2), (22, .bool x114.1), (23, .int .i64 x114.2), (24, .bool x123.1), (25, .int .i64 x123.2)] (by kernel_rfl) ?_
  refine WL.nil ?_
  refine WQ.then_normal (hK122 _ _ _ ?_)
  refine WP.seq (fun K131 hK131 => ?_)
  refine WP.seq (fun K132 hK132 => ?_)
  obtain ⟨x156, hx157, hm⟩ := bindE hm
  refine WP.cut (fun env' w' => env' = [(3, .slice a17 x15.1.length c18), (4, .slice a20 x15.2.1.length c21), (5, .slice a23 x15.2.2.length c24), (6, .bool x33.1), (7, .int .i64 x33.2), (11, .int .i64 x51.2), (12, .slice a65 x63.1.length c66), (15, .int .i64 x75.2), (18, .slice a101 x99.1.length c102), (19, .slice a104 x99.2.1.length c105), (20, .int .i64 x99.2.2.1), (21, .int .i64 x99.2.2.2), (22, .bool x114.1), (23, .int .i64 x114.2), (148, .bool x156)] ∧ Ext w w' ∧ w.heap.size ≤ w'.heap.size ∧ SH w' w.heap.size [aNest fRepair 73 2 a101 c102 x99.1, aOwn fInt 2 a104 c105 x99.2.1, aOwn fInt 2 a65 c66 x63.1, aNest fRepair 73 2 a17 c18 x15.1, aOwn fInt 2 a20 c21 x15.2.1, aOwn fInt 2 a23 c24 x15.2.2]) ?_ ?_
  · have hm := hx157; clear hx157
    refine WP.region ?_
    refine WL.runk 4 [3, 4, 5, 6, 7, 8, 10, 11, 12, 13, 14, 15, 16, 17, 18, 19, 20, 21, 22, 23, 24, 25, 112] [(3, .slice a17 x15.1.length c18), (4, .slice a20 x15.2.1.length c21), (5, .slice a23 x15.2.2.length c24), (6, .bool x33.1), (7, .int .i64 x33.2), (8, .bool x42.1), (10, .slice a53 x51.1.length c54), (11, .int .i64 x51.2), (12, .slice a65 x63.1.length c66), (13, .int .i64 x63.2), (14, .slice a77 x75.1.length c78), (15, .int .i64 x75.2), (16, .slice a89 x87.1.length c90), (17, .int .i64 x87.2), (18, .slice a101 x99.1.length c102), (19, .slice a104 x99.2.1.length c105), (20, .int .i64 x99.2.2.1), (21, .int .i64 x99.2.2.2), (22, .bool x114.1), (23, .int .i64 x114.2), (24, .bool x123.1), (25, .int .i64 x123.2), (112, .bool (x33.2 != x42.2))] (by kernel_rfl) ?_
    refine WL.case (x33.2 != x42.2) [112] ⟨rfl, trivial⟩ (fun hc158 => ?_) (fun hc158 => ?_)
    · have hm := iteT hm hc158
      refine WL.runk 36 [3, 4, 5, 6, 7, 11, 12, 15, 18, 19, 20, 21, 22, 23, 148] [(3, .slice a17 x15.1.length c18), (4, .slice a20 x15.2.1.length c21), (5, .slice a23 x15.2.2.length c24), (6, .bool x33.1), (7, .int .i64 x33.2), (11, .int .i64 x51.2), (12, .slice a65 x63.1.length c66), (15, .int .i64 x75.2), (18, .slice a101 x99.1.length c102), (19, .slice a104 x99.2.1.length c105), (20, .int .i64 x99.2.2.1), (21, .int .i64 x99.2.2.2), (22, .bool x114.1), (23, .int .i64 x114.2), (148, .bool true)] (by kernel_rfl) ?_
      refine WL.nil ?_
      obtain rfl := Option.some.inj hm
      exact WQ.post' ⟨rfl, hb128, hL129, (SH.take 6 (SH.front 5 (SH.front 5 (SH.front 7 (SH.front 8 (SH.front 8 (SH.front 8 hS130)))))))⟩ ⟨rfl, rfl, rfl, rfl, rfl, rfl, rfl, rfl, rfl, rfl, rfl, rfl, rfl, rfl, rfl, trivial⟩
    have hm := iteF hm hc158
    refine WL.runk 5 [3, 4, 5, 6, 7, 10, 11, 12, 13, 14, 15, 16, 17, 18, 19, 20, 21, 22, 23, 24, 25, 117] [(3, .slice a17 x15.1.length c18), (4, .slice a20 x15.2.1.length c21), (5, .slice a23 x15.2.2.length c24), (6, .bool x33.1), (7, .int .i64 x33.2), (10, .slice a53 x51.1.length c54), (11, .int .i64 x51.2), (12, .slice a65 x63.1.length c66), (13, .int .i64 x63.2), (14, .slice a77 x75.1.length c78), (15, .int .i64 x75.2), (16, .slice a89 x87.1.length c90), (17, .int .i64 x87.2), (18, .slice a101 x99.1.length c102), (19, .slice a104 x99.2.1.length c105), (20, .int .i64 x99.2.2.1), (21, .int .i64 x99.2.2.2), (22, .bool x114.1), (23, .int .i64 x114.2), (24, .bool x123.1), (25, .int .i64 x123.2), (117, .bool (!(x33.1 == x42.1)))] (by kernel_rfl) ?_
    refine WL.case (!(x33.1 == x42.1)) [117] ⟨rfl, trivial⟩ (fun hc159 => ?_) (fun hc159 => ?_)
    · have hm := iteT hm hc159
      refine WL.runk 31 [3, 4, 5, 6, 7, 11, 12, 15, 18, 19, 20, 21, 22, 23, 148] [(3, .slice a17 x15.1.length c18), (4, .slice a20 x15.2.1.length c21), (5, .slice a23 x15.2.2.length c24), (6, .bool x33.1), (7, .int .i64 x33.2), (11, .int .i64 x51.2), (12, .slice a65 x63.1.length c66), (15, .int .i64 x75.2), (18, .slice a101 x99.1.length c102), (19, .slice a104 x99.2.1.length c105), (20, .int .i64 x99.2.2.1), (21, .int .i64 x99.2.2.2), (22, .bool x114.1), (23, .int .i64 x114.2), (148, .bool true)] (by kernel_rfl) ?_
      refine WL.nil ?_
      obtain rfl := Option.some.inj hm
      exact WQ.post' ⟨rfl, hb128, hL129, (SH.take 6 (SH.front 5 (SH.front 5 (SH.front 7 (SH.front 8 (SH.front 8 (SH.front 8 hS130)))))))⟩ ⟨rfl, rfl, rfl, rfl, rfl, rfl, rfl, rfl, rfl, rfl, rfl, rfl, rfl, rfl, rfl, trivial⟩
    have hm := iteF hm hc159
    refine WL.runk 5 [3, 4, 5, 6, 7, 10, 11, 12, 14, 15, 16, 17, 18, 19, 20, 21, 22, 23, 24, 25, 122] [(3, .slice a17 x15.1.length c18), (4, .slice a20 x15.2.1.length c21), (5, .slice a23 x15.2.2.length c24), (6, .bool x33.1), (7, .int .i64 x33.2), (10, .slice a53 x51.1.length c54), (11, .int .i64 x51.2), (12, .slice a65 x63.1.length c66), (14, .slice a77 x75.1.length c78), (15, .int .i64 x75.2), (16, .slice a89 x87.1.length c90), (17, .int .i64 x87.2), (18, .slice a101 x99.1.length c102), (19, .slice a104 x99.2.1.length c105), (20, .int .i64 x99.2.2.1), (21, .int .i64 x99.2.2.2), (22, .bool x114.1), (23, .int .i64 x114.2), (24, .bool x123.1), (25, .int .i64 x123.2), (122, .bool (x51.2 != x63.2))] (by kernel_rfl) ?_
    refine WL.case (x51.2 != x63.2) [122] ⟨rfl, trivial⟩ (fun hc160 => ?_) (fun hc160 => ?_)
    · have hm := iteT hm hc160
      refine WL.runk 26 [3, 4, 5, 6, 7, 11, 12, 15, 18, 19, 20, 21, 22, 23, 148] [(3, .slice a17 x15.1.length c18), (4, .slice a20 x15.2.1.length c21), (5, .slice a23 x15.2.2.length c24), (6, .bool x33.1), (7, .int .i64 x33.2), (11, .int .i64 x51.2), (12, .slice a65 x63.1.length c66), (15, .int .i64 x75.2), (18, .slice a101 x99.1.length c102), (19, .slice a104 x99.2.1.length c105), (20, .int .i64 x99.2.2.1), (21, .int .i64 x99.2.2.2), (22, .bool x114.1), (23, .int .i64 x114.2), (148, .bool true)] (by kernel_rfl) ?_
      refine WL.nil ?_
      obtain rfl := Option.some.inj hm
      exact WQ.post' ⟨rfl, hb128, hL129, (SH.take 6 (SH.front 5 (SH.front 5 (SH.front 7 (SH.front 8 (SH.front 8 (SH.front 8 hS130)))))))⟩ ⟨rfl, rfl, rfl, rfl, rfl, rfl, rfl, rfl, rfl, rfl, rfl, rfl, rfl, rfl, rfl, trivial⟩
    have hm := iteF hm hc160
    refine WL.runk 2 [3, 4, 5, 6, 7, 11, 12, 14, 15, 16, 17, 18, 19, 20, 21, 22, 23, 24, 25, 122, 123, 124] [(3, .slice a17 x15.1.length c18), (4, .slice a20 x15.2.1.length c21), (5, .slice a23 x15.2.2.length c24), (6, .bool x33.1), (7, .int .i64 x33.2), (11, .int .i64 x51.2), (12, .slice a65 x63.1.length c66), (14, .slice a77 x75.1.length c78), (15, .int .i64 x75.2), (16, .slice a89 x87.1.length c90), (17, .int .i64 x87.2), (18, .slice a101 x99.1.length c102), (19, .slice a104 x99.2.1.length c105), (20, .int .i64 x99.2.2.1), (21, .int .i64 x99.2.2.2), (22, .bool x114.1), (23, .int .i64 x114.2), (24, .bool x123.1), (25, .int .i64 x123.2), (122, .bool false), (123, .slice a53 x51.1.length c54), (124, .slice a65 x63.1.length c66)] (by kernel_rfl) ?_
    obtain ⟨x161, hx162, hm⟩ := bindE hm
    refine WL.call 26 #[.slice a53 x51.1.length c54, .slice a65 x63.1.length c66] rfl rfl (by kernel_rfl) (c_26 n x51.1 a53 c54 x63.1 a65 c66 w125 hx162 (SH.rd (SH.front 5 hS130)) (SH.le (SH.front 5 hS130)).1 (SH.rd (SH.front 4 hS130)) (SH.le (SH.front 4 hS130)).1) ?_
    rintro _ w163 ⟨rfl, hE164⟩
    refine ⟨_, rfl, ?_⟩
    have hb166 : Ext w w163 := Ext.trans hb128 hE164
    have hL167 : w.heap.size ≤ w163.heap.size := Nat.le_trans hL129 hE164.size
    have hS168 : SH w163 w.heap.size [aNest fRepair 73 2 a101 c102 x99.1, aOwn fInt 2 a104 c105 x99.2.1, aOwn fInt 2 a89 c90 x87.1, aOwn fInt 2 a77 c78 x75.1, aOwn fInt 2 a65 c66 x63.1, aOwn fInt 2 a53 c54 x51.1, aNest fRepair 73 2 a17 c18 x15.1, aOwn fInt 2 a20 c21 x15.2.1, aOwn fInt 2 a23 c24 x15.2.2] := SH.ext hS130 hE164
    refine WL.runk 3 [3, 4, 5, 6, 7, 11, 12, 14, 15, 16, 17, 18, 19, 20, 21, 22, 23, 24, 25, 128] [(3, .slice a17 x15.1.length c18), (4, .slice a20 x15.2.1.length c21), (5, .slice a23 x15.2.2.length c24), (6, .bool x33.1), (7, .int .i64 x33.2), (11, .int .i64 x51.2), (12, .slice a65 x63.1.length c66), (14, .slice a77 x75.1.length c78), (15, .int .i64 x75.2), (16, .slice a89 x87.1.length c90), (17, .int .i64 x87.2), (18, .slice a101 x99.1.length c102), (19, .slice a104 x99.2.1.length c105), (20, .int .i64 x99.2.2.1), (21, .int .i64 x99.2.2.2), (22, .bool x114.1), (23, .int .i64 x114.2), (24, .bool x123.1), (25, .int .i64 x123.2), (128, .bool (!x161))] (by kernel_rfl) ?_
    refine WL.case (!x161) [128] ⟨rfl, trivial⟩ (fun hc169 => ?_) (fun hc169 => ?_)
    · have hm := iteT hm hc169
      refine WL.runk 20 [3, 4, 5, 6, 7, 11, 12, 15, 18, 19, 20, 21, 22, 23, 148] [(3, .slice a17 x15.1.length c18), (4, .slice a20 x15.2.1.length c21), (5, .slice a23 x15.2.2.length c24), (6, .bool x33.1), (7, .int .i64 x33.2), (11, .int .i64 x51.2), (12, .slice a65 x63.1.length c66), (15, .int .i64 x75.2), (18, .slice a101 x99.1.length c102), (19, .slice a104 x99.2.1.length c105), (20, .int .i64 x99.2.2.1), (21, .int .i64 x99.2.2.2), (22, .bool x114.1), (23, .int .i64 x114.2), (148, .bool true)] (by kernel_rfl) ?_
      refine WL.nil ?_
      obtain rfl := Option.some.inj hm
      exact WQ.post' ⟨rfl, hb166, hL167, (SH.take 6 (SH.front 5 (SH.front 5 (SH.front 7 (SH.front 8 (SH.front 8 (SH.front 8 hS168)))))))⟩ ⟨rfl, rfl, rfl, rfl, rfl, rfl, rfl, rfl, rfl, rfl, rfl, rfl, rfl, rfl, rfl, trivial⟩
    have hm := iteF hm hc169
    refine WL.runk 5 [3, 4, 5, 6, 7, 11, 12, 14, 15, 16, 18, 19, 20, 21, 22, 23, 24, 25, 133] [(3, .slice a17 x15.1.length c18), (4, .slice a20 x15.2.1.length c21), (5, .slice a23 x15.2.2.length c24), (6, .bool x33.1), (7, .int .i64 x33.2), (11, .int .i64 x51.2), (12, .slice a65 x63.1.length c66), (14, .slice a77 x75.1.length c78), (15, .int .i64 x75.2), (16, .slice a89 x87.1.length c90), (18, .slice a101 x99.1.length c102), (19, .slice a104 x99.2.1.length c105), (20, .int .i64 x99.2.2.1), (21, .int .i64 x99.2.2.2), (22, .bool x114.1), (23, .int .i64 x114.2), (24, .bool x123.1), (25, .int .i64 x123.2), (133, .bool (x75.2 != x87.2))] (by kernel_rfl) ?_
    refine WL.case (x75.2 != x87.2) [133] ⟨rfl, trivial⟩ (fun hc170 => ?_) (fun hc170 => ?_)
    · have hm := iteT hm hc170
      refine WL.runk 15 [3, 4, 5, 6, 7, 11, 12, 15, 18, 19, 20, 21, 22, 23, 148] [(3, .slice a17 x15.1.length c18), (4, .slice a20 x15.2.1.length c21), (5, .slice a23 x15.2.2.length c24), (6, .bool x33.1), (7, .int .i64 x33.2), (11, .int .i64 x51.2), (12, .slice a65 x63.1.length c66), (15, .int .i64 x75.2), (18, .slice a101 x99.1.length c102), (19, .slice a104 x99.2.1.length c105), (20, .int .i64 x99.2.2.1), (21, .int .i64 x99.2.2.2), (22, .bool x114.1), (23, .int .i64 x114.2), (148, .bool true)] (by kernel_rfl) ?_
      refine WL.nil ?_
      obtain rfl := Option.some.inj hm
      exact WQ.post' ⟨rfl, hb166, hL167, (SH.take 6 (SH.front 5 (SH.front 5 (SH.front 7 (SH.front 8 (SH.front 8 (SH.front 8 hS168)))))))⟩ ⟨rfl, rfl, rfl, rfl, rfl, rfl, rfl, rfl, rfl, rfl, rfl, rfl, rfl, rfl, rfl, trivial⟩
    have hm := iteF hm hc170
    refine WL.runk 2 [3, 4, 5, 6, 7, 11, 12, 15, 18, 19, 20, 21, 22, 23, 24, 25, 133, 134, 135] [(3, .slice a17 x15.1.length c18), (4, .slice a20 x15.2.1.length c21), (5, .slice a23 x15.2.2.length c24), (6, .bool x33.1), (7, .int .i64 x33.2), (11, .int .i64 x51.2), (12, .slice a65 x63.1.length c66), (15, .int .i64 x75.2), (18, .slice a101 x99.1.length c102), (19, .slice a104 x99.2.1.length c105), (20, .int .i64 x99.2.2.1), (21, .int .i64 x99.2.2.2), (22, .bool x114.1), (23, .int .i64 x114.2), (24, .bool x123.1), (25, .int .i64 x123.2), (133, .bool false), (134, .slice a77 x75.1.length c78), (135, .slice a89 x87.1.length c90)] (by kernel_rfl) ?_
    obtain ⟨x171, hx172, hm⟩ := bindE hm
    refine WL.call 26 #[.slice a77 x75.1.length c78, .slice a89 x87.1.length c90] rfl rfl (by kernel_rfl) (c_26 n x75.1 a77 c78 x87.1 a89 c90 w163 hx172 (SH.rd (SH.front 3 hS168)) (SH.le (SH.front 3 hS168)).1 (SH.rd (SH.front 2 hS168)) (SH.le (SH.front 2 hS168)).1) ?_
    rintro _ w173 ⟨rfl, hE174⟩
    refine ⟨_, rfl, ?_⟩
    have hb176 : Ext w w173 := Ext.trans hb166 hE174
    have hL177 : w.heap.size ≤ w173.heap.size := Nat.le_trans hL167 hE174.size
    have hS178 : SH w173 w.heap.size [aNest fRepair 73 2 a101 c102 x99.1, aOwn fInt 2 a104 c105 x99.2.1, aOwn fInt 2 a89 c90 x87.1, aOwn fInt 2 a77 c78 x75.1, aOwn fInt 2 a65 c66 x63.1, aOwn fInt 2 a53 c54 x51.1, aNest fRepair 73 2 a17 c18 x15.1, aOwn fInt 2 a20 c21 x15.2.1, aOwn fInt 2 a23 c24 x15.2.2] := SH.ext hS168 hE174
    refine WL.runk 3 [3, 4, 5, 6, 7, 11, 12, 15, 18, 19, 20, 21, 22, 23, 24, 25, 139] [(3, .slice a17 x15.1.length c18), (4, .slice a20 x15.2.1.length c21), (5, .slice a23 x15.2.2.length c24), (6, .bool x33.1), (7, .int .i64 x33.2), (11, .int .i64 x51.2), (12, .slice a65 x63.1.length c66), (15, .int .i64 x75.2), (18, .slice a101 x99.1.length c102), (19, .slice a104 x99.2.1.length c105), (20, .int .i64 x99.2.2.1), (21, .int .i64 x99.2.2.2), (22, .bool x114.1), (23, .int .i64 x114.2), (24, .bool x123.1), (25, .int .i64 x123.2), (139, .bool (!x171))] (by kernel_rfl) ?_
    refine WL.case (!x171) [139] ⟨rfl, trivial⟩ (fun hc179 => ?_) (fun hc179 => ?_)
    · have hm := iteT hm hc179
      refine WL.runk 9 [3, 4, 5, 6, 7, 11, 12, 15, 18, 19, 20, 21, 22, 23, 148] [(3, .slice a17 x15.1.length c18), (4, .slice a20 x15.2.1.length c21), (5, .slice a23 x15.2.2.length c24), (6, .bool x33.1), (7, .int .i64 x33.2), (11, .int .i64 x51.2), (12, .slice a65 x63.1.length c66), (15, .int .i64 x75.2), (18, .slice a101 x99.1.length c102), (19, .slice a104 x99.2.1.length c105), (20, .int .i64 x99.2.2.1), (21, .int .i64 x99.2.2.2), (22, .bool x114.1), (23, .int .i64 x114.2), (148, .bool true)] (by kernel_rfl) ?_
      refine WL.nil ?_
      obtain rfl := Option.some.inj hm
      exact WQ.post' ⟨rfl, hb176, hL177, (SH.take 6 (SH.front 5 (SH.front 5 (SH.front 7 (SH.front 8 (SH.front 8 (SH.front 8 hS178)))))))⟩ ⟨rfl, rfl, rfl, rfl, rfl, rfl, rfl, rfl, rfl, rfl, rfl, rfl, rfl, rfl, rfl, trivial⟩
    have hm := iteF hm hc179
    refine WL.runk 5 [3, 4, 5, 6, 7, 11, 12, 15, 18, 19, 20, 21, 22, 23, 24, 144] [(3, .slice a17 x15.1.length c18), (4, .slice a20 x15.2.1.length c21), (5, .slice a23 x15.2.2.length c24), (6, .bool x33.1), (7, .int .i64 x33.2), (11, .int .i64 x51.2), (12, .slice a65 x63.1.length c66), (15, .int .i64 x75.2), (18, .slice a101 x99.1.length c102), (19, .slice a104 x99.2.1.length c105), (20, .int .i64 x99.2.2.1), (21, .int .i64 x99.2.2.2), (22, .bool x114.1), (23, .int .i64 x114.2), (24, .bool x123.1), (144, .bool (x114.2 != x123.2))] (by kernel_rfl) ?_
    refine WL.case (x114.2 != x123.2) [144] ⟨rfl, trivial⟩ (fun hc180 => ?_) (fun hc180 => ?_)
    · have hm := iteT hm hc180
      refine WL.runk 4 [3, 4, 5, 6, 7, 11, 12, 15, 18, 19, 20, 21, 22, 23, 148] [(3, .slice a17 x15.1.length c18), (4, .slice a20 x15.2.1.length c21), (5, .slice a23 x15.2.2.length c24), (6, .bool x33.1), (7, .int .i64 x33.2), (11, .int .i64 x51.2), (12, .slice a65 x63.1.length c66), (15, .int .i64 x75.2), (18, .slice a101 x99.1.length c102), (19, .slice a104 x99.2.1.length c105), (20, .int .i64 x99.2.2.1), (21, .int .i64 x99.2.2.2), (22, .bool x114.1), (23, .int .i64 x114.2), (148, .bool true)] (by kernel_rfl) ?_
      refine WL.nil ?_
      obtain rfl := Option.some.inj hm
      exact WQ.post' ⟨rfl, hb176, hL177, (SH.take 6 (SH.front 5 (SH.front 5 (SH.front 7 (SH.front 8 (SH.front 8 (SH.front 8 hS178)))))))⟩ ⟨rfl, rfl, rfl, rfl, rfl, rfl, rfl, rfl, rfl, rfl, rfl, rfl, rfl, rfl, rfl, trivial⟩
    have hm := iteF hm hc180
    refine WL.runk 4 [3, 4, 5, 6, 7, 11, 12, 15, 18, 19, 20, 21, 22, 23, 148] [(3, .slice a17 x15.1.length c18), (4, .slice a20 x15.2.1.length c21), (5, .slice a23 x15.2.2.length c24), (6, .bool x33.1), (7, .int .i64 x33.2), (11, .int .i64 x51.2), (12, .slice a65 x63.1.length c66), (15, .int .i64 x75.2), (18, .slice a101 x99.1.length c102), (19, .slice a104 x99.2.1.length c105), (20, .int .i64 x99.2.2.1), (21, .int .i64 x99.2.2.2), (22, .bool x114.1), (23, .int .i64 x114.2), (148, .bool (!(x114.1 == x123.1)))] (by kernel_rfl) ?_
    refine WL.nil ?_
    obtain rfl := Option.some.inj hm
    exact WQ.post' ⟨rfl, hb176, hL177, (SH.take 6 (SH.front 5 (SH.front 5 (SH.front 7 (SH.front 8 (SH.front 8 (SH.front 8 hS178)))))))⟩ ⟨rfl, rfl, rfl, rfl, rfl, rfl, rfl, rfl, rfl, rfl, rfl, rfl, rfl, rfl, rfl, trivial⟩
  clear hx157
  rintro _ w181 ⟨rfl, hb182, hL183, hS184⟩
  refine WQ.then_normal (hK132 _ _ _ ?_)
  refine WP.cond x156 rfl rfl (fun hc185 => ?_) (fun hc185 => ?_)
  · have hm := iteT hm hc185
    refine WP.seq (fun K186 hK186 => ?_)
    refine WP.region ?_
    refine WL.runk 1 [2] [(2, .bool false)] (by kernel_rfl) ?_
    refine WL.nil ?_
    refine WQ.then_normal (hK186 _ _ _ ?_)
    refine WP.ret ?_
    refine WQ.then_ret ?_
    obtain rfl := Option.some.inj hm
    exact WQ.ret1 _ rfl rfl ⟨rfl, hb182⟩
  have hm := iteF hm hc185
  refine WP.skip ?_
  refine WQ.then_normal (hK131 _ _ _ ?_)
  refine WP.seq (fun K187 hK187 => ?_)
  refine WP.seq (fun K188 hK188 => ?_)
  refine WP.region ?_
  refine WL.runk 2 [3, 4, 5, 6, 7, 11, 12, 15, 18, 19, 20, 21, 22, 150] [(3, .slice a17 x15.1.length c18), (4, .slice a20 x15.2.1.length c21), (5, .slice a23 x15.2.2.length c24), (6, .bool x33.1), (7, .int .i64 x33.2), (11, .int .i64 x51.2), (12, .slice a65 x63.1.length c66), (15, .int .i64 x75.2), (18, .slice a101 x99.1.length c102), (19, .slice a104 x99.2.1.length c105), (20, .int .i64 x99.2.2.1), (21, .int .i64 x99.2.2.2), (22, .bool x114.1), (150, .bool (x114.2 == 0))] (by kernel_rfl) ?_
  refine WL.nil ?_
  refine WQ.then_normal (hK188 _ _ _ ?_)
  refine WP.cond (x114.2 == 0) rfl rfl (fun hc189 => ?_) (fun hc189 => ?_)
  rotate_left
  · have hm := iteF hm hc189
    refine WP.skip ?_
    refine WQ.then_normal (hK187 _ _ _ ?_)
    refine WP.seq (fun K336 hK336 => ?_)
    refine WP.seq (fun K337 hK337 => ?_)
    obtain ⟨x339, hx340, hm⟩ := bindE hm
    refine WP.cut (fun env' w' => env' = [(3, .slice a17 x15.1.length c18), (4, .slice a20 x15.2.1.length c21), (5, .slice a23 x15.2.2.length c24), (6, .bool x33.1), (7, .int .i64 x33.2), (11, .int .i64 x51.2), (12, .slice a65 x63.1.length c66), (186, .bool x339)] ∧ Ext w w' ∧ w.heap.size ≤ w'.heap.size ∧ SH w' w.heap.size [aOwn fInt 2 a65 c66 x63.1, aNest fRepair 73 2 a17 c18 x15.1, aOwn fInt 2 a20 c21 x15.2.1, aOwn fInt 2 a23 c24 x15.2.2]) ?_ ?_
    · have hm := hx340; clear hx340
      refine WP.region ?_
      refine WL.runk 3 [3, 4, 5, 6, 7, 11, 12, 15, 181] [(3, .slice a17 x15.1.length c18), (4, .slice a20 x15.2.1.length c21), (5, .slice a23 x15.2.2.length c24), (6, .bool x33.1), (7, .int .i64 x33.2), (11, .int .i64 x51.2), (12, .slice a65 x63.1.length c66), (15, .int .i64 x75.2), (181, .bool (x33.2 == 0))] (by kernel_rfl) ?_
      refine WL.case (x33.2 == 0) [181] ⟨rfl, trivial⟩ (fun hc341 => ?_) (fun hc341 => ?_)
      · have hm := iteT hm hc341
        refine WL.runk 5 [3, 4, 5, 6, 7, 11, 12, 186] [(3, .slice a17 x15.1.length c18), (4, .slice a20 x15.2.1.length c21), (5, .slice a23 x15.2.2.length c24), (6, .bool x33.1), (7, .int .i64 x33.2), (11, .int .i64 x51.2), (12, .slice a65 x63.1.length c66), (186, .bool (!((x75.2 == 0) == x33.1)))] (by kernel_rfl) ?_
        refine WL.nil ?_
        obtain rfl := Option.some.inj hm
        exact WQ.post' ⟨rfl, hb182, hL183, (SH.take 4 (SH.front 5 (SH.front 5 (SH.front 5 (SH.front 5 hS184)))))⟩ ⟨rfl, rfl, rfl, rfl, rfl, rfl, rfl, rfl, trivial⟩
      have hm := iteF hm hc341
      refine WL.runk 5 [3, 4, 5, 6, 7, 11, 12, 186] [(3, .slice a17 x15.1.length c18), (4, .slice a20 x15.2.1.length c21), (5, .slice a23 x15.2.2.length c24), (6, .bool x33.1), (7, .int .i64 x33.2), (11, .int .i64 x51.2), (12, .slice a65 x63.1.length c66), (186, .bool false)] (by kernel_rfl) ?_
      refine WL.nil ?_
      obtain rfl := Option.some.inj hm
      exact WQ.post' ⟨rfl, hb182, hL183, (SH.take 4 (SH.front 5 (SH.front 5 (SH.front 5 (SH.front 5 hS184)))))⟩ ⟨rfl, rfl, rfl, rfl, rfl, rfl, rfl, rfl, trivial⟩
    clear hx340
    rintro _ w342 ⟨rfl, hb343, hL344, hS345⟩
    refine WQ.then_normal (hK337 _ _ _ ?_)
    refine WP.cond x339 rfl rfl (fun hc346 => ?_) (fun hc346 => ?_)
    · have hm := iteT hm hc346
      refine WP.seq (fun K347 hK347 => ?_)
      refine WP.region ?_
      refine WL.runk 1 [2] [(2, .bool false)] (by kernel_rfl) ?_
      refine WL.nil ?_
      refine WQ.then_normal (hK347 _ _ _ ?_)
      refine WP.ret ?_
      refine WQ.then_ret ?_
      obtain rfl := Option.some.inj hm
      exact WQ.ret1 _ rfl rfl ⟨rfl, hb343⟩
    have hm := iteF hm hc346
    refine WP.skip ?_
    refine WQ.then_normal (hK336 _ _ _ ?_)
    refine WP.seq (fun K348 hK348 => ?_)
    refine WP.seq (fun K349 hK349 => ?_)
    refine WP.region ?_
    refine WL.runk 2 [3, 4, 5, 6, 7, 11, 12, 188] [(3, .slice a17 x15.1.length c18), (4, .slice a20 x15.2.1.length c21), (5, .slice a23 x15.2.2.length c24), (6, .bool x33.1), (7, .int .i64 x33.2), (11, .int .i64 x51.2), (12, .slice a65 x63.1.length c66), (188, .bool (x51.2 != 0))] (by kernel_rfl) ?_
    refine WL.nil ?_
    refine WQ.then_normal (hK349 _ _ _ ?_)
    refine WP.cond (x51.2 != 0) rfl rfl (fun hc350 => ?_) (fun hc350 => ?_)
    · have hm := iteT hm hc350
      refine WP.seq (fun K351 hK351 => ?_)
      obtain ⟨x354, hx355, hm⟩ := bindE hm
      refine WP.cut (fun env' w' => env' = [(2, .bool x354)] ∧ Ext w w' ∧ w.heap.size ≤ w'.heap.size ∧ SH w' w.heap.size []) ?_ ?_
      rotate_left
      · clear hx355
        rintro _ w358 ⟨rfl, hb359, hL360, hS361⟩
        refine WQ.then_normal (hK351 _ _ _ ?_)
        refine WP.ret ?_
        refine WQ.then_ret ?_
        obtain rfl := Option.some.inj hm
        exact WQ.ret1 _ rfl rfl ⟨rfl, hb359⟩
      have hm := hx355; clear hx355
      refine WP.region ?_
      refine WL.runk 3 [6, 11, 191] [(6, .bool x33.1), (11, .int .i64 x51.2), (191, .bool (x33.2 != 0))] (by kernel_rfl) ?_
      refine WL.case (x33.2 != 0) [191] ⟨rfl, trivial⟩ (fun hc356 => ?_) (fun hc356 => ?_)
      · have hm := iteT hm hc356
        refine WL.runk 8 [2] [(2, .bool true)] (by kernel_rfl) ?_
        refine WL.nil ?_
        obtain rfl := Option.some.inj hm
        exact WQ.post' ⟨rfl, hb343, hL344, (SH.take 0 hS345)⟩ ⟨rfl, trivial⟩
      have hm := iteF hm hc356
      refine WL.runk 4 [11, 195] [(11, .int .i64 x51.2), (195, .bool (!x33.1))] (by kernel_rfl) ?_
      refine WL.case (!x33.1) [195] ⟨rfl, trivial⟩ (fun hc357 => ?_) (fun hc357 => ?_)
      · have hm := iteT hm hc357
        refine WL.runk 4 [2] [(2, .bool true)] (by kernel_rfl) ?_
        refine WL.nil ?_
        obtain rfl := Option.some.inj hm
        exact WQ.post' ⟨rfl, hb343, hL344, (SH.take 0 hS345)⟩ ⟨rfl, trivial⟩
      have hm := iteF hm hc357
      refine WL.runk 4 [2] [(2, .bool (x51.2 != 3))] (by kernel_rfl) ?_
      refine WL.nil ?_
      obtain rfl := Option.some.inj hm
      exact WQ.post' ⟨rfl, hb343, hL344, (SH.take 0 hS345)⟩ ⟨rfl, trivial⟩
    have hm := iteF hm hc350
    refine WP.skip ?_
    refine WQ.then_normal (hK348 _ _ _ ?_)
    refine WP.seq (fun K362 hK362 => ?_)
    refine WP.region ?_
    refine WL.runk 3 [3, 4, 5, 6, 7, 12, 200, 201, 202] [(3, .slice a17 x15.1.length c18), (4, .slice a20 x15.2.1.length c21), (5, .slice a23 x15.2.2.length c24), (6, .bool x33.1), (7, .int .i64 x33.2), (12, .slice a65 x63.1.length c66), (200, .slice a17 x15.1.length c18), (201, .slice a65 x63.1.length c66), (202, .slice a23 x15.2.2.length c24)] (by kernel_rfl) ?_
    obtain ⟨x363, hx364, hm⟩ := bindE hm
    refine WL.call 17 #[.slice a17 x15.1.length c18, .slice a65 x63.1.length c66, .slice a23 x15.2.2.length c24] rfl rfl (by kernel_rfl) (c_17 n x15.1 a17 c18 x63.1 a65 c66 x15.2.2 a23 c24 w342 hx364 (SH.rdN (SH.front 1 hS345)) (SH.leN (SH.front 1 hS345)).1 (SH.rd (SH.front 0 hS345)) (SH.le (SH.front 0 hS345)).1 (SH.rd (SH.front 3 hS345)) (SH.le (SH.front 3 hS345)).1) ?_
    rintro _ w365 ⟨rfl, hE366⟩
    refine ⟨_, rfl, ?_⟩
    have hb368 : Ext w w365 := Ext.trans hb343 hE366
    have hL369 : w.heap.size ≤ w365.heap.size := Nat.le_trans hL344 hE366.size
    have hS370 : SH w365 w.heap.size [aOwn fInt 2 a65 c66 x63.1, aNest fRepair 73 2 a17 c18 x15.1, aOwn fInt 2 a20 c21 x15.2.1, aOwn fInt 2 a23 c24 x15.2.2] := SH.ext hS345 hE366
    refine WL.runk 5 [3, 4, 5, 6, 7, 12, 30, 31] [(3, .slice a17 x15.1.length c18), (4, .slice a20 x15.2.1.length c21), (5, .slice a23 x15.2.2.length c24), (6, .bool x33.1), (7, .int .i64 x33.2), (12, .slice a65 x63.1.length c66), (30, .bool x363.1), (31, .int .i64 x363.2)] (by kernel_rfl) ?_
    refine WL.nil ?_
    refine WQ.then_normal (hK362 _ _ _ ?_)
    refine WP.seq (fun K371 hK371 => ?_)
    refine WP.region ?_
    refine WL.runk 2 [3, 4, 5, 6, 7, 12, 30, 31, 207, 208] [(3, .slice a17 x15.1.length c18), (4, .slice a20 x15.2.1.length c21), (5, .slice a23 x15.2.2.length c24), (6, .bool x33.1), (7, .int .i64 x33.2), (12, .slice a65 x63.1.length c66), (30, .bool x363.1), (31, .int .i64 x363.2), (207, .slice a17 x15.1.length c18), (208, .slice a65 x63.1.length c66)] (by kernel_rfl) ?_
    obtain ⟨x372, hx373, hm⟩ := bindE hm
    refine WL.call 27 #[.slice a17 x15.1.length c18, .slice a65 x63.1.length c66] rfl rfl (by kernel_rfl) (c_27 n x15.1 a17 c18 x63.1 a65 c66 w365 hx373 (SH.rdN (SH.front 1 hS370)) (SH.leN (SH.front 1 hS370)).1 (SH.rd (SH.front 0 hS370)) (SH.le (SH.front 0 hS370)).1) ?_
    rintro _ w374 ⟨rfl, hE375⟩
    refine ⟨_, rfl, ?_⟩
    have hb377 : Ext w w374 := Ext.trans hb368 hE375
    have hL378 : w.heap.size ≤ w374.heap.size := Nat.le_trans hL369 hE375.size
    have hS379 : SH w374 w.heap.size [aOwn fInt 2 a65 c66 x63.1, aNest fRepair 73 2 a17 c18 x15.1, aOwn fInt 2 a20 c21 x15.2.1, aOwn fInt 2 a23 c24 x15.2.2] := SH.ext hS370 hE375
    refine WL.runk 5 [3, 4, 5, 6, 7, 12, 30, 31, 32, 33] [(3, .slice a17 x15.1.length c18), (4, .slice a20 x15.2.1.length c21), (5, .slice a23 x15.2.2.length c24), (6, .bool x33.1), (7, .int .i64 x33.2), (12, .slice a65 x63.1.length c66), (30, .bool x363.1), (31, .int .i64 x363.2), (32, .int .i64 x372.1), (33, .int .i64 x372.2)] (by kernel_rfl) ?_
    refine WL.nil ?_
    refine WQ.then_normal (hK371 _ _ _ ?_)
    refine WP.seq (fun K380 hK380 => ?_)
    refine WP.seq (fun K381 hK381 => ?_)
    obtain ⟨x384, hx385, hm⟩ := bindE hm
    refine WP.cut (fun env' w' => env' = [(3, .slice a17 x15.1.length c18), (4, .slice a20 x15.2.1.length c21), (5, .slice a23 x15.2.2.length c24), (6, .bool x33.1), (7, .int .i64 x33.2), (12, .slice a65 x63.1.length c66), (32, .int .i64 x372.1), (221, .bool x384)] ∧ Ext w w' ∧ w.heap.size ≤ w'.heap.size ∧ SH w' w.heap.size [aOwn fInt 2 a65 c66 x63.1, aNest fRepair 73 2 a17 c18 x15.1, aOwn fInt 2 a20 c21 x15.2.1, aOwn fInt 2 a23 c24 x15.2.2]) ?_ ?_
    · have hm := hx385; clear hx385
      refine WP.region ?_
      refine WL.runk 3 [3, 4, 5, 6, 7, 12, 30, 32, 33, 214] [(3, .slice a17 x15.1.length c18), (4, .slice a20 x15.2.1.length c21), (5, .slice a23 x15.2.2.length c24), (6, .bool x33.1), (7, .int .i64 x33.2), (12, .slice a65 x63.1.length c66), (30, .bool x363.1), (32, .int .i64 x372.1), (33, .int .i64 x372.2), (214, .bool (x363.2 != 0))] (by kernel_rfl) ?_
      refine WL.case (x363.2 != 0) [214] ⟨rfl, trivial⟩ (fun hc386 => ?_) (fun hc386 => ?_)
      · have hm := iteT hm hc386
        refine WL.runk 7 [3, 4, 5, 6, 7, 12, 32, 221] [(3, .slice a17 x15.1.length c18), (4, .slice a20 x15.2.1.length c21), (5, .slice a23 x15.2.2.length c24), (6, .bool x33.1), (7, .int .i64 x33.2), (12, .slice a65 x63.1.length c66), (32, .int .i64 x372.1), (221, .bool true)] (by kernel_rfl) ?_
        refine WL.nil ?_
        obtain rfl := Option.some.inj hm
        exact WQ.post' ⟨rfl, hb377, hL378, hS379⟩ ⟨rfl, rfl, rfl, rfl, rfl, rfl, rfl, rfl, trivial⟩
      have hm := iteF hm hc386
      refine WL.runk 4 [3, 4, 5, 6, 7, 12, 32, 33, 218] [(3, .slice a17 x15.1.length c18), (4, .slice a20 x15.2.1.length c21), (5, .slice a23 x15.2.2.length c24), (6, .bool x33.1), (7, .int .i64 x33.2), (12, .slice a65 x63.1.length c66), (32, .int .i64 x372.1), (33, .int .i64 x372.2), (218, .bool (!x363.1))] (by kernel_rfl) ?_
      refine WL.case (!x363.1) [218] ⟨rfl, trivial⟩ (fun hc387 => ?_) (fun hc387 => ?_)
      · have hm := iteT hm hc387
        refine WL.runk 3 [3, 4, 5, 6, 7, 12, 32, 221] [(3, .slice a17 x15.1.length c18), (4, .slice a20 x15.2.1.length c21), (5, .slice a23 x15.2.2.length c24), (6, .bool x33.1), (7, .int .i64 x33.2), (12, .slice a65 x63.1.length c66), (32, .int .i64 x372.1), (221, .bool true)] (by kernel_rfl) ?_
        refine WL.nil ?_
        obtain rfl := Option.some.inj hm
        exact WQ.post' ⟨rfl, hb377, hL378, hS379⟩ ⟨rfl, rfl, rfl, rfl, rfl, rfl, rfl, rfl, trivial⟩
      have hm := iteF hm hc387
      refine WL.runk 3 [3, 4, 5, 6, 7, 12, 32, 221] [(3, .slice a17 x15.1.length c18), (4, .slice a20 x15.2.1.length c21), (5, .slice a23 x15.2.2.length c24), (6, .bool x33.1), (7, .int .i64 x33.2), (12, .slice a65 x63.1.length c66), (32, .int .i64 x372.1), (221, .bool (x372.2 != 0))] (by kernel_rfl) ?_
      refine WL.nil ?_
      obtain rfl := Option.some.inj hm
      exact WQ.post' ⟨rfl, hb377, hL378, hS379⟩ ⟨rfl, rfl, rfl, rfl, rfl, rfl, rfl, rfl, trivial⟩
    clear hx385
    rintro _ w388 ⟨rfl, hb389, hL390, hS391⟩
    refine WQ.then_normal (hK381 _ _ _ ?_)
    refine WP.cond x384 rfl rfl (fun hc392 => ?_) (fun hc392 => ?_)
    · have hm := iteT hm hc392
      refine WP.seq (fun K393 hK393 => ?_)
      refine WP.region ?_
      refine WL.runk 1 [2] [(2, .bool false)] (by kernel_rfl) ?_
      refine WL.nil ?_
      refine WQ.then_normal (hK393 _ _ _ ?_)
      refine WP.ret ?_
      refine WQ.then_ret ?_
      obtain rfl := Option.some.inj hm
      exact WQ.ret1 _ rfl rfl ⟨rfl, hb389⟩
    have hm := iteF hm hc392
    refine WP.skip ?_
    refine WQ.then_normal (hK380 _ _ _ ?_)
    refine WP.seq (fun K394 hK394 => ?_)
    refine WP.region ?_
    refine WL.runk 3 [3, 4, 6, 7, 32, 223, 224, 225] [(3, .slice a17 x15.1.length c18), (4, .slice a20 x15.2.1.length c21), (6, .bool x33.1), (7, .int .i64 x33.2), (32, .int .i64 x372.1), (223, .slice a17 x15.1.length c18), (224, .slice a65 x63.1.length c66), (225, .slice a23 x15.2.2.length c24)] (by kernel_rfl) ?_
    obtain ⟨x395, hx396, hm⟩ := bindE hm
    refine WL.call 21 #[.slice a17 x15.1.length c18, .slice a65 x63.1.length c66, .slice a23 x15.2.2.length c24] rfl rfl (by kernel_rfl) (c_21 n x15.1 a17 c18 x63.1 a65 c66 x15.2.2 a23 c24 w388 hx396 (SH.rdN (SH.front 1 hS391)) (SH.leN (SH.front 1 hS391)).1 (SH.rd (SH.front 0 hS391)) (SH.le (SH.front 0 hS391)).1 (SH.rd (SH.front 3 hS391)) (SH.le (SH.front 3 hS391)).1) ?_
    rintro _ w400 ⟨a397, c398, rfl, hE401, hR402⟩
    refine ⟨_, rfl, ?_⟩
    have hb403 : Ext w w400 := Ext.trans hb389 hE401
    have hL404 : w.heap.size ≤ w400.heap.size := Nat.le_trans hL390 hE401.size
    have hS405 : SH w400 w.heap.size [aOwn fInt 2 a397 c398 x395.1, aOwn fInt 2 a65 c66 x63.1, aNest fRepair 73 2 a17 c18 x15.1, aOwn fInt 2 a20 c21 x15.2.1, aOwn fInt 2 a23 c24 x15.2.2] := SH.add hS391 hE401 hL390 hR402
    refine WL.runk 5 [3, 4, 6, 7, 32, 34, 35] [(3, .slice a17 x15.1.length c18), (4, .slice a20 x15.2.1.length c21), (6, .bool x33.1), (7, .int .i64 x33.2), (32, .int .i64 x372.1), (34, .slice a397 x395.1.length c398), (35, .int .i64 x395.2)] (by kernel_rfl) ?_
    refine WL.nil ?_
    refine WQ.then_normal (hK394 _ _ _ ?_)
    refine WP.seq (fun K406 hK406 => ?_)
    refine WP.seq (fun K407 hK407 => ?_)
    obtain ⟨x409, hx410, hm⟩ := bindE hm
    refine WP.cut (fun env' w' => env' = [(3, .slice a17 x15.1.length c18), (4, .slice a20 x15.2.1.length c21), (6, .bool x33.1), (7, .int .i64 x33.2), (32, .int .i64 x372.1), (235, .bool x409)] ∧ Ext w w' ∧ w.heap.size ≤ w'.heap.size ∧ SH w' w.heap.size [aNest fRepair 73 2 a17 c18 x15.1, aOwn fInt 2 a20 c21 x15.2.1]) ?_ ?_
    · have hm := hx410; clear hx410
      refine WP.region ?_
      refine WL.runk 3 [3, 4, 6, 7, 32, 34, 231] [(3, .slice a17 x15.1.length c18), (4, .slice a20 x15.2.1.length c21), (6, .bool x33.1), (7, .int .i64 x33.2), (32, .int .i64 x372.1), (34, .slice a397 x395.1.length c398), (231, .bool (x395.2 != 0))] (by kernel_rfl) ?_
      refine WL.case (x395.2 != 0) [231] ⟨rfl, trivial⟩ (fun hc411 => ?_) (fun hc411 => ?_)
      · have hm := iteT hm hc411
        refine WL.runk 4 [3, 4, 6, 7, 32, 235] [(3, .slice a17 x15.1.length c18), (4, .slice a20 x15.2.1.length c21), (6, .bool x33.1), (7, .int .i64 x33.2), (32, .int .i64 x372.1), (235, .bool true)] (by kernel_rfl) ?_
        refine WL.nil ?_
        obtain rfl := Option.some.inj hm
        exact WQ.post' ⟨rfl, hb403, hL404, (SH.take 2 (SH.front 3 (SH.front 3 hS405)))⟩ ⟨rfl, rfl, rfl, rfl, rfl, rfl, trivial⟩
      have hm := iteF hm hc411
      refine WL.runk 4 [3, 4, 6, 7, 32, 235] [(3, .slice a17 x15.1.length c18), (4, .slice a20 x15.2.1.length c21), (6, .bool x33.1), (7, .int .i64 x33.2), (32, .int .i64 x372.1), (235, .bool ((x395.1.length : Int) != 0))] (by kernel_rfl) ?_
      refine WL.nil ?_
      obtain rfl := Option.some.inj hm
      exact WQ.post' ⟨rfl, hb403, hL404, (SH.take 2 (SH.front 3 (SH.front 3 hS405)))⟩ ⟨rfl, rfl, rfl, rfl, rfl, rfl, trivial⟩
    clear hx410
    rintro _ w412 ⟨rfl, hb413, hL414, hS415⟩
    refine WQ.then_normal (hK407 _ _ _ ?_)
    refine WP.cond x409 rfl rfl (fun hc416 => ?_) (fun hc416 => ?_)
    · have hm := iteT hm hc416
      refine WP.seq (fun K417 hK417 => ?_)
      refine WP.region ?_
      refine WL.runk 1 [2] [(2, .bool false)] (by kernel_rfl) ?_
      refine WL.nil ?_
      refine WQ.then_normal (hK417 _ _ _ ?_)
      refine WP.ret ?_
      refine WQ.then_ret ?_
      obtain rfl := Option.some.inj hm
      exact WQ.ret1 _ rfl rfl ⟨rfl, hb413⟩
    have hm := iteF hm hc416
    refine WP.skip ?_
    refine WQ.then_normal (hK406 _ _ _ ?_)
    refine WP.seq (fun K418 hK418 => ?_)
    refine WP.seq (fun K419 hK419 => ?_)
    obtain ⟨x421, hx422, hm⟩ := bindE hm
    refine WP.cut (fun env' w' => env' = [(3, .slice a17 x15.1.length c18), (4, .slice a20 x15.2.1.length c21), (32, .int .i64 x372.1), (241, .bool x421)] ∧ Ext w w' ∧ w.heap.size ≤ w'.heap.size ∧ SH w' w.heap.size [aNest fRepair 73 2 a17 c18 x15.1, aOwn fInt 2 a20 c21 x15.2.1]) ?_ ?_
    · have hm := hx422; clear hx422
      refine WP.region ?_
      refine WL.runk 3 [3, 4, 6, 32, 238] [(3, .slice a17 x15.1.length c18), (4, .slice a20 x15.2.1.length c21), (6, .bool x33.1), (32, .int .i64 x372.1), (238, .bool (x33.2 != 0))] (by kernel_rfl) ?_
      refine WL.case (x33.2 != 0) [238] ⟨rfl, trivial⟩ (fun hc423 => ?_) (fun hc423 => ?_)
      · have hm := iteT hm hc423
        refine WL.runk 3 [3, 4, 32, 241] [(3, .slice a17 x15.1.length c18), (4, .slice a20 x15.2.1.length c21), (32, .int .i64 x372.1), (241, .bool true)] (by kernel_rfl) ?_
        refine WL.nil ?_
        obtain rfl := Option.some.inj hm
        exact WQ.post' ⟨rfl, hb413, hL414, hS415⟩ ⟨rfl, rfl, rfl, rfl, trivial⟩
      have hm := iteF hm hc423
      refine WL.runk 3 [3, 4, 32, 241] [(3, .slice a17 x15.1.length c18), (4, .slice a20 x15.2.1.length c21), (32, .int .i64 x372.1), (241, .bool (!x33.1))] (by kernel_rfl) ?_
      refine WL.nil ?_
      obtain rfl := Option.some.inj hm
      exact WQ.post' ⟨rfl, hb413, hL414, hS415⟩ ⟨rfl, rfl, rfl, rfl, trivial⟩
    clear hx422
    rintro _ w424 ⟨rfl, hb425, hL426, hS427⟩
    refine WQ.then_normal (hK419 _ _ _ ?_)
    refine WP.cond x421 rfl rfl (fun hc428 => ?_) (fun hc428 => ?_)
    · have hm := iteT hm hc428
      refine WP.seq (fun K429 hK429 => ?_)
      refine WP.region ?_
      refine WL.runk 1 [2] [(2, .bool true)] (by kernel_rfl) ?_
      refine WL.nil ?_
      refine WQ.then_normal (hK429 _ _ _ ?_)
      refine WP.ret ?_
      refine WQ.then_ret ?_
      obtain rfl := Option.some.inj hm
      exact WQ.ret1 _ rfl rfl ⟨rfl, hb425⟩
    have hm := iteF hm hc428
    refine WP.skip ?_
    refine WQ.then_normal (hK418 _ _ _ ?_)
    refine WP.seq (fun K430 hK430 => ?_)
    refine WP.region ?_
    refine WL.runk 2 [32, 243, 244] [(32, .int .i64 x372.1), (243, .slice a17 x15.1.length c18), (244, .slice a20 x15.2.1.length c21)] (by kernel_rfl) ?_
    obtain ⟨x431, hx432, hm⟩ := bindE hm
    refine WL.call 27 #[.slice a17 x15.1.length c18, .slice a20 x15.2.1.length c21] rfl rfl (by kernel_rfl) (c_27 n x15.1 a17 c18 x15.2.1 a20 c21 w424 hx432 (SH.rdN (SH.front 0 hS427)) (SH.leN (SH.front 0 hS427)).1 (SH.rd (SH.front 1 hS427)) (SH.le (SH.front 1 hS427)).1) ?_
    rintro _ w433 ⟨rfl, hE434⟩
    refine ⟨_, rfl, ?_⟩
    have hb436 : Ext w w433 := Ext.trans hb425 hE434
    have hL437 : w.heap.size ≤ w433.heap.size := Nat.le_trans hL426 hE434.size
    have hS438 : SH w433 w.heap.size [aNest fRepair 73 2 a17 c18 x15.1, aOwn fInt 2 a20 c21 x15.2.1] := SH.ext hS427 hE434
    refine WL.runk 5 [32, 36, 37] [(32, .int .i64 x372.1), (36, .int .i64 x431.1), (37, .int .i64 x431.2)] (by kernel_rfl) ?_
    refine WL.nil ?_
    refine WQ.then_normal (hK430 _ _ _ ?_)
    refine WP.seq (fun K439 hK439 => ?_)
    obtain ⟨x441, hx442, hm⟩ := bindE hm
    refine WP.cut (fun env' w' => env' = [(2, .bool x441)] ∧ Ext w w' ∧ w.heap.size ≤ w'.heap.size ∧ SH w' w.heap.size []) ?_ ?_
    rotate_left
    · clear hx442
      rintro _ w444 ⟨rfl, hb445, hL446, hS447⟩
      refine WQ.then_normal (hK439 _ _ _ ?_)
      refine WP.ret ?_
      obtain rfl := Option.some.inj hm
      exact WQ.ret1 _ rfl rfl ⟨rfl, hb445⟩
    have hm := hx442; clear hx442
    refine WP.region ?_
    refine WL.runk 3 [32, 36, 250] [(32, .int .i64 x372.1), (36, .int .i64 x431.1), (250, .bool (x431.2 == 0))] (by kernel_rfl) ?_
    refine WL.case (x431.2 == 0) [250] ⟨rfl, trivial⟩ (fun hc443 => ?_) (fun hc443 => ?_)
    · have hm := iteT hm hc443
      refine WL.runk 5 [2] [(2, .bool (decide (x372.1 ≤ x431.1)))] (by kernel_rfl) ?_
      refine WL.nil ?_
      obtain rfl := Option.some.inj hm
      exact WQ.post' ⟨rfl, hb436, hL437, (SH.take 0 hS438)⟩ ⟨rfl, trivial⟩
    have hm := iteF hm hc443
    refine WL.runk 5 [2] [(2, .bool false)] (by kernel_rfl) ?_
    refine WL.nil ?_
    obtain rfl := Option.some.inj hm
    exact WQ.post' ⟨rfl, hb436, hL437, (SH.take 0 hS438)⟩ ⟨rfl, trivial⟩
  have hm := iteT hm hc189
  refine WP.seq (fun K190 hK190 => ?_)
  refine WP.region ?_
  refine WL.runk 2 [3, 4, 5, 6, 7, 11, 12, 15, 18, 20, 21, 22, 152, 153] [(3, .slice a17 x15.1.length c18), (4, .slice a20 x15.2.1.length c21), (5, .slice a23 x15.2.2.length c24), (6, .bool x33.1), (7, .int .i64 x33.2), (11, .int .i64 x51.2), (12, .slice a65 x63.1.length c66), (15, .int .i64 x75.2), (18, .slice a101 x99.1.length c102), (20, .int .i64 x99.2.2.1), (21, .int .i64 x99.2.2.2), (22, .bool x114.1), (152, .slice a101 x99.1.length c102), (153, .slice a104 x99.2.1.length c105)] (by kernel_rfl) ?_
  obtain ⟨x191, hx192, hm⟩ := bindE hm
  refine WL.call 20 #[.slice a101 x99.1.length c102, .slice a104 x99.2.1.length c105] rfl rfl (by kernel_rfl) (c_20 n x99.1 a101 c102 x99.2.1 a104 c105 w181 hx192 (SH.rdN (SH.front 0 hS184)) (SH.leN (SH.front 0 hS184)).1 (SH.rd (SH.front 1 hS184)) (SH.le (SH.front 1 hS184)).1) ?_
  rintro _ w196 ⟨a193, c194, rfl, hE197, hR198⟩
  refine ⟨_, rfl, ?_⟩
  have hb199 : Ext w w196 := Ext.trans hb182 hE197
  have hL200 : w.heap.size ≤ w196.heap.size := Nat.le_trans hL183 hE197.size
  have hS201 : SH w196 w.heap.size [aOwn fInt 2 a193 c194 x191.1, aNest fRepair 73 2 a101 c102 x99.1, aOwn fInt 2 a104 c105 x99.2.1, aOwn fInt 2 a65 c66 x63.1, aNest fRepair 73 2 a17 c18 x15.1, aOwn fInt 2 a20 c21 x15.2.1, aOwn fInt 2 a23 c24 x15.2.2] := SH.add hS184 hE197 hL183 hR198
  refine WL.runk 5 [3, 4, 5, 6, 7, 11, 12, 15, 18, 20, 21, 22, 26, 27] [(3, .slice a17 x15.1.length c18), (4, .slice a20 x15.2.1.length c21), (5, .slice a23 x15.2.2.length c24), (6, .bool x33.1), (7, .int .i64 x33.2), (11, .int .i64 x51.2), (12, .slice a65 x63.1.length c66), (15, .int .i64 x75.2), (18, .slice a101 x99.1.length c102), (20, .int .i64 x99.2.2.1), (21, .int .i64 x99.2.2.2), (22, .bool x114.1), (26, .slice a193 x191.1.length c194), (27, .int .i64 x191.2)] (by kernel_rfl) ?_
  refine WL.nil ?_
  refine WQ.then_normal (hK190 _ _ _ ?_)
  refine WP.seq (fun K202 hK202 => ?_)
  refine WP.region ?_
  refine WL.runk 2 [3, 4, 5, 6, 7, 11, 12, 15, 20, 21, 22, 27, 158, 159] [(3, .slice a17 x15.1.length c18), (4, .slice a20 x15.2.1.length c21), (5, .slice a23 x15.2.2.length c24), (6, .bool x33.1), (7, .int .i64 x33.2), (11, .int .i64 x51.2), (12, .slice a65 x63.1.length c66), (15, .int .i64 x75.2), (20, .int .i64 x99.2.2.1), (21, .int .i64 x99.2.2.2), (22, .bool x114.1), (27, .int .i64 x191.2), (158, .slice a101 x99.1.length c102), (159, .slice a193 x191.1.length c194)] (by kernel_rfl) ?_
  obtain ⟨x203, hx204, hm⟩ := bindE hm
  refine WL.call 27 #[.slice a101 x99.1.length c102, .slice a193 x191.1.length c194] rfl rfl (by kernel_rfl) (c_27 n x99.1 a101 c102 x191.1 a193 c194 w196 hx204 (SH.rdN (SH.front 1 hS201)) (SH.leN (SH.front 1 hS201)).1 (SH.rd (SH.front 0 hS201)) (SH.le (SH.front 0 hS201)).1) ?_
  rintro _ w205 ⟨rfl, hE206⟩
  refine ⟨_, rfl, ?_⟩
  have hb208 : Ext w w205 := Ext.trans hb199 hE206
  have hL209 : w.heap.size ≤ w205.heap.size := Nat.le_trans hL200 hE206.size
  have hS210 : SH w205 w.heap.size [aOwn fInt 2 a193 c194 x191.1, aNest fRepair 73 2 a101 c102 x99.1, aOwn fInt 2 a104 c105 x99.2.1, aOwn fInt 2 a65 c66 x63.1, aNest fRepair 73 2 a17 c18 x15.1, aOwn fInt 2 a20 c21 x15.2.1, aOwn fInt 2 a23 c24 x15.2.2] := SH.ext hS201 hE206
  refine WL.runk 5 [3, 4, 5, 6, 7, 11, 12, 15, 20, 21, 22, 27, 28, 29] [(3, .slice a17 x15.1.length c18), (4, .slice a20 x15.2.1.length c21), (5, .slice a23 x15.2.2.length c24), (6, .bool x33.1), (7, .int .i64 x33.2), (11, .int .i64 x51.2), (12, .slice a65 x63.1.length c66), (15, .int .i64 x75.2), (20, .int .i64 x99.2.2.1), (21, .int .i64 x99.2.2.2), (22, .bool x114.1), (27, .int .i64 x191.2), (28, .int .i64 x203.1), (29, .int .i64 x203.2)] (by kernel_rfl) ?_
  refine WL.nil ?_
  refine WQ.then_normal (hK202 _ _ _ ?_)
  refine WP.seq (fun K211 hK211 => ?_)
  obtain ⟨x214, hx215, hm⟩ := bindE hm
  refine WP.cut (fun env' w' => env' = [(3, .slice a17 x15.1.length c18), (4, .slice a20 x15.2.1.length c21), (5, .slice a23 x15.2.2.length c24), (6, .bool x33.1), (7, .int .i64 x33.2), (11, .int .i64 x51.2), (12, .slice a65 x63.1.length c66), (15, .int .i64 x75.2), (178, .bool x214)] ∧ Ext w w' ∧ w.heap.size ≤ w'.heap.size ∧ SH w' w.heap.size [aOwn fInt 2 a65 c66 x63.1, aNest fRepair 73 2 a17 c18 x15.1, aOwn fInt 2 a20 c21 x15.2.1, aOwn fInt 2 a23 c24 x15.2.2]) ?_ ?_
  · have hm := hx215; clear hx215
    refine WP.region ?_
    refine WL.runk 3 [3, 4, 5, 6, 7, 11, 12, 15, 20, 21, 22, 28, 29, 165] [(3, .slice a17 x15.1.length c18), (4, .slice a20 x15.2.1.length c21), (5, .slice a23 x15.2.2.length c24), (6, .bool x33.1), (7, .int .i64 x33.2), (11, .int .i64 x51.2), (12, .slice a65 x63.1.length c66), (15, .int .i64 x75.2), (20, .int .i64 x99.2.2.1), (21, .int .i64 x99.2.2.2), (22, .bool x114.1), (28, .int .i64 x203.1), (29, .int .i64 x203.2), (165, .bool (x191.2 != 0))] (by kernel_rfl) ?_
    refine WL.case (x191.2 != 0) [165] ⟨rfl, trivial⟩ (fun hc216 => ?_) (fun hc216 => ?_)
    · have hm := iteT hm hc216
      refine WL.runk 13 [3, 4, 5, 6, 7, 11, 12, 15, 178] [(3, .slice a17 x15.1.length c18), (4, .slice a20 x15.2.1.length c21), (5, .slice a23 x15.2.2.length c24), (6, .bool x33.1), (7, .int .i64 x33.2), (11, .int .i64 x51.2), (12, .slice a65 x63.1.length c66), (15, .int .i64 x75.2), (178, .bool true)] (by kernel_rfl) ?_
      refine WL.nil ?_
      obtain rfl := Option.some.inj hm
      exact WQ.post' ⟨rfl, hb208, hL209, (SH.take 4 (SH.front 6 (SH.front 6 (SH.front 6 (SH.front 6 hS210)))))⟩ ⟨rfl, rfl, rfl, rfl, rfl, rfl, rfl, rfl, rfl, trivial⟩
    have hm := iteF hm hc216
    refine WL.runk 4 [3, 4, 5, 6, 7, 11, 12, 15, 20, 21, 22, 28, 169] [(3, .slice a17 x15.1.length c18), (4, .slice a20 x15.2.1.length c21), (5, .slice a23 x15.2.2.length c24), (6, .bool x33.1), (7, .int .i64 x33.2), (11, .int .i64 x51.2), (12, .slice a65 x63.1.length c66), (15, .int .i64 x75.2), (20, .int .i64 x99.2.2.1), (21, .int .i64 x99.2.2.2), (22, .bool x114.1), (28, .int .i64 x203.1), (169, .bool (x203.2 != 0))] (by kernel_rfl) ?_
    refine WL.case (x203.2 != 0) [169] ⟨rfl, trivial⟩ (fun hc217 => ?_) (fun hc217 => ?_)
    · have hm := iteT hm hc217
      refine WL.runk 9 [3, 4, 5, 6, 7, 11, 12, 15, 178] [(3, .slice a17 x15.1.length c18), (4, .slice a20 x15.2.1.length c21), (5, .slice a23 x15.2.2.length c24), (6, .bool x33.1), (7, .int .i64 x33.2), (11, .int .i64 x51.2), (12, .slice a65 x63.1.length c66), (15, .int .i64 x75.2), (178, .bool true)] (by kernel_rfl) ?_
      refine WL.nil ?_
      obtain rfl := Option.some.inj hm
      exact WQ.post' ⟨rfl, hb208, hL209, (SH.take 4 (SH.front 6 (SH.front 6 (SH.front 6 (SH.front 6 hS210)))))⟩ ⟨rfl, rfl, rfl, rfl, rfl, rfl, rfl, rfl, rfl, trivial⟩
    have hm := iteF hm hc217
    refine WL.runk 9 [3, 4, 5, 6, 7, 11, 12, 15, 178] [(3, .slice a17 x15.1.length c18), (4, .slice a20 x15.2.1.length c21), (5, .slice a23 x15.2.2.length c24), (6, .bool x33.1), (7, .int .i64 x33.2), (11, .int .i64 x51.2), (12, .slice a65 x63.1.length c66), (15, .int .i64 x75.2), (178, .bool (!(x114.1 == (decide ((wI64 (100 * x203.1)) ≤ (wI64 (x99.2.2.1 * x99.2.2.2)))))))] (by kernel_rfl) ?_
    refine WL.nil ?_
    obtain rfl := Option.some.inj hm
    exact WQ.post' ⟨rfl, hb208, hL209, (SH.take 4 (SH.front 6 (SH.front 6 (SH.front 6 (SH.front 6 hS210)))))⟩ ⟨rfl, rfl, rfl, rfl, rfl, rfl, rfl, rfl, rfl, trivial⟩
  clear hx215
  rintro _ w218 ⟨rfl, hb219, hL220, hS221⟩
  refine WQ.then_normal (hK211 _ _ _ ?_)
  refine WP.cond x214 rfl rfl (fun hc222 => ?_) (fun hc222 => ?_)
  · have hm := iteT hm hc222
    refine WP.seq (fun K223 hK223 => ?_)
    refine WP.region ?_
    refine WL.runk 1 [2] [(2, .bool false)] (by kernel_rfl) ?_
    refine WL.nil ?_
    refine WQ.then_normal (hK223 _ _ _ ?_)
    refine WP.ret ?_
    refine WQ.then_ret ?_
    obtain rfl := Option.some.inj hm
    exact WQ.ret1 _ rfl rfl ⟨rfl, hb219⟩
  have hm := iteF hm hc222
  refine WP.skip ?_
  refine WQ.then_normal (hK187 _ _ _ ?_)
  refine WP.seq (fun K224 hK224 => ?_)
  refine WP.seq (fun K225 hK225 => ?_)
  obtain ⟨x227, hx228, hm⟩ := bindE hm
  refine WP.cut (fun env' w' => env' = [(3, .slice a17 x15.1.length c18), (4, .slice a20 x15.2.1.length c21), (5, .slice a23 x15.2.2.length c24), (6, .bool x33.1), (7, .int .i64 x33.2), (11, .int .i64 x51.2), (12, .slice a65 x63.1.length c66), (186, .bool x227)] ∧ Ext w w' ∧ w.heap.size ≤ w'.heap.size ∧ SH w' w.heap.size [aOwn fInt 2 a65 c66 x63.1, aNest fRepair 73 2 a17 c18 x15.1, aOwn fInt 2 a20 c21 x15.2.1, aOwn fInt 2 a23 c24 x15.2.2]) ?_ ?_
  · have hm := hx228; clear hx228
    refine WP.region ?_
    refine WL.runk 3 [3, 4, 5, 6, 7, 11, 12, 15, 181] [(3, .slice a17 x15.1.length c18), (4, .slice a20 x15.2.1.length c21), (5, .slice a23 x15.2.2.length c24), (6, .bool x33.1), (7, .int .i64 x33.2), (11, .int .i64 x51.2), (12, .slice a65 x63.1.length c66), (15, .int .i64 x75.2), (181, .bool (x33.2 == 0))] (by kernel_rfl) ?_
    refine WL.case (x33.2 == 0) [181] ⟨rfl, trivial⟩ (fun hc229 => ?_) (fun hc229 => ?_)
    · have hm := iteT hm hc229
      refine WL.runk 5 [3, 4, 5, 6, 7, 11, 12, 186] [(3, .slice a17 x15.1.length c18), (4, .slice a20 x15.2.1.length c21), (5, .slice a23 x15.2.2.length c24), (6, .bool x33.1), (7, .int .i64 x33.2), (11, .int .i64 x51.2), (12, .slice a65 x63.1.length c66), (186, .bool (!((x75.2 == 0) == x33.1)))] (by kernel_rfl) ?_
      refine WL.nil ?_
      obtain rfl := Option.some.inj hm
      exact WQ.post' ⟨rfl, hb219, hL220, hS221⟩ ⟨rfl, rfl, rfl, rfl, rfl, rfl, rfl, rfl, trivial⟩
    have hm := iteF hm hc229
    refine WL.runk 5 [3, 4, 5, 6, 7, 11, 12, 186] [(3, .slice a17 x15.1.length c18), (4, .slice a20 x15.2.1.length c21), (5, .slice a23 x15.2.2.length c24), (6, .bool x33.1), (7, .int .i64 x33.2), (11, .int .i64 x51.2), (12, .slice a65 x63.1.length c66), (186, .bool false)] (by kernel_rfl) ?_
    refine WL.nil ?_
    obtain rfl := Option.some.inj hm
    exact WQ.post' ⟨rfl, hb219, hL220, hS221⟩ ⟨rfl, rfl, rfl, rfl, rfl, rfl, rfl, rfl, trivial⟩
  clear hx228
  rintro _ w230 ⟨rfl, hb231, hL232, hS233⟩
  refine WQ.then_normal (hK225 _ _ _ ?_)
  refine WP.cond x227 rfl rfl (fun hc234 => ?_) (fun hc234 => ?_)
  · have hm := iteT hm hc234
    refine WP.seq (fun K235 hK235 => ?_)
    refine WP.region ?_
    refine WL.runk 1 [2] [(2, .bool false)] (by kernel_rfl) ?_
    refine WL.nil ?_
    refine WQ.then_normal (hK235 _ _ _ ?_)
    refine WP.ret ?_
    refine WQ.then_ret ?_
    obtain rfl := Option.some.inj hm
    exact WQ.ret1 _ rfl rfl ⟨rfl, hb231⟩
  have hm := iteF hm hc234
  refine WP.skip ?_
  refine WQ.then_normal (hK224 _ _ _ ?_)
  refine WP.seq (fun K236 hK236 => ?_)
  refine WP.seq (fun K237 hK237 => ?_)
  refine WP.region ?_
  refine WL.runk 2 [3, 4, 5, 6, 7, 11, 12, 188] [(3, .slice a17 x15.1.length c18), (4, .slice a20 x15.2.1.length c21), (5, .slice a23 x15.2.2.length c24), (6, .bool x33.1), (7, .int .i64 x33.2), (11, .int .i64 x51.2), (12, .slice a65 x63.1.length c66), (188, .bool (x51.2 != 0))] (by kernel_rfl) ?_
  refine WL.nil ?_
  refine WQ.then_normal (hK237 _ _ _ ?_)
  refine WP.cond (x51.2 != 0) rfl rfl (fun hc238 => ?_) (fun hc238 => ?_)
  · have hm := iteT hm hc238
    refine WP.seq (fun K239 hK239 => ?_)
    obtain ⟨x242, hx243, hm⟩ := bindE hm
    refine WP.cut (fun env' w' => env' = [(2, .bool x242)] ∧ Ext w w' ∧ w.heap.size ≤ w'.heap.size ∧ SH w' w.heap.size []) ?_ ?_
    rotate_left
    · clear hx243
      rintro _ w246 ⟨rfl, hb247, hL248, hS249⟩
      refine WQ.then_normal (hK239 _ _ _ ?_)
      refine WP.ret ?_
      refine WQ.then_ret ?_
      obtain rfl := Option.some.inj hm
      exact WQ.ret1 _ rfl rfl ⟨rfl, hb247⟩
    have hm := hx243; clear hx243
    refine WP.region ?_
    refine WL.runk 3 [6, 11, 191] [(6, .bool x33.1), (11, .int .i64 x51.2), (191, .bool (x33.2 != 0))] (by kernel_rfl) ?_
    refine WL.case (x33.2 != 0) [191] ⟨rfl, trivial⟩ (fun hc244 => ?_) (fun hc244 => ?_)
    · have hm := iteT hm hc244
      refine WL.runk 8 [2] [(2, .bool true)] (by kernel_rfl) ?_
      refine WL.nil ?_
      obtain rfl := Option.some.inj hm
      exact WQ.post' ⟨rfl, hb231, hL232, (SH.take 0 hS233)⟩ ⟨rfl, trivial⟩
    have hm := iteF hm hc244
    refine WL.runk 4 [11, 195] [(11, .int .i64 x51.2), (195, .bool (!x33.1))] (by kernel_rfl) ?_
    refine WL.case (!x33.1) [195] ⟨rfl, trivial⟩ (fun hc245 => ?_) (fun hc245 => ?_)
    · have hm := iteT hm hc245
      refine WL.runk 4 [2] [(2, .bool true)] (by kernel_rfl) ?_
      refine WL.nil ?_
      obtain rfl := Option.some.inj hm
      exact WQ.post' ⟨rfl, hb231, hL232, (SH.take 0 hS233)⟩ ⟨rfl, trivial⟩
    have hm := iteF hm hc245
    refine WL.runk 4 [2] [(2, .bool (x51.2 != 3))] (by kernel_rfl) ?_
    refine WL.nil ?_
    obtain rfl := Option.some.inj hm
    exact WQ.post' ⟨rfl, hb231, hL232, (SH.take 0 hS233)⟩ ⟨rfl, trivial⟩
  have hm := iteF hm hc238
  refine WP.skip ?_
  refine WQ.then_normal (hK236 _ _ _ ?_)
  refine WP.seq (fun K250 hK250 => ?_)
  refine WP.region ?_
  refine WL.runk 3 [3, 4, 5, 6, 7, 12, 200, 201, 202] [(3, .slice a17 x15.1.length c18), (4, .slice a20 x15.2.1.length c21), (5, .slice a23 x15.2.2.length c24), (6, .bool x33.1), (7, .int .i64 x33.2), (12, .slice a65 x63.1.length c66), (200, .slice a17 x15.1.length c18), (201, .slice a65 x63.1.length c66), (202, .slice a23 x15.2.2.length c24)] (by kernel_rfl) ?_
  obtain ⟨x251, hx252, hm⟩ := bindE hm
  refine WL.call 17 #[.slice a17 x15.1.length c18, .slice a65 x63.1.length c66, .slice a23 x15.2.2.length c24] rfl rfl (by kernel_rfl) (c_17 n x15.1 a17 c18 x63.1 a65 c66 x15.2.2 a23 c24 w230 hx252 (SH.rdN (SH.front 1 hS233)) (SH.leN (SH.front 1 hS233)).1 (SH.rd (SH.front 0 hS233)) (SH.le (SH.front 0 hS233)).1 (SH.rd (SH.front 3 hS233)) (SH.le (SH.front 3 hS233)).1) ?_
  rintro _ w253 ⟨rfl, hE254⟩
  refine ⟨_, rfl, ?_⟩
  have hb256 : Ext w w253 := Ext.trans hb231 hE254
  have hL257 : w.heap.size ≤ w253.heap.size := Nat.le_trans hL232 hE254.size
  have hS258 : SH w253 w.heap.size [aOwn fInt 2 a65 c66 x63.1, aNest fRepair 73 2 a17 c18 x15.1, aOwn fInt 2 a20 c21 x15.2.1, aOwn fInt 2 a23 c24 x15.2.2] := SH.ext hS233 hE254
  refine WL.runk 5 [3, 4, 5, 6, 7, 12, 30, 31] [(3, .slice a17 x15.1.length c18), (4, .slice a20 x15.2.1.length c21), (5, .slice a23 x15.2.2.length c24), (6, .bool x33.1), (7, .int .i64 x33.2), (12, .slice a65 x63.1.length c66), (30, .bool x251.1), (31, .int .i64 x251.2)] (by kernel_rfl) ?_
  refine WL.nil ?_
  refine WQ.then_normal (hK250 _ _ _ ?_)
  refine WP.seq (fun K259 hK259 => ?_)
  refine WP.region ?_
  refine WL.runk 2 [3, 4, 5, 6, 7, 12, 30, 31, 207, 208] [(3, .slice a17 x15.1.length c18), (4, .slice a20 x15.2.1.length c21), (5, .slice a23 x15.2.2.length c24), (6, .bool x33.1), (7, .int .i64 x33.2), (12, .slice a65 x63.1.length c66), (30, .bool x251.1), (31, .int .i64 x251.2), (207, .slice a17 x15.1.length c18), (208, .slice a65 x63.1.length c66)] (by kernel_rfl) ?_
  obtain ⟨x260, hx261, hm⟩ := bindE hm
  refine WL.call 27 #[.slice a17 x15.1.length c18, .slice a65 x63.1.length c66] rfl rfl (by kernel_rfl) (c_27 n x15.1 a17 c18 x63.1 a65 c66 w253 hx261 (SH.rdN (SH.front 1 hS258)) (SH.leN (SH.front 1 hS258)).1 (SH.rd (SH.front 0 hS258)) (SH.le (SH.front 0 hS258)).1) ?_
  rintro _ w262 ⟨rfl, hE263⟩
  refine ⟨_, rfl, ?_⟩
  have hb265 : Ext w w262 := Ext.trans hb256 hE263
  have hL266 : w.heap.size ≤ w262.heap.size := Nat.le_trans hL257 hE263.size
  have hS267 : SH w262 w.heap.size [aOwn fInt 2 a65 c66 x63.1, aNest fRepair 73 2 a17 c18 x15.1, aOwn fInt 2 a20 c21 x15.2.1, aOwn fInt 2 a23 c24 x15.2.2] := SH.ext hS258 hE263
  refine WL.runk 5 [3, 4, 5, 6, 7, 12, 30, 31, 32, 33] [(3, .slice a17 x15.1.length c18), (4, .slice a20 x15.2.1.length c21), (5, .slice a23 x15.2.2.length c24), (6, .bool x33.1), (7, .int .i64 x33.2), (12, .slice a65 x63.1.length c66), (30, .bool x251.1), (31, .int .i64 x251.2), (32, .int .i64 x260.1), (33, .int .i64 x260.2)] (by kernel_rfl) ?_
  refine WL.nil ?_
  refine WQ.then_normal (hK259 _ _ _ ?_)
  refine WP.seq (fun K268 hK268 => ?_)
  refine WP.seq (fun K269 hK269 => ?_)
  obtain ⟨x272, hx273, hm⟩ := bindE hm
  refine WP.cut (fun env' w' => env' = [(3, .slice a17 x15.1.length c18), (4, .slice a20 x15.2.1.length c21), (5, .slice a23 x15.2.2.length c24), (6, .bool x33.1), (7, .int .i64 x33.2), (12, .slice a65 x63.1.length c66), (32, .int .i64 x260.1), (221, .bool x272)] ∧ Ext w w' ∧ w.heap.size ≤ w'.heap.size ∧ SH w' w.heap.size [aOwn fInt 2 a65 c66 x63.1, aNest fRepair 73 2 a17 c18 x15.1, aOwn fInt 2 a20 c21 x15.2.1, aOwn fInt 2 a23 c24 x15.2.2]) ?_ ?_
  · have hm := hx273; clear hx273
    refine WP.region ?_
    refine WL.runk 3 [3, 4, 5, 6, 7, 12, 30, 32, 33, 214] [(3, .slice a17 x15.1.length c18), (4, .slice a20 x15.2.1.length c21), (5, .slice a23 x15.2.2.length c24), (6, .bool x33.1), (7, .int .i64 x33.2), (12, .slice a65 x63.1.length c66), (30, .bool x251.1), (32, .int .i64 x260.1), (33, .int .i64 x260.2), (214, .bool (x251.2 != 0))] (by kernel_rfl) ?_
    refine WL.case (x251.2 != 0) [214] ⟨rfl, trivial⟩ (fun hc274 => ?_) (fun hc274 => ?_)
    · have hm := iteT hm hc274
      refine WL.runk 7 [3, 4, 5, 6, 7, 12, 32, 221] [(3, .slice a17 x15.1.length c18), (4, .slice a20 x15.2.1.length c21), (5, .slice a23 x15.2.2.length c24), (6, .bool x33.1), (7, .int .i64 x33.2), (12, .slice a65 x63.1.length c66), (32, .int .i64 x260.1), (221, .bool true)] (by kernel_rfl) ?_
      refine WL.nil ?_
      obtain rfl := Option.some.inj hm
      exact WQ.post' ⟨rfl, hb265, hL266, hS267⟩ ⟨rfl, rfl, rfl, rfl, rfl, rfl, rfl, rfl, trivial⟩
    have hm := iteF hm hc274
    refine WL.runk 4 [3, 4, 5, 6, 7, 12, 32, 33, 218] [(3, .slice a17 x15.1.length c18), (4, .slice a20 x15.2.1.length c21), (5, .slice a23 x15.2.2.length c24), (6, .bool x33.1), (7, .int .i64 x33.2), (12, .slice a65 x63.1.length c66), (32, .int .i64 x260.1), (33, .int .i64 x260.2), (218, .bool (!x251.1))] (by kernel_rfl) ?_
    refine WL.case (!x251.1) [218] ⟨rfl, trivial⟩ (fun hc275 => ?_) (fun hc275 => ?_)
    · have hm := iteT hm hc275
      refine WL.runk 3 [3, 4, 5, 6, 7, 12, 32, 221] [(3, .slice a17 x15.1.length c18), (4, .slice a20 x15.2.1.length c21), (5, .slice a23 x15.2.2.length c24), (6, .bool x33.1), (7, .int .i64 x33.2), (12, .slice a65 x63.1.length c66), (32, .int .i64 x260.1), (221, .bool true)] (by kernel_rfl) ?_
      refine WL.nil ?_
      obtain rfl := Option.some.inj hm
      exact WQ.post' ⟨rfl, hb265, hL266, hS267⟩ ⟨rfl, rfl, rfl, rfl, rfl, rfl, rfl, rfl, trivial⟩
    have hm := iteF hm hc275
    refine WL.runk 3 [3, 4, 5, 6, 7, 12, 32, 221] [(3, .slice a17 x15.1.length c18), (4, .slice a20 x15.2.1.length c21), (5, .slice a23 x15.2.2.length c24), (6, .bool x33.1), (7, .int .i64 x33.2), (12, .slice a65 x63.1.length c66), (32, .int .i64 x260.1), (221, .bool (x260.2 != 0))] (by kernel_rfl) ?_
    refine WL.nil ?_
    obtain rfl := Option.some.inj hm
    exact WQ.post' ⟨rfl, hb265, hL266, hS267⟩ ⟨rfl, rfl, rfl, rfl, rfl, rfl, rfl, rfl, trivial⟩
  clear hx273
  rintro _ w276 ⟨rfl, hb277, hL278, hS279⟩
  refine WQ.then_normal (hK269 _ _ _ ?_)
  refine WP.cond x272 rfl rfl (fun hc280 => ?_) (fun hc280 => ?_)
  · have hm := iteT hm hc280
    refine WP.seq (fun K281 hK281 => ?_)
    refine WP.region ?_
    refine WL.runk 1 [2] [(2, .bool false)] (by kernel_rfl) ?_
    refine WL.nil ?_
    refine WQ.then_normal (hK281 _ _ _ ?_)
    refine WP.ret ?_
    refine WQ.then_ret ?_
    obtain rfl := Option.some.inj hm
    exact WQ.ret1 _ rfl rfl ⟨rfl, hb277⟩
  have hm := iteF hm hc280
  refine WP.skip ?_
  refine WQ.then_normal (hK268 _ _ _ ?_)
  refine WP.seq (fun K282 hK282 => ?_)
  refine WP.region ?_
  refine WL.runk 3 [3, 4, 6, 7, 32, 223, 224, 225] [(3, .slice a17 x15.1.length c18), (4, .slice a20 x15.2.1.length c21), (6, .bool x33.1), (7, .int .i64 x33.2), (32, .int .i64 x260.1), (223, .slice a17 x15.1.length c18), (224, .slice a65 x63.1.length c66), (225, .slice a23 x15.2.2.length c24)] (by kernel_rfl) ?_
  obtain ⟨x283, hx284, hm⟩ := bindE hm
  refine WL.call 21 #[.slice a17 x15.1.length c18, .slice a65 x63.1.length c66, .slice a23 x15.2.2.length c24] rfl rfl (by kernel_rfl) (c_21 n x15.1 a17 c18 x63.1 a65 c66 x15.2.2 a23 c24 w276 hx284 (SH.rdN (SH.front 1 hS279)) (SH.leN (SH.front 1 hS279)).1 (SH.rd (SH.front 0 hS279)) (SH.le (SH.front 0 hS279)).1 (SH.rd (SH.front 3 hS279)) (SH.le (SH.front 3 hS279)).1) ?_
  rintro _ w288 ⟨a285, c286, rfl, hE289, hR290⟩
  refine ⟨_, rfl, ?_⟩
  have hb291 : Ext w w288 := Ext.trans hb277 hE289
  have hL292 : w.heap.size ≤ w288.heap.size := Nat.le_trans hL278 hE289.size
  have hS293 : SH w288 w.heap.size [aOwn fInt 2 a285 c286 x283.1, aOwn fInt 2 a65 c66 x63.1, aNest fRepair 73 2 a17 c18 x15.1, aOwn fInt 2 a20 c21 x15.2.1, aOwn fInt 2 a23 c24 x15.2.2] := SH.add hS279 hE289 hL278 hR290
  refine WL.runk 5 [3, 4, 6, 7, 32, 34, 35] [(3, .slice a17 x15.1.length c18), (4, .slice a20 x15.2.1.length c21), (6, .bool x33.1), (7, .int .i64 x33.2), (32, .int .i64 x260.1), (34, .slice a285 x283.1.length c286), (35, .int .i64 x283.2)] (by kernel_rfl) ?_
  refine WL.nil ?_
  refine WQ.then_normal (hK282 _ _ _ ?_)
  refine WP.seq (fun K294 hK294 => ?_)
  refine WP.seq (fun K295 hK295 => ?_)
  obtain ⟨x297, hx298, hm⟩ := bindE hm
  refine WP.cut (fun env' w' => env' = [(3, .slice a17 x15.1.length c18), (4, .slice a20 x15.2.1.length c21), (6, .bool x33.1), (7, .int .i64 x33.2), (32, .int .i64 x260.1), (235, .bool x297)] ∧ Ext w w' ∧ w.heap.size ≤ w'.heap.size ∧ SH w' w.heap.size [aNest fRepair 73 2 a17 c18 x15.1, aOwn fInt 2 a20 c21 x15.2.1]) ?_ ?_
  · have hm := hx298; clear hx298
    refine WP.region ?_
    refine WL.runk 3 [3, 4, 6, 7, 32, 34, 231] [(3, .slice a17 x15.1.length c18), (4, .slice a20 x15.2.1.length c21), (6, .bool x33.1), (7, .int .i64 x33.2), (32, .int .i64 x260.1), (34, .slice a285 x283.1.length c286), (231, .bool (x283.2 != 0))] (by kernel_rfl) ?_
    refine WL.case (x283.2 != 0) [231] ⟨rfl, trivial⟩ (fun hc299 => ?_) (fun hc299 => ?_)
    · have hm := iteT hm hc299
      refine WL.runk 4 [3, 4, 6, 7, 32, 235] [(3, .slice a17 x15.1.length c18), (4, .slice a20 x15.2.1.length c21), (6, .bool x33.1), (7, .int .i64 x33.2), (32, .int .i64 x260.1), (235, .bool true)] (by kernel_rfl) ?_
      refine WL.nil ?_
      obtain rfl := Option.some.inj hm
      exact WQ.post' ⟨rfl, hb291, hL292, (SH.take 2 (SH.front 3 (SH.front 3 hS293)))⟩ ⟨rfl, rfl, rfl, rfl, rfl, rfl, trivial⟩
    have hm := iteF hm hc299
    refine WL.runk 4 [3, 4, 6, 7, 32, 235] [(3, .slice a17 x15.1.length c18), (4, .slice a20 x15.2.1.length c21), (6, .bool x33.1), (7, .int .i64 x33.2), (32, .int .i64 x260.1), (235, .bool ((x283.1.length : Int) != 0))] (by kernel_rfl) ?_
    refine WL.nil ?_
    obtain rfl := Option.some.inj hm
    exact WQ.post' ⟨rfl, hb291, hL292, (SH.take 2 (SH.front 3 (SH.front 3 hS293)))⟩ ⟨rfl, rfl, rfl, rfl, rfl, rfl, trivial⟩
  clear hx298
  rintro _ w300 ⟨rfl, hb301, hL302, hS303⟩
  refine WQ.then_normal (hK295 _ _ _ ?_)
  refine WP.cond x297 rfl rfl (fun hc304 => ?_) (fun hc304 => ?_)
  · have hm := iteT hm hc304
    refine WP.seq (fun K305 hK305 => ?_)
    refine WP.region ?_
    refine WL.runk 1 [2] [(2, .bool false)] (by kernel_rfl) ?_
    refine WL.nil ?_
    refine WQ.then_normal (hK305 _ _ _ ?_)
    refine WP.ret ?_
    refine WQ.then_ret ?_
    obtain rfl := Option.some.inj hm
    exact WQ.ret1 _ rfl rfl ⟨rfl, hb301⟩
  have hm := iteF hm hc304
  refine WP.skip ?_
  refine WQ.then_normal (hK294 _ _ _ ?_)
  refine WP.seq (fun K306 hK306 => ?_)
  refine WP.seq (fun K307 hK307 => ?_)
  obtain ⟨x309, hx310, hm⟩ := bindE hm
  refine WP.cut (fun env' w' => env' = [(3, .slice a17 x15.1.length c18), (4, .slice a20 x15.2.1.length c21), (32, .int .i64 x260.1), (241, .bool x309)] ∧ Ext w w' ∧ w.heap.size ≤ w'.heap.size ∧ SH w' w.heap.size [aNest fRepair 73 2 a17 c18 x15.1, aOwn fInt 2 a20 c21 x15.2.1]) ?_ ?_
  · have hm := hx310; clear hx310
    refine WP.region ?_
    refine WL.runk 3 [3, 4, 6, 32, 238] [(3, .slice a17 x15.1.length c18), (4, .slice a20 x15.2.1.length c21), (6, .bool x33.1), (32, .int .i64 x260.1), (238, .bool (x33.2 != 0))] (by kernel_rfl) ?_
    refine WL.case (x33.2 != 0) [238] ⟨rfl, trivial⟩ (fun hc311 => ?_) (fun hc311 => ?_)
    · have hm := iteT hm hc311
      refine WL.runk 3 [3, 4, 32, 241] [(3, .slice a17 x15.1.length c18), (4, .slice a20 x15.2.1.length c21), (32, .int .i64 x260.1), (241, .bool true)] (by kernel_rfl) ?_
      refine WL.nil ?_
      obtain rfl := Option.some.inj hm
      exact WQ.post' ⟨rfl, hb301, hL302, hS303⟩ ⟨rfl, rfl, rfl, rfl, trivial⟩
    have hm := iteF hm hc311
    refine WL.runk 3 [3, 4, 32, 241] [(3, .slice a17 x15.1.length c18), (4, .slice a20 x15.2.1.length c21), (32, .int .i64 x260.1), (241, .bool (!x33.1))] (by kernel_rfl) ?_
    refine WL.nil ?_
    obtain rfl := Option.some.inj hm
    exact WQ.post' ⟨rfl, hb301, hL302, hS303⟩ ⟨rfl, rfl, rfl, rfl, trivial⟩
  clear hx310
  rintro _ w312 ⟨rfl, hb313, hL314, hS315⟩
  refine WQ.then_normal (hK307 _ _ _ ?_)
  refine WP.cond x309 rfl rfl (fun hc316 => ?_) (fun hc316 => ?_)
  · have hm := iteT hm hc316
    refine WP.seq (fun K317 hK317 => ?_)
    refine WP.region ?_
    refine WL.runk 1 [2] [(2, .bool true)] (by kernel_rfl) ?_
    refine WL.nil ?_
    refine WQ.then_normal (hK317 _ _ _ ?_)
    refine WP.ret ?_
    refine WQ.then_ret ?_
    obtain rfl := Option.some.inj hm
    exact WQ.ret1 _ rfl rfl ⟨rfl, hb313⟩
  have hm := iteF hm hc316
  refine WP.skip ?_
  refine WQ.then_normal (hK306 _ _ _ ?_)
  refine WP.seq (fun K318 hK318 => ?_)
  refine WP.region ?_
  refine WL.runk 2 [32, 243, 244] [(32, .int .i64 x260.1), (243, .slice a17 x15.1.length c18), (244, .slice a20 x15.2.1.length c21)] (by kernel_rfl) ?_
  obtain ⟨x319, hx320, hm⟩ := bindE hm
  refine WL.call 27 #[.slice a17 x15.1.length c18, .slice a20 x15.2.1.length c21] rfl rfl (by kernel_rfl) (c_27 n x15.1 a17 c18 x15.2.1 a20 c21 w312 hx320 (SH.rdN (SH.front 0 hS315)) (SH.leN (SH.front 0 hS315)).1 (SH.rd (SH.front 1 hS315)) (SH.le (SH.front 1 hS315)).1) ?_
  rintro _ w321 ⟨rfl, hE322⟩
  refine ⟨_, rfl, ?_⟩
  have hb324 : Ext w w321 := Ext.trans hb313 hE322
  have hL325 : w.heap.size ≤ w321.heap.size := Nat.le_trans hL314 hE322.size
  have hS326 : SH w321 w.heap.size [aNest fRepair 73 2 a17 c18 x15.1, aOwn fInt 2 a20 c21 x15.2.1] := SH.ext hS315 hE322
  refine WL.runk 5 [32, 36, 37] [(32, .int .i64 x260.1), (36, .int .i64 x319.1), (37, .int .i64 x319.2)] (by kernel_rfl) ?_
  refine WL.nil ?_
  refine WQ.then_normal (hK318 _ _ _ ?_)
  refine WP.seq (fun K327 hK327 => ?_)
  obtain ⟨x329, hx330, hm⟩ := bindE hm
  refine WP.cut (fun env' w' => env' = [(2, .bool x329)] ∧ Ext w w' ∧ w.heap.size ≤ w'.heap.size ∧ SH w' w.heap.size []) ?_ ?_
  rotate_left
  · clear hx330
    rintro _ w332 ⟨rfl, hb333, hL334, hS335⟩
    refine WQ.then_normal (hK327 _ _ _ ?_)
    refine WP.ret ?_
    obtain rfl := Option.some.inj hm
    exact WQ.ret1 _ rfl rfl ⟨rfl, hb333⟩
  have hm := hx330; clear hx330
  refine WP.region ?_
  refine WL.runk 3 [32, 36, 250] [(32, .int .i64 x260.1), (36, .int .i64 x319.1), (250, .bool (x319.2 == 0))] (by kernel_rfl) ?_
  refine WL.case (x319.2 == 0) [250] ⟨rfl, trivial⟩ (fun hc331 => ?_) (fun hc331 => ?_)
  · have hm := iteT hm hc331
    refine WL.runk 5 [2] [(2, .bool (decide (x260.1 ≤ x319.1)))] (by kernel_rfl) ?_
    refine WL.nil ?_
    obtain rfl := Option.some.inj hm
    exact WQ.post' ⟨rfl, hb324, hL325, (SH.take 0 hS326)⟩ ⟨rfl, trivial⟩
  have hm := iteF hm hc331
  refine WL.runk 5 [2] [(2, .bool false)] (by kernel_rfl) ?_
  refine WL.nil ?_
  obtain rfl := Option.some.inj hm
  exact WQ.post' ⟨rfl, hb324, hL325, (SH.take 0 hS326)⟩ ⟨rfl, trivial⟩

end Go.Proofs.Ytkglfbcelaphhaa
