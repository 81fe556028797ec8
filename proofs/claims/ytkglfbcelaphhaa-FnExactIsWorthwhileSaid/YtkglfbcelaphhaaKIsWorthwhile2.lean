/- Each call does what its Lean function says. -/
import Derived.Test.YtkglfbcelaphhaaKIsWorthwhile1
set_option maxRecDepth 20000
set_option maxHeartbeats 40000000
namespace Go.Proofs.Ytkglfbcelaphhaa
open Go Go.Gv Go.RowKit

theorem c_19 (n : Nat) (list_0 : List SRepair) (a0' : Option Addr) (c0' : Nat) (faults_1 : List Int) (a1' : Option Addr) (c1' : Nat) (w : World) {r : List Int × Int} (hm : m_impl_CheapestRepairs n list_0 faults_1 = some r) (h0 : Rd fRepair.ty w a0' list_0) (hle0 : list_0.length ≤ c0') (h1 : Rd fInt.ty w a1' faults_1) (hle1 : faults_1.length ≤ c1') :
    CallV Try.prog 19 #[.slice a0' list_0.length c0', .slice a1' faults_1.length c1'] w (fun v w' => ∃ (ra0 : Option Addr) (rc0 : Nat), v = .tuple #[.slice ra0 r.1.length rc0, .int .i64 r.2] ∧ Ext w w' ∧ SH w' w.heap.size [aOwn fInt 2 ra0 rc0 r.1]) := by
  unfold m_impl_CheapestRepairs at hm
  refine CallV.enter Try.func19 rfl (by kernel_rfl) Try.ntmps19 (env := [(0, .slice a0' list_0.length c0'), (1, .slice a1' faults_1.length c1')]) ⟨rfl, rfl, trivial⟩ ?_
  refine WP.seq (fun K1 hK1 => ?_)
  refine WP.region ?_
  refine WL.runk 2 [0, 1] [(0, .slice a0' list_0.length c0'), (1, .slice a1' faults_1.length c1')] (by kernel_rfl) ?_
  refine WL.nil ?_
  refine WQ.then_normal (hK1 _ _ _ ?_)
  refine WP.seq (fun K2 hK2 => ?_)
  refine WP.seq (fun K3 hK3 => ?_)
  refine WP.region ?_
  refine WL.runk 2 [0, 1, 13, 14] [(0, .slice a0' list_0.length c0'), (1, .slice a1' faults_1.length c1'), (13, .slice a0' list_0.length c0'), (14, .slice a1' faults_1.length c1')] (by kernel_rfl) ?_
  obtain ⟨x4, hx5, hm⟩ := bindE hm
  refine WL.call 50 #[.slice a0' list_0.length c0', .slice none 0 0, .slice a1' faults_1.length c1'] rfl rfl (by kernel_rfl) (c_50 n list_0 a0' c0' ([] : List Int) none 0 faults_1 a1' c1' w hx5 (Rd.below h0 (Ext.refl w)) hle0 (Rd.nil _ _ _) (Nat.zero_le _) (Rd.below h1 (Ext.refl w)) hle1) ?_
  rintro _ w6 ⟨rfl, hE7⟩
  refine ⟨_, rfl, ?_⟩
  have hb9 : Ext w w6 := Ext.trans (Ext.refl w) hE7
  have hL10 : w.heap.size ≤ w6.heap.size := Nat.le_trans (Nat.le_refl _) hE7.size
  have hS11 : SH w6 w.heap.size [] := SH.ext (SH.nil _ _) hE7
  refine WL.runk 1 [0, 1, 6] [(0, .slice a0' list_0.length c0'), (1, .slice a1' faults_1.length c1'), (6, .int .i64 x4)] (by kernel_rfl) ?_
  refine WL.nil ?_
  refine WQ.then_normal (hK3 _ _ _ ?_)
  refine WP.seq (fun K12 hK12 => ?_)
  refine WP.region ?_
  refine WL.runk 2 [0, 1, 6, 17] [(0, .slice a0' list_0.length c0'), (1, .slice a1' faults_1.length c1'), (6, .int .i64 x4), (17, .bool (x4 != 0))] (by kernel_rfl) ?_
  refine WL.nil ?_
  refine WQ.then_normal (hK12 _ _ _ ?_)
  refine WP.cond (x4 != 0) rfl rfl (fun hc13 => ?_) (fun hc13 => ?_)
  · have hm := iteT hm hc13
    refine WP.seq (fun K14 hK14 => ?_)
    refine WP.region ?_
    refine WL.runk 3 [4, 5] [(4, .slice none 0 0), (5, .int .i64 x4)] (by kernel_rfl) ?_
    refine WL.nil ?_
    refine WQ.then_normal (hK14 _ _ _ ?_)
    refine WP.ret ?_
    refine WQ.then_ret ?_
    obtain rfl := Option.some.inj hm
    have hS16 : SH w6 w.heap.size [aOwn fInt 2 none 0 ([] : List Int)] := SH.nilOwn hS11
    exact WQ.ret2 _ _ rfl rfl rfl ⟨_, _, rfl, hb9, hS16⟩
  have hm := iteF hm hc13
  refine WP.skip ?_
  refine WQ.then_normal (hK2 _ _ _ ?_)
  refine WP.seq (fun K17 hK17 => ?_)
  refine WP.region ?_
  refine WL.row fInt 2 ([] : List Int) 0 #[] 19 (by kernel_rfl) rfl rfl rfl rfl rfl rfl rfl ?_
  intro a18 c19 w20 hE21 hR22
  have hb24 : Ext w w20 := Ext.trans hb9 hE21
  have hL25 : w.heap.size ≤ w20.heap.size := Nat.le_trans hL10 hE21.size
  have hS26 : SH w20 w.heap.size [aOwn fInt 2 a18 c19 ([] : List Int)] := SH.add hS11 hE21 hL10 hR22
  refine WL.runk 2 [0, 1, 7, 8] [(0, .slice a0' list_0.length c0'), (1, .slice a1' faults_1.length c1'), (7, .slice a18 (([] : List Int).length) c19), (8, .int .i64 (-1))] (by kernel_rfl) ?_
  refine WL.nil ?_
  refine WQ.then_normal (hK17 _ _ _ ?_)
  refine WP.seq (fun K27 hK27 => ?_)
  refine WP.seq (fun K28 hK28 => ?_)
  refine WP.region ?_
  refine WL.runk 3 [0, 1, 7, 8, 22] [(0, .slice a0' list_0.length c0'), (1, .slice a1' faults_1.length c1'), (7, .slice a18 (([] : List Int).length) c19), (8, .int .i64 (-1)), (22, .int .u64 (IntKind.u64.wrap (list_0.length : Int)))] (by kernel_rfl) ?_
  obtain ⟨x29, hx30, hm⟩ := bindE hm
  refine WL.st (.int .i64 x29) (ST.shl (k := .i64) hx30 rfl rfl rfl) rfl rfl rfl ?_
  refine WL.runk 1 [0, 1, 7, 8, 23, 24] [(0, .slice a0' list_0.length c0'), (1, .slice a1' faults_1.length c1'), (7, .slice a18 (([] : List Int).length) c19), (8, .int .i64 (-1)), (23, .int .i64 x29), (24, .int .i64 0)] (by kernel_rfl) ?_
  refine WL.nil ?_
  refine WQ.then_normal (hK28 _ _ _ ?_)
  refine WP.block ?_
  obtain ⟨t45, ht46, hm⟩ := bindE hm
  have hmo40 := hm; clear hm
  refine WP.sub [(0, .slice a0' list_0.length c0'), (1, .slice a1' faults_1.length c1'), (7, .slice a18 (([] : List Int).length) c19), (8, .int .i64 (-1)), (23, .int .i64 x29), (24, .int .i64 0)] ⟨rfl, rfl, rfl, rfl, rfl, rfl, trivial⟩ ?_
  refine WP.loop (fun n' env' w' => ∃ (st31 : List Int × Int × Int) (a32 : Option Addr) (c33 : Nat), env' = [(0, .slice a0' list_0.length c0'), (1, .slice a1' faults_1.length c1'), (7, .slice a32 st31.1.length c33), (8, .int .i64 st31.2.1), (23, .int .i64 x29), (24, .int .i64 st31.2.2)] ∧ Ext w w' ∧ w.heap.size ≤ w'.heap.size ∧ SH w' w.heap.size [aOwn fInt 2 a32 c33 st31.1] ∧ loopN (m_impl_CheapestRepairs_l1 n list_0 faults_1 x29) n' st31 = some t45) n ⟨(([] : List Int), (-1), 0), _, _, rfl, hb24, hL25, hS26, ht46⟩ ?_
  rintro n42 _ w35 ⟨st31, a32, c33, rfl, hb36, hL37, hS38, hl39⟩ K41 hK41
  obtain ⟨n43, s44, rfl, hm, hl39⟩ := loopN_some hl39
  unfold m_impl_CheapestRepairs_l1 at hm
  refine WP.seq (fun K47 hK47 => ?_)
  refine WP.region ?_
  refine WL.runk 1 [0, 1, 7, 8, 23, 24, 25] [(0, .slice a0' list_0.length c0'), (1, .slice a1' faults_1.length c1'), (7, .slice a32 st31.1.length c33), (8, .int .i64 st31.2.1), (23, .int .i64 x29), (24, .int .i64 st31.2.2), (25, .bool (decide (st31.2.2 < x29)))] (by kernel_rfl) ?_
  refine WL.nil ?_
  refine WQ.then_normal (hK47 _ _ _ ?_)
  refine WP.seq (fun K48 hK48 => ?_)
  refine WP.cond (decide (st31.2.2 < x29)) rfl rfl (fun hc49 => ?_) (fun hc49 => ?_)
  rotate_left
  · have hm := iteF hm hc49
    refine WP.exit ?_
    refine WQ.then_exit ?_
    refine WQ.then_exit ?_
    refine WQ.block_here ?_
    obtain rfl := Option.some.inj hm
    obtain rfl := afterN_done hl39
    have hm := hmo40
    refine WQ.then_normal (hK27 _ _ _ ?_)
    refine WP.seq (fun K270 hK270 => ?_)
    refine WP.seq (fun K271 hK271 => ?_)
    refine WP.region ?_
    refine WL.runk 2 [7, 85] [(7, .slice a32 st31.1.length c33), (85, .bool (decide (st31.2.1 < 0)))] (by kernel_rfl) ?_
    refine WL.nil ?_
    refine WQ.then_normal (hK271 _ _ _ ?_)
    refine WP.cond (decide (st31.2.1 < 0)) rfl rfl (fun hc272 => ?_) (fun hc272 => ?_)
    · have hm := iteT hm hc272
      refine WP.seq (fun K273 hK273 => ?_)
      refine WP.region ?_
      refine WL.runk 2 [4, 5] [(4, .slice none 0 0), (5, .int .i64 3)] (by kernel_rfl) ?_
      refine WL.nil ?_
      refine WQ.then_normal (hK273 _ _ _ ?_)
      refine WP.ret ?_
      refine WQ.then_ret ?_
      obtain rfl := Option.some.inj hm
      have hS275 : SH w35 w.heap.size [aOwn fInt 2 none 0 ([] : List Int), aOwn fInt 2 a32 c33 st31.1] := SH.nilOwn hS38
      exact WQ.ret2 _ _ rfl rfl rfl ⟨_, _, rfl, hb36, (SH.take 1 hS275)⟩
    have hm := iteF hm hc272
    refine WP.skip ?_
    refine WQ.then_normal (hK270 _ _ _ ?_)
    refine WP.seq (fun K276 hK276 => ?_)
    refine WP.region ?_
    refine WL.runk 3 [4, 5] [(4, .slice a32 st31.1.length c33), (5, .int .i64 0)] (by kernel_rfl) ?_
    refine WL.nil ?_
    refine WQ.then_normal (hK276 _ _ _ ?_)
    refine WP.ret ?_
    obtain rfl := Option.some.inj hm
    exact WQ.ret2 _ _ rfl rfl rfl ⟨_, _, rfl, hb36, hS38⟩
  have hm := iteT hm hc49
  refine WP.skip ?_
  refine WQ.then_normal (hK48 _ _ _ ?_)
  refine WP.seq (fun K50 hK50 => ?_)
  refine WP.block ?_
  refine WP.seq (fun K51 hK51 => ?_)
  refine WP.region ?_
  refine WL.runk 2 [0, 1, 7, 8, 9, 23, 24] [(0, .slice a0' list_0.length c0'), (1, .slice a1' faults_1.length c1'), (7, .slice a32 st31.1.length c33), (8, .int .i64 st31.2.1), (23, .int .i64 x29), (24, .int .i64 st31.2.2), (9, .int .i64 st31.2.2)] (by kernel_rfl) ?_
  refine WL.nil ?_
  refine WQ.then_normal (hK51 _ _ _ ?_)
  refine WP.seq (fun K52 hK52 => ?_)
  refine WP.region ?_
  refine WL.row fInt 2 ([] : List Int) 0 #[] 27 (by kernel_rfl) rfl rfl rfl rfl rfl rfl rfl ?_
  intro a53 c54 w55 hE56 hR57
  have hb59 : Ext w w55 := Ext.trans hb36 hE56
  have hL60 : w.heap.size ≤ w55.heap.size := Nat.le_trans hL37 hE56.size
  have hS61 : SH w55 w.heap.size [aOwn fInt 2 a53 c54 ([] : List Int), aOwn fInt 2 a32 c33 st31.1] := SH.add hS38 hE56 hL37 hR57
  refine WL.runk 1 [0, 1, 7, 8, 9, 10, 23, 24] [(0, .slice a0' list_0.length c0'), (1, .slice a1' faults_1.length c1'), (7, .slice a32 st31.1.length c33), (8, .int .i64 st31.2.1), (23, .int .i64 x29), (24, .int .i64 st31.2.2), (9, .int .i64 st31.2.2), (10, .slice a53 (([] : List Int).length) c54)] (by kernel_rfl) ?_
  refine WL.nil ?_
  refine WQ.then_normal (hK52 _ _ _ ?_)
  refine WP.seq (fun K62 hK62 => ?_)
  refine WP.seq (fun K63 hK63 => ?_)
  refine WP.region ?_
  refine WL.runk 3 [0, 1, 7, 8, 9, 10, 23, 24, 29, 30] [(0, .slice a0' list_0.length c0'), (1, .slice a1' faults_1.length c1'), (7, .slice a32 st31.1.length c33), (8, .int .i64 st31.2.1), (23, .int .i64 x29), (24, .int .i64 st31.2.2), (9, .int .i64 st31.2.2), (10, .slice a53 (([] : List Int).length) c54), (29, .int .i64 (list_0.length : Int)), (30, .int .i64 0)] (by kernel_rfl) ?_
  refine WL.nil ?_
  refine WQ.then_normal (hK63 _ _ _ ?_)
  refine WP.block ?_
  obtain ⟨t78, ht79, hm⟩ := bindE hm
  have hmo73 := hm; clear hm
  refine WP.sub [(0, .slice a0' list_0.length c0'), (1, .slice a1' faults_1.length c1'), (7, .slice a32 st31.1.length c33), (8, .int .i64 st31.2.1), (23, .int .i64 x29), (24, .int .i64 st31.2.2), (9, .int .i64 st31.2.2), (10, .slice a53 (([] : List Int).length) c54), (29, .int .i64 (list_0.length : Int)), (30, .int .i64 0)] ⟨rfl, rfl, rfl, rfl, rfl, rfl, rfl, rfl, rfl, rfl, trivial⟩ ?_
  refine WP.loop (fun n' env' w' => ∃ (st64 : List Int × Int) (a65 : Option Addr) (c66 : Nat), env' = [(0, .slice a0' list_0.length c0'), (1, .slice a1' faults_1.length c1'), (7, .slice a32 st31.1.length c33), (8, .int .i64 st31.2.1), (23, .int .i64 x29), (24, .int .i64 st31.2.2), (9, .int .i64 st31.2.2), (10, .slice a65 st64.1.length c66), (29, .int .i64 (list_0.length : Int)), (30, .int .i64 st64.2)] ∧ Ext w w' ∧ w.heap.size ≤ w'.heap.size ∧ SH w' w.heap.size [aOwn fInt 2 a65 c66 st64.1, aOwn fInt 2 a32 c33 st31.1] ∧ loopN (m_impl_CheapestRepairs_l2 n list_0 st31) n' st64 = some t78) n ⟨(([] : List Int), 0), _, _, rfl, hb59, hL60, hS61, ht79⟩ ?_
  rintro n75 _ w68 ⟨st64, a65, c66, rfl, hb69, hL70, hS71, hl72⟩ K74 hK74
  obtain ⟨n76, s77, rfl, hm, hl72⟩ := loopN_some hl72
  unfold m_impl_CheapestRepairs_l2 at hm
  refine WP.seq (fun K80 hK80 => ?_)
  refine WP.region ?_
  refine WL.runk 1 [0, 1, 7, 8, 9, 10, 23, 24, 29, 30, 31] [(0, .slice a0' list_0.length c0'), (1, .slice a1' faults_1.length c1'), (7, .slice a32 st31.1.length c33), (8, .int .i64 st31.2.1), (23, .int .i64 x29), (24, .int .i64 st31.2.2), (9, .int .i64 st31.2.2), (10, .slice a65 st64.1.length c66), (29, .int .i64 (list_0.length : Int)), (30, .int .i64 st64.2), (31, .bool (decide (st64.2 < (list_0.length : Int))))] (by kernel_rfl) ?_
  refine WL.nil ?_
  refine WQ.then_normal (hK80 _ _ _ ?_)
  refine WP.seq (fun K81 hK81 => ?_)
  refine WP.cond (decide (st64.2 < (list_0.length : Int))) rfl rfl (fun hc82 => ?_) (fun hc82 => ?_)
  · have hm := iteT hm hc82
    refine WP.skip ?_
    refine WQ.then_normal (hK81 _ _ _ ?_)
    refine WP.seq (fun K83 hK83 => ?_)
    refine WP.block ?_
    refine WP.seq (fun K84 hK84 => ?_)
    refine WP.region ?_
    refine WL.runk 2 [0, 1, 7, 8, 9, 10, 11, 23, 24, 29, 30] [(0, .slice a0' list_0.length c0'), (1, .slice a1' faults_1.length c1'), (7, .slice a32 st31.1.length c33), (8, .int .i64 st31.2.1), (23, .int .i64 x29), (24, .int .i64 st31.2.2), (9, .int .i64 st31.2.2), (10, .slice a65 st64.1.length c66), (29, .int .i64 (list_0.length : Int)), (30, .int .i64 st64.2), (11, .int .i64 st64.2)] (by kernel_rfl) ?_
    refine WL.nil ?_
    refine WQ.then_normal (hK84 _ _ _ ?_)
    refine WP.seq (fun K85 hK85 => ?_)
    refine WP.region ?_
    refine WL.runk 2 [0, 1, 7, 8, 9, 10, 11, 23, 24, 29, 30, 33, 34] [(0, .slice a0' list_0.length c0'), (1, .slice a1' faults_1.length c1'), (7, .slice a32 st31.1.length c33), (8, .int .i64 st31.2.1), (23, .int .i64 x29), (24, .int .i64 st31.2.2), (9, .int .i64 st31.2.2), (10, .slice a65 st64.1.length c66), (29, .int .i64 (list_0.length : Int)), (30, .int .i64 st64.2), (11, .int .i64 st64.2), (33, .int .i64 st31.2.2), (34, .int .i64 st64.2)] (by kernel_rfl) ?_
    obtain ⟨x86, hx87, hm⟩ := bindE hm
    refine WL.call 54 #[.int .i64 st31.2.2, .int .i64 st64.2] rfl rfl (by kernel_rfl) (c_54 n st31.2.2 st64.2 w68 hx87 ) ?_
    rintro _ w88 ⟨rfl, hE89⟩
    refine ⟨_, rfl, ?_⟩
    have hb91 : Ext w w88 := Ext.trans hb69 hE89
    have hL92 : w.heap.size ≤ w88.heap.size := Nat.le_trans hL70 hE89.size
    have hS93 : SH w88 w.heap.size [aOwn fInt 2 a65 c66 st64.1, aOwn fInt 2 a32 c33 st31.1] := SH.ext hS71 hE89
    refine WL.sub [(0, .slice a0' list_0.length c0'), (1, .slice a1' faults_1.length c1'), (7, .slice a32 st31.1.length c33), (8, .int .i64 st31.2.1), (23, .int .i64 x29), (24, .int .i64 st31.2.2), (9, .int .i64 st31.2.2), (10, .slice a65 st64.1.length c66), (29, .int .i64 (list_0.length : Int)), (30, .int .i64 st64.2), (11, .int .i64 st64.2), (35, .bool x86)] ⟨rfl, rfl, rfl, rfl, rfl, rfl, rfl, rfl, rfl, rfl, rfl, rfl, trivial⟩ ?_
    refine WL.nil ?_
    refine WQ.then_normal (hK85 _ _ _ ?_)
    obtain ⟨x113, hx114, hm⟩ := bindE hm
    refine WP.cut (fun env' w' => ∃ (a115 : Option Addr) (c116 : Nat), env' = [(0, .slice a0' list_0.length c0'), (1, .slice a1' faults_1.length c1'), (7, .slice a32 st31.1.length c33), (8, .int .i64 st31.2.1), (23, .int .i64 x29), (24, .int .i64 st31.2.2), (9, .int .i64 st31.2.2), (10, .slice a115 x113.length c116), (29, .int .i64 (list_0.length : Int)), (30, .int .i64 st64.2)] ∧ Ext w w' ∧ w.heap.size ≤ w'.heap.size ∧ SH w' w.heap.size [aOwn fInt 2 a115 c116 x113, aOwn fInt 2 a32 c33 st31.1]) ?_ ?_
    rotate_left
    · clear hx114
      rintro _ w136 ⟨a115, c116, rfl, hb137, hL138, hS139⟩
      refine WQ.block_normal ?_
      refine WQ.then_normal (hK83 _ _ _ ?_)
      refine WP.region ?_
      refine WL.runk 2 [0, 1, 7, 8, 9, 10, 23, 24, 29, 30] [(0, .slice a0' list_0.length c0'), (1, .slice a1' faults_1.length c1'), (7, .slice a32 st31.1.length c33), (8, .int .i64 st31.2.1), (23, .int .i64 x29), (24, .int .i64 st31.2.2), (9, .int .i64 st31.2.2), (10, .slice a115 x113.length c116), (29, .int .i64 (list_0.length : Int)), (30, .int .i64 (wI64 (st64.2 + 1)))] (by kernel_rfl) ?_
      refine WL.nil ?_
      obtain rfl := Option.some.inj hm
      exact WQ.round hK74 ⟨(x113, (wI64 (st64.2 + 1))), _, _, rfl, hb137, hL138, hS139, hl72⟩ (Nat.lt_succ_self _) ⟨rfl, rfl, rfl, rfl, rfl, rfl, rfl, rfl, rfl, rfl, trivial⟩
    have hm := hx114; clear hx114
    refine WP.cond x86 rfl rfl (fun hc94 => ?_) (fun hc94 => ?_)
    rotate_left
    · have hm := iteF hm hc94
      refine WP.skip ?_
      obtain rfl := Option.some.inj hm
      exact WQ.post' ⟨_, _, rfl, hb91, hL92, hS93⟩ ⟨rfl, rfl, rfl, rfl, rfl, rfl, rfl, rfl, rfl, rfl, trivial⟩
    have hm := iteT hm hc94
    refine WP.region ?_
    refine WL.runk 2 [0, 1, 7, 8, 9, 23, 24, 29, 30, 36, 37] [(0, .slice a0' list_0.length c0'), (1, .slice a1' faults_1.length c1'), (7, .slice a32 st31.1.length c33), (8, .int .i64 st31.2.1), (23, .int .i64 x29), (24, .int .i64 st31.2.2), (9, .int .i64 st31.2.2), (29, .int .i64 (list_0.length : Int)), (30, .int .i64 st64.2), (36, .slice a65 st64.1.length c66), (37, .int .i64 st64.2)] (by kernel_rfl) ?_
    refine WL.row fInt 2 ([st64.2] : List Int) 1 #[.int .i64 st64.2] 38 (by kernel_rfl) rfl rfl rfl rfl rfl rfl rfl ?_
    intro a118 c119 w120 hE121 hR122
    have hb124 : Ext w w120 := Ext.trans hb91 hE121
    have hL125 : w.heap.size ≤ w120.heap.size := Nat.le_trans hL92 hE121.size
    have hS126 : SH w120 w.heap.size [aOwn fInt 2 a118 c119 ([st64.2] : List Int), aOwn fInt 2 a65 c66 st64.1, aOwn fInt 2 a32 c33 st31.1] := SH.add hS93 hE121 hL92 hR122
    obtain ⟨x127, hx128, hm⟩ := bindE hm
    refine WL.append (F := fInt) (xs := st64.1) (ys := ([st64.2] : List Int)) 39 (SH.front 1 hS126) hL125 (SH.rd (SH.front 0 hS126)) hx128 rfl rfl rfl Try.underlying25 (info2).1 (info2).2.2.1 (info2).2.1 (info2).2.2.2 rfl rfl rfl rfl rfl ?_
    intro a129 c130 w131 hB132 hS133
    have hb134 : Ext w w131 := Below.trans hb124 hB132
    have hL135 : w.heap.size ≤ w131.heap.size := Nat.le_trans hL125 hB132.size
    refine WL.runk 1 [0, 1, 7, 8, 9, 10, 23, 24, 29, 30] [(0, .slice a0' list_0.length c0'), (1, .slice a1' faults_1.length c1'), (7, .slice a32 st31.1.length c33), (8, .int .i64 st31.2.1), (23, .int .i64 x29), (24, .int .i64 st31.2.2), (9, .int .i64 st31.2.2), (29, .int .i64 (list_0.length : Int)), (30, .int .i64 st64.2), (10, .slice a129 x127.length c130)] (by kernel_rfl) ?_
    refine WL.nil ?_
    obtain rfl := Option.some.inj hm
    exact WQ.post' ⟨_, _, rfl, hb134, hL135, (SH.take 2 (SH.front 1 (SH.front 2 hS133)))⟩ ⟨rfl, rfl, rfl, rfl, rfl, rfl, rfl, rfl, rfl, rfl, trivial⟩
  have hm := iteF hm hc82
  refine WP.exit ?_
  refine WQ.then_exit ?_
  refine WQ.then_exit ?_
  refine WQ.block_here ?_
  obtain rfl := Option.some.inj hm
  obtain rfl := afterN_done hl72
  have hm := hmo73
  refine WQ.then_normal (hK62 _ _ _ ?_)
  refine WP.seq (fun K140 hK140 => ?_)
  refine WP.seq (fun K141 hK141 => ?_)
  refine WP.region ?_
  refine WL.runk 3 [0, 1, 7, 8, 10, 23, 24, 41, 42, 43] [(0, .slice a0' list_0.length c0'), (1, .slice a1' faults_1.length c1'), (7, .slice a32 st31.1.length c33), (8, .int .i64 st31.2.1), (23, .int .i64 x29), (24, .int .i64 st31.2.2), (10, .slice a65 st64.1.length c66), (41, .slice a0' list_0.length c0'), (42, .slice a65 st64.1.length c66), (43, .slice a1' faults_1.length c1')] (by kernel_rfl) ?_
  obtain ⟨x142, hx143, hm⟩ := bindE hm
  refine WL.call 51 #[.slice a0' list_0.length c0', .slice a65 st64.1.length c66, .slice a1' faults_1.length c1'] rfl rfl (by kernel_rfl) (c_51 n list_0 a0' c0' st64.1 a65 c66 faults_1 a1' c1' w68 hx143 (Rd.below h0 hb69) hle0 (SH.rd (SH.front 0 hS71)) (SH.le (SH.front 0 hS71)).1 (Rd.below h1 hb69) hle1) ?_
  rintro _ w144 ⟨rfl, hE145⟩
  refine ⟨_, rfl, ?_⟩
  have hb147 : Ext w w144 := Ext.trans hb69 hE145
  have hL148 : w.heap.size ≤ w144.heap.size := Nat.le_trans hL70 hE145.size
  have hS149 : SH w144 w.heap.size [aOwn fInt 2 a65 c66 st64.1, aOwn fInt 2 a32 c33 st31.1] := SH.ext hS71 hE145
  refine WL.runk 1 [0, 1, 7, 8, 10, 23, 24, 45] [(0, .slice a0' list_0.length c0'), (1, .slice a1' faults_1.length c1'), (7, .slice a32 st31.1.length c33), (8, .int .i64 st31.2.1), (23, .int .i64 x29), (24, .int .i64 st31.2.2), (10, .slice a65 st64.1.length c66), (45, .bool (!x142))] (by kernel_rfl) ?_
  refine WL.nil ?_
  refine WQ.then_normal (hK141 _ _ _ ?_)
  refine WP.cond (!x142) rfl rfl (fun hc150 => ?_) (fun hc150 => ?_)
  · have hm := iteT hm hc150
    refine WP.exit ?_
    refine WQ.then_exit ?_
    refine WQ.block_here ?_
    refine WQ.then_normal (hK50 _ _ _ ?_)
    refine WP.region ?_
    refine WL.runk 2 [0, 1, 7, 8, 23, 24] [(0, .slice a0' list_0.length c0'), (1, .slice a1' faults_1.length c1'), (7, .slice a32 st31.1.length c33), (8, .int .i64 st31.2.1), (23, .int .i64 x29), (24, .int .i64 (wI64 (st31.2.2 + 1)))] (by kernel_rfl) ?_
    refine WL.nil ?_
    obtain rfl := Option.some.inj hm
    exact WQ.round hK41 ⟨(st31.1, st31.2.1, (wI64 (st31.2.2 + 1))), _, _, rfl, hb147, hL148, (SH.take 1 (SH.front 1 hS149)), hl39⟩ (Nat.lt_succ_self _) ⟨rfl, rfl, rfl, rfl, rfl, rfl, trivial⟩
  have hm := iteF hm hc150
  refine WP.skip ?_
  refine WQ.then_normal (hK140 _ _ _ ?_)
  refine WP.seq (fun K151 hK151 => ?_)
  refine WP.region ?_
  refine WL.runk 2 [0, 1, 7, 8, 10, 23, 24, 46, 47] [(0, .slice a0' list_0.length c0'), (1, .slice a1' faults_1.length c1'), (7, .slice a32 st31.1.length c33), (8, .int .i64 st31.2.1), (23, .int .i64 x29), (24, .int .i64 st31.2.2), (10, .slice a65 st64.1.length c66), (46, .slice a0' list_0.length c0'), (47, .slice a65 st64.1.length c66)] (by kernel_rfl) ?_
  obtain ⟨x152, hx153, hm⟩ := bindE hm
  refine WL.call 55 #[.slice a0' list_0.length c0', .slice a65 st64.1.length c66] rfl rfl (by kernel_rfl) (c_55 n list_0 a0' c0' st64.1 a65 c66 w144 hx153 (Rd.below h0 hb147) hle0 (SH.rd (SH.front 0 hS149)) (SH.le (SH.front 0 hS149)).1) ?_
  rintro _ w154 ⟨rfl, hE155⟩
  refine ⟨_, rfl, ?_⟩
  have hb157 : Ext w w154 := Ext.trans hb147 hE155
  have hL158 : w.heap.size ≤ w154.heap.size := Nat.le_trans hL148 hE155.size
  have hS159 : SH w154 w.heap.size [aOwn fInt 2 a65 c66 st64.1, aOwn fInt 2 a32 c33 st31.1] := SH.ext hS149 hE155
  refine WL.runk 1 [0, 1, 7, 8, 10, 12, 23, 24] [(0, .slice a0' list_0.length c0'), (1, .slice a1' faults_1.length c1'), (7, .slice a32 st31.1.length c33), (8, .int .i64 st31.2.1), (23, .int .i64 x29), (24, .int .i64 st31.2.2), (10, .slice a65 st64.1.length c66), (12, .int .i64 x152)] (by kernel_rfl) ?_
  refine WL.nil ?_
  refine WQ.then_normal (hK151 _ _ _ ?_)
  refine WP.seq (fun K160 hK160 => ?_)
  obtain ⟨x174, hx175, hm⟩ := bindE hm
  refine WP.cut (fun env' w' => env' = [(0, .slice a0' list_0.length c0'), (1, .slice a1' faults_1.length c1'), (7, .slice a32 st31.1.length c33), (8, .int .i64 st31.2.1), (23, .int .i64 x29), (24, .int .i64 st31.2.2), (10, .slice a65 st64.1.length c66), (12, .int .i64 x152), (80, .bool x174)] ∧ Ext w w' ∧ w.heap.size ≤ w'.heap.size ∧ SH w' w.heap.size [aOwn fInt 2 a65 c66 st64.1, aOwn fInt 2 a32 c33 st31.1]) ?_ ?_
  rotate_left
  · clear hx175
    rintro _ w189 ⟨rfl, hb190, hL191, hS192⟩
    refine WQ.then_normal (hK160 _ _ _ ?_)
    obtain ⟨x194, hx195, hm⟩ := bindE hm
    refine WP.cut (fun env' w' => ∃ (a196 : Option Addr) (c197 : Nat), env' = [(0, .slice a0' list_0.length c0'), (1, .slice a1' faults_1.length c1'), (7, .slice a196 x194.1.length c197), (8, .int .i64 x194.2), (23, .int .i64 x29), (24, .int .i64 st31.2.2)] ∧ Ext w w' ∧ w.heap.size ≤ w'.heap.size ∧ SH w' w.heap.size [aOwn fInt 2 a196 c197 x194.1]) ?_ ?_
    rotate_left
    · clear hx195
      rintro _ w199 ⟨a196, c197, rfl, hb200, hL201, hS202⟩
      refine WQ.block_normal ?_
      refine WQ.then_normal (hK50 _ _ _ ?_)
      refine WP.region ?_
      refine WL.runk 2 [0, 1, 7, 8, 23, 24] [(0, .slice a0' list_0.length c0'), (1, .slice a1' faults_1.length c1'), (7, .slice a196 x194.1.length c197), (8, .int .i64 x194.2), (23, .int .i64 x29), (24, .int .i64 (wI64 (st31.2.2 + 1)))] (by kernel_rfl) ?_
      refine WL.nil ?_
      obtain rfl := Option.some.inj hm
      exact WQ.round hK41 ⟨(x194.1, x194.2, (wI64 (st31.2.2 + 1))), _, _, rfl, hb200, hL201, hS202, hl39⟩ (Nat.lt_succ_self _) ⟨rfl, rfl, rfl, rfl, rfl, rfl, trivial⟩
    have hm := hx195; clear hx195
    refine WP.cond x174 rfl rfl (fun hc193 => ?_) (fun hc193 => ?_)
    rotate_left
    · have hm := iteF hm hc193
      refine WP.skip ?_
      obtain rfl := Option.some.inj hm
      exact WQ.post' ⟨_, _, rfl, hb190, hL191, (SH.take 1 (SH.front 1 hS192))⟩ ⟨rfl, rfl, rfl, rfl, rfl, rfl, trivial⟩
    have hm := iteT hm hc193
    refine WP.region ?_
    refine WL.runk 4 [0, 1, 7, 8, 23, 24] [(0, .slice a0' list_0.length c0'), (1, .slice a1' faults_1.length c1'), (7, .slice a65 st64.1.length c66), (8, .int .i64 x152), (23, .int .i64 x29), (24, .int .i64 st31.2.2)] (by kernel_rfl) ?_
    refine WL.nil ?_
    obtain rfl := Option.some.inj hm
    exact WQ.post' ⟨_, _, rfl, hb190, hL191, (SH.take 1 hS192)⟩ ⟨rfl, rfl, rfl, rfl, rfl, rfl, trivial⟩
  have hm := hx175; clear hx175
  refine WP.region ?_
  refine WL.runk 3 [0, 1, 7, 8, 10, 12, 23, 24, 51] [(0, .slice a0' list_0.length c0'), (1, .slice a1' faults_1.length c1'), (7, .slice a32 st31.1.length c33), (8, .int .i64 st31.2.1), (23, .int .i64 x29), (24, .int .i64 st31.2.2), (10, .slice a65 st64.1.length c66), (12, .int .i64 x152), (51, .bool (decide (st31.2.1 < 0)))] (by kernel_rfl) ?_
  refine WL.case (decide (st31.2.1 < 0)) [51] ⟨rfl, trivial⟩ (fun hc176 => ?_) (fun hc176 => ?_)
  · have hm := iteT hm hc176
    refine WL.runk 29 [0, 1, 7, 8, 10, 12, 23, 24, 80] [(0, .slice a0' list_0.length c0'), (1, .slice a1' faults_1.length c1'), (7, .slice a32 st31.1.length c33), (8, .int .i64 st31.2.1), (23, .int .i64 x29), (24, .int .i64 st31.2.2), (10, .slice a65 st64.1.length c66), (12, .int .i64 x152), (80, .bool true)] (by kernel_rfl) ?_
    refine WL.nil ?_
    obtain rfl := Option.some.inj hm
    exact WQ.post' ⟨rfl, hb157, hL158, hS159⟩ ⟨rfl, rfl, rfl, rfl, rfl, rfl, rfl, rfl, rfl, trivial⟩
  have hm := iteF hm hc176
  refine WL.runk 5 [0, 1, 7, 8, 10, 12, 23, 24, 56] [(0, .slice a0' list_0.length c0'), (1, .slice a1' faults_1.length c1'), (7, .slice a32 st31.1.length c33), (8, .int .i64 st31.2.1), (23, .int .i64 x29), (24, .int .i64 st31.2.2), (10, .slice a65 st64.1.length c66), (12, .int .i64 x152), (56, .bool (decide (x152 < st31.2.1)))] (by kernel_rfl) ?_
  refine WL.case (decide (x152 < st31.2.1)) [56] ⟨rfl, trivial⟩ (fun hc177 => ?_) (fun hc177 => ?_)
  · have hm := iteT hm hc177
    refine WL.runk 24 [0, 1, 7, 8, 10, 12, 23, 24, 80] [(0, .slice a0' list_0.length c0'), (1, .slice a1' faults_1.length c1'), (7, .slice a32 st31.1.length c33), (8, .int .i64 st31.2.1), (23, .int .i64 x29), (24, .int .i64 st31.2.2), (10, .slice a65 st64.1.length c66), (12, .int .i64 x152), (80, .bool true)] (by kernel_rfl) ?_
    refine WL.nil ?_
    obtain rfl := Option.some.inj hm
    exact WQ.post' ⟨rfl, hb157, hL158, hS159⟩ ⟨rfl, rfl, rfl, rfl, rfl, rfl, rfl, rfl, rfl, trivial⟩
  have hm := iteF hm hc177
  refine WL.runk 4 [0, 1, 7, 8, 10, 12, 23, 24, 56, 60] [(0, .slice a0' list_0.length c0'), (1, .slice a1' faults_1.length c1'), (7, .slice a32 st31.1.length c33), (8, .int .i64 st31.2.1), (23, .int .i64 x29), (24, .int .i64 st31.2.2), (10, .slice a65 st64.1.length c66), (12, .int .i64 x152), (56, .bool false), (60, .bool (x152 == st31.2.1))] (by kernel_rfl) ?_
  refine WL.case (x152 == st31.2.1) [60] ⟨rfl, trivial⟩ (fun hc178 => ?_) (fun hc178 => ?_)
  rotate_left
  · have hm := iteF hm hc178
    refine WL.runk 20 [0, 1, 7, 8, 10, 12, 23, 24, 80] [(0, .slice a0' list_0.length c0'), (1, .slice a1' faults_1.length c1'), (7, .slice a32 st31.1.length c33), (8, .int .i64 st31.2.1), (23, .int .i64 x29), (24, .int .i64 st31.2.2), (10, .slice a65 st64.1.length c66), (12, .int .i64 x152), (80, .bool false)] (by kernel_rfl) ?_
    refine WL.nil ?_
    obtain rfl := Option.some.inj hm
    exact WQ.post' ⟨rfl, hb157, hL158, hS159⟩ ⟨rfl, rfl, rfl, rfl, rfl, rfl, rfl, rfl, rfl, trivial⟩
  have hm := iteT hm hc178
  refine WL.runk 6 [0, 1, 7, 8, 10, 12, 23, 24, 56, 60, 66] [(0, .slice a0' list_0.length c0'), (1, .slice a1' faults_1.length c1'), (7, .slice a32 st31.1.length c33), (8, .int .i64 st31.2.1), (23, .int .i64 x29), (24, .int .i64 st31.2.2), (10, .slice a65 st64.1.length c66), (12, .int .i64 x152), (56, .bool false), (60, .bool true), (66, .bool (decide ((st64.1.length : Int) < (st31.1.length : Int))))] (by kernel_rfl) ?_
  refine WL.case (decide ((st64.1.length : Int) < (st31.1.length : Int))) [66] ⟨rfl, trivial⟩ (fun hc179 => ?_) (fun hc179 => ?_)
  · have hm := iteT hm hc179
    refine WL.runk 14 [0, 1, 7, 8, 10, 12, 23, 24, 80] [(0, .slice a0' list_0.length c0'), (1, .slice a1' faults_1.length c1'), (7, .slice a32 st31.1.length c33), (8, .int .i64 st31.2.1), (23, .int .i64 x29), (24, .int .i64 st31.2.2), (10, .slice a65 st64.1.length c66), (12, .int .i64 x152), (80, .bool true)] (by kernel_rfl) ?_
    refine WL.nil ?_
    obtain rfl := Option.some.inj hm
    exact WQ.post' ⟨rfl, hb157, hL158, hS159⟩ ⟨rfl, rfl, rfl, rfl, rfl, rfl, rfl, rfl, rfl, trivial⟩
  have hm := iteF hm hc179
  refine WL.runk 6 [0, 1, 7, 8, 10, 12, 23, 24, 56, 60, 66, 72] [(0, .slice a0' list_0.length c0'), (1, .slice a1' faults_1.length c1'), (7, .slice a32 st31.1.length c33), (8, .int .i64 st31.2.1), (23, .int .i64 x29), (24, .int .i64 st31.2.2), (10, .slice a65 st64.1.length c66), (12, .int .i64 x152), (56, .bool false), (60, .bool true), (66, .bool false), (72, .bool ((st64.1.length : Int) == (st31.1.length : Int)))] (by kernel_rfl) ?_
  refine WL.case ((st64.1.length : Int) == (st31.1.length : Int)) [72] ⟨rfl, trivial⟩ (fun hc180 => ?_) (fun hc180 => ?_)
  rotate_left
  · have hm := iteF hm hc180
    refine WL.runk 8 [0, 1, 7, 8, 10, 12, 23, 24, 80] [(0, .slice a0' list_0.length c0'), (1, .slice a1' faults_1.length c1'), (7, .slice a32 st31.1.length c33), (8, .int .i64 st31.2.1), (23, .int .i64 x29), (24, .int .i64 st31.2.2), (10, .slice a65 st64.1.length c66), (12, .int .i64 x152), (80, .bool false)] (by kernel_rfl) ?_
    refine WL.nil ?_
    obtain rfl := Option.some.inj hm
    exact WQ.post' ⟨rfl, hb157, hL158, hS159⟩ ⟨rfl, rfl, rfl, rfl, rfl, rfl, rfl, rfl, rfl, trivial⟩
  have hm := iteT hm hc180
  refine WL.runk 2 [0, 1, 7, 8, 10, 12, 23, 24, 56, 60, 66, 72, 73, 74] [(0, .slice a0' list_0.length c0'), (1, .slice a1' faults_1.length c1'), (7, .slice a32 st31.1.length c33), (8, .int .i64 st31.2.1), (23, .int .i64 x29), (24, .int .i64 st31.2.2), (10, .slice a65 st64.1.length c66), (12, .int .i64 x152), (56, .bool false), (60, .bool true), (66, .bool false), (72, .bool true), (73, .slice a65 st64.1.length c66), (74, .slice a32 st31.1.length c33)] (by kernel_rfl) ?_
  obtain ⟨x181, hx182, hm⟩ := bindE hm
  refine WL.call 56 #[.slice a65 st64.1.length c66, .slice a32 st31.1.length c33] rfl rfl (by kernel_rfl) (c_56 n st64.1 a65 c66 st31.1 a32 c33 w154 hx182 (SH.rd (SH.front 0 hS159)) (SH.le (SH.front 0 hS159)).1 (SH.rd (SH.front 1 hS159)) (SH.le (SH.front 1 hS159)).1) ?_
  rintro _ w183 ⟨rfl, hE184⟩
  refine ⟨_, rfl, ?_⟩
  have hb186 : Ext w w183 := Ext.trans hb157 hE184
  have hL187 : w.heap.size ≤ w183.heap.size := Nat.le_trans hL158 hE184.size
  have hS188 : SH w183 w.heap.size [aOwn fInt 2 a65 c66 st64.1, aOwn fInt 2 a32 c33 st31.1] := SH.ext hS159 hE184
  refine WL.runk 5 [0, 1, 7, 8, 10, 12, 23, 24, 80] [(0, .slice a0' list_0.length c0'), (1, .slice a1' faults_1.length c1'), (7, .slice a32 st31.1.length c33), (8, .int .i64 st31.2.1), (23, .int .i64 x29), (24, .int .i64 st31.2.2), (10, .slice a65 st64.1.length c66), (12, .int .i64 x152), (80, .bool (decide (x181 < 0)))] (by kernel_rfl) ?_
  refine WL.nil ?_
  obtain rfl := Option.some.inj hm
  exact WQ.post' ⟨rfl, hb186, hL187, hS188⟩ ⟨rfl, rfl, rfl, rfl, rfl, rfl, rfl, rfl, rfl, trivial⟩

theorem c_66 (n : Nat) (list_0 : List SRepair) (a0' : Option Addr) (c0' : Nat) (some_1 : List Int) (a1' : Option Addr) (c1' : Nat) (w : World) {r : Int} (hm : m_spec_l21Price n list_0 some_1 = some r) (h0 : Rd fRepair.ty w a0' list_0) (_hle0 : list_0.length ≤ c0') (h1 : Rd fInt.ty w a1' some_1) (_hle1 : some_1.length ≤ c1') :
    CallV Try.prog 66 #[.slice a0' list_0.length c0', .slice a1' some_1.length c1'] w (fun v w' => v = .int .i64 r ∧ Ext w w') := by
  unfold m_spec_l21Price at hm
  refine CallV.enter Try.func66 rfl (by kernel_rfl) Try.ntmps66 (env := [(0, .slice a0' list_0.length c0'), (1, .slice a1' some_1.length c1')]) ⟨rfl, rfl, trivial⟩ ?_
  refine WP.seq (fun K1 hK1 => ?_)
  refine WP.region ?_
  refine WL.runk 1 [0, 1] [(0, .slice a0' list_0.length c0'), (1, .slice a1' some_1.length c1')] (by kernel_rfl) ?_
  refine WL.nil ?_
  refine WQ.then_normal (hK1 _ _ _ ?_)
  refine WP.seq (fun K2 hK2 => ?_)
  refine WP.region ?_
  refine WL.runk 1 [0, 1, 5] [(0, .slice a0' list_0.length c0'), (1, .slice a1' some_1.length c1'), (5, .int .i64 0)] (by kernel_rfl) ?_
  refine WL.nil ?_
  refine WQ.then_normal (hK2 _ _ _ ?_)
  refine WP.seq (fun K3 hK3 => ?_)
  refine WP.seq (fun K4 hK4 => ?_)
  refine WP.region ?_
  refine WL.runk 1 [0, 1, 5, 6] [(0, .slice a0' list_0.length c0'), (1, .slice a1' some_1.length c1'), (5, .int .i64 0), (6, .int .i64 0)] (by kernel_rfl) ?_
  refine WL.nil ?_
  refine WQ.then_normal (hK4 _ _ _ ?_)
  refine WP.block ?_
  obtain ⟨t16, ht17, hm⟩ := bindE hm
  have hmo11 := hm; clear hm
  refine WP.sub [(0, .slice a0' list_0.length c0'), (1, .slice a1' some_1.length c1'), (5, .int .i64 0), (6, .int .i64 0)] ⟨rfl, rfl, rfl, rfl, trivial⟩ ?_
  refine WP.loop (fun n' env' w' => ∃ (st5 : Int × Int) , env' = [(0, .slice a0' list_0.length c0'), (1, .slice a1' some_1.length c1'), (5, .int .i64 st5.1), (6, .int .i64 st5.2)] ∧ Ext w w' ∧ w.heap.size ≤ w'.heap.size ∧ SH w' w.heap.size [] ∧ loopN (m_spec_l21Price_l1 n list_0 some_1) n' st5 = some t16) n ⟨(0, 0), rfl, (Ext.refl w), (Nat.le_refl _), (SH.nil _ _), ht17⟩ ?_
  rintro n13 _ w6 ⟨st5, rfl, hb7, hL8, hS9, hl10⟩ K12 hK12
  obtain ⟨n14, s15, rfl, hm, hl10⟩ := loopN_some hl10
  unfold m_spec_l21Price_l1 at hm
  refine WP.seq (fun K18 hK18 => ?_)
  refine WP.seq (fun K19 hK19 => ?_)
  refine WP.region ?_
  refine WL.runk 4 [0, 1, 5, 6, 10] [(0, .slice a0' list_0.length c0'), (1, .slice a1' some_1.length c1'), (5, .int .i64 st5.1), (6, .int .i64 st5.2), (10, .bool (decide (st5.2 < (some_1.length : Int))))] (by kernel_rfl) ?_
  refine WL.nil ?_
  refine WQ.then_normal (hK19 _ _ _ ?_)
  refine WP.cond (decide (st5.2 < (some_1.length : Int))) rfl rfl (fun hc20 => ?_) (fun hc20 => ?_)
  rotate_left
  · have hm := iteF hm hc20
    refine WP.exit ?_
    refine WQ.then_exit ?_
    refine WQ.then_exit ?_
    refine WQ.block_here ?_
    obtain rfl := Option.some.inj hm
    obtain rfl := afterN_done hl10
    have hm := hmo11
    refine WQ.then_normal (hK3 _ _ _ ?_)
    refine WP.seq (fun K37 hK37 => ?_)
    refine WP.region ?_
    refine WL.runk 2 [4] [(4, .int .i64 st5.1)] (by kernel_rfl) ?_
    refine WL.nil ?_
    refine WQ.then_normal (hK37 _ _ _ ?_)
    refine WP.ret ?_
    obtain rfl := Option.some.inj hm
    exact WQ.ret1 _ rfl rfl ⟨rfl, hb7⟩
  have hm := iteT hm hc20
  refine WP.skip ?_
  refine WQ.then_normal (hK18 _ _ _ ?_)
  refine WP.seq (fun K21 hK21 => ?_)
  refine WP.block ?_
  refine WP.region ?_
  refine WL.runk 4 [0, 1, 6, 13, 14, 15, 16] [(0, .slice a0' list_0.length c0'), (1, .slice a1' some_1.length c1'), (6, .int .i64 st5.2), (13, .int .i64 st5.1), (14, .slice a0' list_0.length c0'), (15, .slice a1' some_1.length c1'), (16, .int .i64 st5.2)] (by kernel_rfl) ?_
  obtain ⟨x22, hx23, hm⟩ := bindE hm
  refine WL.st (.pointer (some (at_ a1' (Int.toNat st5.2 * 1)))) (ST.index (T := fInt.ty) (xs := some_1) (Rd.below h1 hb7) hx23 rfl rfl rfl Try.underlying25 (info2).1 (info2).2.1) rfl rfl rfl ?_
  refine WL.st (.int .i64 x22) (ST.load (cell_ext (Rd.flat (F := fInt) (Rd.below h1 hb7) hx23 0 rfl)) rfl rfl Try.underlying2 rfl) rfl rfl rfl ?_
  obtain ⟨x24, hx25, hm⟩ := bindE hm
  obtain ⟨a26, c27, a31, c32, hc36, hR28, hle29, hR33, hle34⟩ := nest_Repair h0 hx25
  refine WL.st (.pointer (some (at_ a0' (Int.toNat x22 * 5)))) (ST.index (T := fRepair.ty) (xs := list_0) (Rd.below h0 hb7) hx25 rfl rfl rfl Try.underlying24 (info73).1 (info73).2.1) rfl rfl rfl ?_
  refine WL.runk 1 [0, 1, 6, 13, 20] [(0, .slice a0' list_0.length c0'), (1, .slice a1' some_1.length c1'), (6, .int .i64 st5.2), (13, .int .i64 st5.1), (20, .pointer (some (at_ a0' (Int.toNat x22 * 5 + 3))))] (by kernel_rfl) ?_
  refine WL.st (.int .i64 x24.Price) (ST.load (cell_ext ((cells_ext hc36 hb7) 3 _ rfl)) rfl rfl Try.underlying2 rfl) rfl rfl rfl ?_
  refine WL.runk 2 [0, 1, 5, 6] [(0, .slice a0' list_0.length c0'), (1, .slice a1' some_1.length c1'), (6, .int .i64 st5.2), (5, .int .i64 (wI64 (st5.1 + x24.Price)))] (by kernel_rfl) ?_
  refine WL.nil ?_
  refine WQ.block_normal ?_
  refine WQ.then_normal (hK21 _ _ _ ?_)
  refine WP.region ?_
  refine WL.runk 3 [0, 1, 5, 6] [(0, .slice a0' list_0.length c0'), (1, .slice a1' some_1.length c1'), (6, .int .i64 (wI64 (st5.2 + 1))), (5, .int .i64 (wI64 (st5.1 + x24.Price)))] (by kernel_rfl) ?_
  refine WL.nil ?_
  obtain rfl := Option.some.inj hm
  exact WQ.round hK12 ⟨((wI64 (st5.1 + x24.Price)), (wI64 (st5.2 + 1))), rfl, hb7, hL8, hS9, hl10⟩ (Nat.lt_succ_self _) ⟨rfl, rfl, rfl, rfl, trivial⟩

theorem c_100 (n : Nat) (a_0 : List Int) (a0' : Option Addr) (c0' : Nat) (b_1 : List Int) (a1' : Option Addr) (c1' : Nat) (w : World) {r : Bool} (hm : m_spec_l21Less n a_0 b_1 = some r) (h0 : Rd fInt.ty w a0' a_0) (_hle0 : a_0.length ≤ c0') (h1 : Rd fInt.ty w a1' b_1) (_hle1 : b_1.length ≤ c1') :
    CallV Try.prog 100 #[.slice a0' a_0.length c0', .slice a1' b_1.length c1'] w (fun v w' => v = .bool r ∧ Ext w w') := by
  unfold m_spec_l21Less at hm
  refine CallV.enter Try.func100 rfl (by kernel_rfl) Try.ntmps100 (env := [(0, .slice a0' a_0.length c0'), (1, .slice a1' b_1.length c1')]) ⟨rfl, rfl, trivial⟩ ?_
  refine WP.seq (fun K1 hK1 => ?_)
  refine WP.region ?_
  refine WL.runk 1 [0, 1] [(0, .slice a0' a_0.length c0'), (1, .slice a1' b_1.length c1')] (by kernel_rfl) ?_
  refine WL.nil ?_
  refine WQ.then_normal (hK1 _ _ _ ?_)
  refine WP.seq (fun K2 hK2 => ?_)
  refine WP.seq (fun K3 hK3 => ?_)
  refine WP.region ?_
  refine WL.runk 1 [0, 1, 5] [(0, .slice a0' a_0.length c0'), (1, .slice a1' b_1.length c1'), (5, .int .i64 0)] (by kernel_rfl) ?_
  refine WL.nil ?_
  refine WQ.then_normal (hK3 _ _ _ ?_)
  refine WP.block ?_
  obtain ⟨t15, ht16, hm⟩ := bindE hm
  have hmo10 := hm; clear hm
  refine WP.sub [(0, .slice a0' a_0.length c0'), (1, .slice a1' b_1.length c1'), (5, .int .i64 0)] ⟨rfl, rfl, rfl, trivial⟩ ?_
  refine WP.loop (fun n' env' w' => ∃ (st4 : Int) , env' = [(0, .slice a0' a_0.length c0'), (1, .slice a1' b_1.length c1'), (5, .int .i64 st4)] ∧ Ext w w' ∧ w.heap.size ≤ w'.heap.size ∧ SH w' w.heap.size [] ∧ loopN (m_spec_l21Less_l1 n a_0 b_1) n' st4 = some t15) n ⟨0, rfl, (Ext.refl w), (Nat.le_refl _), (SH.nil _ _), ht16⟩ ?_
  rintro n12 _ w5 ⟨st4, rfl, hb6, hL7, hS8, hl9⟩ K11 hK11
  obtain ⟨n13, s14, rfl, hm, hl9⟩ := loopN_some hl9
  unfold m_spec_l21Less_l1 at hm
  refine WP.seq (fun K17 hK17 => ?_)
  refine WP.seq (fun K18 hK18 => ?_)
  refine WP.region ?_
  refine WL.runk 4 [0, 1, 5, 9] [(0, .slice a0' a_0.length c0'), (1, .slice a1' b_1.length c1'), (5, .int .i64 st4), (9, .bool (decide (st4 < (a_0.length : Int))))] (by kernel_rfl) ?_
  refine WL.nil ?_
  refine WQ.then_normal (hK18 _ _ _ ?_)
  refine WP.cond (decide (st4 < (a_0.length : Int))) rfl rfl (fun hc19 => ?_) (fun hc19 => ?_)
  rotate_left
  · have hm := iteF hm hc19
    refine WP.exit ?_
    refine WQ.then_exit ?_
    refine WQ.then_exit ?_
    refine WQ.block_here ?_
    obtain rfl := Option.some.inj hm
    obtain rfl := afterN_done hl9
    have hm := hmo10
    refine WQ.then_normal (hK2 _ _ _ ?_)
    refine WP.seq (fun K42 hK42 => ?_)
    refine WP.region ?_
    refine WL.runk 1 [4] [(4, .bool false)] (by kernel_rfl) ?_
    refine WL.nil ?_
    refine WQ.then_normal (hK42 _ _ _ ?_)
    refine WP.ret ?_
    obtain rfl := Option.some.inj hm
    exact WQ.ret1 _ rfl rfl ⟨rfl, hb6⟩
  have hm := iteT hm hc19
  refine WP.skip ?_
  refine WQ.then_normal (hK17 _ _ _ ?_)
  refine WP.seq (fun K20 hK20 => ?_)
  refine WP.block ?_
  refine WP.seq (fun K21 hK21 => ?_)
  refine WP.quiet (by kernel_rfl) (by kernel_rfl) ?_
  refine QL.step1v 12 (.slice a0' a_0.length c0') rfl (fun _ => by kernel_rfl) ?_
  refine QL.step1v 13 (.int .i64 st4) rfl (fun _ => by kernel_rfl) ?_
  refine QL.subk [0, 1, 5, 12, 13] [(0, .slice a0' a_0.length c0'), (1, .slice a1' b_1.length c1'), (5, .int .i64 st4), (12, .slice a0' a_0.length c0'), (13, .int .i64 st4)] (by kernel_rfl) ?_
  obtain ⟨x22, hx23, hm⟩ := bindE hm
  refine QL.st (.pointer (some (at_ a0' (Int.toNat st4 * 1)))) (ST.index (T := fInt.ty) (xs := a_0) (Rd.below h0 hb6) hx23 rfl rfl rfl Try.underlying25 (info2).1 (info2).2.1) rfl rfl rfl ?_
  refine QL.st (.int .i64 x22) (ST.load (cell_ext (Rd.flat (F := fInt) (Rd.below h0 hb6) hx23 0 rfl)) rfl rfl Try.underlying2 rfl) rfl rfl rfl ?_
  refine QL.step1v 16 (.slice a1' b_1.length c1') rfl (fun _ => by kernel_rfl) ?_
  refine QL.step1v 17 (.int .i64 st4) rfl (fun _ => by kernel_rfl) ?_
  refine QL.subk [0, 1, 5, 15, 16, 17] [(0, .slice a0' a_0.length c0'), (1, .slice a1' b_1.length c1'), (5, .int .i64 st4), (15, .int .i64 x22), (16, .slice a1' b_1.length c1'), (17, .int .i64 st4)] (by kernel_rfl) ?_
  obtain ⟨x24, hx25, hm⟩ := bindE hm
  refine QL.st (.pointer (some (at_ a1' (Int.toNat st4 * 1)))) (ST.index (T := fInt.ty) (xs := b_1) (Rd.below h1 hb6) hx25 rfl rfl rfl Try.underlying25 (info2).1 (info2).2.1) rfl rfl rfl ?_
  refine QL.st (.int .i64 x24) (ST.load (cell_ext (Rd.flat (F := fInt) (Rd.below h1 hb6) hx25 0 rfl)) rfl rfl Try.underlying2 rfl) rfl rfl rfl ?_
  refine QL.step1v 20 (.bool (x22 != x24)) rfl (fun _ => by kernel_rfl) ?_
  refine QL.subk [0, 1, 5, 20] [(0, .slice a0' a_0.length c0'), (1, .slice a1' b_1.length c1'), (5, .int .i64 st4), (20, .bool (x22 != x24))] (by kernel_rfl) ?_
  refine QL.nil ?_
  intro w26 hE27
  have hb28 : Ext w w26 := Ext.trans hb6 hE27
  have hL29 : w.heap.size ≤ w26.heap.size := Nat.le_trans hL7 hE27.size
  have hS30 : SH w26 w.heap.size [] := SH.ext hS8 hE27
  refine WQ.then_normal (hK21 _ _ _ ?_)
  refine WP.cond (x22 != x24) rfl rfl (fun hc31 => ?_) (fun hc31 => ?_)
  rotate_left
  · have hm := iteF hm hc31
    refine WP.skip ?_
    refine WQ.block_normal ?_
    refine WQ.then_normal (hK20 _ _ _ ?_)
    refine WP.region ?_
    refine WL.runk 3 [0, 1, 5] [(0, .slice a0' a_0.length c0'), (1, .slice a1' b_1.length c1'), (5, .int .i64 (wI64 (st4 + 1)))] (by kernel_rfl) ?_
    refine WL.nil ?_
    obtain rfl := Option.some.inj hm
    exact WQ.round hK11 ⟨(wI64 (st4 + 1)), rfl, hb28, hL29, hS30, hl9⟩ (Nat.lt_succ_self _) ⟨rfl, rfl, rfl, trivial⟩
  have hm := iteT hm hc31
  refine WP.seq (fun K32 hK32 => ?_)
  refine WP.quiet (by kernel_rfl) (by kernel_rfl) ?_
  refine QL.step1v 21 (.slice a0' a_0.length c0') rfl (fun _ => by kernel_rfl) ?_
  refine QL.step1v 22 (.int .i64 st4) rfl (fun _ => by kernel_rfl) ?_
  refine QL.subk [1, 5, 21, 22] [(1, .slice a1' b_1.length c1'), (5, .int .i64 st4), (21, .slice a0' a_0.length c0'), (22, .int .i64 st4)] (by kernel_rfl) ?_
  obtain ⟨x33, hx34, hm⟩ := bindE hm
  refine QL.st (.pointer (some (at_ a0' (Int.toNat st4 * 1)))) (ST.index (T := fInt.ty) (xs := a_0) (Rd.below h0 hb28) hx34 rfl rfl rfl Try.underlying25 (info2).1 (info2).2.1) rfl rfl rfl ?_
  refine QL.st (.int .i64 x33) (ST.load (cell_ext (Rd.flat (F := fInt) (Rd.below h0 hb28) hx34 0 rfl)) rfl rfl Try.underlying2 rfl) rfl rfl rfl ?_
  refine QL.step1v 25 (.slice a1' b_1.length c1') rfl (fun _ => by kernel_rfl) ?_
  refine QL.step1v 26 (.int .i64 st4) rfl (fun _ => by kernel_rfl) ?_
  refine QL.subk [24, 25, 26] [(24, .int .i64 x33), (25, .slice a1' b_1.length c1'), (26, .int .i64 st4)] (by kernel_rfl) ?_
  obtain ⟨x35, hx36, hm⟩ := bindE hm
  refine QL.st (.pointer (some (at_ a1' (Int.toNat st4 * 1)))) (ST.index (T := fInt.ty) (xs := b_1) (Rd.below h1 hb28) hx36 rfl rfl rfl Try.underlying25 (info2).1 (info2).2.1) rfl rfl rfl ?_
  refine QL.st (.int .i64 x35) (ST.load (cell_ext (Rd.flat (F := fInt) (Rd.below h1 hb28) hx36 0 rfl)) rfl rfl Try.underlying2 rfl) rfl rfl rfl ?_
  refine QL.step1v 29 (.bool (decide (x33 < x35))) rfl (fun _ => by kernel_rfl) ?_
  refine QL.step1v 4 (.bool (decide (x33 < x35))) rfl (fun _ => by kernel_rfl) ?_
  refine QL.subk [4] [(4, .bool (decide (x33 < x35)))] (by kernel_rfl) ?_
  refine QL.nil ?_
  intro w37 hE38
  have hb39 : Ext w w37 := Ext.trans hb28 hE38
  have hL40 : w.heap.size ≤ w37.heap.size := Nat.le_trans hL29 hE38.size
  have hS41 : SH w37 w.heap.size [] := SH.ext hS30 hE38
  refine WQ.then_normal (hK32 _ _ _ ?_)
  refine WP.ret ?_
  refine WQ.block_ret ?_
  refine WQ.then_ret ?_
  refine WQ.then_ret ?_
  refine WQ.block_ret ?_
  refine WQ.then_ret ?_
  obtain rfl := Option.some.inj hm
  obtain rfl := afterN_done hl9
  have hm := hmo10
  obtain rfl := Option.some.inj hm
  exact WQ.ret1 _ rfl rfl ⟨rfl, hb39⟩

theorem c_57 (n : Nat) (list_0 : List SRepair) (a0' : Option Addr) (c0' : Nat) (faults_1 : List Int) (a1' : Option Addr) (c1' : Nat) (w : World) {r : List Int × Bool} (hm : m_spec_l21Cheapest n list_0 faults_1 = some r) (h0 : Rd fRepair.ty w a0' list_0) (hle0 : list_0.length ≤ c0') (h1 : Rd fInt.ty w a1' faults_1) (hle1 : faults_1.length ≤ c1') :
    CallV Try.prog 57 #[.slice a0' list_0.length c0', .slice a1' faults_1.length c1'] w (fun v w' => ∃ (ra0 : Option Addr) (rc0 : Nat), v = .tuple #[.slice ra0 r.1.length rc0, .bool r.2] ∧ Ext w w' ∧ SH w' w.heap.size [aOwn fInt 2 ra0 rc0 r.1]) := by
  unfold m_spec_l21Cheapest at hm
  refine CallV.enter Try.func57 rfl (by kernel_rfl) Try.ntmps57 (env := [(0, .slice a0' list_0.length c0'), (1, .slice a1' faults_1.length c1')]) ⟨rfl, rfl, trivial⟩ ?_
  refine WP.seq (fun K1 hK1 => ?_)
  refine WP.region ?_
  refine WL.runk 2 [0, 1] [(0, .slice a0' list_0.length c0'), (1, .slice a1' faults_1.length c1')] (by kernel_rfl) ?_
  refine WL.nil ?_
  refine WQ.then_normal (hK1 _ _ _ ?_)
  refine WP.seq (fun K2 hK2 => ?_)
  refine WP.region ?_
  refine WL.row fInt 2 ([] : List Int) 0 #[] 13 (by kernel_rfl) rfl rfl rfl rfl rfl rfl rfl ?_
  intro a3 c4 w5 hE6 hR7
  have hb9 : Ext w w5 := Ext.trans (Ext.refl w) hE6
  have hL10 : w.heap.size ≤ w5.heap.size := Nat.le_trans (Nat.le_refl _) hE6.size
  have hS11 : SH w5 w.heap.size [aOwn fInt 2 a3 c4 ([] : List Int)] := SH.add (SH.nil _ _) hE6 (Nat.le_refl _) hR7
  refine WL.runk 1 [0, 1, 6] [(0, .slice a0' list_0.length c0'), (1, .slice a1' faults_1.length c1'), (6, .slice a3 (([] : List Int).length) c4)] (by kernel_rfl) ?_
  refine WL.nil ?_
  refine WQ.then_normal (hK2 _ _ _ ?_)
  refine WP.seq (fun K12 hK12 => ?_)
  refine WP.region ?_
  refine WL.runk 1 [0, 1, 6, 7] [(0, .slice a0' list_0.length c0'), (1, .slice a1' faults_1.length c1'), (6, .slice a3 (([] : List Int).length) c4), (7, .bool false)] (by kernel_rfl) ?_
  refine WL.nil ?_
  refine WQ.then_normal (hK12 _ _ _ ?_)
  refine WP.seq (fun K13 hK13 => ?_)
  refine WP.seq (fun K14 hK14 => ?_)
  refine WP.region ?_
  refine WL.runk 1 [0, 1, 6, 7, 8] [(0, .slice a0' list_0.length c0'), (1, .slice a1' faults_1.length c1'), (6, .slice a3 (([] : List Int).length) c4), (7, .bool false), (8, .int .i64 0)] (by kernel_rfl) ?_
  refine WL.nil ?_
  refine WQ.then_normal (hK14 _ _ _ ?_)
  refine WP.block ?_
  obtain ⟨t29, ht30, hm⟩ := bindE hm
  have hmo24 := hm; clear hm
  refine WP.sub [(0, .slice a0' list_0.length c0'), (1, .slice a1' faults_1.length c1'), (6, .slice a3 (([] : List Int).length) c4), (7, .bool false), (8, .int .i64 0)] ⟨rfl, rfl, rfl, rfl, rfl, trivial⟩ ?_
  refine WP.loop (fun n' env' w' => ∃ (st15 : List Int × Bool × Int) (a16 : Option Addr) (c17 : Nat), env' = [(0, .slice a0' list_0.length c0'), (1, .slice a1' faults_1.length c1'), (6, .slice a16 st15.1.length c17), (7, .bool st15.2.1), (8, .int .i64 st15.2.2)] ∧ Ext w w' ∧ w.heap.size ≤ w'.heap.size ∧ SH w' w.heap.size [aOwn fInt 2 a16 c17 st15.1] ∧ loopN (m_spec_l21Cheapest_l1 n list_0 faults_1) n' st15 = some t29) n ⟨(([] : List Int), false, 0), _, _, rfl, hb9, hL10, hS11, ht30⟩ ?_
  rintro n26 _ w19 ⟨st15, a16, c17, rfl, hb20, hL21, hS22, hl23⟩ K25 hK25
  obtain ⟨n27, s28, rfl, hm, hl23⟩ := loopN_some hl23
  unfold m_spec_l21Cheapest_l1 at hm
  refine WP.seq (fun K31 hK31 => ?_)
  refine WP.seq (fun K32 hK32 => ?_)
  refine WP.region ?_
  refine WL.runk 4 [0, 1, 6, 7, 8, 14, 17] [(0, .slice a0' list_0.length c0'), (1, .slice a1' faults_1.length c1'), (6, .slice a16 st15.1.length c17), (7, .bool st15.2.1), (8, .int .i64 st15.2.2), (14, .int .i64 st15.2.2), (17, .int .u64 (IntKind.u64.wrap (list_0.length : Int)))] (by kernel_rfl) ?_
  obtain ⟨x33, hx34, hm⟩ := bindE hm
  refine WL.st (.int .i64 x33) (ST.shl (k := .i64) hx34 rfl rfl rfl) rfl rfl rfl ?_
  refine WL.runk 1 [0, 1, 6, 7, 8, 19] [(0, .slice a0' list_0.length c0'), (1, .slice a1' faults_1.length c1'), (6, .slice a16 st15.1.length c17), (7, .bool st15.2.1), (8, .int .i64 st15.2.2), (19, .bool (decide (st15.2.2 < x33)))] (by kernel_rfl) ?_
  refine WL.nil ?_
  refine WQ.then_normal (hK32 _ _ _ ?_)
  refine WP.cond (decide (st15.2.2 < x33)) rfl rfl (fun hc35 => ?_) (fun hc35 => ?_)
  rotate_left
  · have hm := iteF hm hc35
    refine WP.exit ?_
    refine WQ.then_exit ?_
    refine WQ.then_exit ?_
    refine WQ.block_here ?_
    obtain rfl := Option.some.inj hm
    obtain rfl := afterN_done hl23
    have hm := hmo24
    refine WQ.then_normal (hK13 _ _ _ ?_)
    refine WP.seq (fun K270 hK270 => ?_)
    refine WP.region ?_
    refine WL.runk 4 [4, 5] [(4, .slice a16 st15.1.length c17), (5, .bool st15.2.1)] (by kernel_rfl) ?_
    refine WL.nil ?_
    refine WQ.then_normal (hK270 _ _ _ ?_)
    refine WP.ret ?_
    obtain rfl := Option.some.inj hm
    exact WQ.ret2 _ _ rfl rfl rfl ⟨_, _, rfl, hb20, hS22⟩
  have hm := iteT hm hc35
  refine WP.skip ?_
  refine WQ.then_normal (hK31 _ _ _ ?_)
  refine WP.seq (fun K36 hK36 => ?_)
  refine WP.block ?_
  refine WP.seq (fun K37 hK37 => ?_)
  refine WP.region ?_
  refine WL.row fInt 2 ([] : List Int) 0 #[] 22 (by kernel_rfl) rfl rfl rfl rfl rfl rfl rfl ?_
  intro a38 c39 w40 hE41 hR42
  have hb44 : Ext w w40 := Ext.trans hb20 hE41
  have hL45 : w.heap.size ≤ w40.heap.size := Nat.le_trans hL21 hE41.size
  have hS46 : SH w40 w.heap.size [aOwn fInt 2 a38 c39 ([] : List Int), aOwn fInt 2 a16 c17 st15.1] := SH.add hS22 hE41 hL21 hR42
  refine WL.runk 1 [0, 1, 6, 7, 8, 9] [(0, .slice a0' list_0.length c0'), (1, .slice a1' faults_1.length c1'), (6, .slice a16 st15.1.length c17), (7, .bool st15.2.1), (8, .int .i64 st15.2.2), (9, .slice a38 (([] : List Int).length) c39)] (by kernel_rfl) ?_
  refine WL.nil ?_
  refine WQ.then_normal (hK37 _ _ _ ?_)
  refine WP.seq (fun K47 hK47 => ?_)
  refine WP.seq (fun K48 hK48 => ?_)
  refine WP.region ?_
  refine WL.runk 1 [0, 1, 6, 7, 8, 9, 10] [(0, .slice a0' list_0.length c0'), (1, .slice a1' faults_1.length c1'), (6, .slice a16 st15.1.length c17), (7, .bool st15.2.1), (8, .int .i64 st15.2.2), (9, .slice a38 (([] : List Int).length) c39), (10, .int .i64 0)] (by kernel_rfl) ?_
  refine WL.nil ?_
  refine WQ.then_normal (hK48 _ _ _ ?_)
  refine WP.block ?_
  obtain ⟨t63, ht64, hm⟩ := bindE hm
  have hmo58 := hm; clear hm
  refine WP.sub [(0, .slice a0' list_0.length c0'), (1, .slice a1' faults_1.length c1'), (6, .slice a16 st15.1.length c17), (7, .bool st15.2.1), (8, .int .i64 st15.2.2), (9, .slice a38 (([] : List Int).length) c39), (10, .int .i64 0)] ⟨rfl, rfl, rfl, rfl, rfl, rfl, rfl, trivial⟩ ?_
  refine WP.loop (fun n' env' w' => ∃ (st49 : List Int × Int) (a50 : Option Addr) (c51 : Nat), env' = [(0, .slice a0' list_0.length c0'), (1, .slice a1' faults_1.length c1'), (6, .slice a16 st15.1.length c17), (7, .bool st15.2.1), (8, .int .i64 st15.2.2), (9, .slice a50 st49.1.length c51), (10, .int .i64 st49.2)] ∧ Ext w w' ∧ w.heap.size ≤ w'.heap.size ∧ SH w' w.heap.size [aOwn fInt 2 a50 c51 st49.1, aOwn fInt 2 a16 c17 st15.1] ∧ loopN (m_spec_l21Cheapest_l2 n list_0 st15) n' st49 = some t63) n ⟨(([] : List Int), 0), _, _, rfl, hb44, hL45, hS46, ht64⟩ ?_
  rintro n60 _ w53 ⟨st49, a50, c51, rfl, hb54, hL55, hS56, hl57⟩ K59 hK59
  obtain ⟨n61, s62, rfl, hm, hl57⟩ := loopN_some hl57
  unfold m_spec_l21Cheapest_l2 at hm
  refine WP.seq (fun K65 hK65 => ?_)
  refine WP.seq (fun K66 hK66 => ?_)
  refine WP.region ?_
  refine WL.runk 4 [0, 1, 6, 7, 8, 9, 10, 26] [(0, .slice a0' list_0.length c0'), (1, .slice a1' faults_1.length c1'), (6, .slice a16 st15.1.length c17), (7, .bool st15.2.1), (8, .int .i64 st15.2.2), (9, .slice a50 st49.1.length c51), (10, .int .i64 st49.2), (26, .bool (decide (st49.2 < (list_0.length : Int))))] (by kernel_rfl) ?_
  refine WL.nil ?_
  refine WQ.then_normal (hK66 _ _ _ ?_)
  refine WP.cond (decide (st49.2 < (list_0.length : Int))) rfl rfl (fun hc67 => ?_) (fun hc67 => ?_)
  · have hm := iteT hm hc67
    refine WP.skip ?_
    refine WQ.then_normal (hK65 _ _ _ ?_)
    refine WP.seq (fun K68 hK68 => ?_)
    refine WP.block ?_
    refine WP.seq (fun K69 hK69 => ?_)
    refine WP.region ?_
    refine WL.runk 3 [0, 1, 6, 7, 8, 9, 10, 29, 31] [(0, .slice a0' list_0.length c0'), (1, .slice a1' faults_1.length c1'), (6, .slice a16 st15.1.length c17), (7, .bool st15.2.1), (8, .int .i64 st15.2.2), (9, .slice a50 st49.1.length c51), (10, .int .i64 st49.2), (29, .int .i64 st15.2.2), (31, .int .u64 (IntKind.u64.wrap st49.2))] (by kernel_rfl) ?_
    obtain ⟨x70, hx71, hm⟩ := bindE hm
    refine WL.st (.int .i64 x70) (ST.shr (k := .i64) hx71 rfl rfl rfl) rfl rfl rfl ?_
    refine WL.runk 2 [0, 1, 6, 7, 8, 9, 10, 34] [(0, .slice a0' list_0.length c0'), (1, .slice a1' faults_1.length c1'), (6, .slice a16 st15.1.length c17), (7, .bool st15.2.1), (8, .int .i64 st15.2.2), (9, .slice a50 st49.1.length c51), (10, .int .i64 st49.2), (34, .bool ((iand .i64 x70 1) == 1))] (by kernel_rfl) ?_
    refine WL.nil ?_
    refine WQ.then_normal (hK69 _ _ _ ?_)
    obtain ⟨x91, hx92, hm⟩ := bindE hm
    refine WP.cut (fun env' w' => ∃ (a93 : Option Addr) (c94 : Nat), env' = [(0, .slice a0' list_0.length c0'), (1, .slice a1' faults_1.length c1'), (6, .slice a16 st15.1.length c17), (7, .bool st15.2.1), (8, .int .i64 st15.2.2), (9, .slice a93 x91.length c94), (10, .int .i64 st49.2)] ∧ Ext w w' ∧ w.heap.size ≤ w'.heap.size ∧ SH w' w.heap.size [aOwn fInt 2 a93 c94 x91, aOwn fInt 2 a16 c17 st15.1]) ?_ ?_
    rotate_left
    · clear hx92
      rintro _ w114 ⟨a93, c94, rfl, hb115, hL116, hS117⟩
      refine WQ.block_normal ?_
      refine WQ.then_normal (hK68 _ _ _ ?_)
      refine WP.region ?_
      refine WL.runk 3 [0, 1, 6, 7, 8, 9, 10] [(0, .slice a0' list_0.length c0'), (1, .slice a1' faults_1.length c1'), (6, .slice a16 st15.1.length c17), (7, .bool st15.2.1), (8, .int .i64 st15.2.2), (9, .slice a93 x91.length c94), (10, .int .i64 (wI64 (st49.2 + 1)))] (by kernel_rfl) ?_
      refine WL.nil ?_
      obtain rfl := Option.some.inj hm
      exact WQ.round hK59 ⟨(x91, (wI64 (st49.2 + 1))), _, _, rfl, hb115, hL116, hS117, hl57⟩ (Nat.lt_succ_self _) ⟨rfl, rfl, rfl, rfl, rfl, rfl, rfl, trivial⟩
    have hm := hx92; clear hx92
    refine WP.cond ((iand .i64 x70 1) == 1) rfl rfl (fun hc72 => ?_) (fun hc72 => ?_)
    rotate_left
    · have hm := iteF hm hc72
      refine WP.skip ?_
      obtain rfl := Option.some.inj hm
      exact WQ.post' ⟨_, _, rfl, hb54, hL55, hS56⟩ ⟨rfl, rfl, rfl, rfl, rfl, rfl, rfl, trivial⟩
    have hm := iteT hm hc72
    refine WP.region ?_
    refine WL.runk 2 [0, 1, 6, 7, 8, 10, 35, 36] [(0, .slice a0' list_0.length c0'), (1, .slice a1' faults_1.length c1'), (6, .slice a16 st15.1.length c17), (7, .bool st15.2.1), (8, .int .i64 st15.2.2), (10, .int .i64 st49.2), (35, .slice a50 st49.1.length c51), (36, .int .i64 st49.2)] (by kernel_rfl) ?_
    refine WL.row fInt 2 ([st49.2] : List Int) 1 #[.int .i64 st49.2] 37 (by kernel_rfl) rfl rfl rfl rfl rfl rfl rfl ?_
    intro a96 c97 w98 hE99 hR100
    have hb102 : Ext w w98 := Ext.trans hb54 hE99
    have hL103 : w.heap.size ≤ w98.heap.size := Nat.le_trans hL55 hE99.size
    have hS104 : SH w98 w.heap.size [aOwn fInt 2 a96 c97 ([st49.2] : List Int), aOwn fInt 2 a50 c51 st49.1, aOwn fInt 2 a16 c17 st15.1] := SH.add hS56 hE99 hL55 hR100
    obtain ⟨x105, hx106, hm⟩ := bindE hm
    refine WL.append (F := fInt) (xs := st49.1) (ys := ([st49.2] : List Int)) 38 (SH.front 1 hS104) hL103 (SH.rd (SH.front 0 hS104)) hx106 rfl rfl rfl Try.underlying25 (info2).1 (info2).2.2.1 (info2).2.1 (info2).2.2.2 rfl rfl rfl rfl rfl ?_
    intro a107 c108 w109 hB110 hS111
    have hb112 : Ext w w109 := Below.trans hb102 hB110
    have hL113 : w.heap.size ≤ w109.heap.size := Nat.le_trans hL103 hB110.size
    refine WL.runk 1 [0, 1, 6, 7, 8, 9, 10] [(0, .slice a0' list_0.length c0'), (1, .slice a1' faults_1.length c1'), (6, .slice a16 st15.1.length c17), (7, .bool st15.2.1), (8, .int .i64 st15.2.2), (10, .int .i64 st49.2), (9, .slice a107 x105.length c108)] (by kernel_rfl) ?_
    refine WL.nil ?_
    obtain rfl := Option.some.inj hm
    exact WQ.post' ⟨_, _, rfl, hb112, hL113, (SH.take 2 (SH.front 1 (SH.front 2 hS111)))⟩ ⟨rfl, rfl, rfl, rfl, rfl, rfl, rfl, trivial⟩
  have hm := iteF hm hc67
  refine WP.exit ?_
  refine WQ.then_exit ?_
  refine WQ.then_exit ?_
  refine WQ.block_here ?_
  obtain rfl := Option.some.inj hm
  obtain rfl := afterN_done hl57
  have hm := hmo58
  refine WQ.then_normal (hK47 _ _ _ ?_)
  refine WP.seq (fun K118 hK118 => ?_)
  refine WP.seq (fun K119 hK119 => ?_)
  refine WP.region ?_
  refine WL.runk 3 [0, 1, 6, 7, 8, 9, 39, 40, 41] [(0, .slice a0' list_0.length c0'), (1, .slice a1' faults_1.length c1'), (6, .slice a16 st15.1.length c17), (7, .bool st15.2.1), (8, .int .i64 st15.2.2), (9, .slice a50 st49.1.length c51), (39, .slice a0' list_0.length c0'), (40, .slice a50 st49.1.length c51), (41, .slice a1' faults_1.length c1')] (by kernel_rfl) ?_
  obtain ⟨x120, hx121, hm⟩ := bindE hm
  refine WL.call 53 #[.slice a0' list_0.length c0', .slice a50 st49.1.length c51, .slice a1' faults_1.length c1'] rfl rfl (by kernel_rfl) (c_53 n list_0 a0' c0' st49.1 a50 c51 faults_1 a1' c1' w53 hx121 (Rd.below h0 hb54) hle0 (SH.rd (SH.front 0 hS56)) (SH.le (SH.front 0 hS56)).1 (Rd.below h1 hb54) hle1) ?_
  rintro _ w122 ⟨rfl, hE123⟩
  refine ⟨_, rfl, ?_⟩
  have hb125 : Ext w w122 := Ext.trans hb54 hE123
  have hL126 : w.heap.size ≤ w122.heap.size := Nat.le_trans hL55 hE123.size
  have hS127 : SH w122 w.heap.size [aOwn fInt 2 a50 c51 st49.1, aOwn fInt 2 a16 c17 st15.1] := SH.ext hS56 hE123
  refine WL.runk 1 [0, 1, 6, 7, 8, 9, 43] [(0, .slice a0' list_0.length c0'), (1, .slice a1' faults_1.length c1'), (6, .slice a16 st15.1.length c17), (7, .bool st15.2.1), (8, .int .i64 st15.2.2), (9, .slice a50 st49.1.length c51), (43, .bool (!x120))] (by kernel_rfl) ?_
  refine WL.nil ?_
  refine WQ.then_normal (hK119 _ _ _ ?_)
  refine WP.cond (!x120) rfl rfl (fun hc128 => ?_) (fun hc128 => ?_)
  · have hm := iteT hm hc128
    refine WP.exit ?_
    refine WQ.then_exit ?_
    refine WQ.block_here ?_
    refine WQ.then_normal (hK36 _ _ _ ?_)
    refine WP.region ?_
    refine WL.runk 3 [0, 1, 6, 7, 8] [(0, .slice a0' list_0.length c0'), (1, .slice a1' faults_1.length c1'), (6, .slice a16 st15.1.length c17), (7, .bool st15.2.1), (8, .int .i64 (wI64 (st15.2.2 + 1)))] (by kernel_rfl) ?_
    refine WL.nil ?_
    obtain rfl := Option.some.inj hm
    exact WQ.round hK25 ⟨(st15.1, st15.2.1, (wI64 (st15.2.2 + 1))), _, _, rfl, hb125, hL126, (SH.take 1 (SH.front 1 hS127)), hl23⟩ (Nat.lt_succ_self _) ⟨rfl, rfl, rfl, rfl, rfl, trivial⟩
  have hm := iteF hm hc128
  refine WP.skip ?_
  refine WQ.then_normal (hK118 _ _ _ ?_)
  refine WP.seq (fun K129 hK129 => ?_)
  refine WP.region ?_
  refine WL.runk 2 [0, 1, 6, 7, 8, 9, 44, 45] [(0, .slice a0' list_0.length c0'), (1, .slice a1' faults_1.length c1'), (6, .slice a16 st15.1.length c17), (7, .bool st15.2.1), (8, .int .i64 st15.2.2), (9, .slice a50 st49.1.length c51), (44, .slice a0' list_0.length c0'), (45, .slice a50 st49.1.length c51)] (by kernel_rfl) ?_
  obtain ⟨x130, hx131, hm⟩ := bindE hm
  refine WL.call 66 #[.slice a0' list_0.length c0', .slice a50 st49.1.length c51] rfl rfl (by kernel_rfl) (c_66 n list_0 a0' c0' st49.1 a50 c51 w122 hx131 (Rd.below h0 hb125) hle0 (SH.rd (SH.front 0 hS127)) (SH.le (SH.front 0 hS127)).1) ?_
  rintro _ w132 ⟨rfl, hE133⟩
  refine ⟨_, rfl, ?_⟩
  have hb135 : Ext w w132 := Ext.trans hb125 hE133
  have hL136 : w.heap.size ≤ w132.heap.size := Nat.le_trans hL126 hE133.size
  have hS137 : SH w132 w.heap.size [aOwn fInt 2 a50 c51 st49.1, aOwn fInt 2 a16 c17 st15.1] := SH.ext hS127 hE133
  refine WL.runk 1 [0, 1, 6, 7, 8, 9, 11] [(0, .slice a0' list_0.length c0'), (1, .slice a1' faults_1.length c1'), (6, .slice a16 st15.1.length c17), (7, .bool st15.2.1), (8, .int .i64 st15.2.2), (9, .slice a50 st49.1.length c51), (11, .int .i64 x130)] (by kernel_rfl) ?_
  refine WL.nil ?_
  refine WQ.then_normal (hK129 _ _ _ ?_)
  refine WP.seq (fun K138 hK138 => ?_)
  refine WP.region ?_
  refine WL.runk 2 [0, 1, 6, 7, 8, 9, 11, 47, 48] [(0, .slice a0' list_0.length c0'), (1, .slice a1' faults_1.length c1'), (6, .slice a16 st15.1.length c17), (7, .bool st15.2.1), (8, .int .i64 st15.2.2), (9, .slice a50 st49.1.length c51), (11, .int .i64 x130), (47, .slice a0' list_0.length c0'), (48, .slice a16 st15.1.length c17)] (by kernel_rfl) ?_
  obtain ⟨x139, hx140, hm⟩ := bindE hm
  refine WL.call 66 #[.slice a0' list_0.length c0', .slice a16 st15.1.length c17] rfl rfl (by kernel_rfl) (c_66 n list_0 a0' c0' st15.1 a16 c17 w132 hx140 (Rd.below h0 hb135) hle0 (SH.rd (SH.front 1 hS137)) (SH.le (SH.front 1 hS137)).1) ?_
  rintro _ w141 ⟨rfl, hE142⟩
  refine ⟨_, rfl, ?_⟩
  have hb144 : Ext w w141 := Ext.trans hb135 hE142
  have hL145 : w.heap.size ≤ w141.heap.size := Nat.le_trans hL136 hE142.size
  have hS146 : SH w141 w.heap.size [aOwn fInt 2 a50 c51 st49.1, aOwn fInt 2 a16 c17 st15.1] := SH.ext hS137 hE142
  refine WL.runk 1 [0, 1, 6, 7, 8, 9, 11, 12] [(0, .slice a0' list_0.length c0'), (1, .slice a1' faults_1.length c1'), (6, .slice a16 st15.1.length c17), (7, .bool st15.2.1), (8, .int .i64 st15.2.2), (9, .slice a50 st49.1.length c51), (11, .int .i64 x130), (12, .int .i64 x139)] (by kernel_rfl) ?_
  refine WL.nil ?_
  refine WQ.then_normal (hK138 _ _ _ ?_)
  refine WP.seq (fun K147 hK147 => ?_)
  obtain ⟨x161, hx162, hm⟩ := bindE hm
  refine WP.cut (fun env' w' => env' = [(0, .slice a0' list_0.length c0'), (1, .slice a1' faults_1.length c1'), (6, .slice a16 st15.1.length c17), (7, .bool st15.2.1), (8, .int .i64 st15.2.2), (9, .slice a50 st49.1.length c51), (80, .bool x161)] ∧ Ext w w' ∧ w.heap.size ≤ w'.heap.size ∧ SH w' w.heap.size [aOwn fInt 2 a50 c51 st49.1, aOwn fInt 2 a16 c17 st15.1]) ?_ ?_
  rotate_left
  · clear hx162
    rintro _ w176 ⟨rfl, hb177, hL178, hS179⟩
    refine WQ.then_normal (hK147 _ _ _ ?_)
    obtain ⟨x182, hx183, hm⟩ := bindE hm
    refine WP.cut (fun env' w' => ∃ (a184 : Option Addr) (c185 : Nat), env' = [(0, .slice a0' list_0.length c0'), (1, .slice a1' faults_1.length c1'), (6, .slice a184 x182.1.length c185), (7, .bool x182.2), (8, .int .i64 st15.2.2)] ∧ Ext w w' ∧ w.heap.size ≤ w'.heap.size ∧ SH w' w.heap.size [aOwn fInt 2 a184 c185 x182.1]) ?_ ?_
    rotate_left
    · clear hx183
      rintro _ w188 ⟨a184, c185, rfl, hb189, hL190, hS191⟩
      refine WQ.block_normal ?_
      refine WQ.then_normal (hK36 _ _ _ ?_)
      refine WP.region ?_
      refine WL.runk 3 [0, 1, 6, 7, 8] [(0, .slice a0' list_0.length c0'), (1, .slice a1' faults_1.length c1'), (6, .slice a184 x182.1.length c185), (7, .bool x182.2), (8, .int .i64 (wI64 (st15.2.2 + 1)))] (by kernel_rfl) ?_
      refine WL.nil ?_
      obtain rfl := Option.some.inj hm
      exact WQ.round hK25 ⟨(x182.1, x182.2, (wI64 (st15.2.2 + 1))), _, _, rfl, hb189, hL190, hS191, hl23⟩ (Nat.lt_succ_self _) ⟨rfl, rfl, rfl, rfl, rfl, trivial⟩
    have hm := hx183; clear hx183
    refine WP.cond x161 rfl rfl (fun hc180 => ?_) (fun hc180 => ?_)
    rotate_left
    · have hm := iteF hm hc180
      refine WP.skip ?_
      obtain rfl := Option.some.inj hm
      exact WQ.post' ⟨_, _, rfl, hb177, hL178, (SH.take 1 (SH.front 1 hS179))⟩ ⟨rfl, rfl, rfl, rfl, rfl, trivial⟩
    have hm := iteT hm hc180
    refine WP.seq (fun K187 hK187 => ?_)
    refine WP.region ?_
    refine WL.runk 2 [0, 1, 6, 8] [(0, .slice a0' list_0.length c0'), (1, .slice a1' faults_1.length c1'), (6, .slice a50 st49.1.length c51), (8, .int .i64 st15.2.2)] (by kernel_rfl) ?_
    refine WL.nil ?_
    refine WQ.then_normal (hK187 _ _ _ ?_)
    refine WP.region ?_
    refine WL.runk 1 [0, 1, 6, 7, 8] [(0, .slice a0' list_0.length c0'), (1, .slice a1' faults_1.length c1'), (6, .slice a50 st49.1.length c51), (8, .int .i64 st15.2.2), (7, .bool true)] (by kernel_rfl) ?_
    refine WL.nil ?_
    obtain rfl := Option.some.inj hm
    exact WQ.post' ⟨_, _, rfl, hb177, hL178, (SH.take 1 hS179)⟩ ⟨rfl, rfl, rfl, rfl, rfl, trivial⟩
  have hm := hx162; clear hx162
  refine WP.region ?_
  refine WL.runk 3 [0, 1, 6, 7, 8, 9, 11, 12, 52] [(0, .slice a0' list_0.length c0'), (1, .slice a1' faults_1.length c1'), (6, .slice a16 st15.1.length c17), (7, .bool st15.2.1), (8, .int .i64 st15.2.2), (9, .slice a50 st49.1.length c51), (11, .int .i64 x130), (12, .int .i64 x139), (52, .bool (!st15.2.1))] (by kernel_rfl) ?_
  refine WL.case (!st15.2.1) [52] ⟨rfl, trivial⟩ (fun hc163 => ?_) (fun hc163 => ?_)
  · have hm := iteT hm hc163
    refine WL.runk 28 [0, 1, 6, 7, 8, 9, 80] [(0, .slice a0' list_0.length c0'), (1, .slice a1' faults_1.length c1'), (6, .slice a16 st15.1.length c17), (7, .bool st15.2.1), (8, .int .i64 st15.2.2), (9, .slice a50 st49.1.length c51), (80, .bool true)] (by kernel_rfl) ?_
    refine WL.nil ?_
    obtain rfl := Option.some.inj hm
    exact WQ.post' ⟨rfl, hb144, hL145, hS146⟩ ⟨rfl, rfl, rfl, rfl, rfl, rfl, rfl, trivial⟩
  have hm := iteF hm hc163
  refine WL.runk 5 [0, 1, 6, 7, 8, 9, 11, 12, 57] [(0, .slice a0' list_0.length c0'), (1, .slice a1' faults_1.length c1'), (6, .slice a16 st15.1.length c17), (7, .bool st15.2.1), (8, .int .i64 st15.2.2), (9, .slice a50 st49.1.length c51), (11, .int .i64 x130), (12, .int .i64 x139), (57, .bool (decide (x130 < x139)))] (by kernel_rfl) ?_
  refine WL.case (decide (x130 < x139)) [57] ⟨rfl, trivial⟩ (fun hc164 => ?_) (fun hc164 => ?_)
  · have hm := iteT hm hc164
    refine WL.runk 23 [0, 1, 6, 7, 8, 9, 80] [(0, .slice a0' list_0.length c0'), (1, .slice a1' faults_1.length c1'), (6, .slice a16 st15.1.length c17), (7, .bool st15.2.1), (8, .int .i64 st15.2.2), (9, .slice a50 st49.1.length c51), (80, .bool true)] (by kernel_rfl) ?_
    refine WL.nil ?_
    obtain rfl := Option.some.inj hm
    exact WQ.post' ⟨rfl, hb144, hL145, hS146⟩ ⟨rfl, rfl, rfl, rfl, rfl, rfl, rfl, trivial⟩
  have hm := iteF hm hc164
  refine WL.runk 4 [0, 1, 6, 7, 8, 9, 57, 61] [(0, .slice a0' list_0.length c0'), (1, .slice a1' faults_1.length c1'), (6, .slice a16 st15.1.length c17), (7, .bool st15.2.1), (8, .int .i64 st15.2.2), (9, .slice a50 st49.1.length c51), (57, .bool false), (61, .bool (x130 == x139))] (by kernel_rfl) ?_
  refine WL.case (x130 == x139) [61] ⟨rfl, trivial⟩ (fun hc165 => ?_) (fun hc165 => ?_)
  rotate_left
  · have hm := iteF hm hc165
    refine WL.runk 19 [0, 1, 6, 7, 8, 9, 80] [(0, .slice a0' list_0.length c0'), (1, .slice a1' faults_1.length c1'), (6, .slice a16 st15.1.length c17), (7, .bool st15.2.1), (8, .int .i64 st15.2.2), (9, .slice a50 st49.1.length c51), (80, .bool false)] (by kernel_rfl) ?_
    refine WL.nil ?_
    obtain rfl := Option.some.inj hm
    exact WQ.post' ⟨rfl, hb144, hL145, hS146⟩ ⟨rfl, rfl, rfl, rfl, rfl, rfl, rfl, trivial⟩
  have hm := iteT hm hc165
  refine WL.runk 6 [0, 1, 6, 7, 8, 9, 57, 61, 67] [(0, .slice a0' list_0.length c0'), (1, .slice a1' faults_1.length c1'), (6, .slice a16 st15.1.length c17), (7, .bool st15.2.1), (8, .int .i64 st15.2.2), (9, .slice a50 st49.1.length c51), (57, .bool false), (61, .bool true), (67, .bool (decide ((st49.1.length : Int) < (st15.1.length : Int))))] (by kernel_rfl) ?_
  refine WL.case (decide ((st49.1.length : Int) < (st15.1.length : Int))) [67] ⟨rfl, trivial⟩ (fun hc166 => ?_) (fun hc166 => ?_)
  · have hm := iteT hm hc166
    refine WL.runk 13 [0, 1, 6, 7, 8, 9, 80] [(0, .slice a0' list_0.length c0'), (1, .slice a1' faults_1.length c1'), (6, .slice a16 st15.1.length c17), (7, .bool st15.2.1), (8, .int .i64 st15.2.2), (9, .slice a50 st49.1.length c51), (80, .bool true)] (by kernel_rfl) ?_
    refine WL.nil ?_
    obtain rfl := Option.some.inj hm
    exact WQ.post' ⟨rfl, hb144, hL145, hS146⟩ ⟨rfl, rfl, rfl, rfl, rfl, rfl, rfl, trivial⟩
  have hm := iteF hm hc166
  refine WL.runk 6 [0, 1, 6, 7, 8, 9, 57, 61, 67, 73] [(0, .slice a0' list_0.length c0'), (1, .slice a1' faults_1.length c1'), (6, .slice a16 st15.1.length c17), (7, .bool st15.2.1), (8, .int .i64 st15.2.2), (9, .slice a50 st49.1.length c51), (57, .bool false), (61, .bool true), (67, .bool false), (73, .bool ((st49.1.length : Int) == (st15.1.length : Int)))] (by kernel_rfl) ?_
  refine WL.case ((st49.1.length : Int) == (st15.1.length : Int)) [73] ⟨rfl, trivial⟩ (fun hc167 => ?_) (fun hc167 => ?_)
  rotate_left
  · have hm := iteF hm hc167
    refine WL.runk 7 [0, 1, 6, 7, 8, 9, 80] [(0, .slice a0' list_0.length c0'), (1, .slice a1' faults_1.length c1'), (6, .slice a16 st15.1.length c17), (7, .bool st15.2.1), (8, .int .i64 st15.2.2), (9, .slice a50 st49.1.length c51), (80, .bool false)] (by kernel_rfl) ?_
    refine WL.nil ?_
    obtain rfl := Option.some.inj hm
    exact WQ.post' ⟨rfl, hb144, hL145, hS146⟩ ⟨rfl, rfl, rfl, rfl, rfl, rfl, rfl, trivial⟩
  have hm := iteT hm hc167
  refine WL.runk 2 [0, 1, 6, 7, 8, 9, 57, 61, 67, 73, 74, 75] [(0, .slice a0' list_0.length c0'), (1, .slice a1' faults_1.length c1'), (6, .slice a16 st15.1.length c17), (7, .bool st15.2.1), (8, .int .i64 st15.2.2), (9, .slice a50 st49.1.length c51), (57, .bool false), (61, .bool true), (67, .bool false), (73, .bool true), (74, .slice a50 st49.1.length c51), (75, .slice a16 st15.1.length c17)] (by kernel_rfl) ?_
  obtain ⟨x168, hx169, hm⟩ := bindE hm
  refine WL.call 100 #[.slice a50 st49.1.length c51, .slice a16 st15.1.length c17] rfl rfl (by kernel_rfl) (c_100 n st49.1 a50 c51 st15.1 a16 c17 w141 hx169 (SH.rd (SH.front 0 hS146)) (SH.le (SH.front 0 hS146)).1 (SH.rd (SH.front 1 hS146)) (SH.le (SH.front 1 hS146)).1) ?_
  rintro _ w170 ⟨rfl, hE171⟩
  refine ⟨_, rfl, ?_⟩
  have hb173 : Ext w w170 := Ext.trans hb144 hE171
  have hL174 : w.heap.size ≤ w170.heap.size := Nat.le_trans hL145 hE171.size
  have hS175 : SH w170 w.heap.size [aOwn fInt 2 a50 c51 st49.1, aOwn fInt 2 a16 c17 st15.1] := SH.ext hS146 hE171
  refine WL.runk 4 [0, 1, 6, 7, 8, 9, 80] [(0, .slice a0' list_0.length c0'), (1, .slice a1' faults_1.length c1'), (6, .slice a16 st15.1.length c17), (7, .bool st15.2.1), (8, .int .i64 st15.2.2), (9, .slice a50 st49.1.length c51), (80, .bool x168)] (by kernel_rfl) ?_
  refine WL.nil ?_
  obtain rfl := Option.some.inj hm
  exact WQ.post' ⟨rfl, hb173, hL174, hS175⟩ ⟨rfl, rfl, rfl, rfl, rfl, rfl, rfl, trivial⟩

theorem c_24 (n : Nat) (list_0 : List SRepair) (a0' : Option Addr) (c0' : Nat) (faults_1 : List Int) (a1' : Option Addr) (c1' : Nat) (value_2 : Int) (percent_3 : Int) (w : World) {r : Bool × Int} (hm : m_impl_IsWorthwhile n list_0 faults_1 value_2 percent_3 = some r) (h0 : Rd fRepair.ty w a0' list_0) (hle0 : list_0.length ≤ c0') (h1 : Rd fInt.ty w a1' faults_1) (hle1 : faults_1.length ≤ c1') :
    CallV Try.prog 24 #[.slice a0' list_0.length c0', .slice a1' faults_1.length c1', .int .i64 value_2, .int .i64 percent_3] w (fun v w' => v = .tuple #[.bool r.1, .int .i64 r.2] ∧ Ext w w') := by
  unfold m_impl_IsWorthwhile at hm
  refine CallV.enter Try.func24 rfl (by kernel_rfl) Try.ntmps24 (env := [(0, .slice a0' list_0.length c0'), (1, .slice a1' faults_1.length c1'), (2, .int .i64 value_2), (3, .int .i64 percent_3)]) ⟨rfl, rfl, rfl, rfl, trivial⟩ ?_
  refine WP.seq (fun K1 hK1 => ?_)
  refine WP.region ?_
  refine WL.runk 2 [0, 1, 2, 3] [(0, .slice a0' list_0.length c0'), (1, .slice a1' faults_1.length c1'), (2, .int .i64 value_2), (3, .int .i64 percent_3)] (by kernel_rfl) ?_
  refine WL.nil ?_
  refine WQ.then_normal (hK1 _ _ _ ?_)
  refine WP.seq (fun K2 hK2 => ?_)
  refine WP.region ?_
  refine WL.runk 2 [0, 1, 2, 3, 12, 13] [(0, .slice a0' list_0.length c0'), (1, .slice a1' faults_1.length c1'), (2, .int .i64 value_2), (3, .int .i64 percent_3), (12, .slice a0' list_0.length c0'), (13, .slice a1' faults_1.length c1')] (by kernel_rfl) ?_
  obtain ⟨x3, hx4, hm⟩ := bindE hm
  refine WL.call 50 #[.slice a0' list_0.length c0', .slice none 0 0, .slice a1' faults_1.length c1'] rfl rfl (by kernel_rfl) (c_50 n list_0 a0' c0' ([] : List Int) none 0 faults_1 a1' c1' w hx4 (Rd.below h0 (Ext.refl w)) hle0 (Rd.nil _ _ _) (Nat.zero_le _) (Rd.below h1 (Ext.refl w)) hle1) ?_
  rintro _ w5 ⟨rfl, hE6⟩
  refine ⟨_, rfl, ?_⟩
  have hb8 : Ext w w5 := Ext.trans (Ext.refl w) hE6
  have hL9 : w.heap.size ≤ w5.heap.size := Nat.le_trans (Nat.le_refl _) hE6.size
  have hS10 : SH w5 w.heap.size [] := SH.ext (SH.nil _ _) hE6
  refine WL.runk 1 [0, 1, 2, 3, 10] [(0, .slice a0' list_0.length c0'), (1, .slice a1' faults_1.length c1'), (2, .int .i64 value_2), (3, .int .i64 percent_3), (10, .int .i64 x3)] (by kernel_rfl) ?_
  refine WL.nil ?_
  refine WQ.then_normal (hK2 _ _ _ ?_)
  refine WP.seq (fun K11 hK11 => ?_)
  refine WP.seq (fun K12 hK12 => ?_)
  obtain ⟨x31, hx32, hm⟩ := bindE hm
  refine WP.cut (fun env' w' => env' = [(0, .slice a0' list_0.length c0'), (1, .slice a1' faults_1.length c1'), (2, .int .i64 value_2), (3, .int .i64 percent_3), (10, .int .i64 x3), (26, .bool x31)] ∧ Ext w w' ∧ w.heap.size ≤ w'.heap.size ∧ SH w' w.heap.size []) ?_ ?_
  · have hm := hx32; clear hx32
    refine WP.region ?_
    refine WL.runk 3 [0, 1, 2, 3, 10, 17] [(0, .slice a0' list_0.length c0'), (1, .slice a1' faults_1.length c1'), (2, .int .i64 value_2), (3, .int .i64 percent_3), (10, .int .i64 x3), (17, .bool (x3 == 0))] (by kernel_rfl) ?_
    refine WL.case (x3 == 0) [17] ⟨rfl, trivial⟩ (fun hc33 => ?_) (fun hc33 => ?_)
    rotate_left
    · have hm := iteF hm hc33
      refine WL.runk 9 [0, 1, 2, 3, 10, 26] [(0, .slice a0' list_0.length c0'), (1, .slice a1' faults_1.length c1'), (2, .int .i64 value_2), (3, .int .i64 percent_3), (10, .int .i64 x3), (26, .bool false)] (by kernel_rfl) ?_
      refine WL.nil ?_
      obtain rfl := Option.some.inj hm
      exact WQ.post' ⟨rfl, hb8, hL9, hS10⟩ ⟨rfl, rfl, rfl, rfl, rfl, rfl, trivial⟩
    have hm := iteT hm hc33
    refine WL.runk 1 [0, 1, 2, 3, 10, 17, 18] [(0, .slice a0' list_0.length c0'), (1, .slice a1' faults_1.length c1'), (2, .int .i64 value_2), (3, .int .i64 percent_3), (10, .int .i64 x3), (17, .bool true), (18, .int .i64 value_2)] (by kernel_rfl) ?_
    obtain ⟨x34, hx35, hm⟩ := bindE hm
    refine WL.call 64 #[.int .i64 value_2, .int .i64 0, .int .i64 100000] rfl rfl (by kernel_rfl) (c_64 n value_2 0 100000 w5 hx35 ) ?_
    rintro _ w36 ⟨rfl, hE37⟩
    refine ⟨_, rfl, ?_⟩
    have hb39 : Ext w w36 := Ext.trans hb8 hE37
    have hL40 : w.heap.size ≤ w36.heap.size := Nat.le_trans hL9 hE37.size
    have hS41 : SH w36 w.heap.size [] := SH.ext hS10 hE37
    refine WL.runk 2 [0, 1, 2, 3, 10, 17, 21] [(0, .slice a0' list_0.length c0'), (1, .slice a1' faults_1.length c1'), (2, .int .i64 value_2), (3, .int .i64 percent_3), (10, .int .i64 x3), (17, .bool true), (21, .bool (!x34))] (by kernel_rfl) ?_
    refine WL.case (!x34) [21] ⟨rfl, trivial⟩ (fun hc42 => ?_) (fun hc42 => ?_)
    · have hm := iteT hm hc42
      refine WL.runk 5 [0, 1, 2, 3, 10, 26] [(0, .slice a0' list_0.length c0'), (1, .slice a1' faults_1.length c1'), (2, .int .i64 value_2), (3, .int .i64 percent_3), (10, .int .i64 x3), (26, .bool true)] (by kernel_rfl) ?_
      refine WL.nil ?_
      obtain rfl := Option.some.inj hm
      exact WQ.post' ⟨rfl, hb39, hL40, hS41⟩ ⟨rfl, rfl, rfl, rfl, rfl, rfl, trivial⟩
    have hm := iteF hm hc42
    refine WL.runk 1 [0, 1, 2, 3, 10, 17, 21, 22] [(0, .slice a0' list_0.length c0'), (1, .slice a1' faults_1.length c1'), (2, .int .i64 value_2), (3, .int .i64 percent_3), (10, .int .i64 x3), (17, .bool true), (21, .bool false), (22, .int .i64 percent_3)] (by kernel_rfl) ?_
    obtain ⟨x43, hx44, hm⟩ := bindE hm
    refine WL.call 64 #[.int .i64 percent_3, .int .i64 0, .int .i64 100] rfl rfl (by kernel_rfl) (c_64 n percent_3 0 100 w36 hx44 ) ?_
    rintro _ w45 ⟨rfl, hE46⟩
    refine ⟨_, rfl, ?_⟩
    have hb48 : Ext w w45 := Ext.trans hb39 hE46
    have hL49 : w.heap.size ≤ w45.heap.size := Nat.le_trans hL40 hE46.size
    have hS50 : SH w45 w.heap.size [] := SH.ext hS41 hE46
    refine WL.runk 3 [0, 1, 2, 3, 10, 26] [(0, .slice a0' list_0.length c0'), (1, .slice a1' faults_1.length c1'), (2, .int .i64 value_2), (3, .int .i64 percent_3), (10, .int .i64 x3), (26, .bool (!x43))] (by kernel_rfl) ?_
    refine WL.nil ?_
    obtain rfl := Option.some.inj hm
    exact WQ.post' ⟨rfl, hb48, hL49, hS50⟩ ⟨rfl, rfl, rfl, rfl, rfl, rfl, trivial⟩
  clear hx32
  rintro _ w51 ⟨rfl, hb52, hL53, hS54⟩
  refine WQ.then_normal (hK12 _ _ _ ?_)
  obtain ⟨x56, hx57, hm⟩ := bindE hm
  refine WP.cut (fun env' w' => env' = [(0, .slice a0' list_0.length c0'), (1, .slice a1' faults_1.length c1'), (2, .int .i64 value_2), (3, .int .i64 percent_3), (10, .int .i64 x56)] ∧ Ext w w' ∧ w.heap.size ≤ w'.heap.size ∧ SH w' w.heap.size []) ?_ ?_
  · have hm := hx57; clear hx57
    refine WP.cond x31 rfl rfl (fun hc55 => ?_) (fun hc55 => ?_)
    rotate_left
    · have hm := iteF hm hc55
      refine WP.skip ?_
      obtain rfl := Option.some.inj hm
      exact WQ.post' ⟨rfl, hb52, hL53, hS54⟩ ⟨rfl, rfl, rfl, rfl, rfl, trivial⟩
    have hm := iteT hm hc55
    refine WP.region ?_
    refine WL.runk 1 [0, 1, 2, 3, 10] [(0, .slice a0' list_0.length c0'), (1, .slice a1' faults_1.length c1'), (2, .int .i64 value_2), (3, .int .i64 percent_3), (10, .int .i64 2)] (by kernel_rfl) ?_
    refine WL.nil ?_
    obtain rfl := Option.some.inj hm
    exact WQ.post' ⟨rfl, hb52, hL53, hS54⟩ ⟨rfl, rfl, rfl, rfl, rfl, trivial⟩
  clear hx57
  rintro _ w58 ⟨rfl, hb59, hL60, hS61⟩
  refine WQ.then_normal (hK11 _ _ _ ?_)
  refine WP.seq (fun K62 hK62 => ?_)
  refine WP.seq (fun K63 hK63 => ?_)
  refine WP.region ?_
  refine WL.runk 2 [0, 1, 2, 3, 10, 28] [(0, .slice a0' list_0.length c0'), (1, .slice a1' faults_1.length c1'), (2, .int .i64 value_2), (3, .int .i64 percent_3), (10, .int .i64 x56), (28, .bool (x56 != 0))] (by kernel_rfl) ?_
  refine WL.nil ?_
  refine WQ.then_normal (hK63 _ _ _ ?_)
  refine WP.cond (x56 != 0) rfl rfl (fun hc64 => ?_) (fun hc64 => ?_)
  · have hm := iteT hm hc64
    refine WP.seq (fun K65 hK65 => ?_)
    refine WP.region ?_
    refine WL.runk 3 [8, 9] [(8, .bool false), (9, .int .i64 x56)] (by kernel_rfl) ?_
    refine WL.nil ?_
    refine WQ.then_normal (hK65 _ _ _ ?_)
    refine WP.ret ?_
    refine WQ.then_ret ?_
    obtain rfl := Option.some.inj hm
    exact WQ.ret2 _ _ rfl rfl rfl ⟨rfl, hb59⟩
  have hm := iteF hm hc64
  refine WP.skip ?_
  refine WQ.then_normal (hK62 _ _ _ ?_)
  refine WP.seq (fun K66 hK66 => ?_)
  refine WP.region ?_
  refine WL.runk 2 [0, 2, 3, 31, 32] [(0, .slice a0' list_0.length c0'), (2, .int .i64 value_2), (3, .int .i64 percent_3), (31, .slice a0' list_0.length c0'), (32, .slice a1' faults_1.length c1')] (by kernel_rfl) ?_
  obtain ⟨x67, hx68, hm⟩ := bindE hm
  refine WL.call 19 #[.slice a0' list_0.length c0', .slice a1' faults_1.length c1'] rfl rfl (by kernel_rfl) (c_19 n list_0 a0' c0' faults_1 a1' c1' w58 hx68 (Rd.below h0 hb59) hle0 (Rd.below h1 hb59) hle1) ?_
  rintro _ w72 ⟨a69, c70, rfl, hE73, hR74⟩
  refine ⟨_, rfl, ?_⟩
  have hb75 : Ext w w72 := Ext.trans hb59 hE73
  have hL76 : w.heap.size ≤ w72.heap.size := Nat.le_trans hL60 hE73.size
  have hS77 : SH w72 w.heap.size [aOwn fInt 2 a69 c70 x67.1] := SH.add hS61 hE73 hL60 hR74
  refine WL.runk 5 [0, 2, 3, 10, 11] [(0, .slice a0' list_0.length c0'), (2, .int .i64 value_2), (3, .int .i64 percent_3), (11, .slice a69 x67.1.length c70), (10, .int .i64 x67.2)] (by kernel_rfl) ?_
  refine WL.nil ?_
  refine WQ.then_normal (hK66 _ _ _ ?_)
  refine WP.seq (fun K78 hK78 => ?_)
  refine WP.seq (fun K79 hK79 => ?_)
  refine WP.region ?_
  refine WL.runk 2 [0, 2, 3, 10, 11, 37] [(0, .slice a0' list_0.length c0'), (2, .int .i64 value_2), (3, .int .i64 percent_3), (11, .slice a69 x67.1.length c70), (10, .int .i64 x67.2), (37, .bool (x67.2 != 0))] (by kernel_rfl) ?_
  refine WL.nil ?_
  refine WQ.then_normal (hK79 _ _ _ ?_)
  refine WP.cond (x67.2 != 0) rfl rfl (fun hc80 => ?_) (fun hc80 => ?_)
  · have hm := iteT hm hc80
    refine WP.seq (fun K81 hK81 => ?_)
    refine WP.region ?_
    refine WL.runk 3 [8, 9] [(8, .bool false), (9, .int .i64 x67.2)] (by kernel_rfl) ?_
    refine WL.nil ?_
    refine WQ.then_normal (hK81 _ _ _ ?_)
    refine WP.ret ?_
    refine WQ.then_ret ?_
    obtain rfl := Option.some.inj hm
    exact WQ.ret2 _ _ rfl rfl rfl ⟨rfl, hb75⟩
  have hm := iteF hm hc80
  refine WP.skip ?_
  refine WQ.then_normal (hK78 _ _ _ ?_)
  refine WP.seq (fun K82 hK82 => ?_)
  refine WP.region ?_
  refine WL.runk 2 [2, 3, 39, 40] [(2, .int .i64 value_2), (3, .int .i64 percent_3), (39, .slice a0' list_0.length c0'), (40, .slice a69 x67.1.length c70)] (by kernel_rfl) ?_
  obtain ⟨x83, hx84, hm⟩ := bindE hm
  refine WL.call 55 #[.slice a0' list_0.length c0', .slice a69 x67.1.length c70] rfl rfl (by kernel_rfl) (c_55 n list_0 a0' c0' x67.1 a69 c70 w72 hx84 (Rd.below h0 hb75) hle0 (SH.rd (SH.front 0 hS77)) (SH.le (SH.front 0 hS77)).1) ?_
  rintro _ w85 ⟨rfl, hE86⟩
  refine ⟨_, rfl, ?_⟩
  have hb88 : Ext w w85 := Ext.trans hb75 hE86
  have hL89 : w.heap.size ≤ w85.heap.size := Nat.le_trans hL76 hE86.size
  have hS90 : SH w85 w.heap.size [aOwn fInt 2 a69 c70 x67.1] := SH.ext hS77 hE86
  refine WL.runk 7 [8, 9] [(8, .bool (decide ((wI64 (100 * x83)) ≤ (wI64 (value_2 * percent_3))))), (9, .int .i64 0)] (by kernel_rfl) ?_
  refine WL.nil ?_
  refine WQ.then_normal (hK82 _ _ _ ?_)
  refine WP.ret ?_
  obtain rfl := Option.some.inj hm
  exact WQ.ret2 _ _ rfl rfl rfl ⟨rfl, hb88⟩

theorem c_25 (n : Nat) (list_0 : List SRepair) (a0' : Option Addr) (c0' : Nat) (faults_1 : List Int) (a1' : Option Addr) (c1' : Nat) (value_2 : Int) (percent_3 : Int) (w : World) {r : Bool × Int} (hm : m_spec_IsWorthwhile n list_0 faults_1 value_2 percent_3 = some r) (h0 : Rd fRepair.ty w a0' list_0) (hle0 : list_0.length ≤ c0') (h1 : Rd fInt.ty w a1' faults_1) (hle1 : faults_1.length ≤ c1') :
    CallV Try.prog 25 #[.slice a0' list_0.length c0', .slice a1' faults_1.length c1', .int .i64 value_2, .int .i64 percent_3] w (fun v w' => v = .tuple #[.bool r.1, .int .i64 r.2] ∧ Ext w w') := by
  unfold m_spec_IsWorthwhile at hm
  refine CallV.enter Try.func25 rfl (by kernel_rfl) Try.ntmps25 (env := [(0, .slice a0' list_0.length c0'), (1, .slice a1' faults_1.length c1'), (2, .int .i64 value_2), (3, .int .i64 percent_3)]) ⟨rfl, rfl, rfl, rfl, trivial⟩ ?_
  refine WP.seq (fun K1 hK1 => ?_)
  refine WP.region ?_
  refine WL.runk 2 [0, 1, 2, 3] [(0, .slice a0' list_0.length c0'), (1, .slice a1' faults_1.length c1'), (2, .int .i64 value_2), (3, .int .i64 percent_3)] (by kernel_rfl) ?_
  refine WL.nil ?_
  refine WQ.then_normal (hK1 _ _ _ ?_)
  refine WP.seq (fun K2 hK2 => ?_)
  refine WP.region ?_
  refine WL.runk 1 [0, 1, 2, 3, 13] [(0, .slice a0' list_0.length c0'), (1, .slice a1' faults_1.length c1'), (2, .int .i64 value_2), (3, .int .i64 percent_3), (13, .slice a0' list_0.length c0')] (by kernel_rfl) ?_
  refine WL.row fInt 2 ([] : List Int) 0 #[] 14 (by kernel_rfl) rfl rfl rfl rfl rfl rfl rfl ?_
  intro a3 c4 w5 hE6 hR7
  have hb9 : Ext w w5 := Ext.trans (Ext.refl w) hE6
  have hL10 : w.heap.size ≤ w5.heap.size := Nat.le_trans (Nat.le_refl _) hE6.size
  have hS11 : SH w5 w.heap.size [aOwn fInt 2 a3 c4 ([] : List Int)] := SH.add (SH.nil _ _) hE6 (Nat.le_refl _) hR7
  refine WL.runk 1 [0, 1, 2, 3, 13, 14, 15] [(0, .slice a0' list_0.length c0'), (1, .slice a1' faults_1.length c1'), (2, .int .i64 value_2), (3, .int .i64 percent_3), (13, .slice a0' list_0.length c0'), (14, .slice a3 (([] : List Int).length) c4), (15, .slice a1' faults_1.length c1')] (by kernel_rfl) ?_
  obtain ⟨x12, hx13, hm⟩ := bindE hm
  refine WL.call 52 #[.slice a0' list_0.length c0', .slice a3 (([] : List Int).length) c4, .slice a1' faults_1.length c1'] rfl rfl (by kernel_rfl) (c_52 n list_0 a0' c0' ([] : List Int) a3 c4 faults_1 a1' c1' w5 hx13 (Rd.below h0 hb9) hle0 (SH.rd (SH.front 0 hS11)) (SH.le (SH.front 0 hS11)).1 (Rd.below h1 hb9) hle1) ?_
  rintro _ w14 ⟨rfl, hE15⟩
  refine ⟨_, rfl, ?_⟩
  have hb17 : Ext w w14 := Ext.trans hb9 hE15
  have hL18 : w.heap.size ≤ w14.heap.size := Nat.le_trans hL10 hE15.size
  have hS19 : SH w14 w.heap.size [aOwn fInt 2 a3 c4 ([] : List Int)] := SH.ext hS11 hE15
  refine WL.runk 1 [0, 1, 2, 3, 10] [(0, .slice a0' list_0.length c0'), (1, .slice a1' faults_1.length c1'), (2, .int .i64 value_2), (3, .int .i64 percent_3), (10, .int .i64 x12)] (by kernel_rfl) ?_
  refine WL.nil ?_
  refine WQ.then_normal (hK2 _ _ _ ?_)
  refine WP.seq (fun K20 hK20 => ?_)
  refine WP.seq (fun K21 hK21 => ?_)
  obtain ⟨x40, hx41, hm⟩ := bindE hm
  refine WP.cut (fun env' w' => env' = [(0, .slice a0' list_0.length c0'), (1, .slice a1' faults_1.length c1'), (2, .int .i64 value_2), (3, .int .i64 percent_3), (10, .int .i64 x12), (28, .bool x40)] ∧ Ext w w' ∧ w.heap.size ≤ w'.heap.size ∧ SH w' w.heap.size []) ?_ ?_
  · have hm := hx41; clear hx41
    refine WP.region ?_
    refine WL.runk 3 [0, 1, 2, 3, 10, 19] [(0, .slice a0' list_0.length c0'), (1, .slice a1' faults_1.length c1'), (2, .int .i64 value_2), (3, .int .i64 percent_3), (10, .int .i64 x12), (19, .bool (x12 == 0))] (by kernel_rfl) ?_
    refine WL.case (x12 == 0) [19] ⟨rfl, trivial⟩ (fun hc42 => ?_) (fun hc42 => ?_)
    rotate_left
    · have hm := iteF hm hc42
      refine WL.runk 9 [0, 1, 2, 3, 10, 28] [(0, .slice a0' list_0.length c0'), (1, .slice a1' faults_1.length c1'), (2, .int .i64 value_2), (3, .int .i64 percent_3), (10, .int .i64 x12), (28, .bool false)] (by kernel_rfl) ?_
      refine WL.nil ?_
      obtain rfl := Option.some.inj hm
      exact WQ.post' ⟨rfl, hb17, hL18, (SH.take 0 hS19)⟩ ⟨rfl, rfl, rfl, rfl, rfl, rfl, trivial⟩
    have hm := iteT hm hc42
    refine WL.runk 1 [0, 1, 2, 3, 10, 19, 20] [(0, .slice a0' list_0.length c0'), (1, .slice a1' faults_1.length c1'), (2, .int .i64 value_2), (3, .int .i64 percent_3), (10, .int .i64 x12), (19, .bool true), (20, .int .i64 value_2)] (by kernel_rfl) ?_
    obtain ⟨x43, hx44, hm⟩ := bindE hm
    refine WL.call 65 #[.int .i64 value_2, .int .i64 0, .int .i64 100000] rfl rfl (by kernel_rfl) (c_65 n value_2 0 100000 w14 hx44 ) ?_
    rintro _ w45 ⟨rfl, hE46⟩
    refine ⟨_, rfl, ?_⟩
    have hb48 : Ext w w45 := Ext.trans hb17 hE46
    have hL49 : w.heap.size ≤ w45.heap.size := Nat.le_trans hL18 hE46.size
    have hS50 : SH w45 w.heap.size [aOwn fInt 2 a3 c4 ([] : List Int)] := SH.ext hS19 hE46
    refine WL.runk 2 [0, 1, 2, 3, 10, 19, 23] [(0, .slice a0' list_0.length c0'), (1, .slice a1' faults_1.length c1'), (2, .int .i64 value_2), (3, .int .i64 percent_3), (10, .int .i64 x12), (19, .bool true), (23, .bool (!x43))] (by kernel_rfl) ?_
    refine WL.case (!x43) [23] ⟨rfl, trivial⟩ (fun hc51 => ?_) (fun hc51 => ?_)
    · have hm := iteT hm hc51
      refine WL.runk 5 [0, 1, 2, 3, 10, 28] [(0, .slice a0' list_0.length c0'), (1, .slice a1' faults_1.length c1'), (2, .int .i64 value_2), (3, .int .i64 percent_3), (10, .int .i64 x12), (28, .bool true)] (by kernel_rfl) ?_
      refine WL.nil ?_
      obtain rfl := Option.some.inj hm
      exact WQ.post' ⟨rfl, hb48, hL49, (SH.take 0 hS50)⟩ ⟨rfl, rfl, rfl, rfl, rfl, rfl, trivial⟩
    have hm := iteF hm hc51
    refine WL.runk 1 [0, 1, 2, 3, 10, 19, 23, 24] [(0, .slice a0' list_0.length c0'), (1, .slice a1' faults_1.length c1'), (2, .int .i64 value_2), (3, .int .i64 percent_3), (10, .int .i64 x12), (19, .bool true), (23, .bool false), (24, .int .i64 percent_3)] (by kernel_rfl) ?_
    obtain ⟨x52, hx53, hm⟩ := bindE hm
    refine WL.call 65 #[.int .i64 percent_3, .int .i64 0, .int .i64 100] rfl rfl (by kernel_rfl) (c_65 n percent_3 0 100 w45 hx53 ) ?_
    rintro _ w54 ⟨rfl, hE55⟩
    refine ⟨_, rfl, ?_⟩
    have hb57 : Ext w w54 := Ext.trans hb48 hE55
    have hL58 : w.heap.size ≤ w54.heap.size := Nat.le_trans hL49 hE55.size
    have hS59 : SH w54 w.heap.size [aOwn fInt 2 a3 c4 ([] : List Int)] := SH.ext hS50 hE55
    refine WL.runk 3 [0, 1, 2, 3, 10, 28] [(0, .slice a0' list_0.length c0'), (1, .slice a1' faults_1.length c1'), (2, .int .i64 value_2), (3, .int .i64 percent_3), (10, .int .i64 x12), (28, .bool (!x52))] (by kernel_rfl) ?_
    refine WL.nil ?_
    obtain rfl := Option.some.inj hm
    exact WQ.post' ⟨rfl, hb57, hL58, (SH.take 0 hS59)⟩ ⟨rfl, rfl, rfl, rfl, rfl, rfl, trivial⟩
  clear hx41
  rintro _ w60 ⟨rfl, hb61, hL62, hS63⟩
  refine WQ.then_normal (hK21 _ _ _ ?_)
  obtain ⟨x65, hx66, hm⟩ := bindE hm
  refine WP.cut (fun env' w' => env' = [(0, .slice a0' list_0.length c0'), (1, .slice a1' faults_1.length c1'), (2, .int .i64 value_2), (3, .int .i64 percent_3), (10, .int .i64 x65)] ∧ Ext w w' ∧ w.heap.size ≤ w'.heap.size ∧ SH w' w.heap.size []) ?_ ?_
  · have hm := hx66; clear hx66
    refine WP.cond x40 rfl rfl (fun hc64 => ?_) (fun hc64 => ?_)
    rotate_left
    · have hm := iteF hm hc64
      refine WP.skip ?_
      obtain rfl := Option.some.inj hm
      exact WQ.post' ⟨rfl, hb61, hL62, hS63⟩ ⟨rfl, rfl, rfl, rfl, rfl, trivial⟩
    have hm := iteT hm hc64
    refine WP.region ?_
    refine WL.runk 1 [0, 1, 2, 3, 10] [(0, .slice a0' list_0.length c0'), (1, .slice a1' faults_1.length c1'), (2, .int .i64 value_2), (3, .int .i64 percent_3), (10, .int .i64 2)] (by kernel_rfl) ?_
    refine WL.nil ?_
    obtain rfl := Option.some.inj hm
    exact WQ.post' ⟨rfl, hb61, hL62, hS63⟩ ⟨rfl, rfl, rfl, rfl, rfl, trivial⟩
  clear hx66
  rintro _ w67 ⟨rfl, hb68, hL69, hS70⟩
  refine WQ.then_normal (hK20 _ _ _ ?_)
  refine WP.seq (fun K71 hK71 => ?_)
  refine WP.seq (fun K72 hK72 => ?_)
  refine WP.region ?_
  refine WL.runk 2 [0, 1, 2, 3, 10, 30] [(0, .slice a0' list_0.length c0'), (1, .slice a1' faults_1.length c1'), (2, .int .i64 value_2), (3, .int .i64 percent_3), (10, .int .i64 x65), (30, .bool (x65 != 0))] (by kernel_rfl) ?_
  refine WL.nil ?_
  refine WQ.then_normal (hK72 _ _ _ ?_)
  refine WP.cond (x65 != 0) rfl rfl (fun hc73 => ?_) (fun hc73 => ?_)
  · have hm := iteT hm hc73
    refine WP.seq (fun K74 hK74 => ?_)
    refine WP.region ?_
    refine WL.runk 3 [8, 9] [(8, .bool false), (9, .int .i64 x65)] (by kernel_rfl) ?_
    refine WL.nil ?_
    refine WQ.then_normal (hK74 _ _ _ ?_)
    refine WP.ret ?_
    refine WQ.then_ret ?_
    obtain rfl := Option.some.inj hm
    exact WQ.ret2 _ _ rfl rfl rfl ⟨rfl, hb68⟩
  have hm := iteF hm hc73
  refine WP.skip ?_
  refine WQ.then_normal (hK71 _ _ _ ?_)
  refine WP.seq (fun K75 hK75 => ?_)
  refine WP.region ?_
  refine WL.runk 2 [0, 2, 3, 33, 34] [(0, .slice a0' list_0.length c0'), (2, .int .i64 value_2), (3, .int .i64 percent_3), (33, .slice a0' list_0.length c0'), (34, .slice a1' faults_1.length c1')] (by kernel_rfl) ?_
  obtain ⟨x76, hx77, hm⟩ := bindE hm
  refine WL.call 57 #[.slice a0' list_0.length c0', .slice a1' faults_1.length c1'] rfl rfl (by kernel_rfl) (c_57 n list_0 a0' c0' faults_1 a1' c1' w67 hx77 (Rd.below h0 hb68) hle0 (Rd.below h1 hb68) hle1) ?_
  rintro _ w81 ⟨a78, c79, rfl, hE82, hR83⟩
  refine ⟨_, rfl, ?_⟩
  have hb84 : Ext w w81 := Ext.trans hb68 hE82
  have hL85 : w.heap.size ≤ w81.heap.size := Nat.le_trans hL69 hE82.size
  have hS86 : SH w81 w.heap.size [aOwn fInt 2 a78 c79 x76.1] := SH.add hS70 hE82 hL69 hR83
  refine WL.runk 5 [0, 2, 3, 11, 12] [(0, .slice a0' list_0.length c0'), (2, .int .i64 value_2), (3, .int .i64 percent_3), (11, .slice a78 x76.1.length c79), (12, .bool x76.2)] (by kernel_rfl) ?_
  refine WL.nil ?_
  refine WQ.then_normal (hK75 _ _ _ ?_)
  refine WP.seq (fun K87 hK87 => ?_)
  refine WP.seq (fun K88 hK88 => ?_)
  refine WP.region ?_
  refine WL.runk 2 [0, 2, 3, 11, 39] [(0, .slice a0' list_0.length c0'), (2, .int .i64 value_2), (3, .int .i64 percent_3), (11, .slice a78 x76.1.length c79), (39, .bool (!x76.2))] (by kernel_rfl) ?_
  refine WL.nil ?_
  refine WQ.then_normal (hK88 _ _ _ ?_)
  refine WP.cond (!x76.2) rfl rfl (fun hc89 => ?_) (fun hc89 => ?_)
  · have hm := iteT hm hc89
    refine WP.seq (fun K90 hK90 => ?_)
    refine WP.region ?_
    refine WL.runk 2 [8, 9] [(8, .bool false), (9, .int .i64 3)] (by kernel_rfl) ?_
    refine WL.nil ?_
    refine WQ.then_normal (hK90 _ _ _ ?_)
    refine WP.ret ?_
    refine WQ.then_ret ?_
    obtain rfl := Option.some.inj hm
    exact WQ.ret2 _ _ rfl rfl rfl ⟨rfl, hb84⟩
  have hm := iteF hm hc89
  refine WP.skip ?_
  refine WQ.then_normal (hK87 _ _ _ ?_)
  refine WP.seq (fun K91 hK91 => ?_)
  refine WP.region ?_
  refine WL.runk 2 [2, 3, 40, 41] [(2, .int .i64 value_2), (3, .int .i64 percent_3), (40, .slice a0' list_0.length c0'), (41, .slice a78 x76.1.length c79)] (by kernel_rfl) ?_
  obtain ⟨x92, hx93, hm⟩ := bindE hm
  refine WL.call 66 #[.slice a0' list_0.length c0', .slice a78 x76.1.length c79] rfl rfl (by kernel_rfl) (c_66 n list_0 a0' c0' x76.1 a78 c79 w81 hx93 (Rd.below h0 hb84) hle0 (SH.rd (SH.front 0 hS86)) (SH.le (SH.front 0 hS86)).1) ?_
  rintro _ w94 ⟨rfl, hE95⟩
  refine ⟨_, rfl, ?_⟩
  have hb97 : Ext w w94 := Ext.trans hb84 hE95
  have hL98 : w.heap.size ≤ w94.heap.size := Nat.le_trans hL85 hE95.size
  have hS99 : SH w94 w.heap.size [aOwn fInt 2 a78 c79 x76.1] := SH.ext hS86 hE95
  refine WL.runk 7 [8, 9] [(8, .bool (decide ((wI64 (100 * x92)) ≤ (wI64 (value_2 * percent_3))))), (9, .int .i64 0)] (by kernel_rfl) ?_
  refine WL.nil ?_
  refine WQ.then_normal (hK91 _ _ _ ?_)
  refine WP.ret ?_
  obtain rfl := Option.some.inj hm
  exact WQ.ret2 _ _ rfl rfl rfl ⟨rfl, hb97⟩

theorem c_103 (n : Nat) (a_0 : List Int) (a0' : Option Addr) (c0' : Nat) (left_1 : Int) (w : World) {r : Int} (hm : m_laws_szInt64S n a_0 left_1 = some r) (_h0 : Rd fInt.ty w a0' a_0) (_hle0 : a_0.length ≤ c0') :
    CallV Try.prog 103 #[.slice a0' a_0.length c0', .int .i64 left_1] w (fun v w' => v = .int .i64 r ∧ Ext w w') := by
  unfold m_laws_szInt64S at hm
  refine CallV.enter Try.func103 rfl (by kernel_rfl) Try.ntmps103 (env := [(0, .slice a0' a_0.length c0'), (1, .int .i64 left_1)]) ⟨rfl, rfl, trivial⟩ ?_
  refine WP.seq (fun K1 hK1 => ?_)
  refine WP.region ?_
  refine WL.runk 1 [0, 1] [(0, .slice a0' a_0.length c0'), (1, .int .i64 left_1)] (by kernel_rfl) ?_
  refine WL.nil ?_
  refine WQ.then_normal (hK1 _ _ _ ?_)
  refine WP.seq (fun K2 hK2 => ?_)
  refine WP.region ?_
  refine WL.runk 5 [1] [(1, .int .i64 (wI64 (left_1 - (a_0.length : Int))))] (by kernel_rfl) ?_
  refine WL.nil ?_
  refine WQ.then_normal (hK2 _ _ _ ?_)
  refine WP.seq (fun K3 hK3 => ?_)
  refine WP.seq (fun K4 hK4 => ?_)
  refine WP.region ?_
  refine WL.runk 2 [1, 10] [(1, .int .i64 (wI64 (left_1 - (a_0.length : Int)))), (10, .bool (decide ((wI64 (left_1 - (a_0.length : Int))) < 0)))] (by kernel_rfl) ?_
  refine WL.nil ?_
  refine WQ.then_normal (hK4 _ _ _ ?_)
  refine WP.cond (decide ((wI64 (left_1 - (a_0.length : Int))) < 0)) rfl rfl (fun hc5 => ?_) (fun hc5 => ?_)
  · have hm := iteT hm hc5
    refine WP.seq (fun K6 hK6 => ?_)
    refine WP.region ?_
    refine WL.runk 1 [4] [(4, .int .i64 (-1))] (by kernel_rfl) ?_
    refine WL.nil ?_
    refine WQ.then_normal (hK6 _ _ _ ?_)
    refine WP.ret ?_
    refine WQ.then_ret ?_
    obtain rfl := Option.some.inj hm
    exact WQ.ret1 _ rfl rfl ⟨rfl, (Ext.refl w)⟩
  have hm := iteF hm hc5
  refine WP.skip ?_
  refine WQ.then_normal (hK3 _ _ _ ?_)
  refine WP.seq (fun K7 hK7 => ?_)
  refine WP.region ?_
  refine WL.runk 2 [4] [(4, .int .i64 (wI64 (left_1 - (a_0.length : Int))))] (by kernel_rfl) ?_
  refine WL.nil ?_
  refine WQ.then_normal (hK7 _ _ _ ?_)
  refine WP.ret ?_
  obtain rfl := Option.some.inj hm
  exact WQ.ret1 _ rfl rfl ⟨rfl, (Ext.refl w)⟩

theorem c_67 (n : Nat) (a_0 : SRepair) (a0_1' : Option Addr) (c0_1' : Nat) (a0_2' : Option Addr) (c0_2' : Nat) (left_1 : Int) (w : World) {r : Int} (hm : m_laws_szRepair n a_0 left_1 = some r) (hr0_1 : Rd fInt.ty w a0_1' a_0.Mends) (hle0_1 : a_0.Mends.length ≤ c0_1') (hr0_2 : Rd fInt.ty w a0_2' a_0.First) (hle0_2 : a_0.First.length ≤ c0_2') :
    CallV Try.prog 67 #[.agg #[.string (bs a_0.Name), .slice a0_1' a_0.Mends.length c0_1', .slice a0_2' a_0.First.length c0_2', .int .i64 a_0.Price, .int .i64 a_0.Hours], .int .i64 left_1] w (fun v w' => v = .int .i64 r ∧ Ext w w') := by
  unfold m_laws_szRepair at hm
  refine CallV.enter Try.func67 rfl (by kernel_rfl) Try.ntmps67 (env := [(0, .agg #[.string (bs a_0.Name), .slice a0_1' a_0.Mends.length c0_1', .slice a0_2' a_0.First.length c0_2', .int .i64 a_0.Price, .int .i64 a_0.Hours]), (1, .int .i64 left_1)]) ⟨rfl, rfl, trivial⟩ ?_
  refine WP.seq (fun K1 hK1 => ?_)
  refine WP.region ?_
  refine WL.box 72 [.string (bs a_0.Name), .slice a0_1' a_0.Mends.length c0_1', .slice a0_2' a_0.First.length c0_2', .int .i64 a_0.Price, .int .i64 a_0.Hours] 2 (by kernel_rfl) rfl rfl rfl rfl ?_
  intro b2 w3 hE4 hR5
  have hb7 : Ext w w3 := Ext.trans (Ext.refl w) hE4
  have hL8 : w.heap.size ≤ w3.heap.size := Nat.le_trans (Nat.le_refl _) hE4.size
  have hS9 : SH w3 w.heap.size [aBox 72 b2 [.string (bs a_0.Name), .slice a0_1' a_0.Mends.length c0_1', .slice a0_2' a_0.First.length c0_2', .int .i64 a_0.Price, .int .i64 a_0.Hours]] := SH.add (SH.nil _ _) hE4 (Nat.le_refl _) hR5
  refine WL.runk 1 [1, 2] [(1, .int .i64 left_1), (2, .pointer (some ⟨b2, 0, none⟩))] (by kernel_rfl) ?_
  refine WL.nil ?_
  refine WQ.then_normal (hK1 _ _ _ ?_)
  refine WP.seq (fun K10 hK10 => ?_)
  refine WP.region ?_
  refine WL.runk 2 [2, 5, 6] [(2, .pointer (some ⟨b2, 0, none⟩)), (5, .int .i64 left_1), (6, .pointer (some ⟨b2, 0, none⟩))] (by kernel_rfl) ?_
  refine WL.st (.string (bs a_0.Name)) (ST.load (cell_ext (SH.boxAt (SH.front 0 hS9) 0 _ rfl)) rfl rfl Try.underlying9 rfl) rfl rfl rfl ?_
  refine WL.runk 3 [1, 2] [(2, .pointer (some ⟨b2, 0, none⟩)), (1, .int .i64 (wI64 (left_1 - (a_0.Name.length : Int))))] (by kernel_rfl) ?_
  refine WL.nil ?_
  refine WQ.then_normal (hK10 _ _ _ ?_)
  refine WP.seq (fun K11 hK11 => ?_)
  refine WP.seq (fun K12 hK12 => ?_)
  refine WP.region ?_
  refine WL.runk 2 [1, 2, 11] [(2, .pointer (some ⟨b2, 0, none⟩)), (1, .int .i64 (wI64 (left_1 - (a_0.Name.length : Int)))), (11, .bool (decide ((wI64 (left_1 - (a_0.Name.length : Int))) < 0)))] (by kernel_rfl) ?_
  refine WL.nil ?_
  refine WQ.then_normal (hK12 _ _ _ ?_)
  refine WP.cond (decide ((wI64 (left_1 - (a_0.Name.length : Int))) < 0)) rfl rfl (fun hc13 => ?_) (fun hc13 => ?_)
  · have hm := iteT hm hc13
    refine WP.seq (fun K14 hK14 => ?_)
    refine WP.region ?_
    refine WL.runk 1 [4] [(4, .int .i64 (-1))] (by kernel_rfl) ?_
    refine WL.nil ?_
    refine WQ.then_normal (hK14 _ _ _ ?_)
    refine WP.ret ?_
    refine WQ.then_ret ?_
    obtain rfl := Option.some.inj hm
    exact WQ.ret1 _ rfl rfl ⟨rfl, hb7⟩
  have hm := iteF hm hc13
  refine WP.skip ?_
  refine WQ.then_normal (hK11 _ _ _ ?_)
  refine WP.seq (fun K15 hK15 => ?_)
  refine WP.region ?_
  refine WL.runk 1 [1, 2, 12] [(2, .pointer (some ⟨b2, 0, none⟩)), (1, .int .i64 (wI64 (left_1 - (a_0.Name.length : Int)))), (12, .pointer (some ⟨b2, 1, none⟩))] (by kernel_rfl) ?_
  refine WL.st (.slice a0_1' a_0.Mends.length c0_1') (ST.load (cell_ext (SH.boxAt (SH.front 0 hS9) 1 _ rfl)) rfl rfl Try.underlying25 rfl) rfl rfl rfl ?_
  refine WL.runk 1 [2, 13, 14] [(2, .pointer (some ⟨b2, 0, none⟩)), (13, .slice a0_1' a_0.Mends.length c0_1'), (14, .int .i64 (wI64 (left_1 - (a_0.Name.length : Int))))] (by kernel_rfl) ?_
  obtain ⟨x16, hx17, hm⟩ := bindE hm
  refine WL.call 103 #[.slice a0_1' a_0.Mends.length c0_1', .int .i64 (wI64 (left_1 - (a_0.Name.length : Int)))] rfl rfl (by kernel_rfl) (c_103 n a_0.Mends a0_1' c0_1' (wI64 (left_1 - (a_0.Name.length : Int))) w3 hx17 (Rd.below hr0_1 hb7) hle0_1) ?_
  rintro _ w18 ⟨rfl, hE19⟩
  refine ⟨_, rfl, ?_⟩
  have hb21 : Ext w w18 := Ext.trans hb7 hE19
  have hL22 : w.heap.size ≤ w18.heap.size := Nat.le_trans hL8 hE19.size
  have hS23 : SH w18 w.heap.size [aBox 72 b2 [.string (bs a_0.Name), .slice a0_1' a_0.Mends.length c0_1', .slice a0_2' a_0.First.length c0_2', .int .i64 a_0.Price, .int .i64 a_0.Hours]] := SH.ext hS9 hE19
  refine WL.runk 1 [1, 2] [(2, .pointer (some ⟨b2, 0, none⟩)), (1, .int .i64 x16)] (by kernel_rfl) ?_
  refine WL.nil ?_
  refine WQ.then_normal (hK15 _ _ _ ?_)
  refine WP.seq (fun K24 hK24 => ?_)
  refine WP.seq (fun K25 hK25 => ?_)
  refine WP.region ?_
  refine WL.runk 2 [1, 2, 17] [(2, .pointer (some ⟨b2, 0, none⟩)), (1, .int .i64 x16), (17, .bool (decide (x16 < 0)))] (by kernel_rfl) ?_
  refine WL.nil ?_
  refine WQ.then_normal (hK25 _ _ _ ?_)
  refine WP.cond (decide (x16 < 0)) rfl rfl (fun hc26 => ?_) (fun hc26 => ?_)
  · have hm := iteT hm hc26
    refine WP.seq (fun K27 hK27 => ?_)
    refine WP.region ?_
    refine WL.runk 1 [4] [(4, .int .i64 (-1))] (by kernel_rfl) ?_
    refine WL.nil ?_
    refine WQ.then_normal (hK27 _ _ _ ?_)
    refine WP.ret ?_
    refine WQ.then_ret ?_
    obtain rfl := Option.some.inj hm
    exact WQ.ret1 _ rfl rfl ⟨rfl, hb21⟩
  have hm := iteF hm hc26
  refine WP.skip ?_
  refine WQ.then_normal (hK24 _ _ _ ?_)
  refine WP.seq (fun K28 hK28 => ?_)
  refine WP.region ?_
  refine WL.runk 1 [1, 18] [(1, .int .i64 x16), (18, .pointer (some ⟨b2, 2, none⟩))] (by kernel_rfl) ?_
  refine WL.st (.slice a0_2' a_0.First.length c0_2') (ST.load (cell_ext (SH.boxAt (SH.front 0 hS23) 2 _ rfl)) rfl rfl Try.underlying25 rfl) rfl rfl rfl ?_
  refine WL.runk 1 [19, 20] [(19, .slice a0_2' a_0.First.length c0_2'), (20, .int .i64 x16)] (by kernel_rfl) ?_
  obtain ⟨x29, hx30, hm⟩ := bindE hm
  refine WL.call 103 #[.slice a0_2' a_0.First.length c0_2', .int .i64 x16] rfl rfl (by kernel_rfl) (c_103 n a_0.First a0_2' c0_2' x16 w18 hx30 (Rd.below hr0_2 hb21) hle0_2) ?_
  rintro _ w31 ⟨rfl, hE32⟩
  refine ⟨_, rfl, ?_⟩
  have hb34 : Ext w w31 := Ext.trans hb21 hE32
  have hL35 : w.heap.size ≤ w31.heap.size := Nat.le_trans hL22 hE32.size
  have hS36 : SH w31 w.heap.size [aBox 72 b2 [.string (bs a_0.Name), .slice a0_1' a_0.Mends.length c0_1', .slice a0_2' a_0.First.length c0_2', .int .i64 a_0.Price, .int .i64 a_0.Hours]] := SH.ext hS23 hE32
  refine WL.runk 1 [1] [(1, .int .i64 x29)] (by kernel_rfl) ?_
  refine WL.nil ?_
  refine WQ.then_normal (hK28 _ _ _ ?_)
  refine WP.seq (fun K37 hK37 => ?_)
  refine WP.seq (fun K38 hK38 => ?_)
  refine WP.region ?_
  refine WL.runk 2 [1, 23] [(1, .int .i64 x29), (23, .bool (decide (x29 < 0)))] (by kernel_rfl) ?_
  refine WL.nil ?_
  refine WQ.then_normal (hK38 _ _ _ ?_)
  refine WP.cond (decide (x29 < 0)) rfl rfl (fun hc39 => ?_) (fun hc39 => ?_)
  · have hm := iteT hm hc39
    refine WP.seq (fun K40 hK40 => ?_)
    refine WP.region ?_
    refine WL.runk 1 [4] [(4, .int .i64 (-1))] (by kernel_rfl) ?_
    refine WL.nil ?_
    refine WQ.then_normal (hK40 _ _ _ ?_)
    refine WP.ret ?_
    refine WQ.then_ret ?_
    obtain rfl := Option.some.inj hm
    exact WQ.ret1 _ rfl rfl ⟨rfl, hb34⟩
  have hm := iteF hm hc39
  refine WP.skip ?_
  refine WQ.then_normal (hK37 _ _ _ ?_)
  refine WP.seq (fun K41 hK41 => ?_)
  refine WP.region ?_
  refine WL.runk 2 [4] [(4, .int .i64 x29)] (by kernel_rfl) ?_
  refine WL.nil ?_
  refine WQ.then_normal (hK41 _ _ _ ?_)
  refine WP.ret ?_
  obtain rfl := Option.some.inj hm
  exact WQ.ret1 _ rfl rfl ⟨rfl, hb34⟩

theorem c_28 (n : Nat) (a_0 : List SRepair) (a0' : Option Addr) (c0' : Nat) (left_1 : Int) (w : World) {r : Int} (hm : m_laws_szRepairS n a_0 left_1 = some r) (h0 : Rd fRepair.ty w a0' a_0) (_hle0 : a_0.length ≤ c0') :
    CallV Try.prog 28 #[.slice a0' a_0.length c0', .int .i64 left_1] w (fun v w' => v = .int .i64 r ∧ Ext w w') := by
  unfold m_laws_szRepairS at hm
  refine CallV.enter Try.func28 rfl (by kernel_rfl) Try.ntmps28 (env := [(0, .slice a0' a_0.length c0'), (1, .int .i64 left_1)]) ⟨rfl, rfl, trivial⟩ ?_
  refine WP.seq (fun K1 hK1 => ?_)
  refine WP.region ?_
  refine WL.runk 1 [0, 1] [(0, .slice a0' a_0.length c0'), (1, .int .i64 left_1)] (by kernel_rfl) ?_
  refine WL.nil ?_
  refine WQ.then_normal (hK1 _ _ _ ?_)
  refine WP.seq (fun K2 hK2 => ?_)
  refine WP.region ?_
  refine WL.runk 5 [0, 1] [(0, .slice a0' a_0.length c0'), (1, .int .i64 (wI64 (left_1 - (a_0.length : Int))))] (by kernel_rfl) ?_
  refine WL.nil ?_
  refine WQ.then_normal (hK2 _ _ _ ?_)
  refine WP.seq (fun K3 hK3 => ?_)
  refine WP.seq (fun K4 hK4 => ?_)
  refine WP.region ?_
  refine WL.runk 2 [0, 1, 11] [(0, .slice a0' a_0.length c0'), (1, .int .i64 (wI64 (left_1 - (a_0.length : Int)))), (11, .bool (decide ((wI64 (left_1 - (a_0.length : Int))) < 0)))] (by kernel_rfl) ?_
  refine WL.nil ?_
  refine WQ.then_normal (hK4 _ _ _ ?_)
  refine WP.cond (decide ((wI64 (left_1 - (a_0.length : Int))) < 0)) rfl rfl (fun hc5 => ?_) (fun hc5 => ?_)
  · have hm := iteT hm hc5
    refine WP.seq (fun K6 hK6 => ?_)
    refine WP.region ?_
    refine WL.runk 1 [4] [(4, .int .i64 (-1))] (by kernel_rfl) ?_
    refine WL.nil ?_
    refine WQ.then_normal (hK6 _ _ _ ?_)
    refine WP.ret ?_
    refine WQ.then_ret ?_
    obtain rfl := Option.some.inj hm
    exact WQ.ret1 _ rfl rfl ⟨rfl, (Ext.refl w)⟩
  have hm := iteF hm hc5
  refine WP.skip ?_
  refine WQ.then_normal (hK3 _ _ _ ?_)
  refine WP.seq (fun K7 hK7 => ?_)
  refine WP.seq (fun K8 hK8 => ?_)
  refine WP.region ?_
  refine WL.runk 1 [0, 1, 5] [(0, .slice a0' a_0.length c0'), (1, .int .i64 (wI64 (left_1 - (a_0.length : Int)))), (5, .int .i64 0)] (by kernel_rfl) ?_
  refine WL.nil ?_
  refine WQ.then_normal (hK8 _ _ _ ?_)
  refine WP.block ?_
  obtain ⟨t20, ht21, hm⟩ := bindE hm
  have hmo15 := hm; clear hm
  refine WP.sub [(0, .slice a0' a_0.length c0'), (1, .int .i64 (wI64 (left_1 - (a_0.length : Int)))), (5, .int .i64 0)] ⟨rfl, rfl, rfl, trivial⟩ ?_
  refine WP.loop (fun n' env' w' => ∃ (st9 : Int × Int) , env' = [(0, .slice a0' a_0.length c0'), (1, .int .i64 st9.1), (5, .int .i64 st9.2)] ∧ Ext w w' ∧ w.heap.size ≤ w'.heap.size ∧ SH w' w.heap.size [] ∧ loopN (m_laws_szRepairS_l1 n a_0) n' st9 = some t20) n ⟨((wI64 (left_1 - (a_0.length : Int))), 0), rfl, (Ext.refl w), (Nat.le_refl _), (SH.nil _ _), ht21⟩ ?_
  rintro n17 _ w10 ⟨st9, rfl, hb11, hL12, hS13, hl14⟩ K16 hK16
  obtain ⟨n18, s19, rfl, hm, hl14⟩ := loopN_some hl14
  unfold m_laws_szRepairS_l1 at hm
  refine WP.seq (fun K22 hK22 => ?_)
  refine WP.seq (fun K23 hK23 => ?_)
  refine WP.region ?_
  refine WL.runk 4 [0, 1, 5, 15] [(0, .slice a0' a_0.length c0'), (1, .int .i64 st9.1), (5, .int .i64 st9.2), (15, .bool (decide (st9.2 < (a_0.length : Int))))] (by kernel_rfl) ?_
  refine WL.nil ?_
  refine WQ.then_normal (hK23 _ _ _ ?_)
  refine WP.cond (decide (st9.2 < (a_0.length : Int))) rfl rfl (fun hc24 => ?_) (fun hc24 => ?_)
  rotate_left
  · have hm := iteF hm hc24
    refine WP.exit ?_
    refine WQ.then_exit ?_
    refine WQ.then_exit ?_
    refine WQ.block_here ?_
    obtain rfl := Option.some.inj hm
    obtain rfl := afterN_done hl14
    have hm := hmo15
    refine WQ.then_normal (hK7 _ _ _ ?_)
    refine WP.seq (fun K51 hK51 => ?_)
    refine WP.region ?_
    refine WL.runk 2 [4] [(4, .int .i64 st9.1)] (by kernel_rfl) ?_
    refine WL.nil ?_
    refine WQ.then_normal (hK51 _ _ _ ?_)
    refine WP.ret ?_
    obtain rfl := Option.some.inj hm
    exact WQ.ret1 _ rfl rfl ⟨rfl, hb11⟩
  have hm := iteT hm hc24
  refine WP.skip ?_
  refine WQ.then_normal (hK22 _ _ _ ?_)
  refine WP.seq (fun K25 hK25 => ?_)
  refine WP.block ?_
  refine WP.seq (fun K26 hK26 => ?_)
  refine WP.region ?_
  refine WL.runk 2 [0, 1, 5, 18, 19] [(0, .slice a0' a_0.length c0'), (1, .int .i64 st9.1), (5, .int .i64 st9.2), (18, .slice a0' a_0.length c0'), (19, .int .i64 st9.2)] (by kernel_rfl) ?_
  obtain ⟨x27, hx28, hm⟩ := bindE hm
  obtain ⟨a29, c30, a34, c35, hc39, hR31, hle32, hR36, hle37⟩ := nest_Repair h0 hx28
  refine WL.st (.pointer (some (at_ a0' (Int.toNat st9.2 * 5)))) (ST.index (T := fRepair.ty) (xs := a_0) (Rd.below h0 hb11) hx28 rfl rfl rfl Try.underlying39 (info72).1 (info72).2.1) rfl rfl rfl ?_
  refine WL.st (.agg #[.string (bs x27.Name), .slice a29 x27.Mends.length c30, .slice a34 x27.First.length c35, .int .i64 x27.Price, .int .i64 x27.Hours]) (ST.loadAgg (vs := [.string (bs x27.Name), .slice a29 x27.Mends.length c30, .slice a34 x27.First.length c35, .int .i64 x27.Price, .int .i64 x27.Hours]) (at_agg (cells_ext hc39 hb11)) rfl rfl rfl Try.underlying72 rfl (info72).1 (info72).2.1) rfl rfl rfl ?_
  refine WL.runk 1 [0, 5, 21, 22] [(0, .slice a0' a_0.length c0'), (5, .int .i64 st9.2), (21, .agg #[.string (bs x27.Name), .slice a29 x27.Mends.length c30, .slice a34 x27.First.length c35, .int .i64 x27.Price, .int .i64 x27.Hours]), (22, .int .i64 st9.1)] (by kernel_rfl) ?_
  obtain ⟨x40, hx41, hm⟩ := bindE hm
  refine WL.call 67 #[.agg #[.string (bs x27.Name), .slice a29 x27.Mends.length c30, .slice a34 x27.First.length c35, .int .i64 x27.Price, .int .i64 x27.Hours], .int .i64 st9.1] rfl rfl (by kernel_rfl) (c_67 n x27 a29 c30 a34 c35 st9.1 w10 hx41 (Rd.below hR31 hb11) hle32 (Rd.below hR36 hb11) hle37) ?_
  rintro _ w42 ⟨rfl, hE43⟩
  refine ⟨_, rfl, ?_⟩
  have hb45 : Ext w w42 := Ext.trans hb11 hE43
  have hL46 : w.heap.size ≤ w42.heap.size := Nat.le_trans hL12 hE43.size
  have hS47 : SH w42 w.heap.size [] := SH.ext hS13 hE43
  refine WL.runk 1 [0, 1, 5] [(0, .slice a0' a_0.length c0'), (5, .int .i64 st9.2), (1, .int .i64 x40)] (by kernel_rfl) ?_
  refine WL.nil ?_
  refine WQ.then_normal (hK26 _ _ _ ?_)
  refine WP.seq (fun K48 hK48 => ?_)
  refine WP.region ?_
  refine WL.runk 2 [0, 1, 5, 25] [(0, .slice a0' a_0.length c0'), (5, .int .i64 st9.2), (1, .int .i64 x40), (25, .bool (decide (x40 < 0)))] (by kernel_rfl) ?_
  refine WL.nil ?_
  refine WQ.then_normal (hK48 _ _ _ ?_)
  refine WP.cond (decide (x40 < 0)) rfl rfl (fun hc49 => ?_) (fun hc49 => ?_)
  rotate_left
  · have hm := iteF hm hc49
    refine WP.skip ?_
    refine WQ.block_normal ?_
    refine WQ.then_normal (hK25 _ _ _ ?_)
    refine WP.region ?_
    refine WL.runk 3 [0, 1, 5] [(0, .slice a0' a_0.length c0'), (5, .int .i64 (wI64 (st9.2 + 1))), (1, .int .i64 x40)] (by kernel_rfl) ?_
    refine WL.nil ?_
    obtain rfl := Option.some.inj hm
    exact WQ.round hK16 ⟨(x40, (wI64 (st9.2 + 1))), rfl, hb45, hL46, hS47, hl14⟩ (Nat.lt_succ_self _) ⟨rfl, rfl, rfl, trivial⟩
  have hm := iteT hm hc49
  refine WP.seq (fun K50 hK50 => ?_)
  refine WP.region ?_
  refine WL.runk 1 [4] [(4, .int .i64 (-1))] (by kernel_rfl) ?_
  refine WL.nil ?_
  refine WQ.then_normal (hK50 _ _ _ ?_)
  refine WP.ret ?_
  refine WQ.block_ret ?_
  refine WQ.then_ret ?_
  refine WQ.then_ret ?_
  refine WQ.block_ret ?_
  refine WQ.then_ret ?_
  obtain rfl := Option.some.inj hm
  obtain rfl := afterN_done hl14
  have hm := hmo15
  obtain rfl := Option.some.inj hm
  exact WQ.ret1 _ rfl rfl ⟨rfl, hb45⟩

theorem c_36 (n : Nat) (a_0 : List Int) (a0' : Option Addr) (c0' : Nat) (w : World) {r : List Int} (hm : m_laws_toInt64S n a_0 = some r) (h0 : Rd fInt.ty w a0' a_0) (_hle0 : a_0.length ≤ c0') :
    CallV Try.prog 36 #[.slice a0' a_0.length c0'] w (fun v w' => ∃ (ra0 : Option Addr) (rc0 : Nat), v = .slice ra0 r.length rc0 ∧ Ext w w' ∧ SH w' w.heap.size [aOwn fInt 2 ra0 rc0 r]) := by
  unfold m_laws_toInt64S at hm
  refine CallV.enter Try.func36 rfl (by kernel_rfl) Try.ntmps36 (env := [(0, .slice a0' a_0.length c0')]) ⟨rfl, trivial⟩ ?_
  refine WP.seq (fun K1 hK1 => ?_)
  refine WP.region ?_
  refine WL.runk 1 [0] [(0, .slice a0' a_0.length c0')] (by kernel_rfl) ?_
  refine WL.nil ?_
  refine WQ.then_normal (hK1 _ _ _ ?_)
  refine WP.seq (fun K2 hK2 => ?_)
  refine WP.region ?_
  refine WL.runk 2 [0, 6] [(0, .slice a0' a_0.length c0'), (6, .int .i64 (a_0.length : Int))] (by kernel_rfl) ?_
  obtain ⟨x3, hx4, hm⟩ := bindE hm
  refine WL.make fInt 7 hx4 rfl rfl rfl Try.underlying25 (info2).1 (info2).2.2.1 (info2).2.1 (info2).2.2.2 rfl rfl rfl rfl rfl ?_
  intro a5 c6 w7 hE8 hR9
  have hb11 : Ext w w7 := Ext.trans (Ext.refl w) hE8
  have hL12 : w.heap.size ≤ w7.heap.size := Nat.le_trans (Nat.le_refl _) hE8.size
  have hS13 : SH w7 w.heap.size [aOwn fInt 2 a5 c6 x3] := SH.add (SH.nil _ _) hE8 (Nat.le_refl _) hR9
  refine WL.runk 1 [0, 3] [(0, .slice a0' a_0.length c0'), (3, .slice a5 x3.length c6)] (by kernel_rfl) ?_
  refine WL.nil ?_
  refine WQ.then_normal (hK2 _ _ _ ?_)
  refine WP.seq (fun K14 hK14 => ?_)
  refine WP.seq (fun K15 hK15 => ?_)
  refine WP.region ?_
  refine WL.runk 1 [0, 3, 4] [(0, .slice a0' a_0.length c0'), (3, .slice a5 x3.length c6), (4, .int .i64 0)] (by kernel_rfl) ?_
  refine WL.nil ?_
  refine WQ.then_normal (hK15 _ _ _ ?_)
  refine WP.block ?_
  obtain ⟨t54, ht55, hm⟩ := bindE hm
  have hmo49 := hm; clear hm
  refine WP.sub [(0, .slice a0' a_0.length c0'), (3, .slice a5 x3.length c6), (4, .int .i64 0)] ⟨rfl, rfl, rfl, trivial⟩ ?_
  refine WP.loop (fun n' env' w' => ∃ (st43 : Int × List Int) , env' = [(0, .slice a0' a_0.length c0'), (3, .slice a5 st43.2.length c6), (4, .int .i64 st43.1)] ∧ Ext w w' ∧ w.heap.size ≤ w'.heap.size ∧ SH w' w.heap.size [aOwn fInt 2 a5 c6 st43.2] ∧ loopN (m_laws_toInt64S_l1 n a_0) n' st43 = some t54) n ⟨(0, x3), rfl, hb11, hL12, hS13, ht55⟩ ?_
  rintro n51 _ w44 ⟨st43, rfl, hb45, hL46, hS47, hl48⟩ K50 hK50
  obtain ⟨n52, s53, rfl, hm, hl48⟩ := loopN_some hl48
  unfold m_laws_toInt64S_l1 at hm
  refine WP.seq (fun K56 hK56 => ?_)
  refine WP.seq (fun K57 hK57 => ?_)
  refine WP.region ?_
  refine WL.runk 4 [0, 3, 4, 11] [(0, .slice a0' a_0.length c0'), (3, .slice a5 st43.2.length c6), (4, .int .i64 st43.1), (11, .bool (decide (st43.1 < (a_0.length : Int))))] (by kernel_rfl) ?_
  refine WL.nil ?_
  refine WQ.then_normal (hK57 _ _ _ ?_)
  refine WP.cond (decide (st43.1 < (a_0.length : Int))) rfl rfl (fun hc58 => ?_) (fun hc58 => ?_)
  rotate_left
  · have hm := iteF hm hc58
    refine WP.exit ?_
    refine WQ.then_exit ?_
    refine WQ.then_exit ?_
    refine WQ.block_here ?_
    obtain rfl := Option.some.inj hm
    obtain rfl := afterN_done hl48
    have hm := hmo49
    refine WQ.then_normal (hK14 _ _ _ ?_)
    refine WP.seq (fun K69 hK69 => ?_)
    refine WP.region ?_
    refine WL.runk 2 [2] [(2, .slice a5 st43.2.length c6)] (by kernel_rfl) ?_
    refine WL.nil ?_
    refine WQ.then_normal (hK69 _ _ _ ?_)
    refine WP.ret ?_
    obtain rfl := Option.some.inj hm
    exact WQ.ret1 _ rfl rfl ⟨_, _, rfl, hb45, hS47⟩
  have hm := iteT hm hc58
  refine WP.skip ?_
  refine WQ.then_normal (hK56 _ _ _ ?_)
  refine WP.seq (fun K59 hK59 => ?_)
  refine WP.block ?_
  refine WP.region ?_
  refine WL.runk 4 [0, 3, 4, 14, 15, 16, 17] [(0, .slice a0' a_0.length c0'), (3, .slice a5 st43.2.length c6), (4, .int .i64 st43.1), (14, .slice a5 st43.2.length c6), (15, .int .i64 st43.1), (16, .slice a0' a_0.length c0'), (17, .int .i64 st43.1)] (by kernel_rfl) ?_
  obtain ⟨x60, hx61, hm⟩ := bindE hm
  refine WL.st (.pointer (some (at_ a0' (Int.toNat st43.1 * 1)))) (ST.index (T := fInt.ty) (xs := a_0) (Rd.below h0 hb45) hx61 rfl rfl rfl Try.underlying25 (info2).1 (info2).2.1) rfl rfl rfl ?_
  refine WL.st (.int .i64 x60) (ST.load (cell_ext (Rd.flat (F := fInt) (Rd.below h0 hb45) hx61 0 rfl)) rfl rfl Try.underlying2 rfl) rfl rfl rfl ?_
  obtain ⟨x62, hx63, hm⟩ := bindE hm
  refine WL.st (.pointer (some (at_ a5 (Int.toNat st43.1 * 1)))) (ST.index (T := fInt.ty) (xs := st43.2) (SH.rd (SH.front 0 hS47)) hx63 rfl rfl rfl Try.underlying25 (info2).1 (info2).2.1) rfl rfl rfl ?_
  refine WL.store (F := fInt) x60 0 [.int .i64 x60] (SH.front 0 hS47) hL46 hx63 rfl rfl rfl rfl rfl rfl rfl (info2).1 (info2).2.1 rfl rfl rfl ?_
  intro w64 hB65 hS66
  have hb67 : Ext w w64 := Below.trans hb45 hB65
  have hL68 : w.heap.size ≤ w64.heap.size := Nat.le_trans hL46 hB65.size
  refine WL.sub [(0, .slice a0' a_0.length c0'), (3, .slice a5 ((st43.2.set (Int.toNat st43.1) x60).length) c6), (4, .int .i64 st43.1), (14, .slice a5 ((st43.2.set (Int.toNat st43.1) x60).length) c6), (15, .int .i64 st43.1), (16, .slice a0' a_0.length c0'), (17, .int .i64 st43.1), (18, .pointer (some (at_ a0' (Int.toNat st43.1 * 1)))), (19, .int .i64 x60)] ⟨rfl, by first | (simp only [List.length_set]; done) | (simp only [List.length_set]; rfl), rfl, by first | (simp only [List.length_set]; done) | (simp only [List.length_set]; rfl), rfl, rfl, rfl, rfl, rfl, trivial⟩ ?_
  refine WL.sub [(0, .slice a0' a_0.length c0'), (3, .slice a5 ((st43.2.set (Int.toNat st43.1) x60).length) c6), (4, .int .i64 st43.1)] ⟨rfl, rfl, rfl, trivial⟩ ?_
  refine WL.nil ?_
  refine WQ.block_normal ?_
  refine WQ.then_normal (hK59 _ _ _ ?_)
  refine WP.region ?_
  refine WL.runk 3 [0, 3, 4] [(0, .slice a0' a_0.length c0'), (3, .slice a5 ((st43.2.set (Int.toNat st43.1) x60).length) c6), (4, .int .i64 (wI64 (st43.1 + 1)))] (by kernel_rfl) ?_
  refine WL.nil ?_
  obtain rfl := Option.some.inj hm
  exact WQ.round hK50 ⟨((wI64 (st43.1 + 1)), (st43.2.set (Int.toNat st43.1) x60)), rfl, hb67, hL68, hS66, hl48⟩ (Nat.lt_succ_self _) ⟨rfl, rfl, rfl, trivial⟩

theorem c_69 (n : Nat) (a_0 : SRepair) (a0_1' : Option Addr) (c0_1' : Nat) (a0_2' : Option Addr) (c0_2' : Nat) (w : World) {r : SRepair} (hm : m_laws_toRepair n a_0 = some r) (hr0_1 : Rd fInt.ty w a0_1' a_0.Mends) (hle0_1 : a_0.Mends.length ≤ c0_1') (hr0_2 : Rd fInt.ty w a0_2' a_0.First) (hle0_2 : a_0.First.length ≤ c0_2') :
    CallV Try.prog 69 #[.agg #[.string (bs a_0.Name), .slice a0_1' a_0.Mends.length c0_1', .slice a0_2' a_0.First.length c0_2', .int .i64 a_0.Price, .int .i64 a_0.Hours]] w (fun v w' => ∃ (ra0_1 : Option Addr) (rc0_1 : Nat) (ra0_2 : Option Addr) (rc0_2 : Nat), v = .agg #[.string (bs r.Name), .slice ra0_1 r.Mends.length rc0_1, .slice ra0_2 r.First.length rc0_2, .int .i64 r.Price, .int .i64 r.Hours] ∧ Ext w w' ∧ SH w' w.heap.size [aOwn fInt 2 ra0_1 rc0_1 r.Mends, aOwn fInt 2 ra0_2 rc0_2 r.First]) := by
  unfold m_laws_toRepair at hm
  refine CallV.enter Try.func69 rfl (by kernel_rfl) Try.ntmps69 (env := [(0, .agg #[.string (bs a_0.Name), .slice a0_1' a_0.Mends.length c0_1', .slice a0_2' a_0.First.length c0_2', .int .i64 a_0.Price, .int .i64 a_0.Hours])]) ⟨rfl, trivial⟩ ?_
  refine WP.seq (fun K1 hK1 => ?_)
  refine WP.region ?_
  refine WL.box 72 [.string (bs a_0.Name), .slice a0_1' a_0.Mends.length c0_1', .slice a0_2' a_0.First.length c0_2', .int .i64 a_0.Price, .int .i64 a_0.Hours] 1 (by kernel_rfl) rfl rfl rfl rfl ?_
  intro b2 w3 hE4 hR5
  have hb7 : Ext w w3 := Ext.trans (Ext.refl w) hE4
  have hL8 : w.heap.size ≤ w3.heap.size := Nat.le_trans (Nat.le_refl _) hE4.size
  have hS9 : SH w3 w.heap.size [aBox 72 b2 [.string (bs a_0.Name), .slice a0_1' a_0.Mends.length c0_1', .slice a0_2' a_0.First.length c0_2', .int .i64 a_0.Price, .int .i64 a_0.Hours]] := SH.add (SH.nil _ _) hE4 (Nat.le_refl _) hR5
  refine WL.box 73 [.string (bs []), .slice none 0 0, .slice none 0 0, .int .i64 0, .int .i64 0] 2 (by kernel_rfl) rfl rfl rfl rfl ?_
  intro b10 w11 hE12 hR13
  have hb15 : Ext w w11 := Ext.trans hb7 hE12
  have hL16 : w.heap.size ≤ w11.heap.size := Nat.le_trans hL8 hE12.size
  have hS17 : SH w11 w.heap.size [aBox 73 b10 [.string (bs []), .slice none 0 0, .slice none 0 0, .int .i64 0, .int .i64 0], aBox 72 b2 [.string (bs a_0.Name), .slice a0_1' a_0.Mends.length c0_1', .slice a0_2' a_0.First.length c0_2', .int .i64 a_0.Price, .int .i64 a_0.Hours]] := SH.add hS9 hE12 hL8 hR13
  refine WL.sub [(1, .pointer (some ⟨b2, 0, none⟩)), (2, .pointer (some ⟨b10, 0, none⟩))] ⟨rfl, rfl, trivial⟩ ?_
  refine WL.nil ?_
  refine WQ.then_normal (hK1 _ _ _ ?_)
  refine WP.seq (fun K18 hK18 => ?_)
  refine WP.region ?_
  refine WL.box 73 [.string (bs []), .slice none 0 0, .slice none 0 0, .int .i64 0, .int .i64 0] 3 (by kernel_rfl) rfl rfl rfl rfl ?_
  intro b19 w20 hE21 hR22
  have hb24 : Ext w w20 := Ext.trans hb15 hE21
  have hL25 : w.heap.size ≤ w20.heap.size := Nat.le_trans hL16 hE21.size
  have hS26 : SH w20 w.heap.size [aBox 73 b19 [.string (bs []), .slice none 0 0, .slice none 0 0, .int .i64 0, .int .i64 0], aBox 73 b10 [.string (bs []), .slice none 0 0, .slice none 0 0, .int .i64 0, .int .i64 0], aBox 72 b2 [.string (bs a_0.Name), .slice a0_1' a_0.Mends.length c0_1', .slice a0_2' a_0.First.length c0_2', .int .i64 a_0.Price, .int .i64 a_0.Hours]] := SH.add hS17 hE21 hL16 hR22
  refine WL.sub [(1, .pointer (some ⟨b2, 0, none⟩)), (2, .pointer (some ⟨b10, 0, none⟩)), (3, .pointer (some ⟨b19, 0, none⟩))] ⟨rfl, rfl, rfl, trivial⟩ ?_
  refine WL.nil ?_
  refine WQ.then_normal (hK18 _ _ _ ?_)
  refine WP.seq (fun K27 hK27 => ?_)
  refine WP.region ?_
  refine WL.runk 1 [1, 2, 3, 4] [(1, .pointer (some ⟨b2, 0, none⟩)), (2, .pointer (some ⟨b10, 0, none⟩)), (3, .pointer (some ⟨b19, 0, none⟩)), (4, .pointer (some ⟨b2, 0, none⟩))] (by kernel_rfl) ?_
  refine WL.st (.string (bs a_0.Name)) (ST.load (cell_ext (SH.boxAt (SH.front 2 hS26) 0 _ rfl)) rfl rfl Try.underlying9 rfl) rfl rfl rfl ?_
  refine WL.runk 1 [1, 2, 3, 5, 6] [(1, .pointer (some ⟨b2, 0, none⟩)), (2, .pointer (some ⟨b10, 0, none⟩)), (3, .pointer (some ⟨b19, 0, none⟩)), (5, .string (bs a_0.Name)), (6, .pointer (some ⟨b19, 0, none⟩))] (by kernel_rfl) ?_
  refine WL.boxStore 0 [.string (bs a_0.Name)] [.string (bs a_0.Name), .slice none 0 0, .slice none 0 0, .int .i64 0, .int .i64 0] (SH.front 0 hS26) hL25 rfl rfl rfl rfl rfl rfl rfl (info9).1 (info9).2.1 rfl rfl rfl ?_
  intro w28 hB29 hS30
  have hb31 : Ext w w28 := Below.trans hb24 hB29
  have hL32 : w.heap.size ≤ w28.heap.size := Nat.le_trans hL25 hB29.size
  refine WL.sub [(1, .pointer (some ⟨b2, 0, none⟩)), (2, .pointer (some ⟨b10, 0, none⟩)), (3, .pointer (some ⟨b19, 0, none⟩))] ⟨rfl, rfl, rfl, trivial⟩ ?_
  refine WL.nil ?_
  refine WQ.then_normal (hK27 _ _ _ ?_)
  refine WP.seq (fun K33 hK33 => ?_)
  refine WP.region ?_
  refine WL.runk 1 [1, 2, 3, 7] [(1, .pointer (some ⟨b2, 0, none⟩)), (2, .pointer (some ⟨b10, 0, none⟩)), (3, .pointer (some ⟨b19, 0, none⟩)), (7, .pointer (some ⟨b2, 1, none⟩))] (by kernel_rfl) ?_
  refine WL.st (.slice a0_1' a_0.Mends.length c0_1') (ST.load (cell_ext (SH.boxAt (SH.front 2 hS30) 1 _ rfl)) rfl rfl Try.underlying25 rfl) rfl rfl rfl ?_
  obtain ⟨x34, hx35, hm⟩ := bindE hm
  refine WL.call 36 #[.slice a0_1' a_0.Mends.length c0_1'] rfl rfl (by kernel_rfl) (c_36 n a_0.Mends a0_1' c0_1' w28 hx35 (Rd.below hr0_1 hb31) hle0_1) ?_
  rintro _ w39 ⟨a36, c37, rfl, hE40, hR41⟩
  refine ⟨_, rfl, ?_⟩
  have hb42 : Ext w w39 := Ext.trans hb31 hE40
  have hL43 : w.heap.size ≤ w39.heap.size := Nat.le_trans hL32 hE40.size
  have hS44 : SH w39 w.heap.size [aOwn fInt 2 a36 c37 x34, aBox 73 b19 [.string (bs a_0.Name), .slice none 0 0, .slice none 0 0, .int .i64 0, .int .i64 0], aBox 73 b10 [.string (bs []), .slice none 0 0, .slice none 0 0, .int .i64 0, .int .i64 0], aBox 72 b2 [.string (bs a_0.Name), .slice a0_1' a_0.Mends.length c0_1', .slice a0_2' a_0.First.length c0_2', .int .i64 a_0.Price, .int .i64 a_0.Hours]] := SH.add hS30 hE40 hL32 hR41
  refine WL.runk 1 [1, 2, 3, 9, 10] [(1, .pointer (some ⟨b2, 0, none⟩)), (2, .pointer (some ⟨b10, 0, none⟩)), (3, .pointer (some ⟨b19, 0, none⟩)), (9, .slice a36 x34.length c37), (10, .pointer (some ⟨b19, 1, none⟩))] (by kernel_rfl) ?_
  refine WL.boxStore 1 [.slice a36 x34.length c37] [.string (bs a_0.Name), .slice a36 x34.length c37, .slice none 0 0, .int .i64 0, .int .i64 0] (SH.front 1 hS44) hL43 rfl rfl rfl rfl rfl rfl rfl (info25).1 (info25).2.1 rfl rfl rfl ?_
  intro w45 hB46 hS47
  have hb48 : Ext w w45 := Below.trans hb42 hB46
  have hL49 : w.heap.size ≤ w45.heap.size := Nat.le_trans hL43 hB46.size
  refine WL.sub [(1, .pointer (some ⟨b2, 0, none⟩)), (2, .pointer (some ⟨b10, 0, none⟩)), (3, .pointer (some ⟨b19, 0, none⟩))] ⟨rfl, rfl, rfl, trivial⟩ ?_
  refine WL.nil ?_
  refine WQ.then_normal (hK33 _ _ _ ?_)
  refine WP.seq (fun K50 hK50 => ?_)
  refine WP.region ?_
  refine WL.runk 1 [1, 2, 3, 11] [(1, .pointer (some ⟨b2, 0, none⟩)), (2, .pointer (some ⟨b10, 0, none⟩)), (3, .pointer (some ⟨b19, 0, none⟩)), (11, .pointer (some ⟨b2, 2, none⟩))] (by kernel_rfl) ?_
  refine WL.st (.slice a0_2' a_0.First.length c0_2') (ST.load (cell_ext (SH.boxAt (SH.front 3 hS47) 2 _ rfl)) rfl rfl Try.underlying25 rfl) rfl rfl rfl ?_
  obtain ⟨x51, hx52, hm⟩ := bindE hm
  refine WL.call 36 #[.slice a0_2' a_0.First.length c0_2'] rfl rfl (by kernel_rfl) (c_36 n a_0.First a0_2' c0_2' w45 hx52 (Rd.below hr0_2 hb48) hle0_2) ?_
  rintro _ w56 ⟨a53, c54, rfl, hE57, hR58⟩
  refine ⟨_, rfl, ?_⟩
  have hb59 : Ext w w56 := Ext.trans hb48 hE57
  have hL60 : w.heap.size ≤ w56.heap.size := Nat.le_trans hL49 hE57.size
  have hS61 : SH w56 w.heap.size [aOwn fInt 2 a53 c54 x51, aBox 73 b19 [.string (bs a_0.Name), .slice a36 x34.length c37, .slice none 0 0, .int .i64 0, .int .i64 0], aOwn fInt 2 a36 c37 x34, aBox 73 b10 [.string (bs []), .slice none 0 0, .slice none 0 0, .int .i64 0, .int .i64 0], aBox 72 b2 [.string (bs a_0.Name), .slice a0_1' a_0.Mends.length c0_1', .slice a0_2' a_0.First.length c0_2', .int .i64 a_0.Price, .int .i64 a_0.Hours]] := SH.add hS47 hE57 hL49 hR58
  refine WL.runk 1 [1, 2, 3, 13, 14] [(1, .pointer (some ⟨b2, 0, none⟩)), (2, .pointer (some ⟨b10, 0, none⟩)), (3, .pointer (some ⟨b19, 0, none⟩)), (13, .slice a53 x51.length c54), (14, .pointer (some ⟨b19, 2, none⟩))] (by kernel_rfl) ?_
  refine WL.boxStore 2 [.slice a53 x51.length c54] [.string (bs a_0.Name), .slice a36 x34.length c37, .slice a53 x51.length c54, .int .i64 0, .int .i64 0] (SH.front 1 hS61) hL60 rfl rfl rfl rfl rfl rfl rfl (info25).1 (info25).2.1 rfl rfl rfl ?_
  intro w62 hB63 hS64
  have hb65 : Ext w w62 := Below.trans hb59 hB63
  have hL66 : w.heap.size ≤ w62.heap.size := Nat.le_trans hL60 hB63.size
  refine WL.sub [(1, .pointer (some ⟨b2, 0, none⟩)), (2, .pointer (some ⟨b10, 0, none⟩)), (3, .pointer (some ⟨b19, 0, none⟩))] ⟨rfl, rfl, rfl, trivial⟩ ?_
  refine WL.nil ?_
  refine WQ.then_normal (hK50 _ _ _ ?_)
  refine WP.seq (fun K67 hK67 => ?_)
  refine WP.region ?_
  refine WL.runk 1 [1, 2, 3, 15] [(1, .pointer (some ⟨b2, 0, none⟩)), (2, .pointer (some ⟨b10, 0, none⟩)), (3, .pointer (some ⟨b19, 0, none⟩)), (15, .pointer (some ⟨b2, 3, none⟩))] (by kernel_rfl) ?_
  refine WL.st (.int .i64 a_0.Price) (ST.load (cell_ext (SH.boxAt (SH.front 4 hS64) 3 _ rfl)) rfl rfl Try.underlying2 rfl) rfl rfl rfl ?_
  refine WL.runk 1 [1, 2, 3, 16, 17] [(1, .pointer (some ⟨b2, 0, none⟩)), (2, .pointer (some ⟨b10, 0, none⟩)), (3, .pointer (some ⟨b19, 0, none⟩)), (16, .int .i64 a_0.Price), (17, .pointer (some ⟨b19, 3, none⟩))] (by kernel_rfl) ?_
  refine WL.boxStore 3 [.int .i64 a_0.Price] [.string (bs a_0.Name), .slice a36 x34.length c37, .slice a53 x51.length c54, .int .i64 a_0.Price, .int .i64 0] (SH.front 0 hS64) hL66 rfl rfl rfl rfl rfl rfl rfl (info2).1 (info2).2.1 rfl rfl rfl ?_
  intro w68 hB69 hS70
  have hb71 : Ext w w68 := Below.trans hb65 hB69
  have hL72 : w.heap.size ≤ w68.heap.size := Nat.le_trans hL66 hB69.size
  refine WL.sub [(1, .pointer (some ⟨b2, 0, none⟩)), (2, .pointer (some ⟨b10, 0, none⟩)), (3, .pointer (some ⟨b19, 0, none⟩))] ⟨rfl, rfl, rfl, trivial⟩ ?_
  refine WL.nil ?_
  refine WQ.then_normal (hK67 _ _ _ ?_)
  refine WP.seq (fun K73 hK73 => ?_)
  refine WP.region ?_
  refine WL.runk 1 [2, 3, 18] [(2, .pointer (some ⟨b10, 0, none⟩)), (3, .pointer (some ⟨b19, 0, none⟩)), (18, .pointer (some ⟨b2, 4, none⟩))] (by kernel_rfl) ?_
  refine WL.st (.int .i64 a_0.Hours) (ST.load (cell_ext (SH.boxAt (SH.front 4 hS70) 4 _ rfl)) rfl rfl Try.underlying2 rfl) rfl rfl rfl ?_
  refine WL.runk 1 [2, 3, 19, 20] [(2, .pointer (some ⟨b10, 0, none⟩)), (3, .pointer (some ⟨b19, 0, none⟩)), (19, .int .i64 a_0.Hours), (20, .pointer (some ⟨b19, 4, none⟩))] (by kernel_rfl) ?_
  refine WL.boxStore 4 [.int .i64 a_0.Hours] [.string (bs a_0.Name), .slice a36 x34.length c37, .slice a53 x51.length c54, .int .i64 a_0.Price, .int .i64 a_0.Hours] (SH.front 0 hS70) hL72 rfl rfl rfl rfl rfl rfl rfl (info2).1 (info2).2.1 rfl rfl rfl ?_
  intro w74 hB75 hS76
  have hb77 : Ext w w74 := Below.trans hb71 hB75
  have hL78 : w.heap.size ≤ w74.heap.size := Nat.le_trans hL72 hB75.size
  refine WL.sub [(2, .pointer (some ⟨b10, 0, none⟩)), (3, .pointer (some ⟨b19, 0, none⟩))] ⟨rfl, rfl, trivial⟩ ?_
  refine WL.nil ?_
  refine WQ.then_normal (hK73 _ _ _ ?_)
  refine WP.seq (fun K79 hK79 => ?_)
  refine WP.region ?_
  refine WL.st (.agg #[.string (bs a_0.Name), .slice a36 x34.length c37, .slice a53 x51.length c54, .int .i64 a_0.Price, .int .i64 a_0.Hours]) (ST.loadAgg (vs := [.string (bs a_0.Name), .slice a36 x34.length c37, .slice a53 x51.length c54, .int .i64 a_0.Price, .int .i64 a_0.Hours]) (fun j v hv => SH.boxPart (us := [.string (bs a_0.Name), .slice a36 x34.length c37, .slice a53 x51.length c54, .int .i64 a_0.Price, .int .i64 a_0.Hours]) (SH.front 0 hS76) 0 rfl j v hv) rfl rfl rfl Try.underlying73 rfl (info73).1 (info73).2.1) rfl rfl rfl ?_
  refine WL.boxStore 0 [.string (bs a_0.Name), .slice a36 x34.length c37, .slice a53 x51.length c54, .int .i64 a_0.Price, .int .i64 a_0.Hours] [.string (bs a_0.Name), .slice a36 x34.length c37, .slice a53 x51.length c54, .int .i64 a_0.Price, .int .i64 a_0.Hours] (SH.front 3 hS76) hL78 rfl rfl rfl rfl rfl rfl rfl (info73).1 (info73).2.1 rfl rfl rfl ?_
  intro w80 hB81 hS82
  have hb83 : Ext w w80 := Below.trans hb77 hB81
  have hL84 : w.heap.size ≤ w80.heap.size := Nat.le_trans hL78 hB81.size
  refine WL.sub [(2, .pointer (some ⟨b10, 0, none⟩))] ⟨rfl, trivial⟩ ?_
  refine WL.nil ?_
  refine WQ.then_normal (hK79 _ _ _ ?_)
  refine WP.ret ?_
  obtain rfl := Option.some.inj hm
  exact WQ.retv1 _ rfl (RVal.box (SH.front 0 hS82) rfl Try.underlying73 rfl (info73).1 (info73).2.1) ⟨_, _, _, _, rfl, hb83, (SH.take 2 (SH.front 3 (SH.front 2 hS82)))⟩

theorem c_30 (n : Nat) (a_0 : List SRepair) (a0' : Option Addr) (c0' : Nat) (w : World) {r : List SRepair} (hm : m_laws_toRepairS n a_0 = some r) (h0 : Rd fRepair.ty w a0' a_0) (_hle0 : a_0.length ≤ c0') :
    CallV Try.prog 30 #[.slice a0' a_0.length c0'] w (fun v w' => ∃ (ra0 : Option Addr) (rc0 : Nat), v = .slice ra0 r.length rc0 ∧ Ext w w' ∧ SH w' w.heap.size [aNest fRepair 73 2 ra0 rc0 r]) := by
  unfold m_laws_toRepairS at hm
  refine CallV.enter Try.func30 rfl (by kernel_rfl) Try.ntmps30 (env := [(0, .slice a0' a_0.length c0')]) ⟨rfl, trivial⟩ ?_
  refine WP.seq (fun K1 hK1 => ?_)
  refine WP.region ?_
  refine WL.runk 1 [0] [(0, .slice a0' a_0.length c0')] (by kernel_rfl) ?_
  refine WL.nil ?_
  refine WQ.then_normal (hK1 _ _ _ ?_)
  refine WP.seq (fun K2 hK2 => ?_)
  refine WP.region ?_
  refine WL.runk 2 [0, 6] [(0, .slice a0' a_0.length c0'), (6, .int .i64 (a_0.length : Int))] (by kernel_rfl) ?_
  obtain ⟨x3, hx4, hm⟩ := bindE hm
  refine WL.makeN (ei := 2) fRepair 7 hx4 (.val (Fit.row' rfl (Fit.row' rfl (.val (.val .nil))))) (Emp.row (Emp.row Emp.nil)) rfl rfl rfl Try.underlying24 (info73).1 (info73).2.2.1 (info73).2.1 (info73).2.2.2 rfl rfl rfl rfl ?_
  intro a5 c6 w7 hE8 hR9
  have hb11 : Ext w w7 := Ext.trans (Ext.refl w) hE8
  have hL12 : w.heap.size ≤ w7.heap.size := Nat.le_trans (Nat.le_refl _) hE8.size
  have hS13 : SH w7 w.heap.size [aNest fRepair 73 2 a5 c6 x3] := SH.add (SH.nil _ _) hE8 (Nat.le_refl _) hR9
  refine WL.runk 1 [0, 3] [(0, .slice a0' a_0.length c0'), (3, .slice a5 x3.length c6)] (by kernel_rfl) ?_
  refine WL.nil ?_
  refine WQ.then_normal (hK2 _ _ _ ?_)
  refine WP.seq (fun K14 hK14 => ?_)
  refine WP.seq (fun K15 hK15 => ?_)
  refine WP.region ?_
  refine WL.runk 1 [0, 3, 4] [(0, .slice a0' a_0.length c0'), (3, .slice a5 x3.length c6), (4, .int .i64 0)] (by kernel_rfl) ?_
  refine WL.nil ?_
  refine WQ.then_normal (hK15 _ _ _ ?_)
  refine WP.block ?_
  obtain ⟨t87, ht88, hm⟩ := bindE hm
  have hmo82 := hm; clear hm
  refine WP.sub [(0, .slice a0' a_0.length c0'), (3, .slice a5 x3.length c6), (4, .int .i64 0)] ⟨rfl, rfl, rfl, trivial⟩ ?_
  refine WP.loop (fun n' env' w' => ∃ (st76 : Int × List SRepair) , env' = [(0, .slice a0' a_0.length c0'), (3, .slice a5 st76.2.length c6), (4, .int .i64 st76.1)] ∧ Ext w w' ∧ w.heap.size ≤ w'.heap.size ∧ SH w' w.heap.size [aNest fRepair 73 2 a5 c6 st76.2] ∧ loopN (m_laws_toRepairS_l1 n a_0) n' st76 = some t87) n ⟨(0, x3), rfl, hb11, hL12, hS13, ht88⟩ ?_
  rintro n84 _ w77 ⟨st76, rfl, hb78, hL79, hS80, hl81⟩ K83 hK83
  obtain ⟨n85, s86, rfl, hm, hl81⟩ := loopN_some hl81
  unfold m_laws_toRepairS_l1 at hm
  refine WP.seq (fun K89 hK89 => ?_)
  refine WP.seq (fun K90 hK90 => ?_)
  refine WP.region ?_
  refine WL.runk 4 [0, 3, 4, 11] [(0, .slice a0' a_0.length c0'), (3, .slice a5 st76.2.length c6), (4, .int .i64 st76.1), (11, .bool (decide (st76.1 < (a_0.length : Int))))] (by kernel_rfl) ?_
  refine WL.nil ?_
  refine WQ.then_normal (hK90 _ _ _ ?_)
  refine WP.cond (decide (st76.1 < (a_0.length : Int))) rfl rfl (fun hc91 => ?_) (fun hc91 => ?_)
  rotate_left
  · have hm := iteF hm hc91
    refine WP.exit ?_
    refine WQ.then_exit ?_
    refine WQ.then_exit ?_
    refine WQ.block_here ?_
    obtain rfl := Option.some.inj hm
    obtain rfl := afterN_done hl81
    have hm := hmo82
    refine WQ.then_normal (hK14 _ _ _ ?_)
    refine WP.seq (fun K135 hK135 => ?_)
    refine WP.region ?_
    refine WL.runk 2 [2] [(2, .slice a5 st76.2.length c6)] (by kernel_rfl) ?_
    refine WL.nil ?_
    refine WQ.then_normal (hK135 _ _ _ ?_)
    refine WP.ret ?_
    obtain rfl := Option.some.inj hm
    exact WQ.ret1 _ rfl rfl ⟨_, _, rfl, hb78, hS80⟩
  have hm := iteT hm hc91
  refine WP.skip ?_
  refine WQ.then_normal (hK89 _ _ _ ?_)
  refine WP.seq (fun K92 hK92 => ?_)
  refine WP.block ?_
  refine WP.region ?_
  refine WL.runk 4 [0, 3, 4, 14, 15, 16, 17] [(0, .slice a0' a_0.length c0'), (3, .slice a5 st76.2.length c6), (4, .int .i64 st76.1), (14, .slice a5 st76.2.length c6), (15, .int .i64 st76.1), (16, .slice a0' a_0.length c0'), (17, .int .i64 st76.1)] (by kernel_rfl) ?_
  obtain ⟨x93, hx94, hm⟩ := bindE hm
  obtain ⟨a95, c96, a100, c101, hc105, hR97, hle98, hR102, hle103⟩ := nest_Repair h0 hx94
  refine WL.st (.pointer (some (at_ a0' (Int.toNat st76.1 * 5)))) (ST.index (T := fRepair.ty) (xs := a_0) (Rd.below h0 hb78) hx94 rfl rfl rfl Try.underlying39 (info72).1 (info72).2.1) rfl rfl rfl ?_
  refine WL.st (.agg #[.string (bs x93.Name), .slice a95 x93.Mends.length c96, .slice a100 x93.First.length c101, .int .i64 x93.Price, .int .i64 x93.Hours]) (ST.loadAgg (vs := [.string (bs x93.Name), .slice a95 x93.Mends.length c96, .slice a100 x93.First.length c101, .int .i64 x93.Price, .int .i64 x93.Hours]) (at_agg (cells_ext hc105 hb78)) rfl rfl rfl Try.underlying72 rfl (info72).1 (info72).2.1) rfl rfl rfl ?_
  obtain ⟨x106, hx107, hm⟩ := bindE hm
  refine WL.call 69 #[.agg #[.string (bs x93.Name), .slice a95 x93.Mends.length c96, .slice a100 x93.First.length c101, .int .i64 x93.Price, .int .i64 x93.Hours]] rfl rfl (by kernel_rfl) (c_69 n x93 a95 c96 a100 c101 w77 hx107 (Rd.below hR97 hb78) hle98 (Rd.below hR102 hb78) hle103) ?_
  rintro _ w114 ⟨a108, c109, a111, c112, rfl, hE115, hR116⟩
  refine ⟨_, rfl, ?_⟩
  have hb117 : Ext w w114 := Ext.trans hb78 hE115
  have hL118 : w.heap.size ≤ w114.heap.size := Nat.le_trans hL79 hE115.size
  have hS119 : SH w114 w.heap.size [aOwn fInt 2 a108 c109 x106.Mends, aOwn fInt 2 a111 c112 x106.First, aNest fRepair 73 2 a5 c6 st76.2] := SH.add hS80 hE115 hL79 hR116
  obtain ⟨x120, hx121, hm⟩ := bindE hm
  obtain ⟨a122, c123, a125, c126, hS128⟩ := elem_Repair (SH.front 2 hS119) hx121
  refine WL.st (.pointer (some (at_ a5 (Int.toNat st76.1 * 5)))) (ST.index (T := fRepair.ty) (xs := st76.2) (SH.rdN (SH.front 2 hS119)) hx121 rfl rfl rfl Try.underlying24 (info73).1 (info73).2.1) rfl rfl rfl ?_
  refine WL.holeStore 0 [.string (bs x106.Name), .slice a108 x106.Mends.length c109, .slice a111 x106.First.length c112, .int .i64 x106.Price, .int .i64 x106.Hours] [.string (bs x106.Name), .slice a108 x106.Mends.length c109, .slice a111 x106.First.length c112, .int .i64 x106.Price, .int .i64 x106.Hours] (SH.front 2 hS128) hL118 rfl rfl rfl rfl rfl rfl rfl (info73).1 (info73).2.1 rfl rfl rfl ?_
  intro w129 hB130 hS131
  have hb132 : Ext w w129 := Below.trans hb117 hB130
  have hL133 : w.heap.size ≤ w129.heap.size := Nat.le_trans hL118 hB130.size
  refine WL.sub [(0, .slice a0' a_0.length c0'), (3, .slice a5 st76.2.length c6), (4, .int .i64 st76.1)] ⟨rfl, rfl, rfl, trivial⟩ ?_
  have hS134 : SH w129 w.heap.size [aNest fRepair 73 2 a5 c6 (st76.2.set (Int.toNat st76.1) x106), aOwn fInt 2 a122 c123 x120.Mends, aOwn fInt 2 a125 c126 x120.First] := SH.elemBack (Ix := [aOwn fInt 2 a108 c109 x106.Mends, aOwn fInt 2 a111 c112 x106.First]) (x' := x106) (SH.front 4 (SH.front 4 (SH.front 2 (SH.front 2 (SH.front 2 hS131))))) (.val (Fit.row' rfl (Fit.row' rfl (.val (.val .nil)))))
  refine WL.sub [(0, .slice a0' a_0.length c0'), (3, .slice a5 ((st76.2.set (Int.toNat st76.1) x106).length) c6), (4, .int .i64 st76.1)] ⟨rfl, by first | (simp only [List.length_set]; done) | (simp only [List.length_set]; rfl), rfl, trivial⟩ ?_
  refine WL.nil ?_
  refine WQ.block_normal ?_
  refine WQ.then_normal (hK92 _ _ _ ?_)
  refine WP.region ?_
  refine WL.runk 3 [0, 3, 4] [(0, .slice a0' a_0.length c0'), (3, .slice a5 ((st76.2.set (Int.toNat st76.1) x106).length) c6), (4, .int .i64 (wI64 (st76.1 + 1)))] (by kernel_rfl) ?_
  refine WL.nil ?_
  obtain rfl := Option.some.inj hm
  exact WQ.round hK83 ⟨((wI64 (st76.1 + 1)), (st76.2.set (Int.toNat st76.1) x106)), rfl, hb132, hL133, (SH.take 1 hS134), hl81⟩ (Nat.lt_succ_self _) ⟨rfl, rfl, rfl, trivial⟩

theorem c_38 (n : Nat) (a_0 : List Int) (a0' : Option Addr) (c0' : Nat) (b_1 : List Int) (a1' : Option Addr) (c1' : Nat) (w : World) {r : Bool} (hm : m_laws_eqInt64S n a_0 b_1 = some r) (h0 : Rd fInt.ty w a0' a_0) (_hle0 : a_0.length ≤ c0') (h1 : Rd fInt.ty w a1' b_1) (_hle1 : b_1.length ≤ c1') :
    CallV Try.prog 38 #[.slice a0' a_0.length c0', .slice a1' b_1.length c1'] w (fun v w' => v = .bool r ∧ Ext w w') := by
  unfold m_laws_eqInt64S at hm
  refine CallV.enter Try.func38 rfl (by kernel_rfl) Try.ntmps38 (env := [(0, .slice a0' a_0.length c0'), (1, .slice a1' b_1.length c1')]) ⟨rfl, rfl, trivial⟩ ?_
  refine WP.seq (fun K1 hK1 => ?_)
  refine WP.region ?_
  refine WL.runk 1 [0, 1] [(0, .slice a0' a_0.length c0'), (1, .slice a1' b_1.length c1')] (by kernel_rfl) ?_
  refine WL.nil ?_
  refine WQ.then_normal (hK1 _ _ _ ?_)
  refine WP.seq (fun K2 hK2 => ?_)
  refine WP.seq (fun K3 hK3 => ?_)
  refine WP.region ?_
  refine WL.runk 5 [0, 1, 10] [(0, .slice a0' a_0.length c0'), (1, .slice a1' b_1.length c1'), (10, .bool ((a_0.length : Int) != (b_1.length : Int)))] (by kernel_rfl) ?_
  refine WL.nil ?_
  refine WQ.then_normal (hK3 _ _ _ ?_)
  refine WP.cond ((a_0.length : Int) != (b_1.length : Int)) rfl rfl (fun hc4 => ?_) (fun hc4 => ?_)
  · have hm := iteT hm hc4
    refine WP.seq (fun K5 hK5 => ?_)
    refine WP.region ?_
    refine WL.runk 1 [4] [(4, .bool false)] (by kernel_rfl) ?_
    refine WL.nil ?_
    refine WQ.then_normal (hK5 _ _ _ ?_)
    refine WP.ret ?_
    refine WQ.then_ret ?_
    obtain rfl := Option.some.inj hm
    exact WQ.ret1 _ rfl rfl ⟨rfl, (Ext.refl w)⟩
  have hm := iteF hm hc4
  refine WP.skip ?_
  refine WQ.then_normal (hK2 _ _ _ ?_)
  refine WP.seq (fun K6 hK6 => ?_)
  refine WP.seq (fun K7 hK7 => ?_)
  refine WP.region ?_
  refine WL.runk 1 [0, 1, 5] [(0, .slice a0' a_0.length c0'), (1, .slice a1' b_1.length c1'), (5, .int .i64 0)] (by kernel_rfl) ?_
  refine WL.nil ?_
  refine WQ.then_normal (hK7 _ _ _ ?_)
  refine WP.block ?_
  obtain ⟨t19, ht20, hm⟩ := bindE hm
  have hmo14 := hm; clear hm
  refine WP.sub [(0, .slice a0' a_0.length c0'), (1, .slice a1' b_1.length c1'), (5, .int .i64 0)] ⟨rfl, rfl, rfl, trivial⟩ ?_
  refine WP.loop (fun n' env' w' => ∃ (st8 : Int) , env' = [(0, .slice a0' a_0.length c0'), (1, .slice a1' b_1.length c1'), (5, .int .i64 st8)] ∧ Ext w w' ∧ w.heap.size ≤ w'.heap.size ∧ SH w' w.heap.size [] ∧ loopN (m_laws_eqInt64S_l1 n a_0 b_1) n' st8 = some t19) n ⟨0, rfl, (Ext.refl w), (Nat.le_refl _), (SH.nil _ _), ht20⟩ ?_
  rintro n16 _ w9 ⟨st8, rfl, hb10, hL11, hS12, hl13⟩ K15 hK15
  obtain ⟨n17, s18, rfl, hm, hl13⟩ := loopN_some hl13
  unfold m_laws_eqInt64S_l1 at hm
  refine WP.seq (fun K21 hK21 => ?_)
  refine WP.seq (fun K22 hK22 => ?_)
  refine WP.region ?_
  refine WL.runk 4 [0, 1, 5, 14] [(0, .slice a0' a_0.length c0'), (1, .slice a1' b_1.length c1'), (5, .int .i64 st8), (14, .bool (decide (st8 < (a_0.length : Int))))] (by kernel_rfl) ?_
  refine WL.nil ?_
  refine WQ.then_normal (hK22 _ _ _ ?_)
  refine WP.cond (decide (st8 < (a_0.length : Int))) rfl rfl (fun hc23 => ?_) (fun hc23 => ?_)
  rotate_left
  · have hm := iteF hm hc23
    refine WP.exit ?_
    refine WQ.then_exit ?_
    refine WQ.then_exit ?_
    refine WQ.block_here ?_
    obtain rfl := Option.some.inj hm
    obtain rfl := afterN_done hl13
    have hm := hmo14
    refine WQ.then_normal (hK6 _ _ _ ?_)
    refine WP.seq (fun K37 hK37 => ?_)
    refine WP.region ?_
    refine WL.runk 1 [4] [(4, .bool true)] (by kernel_rfl) ?_
    refine WL.nil ?_
    refine WQ.then_normal (hK37 _ _ _ ?_)
    refine WP.ret ?_
    obtain rfl := Option.some.inj hm
    exact WQ.ret1 _ rfl rfl ⟨rfl, hb10⟩
  have hm := iteT hm hc23
  refine WP.skip ?_
  refine WQ.then_normal (hK21 _ _ _ ?_)
  refine WP.seq (fun K24 hK24 => ?_)
  refine WP.block ?_
  refine WP.seq (fun K25 hK25 => ?_)
  refine WP.quiet (by kernel_rfl) (by kernel_rfl) ?_
  refine QL.step1v 17 (.slice a0' a_0.length c0') rfl (fun _ => by kernel_rfl) ?_
  refine QL.step1v 18 (.int .i64 st8) rfl (fun _ => by kernel_rfl) ?_
  refine QL.subk [0, 1, 5, 17, 18] [(0, .slice a0' a_0.length c0'), (1, .slice a1' b_1.length c1'), (5, .int .i64 st8), (17, .slice a0' a_0.length c0'), (18, .int .i64 st8)] (by kernel_rfl) ?_
  obtain ⟨x26, hx27, hm⟩ := bindE hm
  refine QL.st (.pointer (some (at_ a0' (Int.toNat st8 * 1)))) (ST.index (T := fInt.ty) (xs := a_0) (Rd.below h0 hb10) hx27 rfl rfl rfl Try.underlying25 (info2).1 (info2).2.1) rfl rfl rfl ?_
  refine QL.st (.int .i64 x26) (ST.load (cell_ext (Rd.flat (F := fInt) (Rd.below h0 hb10) hx27 0 rfl)) rfl rfl Try.underlying2 rfl) rfl rfl rfl ?_
  refine QL.step1v 21 (.slice a1' b_1.length c1') rfl (fun _ => by kernel_rfl) ?_
  refine QL.step1v 22 (.int .i64 st8) rfl (fun _ => by kernel_rfl) ?_
  refine QL.subk [0, 1, 5, 20, 21, 22] [(0, .slice a0' a_0.length c0'), (1, .slice a1' b_1.length c1'), (5, .int .i64 st8), (20, .int .i64 x26), (21, .slice a1' b_1.length c1'), (22, .int .i64 st8)] (by kernel_rfl) ?_
  obtain ⟨x28, hx29, hm⟩ := bindE hm
  refine QL.st (.pointer (some (at_ a1' (Int.toNat st8 * 1)))) (ST.index (T := fInt.ty) (xs := b_1) (Rd.below h1 hb10) hx29 rfl rfl rfl Try.underlying25 (info2).1 (info2).2.1) rfl rfl rfl ?_
  refine QL.st (.int .i64 x28) (ST.load (cell_ext (Rd.flat (F := fInt) (Rd.below h1 hb10) hx29 0 rfl)) rfl rfl Try.underlying2 rfl) rfl rfl rfl ?_
  refine QL.step1v 25 (.bool (x26 != x28)) rfl (fun _ => by kernel_rfl) ?_
  refine QL.subk [0, 1, 5, 25] [(0, .slice a0' a_0.length c0'), (1, .slice a1' b_1.length c1'), (5, .int .i64 st8), (25, .bool (x26 != x28))] (by kernel_rfl) ?_
  refine QL.nil ?_
  intro w30 hE31
  have hb32 : Ext w w30 := Ext.trans hb10 hE31
  have hL33 : w.heap.size ≤ w30.heap.size := Nat.le_trans hL11 hE31.size
  have hS34 : SH w30 w.heap.size [] := SH.ext hS12 hE31
  refine WQ.then_normal (hK25 _ _ _ ?_)
  refine WP.cond (x26 != x28) rfl rfl (fun hc35 => ?_) (fun hc35 => ?_)
  rotate_left
  · have hm := iteF hm hc35
    refine WP.skip ?_
    refine WQ.block_normal ?_
    refine WQ.then_normal (hK24 _ _ _ ?_)
    refine WP.region ?_
    refine WL.runk 3 [0, 1, 5] [(0, .slice a0' a_0.length c0'), (1, .slice a1' b_1.length c1'), (5, .int .i64 (wI64 (st8 + 1)))] (by kernel_rfl) ?_
    refine WL.nil ?_
    obtain rfl := Option.some.inj hm
    exact WQ.round hK15 ⟨(wI64 (st8 + 1)), rfl, hb32, hL33, hS34, hl13⟩ (Nat.lt_succ_self _) ⟨rfl, rfl, rfl, trivial⟩
  have hm := iteT hm hc35
  refine WP.seq (fun K36 hK36 => ?_)
  refine WP.region ?_
  refine WL.runk 1 [4] [(4, .bool false)] (by kernel_rfl) ?_
  refine WL.nil ?_
  refine WQ.then_normal (hK36 _ _ _ ?_)
  refine WP.ret ?_
  refine WQ.block_ret ?_
  refine WQ.then_ret ?_
  refine WQ.then_ret ?_
  refine WQ.block_ret ?_
  refine WQ.then_ret ?_
  obtain rfl := Option.some.inj hm
  obtain rfl := afterN_done hl13
  have hm := hmo14
  obtain rfl := Option.some.inj hm
  exact WQ.ret1 _ rfl rfl ⟨rfl, hb32⟩

theorem c_73 (n : Nat) (a_0 : SRepair) (a0_1' : Option Addr) (c0_1' : Nat) (a0_2' : Option Addr) (c0_2' : Nat) (b_1 : SRepair) (a1_1' : Option Addr) (c1_1' : Nat) (a1_2' : Option Addr) (c1_2' : Nat) (w : World) {r : Bool} (hm : m_laws_eqRepair n a_0 b_1 = some r) (hr0_1 : Rd fInt.ty w a0_1' a_0.Mends) (hle0_1 : a_0.Mends.length ≤ c0_1') (hr0_2 : Rd fInt.ty w a0_2' a_0.First) (hle0_2 : a_0.First.length ≤ c0_2') (hr1_1 : Rd fInt.ty w a1_1' b_1.Mends) (hle1_1 : b_1.Mends.length ≤ c1_1') (hr1_2 : Rd fInt.ty w a1_2' b_1.First) (hle1_2 : b_1.First.length ≤ c1_2') :
    CallV Try.prog 73 #[.agg #[.string (bs a_0.Name), .slice a0_1' a_0.Mends.length c0_1', .slice a0_2' a_0.First.length c0_2', .int .i64 a_0.Price, .int .i64 a_0.Hours], .agg #[.string (bs b_1.Name), .slice a1_1' b_1.Mends.length c1_1', .slice a1_2' b_1.First.length c1_2', .int .i64 b_1.Price, .int .i64 b_1.Hours]] w (fun v w' => v = .bool r ∧ Ext w w') := by
  unfold m_laws_eqRepair at hm
  refine CallV.enter Try.func73 rfl (by kernel_rfl) Try.ntmps73 (env := [(0, .agg #[.string (bs a_0.Name), .slice a0_1' a_0.Mends.length c0_1', .slice a0_2' a_0.First.length c0_2', .int .i64 a_0.Price, .int .i64 a_0.Hours]), (1, .agg #[.string (bs b_1.Name), .slice a1_1' b_1.Mends.length c1_1', .slice a1_2' b_1.First.length c1_2', .int .i64 b_1.Price, .int .i64 b_1.Hours])]) ⟨rfl, rfl, trivial⟩ ?_
  refine WP.seq (fun K1 hK1 => ?_)
  refine WP.region ?_
  refine WL.box 73 [.string (bs a_0.Name), .slice a0_1' a_0.Mends.length c0_1', .slice a0_2' a_0.First.length c0_2', .int .i64 a_0.Price, .int .i64 a_0.Hours] 2 (by kernel_rfl) rfl rfl rfl rfl ?_
  intro b2 w3 hE4 hR5
  have hb7 : Ext w w3 := Ext.trans (Ext.refl w) hE4
  have hL8 : w.heap.size ≤ w3.heap.size := Nat.le_trans (Nat.le_refl _) hE4.size
  have hS9 : SH w3 w.heap.size [aBox 73 b2 [.string (bs a_0.Name), .slice a0_1' a_0.Mends.length c0_1', .slice a0_2' a_0.First.length c0_2', .int .i64 a_0.Price, .int .i64 a_0.Hours]] := SH.add (SH.nil _ _) hE4 (Nat.le_refl _) hR5
  refine WL.box 73 [.string (bs b_1.Name), .slice a1_1' b_1.Mends.length c1_1', .slice a1_2' b_1.First.length c1_2', .int .i64 b_1.Price, .int .i64 b_1.Hours] 3 (by kernel_rfl) rfl rfl rfl rfl ?_
  intro b10 w11 hE12 hR13
  have hb15 : Ext w w11 := Ext.trans hb7 hE12
  have hL16 : w.heap.size ≤ w11.heap.size := Nat.le_trans hL8 hE12.size
  have hS17 : SH w11 w.heap.size [aBox 73 b10 [.string (bs b_1.Name), .slice a1_1' b_1.Mends.length c1_1', .slice a1_2' b_1.First.length c1_2', .int .i64 b_1.Price, .int .i64 b_1.Hours], aBox 73 b2 [.string (bs a_0.Name), .slice a0_1' a_0.Mends.length c0_1', .slice a0_2' a_0.First.length c0_2', .int .i64 a_0.Price, .int .i64 a_0.Hours]] := SH.add hS9 hE12 hL8 hR13
  refine WL.runk 1 [2, 3] [(2, .pointer (some ⟨b2, 0, none⟩)), (3, .pointer (some ⟨b10, 0, none⟩))] (by kernel_rfl) ?_
  refine WL.nil ?_
  refine WQ.then_normal (hK1 _ _ _ ?_)
  refine WP.seq (fun K18 hK18 => ?_)
  refine WP.seq (fun K19 hK19 => ?_)
  refine WP.region ?_
  refine WL.runk 1 [2, 3, 5] [(2, .pointer (some ⟨b2, 0, none⟩)), (3, .pointer (some ⟨b10, 0, none⟩)), (5, .pointer (some ⟨b2, 0, none⟩))] (by kernel_rfl) ?_
  refine WL.st (.string (bs a_0.Name)) (ST.load (cell_ext (SH.boxAt (SH.front 1 hS17) 0 _ rfl)) rfl rfl Try.underlying9 rfl) rfl rfl rfl ?_
  refine WL.runk 1 [2, 3, 6, 7] [(2, .pointer (some ⟨b2, 0, none⟩)), (3, .pointer (some ⟨b10, 0, none⟩)), (6, .string (bs a_0.Name)), (7, .pointer (some ⟨b10, 0, none⟩))] (by kernel_rfl) ?_
  refine WL.st (.string (bs b_1.Name)) (ST.load (cell_ext (SH.boxAt (SH.front 0 hS17) 0 _ rfl)) rfl rfl Try.underlying9 rfl) rfl rfl rfl ?_
  refine WL.st (.bool (!(a_0.Name == b_1.Name))) (ST.strne (x := a_0.Name) (y := b_1.Name) rfl rfl rfl) rfl rfl rfl ?_
  refine WL.sub [(2, .pointer (some ⟨b2, 0, none⟩)), (3, .pointer (some ⟨b10, 0, none⟩)), (9, .bool (!(a_0.Name == b_1.Name)))] ⟨rfl, rfl, rfl, trivial⟩ ?_
  refine WL.nil ?_
  refine WQ.then_normal (hK19 _ _ _ ?_)
  refine WP.cond (!(a_0.Name == b_1.Name)) rfl rfl (fun hc20 => ?_) (fun hc20 => ?_)
  · have hm := iteT hm hc20
    refine WP.seq (fun K21 hK21 => ?_)
    refine WP.region ?_
    refine WL.runk 1 [4] [(4, .bool false)] (by kernel_rfl) ?_
    refine WL.nil ?_
    refine WQ.then_normal (hK21 _ _ _ ?_)
    refine WP.ret ?_
    refine WQ.then_ret ?_
    obtain rfl := Option.some.inj hm
    exact WQ.ret1 _ rfl rfl ⟨rfl, hb15⟩
  have hm := iteF hm hc20
  refine WP.skip ?_
  refine WQ.then_normal (hK18 _ _ _ ?_)
  refine WP.seq (fun K22 hK22 => ?_)
  refine WP.seq (fun K23 hK23 => ?_)
  refine WP.region ?_
  refine WL.runk 1 [2, 3, 10] [(2, .pointer (some ⟨b2, 0, none⟩)), (3, .pointer (some ⟨b10, 0, none⟩)), (10, .pointer (some ⟨b2, 1, none⟩))] (by kernel_rfl) ?_
  refine WL.st (.slice a0_1' a_0.Mends.length c0_1') (ST.load (cell_ext (SH.boxAt (SH.front 1 hS17) 1 _ rfl)) rfl rfl Try.underlying25 rfl) rfl rfl rfl ?_
  refine WL.runk 1 [2, 3, 11, 12] [(2, .pointer (some ⟨b2, 0, none⟩)), (3, .pointer (some ⟨b10, 0, none⟩)), (11, .slice a0_1' a_0.Mends.length c0_1'), (12, .pointer (some ⟨b10, 1, none⟩))] (by kernel_rfl) ?_
  refine WL.st (.slice a1_1' b_1.Mends.length c1_1') (ST.load (cell_ext (SH.boxAt (SH.front 0 hS17) 1 _ rfl)) rfl rfl Try.underlying25 rfl) rfl rfl rfl ?_
  obtain ⟨x24, hx25, hm⟩ := bindE hm
  refine WL.call 38 #[.slice a0_1' a_0.Mends.length c0_1', .slice a1_1' b_1.Mends.length c1_1'] rfl rfl (by kernel_rfl) (c_38 n a_0.Mends a0_1' c0_1' b_1.Mends a1_1' c1_1' w11 hx25 (Rd.below hr0_1 hb15) hle0_1 (Rd.below hr1_1 hb15) hle1_1) ?_
  rintro _ w26 ⟨rfl, hE27⟩
  refine ⟨_, rfl, ?_⟩
  have hb29 : Ext w w26 := Ext.trans hb15 hE27
  have hL30 : w.heap.size ≤ w26.heap.size := Nat.le_trans hL16 hE27.size
  have hS31 : SH w26 w.heap.size [aBox 73 b10 [.string (bs b_1.Name), .slice a1_1' b_1.Mends.length c1_1', .slice a1_2' b_1.First.length c1_2', .int .i64 b_1.Price, .int .i64 b_1.Hours], aBox 73 b2 [.string (bs a_0.Name), .slice a0_1' a_0.Mends.length c0_1', .slice a0_2' a_0.First.length c0_2', .int .i64 a_0.Price, .int .i64 a_0.Hours]] := SH.ext hS17 hE27
  refine WL.runk 1 [2, 3, 15] [(2, .pointer (some ⟨b2, 0, none⟩)), (3, .pointer (some ⟨b10, 0, none⟩)), (15, .bool (!x24))] (by kernel_rfl) ?_
  refine WL.nil ?_
  refine WQ.then_normal (hK23 _ _ _ ?_)
  refine WP.cond (!x24) rfl rfl (fun hc32 => ?_) (fun hc32 => ?_)
  · have hm := iteT hm hc32
    refine WP.seq (fun K33 hK33 => ?_)
    refine WP.region ?_
    refine WL.runk 1 [4] [(4, .bool false)] (by kernel_rfl) ?_
    refine WL.nil ?_
    refine WQ.then_normal (hK33 _ _ _ ?_)
    refine WP.ret ?_
    refine WQ.then_ret ?_
    obtain rfl := Option.some.inj hm
    exact WQ.ret1 _ rfl rfl ⟨rfl, hb29⟩
  have hm := iteF hm hc32
  refine WP.skip ?_
  refine WQ.then_normal (hK22 _ _ _ ?_)
  refine WP.seq (fun K34 hK34 => ?_)
  refine WP.seq (fun K35 hK35 => ?_)
  refine WP.region ?_
  refine WL.runk 1 [2, 3, 16] [(2, .pointer (some ⟨b2, 0, none⟩)), (3, .pointer (some ⟨b10, 0, none⟩)), (16, .pointer (some ⟨b2, 2, none⟩))] (by kernel_rfl) ?_
  refine WL.st (.slice a0_2' a_0.First.length c0_2') (ST.load (cell_ext (SH.boxAt (SH.front 1 hS31) 2 _ rfl)) rfl rfl Try.underlying25 rfl) rfl rfl rfl ?_
  refine WL.runk 1 [2, 3, 17, 18] [(2, .pointer (some ⟨b2, 0, none⟩)), (3, .pointer (some ⟨b10, 0, none⟩)), (17, .slice a0_2' a_0.First.length c0_2'), (18, .pointer (some ⟨b10, 2, none⟩))] (by kernel_rfl) ?_
  refine WL.st (.slice a1_2' b_1.First.length c1_2') (ST.load (cell_ext (SH.boxAt (SH.front 0 hS31) 2 _ rfl)) rfl rfl Try.underlying25 rfl) rfl rfl rfl ?_
  obtain ⟨x36, hx37, hm⟩ := bindE hm
  refine WL.call 38 #[.slice a0_2' a_0.First.length c0_2', .slice a1_2' b_1.First.length c1_2'] rfl rfl (by kernel_rfl) (c_38 n a_0.First a0_2' c0_2' b_1.First a1_2' c1_2' w26 hx37 (Rd.below hr0_2 hb29) hle0_2 (Rd.below hr1_2 hb29) hle1_2) ?_
  rintro _ w38 ⟨rfl, hE39⟩
  refine ⟨_, rfl, ?_⟩
  have hb41 : Ext w w38 := Ext.trans hb29 hE39
  have hL42 : w.heap.size ≤ w38.heap.size := Nat.le_trans hL30 hE39.size
  have hS43 : SH w38 w.heap.size [aBox 73 b10 [.string (bs b_1.Name), .slice a1_1' b_1.Mends.length c1_1', .slice a1_2' b_1.First.length c1_2', .int .i64 b_1.Price, .int .i64 b_1.Hours], aBox 73 b2 [.string (bs a_0.Name), .slice a0_1' a_0.Mends.length c0_1', .slice a0_2' a_0.First.length c0_2', .int .i64 a_0.Price, .int .i64 a_0.Hours]] := SH.ext hS31 hE39
  refine WL.runk 1 [2, 3, 21] [(2, .pointer (some ⟨b2, 0, none⟩)), (3, .pointer (some ⟨b10, 0, none⟩)), (21, .bool (!x36))] (by kernel_rfl) ?_
  refine WL.nil ?_
  refine WQ.then_normal (hK35 _ _ _ ?_)
  refine WP.cond (!x36) rfl rfl (fun hc44 => ?_) (fun hc44 => ?_)
  · have hm := iteT hm hc44
    refine WP.seq (fun K45 hK45 => ?_)
    refine WP.region ?_
    refine WL.runk 1 [4] [(4, .bool false)] (by kernel_rfl) ?_
    refine WL.nil ?_
    refine WQ.then_normal (hK45 _ _ _ ?_)
    refine WP.ret ?_
    refine WQ.then_ret ?_
    obtain rfl := Option.some.inj hm
    exact WQ.ret1 _ rfl rfl ⟨rfl, hb41⟩
  have hm := iteF hm hc44
  refine WP.skip ?_
  refine WQ.then_normal (hK34 _ _ _ ?_)
  refine WP.seq (fun K46 hK46 => ?_)
  refine WP.seq (fun K47 hK47 => ?_)
  refine WP.region ?_
  refine WL.runk 1 [2, 3, 22] [(2, .pointer (some ⟨b2, 0, none⟩)), (3, .pointer (some ⟨b10, 0, none⟩)), (22, .pointer (some ⟨b2, 3, none⟩))] (by kernel_rfl) ?_
  refine WL.st (.int .i64 a_0.Price) (ST.load (cell_ext (SH.boxAt (SH.front 1 hS43) 3 _ rfl)) rfl rfl Try.underlying2 rfl) rfl rfl rfl ?_
  refine WL.runk 1 [2, 3, 23, 24] [(2, .pointer (some ⟨b2, 0, none⟩)), (3, .pointer (some ⟨b10, 0, none⟩)), (23, .int .i64 a_0.Price), (24, .pointer (some ⟨b10, 3, none⟩))] (by kernel_rfl) ?_
  refine WL.st (.int .i64 b_1.Price) (ST.load (cell_ext (SH.boxAt (SH.front 0 hS43) 3 _ rfl)) rfl rfl Try.underlying2 rfl) rfl rfl rfl ?_
  refine WL.runk 1 [2, 3, 26] [(2, .pointer (some ⟨b2, 0, none⟩)), (3, .pointer (some ⟨b10, 0, none⟩)), (26, .bool (a_0.Price != b_1.Price))] (by kernel_rfl) ?_
  refine WL.nil ?_
  refine WQ.then_normal (hK47 _ _ _ ?_)
  refine WP.cond (a_0.Price != b_1.Price) rfl rfl (fun hc48 => ?_) (fun hc48 => ?_)
  · have hm := iteT hm hc48
    refine WP.seq (fun K49 hK49 => ?_)
    refine WP.region ?_
    refine WL.runk 1 [4] [(4, .bool false)] (by kernel_rfl) ?_
    refine WL.nil ?_
    refine WQ.then_normal (hK49 _ _ _ ?_)
    refine WP.ret ?_
    refine WQ.then_ret ?_
    obtain rfl := Option.some.inj hm
    exact WQ.ret1 _ rfl rfl ⟨rfl, hb41⟩
  have hm := iteF hm hc48
  refine WP.skip ?_
  refine WQ.then_normal (hK46 _ _ _ ?_)
  refine WP.seq (fun K50 hK50 => ?_)
  refine WP.seq (fun K51 hK51 => ?_)
  refine WP.region ?_
  refine WL.runk 1 [3, 27] [(3, .pointer (some ⟨b10, 0, none⟩)), (27, .pointer (some ⟨b2, 4, none⟩))] (by kernel_rfl) ?_
  refine WL.st (.int .i64 a_0.Hours) (ST.load (cell_ext (SH.boxAt (SH.front 1 hS43) 4 _ rfl)) rfl rfl Try.underlying2 rfl) rfl rfl rfl ?_
  refine WL.runk 1 [28, 29] [(28, .int .i64 a_0.Hours), (29, .pointer (some ⟨b10, 4, none⟩))] (by kernel_rfl) ?_
  refine WL.st (.int .i64 b_1.Hours) (ST.load (cell_ext (SH.boxAt (SH.front 0 hS43) 4 _ rfl)) rfl rfl Try.underlying2 rfl) rfl rfl rfl ?_
  refine WL.runk 1 [31] [(31, .bool (a_0.Hours != b_1.Hours))] (by kernel_rfl) ?_
  refine WL.nil ?_
  refine WQ.then_normal (hK51 _ _ _ ?_)
  refine WP.cond (a_0.Hours != b_1.Hours) rfl rfl (fun hc52 => ?_) (fun hc52 => ?_)
  · have hm := iteT hm hc52
    refine WP.seq (fun K53 hK53 => ?_)
    refine WP.region ?_
    refine WL.runk 1 [4] [(4, .bool false)] (by kernel_rfl) ?_
    refine WL.nil ?_
    refine WQ.then_normal (hK53 _ _ _ ?_)
    refine WP.ret ?_
    refine WQ.then_ret ?_
    obtain rfl := Option.some.inj hm
    exact WQ.ret1 _ rfl rfl ⟨rfl, hb41⟩
  have hm := iteF hm hc52
  refine WP.skip ?_
  refine WQ.then_normal (hK50 _ _ _ ?_)
  refine WP.seq (fun K54 hK54 => ?_)
  refine WP.region ?_
  refine WL.runk 1 [4] [(4, .bool true)] (by kernel_rfl) ?_
  refine WL.nil ?_
  refine WQ.then_normal (hK54 _ _ _ ?_)
  refine WP.ret ?_
  obtain rfl := Option.some.inj hm
  exact WQ.ret1 _ rfl rfl ⟨rfl, hb41⟩

theorem c_32 (n : Nat) (a_0 : List SRepair) (a0' : Option Addr) (c0' : Nat) (b_1 : List SRepair) (a1' : Option Addr) (c1' : Nat) (w : World) {r : Bool} (hm : m_laws_eqRepairS n a_0 b_1 = some r) (h0 : Rd fRepair.ty w a0' a_0) (_hle0 : a_0.length ≤ c0') (h1 : Rd fRepair.ty w a1' b_1) (_hle1 : b_1.length ≤ c1') :
    CallV Try.prog 32 #[.slice a0' a_0.length c0', .slice a1' b_1.length c1'] w (fun v w' => v = .bool r ∧ Ext w w') := by
  unfold m_laws_eqRepairS at hm
  refine CallV.enter Try.func32 rfl (by kernel_rfl) Try.ntmps32 (env := [(0, .slice a0' a_0.length c0'), (1, .slice a1' b_1.length c1')]) ⟨rfl, rfl, trivial⟩ ?_
  refine WP.seq (fun K1 hK1 => ?_)
  refine WP.region ?_
  refine WL.runk 1 [0, 1] [(0, .slice a0' a_0.length c0'), (1, .slice a1' b_1.length c1')] (by kernel_rfl) ?_
  refine WL.nil ?_
  refine WQ.then_normal (hK1 _ _ _ ?_)
  refine WP.seq (fun K2 hK2 => ?_)
  refine WP.seq (fun K3 hK3 => ?_)
  refine WP.region ?_
  refine WL.runk 5 [0, 1, 10] [(0, .slice a0' a_0.length c0'), (1, .slice a1' b_1.length c1'), (10, .bool ((a_0.length : Int) != (b_1.length : Int)))] (by kernel_rfl) ?_
  refine WL.nil ?_
  refine WQ.then_normal (hK3 _ _ _ ?_)
  refine WP.cond ((a_0.length : Int) != (b_1.length : Int)) rfl rfl (fun hc4 => ?_) (fun hc4 => ?_)
  · have hm := iteT hm hc4
    refine WP.seq (fun K5 hK5 => ?_)
    refine WP.region ?_
    refine WL.runk 1 [4] [(4, .bool false)] (by kernel_rfl) ?_
    refine WL.nil ?_
    refine WQ.then_normal (hK5 _ _ _ ?_)
    refine WP.ret ?_
    refine WQ.then_ret ?_
    obtain rfl := Option.some.inj hm
    exact WQ.ret1 _ rfl rfl ⟨rfl, (Ext.refl w)⟩
  have hm := iteF hm hc4
  refine WP.skip ?_
  refine WQ.then_normal (hK2 _ _ _ ?_)
  refine WP.seq (fun K6 hK6 => ?_)
  refine WP.seq (fun K7 hK7 => ?_)
  refine WP.region ?_
  refine WL.runk 1 [0, 1, 5] [(0, .slice a0' a_0.length c0'), (1, .slice a1' b_1.length c1'), (5, .int .i64 0)] (by kernel_rfl) ?_
  refine WL.nil ?_
  refine WQ.then_normal (hK7 _ _ _ ?_)
  refine WP.block ?_
  obtain ⟨t19, ht20, hm⟩ := bindE hm
  have hmo14 := hm; clear hm
  refine WP.sub [(0, .slice a0' a_0.length c0'), (1, .slice a1' b_1.length c1'), (5, .int .i64 0)] ⟨rfl, rfl, rfl, trivial⟩ ?_
  refine WP.loop (fun n' env' w' => ∃ (st8 : Int) , env' = [(0, .slice a0' a_0.length c0'), (1, .slice a1' b_1.length c1'), (5, .int .i64 st8)] ∧ Ext w w' ∧ w.heap.size ≤ w'.heap.size ∧ SH w' w.heap.size [] ∧ loopN (m_laws_eqRepairS_l1 n a_0 b_1) n' st8 = some t19) n ⟨0, rfl, (Ext.refl w), (Nat.le_refl _), (SH.nil _ _), ht20⟩ ?_
  rintro n16 _ w9 ⟨st8, rfl, hb10, hL11, hS12, hl13⟩ K15 hK15
  obtain ⟨n17, s18, rfl, hm, hl13⟩ := loopN_some hl13
  unfold m_laws_eqRepairS_l1 at hm
  refine WP.seq (fun K21 hK21 => ?_)
  refine WP.seq (fun K22 hK22 => ?_)
  refine WP.region ?_
  refine WL.runk 4 [0, 1, 5, 14] [(0, .slice a0' a_0.length c0'), (1, .slice a1' b_1.length c1'), (5, .int .i64 st8), (14, .bool (decide (st8 < (a_0.length : Int))))] (by kernel_rfl) ?_
  refine WL.nil ?_
  refine WQ.then_normal (hK22 _ _ _ ?_)
  refine WP.cond (decide (st8 < (a_0.length : Int))) rfl rfl (fun hc23 => ?_) (fun hc23 => ?_)
  rotate_left
  · have hm := iteF hm hc23
    refine WP.exit ?_
    refine WQ.then_exit ?_
    refine WQ.then_exit ?_
    refine WQ.block_here ?_
    obtain rfl := Option.some.inj hm
    obtain rfl := afterN_done hl13
    have hm := hmo14
    refine WQ.then_normal (hK6 _ _ _ ?_)
    refine WP.seq (fun K63 hK63 => ?_)
    refine WP.region ?_
    refine WL.runk 1 [4] [(4, .bool true)] (by kernel_rfl) ?_
    refine WL.nil ?_
    refine WQ.then_normal (hK63 _ _ _ ?_)
    refine WP.ret ?_
    obtain rfl := Option.some.inj hm
    exact WQ.ret1 _ rfl rfl ⟨rfl, hb10⟩
  have hm := iteT hm hc23
  refine WP.skip ?_
  refine WQ.then_normal (hK21 _ _ _ ?_)
  refine WP.seq (fun K24 hK24 => ?_)
  refine WP.block ?_
  refine WP.seq (fun K25 hK25 => ?_)
  refine WP.quiet (by kernel_rfl) (by kernel_rfl) ?_
  refine QL.step1v 17 (.slice a0' a_0.length c0') rfl (fun _ => by kernel_rfl) ?_
  refine QL.step1v 18 (.int .i64 st8) rfl (fun _ => by kernel_rfl) ?_
  refine QL.subk [0, 1, 5, 17, 18] [(0, .slice a0' a_0.length c0'), (1, .slice a1' b_1.length c1'), (5, .int .i64 st8), (17, .slice a0' a_0.length c0'), (18, .int .i64 st8)] (by kernel_rfl) ?_
  obtain ⟨x26, hx27, hm⟩ := bindE hm
  obtain ⟨a28, c29, a33, c34, hc38, hR30, hle31, hR35, hle36⟩ := nest_Repair h0 hx27
  refine QL.st (.pointer (some (at_ a0' (Int.toNat st8 * 5)))) (ST.index (T := fRepair.ty) (xs := a_0) (Rd.below h0 hb10) hx27 rfl rfl rfl Try.underlying24 (info73).1 (info73).2.1) rfl rfl rfl ?_
  refine QL.st (.agg #[.string (bs x26.Name), .slice a28 x26.Mends.length c29, .slice a33 x26.First.length c34, .int .i64 x26.Price, .int .i64 x26.Hours]) (ST.loadAgg (vs := [.string (bs x26.Name), .slice a28 x26.Mends.length c29, .slice a33 x26.First.length c34, .int .i64 x26.Price, .int .i64 x26.Hours]) (at_agg (cells_ext hc38 hb10)) rfl rfl rfl Try.underlying73 rfl (info73).1 (info73).2.1) rfl rfl rfl ?_
  refine QL.step1v 21 (.slice a1' b_1.length c1') rfl (fun _ => by kernel_rfl) ?_
  refine QL.step1v 22 (.int .i64 st8) rfl (fun _ => by kernel_rfl) ?_
  refine QL.subk [0, 1, 5, 20, 21, 22] [(0, .slice a0' a_0.length c0'), (1, .slice a1' b_1.length c1'), (5, .int .i64 st8), (20, .agg #[.string (bs x26.Name), .slice a28 x26.Mends.length c29, .slice a33 x26.First.length c34, .int .i64 x26.Price, .int .i64 x26.Hours]), (21, .slice a1' b_1.length c1'), (22, .int .i64 st8)] (by kernel_rfl) ?_
  obtain ⟨x39, hx40, hm⟩ := bindE hm
  obtain ⟨a41, c42, a46, c47, hc51, hR43, hle44, hR48, hle49⟩ := nest_Repair h1 hx40
  refine QL.st (.pointer (some (at_ a1' (Int.toNat st8 * 5)))) (ST.index (T := fRepair.ty) (xs := b_1) (Rd.below h1 hb10) hx40 rfl rfl rfl Try.underlying24 (info73).1 (info73).2.1) rfl rfl rfl ?_
  refine QL.st (.agg #[.string (bs x39.Name), .slice a41 x39.Mends.length c42, .slice a46 x39.First.length c47, .int .i64 x39.Price, .int .i64 x39.Hours]) (ST.loadAgg (vs := [.string (bs x39.Name), .slice a41 x39.Mends.length c42, .slice a46 x39.First.length c47, .int .i64 x39.Price, .int .i64 x39.Hours]) (at_agg (cells_ext hc51 hb10)) rfl rfl rfl Try.underlying73 rfl (info73).1 (info73).2.1) rfl rfl rfl ?_
  obtain ⟨x52, hx53, hm⟩ := bindE hm
  refine QL.call 73 #[.agg #[.string (bs x26.Name), .slice a28 x26.Mends.length c29, .slice a33 x26.First.length c34, .int .i64 x26.Price, .int .i64 x26.Hours], .agg #[.string (bs x39.Name), .slice a41 x39.Mends.length c42, .slice a46 x39.First.length c47, .int .i64 x39.Price, .int .i64 x39.Hours]] (.bool x52) (fun _ => by kernel_rfl) (fun w54 hE55 => c_73 n x26 a28 c29 a33 c34 x39 a41 c42 a46 c47 w54 hx53 (Rd.below (Rd.below hR30 hb10) hE55) hle31 (Rd.below (Rd.below hR35 hb10) hE55) hle36 (Rd.below (Rd.below hR43 hb10) hE55) hle44 (Rd.below (Rd.below hR48 hb10) hE55) hle49) rfl rfl rfl ?_
  refine QL.step1v 26 (.bool (!x52)) rfl (fun _ => by kernel_rfl) ?_
  refine QL.subk [0, 1, 5, 26] [(0, .slice a0' a_0.length c0'), (1, .slice a1' b_1.length c1'), (5, .int .i64 st8), (26, .bool (!x52))] (by kernel_rfl) ?_
  refine QL.nil ?_
  intro w56 hE57
  have hb58 : Ext w w56 := Ext.trans hb10 hE57
  have hL59 : w.heap.size ≤ w56.heap.size := Nat.le_trans hL11 hE57.size
  have hS60 : SH w56 w.heap.size [] := SH.ext hS12 hE57
  refine WQ.then_normal (hK25 _ _ _ ?_)
  refine WP.cond (!x52) rfl rfl (fun hc61 => ?_) (fun hc61 => ?_)
  rotate_left
  · have hm := iteF hm hc61
    refine WP.skip ?_
    refine WQ.block_normal ?_
    refine WQ.then_normal (hK24 _ _ _ ?_)
    refine WP.region ?_
    refine WL.runk 3 [0, 1, 5] [(0, .slice a0' a_0.length c0'), (1, .slice a1' b_1.length c1'), (5, .int .i64 (wI64 (st8 + 1)))] (by kernel_rfl) ?_
    refine WL.nil ?_
    obtain rfl := Option.some.inj hm
    exact WQ.round hK15 ⟨(wI64 (st8 + 1)), rfl, hb58, hL59, hS60, hl13⟩ (Nat.lt_succ_self _) ⟨rfl, rfl, rfl, trivial⟩
  have hm := iteT hm hc61
  refine WP.seq (fun K62 hK62 => ?_)
  refine WP.region ?_
  refine WL.runk 1 [4] [(4, .bool false)] (by kernel_rfl) ?_
  refine WL.nil ?_
  refine WQ.then_normal (hK62 _ _ _ ?_)
  refine WP.ret ?_
  refine WQ.block_ret ?_
  refine WQ.then_ret ?_
  refine WQ.then_ret ?_
  refine WQ.block_ret ?_
  refine WQ.then_ret ?_
  obtain rfl := Option.some.inj hm
  obtain rfl := afterN_done hl13
  have hm := hmo14
  obtain rfl := Option.some.inj hm
  exact WQ.ret1 _ rfl rfl ⟨rfl, hb58⟩

theorem c_13 (n : Nat) (aList_0 : List SRepair) (a0' : Option Addr) (c0' : Nat) (aFaults_1 : List Int) (a1' : Option Addr) (c1' : Nat) (aValue_2 : Int) (aPercent_3 : Int) (w : World) {r : Bool} (hm : m_laws_FnExactIsWorthwhile n aList_0 aFaults_1 aValue_2 aPercent_3 = some r) (h0 : Rd fRepair.ty w a0' aList_0) (hle0 : aList_0.length ≤ c0') (h1 : Rd fInt.ty w a1' aFaults_1) (hle1 : aFaults_1.length ≤ c1') :
    CallV Try.prog 13 #[.slice a0' aList_0.length c0', .slice a1' aFaults_1.length c1', .int .i64 aValue_2, .int .i64 aPercent_3] w (fun v w' => v = .bool r ∧ Ext w w') := by
  unfold m_laws_FnExactIsWorthwhile at hm
  refine CallV.enter Try.func13 rfl (by kernel_rfl) Try.ntmps13 (env := [(0, .slice a0' aList_0.length c0'), (1, .slice a1' aFaults_1.length c1'), (2, .int .i64 aValue_2), (3, .int .i64 aPercent_3)]) ⟨rfl, rfl, rfl, rfl, trivial⟩ ?_
  refine WP.seq (fun K1 hK1 => ?_)
  refine WP.region ?_
  refine WL.runk 1 [0, 1, 2, 3] [(0, .slice a0' aList_0.length c0'), (1, .slice a1' aFaults_1.length c1'), (2, .int .i64 aValue_2), (3, .int .i64 aPercent_3)] (by kernel_rfl) ?_
  refine WL.nil ?_
  refine WQ.then_normal (hK1 _ _ _ ?_)
  refine WP.seq (fun K2 hK2 => ?_)
  refine WP.seq (fun K3 hK3 => ?_)
  refine WP.region ?_
  refine WL.runk 3 [0, 1, 2, 3, 18] [(0, .slice a0' aList_0.length c0'), (1, .slice a1' aFaults_1.length c1'), (2, .int .i64 aValue_2), (3, .int .i64 aPercent_3), (18, .bool (decide ((aFaults_1.length : Int) > 1048576)))] (by kernel_rfl) ?_
  refine WL.nil ?_
  refine WQ.then_normal (hK3 _ _ _ ?_)
  refine WP.cond (decide ((aFaults_1.length : Int) > 1048576)) rfl rfl (fun hc4 => ?_) (fun hc4 => ?_)
  · have hm := iteT hm hc4
    refine WP.seq (fun K5 hK5 => ?_)
    refine WP.region ?_
    refine WL.runk 1 [8] [(8, .bool true)] (by kernel_rfl) ?_
    refine WL.nil ?_
    refine WQ.then_normal (hK5 _ _ _ ?_)
    refine WP.ret ?_
    refine WQ.then_ret ?_
    obtain rfl := Option.some.inj hm
    exact WQ.ret1 _ rfl rfl ⟨rfl, (Ext.refl w)⟩
  have hm := iteF hm hc4
  refine WP.skip ?_
  refine WQ.then_normal (hK2 _ _ _ ?_)
  refine WP.seq (fun K6 hK6 => ?_)
  refine WP.region ?_
  refine WL.runk 1 [0, 1, 2, 3, 9] [(0, .slice a0' aList_0.length c0'), (1, .slice a1' aFaults_1.length c1'), (2, .int .i64 aValue_2), (3, .int .i64 aPercent_3), (9, .int .i64 1048576)] (by kernel_rfl) ?_
  refine WL.nil ?_
  refine WQ.then_normal (hK6 _ _ _ ?_)
  refine WP.seq (fun K7 hK7 => ?_)
  refine WP.region ?_
  refine WL.runk 2 [0, 1, 2, 3, 19, 20] [(0, .slice a0' aList_0.length c0'), (1, .slice a1' aFaults_1.length c1'), (2, .int .i64 aValue_2), (3, .int .i64 aPercent_3), (19, .slice a0' aList_0.length c0'), (20, .int .i64 1048576)] (by kernel_rfl) ?_
  obtain ⟨x8, hx9, hm⟩ := bindE hm
  refine WL.call 28 #[.slice a0' aList_0.length c0', .int .i64 1048576] rfl rfl (by kernel_rfl) (c_28 n aList_0 a0' c0' 1048576 w hx9 (Rd.below h0 (Ext.refl w)) hle0) ?_
  rintro _ w10 ⟨rfl, hE11⟩
  refine ⟨_, rfl, ?_⟩
  have hb13 : Ext w w10 := Ext.trans (Ext.refl w) hE11
  have hL14 : w.heap.size ≤ w10.heap.size := Nat.le_trans (Nat.le_refl _) hE11.size
  have hS15 : SH w10 w.heap.size [] := SH.ext (SH.nil _ _) hE11
  refine WL.runk 1 [0, 1, 2, 3, 9] [(0, .slice a0' aList_0.length c0'), (1, .slice a1' aFaults_1.length c1'), (2, .int .i64 aValue_2), (3, .int .i64 aPercent_3), (9, .int .i64 x8)] (by kernel_rfl) ?_
  refine WL.nil ?_
  refine WQ.then_normal (hK7 _ _ _ ?_)
  refine WP.seq (fun K16 hK16 => ?_)
  refine WP.seq (fun K17 hK17 => ?_)
  refine WP.region ?_
  refine WL.runk 2 [0, 1, 2, 3, 23] [(0, .slice a0' aList_0.length c0'), (1, .slice a1' aFaults_1.length c1'), (2, .int .i64 aValue_2), (3, .int .i64 aPercent_3), (23, .bool (decide (x8 < 0)))] (by kernel_rfl) ?_
  refine WL.nil ?_
  refine WQ.then_normal (hK17 _ _ _ ?_)
  refine WP.cond (decide (x8 < 0)) rfl rfl (fun hc18 => ?_) (fun hc18 => ?_)
  · have hm := iteT hm hc18
    refine WP.seq (fun K19 hK19 => ?_)
    refine WP.region ?_
    refine WL.runk 1 [8] [(8, .bool true)] (by kernel_rfl) ?_
    refine WL.nil ?_
    refine WQ.then_normal (hK19 _ _ _ ?_)
    refine WP.ret ?_
    refine WQ.then_ret ?_
    obtain rfl := Option.some.inj hm
    exact WQ.ret1 _ rfl rfl ⟨rfl, hb13⟩
  have hm := iteF hm hc18
  refine WP.skip ?_
  refine WQ.then_normal (hK16 _ _ _ ?_)
  refine WP.seq (fun K20 hK20 => ?_)
  refine WP.region ?_
  refine WL.runk 1 [0, 1, 2, 3, 25] [(0, .slice a0' aList_0.length c0'), (1, .slice a1' aFaults_1.length c1'), (2, .int .i64 aValue_2), (3, .int .i64 aPercent_3), (25, .slice a0' aList_0.length c0')] (by kernel_rfl) ?_
  obtain ⟨x21, hx22, hm⟩ := bindE hm
  refine WL.call 30 #[.slice a0' aList_0.length c0'] rfl rfl (by kernel_rfl) (c_30 n aList_0 a0' c0' w10 hx22 (Rd.below h0 hb13) hle0) ?_
  rintro _ w26 ⟨a23, c24, rfl, hE27, hR28⟩
  refine ⟨_, rfl, ?_⟩
  have hb29 : Ext w w26 := Ext.trans hb13 hE27
  have hL30 : w.heap.size ≤ w26.heap.size := Nat.le_trans hL14 hE27.size
  have hS31 : SH w26 w.heap.size [aNest fRepair 73 2 a23 c24 x21] := SH.add hS15 hE27 hL14 hR28
  refine WL.runk 1 [0, 1, 2, 3, 26, 27] [(0, .slice a0' aList_0.length c0'), (1, .slice a1' aFaults_1.length c1'), (2, .int .i64 aValue_2), (3, .int .i64 aPercent_3), (26, .slice a23 x21.length c24), (27, .slice a1' aFaults_1.length c1')] (by kernel_rfl) ?_
  obtain ⟨x32, hx33, hm⟩ := bindE hm
  refine WL.call 36 #[.slice a1' aFaults_1.length c1'] rfl rfl (by kernel_rfl) (c_36 n aFaults_1 a1' c1' w26 hx33 (Rd.below h1 hb29) hle1) ?_
  rintro _ w37 ⟨a34, c35, rfl, hE38, hR39⟩
  refine ⟨_, rfl, ?_⟩
  have hb40 : Ext w w37 := Ext.trans hb29 hE38
  have hL41 : w.heap.size ≤ w37.heap.size := Nat.le_trans hL30 hE38.size
  have hS42 : SH w37 w.heap.size [aOwn fInt 2 a34 c35 x32, aNest fRepair 73 2 a23 c24 x21] := SH.add hS31 hE38 hL30 hR39
  refine WL.runk 2 [0, 1, 2, 3, 26, 28, 29, 30] [(0, .slice a0' aList_0.length c0'), (1, .slice a1' aFaults_1.length c1'), (2, .int .i64 aValue_2), (3, .int .i64 aPercent_3), (26, .slice a23 x21.length c24), (28, .slice a34 x32.length c35), (29, .int .i64 aValue_2), (30, .int .i64 aPercent_3)] (by kernel_rfl) ?_
  obtain ⟨x43, hx44, hm⟩ := bindE hm
  refine WL.call 25 #[.slice a23 x21.length c24, .slice a34 x32.length c35, .int .i64 aValue_2, .int .i64 aPercent_3] rfl rfl (by kernel_rfl) (c_25 n x21 a23 c24 x32 a34 c35 aValue_2 aPercent_3 w37 hx44 (SH.rdN (SH.front 1 hS42)) (SH.leN (SH.front 1 hS42)).1 (SH.rd (SH.front 0 hS42)) (SH.le (SH.front 0 hS42)).1) ?_
  rintro _ w45 ⟨rfl, hE46⟩
  refine ⟨_, rfl, ?_⟩
  have hb48 : Ext w w45 := Ext.trans hb40 hE46
  have hL49 : w.heap.size ≤ w45.heap.size := Nat.le_trans hL41 hE46.size
  have hS50 : SH w45 w.heap.size [aOwn fInt 2 a34 c35 x32, aNest fRepair 73 2 a23 c24 x21] := SH.ext hS42 hE46
  refine WL.runk 5 [0, 1, 2, 3, 10, 11] [(0, .slice a0' aList_0.length c0'), (1, .slice a1' aFaults_1.length c1'), (2, .int .i64 aValue_2), (3, .int .i64 aPercent_3), (10, .bool x43.1), (11, .int .i64 x43.2)] (by kernel_rfl) ?_
  refine WL.nil ?_
  refine WQ.then_normal (hK20 _ _ _ ?_)
  refine WP.seq (fun K51 hK51 => ?_)
  refine WP.region ?_
  refine WL.runk 1 [0, 1, 2, 3, 10, 11, 34] [(0, .slice a0' aList_0.length c0'), (1, .slice a1' aFaults_1.length c1'), (2, .int .i64 aValue_2), (3, .int .i64 aPercent_3), (10, .bool x43.1), (11, .int .i64 x43.2), (34, .slice a0' aList_0.length c0')] (by kernel_rfl) ?_
  obtain ⟨x52, hx53, hm⟩ := bindE hm
  refine WL.call 30 #[.slice a0' aList_0.length c0'] rfl rfl (by kernel_rfl) (c_30 n aList_0 a0' c0' w45 hx53 (Rd.below h0 hb48) hle0) ?_
  rintro _ w57 ⟨a54, c55, rfl, hE58, hR59⟩
  refine ⟨_, rfl, ?_⟩
  have hb60 : Ext w w57 := Ext.trans hb48 hE58
  have hL61 : w.heap.size ≤ w57.heap.size := Nat.le_trans hL49 hE58.size
  have hS62 : SH w57 w.heap.size [aNest fRepair 73 2 a54 c55 x52, aOwn fInt 2 a34 c35 x32, aNest fRepair 73 2 a23 c24 x21] := SH.add hS50 hE58 hL49 hR59
  refine WL.runk 1 [0, 1, 2, 3, 10, 11, 12] [(0, .slice a0' aList_0.length c0'), (1, .slice a1' aFaults_1.length c1'), (2, .int .i64 aValue_2), (3, .int .i64 aPercent_3), (10, .bool x43.1), (11, .int .i64 x43.2), (12, .slice a54 x52.length c55)] (by kernel_rfl) ?_
  refine WL.nil ?_
  refine WQ.then_normal (hK51 _ _ _ ?_)
  refine WP.seq (fun K63 hK63 => ?_)
  refine WP.region ?_
  refine WL.runk 1 [0, 1, 2, 3, 10, 11, 12, 36] [(0, .slice a0' aList_0.length c0'), (1, .slice a1' aFaults_1.length c1'), (2, .int .i64 aValue_2), (3, .int .i64 aPercent_3), (10, .bool x43.1), (11, .int .i64 x43.2), (12, .slice a54 x52.length c55), (36, .slice a1' aFaults_1.length c1')] (by kernel_rfl) ?_
  obtain ⟨x64, hx65, hm⟩ := bindE hm
  refine WL.call 36 #[.slice a1' aFaults_1.length c1'] rfl rfl (by kernel_rfl) (c_36 n aFaults_1 a1' c1' w57 hx65 (Rd.below h1 hb60) hle1) ?_
  rintro _ w69 ⟨a66, c67, rfl, hE70, hR71⟩
  refine ⟨_, rfl, ?_⟩
  have hb72 : Ext w w69 := Ext.trans hb60 hE70
  have hL73 : w.heap.size ≤ w69.heap.size := Nat.le_trans hL61 hE70.size
  have hS74 : SH w69 w.heap.size [aOwn fInt 2 a66 c67 x64, aNest fRepair 73 2 a54 c55 x52, aOwn fInt 2 a34 c35 x32, aNest fRepair 73 2 a23 c24 x21] := SH.add hS62 hE70 hL61 hR71
  refine WL.runk 1 [0, 1, 2, 3, 10, 11, 12, 13] [(0, .slice a0' aList_0.length c0'), (1, .slice a1' aFaults_1.length c1'), (2, .int .i64 aValue_2), (3, .int .i64 aPercent_3), (10, .bool x43.1), (11, .int .i64 x43.2), (12, .slice a54 x52.length c55), (13, .slice a66 x64.length c67)] (by kernel_rfl) ?_
  refine WL.nil ?_
  refine WQ.then_normal (hK63 _ _ _ ?_)
  refine WP.seq (fun K75 hK75 => ?_)
  refine WP.region ?_
  refine WL.runk 4 [0, 1, 10, 11, 12, 13, 39, 40, 41, 42] [(0, .slice a0' aList_0.length c0'), (1, .slice a1' aFaults_1.length c1'), (10, .bool x43.1), (11, .int .i64 x43.2), (12, .slice a54 x52.length c55), (13, .slice a66 x64.length c67), (39, .slice a54 x52.length c55), (40, .slice a66 x64.length c67), (41, .int .i64 aValue_2), (42, .int .i64 aPercent_3)] (by kernel_rfl) ?_
  obtain ⟨x76, hx77, hm⟩ := bindE hm
  refine WL.call 24 #[.slice a54 x52.length c55, .slice a66 x64.length c67, .int .i64 aValue_2, .int .i64 aPercent_3] rfl rfl (by kernel_rfl) (c_24 n x52 a54 c55 x64 a66 c67 aValue_2 aPercent_3 w69 hx77 (SH.rdN (SH.front 1 hS74)) (SH.leN (SH.front 1 hS74)).1 (SH.rd (SH.front 0 hS74)) (SH.le (SH.front 0 hS74)).1) ?_
  rintro _ w78 ⟨rfl, hE79⟩
  refine ⟨_, rfl, ?_⟩
  have hb81 : Ext w w78 := Ext.trans hb72 hE79
  have hL82 : w.heap.size ≤ w78.heap.size := Nat.le_trans hL73 hE79.size
  have hS83 : SH w78 w.heap.size [aOwn fInt 2 a66 c67 x64, aNest fRepair 73 2 a54 c55 x52, aOwn fInt 2 a34 c35 x32, aNest fRepair 73 2 a23 c24 x21] := SH.ext hS74 hE79
  refine WL.runk 5 [0, 1, 10, 11, 12, 13, 14, 15] [(0, .slice a0' aList_0.length c0'), (1, .slice a1' aFaults_1.length c1'), (10, .bool x43.1), (11, .int .i64 x43.2), (12, .slice a54 x52.length c55), (13, .slice a66 x64.length c67), (14, .bool x76.1), (15, .int .i64 x76.2)] (by kernel_rfl) ?_
  refine WL.nil ?_
  refine WQ.then_normal (hK75 _ _ _ ?_)
  refine WP.seq (fun K84 hK84 => ?_)
  refine WP.seq (fun K85 hK85 => ?_)
  obtain ⟨x87, hx88, hm⟩ := bindE hm
  refine WP.cut (fun env' w' => env' = [(0, .slice a0' aList_0.length c0'), (1, .slice a1' aFaults_1.length c1'), (12, .slice a54 x52.length c55), (13, .slice a66 x64.length c67), (53, .bool x87)] ∧ Ext w w' ∧ w.heap.size ≤ w'.heap.size ∧ SH w' w.heap.size [aOwn fInt 2 a66 c67 x64, aNest fRepair 73 2 a54 c55 x52]) ?_ ?_
  · have hm := hx88; clear hx88
    refine WP.region ?_
    refine WL.runk 4 [0, 1, 11, 12, 13, 15, 49] [(0, .slice a0' aList_0.length c0'), (1, .slice a1' aFaults_1.length c1'), (11, .int .i64 x43.2), (12, .slice a54 x52.length c55), (13, .slice a66 x64.length c67), (15, .int .i64 x76.2), (49, .bool (!(x76.1 == x43.1)))] (by kernel_rfl) ?_
    refine WL.case (!(x76.1 == x43.1)) [49] ⟨rfl, trivial⟩ (fun hc89 => ?_) (fun hc89 => ?_)
    · have hm := iteT hm hc89
      refine WL.runk 4 [0, 1, 12, 13, 53] [(0, .slice a0' aList_0.length c0'), (1, .slice a1' aFaults_1.length c1'), (12, .slice a54 x52.length c55), (13, .slice a66 x64.length c67), (53, .bool true)] (by kernel_rfl) ?_
      refine WL.nil ?_
      obtain rfl := Option.some.inj hm
      exact WQ.post' ⟨rfl, hb81, hL82, (SH.take 2 (SH.front 1 (SH.front 1 hS83)))⟩ ⟨rfl, rfl, rfl, rfl, rfl, trivial⟩
    have hm := iteF hm hc89
    refine WL.runk 4 [0, 1, 12, 13, 53] [(0, .slice a0' aList_0.length c0'), (1, .slice a1' aFaults_1.length c1'), (12, .slice a54 x52.length c55), (13, .slice a66 x64.length c67), (53, .bool (x76.2 != x43.2))] (by kernel_rfl) ?_
    refine WL.nil ?_
    obtain rfl := Option.some.inj hm
    exact WQ.post' ⟨rfl, hb81, hL82, (SH.take 2 (SH.front 1 (SH.front 1 hS83)))⟩ ⟨rfl, rfl, rfl, rfl, rfl, trivial⟩
  clear hx88
  rintro _ w90 ⟨rfl, hb91, hL92, hS93⟩
  refine WQ.then_normal (hK85 _ _ _ ?_)
  refine WP.cond x87 rfl rfl (fun hc94 => ?_) (fun hc94 => ?_)
  · have hm := iteT hm hc94
    refine WP.seq (fun K95 hK95 => ?_)
    refine WP.region ?_
    refine WL.runk 1 [8] [(8, .bool false)] (by kernel_rfl) ?_
    refine WL.nil ?_
    refine WQ.then_normal (hK95 _ _ _ ?_)
    refine WP.ret ?_
    refine WQ.then_ret ?_
    obtain rfl := Option.some.inj hm
    exact WQ.ret1 _ rfl rfl ⟨rfl, hb91⟩
  have hm := iteF hm hc94
  refine WP.skip ?_
  refine WQ.then_normal (hK84 _ _ _ ?_)
  refine WP.seq (fun K96 hK96 => ?_)
  refine WP.seq (fun K97 hK97 => ?_)
  refine WP.region ?_
  refine WL.runk 2 [1, 13, 54, 55] [(1, .slice a1' aFaults_1.length c1'), (13, .slice a66 x64.length c67), (54, .slice a54 x52.length c55), (55, .slice a0' aList_0.length c0')] (by kernel_rfl) ?_
  obtain ⟨x98, hx99, hm⟩ := bindE hm
  refine WL.call 30 #[.slice a0' aList_0.length c0'] rfl rfl (by kernel_rfl) (c_30 n aList_0 a0' c0' w90 hx99 (Rd.below h0 hb91) hle0) ?_
  rintro _ w103 ⟨a100, c101, rfl, hE104, hR105⟩
  refine ⟨_, rfl, ?_⟩
  have hb106 : Ext w w103 := Ext.trans hb91 hE104
  have hL107 : w.heap.size ≤ w103.heap.size := Nat.le_trans hL92 hE104.size
  have hS108 : SH w103 w.heap.size [aNest fRepair 73 2 a100 c101 x98, aOwn fInt 2 a66 c67 x64, aNest fRepair 73 2 a54 c55 x52] := SH.add hS93 hE104 hL92 hR105
  obtain ⟨x109, hx110, hm⟩ := bindE hm
  refine WL.call 32 #[.slice a54 x52.length c55, .slice a100 x98.length c101] rfl rfl (by kernel_rfl) (c_32 n x52 a54 c55 x98 a100 c101 w103 hx110 (SH.rdN (SH.front 2 hS108)) (SH.leN (SH.front 2 hS108)).1 (SH.rdN (SH.front 0 hS108)) (SH.leN (SH.front 0 hS108)).1) ?_
  rintro _ w111 ⟨rfl, hE112⟩
  refine ⟨_, rfl, ?_⟩
  have hb114 : Ext w w111 := Ext.trans hb106 hE112
  have hL115 : w.heap.size ≤ w111.heap.size := Nat.le_trans hL107 hE112.size
  have hS116 : SH w111 w.heap.size [aNest fRepair 73 2 a100 c101 x98, aOwn fInt 2 a66 c67 x64, aNest fRepair 73 2 a54 c55 x52] := SH.ext hS108 hE112
  refine WL.runk 1 [1, 13, 58] [(1, .slice a1' aFaults_1.length c1'), (13, .slice a66 x64.length c67), (58, .bool (!x109))] (by kernel_rfl) ?_
  refine WL.nil ?_
  refine WQ.then_normal (hK97 _ _ _ ?_)
  refine WP.cond (!x109) rfl rfl (fun hc117 => ?_) (fun hc117 => ?_)
  · have hm := iteT hm hc117
    refine WP.seq (fun K118 hK118 => ?_)
    refine WP.region ?_
    refine WL.runk 1 [8] [(8, .bool false)] (by kernel_rfl) ?_
    refine WL.nil ?_
    refine WQ.then_normal (hK118 _ _ _ ?_)
    refine WP.ret ?_
    refine WQ.then_ret ?_
    obtain rfl := Option.some.inj hm
    exact WQ.ret1 _ rfl rfl ⟨rfl, hb114⟩
  have hm := iteF hm hc117
  refine WP.skip ?_
  refine WQ.then_normal (hK96 _ _ _ ?_)
  refine WP.seq (fun K119 hK119 => ?_)
  refine WP.seq (fun K120 hK120 => ?_)
  refine WP.region ?_
  refine WL.runk 2 [59, 60] [(59, .slice a66 x64.length c67), (60, .slice a1' aFaults_1.length c1')] (by kernel_rfl) ?_
  obtain ⟨x121, hx122, hm⟩ := bindE hm
  refine WL.call 36 #[.slice a1' aFaults_1.length c1'] rfl rfl (by kernel_rfl) (c_36 n aFaults_1 a1' c1' w111 hx122 (Rd.below h1 hb114) hle1) ?_
  rintro _ w126 ⟨a123, c124, rfl, hE127, hR128⟩
  refine ⟨_, rfl, ?_⟩
  have hb129 : Ext w w126 := Ext.trans hb114 hE127
  have hL130 : w.heap.size ≤ w126.heap.size := Nat.le_trans hL115 hE127.size
  have hS131 : SH w126 w.heap.size [aOwn fInt 2 a123 c124 x121, aNest fRepair 73 2 a100 c101 x98, aOwn fInt 2 a66 c67 x64, aNest fRepair 73 2 a54 c55 x52] := SH.add hS116 hE127 hL115 hR128
  obtain ⟨x132, hx133, hm⟩ := bindE hm
  refine WL.call 38 #[.slice a66 x64.length c67, .slice a123 x121.length c124] rfl rfl (by kernel_rfl) (c_38 n x64 a66 c67 x121 a123 c124 w126 hx133 (SH.rd (SH.front 2 hS131)) (SH.le (SH.front 2 hS131)).1 (SH.rd (SH.front 0 hS131)) (SH.le (SH.front 0 hS131)).1) ?_
  rintro _ w134 ⟨rfl, hE135⟩
  refine ⟨_, rfl, ?_⟩
  have hb137 : Ext w w134 := Ext.trans hb129 hE135
  have hL138 : w.heap.size ≤ w134.heap.size := Nat.le_trans hL130 hE135.size
  have hS139 : SH w134 w.heap.size [aOwn fInt 2 a123 c124 x121, aNest fRepair 73 2 a100 c101 x98, aOwn fInt 2 a66 c67 x64, aNest fRepair 73 2 a54 c55 x52] := SH.ext hS131 hE135
  refine WL.runk 1 [63] [(63, .bool (!x132))] (by kernel_rfl) ?_
  refine WL.nil ?_
  refine WQ.then_normal (hK120 _ _ _ ?_)
  refine WP.cond (!x132) rfl rfl (fun hc140 => ?_) (fun hc140 => ?_)
  · have hm := iteT hm hc140
    refine WP.seq (fun K141 hK141 => ?_)
    refine WP.region ?_
    refine WL.runk 1 [8] [(8, .bool false)] (by kernel_rfl) ?_
    refine WL.nil ?_
    refine WQ.then_normal (hK141 _ _ _ ?_)
    refine WP.ret ?_
    refine WQ.then_ret ?_
    obtain rfl := Option.some.inj hm
    exact WQ.ret1 _ rfl rfl ⟨rfl, hb137⟩
  have hm := iteF hm hc140
  refine WP.skip ?_
  refine WQ.then_normal (hK119 _ _ _ ?_)
  refine WP.seq (fun K142 hK142 => ?_)
  refine WP.region ?_
  refine WL.runk 1 [8] [(8, .bool true)] (by kernel_rfl) ?_
  refine WL.nil ?_
  refine WQ.then_normal (hK142 _ _ _ ?_)
  refine WP.ret ?_
  obtain rfl := Option.some.inj hm
  exact WQ.ret1 _ rfl rfl ⟨rfl, hb137⟩

end Go.Proofs.Ytkglfbcelaphhaa
