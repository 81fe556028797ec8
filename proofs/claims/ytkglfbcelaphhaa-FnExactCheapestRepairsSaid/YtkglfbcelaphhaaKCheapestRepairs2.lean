/- Each call does what its Lean function says. -/
import Derived.Test.YtkglfbcelaphhaaKCheapestRepairs1
set_option maxRecDepth 20000
set_option maxHeartbeats 40000000
namespace Go.Proofs.Ytkglfbcelaphhaa
open Go Go.Gv Go.RowKit

theorem c_19 (n : Nat) (list_0 : List SRepair) (a0' : Option Addr) (c0' : Nat) (faults_1 : List Int) (a1' : Option Addr) (c1' : Nat) (w : World) {r : List Int × Int} (hm : m_impl_CheapestRepairs n list_0 faults_1 = some r) (h0 : Rd fRepair.ty w a0' list_0) (hle0 : list_0.length ≤ c0') (h1 : Rd fInt.ty w a1' faults_1) (hle1 : faults_1.length ≤ c1') :
    CallV Try.prog 19 #[.slice a0' list_0.length c0', .slice a1' faults_1.length c1'] w (fun v w' => ∃ (ra0 : Option Addr) (rc0 : Nat), v = .tuple #[.slice ra0 r.1.length rc0, .int .i64 r.2] ∧ Ext w w' ∧ SH w' w.heap.size [aOwn fInt 2 ra0 rc0 r.1]) := by
  unfold m_impl_CheapestRepairs at hm
  refine CallV.enter Try.func19 rfl (by kernel_rfl) Try.ntmps19 (env := [(0, .slice a0' list_0.length c0'), (1, .slice a1' faults_1.length c1')]) ⟨rfl, rfl, trivial⟩ ?_
  refine WP.seq (fun K1 hK1 => ?_)
  refine WP.region ?_
  refine WL.runk 2 [0, 1] [(0, .slice a0' list_0.length c0'), (1, .slice a1' faults_1.length c1')] (by kernel_rfl) ?_
  refine WL.nil ?_
  refine WQ.then_normal (hK1 _ _ _ ?_)
  refine WP.seq (fun K2 hK2 => ?_)
  refine WP.seq (fun K3 hK3 => ?_)
  refine WP.region ?_
  refine WL.runk 2 [0, 1, 13, 14] [(0, .slice a0' list_0.length c0'), (1, .slice a1' faults_1.length c1'), (13, .slice a0' list_0.length c0'), (14, .slice a1' faults_1.length c1')] (by kernel_rfl) ?_
  obtain ⟨x4, hx5, hm⟩ := bindE hm
  refine WL.call 50 #[.slice a0' list_0.length c0', .slice none 0 0, .slice a1' faults_1.length c1'] rfl rfl (by kernel_rfl) (c_50 n list_0 a0' c0' ([] : List Int) none 0 faults_1 a1' c1' w hx5 (Rd.below h0 (Ext.refl w)) hle0 (Rd.nil _ _ _) (Nat.zero_le _) (Rd.below h1 (Ext.refl w)) hle1) ?_
  rintro _ w6 ⟨rfl, hE7⟩
  refine ⟨_, rfl, ?_⟩
  have hb9 : Ext w w6 := Ext.trans (Ext.refl w) hE7
  have hL10 : w.heap.size ≤ w6.heap.size := Nat.le_trans (Nat.le_refl _) hE7.size
  have hS11 : SH w6 w.heap.size [] := SH.ext (SH.nil _ _) hE7
  refine WL.runk 1 [0, 1, 6] [(0, .slice a0' list_0.length c0'), (1, .slice a1' faults_1.length c1'), (6, .int .i64 x4)] (by kernel_rfl) ?_
  refine WL.nil ?_
  refine WQ.then_normal (hK3 _ _ _ ?_)
  refine WP.seq (fun K12 hK12 => ?_)
  refine WP.region ?_
  refine WL.runk 2 [0, 1, 6, 17] [(0, .slice a0' list_0.length c0'), (1, .slice a1' faults_1.length c1'), (6, .int .i64 x4), (17, .bool (x4 != 0))] (by kernel_rfl) ?_
  refine WL.nil ?_
  refine WQ.then_normal (hK12 _ _ _ ?_)
  refine WP.cond (x4 != 0) rfl rfl (fun hc13 => ?_) (fun hc13 => ?_)
  · have hm := iteT hm hc13
    refine WP.seq (fun K14 hK14 => ?_)
    refine WP.region ?_
    refine WL.runk 3 [4, 5] [(4, .slice none 0 0), (5, .int .i64 x4)] (by kernel_rfl) ?_
    refine WL.nil ?_
    refine WQ.then_normal (hK14 _ _ _ ?_)
    refine WP.ret ?_
    refine WQ.then_ret ?_
    obtain rfl := Option.some.inj hm
    have hS16 : SH w6 w.heap.size [aOwn fInt 2 none 0 ([] : List Int)] := SH.nilOwn hS11
    exact WQ.ret2 _ _ rfl rfl rfl ⟨_, _, rfl, hb9, hS16⟩
  have hm := iteF hm hc13
  refine WP.skip ?_
  refine WQ.then_normal (hK2 _ _ _ ?_)
  refine WP.seq (fun K17 hK17 => ?_)
  refine WP.region ?_
  refine WL.row fInt 2 ([] : List Int) 0 #[] 19 (by kernel_rfl) rfl rfl rfl rfl rfl rfl rfl ?_
  intro a18 c19 w20 hE21 hR22
  have hb24 : Ext w w20 := Ext.trans hb9 hE21
  have hL25 : w.heap.size ≤ w20.heap.size := Nat.le_trans hL10 hE21.size
  have hS26 : SH w20 w.heap.size [aOwn fInt 2 a18 c19 ([] : List Int)] := SH.add hS11 hE21 hL10 hR22
  refine WL.runk 2 [0, 1, 7, 8] [(0, .slice a0' list_0.length c0'), (1, .slice a1' faults_1.length c1'), (7, .slice a18 (([] : List Int).length) c19), (8, .int .i64 (-1))] (by kernel_rfl) ?_
  refine WL.nil ?_
  refine WQ.then_normal (hK17 _ _ _ ?_)
  refine WP.seq (fun K27 hK27 => ?_)
  refine WP.seq (fun K28 hK28 => ?_)
  refine WP.region ?_
  refine WL.runk 3 [0, 1, 7, 8, 22] [(0, .slice a0' list_0.length c0'), (1, .slice a1' faults_1.length c1'), (7, .slice a18 (([] : List Int).length) c19), (8, .int .i64 (-1)), (22, .int .u64 (IntKind.u64.wrap (list_0.length : Int)))] (by kernel_rfl) ?_
  obtain ⟨x29, hx30, hm⟩ := bindE hm
  refine WL.st (.int .i64 x29) (ST.shl (k := .i64) hx30 rfl rfl rfl) rfl rfl rfl ?_
  refine WL.runk 1 [0, 1, 7, 8, 23, 24] [(0, .slice a0' list_0.length c0'), (1, .slice a1' faults_1.length c1'), (7, .slice a18 (([] : List Int).length) c19), (8, .int .i64 (-1)), (23, .int .i64 x29), (24, .int .i64 0)] (by kernel_rfl) ?_
  refine WL.nil ?_
  refine WQ.then_normal (hK28 _ _ _ ?_)
  refine WP.block ?_
  obtain ⟨t45, ht46, hm⟩ := bindE hm
  have hmo40 := hm; clear hm
  refine WP.sub [(0, .slice a0' list_0.length c0'), (1, .slice a1' faults_1.length c1'), (7, .slice a18 (([] : List Int).length) c19), (8, .int .i64 (-1)), (23, .int .i64 x29), (24, .int .i64 0)] ⟨rfl, rfl, rfl, rfl, rfl, rfl, trivial⟩ ?_
  refine WP.loop (fun n' env' w' => ∃ (st31 : List Int × Int × Int) (a32 : Option Addr) (c33 : Nat), env' = [(0, .slice a0' list_0.length c0'), (1, .slice a1' faults_1.length c1'), (7, .slice a32 st31.1.length c33), (8, .int .i64 st31.2.1), (23, .int .i64 x29), (24, .int .i64 st31.2.2)] ∧ Ext w w' ∧ w.heap.size ≤ w'.heap.size ∧ SH w' w.heap.size [aOwn fInt 2 a32 c33 st31.1] ∧ loopN (m_impl_CheapestRepairs_l1 n list_0 faults_1 x29) n' st31 = some t45) n ⟨(([] : List Int), (-1), 0), _, _, rfl, hb24, hL25, hS26, ht46⟩ ?_
  rintro n42 _ w35 ⟨st31, a32, c33, rfl, hb36, hL37, hS38, hl39⟩ K41 hK41
  obtain ⟨n43, s44, rfl, hm, hl39⟩ := loopN_some hl39
  unfold m_impl_CheapestRepairs_l1 at hm
  refine WP.seq (fun K47 hK47 => ?_)
  refine WP.region ?_
  refine WL.runk 1 [0, 1, 7, 8, 23, 24, 25] [(0, .slice a0' list_0.length c0'), (1, .slice a1' faults_1.length c1'), (7, .slice a32 st31.1.length c33), (8, .int .i64 st31.2.1), (23, .int .i64 x29), (24, .int .i64 st31.2.2), (25, .bool (decide (st31.2.2 < x29)))] (by kernel_rfl) ?_
  refine WL.nil ?_
  refine WQ.then_normal (hK47 _ _ _ ?_)
  refine WP.seq (fun K48 hK48 => ?_)
  refine WP.cond (decide (st31.2.2 < x29)) rfl rfl (fun hc49 => ?_) (fun hc49 => ?_)
  rotate_left
  · have hm := iteF hm hc49
    refine WP.exit ?_
    refine WQ.then_exit ?_
    refine WQ.then_exit ?_
    refine WQ.block_here ?_
    obtain rfl := Option.some.inj hm
    obtain rfl := afterN_done hl39
    have hm := hmo40
    refine WQ.then_normal (hK27 _ _ _ ?_)
    refine WP.seq (fun K270 hK270 => ?_)
    refine WP.seq (fun K271 hK271 => ?_)
    refine WP.region ?_
    refine WL.runk 2 [7, 85] [(7, .slice a32 st31.1.length c33), (85, .bool (decide (st31.2.1 < 0)))] (by kernel_rfl) ?_
    refine WL.nil ?_
    refine WQ.then_normal (hK271 _ _ _ ?_)
    refine WP.cond (decide (st31.2.1 < 0)) rfl rfl (fun hc272 => ?_) (fun hc272 => ?_)
    · have hm := iteT hm hc272
      refine WP.seq (fun K273 hK273 => ?_)
      refine WP.region ?_
      refine WL.runk 2 [4, 5] [(4, .slice none 0 0), (5, .int .i64 3)] (by kernel_rfl) ?_
      refine WL.nil ?_
      refine WQ.then_normal (hK273 _ _ _ ?_)
      refine WP.ret ?_
      refine WQ.then_ret ?_
      obtain rfl := Option.some.inj hm
      have hS275 : SH w35 w.heap.size [aOwn fInt 2 none 0 ([] : List Int), aOwn fInt 2 a32 c33 st31.1] := SH.nilOwn hS38
      exact WQ.ret2 _ _ rfl rfl rfl ⟨_, _, rfl, hb36, (SH.take 1 hS275)⟩
    have hm := iteF hm hc272
    refine WP.skip ?_
    refine WQ.then_normal (hK270 _ _ _ ?_)
    refine WP.seq (fun K276 hK276 => ?_)
    refine WP.region ?_
    refine WL.runk 3 [4, 5] [(4, .slice a32 st31.1.length c33), (5, .int .i64 0)] (by kernel_rfl) ?_
    refine WL.nil ?_
    refine WQ.then_normal (hK276 _ _ _ ?_)
    refine WP.ret ?_
    obtain rfl := Option.some.inj hm
    exact WQ.ret2 _ _ rfl rfl rfl ⟨_, _, rfl, hb36, hS38⟩
  have hm := iteT hm hc49
  refine WP.skip ?_
  refine WQ.then_normal (hK48 _ _ _ ?_)
  refine WP.seq (fun K50 hK50 => ?_)
  refine WP.block ?_
  refine WP.seq (fun K51 hK51 => ?_)
  refine WP.region ?_
  refine WL.runk 2 [0, 1, 7, 8, 9, 23, 24] [(0, .slice a0' list_0.length c0'), (1, .slice a1' faults_1.length c1'), (7, .slice a32 st31.1.length c33), (8, .int .i64 st31.2.1), (23, .int .i64 x29), (24, .int .i64 st31.2.2), (9, .int .i64 st31.2.2)] (by kernel_rfl) ?_
  refine WL.nil ?_
  refine WQ.then_normal (hK51 _ _ _ ?_)
  refine WP.seq (fun K52 hK52 => ?_)
  refine WP.region ?_
  refine WL.row fInt 2 ([] : List Int) 0 #[] 27 (by kernel_rfl) rfl rfl rfl rfl rfl rfl rfl ?_
  intro a53 c54 w55 hE56 hR57
  have hb59 : Ext w w55 := Ext.trans hb36 hE56
  have hL60 : w.heap.size ≤ w55.heap.size := Nat.le_trans hL37 hE56.size
  have hS61 : SH w55 w.heap.size [aOwn fInt 2 a53 c54 ([] : List Int), aOwn fInt 2 a32 c33 st31.1] := SH.add hS38 hE56 hL37 hR57
  refine WL.runk 1 [0, 1, 7, 8, 9, 10, 23, 24] [(0, .slice a0' list_0.length c0'), (1, .slice a1' faults_1.length c1'), (7, .slice a32 st31.1.length c33), (8, .int .i64 st31.2.1), (23, .int .i64 x29), (24, .int .i64 st31.2.2), (9, .int .i64 st31.2.2), (10, .slice a53 (([] : List Int).length) c54)] (by kernel_rfl) ?_
  refine WL.nil ?_
  refine WQ.then_normal (hK52 _ _ _ ?_)
  refine WP.seq (fun K62 hK62 => ?_)
  refine WP.seq (fun K63 hK63 => ?_)
  refine WP.region ?_
  refine WL.runk 3 [0, 1, 7, 8, 9, 10, 23, 24, 29, 30] [(0, .slice a0' list_0.length c0'), (1, .slice a1' faults_1.length c1'), (7, .slice a32 st31.1.length c33), (8, .int .i64 st31.2.1), (23, .int .i64 x29), (24, .int .i64 st31.2.2), (9, .int .i64 st31.2.2), (10, .slice a53 (([] : List Int).length) c54), (29, .int .i64 (list_0.length : Int)), (30, .int .i64 0)] (by kernel_rfl) ?_
  refine WL.nil ?_
  refine WQ.then_normal (hK63 _ _ _ ?_)
  refine WP.block ?_
  obtain ⟨t78, ht79, hm⟩ := bindE hm
  have hmo73 := hm; clear hm
  refine WP.sub [(0, .slice a0' list_0.length c0'), (1, .slice a1' faults_1.length c1'), (7, .slice a32 st31.1.length c33), (8, .int .i64 st31.2.1), (23, .int .i64 x29), (24, .int .i64 st31.2.2), (9, .int .i64 st31.2.2), (10, .slice a53 (([] : List Int).length) c54), (29, .int .i64 (list_0.length : Int)), (30, .int .i64 0)] ⟨rfl, rfl, rfl, rfl, rfl, rfl, rfl, rfl, rfl, rfl, trivial⟩ ?_
  refine WP.loop (fun n' env' w' => ∃ (st64 : List Int × Int) (a65 : Option Addr) (c66 : Nat), env' = [(0, .slice a0' list_0.length c0'), (1, .slice a1' faults_1.length c1'), (7, .slice a32 st31.1.length c33), (8, .int .i64 st31.2.1), (23, .int .i64 x29), (24, .int .i64 st31.2.2), (9, .int .i64 st31.2.2), (10, .slice a65 st64.1.length c66), (29, .int .i64 (list_0.length : Int)), (30, .int .i64 st64.2)] ∧ Ext w w' ∧ w.heap.size ≤ w'.heap.size ∧ SH w' w.heap.size [aOwn fInt 2 a65 c66 st64.1, aOwn fInt 2 a32 c33 st31.1] ∧ loopN (m_impl_CheapestRepairs_l2 n list_0 st31) n' st64 = some t78) n ⟨(([] : List Int), 0), _, _, rfl, hb59, hL60, hS61, ht79⟩ ?_
  rintro n75 _ w68 ⟨st64, a65, c66, rfl, hb69, hL70, hS71, hl72⟩ K74 hK74
  obtain ⟨n76, s77, rfl, hm, hl72⟩ := loopN_some hl72
  unfold m_impl_CheapestRepairs_l2 at hm
  refine WP.seq (fun K80 hK80 => ?_)
  refine WP.region ?_
  refine WL.runk 1 [0, 1, 7, 8, 9, 10, 23, 24, 29, 30, 31] [(0, .slice a0' list_0.length c0'), (1, .slice a1' faults_1.length c1'), (7, .slice a32 st31.1.length c33), (8, .int .i64 st31.2.1), (23, .int .i64 x29), (24, .int .i64 st31.2.2), (9, .int .i64 st31.2.2), (10, .slice a65 st64.1.length c66), (29, .int .i64 (list_0.length : Int)), (30, .int .i64 st64.2), (31, .bool (decide (st64.2 < (list_0.length : Int))))] (by kernel_rfl) ?_
  refine WL.nil ?_
  refine WQ.then_normal (hK80 _ _ _ ?_)
  refine WP.seq (fun K81 hK81 => ?_)
  refine WP.cond (decide (st64.2 < (list_0.length : Int))) rfl rfl (fun hc82 => ?_) (fun hc82 => ?_)
  · have hm := iteT hm hc82
    refine WP.skip ?_
    refine WQ.then_normal (hK81 _ _ _ ?_)
    refine WP.seq (fun K83 hK83 => ?_)
    refine WP.block ?_
    refine WP.seq (fun K84 hK84 => ?_)
    refine WP.region ?_
    refine WL.runk 2 [0, 1, 7, 8, 9, 10, 11, 23, 24, 29, 30] [(0, .slice a0' list_0.length c0'), (1, .slice a1' faults_1.length c1'), (7, .slice a32 st31.1.length c33), (8, .int .i64 st31.2.1), (23, .int .i64 x29), (24, .int .i64 st31.2.2), (9, .int .i64 st31.2.2), (10, .slice a65 st64.1.length c66), (29, .int .i64 (list_0.length : Int)), (30, .int .i64 st64.2), (11, .int .i64 st64.2)] (by kernel_rfl) ?_
    refine WL.nil ?_
    refine WQ.then_normal (hK84 _ _ _ ?_)
    refine WP.seq (fun K85 hK85 => ?_)
    refine WP.region ?_
    refine WL.runk 2 [0, 1, 7, 8, 9, 10, 11, 23, 24, 29, 30, 33, 34] [(0, .slice a0' list_0.length c0'), (1, .slice a1' faults_1.length c1'), (7, .slice a32 st31.1.length c33), (8, .int .i64 st31.2.1), (23, .int .i64 x29), (24, .int .i64 st31.2.2), (9, .int .i64 st31.2.2), (10, .slice a65 st64.1.length c66), (29, .int .i64 (list_0.length : Int)), (30, .int .i64 st64.2), (11, .int .i64 st64.2), (33, .int .i64 st31.2.2), (34, .int .i64 st64.2)] (by kernel_rfl) ?_
    obtain ⟨x86, hx87, hm⟩ := bindE hm
    refine WL.call 54 #[.int .i64 st31.2.2, .int .i64 st64.2] rfl rfl (by kernel_rfl) (c_54 n st31.2.2 st64.2 w68 hx87 ) ?_
    rintro _ w88 ⟨rfl, hE89⟩
    refine ⟨_, rfl, ?_⟩
    have hb91 : Ext w w88 := Ext.trans hb69 hE89
    have hL92 : w.heap.size ≤ w88.heap.size := Nat.le_trans hL70 hE89.size
    have hS93 : SH w88 w.heap.size [aOwn fInt 2 a65 c66 st64.1, aOwn fInt 2 a32 c33 st31.1] := SH.ext hS71 hE89
    refine WL.sub [(0, .slice a0' list_0.length c0'), (1, .slice a1' faults_1.length c1'), (7, .slice a32 st31.1.length c33), (8, .int .i64 st31.2.1), (23, .int .i64 x29), (24, .int .i64 st31.2.2), (9, .int .i64 st31.2.2), (10, .slice a65 st64.1.length c66), (29, .int .i64 (list_0.length : Int)), (30, .int .i64 st64.2), (11, .int .i64 st64.2), (35, .bool x86)] ⟨rfl, rfl, rfl, rfl, rfl, rfl, rfl, rfl, rfl, rfl, rfl, rfl, trivial⟩ ?_
    refine WL.nil ?_
    refine WQ.then_normal (hK85 _ _ _ ?_)
    obtain ⟨x113, hx114, hm⟩ := bindE hm
    refine WP.cut (fun env' w' => ∃ (a115 : Option Addr) (c116 : Nat), env' = [(0, .slice a0' list_0.length c0'), (1, .slice a1' faults_1.length c1'), (7, .slice a32 st31.1.length c33), (8, .int .i64 st31.2.1), (23, .int .i64 x29), (24, .int .i64 st31.2.2), (9, .int .i64 st31.2.2), (10, .slice a115 x113.length c116), (29, .int .i64 (list_0.length : Int)), (30, .int .i64 st64.2)] ∧ Ext w w' ∧ w.heap.size ≤ w'.heap.size ∧ SH w' w.heap.size [aOwn fInt 2 a115 c116 x113, aOwn fInt 2 a32 c33 st31.1]) ?_ ?_
    rotate_left
    · clear hx114
      rintro _ w136 ⟨a115, c116, rfl, hb137, hL138, hS139⟩
      refine WQ.block_normal ?_
      refine WQ.then_normal (hK83 _ _ _ ?_)
      refine WP.region ?_
      refine WL.runk 2 [0, 1, 7, 8, 9, 10, 23, 24, 29, 30] [(0, .slice a0' list_0.length c0'), (1, .slice a1' faults_1.length c1'), (7, .slice a32 st31.1.length c33), (8, .int .i64 st31.2.1), (23, .int .i64 x29), (24, .int .i64 st31.2.2), (9, .int .i64 st31.2.2), (10, .slice a115 x113.length c116), (29, .int .i64 (list_0.length : Int)), (30, .int .i64 (wI64 (st64.2 + 1)))] (by kernel_rfl) ?_
      refine WL.nil ?_
      obtain rfl := Option.some.inj hm
      exact WQ.round hK74 ⟨(x113, (wI64 (st64.2 + 1))), _, _, rfl, hb137, hL138, hS139, hl72⟩ (Nat.lt_succ_self _) ⟨rfl, rfl, rfl, rfl, rfl, rfl, rfl, rfl, rfl, rfl, trivial⟩
    have hm := hx114; clear hx114
    refine WP.cond x86 rfl rfl (fun hc94 => ?_) (fun hc94 => ?_)
    rotate_left
    · have hm := iteF hm hc94
      refine WP.skip ?_
      obtain rfl := Option.some.inj hm
      exact WQ.post' ⟨_, _, rfl, hb91, hL92, hS93⟩ ⟨rfl, rfl, rfl, rfl, rfl, rfl, rfl, rfl, rfl, rfl, trivial⟩
    have hm := iteT hm hc94
    refine WP.region ?_
    refine WL.runk 2 [0, 1, 7, 8, 9, 23, 24, 29, 30, 36, 37] [(0, .slice a0' list_0.length c0'), (1, .slice a1' faults_1.length c1'), (7, .slice a32 st31.1.length c33), (8, .int .i64 st31.2.1), (23, .int .i64 x29), (24, .int .i64 st31.2.2), (9, .int .i64 st31.2.2), (29, .int .i64 (list_0.length : Int)), (30, .int .i64 st64.2), (36, .slice a65 st64.1.length c66), (37, .int .i64 st64.2)] (by kernel_rfl) ?_
    refine WL.row fInt 2 ([st64.2] : List Int) 1 #[.int .i64 st64.2] 38 (by kernel_rfl) rfl rfl rfl rfl rfl rfl rfl ?_
    intro a118 c119 w120 hE121 hR122
    have hb124 : Ext w w120 := Ext.trans hb91 hE121
    have hL125 : w.heap.size ≤ w120.heap.size := Nat.le_trans hL92 hE121.size
    have hS126 : SH w120 w.heap.size [aOwn fInt 2 a118 c119 ([st64.2] : List Int), aOwn fInt 2 a65 c66 st64.1, aOwn fInt 2 a32 c33 st31.1] := SH.add hS93 hE121 hL92 hR122
    obtain ⟨x127, hx128, hm⟩ := bindE hm
    refine WL.append (F := fInt) (xs := st64.1) (ys := ([st64.2] : List Int)) 39 (SH.front 1 hS126) hL125 (SH.rd (SH.front 0 hS126)) hx128 rfl rfl rfl Try.underlying25 (info2).1 (info2).2.2.1 (info2).2.1 (info2).2.2.2 rfl rfl rfl rfl rfl ?_
    intro a129 c130 w131 hB132 hS133
    have hb134 : Ext w w131 := Below.trans hb124 hB132
    have hL135 : w.heap.size ≤ w131.heap.size := Nat.le_trans hL125 hB132.size
    refine WL.runk 1 [0, 1, 7, 8, 9, 10, 23, 24, 29, 30] [(0, .slice a0' list_0.length c0'), (1, .slice a1' faults_1.length c1'), (7, .slice a32 st31.1.length c33), (8, .int .i64 st31.2.1), (23, .int .i64 x29), (24, .int .i64 st31.2.2), (9, .int .i64 st31.2.2), (29, .int .i64 (list_0.length : Int)), (30, .int .i64 st64.2), (10, .slice a129 x127.length c130)] (by kernel_rfl) ?_
    refine WL.nil ?_
    obtain rfl := Option.some.inj hm
    exact WQ.post' ⟨_, _, rfl, hb134, hL135, (SH.take 2 (SH.front 1 (SH.front 2 hS133)))⟩ ⟨rfl, rfl, rfl, rfl, rfl, rfl, rfl, rfl, rfl, rfl, trivial⟩
  have hm := iteF hm hc82
  refine WP.exit ?_
  refine WQ.then_exit ?_
  refine WQ.then_exit ?_
  refine WQ.block_here ?_
  obtain rfl := Option.some.inj hm
  obtain rfl := afterN_done hl72
  have hm := hmo73
  refine WQ.then_normal (hK62 _ _ _ ?_)
  refine WP.seq (fun K140 hK140 => ?_)
  refine WP.seq (fun K141 hK141 => ?_)
  refine WP.region ?_
  refine WL.runk 3 [0, 1, 7, 8, 10, 23, 24, 41, 42, 43] [(0, .slice a0' list_0.length c0'), (1, .slice a1' faults_1.length c1'), (7, .slice a32 st31.1.length c33), (8, .int .i64 st31.2.1), (23, .int .i64 x29), (24, .int .i64 st31.2.2), (10, .slice a65 st64.1.length c66), (41, .slice a0' list_0.length c0'), (42, .slice a65 st64.1.length c66), (43, .slice a1' faults_1.length c1')] (by kernel_rfl) ?_
  obtain ⟨x142, hx143, hm⟩ := bindE hm
  refine WL.call 51 #[.slice a0' list_0.length c0', .slice a65 st64.1.length c66, .slice a1' faults_1.length c1'] rfl rfl (by kernel_rfl) (c_51 n list_0 a0' c0' st64.1 a65 c66 faults_1 a1' c1' w68 hx143 (Rd.below h0 hb69) hle0 (SH.rd (SH.front 0 hS71)) (SH.le (SH.front 0 hS71)).1 (Rd.below h1 hb69) hle1) ?_
  rintro _ w144 ⟨rfl, hE145⟩
  refine ⟨_, rfl, ?_⟩
  have hb147 : Ext w w144 := Ext.trans hb69 hE145
  have hL148 : w.heap.size ≤ w144.heap.size := Nat.le_trans hL70 hE145.size
  have hS149 : SH w144 w.heap.size [aOwn fInt 2 a65 c66 st64.1, aOwn fInt 2 a32 c33 st31.1] := SH.ext hS71 hE145
  refine WL.runk 1 [0, 1, 7, 8, 10, 23, 24, 45] [(0, .slice a0' list_0.length c0'), (1, .slice a1' faults_1.length c1'), (7, .slice a32 st31.1.length c33), (8, .int .i64 st31.2.1), (23, .int .i64 x29), (24, .int .i64 st31.2.2), (10, .slice a65 st64.1.length c66), (45, .bool (!x142))] (by kernel_rfl) ?_
  refine WL.nil ?_
  refine WQ.then_normal (hK141 _ _ _ ?_)
  refine WP.cond (!x142) rfl rfl (fun hc150 => ?_) (fun hc150 => ?_)
  · have hm := iteT hm hc150
    refine WP.exit ?_
    refine WQ.then_exit ?_
    refine WQ.block_here ?_
    refine WQ.then_normal (hK50 _ _ _ ?_)
    refine WP.region ?_
    refine WL.runk 2 [0, 1, 7, 8, 23, 24] [(0, .slice a0' list_0.length c0'), (1, .slice a1' faults_1.length c1'), (7, .slice a32 st31.1.length c33), (8, .int .i64 st31.2.1), (23, .int .i64 x29), (24, .int .i64 (wI64 (st31.2.2 + 1)))] (by kernel_rfl) ?_
    refine WL.nil ?_
    obtain rfl := Option.some.inj hm
    exact WQ.round hK41 ⟨(st31.1, st31.2.1, (wI64 (st31.2.2 + 1))), _, _, rfl, hb147, hL148, (SH.take 1 (SH.front 1 hS149)), hl39⟩ (Nat.lt_succ_self _) ⟨rfl, rfl, rfl, rfl, rfl, rfl, trivial⟩
  have hm := iteF hm hc150
  refine WP.skip ?_
  refine WQ.then_normal (hK140 _ _ _ ?_)
  refine WP.seq (fun K151 hK151 => ?_)
  refine WP.region ?_
  refine WL.runk 2 [0, 1, 7, 8, 10, 23, 24, 46, 47] [(0, .slice a0' list_0.length c0'), (1, .slice a1' faults_1.length c1'), (7, .slice a32 st31.1.length c33), (8, .int .i64 st31.2.1), (23, .int .i64 x29), (24, .int .i64 st31.2.2), (10, .slice a65 st64.1.length c66), (46, .slice a0' list_0.length c0'), (47, .slice a65 st64.1.length c66)] (by kernel_rfl) ?_
  obtain ⟨x152, hx153, hm⟩ := bindE hm
  refine WL.call 55 #[.slice a0' list_0.length c0', .slice a65 st64.1.length c66] rfl rfl (by kernel_rfl) (c_55 n list_0 a0' c0' st64.1 a65 c66 w144 hx153 (Rd.below h0 hb147) hle0 (SH.rd (SH.front 0 hS149)) (SH.le (SH.front 0 hS149)).1) ?_
  rintro _ w154 ⟨rfl, hE155⟩
  refine ⟨_, rfl, ?_⟩
  have hb157 : Ext w w154 := Ext.trans hb147 hE155
  have hL158 : w.heap.size ≤ w154.heap.size := Nat.le_trans hL148 hE155.size
  have hS159 : SH w154 w.heap.size [aOwn fInt 2 a65 c66 st64.1, aOwn fInt 2 a32 c33 st31.1] := SH.ext hS149 hE155
  refine WL.runk 1 [0, 1, 7, 8, 10, 12, 23, 24] [(0, .slice a0' list_0.length c0'), (1, .slice a1' faults_1.length c1'), (7, .slice a32 st31.1.length c33), (8, .int .i64 st31.2.1), (23, .int .i64 x29), (24, .int .i64 st31.2.2), (10, .slice a65 st64.1.length c66), (12, .int .i64 x152)] (by kernel_rfl) ?_
  refine WL.nil ?_
  refine WQ.then_normal (hK151 _ _ _ ?_)
  refine WP.seq (fun K160 hK160 => ?_)
  obtain ⟨x174, hx175, hm⟩ := bindE hm
  refine WP.cut (fun env' w' => env' = [(0, .slice a0' list_0.length c0'), (1, .slice a1' faults_1.length c1'), (7, .slice a32 st31.1.length c33), (8, .int .i64 st31.2.1), (23, .int .i64 x29), (24, .int .i64 st31.2.2), (10, .slice a65 st64.1.length c66), (12, .int .i64 x152), (80, .bool x174)] ∧ Ext w w' ∧ w.heap.size ≤ w'.heap.size ∧ SH w' w.heap.size [aOwn fInt 2 a65 c66 st64.1, aOwn fInt 2 a32 c33 st31.1]) ?_ ?_
  rotate_left
  · clear hx175
    rintro _ w189 ⟨rfl, hb190, hL191, hS192⟩
    refine WQ.then_normal (hK160 _ _ _ ?_)
    obtain ⟨x194, hx195, hm⟩ := bindE hm
    refine WP.cut (fun env' w' => ∃ (a196 : Option Addr) (c197 : Nat), env' = [(0, .slice a0' list_0.length c0'), (1, .slice a1' faults_1.length c1'), (7, .slice a196 x194.1.length c197), (8, .int .i64 x194.2), (23, .int .i64 x29), (24, .int .i64 st31.2.2)] ∧ Ext w w' ∧ w.heap.size ≤ w'.heap.size ∧ SH w' w.heap.size [aOwn fInt 2 a196 c197 x194.1]) ?_ ?_
    rotate_left
    · clear hx195
      rintro _ w199 ⟨a196, c197, rfl, hb200, hL201, hS202⟩
      refine WQ.block_normal ?_
      refine WQ.then_normal (hK50 _ _ _ ?_)
      refine WP.region ?_
      refine WL.runk 2 [0, 1, 7, 8, 23, 24] [(0, .slice a0' list_0.length c0'), (1, .slice a1' faults_1.length c1'), (7, .slice a196 x194.1.length c197), (8, .int .i64 x194.2), (23, .int .i64 x29), (24, .int .i64 (wI64 (st31.2.2 + 1)))] (by kernel_rfl) ?_
      refine WL.nil ?_
      obtain rfl := Option.some.inj hm
      exact WQ.round hK41 ⟨(x194.1, x194.2, (wI64 (st31.2.2 + 1))), _, _, rfl, hb200, hL201, hS202, hl39⟩ (Nat.lt_succ_self _) ⟨rfl, rfl, rfl, rfl, rfl, rfl, trivial⟩
    have hm := hx195; clear hx195
    refine WP.cond x174 rfl rfl (fun hc193 => ?_) (fun hc193 => ?_)
    rotate_left
    · have hm := iteF hm hc193
      refine WP.skip ?_
      obtain rfl := Option.some.inj hm
      exact WQ.post' ⟨_, _, rfl, hb190, hL191, (SH.take 1 (SH.front 1 hS192))⟩ ⟨rfl, rfl, rfl, rfl, rfl, rfl, trivial⟩
    have hm := iteT hm hc193
    refine WP.region ?_
    refine WL.runk 4 [0, 1, 7, 8, 23, 24] [(0, .slice a0' list_0.length c0'), (1, .slice a1' faults_1.length c1'), (7, .slice a65 st64.1.length c66), (8, .int .i64 x152), (23, .int .i64 x29), (24, .int .i64 st31.2.2)] (by kernel_rfl) ?_
    refine WL.nil ?_
    obtain rfl := Option.some.inj hm
    exact WQ.post' ⟨_, _, rfl, hb190, hL191, (SH.take 1 hS192)⟩ ⟨rfl, rfl, rfl, rfl, rfl, rfl, trivial⟩
  have hm := hx175; clear hx175
  refine WP.region ?_
  refine WL.runk 3 [0, 1, 7, 8, 10, 12, 23, 24, 51] [(0, .slice a0' list_0.length c0'), (1, .slice a1' faults_1.length c1'), (7, .slice a32 st31.1.length c33), (8, .int .i64 st31.2.1), (23, .int .i64 x29), (24, .int .i64 st31.2.2), (10, .slice a65 st64.1.length c66), (12, .int .i64 x152), (51, .bool (decide (st31.2.1 < 0)))] (by kernel_rfl) ?_
  refine WL.case (decide (st31.2.1 < 0)) [51] ⟨rfl, trivial⟩ (fun hc176 => ?_) (fun hc176 => ?_)
  · have hm := iteT hm hc176
    refine WL.runk 29 [0, 1, 7, 8, 10, 12, 23, 24, 80] [(0, .slice a0' list_0.length c0'), (1, .slice a1' faults_1.length c1'), (7, .slice a32 st31.1.length c33), (8, .int .i64 st31.2.1), (23, .int .i64 x29), (24, .int .i64 st31.2.2), (10, .slice a65 st64.1.length c66), (12, .int .i64 x152), (80, .bool true)] (by kernel_rfl) ?_
    refine WL.nil ?_
    obtain rfl := Option.some.inj hm
    exact WQ.post' ⟨rfl, hb157, hL158, hS159⟩ ⟨rfl, rfl, rfl, rfl, rfl, rfl, rfl, rfl, rfl, trivial⟩
  have hm := iteF hm hc176
  refine WL.runk 5 [0, 1, 7, 8, 10, 12, 23, 24, 56] [(0, .slice a0' list_0.length c0'), (1, .slice a1' faults_1.length c1'), (7, .slice a32 st31.1.length c33), (8, .int .i64 st31.2.1), (23, .int .i64 x29), (24, .int .i64 st31.2.2), (10, .slice a65 st64.1.length c66), (12, .int .i64 x152), (56, .bool (decide (x152 < st31.2.1)))] (by kernel_rfl) ?_
  refine WL.case (decide (x152 < st31.2.1)) [56] ⟨rfl, trivial⟩ (fun hc177 => ?_) (fun hc177 => ?_)
  · have hm := iteT hm hc177
    refine WL.runk 24 [0, 1, 7, 8, 10, 12, 23, 24, 80] [(0, .slice a0' list_0.length c0'), (1, .slice a1' faults_1.length c1'), (7, .slice a32 st31.1.length c33), (8, .int .i64 st31.2.1), (23, .int .i64 x29), (24, .int .i64 st31.2.2), (10, .slice a65 st64.1.length c66), (12, .int .i64 x152), (80, .bool true)] (by kernel_rfl) ?_
    refine WL.nil ?_
    obtain rfl := Option.some.inj hm
    exact WQ.post' ⟨rfl, hb157, hL158, hS159⟩ ⟨rfl, rfl, rfl, rfl, rfl, rfl, rfl, rfl, rfl, trivial⟩
  have hm := iteF hm hc177
  refine WL.runk 4 [0, 1, 7, 8, 10, 12, 23, 24, 56, 60] [(0, .slice a0' list_0.length c0'), (1, .slice a1' faults_1.length c1'), (7, .slice a32 st31.1.length c33), (8, .int .i64 st31.2.1), (23, .int .i64 x29), (24, .int .i64 st31.2.2), (10, .slice a65 st64.1.length c66), (12, .int .i64 x152), (56, .bool false), (60, .bool (x152 == st31.2.1))] (by kernel_rfl) ?_
  refine WL.case (x152 == st31.2.1) [60] ⟨rfl, trivial⟩ (fun hc178 => ?_) (fun hc178 => ?_)
  rotate_left
  · have hm := iteF hm hc178
    refine WL.runk 20 [0, 1, 7, 8, 10, 12, 23, 24, 80] [(0, .slice a0' list_0.length c0'), (1, .slice a1' faults_1.length c1'), (7, .slice a32 st31.1.length c33), (8, .int .i64 st31.2.1), (23, .int .i64 x29), (24, .int .i64 st31.2.2), (10, .slice a65 st64.1.length c66), (12, .int .i64 x152), (80, .bool false)] (by kernel_rfl) ?_
    refine WL.nil ?_
    obtain rfl := Option.some.inj hm
    exact WQ.post' ⟨rfl, hb157, hL158, hS159⟩ ⟨rfl, rfl, rfl, rfl, rfl, rfl, rfl, rfl, rfl, trivial⟩
  have hm := iteT hm hc178
  refine WL.runk 6 [0, 1, 7, 8, 10, 12, 23, 24, 56, 60, 66] [(0, .slice a0' list_0.length c0'), (1, .slice a1' faults_1.length c1'), (7, .slice a32 st31.1.length c33), (8, .int .i64 st31.2.1), (23, .int .i64 x29), (24, .int .i64 st31.2.2), (10, .slice a65 st64.1.length c66), (12, .int .i64 x152), (56, .bool false), (60, .bool true), (66, .bool (decide ((st64.1.length : Int) < (st31.1.length : Int))))] (by kernel_rfl) ?_
  refine WL.case (decide ((st64.1.length : Int) < (st31.1.length : Int))) [66] ⟨rfl, trivial⟩ (fun hc179 => ?_) (fun hc179 => ?_)
  · have hm := iteT hm hc179
    refine WL.runk 14 [0, 1, 7, 8, 10, 12, 23, 24, 80] [(0, .slice a0' list_0.length c0'), (1, .slice a1' faults_1.length c1'), (7, .slice a32 st31.1.length c33), (8, .int .i64 st31.2.1), (23, .int .i64 x29), (24, .int .i64 st31.2.2), (10, .slice a65 st64.1.length c66), (12, .int .i64 x152), (80, .bool true)] (by kernel_rfl) ?_
    refine WL.nil ?_
    obtain rfl := Option.some.inj hm
    exact WQ.post' ⟨rfl, hb157, hL158, hS159⟩ ⟨rfl, rfl, rfl, rfl, rfl, rfl, rfl, rfl, rfl, trivial⟩
  have hm := iteF hm hc179
  refine WL.runk 6 [0, 1, 7, 8, 10, 12, 23, 24, 56, 60, 66, 72] [(0, .slice a0' list_0.length c0'), (1, .slice a1' faults_1.length c1'), (7, .slice a32 st31.1.length c33), (8, .int .i64 st31.2.1), (23, .int .i64 x29), (24, .int .i64 st31.2.2), (10, .slice a65 st64.1.length c66), (12, .int .i64 x152), (56, .bool false), (60, .bool true), (66, .bool false), (72, .bool ((st64.1.length : Int) == (st31.1.length : Int)))] (by kernel_rfl) ?_
  refine WL.case ((st64.1.length : Int) == (st31.1.length : Int)) [72] ⟨rfl, trivial⟩ (fun hc180 => ?_) (fun hc180 => ?_)
  rotate_left
  · have hm := iteF hm hc180
    refine WL.runk 8 [0, 1, 7, 8, 10, 12, 23, 24, 80] [(0, .slice a0' list_0.length c0'), (1, .slice a1' faults_1.length c1'), (7, .slice a32 st31.1.length c33), (8, .int .i64 st31.2.1), (23, .int .i64 x29), (24, .int .i64 st31.2.2), (10, .slice a65 st64.1.length c66), (12, .int .i64 x152), (80, .bool false)] (by kernel_rfl) ?_
    refine WL.nil ?_
    obtain rfl := Option.some.inj hm
    exact WQ.post' ⟨rfl, hb157, hL158, hS159⟩ ⟨rfl, rfl, rfl, rfl, rfl, rfl, rfl, rfl, rfl, trivial⟩
  have hm := iteT hm hc180
  refine WL.runk 2 [0, 1, 7, 8, 10, 12, 23, 24, 56, 60, 66, 72, 73, 74] [(0, .slice a0' list_0.length c0'), (1, .slice a1' faults_1.length c1'), (7, .slice a32 st31.1.length c33), (8, .int .i64 st31.2.1), (23, .int .i64 x29), (24, .int .i64 st31.2.2), (10, .slice a65 st64.1.length c66), (12, .int .i64 x152), (56, .bool false), (60, .bool true), (66, .bool false), (72, .bool true), (73, .slice a65 st64.1.length c66), (74, .slice a32 st31.1.length c33)] (by kernel_rfl) ?_
  obtain ⟨x181, hx182, hm⟩ := bindE hm
  refine WL.call 56 #[.slice a65 st64.1.length c66, .slice a32 st31.1.length c33] rfl rfl (by kernel_rfl) (c_56 n st64.1 a65 c66 st31.1 a32 c33 w154 hx182 (SH.rd (SH.front 0 hS159)) (SH.le (SH.front 0 hS159)).1 (SH.rd (SH.front 1 hS159)) (SH.le (SH.front 1 hS159)).1) ?_
  rintro _ w183 ⟨rfl, hE184⟩
  refine ⟨_, rfl, ?_⟩
  have hb186 : Ext w w183 := Ext.trans hb157 hE184
  have hL187 : w.heap.size ≤ w183.heap.size := Nat.le_trans hL158 hE184.size
  have hS188 : SH w183 w.heap.size [aOwn fInt 2 a65 c66 st64.1, aOwn fInt 2 a32 c33 st31.1] := SH.ext hS159 hE184
  refine WL.runk 5 [0, 1, 7, 8, 10, 12, 23, 24, 80] [(0, .slice a0' list_0.length c0'), (1, .slice a1' faults_1.length c1'), (7, .slice a32 st31.1.length c33), (8, .int .i64 st31.2.1), (23, .int .i64 x29), (24, .int .i64 st31.2.2), (10, .slice a65 st64.1.length c66), (12, .int .i64 x152), (80, .bool (decide (x181 < 0)))] (by kernel_rfl) ?_
  refine WL.nil ?_
  obtain rfl := Option.some.inj hm
  exact WQ.post' ⟨rfl, hb186, hL187, hS188⟩ ⟨rfl, rfl, rfl, rfl, rfl, rfl, rfl, rfl, rfl, trivial⟩

theorem c_66 (n : Nat) (list_0 : List SRepair) (a0' : Option Addr) (c0' : Nat) (some_1 : List Int) (a1' : Option Addr) (c1' : Nat) (w : World) {r : Int} (hm : m_spec_l21Price n list_0 some_1 = some r) (h0 : Rd fRepair.ty w a0' list_0) (_hle0 : list_0.length ≤ c0') (h1 : Rd fInt.ty w a1' some_1) (_hle1 : some_1.length ≤ c1') :
    CallV Try.prog 66 #[.slice a0' list_0.length c0', .slice a1' some_1.length c1'] w (fun v w' => v = .int .i64 r ∧ Ext w w') := by
  unfold m_spec_l21Price at hm
  refine CallV.enter Try.func66 rfl (by kernel_rfl) Try.ntmps66 (env := [(0, .slice a0' list_0.length c0'), (1, .slice a1' some_1.length c1')]) ⟨rfl, rfl, trivial⟩ ?_
  refine WP.seq (fun K1 hK1 => ?_)
  refine WP.region ?_
  refine WL.runk 1 [0, 1] [(0, .slice a0' list_0.length c0'), (1, .slice a1' some_1.length c1')] (by kernel_rfl) ?_
  refine WL.nil ?_
  refine WQ.then_normal (hK1 _ _ _ ?_)
  refine WP.seq (fun K2 hK2 => ?_)
  refine WP.region ?_
  refine WL.runk 1 [0, 1, 5] [(0, .slice a0' list_0.length c0'), (1, .slice a1' some_1.length c1'), (5, .int .i64 0)] (by kernel_rfl) ?_
  refine WL.nil ?_
  refine WQ.then_normal (hK2 _ _ _ ?_)
  refine WP.seq (fun K3 hK3 => ?_)
  refine WP.seq (fun K4 hK4 => ?_)
  refine WP.region ?_
  refine WL.runk 1 [0, 1, 5, 6] [(0, .slice a0' list_0.length c0'), (1, .slice a1' some_1.length c1'), (5, .int .i64 0), (6, .int .i64 0)] (by kernel_rfl) ?_
  refine WL.nil ?_
  refine WQ.then_normal (hK4 _ _ _ ?_)
  refine WP.block ?_
  obtain ⟨t16, ht17, hm⟩ := bindE hm
  have hmo11 := hm; clear hm
  refine WP.sub [(0, .slice a0' list_0.length c0'), (1, .slice a1' some_1.length c1'), (5, .int .i64 0), (6, .int .i64 0)] ⟨rfl, rfl, rfl, rfl, trivial⟩ ?_
  refine WP.loop (fun n' env' w' => ∃ (st5 : Int × Int) , env' = [(0, .slice a0' list_0.length c0'), (1, .slice a1' some_1.length c1'), (5, .int .i64 st5.1), (6, .int .i64 st5.2)] ∧ Ext w w' ∧ w.heap.size ≤ w'.heap.size ∧ SH w' w.heap.size [] ∧ loopN (m_spec_l21Price_l1 n list_0 some_1) n' st5 = some t16) n ⟨(0, 0), rfl, (Ext.refl w), (Nat.le_refl _), (SH.nil _ _), ht17⟩ ?_
  rintro n13 _ w6 ⟨st5, rfl, hb7, hL8, hS9, hl10⟩ K12 hK12
  obtain ⟨n14, s15, rfl, hm, hl10⟩ := loopN_some hl10
  unfold m_spec_l21Price_l1 at hm
  refine WP.seq (fun K18 hK18 => ?_)
  refine WP.seq (fun K19 hK19 => ?_)
  refine WP.region ?_
  refine WL.runk 4 [0, 1, 5, 6, 10] [(0, .slice a0' list_0.length c0'), (1, .slice a1' some_1.length c1'), (5, .int .i64 st5.1), (6, .int .i64 st5.2), (10, .bool (decide (st5.2 < (some_1.length : Int))))] (by kernel_rfl) ?_
  refine WL.nil ?_
  refine WQ.then_normal (hK19 _ _ _ ?_)
  refine WP.cond (decide (st5.2 < (some_1.length : Int))) rfl rfl (fun hc20 => ?_) (fun hc20 => ?_)
  rotate_left
  · have hm := iteF hm hc20
    refine WP.exit ?_
    refine WQ.then_exit ?_
    refine WQ.then_exit ?_
    refine WQ.block_here ?_
    obtain rfl := Option.some.inj hm
    obtain rfl := afterN_done hl10
    have hm := hmo11
    refine WQ.then_normal (hK3 _ _ _ ?_)
    refine WP.seq (fun K37 hK37 => ?_)
    refine WP.region ?_
    refine WL.runk 2 [4] [(4, .int .i64 st5.1)] (by kernel_rfl) ?_
    refine WL.nil ?_
    refine WQ.then_normal (hK37 _ _ _ ?_)
    refine WP.ret ?_
    obtain rfl := Option.some.inj hm
    exact WQ.ret1 _ rfl rfl ⟨rfl, hb7⟩
  have hm := iteT hm hc20
  refine WP.skip ?_
  refine WQ.then_normal (hK18 _ _ _ ?_)
  refine WP.seq (fun K21 hK21 => ?_)
  refine WP.block ?_
  refine WP.region ?_
  refine WL.runk 4 [0, 1, 6, 13, 14, 15, 16] [(0, .slice a0' list_0.length c0'), (1, .slice a1' some_1.length c1'), (6, .int .i64 st5.2), (13, .int .i64 st5.1), (14, .slice a0' list_0.length c0'), (15, .slice a1' some_1.length c1'), (16, .int .i64 st5.2)] (by kernel_rfl) ?_
  obtain ⟨x22, hx23, hm⟩ := bindE hm
  refine WL.st (.pointer (some (at_ a1' (Int.toNat st5.2 * 1)))) (ST.index (T := fInt.ty) (xs := some_1) (Rd.below h1 hb7) hx23 rfl rfl rfl Try.underlying25 (info2).1 (info2).2.1) rfl rfl rfl ?_
  refine WL.st (.int .i64 x22) (ST.load (cell_ext (Rd.flat (F := fInt) (Rd.below h1 hb7) hx23 0 rfl)) rfl rfl Try.underlying2 rfl) rfl rfl rfl ?_
  obtain ⟨x24, hx25, hm⟩ := bindE hm
  obtain ⟨a26, c27, a31, c32, hc36, hR28, hle29, hR33, hle34⟩ := nest_Repair h0 hx25
  refine WL.st (.pointer (some (at_ a0' (Int.toNat x22 * 5)))) (ST.index (T := fRepair.ty) (xs := list_0) (Rd.below h0 hb7) hx25 rfl rfl rfl Try.underlying24 (info73).1 (info73).2.1) rfl rfl rfl ?_
  refine WL.runk 1 [0, 1, 6, 13, 20] [(0, .slice a0' list_0.length c0'), (1, .slice a1' some_1.length c1'), (6, .int .i64 st5.2), (13, .int .i64 st5.1), (20, .pointer (some (at_ a0' (Int.toNat x22 * 5 + 3))))] (by kernel_rfl) ?_
  refine WL.st (.int .i64 x24.Price) (ST.load (cell_ext ((cells_ext hc36 hb7) 3 _ rfl)) rfl rfl Try.underlying2 rfl) rfl rfl rfl ?_
  refine WL.runk 2 [0, 1, 5, 6] [(0, .slice a0' list_0.length c0'), (1, .slice a1' some_1.length c1'), (6, .int .i64 st5.2), (5, .int .i64 (wI64 (st5.1 + x24.Price)))] (by kernel_rfl) ?_
  refine WL.nil ?_
  refine WQ.block_normal ?_
  refine WQ.then_normal (hK21 _ _ _ ?_)
  refine WP.region ?_
  refine WL.runk 3 [0, 1, 5, 6] [(0, .slice a0' list_0.length c0'), (1, .slice a1' some_1.length c1'), (6, .int .i64 (wI64 (st5.2 + 1))), (5, .int .i64 (wI64 (st5.1 + x24.Price)))] (by kernel_rfl) ?_
  refine WL.nil ?_
  obtain rfl := Option.some.inj hm
  exact WQ.round hK12 ⟨((wI64 (st5.1 + x24.Price)), (wI64 (st5.2 + 1))), rfl, hb7, hL8, hS9, hl10⟩ (Nat.lt_succ_self _) ⟨rfl, rfl, rfl, rfl, trivial⟩

theorem c_100 (n : Nat) (a_0 : List Int) (a0' : Option Addr) (c0' : Nat) (b_1 : List Int) (a1' : Option Addr) (c1' : Nat) (w : World) {r : Bool} (hm : m_spec_l21Less n a_0 b_1 = some r) (h0 : Rd fInt.ty w a0' a_0) (_hle0 : a_0.length ≤ c0') (h1 : Rd fInt.ty w a1' b_1) (_hle1 : b_1.length ≤ c1') :
    CallV Try.prog 100 #[.slice a0' a_0.length c0', .slice a1' b_1.length c1'] w (fun v w' => v = .bool r ∧ Ext w w') := by
  unfold m_spec_l21Less at hm
  refine CallV.enter Try.func100 rfl (by kernel_rfl) Try.ntmps100 (env := [(0, .slice a0' a_0.length c0'), (1, .slice a1' b_1.length c1')]) ⟨rfl, rfl, trivial⟩ ?_
  refine WP.seq (fun K1 hK1 => ?_)
  refine WP.region ?_
  refine WL.runk 1 [0, 1] [(0, .slice a0' a_0.length c0'), (1, .slice a1' b_1.length c1')] (by kernel_rfl) ?_
  refine WL.nil ?_
  refine WQ.then_normal (hK1 _ _ _ ?_)
  refine WP.seq (fun K2 hK2 => ?_)
  refine WP.seq (fun K3 hK3 => ?_)
  refine WP.region ?_
  refine WL.runk 1 [0, 1, 5] [(0, .slice a0' a_0.length c0'), (1, .slice a1' b_1.length c1'), (5, .int .i64 0)] (by kernel_rfl) ?_
  refine WL.nil ?_
  refine WQ.then_normal (hK3 _ _ _ ?_)
  refine WP.block ?_
  obtain ⟨t15, ht16, hm⟩ := bindE hm
  have hmo10 := hm; clear hm
  refine WP.sub [(0, .slice a0' a_0.length c0'), (1, .slice a1' b_1.length c1'), (5, .int .i64 0)] ⟨rfl, rfl, rfl, trivial⟩ ?_
  refine WP.loop (fun n' env' w' => ∃ (st4 : Int) , env' = [(0, .slice a0' a_0.length c0'), (1, .slice a1' b_1.length c1'), (5, .int .i64 st4)] ∧ Ext w w' ∧ w.heap.size ≤ w'.heap.size ∧ SH w' w.heap.size [] ∧ loopN (m_spec_l21Less_l1 n a_0 b_1) n' st4 = some t15) n ⟨0, rfl, (Ext.refl w), (Nat.le_refl _), (SH.nil _ _), ht16⟩ ?_
  rintro n12 _ w5 ⟨st4, rfl, hb6, hL7, hS8, hl9⟩ K11 hK11
  obtain ⟨n13, s14, rfl, hm, hl9⟩ := loopN_some hl9
  unfold m_spec_l21Less_l1 at hm
  refine WP.seq (fun K17 hK17 => ?_)
  refine WP.seq (fun K18 hK18 => ?_)
  refine WP.region ?_
  refine WL.runk 4 [0, 1, 5, 9] [(0, .slice a0' a_0.length c0'), (1, .slice a1' b_1.length c1'), (5, .int .i64 st4), (9, .bool (decide (st4 < (a_0.length : Int))))] (by kernel_rfl) ?_
  refine WL.nil ?_
  refine WQ.then_normal (hK18 _ _ _ ?_)
  refine WP.cond (decide (st4 < (a_0.length : Int))) rfl rfl (fun hc19 => ?_) (fun hc19 => ?_)
  rotate_left
  · have hm := iteF hm hc19
    refine WP.exit ?_
    refine WQ.then_exit ?_
    refine WQ.then_exit ?_
    refine WQ.block_here ?_
    obtain rfl := Option.some.inj hm
    obtain rfl := afterN_done hl9
    have hm := hmo10
    refine WQ.then_normal (hK2 _ _ _ ?_)
    refine WP.seq (fun K42 hK42 => ?_)
    refine WP.region ?_
    refine WL.runk 1 [4] [(4, .bool false)] (by kernel_rfl) ?_
    refine WL.nil ?_
    refine WQ.then_normal (hK42 _ _ _ ?_)
    refine WP.ret ?_
    obtain rfl := Option.some.inj hm
    exact WQ.ret1 _ rfl rfl ⟨rfl, hb6⟩
  have hm := iteT hm hc19
  refine WP.skip ?_
  refine WQ.then_normal (hK17 _ _ _ ?_)
  refine WP.seq (fun K20 hK20 => ?_)
  refine WP.block ?_
  refine WP.seq (fun K21 hK21 => ?_)
  refine WP.quiet (by kernel_rfl) (by kernel_rfl) ?_
  refine QL.step1v 12 (.slice a0' a_0.length c0') rfl (fun _ => by kernel_rfl) ?_
  refine QL.step1v 13 (.int .i64 st4) rfl (fun _ => by kernel_rfl) ?_
  refine QL.subk [0, 1, 5, 12, 13] [(0, .slice a0' a_0.length c0'), (1, .slice a1' b_1.length c1'), (5, .int .i64 st4), (12, .slice a0' a_0.length c0'), (13, .int .i64 st4)] (by kernel_rfl) ?_
  obtain ⟨x22, hx23, hm⟩ := bindE hm
  refine QL.st (.pointer (some (at_ a0' (Int.toNat st4 * 1)))) (ST.index (T := fInt.ty) (xs := a_0) (Rd.below h0 hb6) hx23 rfl rfl rfl Try.underlying25 (info2).1 (info2).2.1) rfl rfl rfl ?_
  refine QL.st (.int .i64 x22) (ST.load (cell_ext (Rd.flat (F := fInt) (Rd.below h0 hb6) hx23 0 rfl)) rfl rfl Try.underlying2 rfl) rfl rfl rfl ?_
  refine QL.step1v 16 (.slice a1' b_1.length c1') rfl (fun _ => by kernel_rfl) ?_
  refine QL.step1v 17 (.int .i64 st4) rfl (fun _ => by kernel_rfl) ?_
  refine QL.subk [0, 1, 5, 15, 16, 17] [(0, .slice a0' a_0.length c0'), (1, .slice a1' b_1.length c1'), (5, .int .i64 st4), (15, .int .i64 x22), (16, .slice a1' b_1.length c1'), (17, .int .i64 st4)] (by kernel_rfl) ?_
  obtain ⟨x24, hx25, hm⟩ := bindE hm
  refine QL.st (.pointer (some (at_ a1' (Int.toNat st4 * 1)))) (ST.index (T := fInt.ty) (xs := b_1) (Rd.below h1 hb6) hx25 rfl rfl rfl Try.underlying25 (info2).1 (info2).2.1) rfl rfl rfl ?_
  refine QL.st (.int .i64 x24) (ST.load (cell_ext (Rd.flat (F := fInt) (Rd.below h1 hb6) hx25 0 rfl)) rfl rfl Try.underlying2 rfl) rfl rfl rfl ?_
  refine QL.step1v 20 (.bool (x22 != x24)) rfl (fun _ => by kernel_rfl) ?_
  refine QL.subk [0, 1, 5, 20] [(0, .slice a0' a_0.length c0'), (1, .slice a1' b_1.length c1'), (5, .int .i64 st4), (20, .bool (x22 != x24))] (by kernel_rfl) ?_
  refine QL.nil ?_
  intro w26 hE27
  have hb28 : Ext w w26 := Ext.trans hb6 hE27
  have hL29 : w.heap.size ≤ w26.heap.size := Nat.le_trans hL7 hE27.size
  have hS30 : SH w26 w.heap.size [] := SH.ext hS8 hE27
  refine WQ.then_normal (hK21 _ _ _ ?_)
  refine WP.cond (x22 != x24) rfl rfl (fun hc31 => ?_) (fun hc31 => ?_)
  rotate_left
  · have hm := iteF hm hc31
    refine WP.skip ?_
    refine WQ.block_normal ?_
    refine WQ.then_normal (hK20 _ _ _ ?_)
    refine WP.region ?_
    refine WL.runk 3 [0, 1, 5] [(0, .slice a0' a_0.length c0'), (1, .slice a1' b_1.length c1'), (5, .int .i64 (wI64 (st4 + 1)))] (by kernel_rfl) ?_
    refine WL.nil ?_
    obtain rfl := Option.some.inj hm
    exact WQ.round hK11 ⟨(wI64 (st4 + 1)), rfl, hb28, hL29, hS30, hl9⟩ (Nat.lt_succ_self _) ⟨rfl, rfl, rfl, trivial⟩
  have hm := iteT hm hc31
  refine WP.seq (fun K32 hK32 => ?_)
  refine WP.quiet (by kernel_rfl) (by kernel_rfl) ?_
  refine QL.step1v 21 (.slice a0' a_0.length c0') rfl (fun _ => by kernel_rfl) ?_
  refine QL.step1v 22 (.int .i64 st4) rfl (fun _ => by kernel_rfl) ?_
  refine QL.subk [1, 5, 21, 22] [(1, .slice a1' b_1.length c1'), (5, .int .i64 st4), (21, .slice a0' a_0.length c0'), (22, .int .i64 st4)] (by kernel_rfl) ?_
  obtain ⟨x33, hx34, hm⟩ := bindE hm
  refine QL.st (.pointer (some (at_ a0' (Int.toNat st4 * 1)))) (ST.index (T := fInt.ty) (xs := a_0) (Rd.below h0 hb28) hx34 rfl rfl rfl Try.underlying25 (info2).1 (info2).2.1) rfl rfl rfl ?_
  refine QL.st (.int .i64 x33) (ST.load (cell_ext (Rd.flat (F := fInt) (Rd.below h0 hb28) hx34 0 rfl)) rfl rfl Try.underlying2 rfl) rfl rfl rfl ?_
  refine QL.step1v 25 (.slice a1' b_1.length c1') rfl (fun _ => by kernel_rfl) ?_
  refine QL.step1v 26 (.int .i64 st4) rfl (fun _ => by kernel_rfl) ?_
  refine QL.subk [24, 25, 26] [(24, .int .i64 x33), (25, .slice a1' b_1.length c1'), (26, .int .i64 st4)] (by kernel_rfl) ?_
  obtain ⟨x35, hx36, hm⟩ := bindE hm
  refine QL.st (.pointer (some (at_ a1' (Int.toNat st4 * 1)))) (ST.index (T := fInt.ty) (xs := b_1) (Rd.below h1 hb28) hx36 rfl rfl rfl Try.underlying25 (info2).1 (info2).2.1) rfl rfl rfl ?_
  refine QL.st (.int .i64 x35) (ST.load (cell_ext (Rd.flat (F := fInt) (Rd.below h1 hb28) hx36 0 rfl)) rfl rfl Try.underlying2 rfl) rfl rfl rfl ?_
  refine QL.step1v 29 (.bool (decide (x33 < x35))) rfl (fun _ => by kernel_rfl) ?_
  refine QL.step1v 4 (.bool (decide (x33 < x35))) rfl (fun _ => by kernel_rfl) ?_
  refine QL.subk [4] [(4, .bool (decide (x33 < x35)))] (by kernel_rfl) ?_
  refine QL.nil ?_
  intro w37 hE38
  have hb39 : Ext w w37 := Ext.trans hb28 hE38
  have hL40 : w.heap.size ≤ w37.heap.size := Nat.le_trans hL29 hE38.size
  have hS41 : SH w37 w.heap.size [] := SH.ext hS30 hE38
  refine WQ.then_normal (hK32 _ _ _ ?_)
  refine WP.ret ?_
  refine WQ.block_ret ?_
  refine WQ.then_ret ?_
  refine WQ.then_ret ?_
  refine WQ.block_ret ?_
  refine WQ.then_ret ?_
  obtain rfl := Option.some.inj hm
  obtain rfl := afterN_done hl9
  have hm := hmo10
  obtain rfl := Option.some.inj hm
  exact WQ.ret1 _ rfl rfl ⟨rfl, hb39⟩

theorem c_57 (n : Nat) (list_0 : List SRepair) (a0' : Option Addr) (c0' : Nat) (faults_1 : List Int) (a1' : Option Addr) (c1' : Nat) (w : World) {r : List Int × Bool} (hm : m_spec_l21Cheapest n list_0 faults_1 = some r) (h0 : Rd fRepair.ty w a0' list_0) (hle0 : list_0.length ≤ c0') (h1 : Rd fInt.ty w a1' faults_1) (hle1 : faults_1.length ≤ c1') :
    CallV Try.prog 57 #[.slice a0' list_0.length c0', .slice a1' faults_1.length c1'] w (fun v w' => ∃ (ra0 : Option Addr) (rc0 : Nat), v = .tuple #[.slice ra0 r.1.length rc0, .bool r.2] ∧ Ext w w' ∧ SH w' w.heap.size [aOwn fInt 2 ra0 rc0 r.1]) := by
  unfold m_spec_l21Cheapest at hm
  refine CallV.enter Try.func57 rfl (by kernel_rfl) Try.ntmps57 (env := [(0, .slice a0' list_0.length c0'), (1, .slice a1' faults_1.length c1')]) ⟨rfl, rfl, trivial⟩ ?_
  refine WP.seq (fun K1 hK1 => ?_)
  refine WP.region ?_
  refine WL.runk 2 [0, 1] [(0, .slice a0' list_0.length c0'), (1, .slice a1' faults_1.length c1')] (by kernel_rfl) ?_
  refine WL.nil ?_
  refine WQ.then_normal (hK1 _ _ _ ?_)
  refine WP.seq (fun K2 hK2 => ?_)
  refine WP.region ?_
  refine WL.row fInt 2 ([] : List Int) 0 #[] 13 (by kernel_rfl) rfl rfl rfl rfl rfl rfl rfl ?_
  intro a3 c4 w5 hE6 hR7
  have hb9 : Ext w w5 := Ext.trans (Ext.refl w) hE6
  have hL10 : w.heap.size ≤ w5.heap.size := Nat.le_trans (Nat.le_refl _) hE6.size
  have hS11 : SH w5 w.heap.size [aOwn fInt 2 a3 c4 ([] : List Int)] := SH.add (SH.nil _ _) hE6 (Nat.le_refl _) hR7
  refine WL.runk 1 [0, 1, 6] [(0, .slice a0' list_0.length c0'), (1, .slice a1' faults_1.length c1'), (6, .slice a3 (([] : List Int).length) c4)] (by kernel_rfl) ?_
  refine WL.nil ?_
  refine WQ.then_normal (hK2 _ _ _ ?_)
  refine WP.seq (fun K12 hK12 => ?_)
  refine WP.region ?_
  refine WL.runk 1 [0, 1, 6, 7] [(0, .slice a0' list_0.length c0'), (1, .slice a1' faults_1.length c1'), (6, .slice a3 (([] : List Int).length) c4), (7, .bool false)] (by kernel_rfl) ?_
  refine WL.nil ?_
  refine WQ.then_normal (hK12 _ _ _ ?_)
  refine WP.seq (fun K13 hK13 => ?_)
  refine WP.seq (fun K14 hK14 => ?_)
  refine WP.region ?_
  refine WL.runk 1 [0, 1, 6, 7, 8] [(0, .slice a0' list_0.length c0'), (1, .slice a1' faults_1.length c1'), (6, .slice a3 (([] : List Int).length) c4), (7, .bool false), (8, .int .i64 0)] (by kernel_rfl) ?_
  refine WL.nil ?_
  refine WQ.then_normal (hK14 _ _ _ ?_)
  refine WP.block ?_
  obtain ⟨t29, ht30, hm⟩ := bindE hm
  have hmo24 := hm; clear hm
  refine WP.sub [(0, .slice a0' list_0.length c0'), (1, .slice a1' faults_1.length c1'), (6, .slice a3 (([] : List Int).length) c4), (7, .bool false), (8, .int .i64 0)] ⟨rfl, rfl, rfl, rfl, rfl, trivial⟩ ?_
  refine WP.loop (fun n' env' w' => ∃ (st15 : List Int × Bool × Int) (a16 : Option Addr) (c17 : Nat), env' = [(0, .slice a0' list_0.length c0'), (1, .slice a1' faults_1.length c1'), (6, .slice a16 st15.1.length c17), (7, .bool st15.2.1), (8, .int .i64 st15.2.2)] ∧ Ext w w' ∧ w.heap.size ≤ w'.heap.size ∧ SH w' w.heap.size [aOwn fInt 2 a16 c17 st15.1] ∧ loopN (m_spec_l21Cheapest_l1 n list_0 faults_1) n' st15 = some t29) n ⟨(([] : List Int), false, 0), _, _, rfl, hb9, hL10, hS11, ht30⟩ ?_
  rintro n26 _ w19 ⟨st15, a16, c17, rfl, hb20, hL21, hS22, hl23⟩ K25 hK25
  obtain ⟨n27, s28, rfl, hm, hl23⟩ := loopN_some hl23
  unfold m_spec_l21Cheapest_l1 at hm
  refine WP.seq (fun K31 hK31 => ?_)
  refine WP.seq (fun K32 hK32 => ?_)
  refine WP.region ?_
  refine WL.runk 4 [0, 1, 6, 7, 8, 14, 17] [(0, .slice a0' list_0.length c0'), (1, .slice a1' faults_1.length c1'), (6, .slice a16 st15.1.length c17), (7, .bool st15.2.1), (8, .int .i64 st15.2.2), (14, .int .i64 st15.2.2), (17, .int .u64 (IntKind.u64.wrap (list_0.length : Int)))] (by kernel_rfl) ?_
  obtain ⟨x33, hx34, hm⟩ := bindE hm
  refine WL.st (.int .i64 x33) (ST.shl (k := .i64) hx34 rfl rfl rfl) rfl rfl rfl ?_
  refine WL.runk 1 [0, 1, 6, 7, 8, 19] [(0, .slice a0' list_0.length c0'), (1, .slice a1' faults_1.length c1'), (6, .slice a16 st15.1.length c17), (7, .bool st15.2.1), (8, .int .i64 st15.2.2), (19, .bool (decide (st15.2.2 < x33)))] (by kernel_rfl) ?_
  refine WL.nil ?_
  refine WQ.then_normal (hK32 _ _ _ ?_)
  refine WP.cond (decide (st15.2.2 < x33)) rfl rfl (fun hc35 => ?_) (fun hc35 => ?_)
  rotate_left
  · have hm := iteF hm hc35
    refine WP.exit ?_
    refine WQ.then_exit ?_
    refine WQ.then_exit ?_
    refine WQ.block_here ?_
    obtain rfl := Option.some.inj hm
    obtain rfl := afterN_done hl23
    have hm := hmo24
    refine WQ.then_normal (hK13 _ _ _ ?_)
    refine WP.seq (fun K270 hK270 => ?_)
    refine WP.region ?_
    refine WL.runk 4 [4, 5] [(4, .slice a16 st15.1.length c17), (5, .bool st15.2.1)] (by kernel_rfl) ?_
    refine WL.nil ?_
    refine WQ.then_normal (hK270 _ _ _ ?_)
    refine WP.ret ?_
    obtain rfl := Option.some.inj hm
    exact WQ.ret2 _ _ rfl rfl rfl ⟨_, _, rfl, hb20, hS22⟩
  have hm := iteT hm hc35
  refine WP.skip ?_
  refine WQ.then_normal (hK31 _ _ _ ?_)
  refine WP.seq (fun K36 hK36 => ?_)
  refine WP.block ?_
  refine WP.seq (fun K37 hK37 => ?_)
  refine WP.region ?_
  refine WL.row fInt 2 ([] : List Int) 0 #[] 22 (by kernel_rfl) rfl rfl rfl rfl rfl rfl rfl ?_
  intro a38 c39 w40 hE41 hR42
  have hb44 : Ext w w40 := Ext.trans hb20 hE41
  have hL45 : w.heap.size ≤ w40.heap.size := Nat.le_trans hL21 hE41.size
  have hS46 : SH w40 w.heap.size [aOwn fInt 2 a38 c39 ([] : List Int), aOwn fInt 2 a16 c17 st15.1] := SH.add hS22 hE41 hL21 hR42
  refine WL.runk 1 [0, 1, 6, 7, 8, 9] [(0, .slice a0' list_0.length c0'), (1, .slice a1' faults_1.length c1'), (6, .slice a16 st15.1.length c17), (7, .bool st15.2.1), (8, .int .i64 st15.2.2), (9, .slice a38 (([] : List Int).length) c39)] (by kernel_rfl) ?_
  refine WL.nil ?_
  refine WQ.then_normal (hK37 _ _ _ ?_)
  refine WP.seq (fun K47 hK47 => ?_)
  refine WP.seq (fun K48 hK48 => ?_)
  refine WP.region ?_
  refine WL.runk 1 [0, 1, 6, 7, 8, 9, 10] [(0, .slice a0' list_0.length c0'), (1, .slice a1' faults_1.length c1'), (6, .slice a16 st15.1.length c17), (7, .bool st15.2.1), (8, .int .i64 st15.2.2), (9, .slice a38 (([] : List Int).length) c39), (10, .int .i64 0)] (by kernel_rfl) ?_
  refine WL.nil ?_
  refine WQ.then_normal (hK48 _ _ _ ?_)
  refine WP.block ?_
  obtain ⟨t63, ht64, hm⟩ := bindE hm
  have hmo58 := hm; clear hm
  refine WP.sub [(0, .slice a0' list_0.length c0'), (1, .slice a1' faults_1.length c1'), (6, .slice a16 st15.1.length c17), (7, .bool st15.2.1), (8, .int .i64 st15.2.2), (9, .slice a38 (([] : List Int).length) c39), (10, .int .i64 0)] ⟨rfl, rfl, rfl, rfl, rfl, rfl, rfl, trivial⟩ ?_
  refine WP.loop (fun n' env' w' => ∃ (st49 : List Int × Int) (a50 : Option Addr) (c51 : Nat), env' = [(0, .slice a0' list_0.length c0'), (1, .slice a1' faults_1.length c1'), (6, .slice a16 st15.1.length c17), (7, .bool st15.2.1), (8, .int .i64 st15.2.2), (9, .slice a50 st49.1.length c51), (10, .int .i64 st49.2)] ∧ Ext w w' ∧ w.heap.size ≤ w'.heap.size ∧ SH w' w.heap.size [aOwn fInt 2 a50 c51 st49.1, aOwn fInt 2 a16 c17 st15.1] ∧ loopN (m_spec_l21Cheapest_l2 n list_0 st15) n' st49 = some t63) n ⟨(([] : List Int), 0), _, _, rfl, hb44, hL45, hS46, ht64⟩ ?_
  rintro n60 _ w53 ⟨st49, a50, c51, rfl, hb54, hL55, hS56, hl57⟩ K59 hK59
  obtain ⟨n61, s62, rfl, hm, hl57⟩ := loopN_some hl57
  unfold m_spec_l21Cheapest_l2 at hm
  refine WP.seq (fun K65 hK65 => ?_)
  refine WP.seq (fun K66 hK66 => ?_)
  refine WP.region ?_
  refine WL.runk 4 [0, 1, 6, 7, 8, 9, 10, 26] [(0, .slice a0' list_0.length c0'), (1, .slice a1' faults_1.length c1'), (6, .slice a16 st15.1.length c17), (7, .bool st15.2.1), (8, .int .i64 st15.2.2), (9, .slice a50 st49.1.length c51), (10, .int .i64 st49.2), (26, .bool (decide (st49.2 < (list_0.length : Int))))] (by kernel_rfl) ?_
  refine WL.nil ?_
  refine WQ.then_normal (hK66 _ _ _ ?_)
  refine WP.cond (decide (st49.2 < (list_0.length : Int))) rfl rfl (fun hc67 => ?_) (fun hc67 => ?_)
  · have hm := iteT hm hc67
    refine WP.skip ?_
    refine WQ.then_normal (hK65 _ _ _ ?_)
    refine WP.seq (fun K68 hK68 => ?_)
    refine WP.block ?_
    refine WP.seq (fun K69 hK69 => ?_)
    refine WP.region ?_
    refine WL.runk 3 [0, 1, 6, 7, 8, 9, 10, 29, 31] [(0, .slice a0' list_0.length c0'), (1, .slice a1' faults_1.length c1'), (6, .slice a16 st15.1.length c17), (7, .bool st15.2.1), (8, .int .i64 st15.2.2), (9, .slice a50 st49.1.length c51), (10, .int .i64 st49.2), (29, .int .i64 st15.2.2), (31, .int .u64 (IntKind.u64.wrap st49.2))] (by kernel_rfl) ?_
    obtain ⟨x70, hx71, hm⟩ := bindE hm
    refine WL.st (.int .i64 x70) (ST.shr (k := .i64) hx71 rfl rfl rfl) rfl rfl rfl ?_
    refine WL.runk 2 [0, 1, 6, 7, 8, 9, 10, 34] [(0, .slice a0' list_0.length c0'), (1, .slice a1' faults_1.length c1'), (6, .slice a16 st15.1.length c17), (7, .bool st15.2.1), (8, .int .i64 st15.2.2), (9, .slice a50 st49.1.length c51), (10, .int .i64 st49.2), (34, .bool ((iand .i64 x70 1) == 1))] (by kernel_rfl) ?_
    refine WL.nil ?_
    refine WQ.then_normal (hK69 _ _ _ ?_)
    obtain ⟨x91, hx92, hm⟩ := bindE hm
    refine WP.cut (fun env' w' => ∃ (a93 : Option Addr) (c94 : Nat), env' = [(0, .slice a0' list_0.length c0'), (1, .slice a1' faults_1.length c1'), (6, .slice a16 st15.1.length c17), (7, .bool st15.2.1), (8, .int .i64 st15.2.2), (9, .slice a93 x91.length c94), (10, .int .i64 st49.2)] ∧ Ext w w' ∧ w.heap.size ≤ w'.heap.size ∧ SH w' w.heap.size [aOwn fInt 2 a93 c94 x91, aOwn fInt 2 a16 c17 st15.1]) ?_ ?_
    rotate_left
    · clear hx92
      rintro _ w114 ⟨a93, c94, rfl, hb115, hL116, hS117⟩
      refine WQ.block_normal ?_
      refine WQ.then_normal (hK68 _ _ _ ?_)
      refine WP.region ?_
      refine WL.runk 3 [0, 1, 6, 7, 8, 9, 10] [(0, .slice a0' list_0.length c0'), (1, .slice a1' faults_1.length c1'), (6, .slice a16 st15.1.length c17), (7, .bool st15.2.1), (8, .int .i64 st15.2.2), (9, .slice a93 x91.length c94), (10, .int .i64 (wI64 (st49.2 + 1)))] (by kernel_rfl) ?_
      refine WL.nil ?_
      obtain rfl := Option.some.inj hm
      exact WQ.round hK59 ⟨(x91, (wI64 (st49.2 + 1))), _, _, rfl, hb115, hL116, hS117, hl57⟩ (Nat.lt_succ_self _) ⟨rfl, rfl, rfl, rfl, rfl, rfl, rfl, trivial⟩
    have hm := hx92; clear hx92
    refine WP.cond ((iand .i64 x70 1) == 1) rfl rfl (fun hc72 => ?_) (fun hc72 => ?_)
    rotate_left
    · have hm := iteF hm hc72
      refine WP.skip ?_
      obtain rfl := Option.some.inj hm
      exact WQ.post' ⟨_, _, rfl, hb54, hL55, hS56⟩ ⟨rfl, rfl, rfl, rfl, rfl, rfl, rfl, trivial⟩
    have hm := iteT hm hc72
    refine WP.region ?_
    refine WL.runk 2 [0, 1, 6, 7, 8, 10, 35, 36] [(0, .slice a0' list_0.length c0'), (1, .slice a1' faults_1.length c1'), (6, .slice a16 st15.1.length c17), (7, .bool st15.2.1), (8, .int .i64 st15.2.2), (10, .int .i64 st49.2), (35, .slice a50 st49.1.length c51), (36, .int .i64 st49.2)] (by kernel_rfl) ?_
    refine WL.row fInt 2 ([st49.2] : List Int) 1 #[.int .i64 st49.2] 37 (by kernel_rfl) rfl rfl rfl rfl rfl rfl rfl ?_
    intro a96 c97 w98 hE99 hR100
    have hb102 : Ext w w98 := Ext.trans hb54 hE99
    have hL103 : w.heap.size ≤ w98.heap.size := Nat.le_trans hL55 hE99.size
    have hS104 : SH w98 w.heap.size [aOwn fInt 2 a96 c97 ([st49.2] : List Int), aOwn fInt 2 a50 c51 st49.1, aOwn fInt 2 a16 c17 st15.1] := SH.add hS56 hE99 hL55 hR100
    obtain ⟨x105, hx106, hm⟩ := bindE hm
    refine WL.append (F := fInt) (xs := st49.1) (ys := ([st49.2] : List Int)) 38 (SH.front 1 hS104) hL103 (SH.rd (SH.front 0 hS104)) hx106 rfl rfl rfl Try.underlying25 (info2).1 (info2).2.2.1 (info2).2.1 (info2).2.2.2 rfl rfl rfl rfl rfl ?_
    intro a107 c108 w109 hB110 hS111
    have hb112 : Ext w w109 := Below.trans hb102 hB110
    have hL113 : w.heap.size ≤ w109.heap.size := Nat.le_trans hL103 hB110.size
    refine WL.runk 1 [0, 1, 6, 7, 8, 9, 10] [(0, .slice a0' list_0.length c0'), (1, .slice a1' faults_1.length c1'), (6, .slice a16 st15.1.length c17), (7, .bool st15.2.1), (8, .int .i64 st15.2.2), (10, .int .i64 st49.2), (9, .slice a107 x105.length c108)] (by kernel_rfl) ?_
    refine WL.nil ?_
    obtain rfl := Option.some.inj hm
    exact WQ.post' ⟨_, _, rfl, hb112, hL113, (SH.take 2 (SH.front 1 (SH.front 2 hS111)))⟩ ⟨rfl, rfl, rfl, rfl, rfl, rfl, rfl, trivial⟩
  have hm := iteF hm hc67
  refine WP.exit ?_
  refine WQ.then_exit ?_
  refine WQ.then_exit ?_
  refine WQ.block_here ?_
  obtain rfl := Option.some.inj hm
  obtain rfl := afterN_done hl57
  have hm := hmo58
  refine WQ.then_normal (hK47 _ _ _ ?_)
  refine WP.seq (fun K118 hK118 => ?_)
  refine WP.seq (fun K119 hK119 => ?_)
  refine WP.region ?_
  refine WL.runk 3 [0, 1, 6, 7, 8, 9, 39, 40, 41] [(0, .slice a0' list_0.length c0'), (1, .slice a1' faults_1.length c1'), (6, .slice a16 st15.1.length c17), (7, .bool st15.2.1), (8, .int .i64 st15.2.2), (9, .slice a50 st49.1.length c51), (39, .slice a0' list_0.length c0'), (40, .slice a50 st49.1.length c51), (41, .slice a1' faults_1.length c1')] (by kernel_rfl) ?_
  obtain ⟨x120, hx121, hm⟩ := bindE hm
  refine WL.call 53 #[.slice a0' list_0.length c0', .slice a50 st49.1.length c51, .slice a1' faults_1.length c1'] rfl rfl (by kernel_rfl) (c_53 n list_0 a0' c0' st49.1 a50 c51 faults_1 a1' c1' w53 hx121 (Rd.below h0 hb54) hle0 (SH.rd (SH.front 0 hS56)) (SH.le (SH.front 0 hS56)).1 (Rd.below h1 hb54) hle1) ?_
  rintro _ w122 ⟨rfl, hE123⟩
  refine ⟨_, rfl, ?_⟩
  have hb125 : Ext w w122 := Ext.trans hb54 hE123
  have hL126 : w.heap.size ≤ w122.heap.size := Nat.le_trans hL55 hE123.size
  have hS127 : SH w122 w.heap.size [aOwn fInt 2 a50 c51 st49.1, aOwn fInt 2 a16 c17 st15.1] := SH.ext hS56 hE123
  refine WL.runk 1 [0, 1, 6, 7, 8, 9, 43] [(0, .slice a0' list_0.length c0'), (1, .slice a1' faults_1.length c1'), (6, .slice a16 st15.1.length c17), (7, .bool st15.2.1), (8, .int .i64 st15.2.2), (9, .slice a50 st49.1.length c51), (43, .bool (!x120))] (by kernel_rfl) ?_
  refine WL.nil ?_
  refine WQ.then_normal (hK119 _ _ _ ?_)
  refine WP.cond (!x120) rfl rfl (fun hc128 => ?_) (fun hc128 => ?_)
  · have hm := iteT hm hc128
    refine WP.exit ?_
    refine WQ.then_exit ?_
    refine WQ.block_here ?_
    refine WQ.then_normal (hK36 _ _ _ ?_)
    refine WP.region ?_
    refine WL.runk 3 [0, 1, 6, 7, 8] [(0, .slice a0' list_0.length c0'), (1, .slice a1' faults_1.length c1'), (6, .slice a16 st15.1.length c17), (7, .bool st15.2.1), (8, .int .i64 (wI64 (st15.2.2 + 1)))] (by kernel_rfl) ?_
    refine WL.nil ?_
    obtain rfl := Option.some.inj hm
    exact WQ.round hK25 ⟨(st15.1, st15.2.1, (wI64 (st15.2.2 + 1))), _, _, rfl, hb125, hL126, (SH.take 1 (SH.front 1 hS127)), hl23⟩ (Nat.lt_succ_self _) ⟨rfl, rfl, rfl, rfl, rfl, trivial⟩
  have hm := iteF hm hc128
  refine WP.skip ?_
  refine WQ.then_normal (hK118 _ _ _ ?_)
  refine WP.seq (fun K129 hK129 => ?_)
  refine WP.region ?_
  refine WL.runk 2 [0, 1, 6, 7, 8, 9, 44, 45] [(0, .slice a0' list_0.length c0'), (1, .slice a1' faults_1.length c1'), (6, .slice a16 st15.1.length c17), (7, .bool st15.2.1), (8, .int .i64 st15.2.2), (9, .slice a50 st49.1.length c51), (44, .slice a0' list_0.length c0'), (45, .slice a50 st49.1.length c51)] (by kernel_rfl) ?_
  obtain ⟨x130, hx131, hm⟩ := bindE hm
  refine WL.call 66 #[.slice a0' list_0.length c0', .slice a50 st49.1.length c51] rfl rfl (by kernel_rfl) (c_66 n list_0 a0' c0' st49.1 a50 c51 w122 hx131 (Rd.below h0 hb125) hle0 (SH.rd (SH.front 0 hS127)) (SH.le (SH.front 0 hS127)).1) ?_
  rintro _ w132 ⟨rfl, hE133⟩
  refine ⟨_, rfl, ?_⟩
  have hb135 : Ext w w132 := Ext.trans hb125 hE133
  have hL136 : w.heap.size ≤ w132.heap.size := Nat.le_trans hL126 hE133.size
  have hS137 : SH w132 w.heap.size [aOwn fInt 2 a50 c51 st49.1, aOwn fInt 2 a16 c17 st15.1] := SH.ext hS127 hE133
  refine WL.runk 1 [0, 1, 6, 7, 8, 9, 11] [(0, .slice a0' list_0.length c0'), (1, .slice a1' faults_1.length c1'), (6, .slice a16 st15.1.length c17), (7, .bool st15.2.1), (8, .int .i64 st15.2.2), (9, .slice a50 st49.1.length c51), (11, .int .i64 x130)] (by kernel_rfl) ?_
  refine WL.nil ?_
  refine WQ.then_normal (hK129 _ _ _ ?_)
  refine WP.seq (fun K138 hK138 => ?_)
  refine WP.region ?_
  refine WL.runk 2 [0, 1, 6, 7, 8, 9, 11, 47, 48] [(0, .slice a0' list_0.length c0'), (1, .slice a1' faults_1.length c1'), (6, .slice a16 st15.1.length c17), (7, .bool st15.2.1), (8, .int .i64 st15.2.2), (9, .slice a50 st49.1.length c51), (11, .int .i64 x130), (47, .slice a0' list_0.length c0'), (48, .slice a16 st15.1.length c17)] (by kernel_rfl) ?_
  obtain ⟨x139, hx140, hm⟩ := bindE hm
  refine WL.call 66 #[.slice a0' list_0.length c0', .slice a16 st15.1.length c17] rfl rfl (by kernel_rfl) (c_66 n list_0 a0' c0' st15.1 a16 c17 w132 hx140 (Rd.below h0 hb135) hle0 (SH.rd (SH.front 1 hS137)) (SH.le (SH.front 1 hS137)).1) ?_
  rintro _ w141 ⟨rfl, hE142⟩
  refine ⟨_, rfl, ?_⟩
  have hb144 : Ext w w141 := Ext.trans hb135 hE142
  have hL145 : w.heap.size ≤ w141.heap.size := Nat.le_trans hL136 hE142.size
  have hS146 : SH w141 w.heap.size [aOwn fInt 2 a50 c51 st49.1, aOwn fInt 2 a16 c17 st15.1] := SH.ext hS137 hE142
  refine WL.runk 1 [0, 1, 6, 7, 8, 9, 11, 12] [(0, .slice a0' list_0.length c0'), (1, .slice a1' faults_1.length c1'), (6, .slice a16 st15.1.length c17), (7, .bool st15.2.1), (8, .int .i64 st15.2.2), (9, .slice a50 st49.1.length c51), (11, .int .i64 x130), (12, .int .i64 x139)] (by kernel_rfl) ?_
  refine WL.nil ?_
  refine WQ.then_normal (hK138 _ _ _ ?_)
  refine WP.seq (fun K147 hK147 => ?_)
  obtain ⟨x161, hx162, hm⟩ := bindE hm
  refine WP.cut (fun env' w' => env' = [(0, .slice a0' list_0.length c0'), (1, .slice a1' faults_1.length c1'), (6, .slice a16 st15.1.length c17), (7, .bool st15.2.1), (8, .int .i64 st15.2.2), (9, .slice a50 st49.1.length c51), (80, .bool x161)] ∧ Ext w w' ∧ w.heap.size ≤ w'.heap.size ∧ SH w' w.heap.size [aOwn fInt 2 a50 c51 st49.1, aOwn fInt 2 a16 c17 st15.1]) ?_ ?_
  rotate_left
  · clear hx162
    rintro _ w176 ⟨rfl, hb177, hL178, hS179⟩
    refine WQ.then_normal (hK147 _ _ _ ?_)
    obtain ⟨x182, hx183, hm⟩ := bindE hm
    refine WP.cut (fun env' w' => ∃ (a184 : Option Addr) (c185 : Nat), env' = [(0, .slice a0' list_0.length c0'), (1, .slice a1' faults_1.length c1'), (6, .slice a184 x182.1.length c185), (7, .bool x182.2), (8, .int .i64 st15.2.2)] ∧ Ext w w' ∧ w.heap.size ≤ w'.heap.size ∧ SH w' w.heap.size [aOwn fInt 2 a184 c185 x182.1]) ?_ ?_
    rotate_left
    · clear hx183
      rintro _ w188 ⟨a184, c185, rfl, hb189, hL190, hS191⟩
      refine WQ.block_normal ?_
      refine WQ.then_normal (hK36 _ _ _ ?_)
      refine WP.region ?_
      refine WL.runk 3 [0, 1, 6, 7, 8] [(0, .slice a0' list_0.length c0'), (1, .slice a1' faults_1.length c1'), (6, .slice a184 x182.1.length c185), (7, .bool x182.2), (8, .int .i64 (wI64 (st15.2.2 + 1)))] (by kernel_rfl) ?_
      refine WL.nil ?_
      obtain rfl := Option.some.inj hm
      exact WQ.round hK25 ⟨(x182.1, x182.2, (wI64 (st15.2.2 + 1))), _, _, rfl, hb189, hL190, hS191, hl23⟩ (Nat.lt_succ_self _) ⟨rfl, rfl, rfl, rfl, rfl, trivial⟩
    have hm := hx183; clear hx183
    refine WP.cond x161 rfl rfl (fun hc180 => ?_) (fun hc180 => ?_)
    rotate_left
    · have hm := iteF hm hc180
      refine WP.skip ?_
      obtain rfl := Option.some.inj hm
      exact WQ.post' ⟨_, _, rfl, hb177, hL178, (SH.take 1 (SH.front 1 hS179))⟩ ⟨rfl, rfl, rfl, rfl, rfl, trivial⟩
    have hm := iteT hm hc180
    refine WP.seq (fun K187 hK187 => ?_)
    refine WP.region ?_
    refine WL.runk 2 [0, 1, 6, 8] [(0, .slice a0' list_0.length c0'), (1, .slice a1' faults_1.length c1'), (6, .slice a50 st49.1.length c51), (8, .int .i64 st15.2.2)] (by kernel_rfl) ?_
    refine WL.nil ?_
    refine WQ.then_normal (hK187 _ _ _ ?_)
    refine WP.region ?_
    refine WL.runk 1 [0, 1, 6, 7, 8] [(0, .slice a0' list_0.length c0'), (1, .slice a1' faults_1.length c1'), (6, .slice a50 st49.1.length c51), (8, .int .i64 st15.2.2), (7, .bool true)] (by kernel_rfl) ?_
    refine WL.nil ?_
    obtain rfl := Option.some.inj hm
    exact WQ.post' ⟨_, _, rfl, hb177, hL178, (SH.take 1 hS179)⟩ ⟨rfl, rfl, rfl, rfl, rfl, trivial⟩
  have hm := hx162; clear hx162
  refine WP.region ?_
  refine WL.runk 3 [0, 1, 6, 7, 8, 9, 11, 12, 52] [(0, .slice a0' list_0.length c0'), (1, .slice a1' faults_1.length c1'), (6, .slice a16 st15.1.length c17), (7, .bool st15.2.1), (8, .int .i64 st15.2.2), (9, .slice a50 st49.1.length c51), (11, .int .i64 x130), (12, .int .i64 x139), (52, .bool (!st15.2.1))] (by kernel_rfl) ?_
  refine WL.case (!st15.2.1) [52] ⟨rfl, trivial⟩ (fun hc163 => ?_) (fun hc163 => ?_)
  · have hm := iteT hm hc163
    refine WL.runk 28 [0, 1, 6, 7, 8, 9, 80] [(0, .slice a0' list_0.length c0'), (1, .slice a1' faults_1.length c1'), (6, .slice a16 st15.1.length c17), (7, .bool st15.2.1), (8, .int .i64 st15.2.2), (9, .slice a50 st49.1.length c51), (80, .bool true)] (by kernel_rfl) ?_
    refine WL.nil ?_
    obtain rfl := Option.some.inj hm
    exact WQ.post' ⟨rfl, hb144, hL145, hS146⟩ ⟨rfl, rfl, rfl, rfl, rfl, rfl, rfl, trivial⟩
  have hm := iteF hm hc163
  refine WL.runk 5 [0, 1, 6, 7, 8, 9, 11, 12, 57] [(0, .slice a0' list_0.length c0'), (1, .slice a1' faults_1.length c1'), (6, .slice a16 st15.1.length c17), (7, .bool st15.2.1), (8, .int .i64 st15.2.2), (9, .slice a50 st49.1.length c51), (11, .int .i64 x130), (12, .int .i64 x139), (57, .bool (decide (x130 < x139)))] (by kernel_rfl) ?_
  refine WL.case (decide (x130 < x139)) [57] ⟨rfl, trivial⟩ (fun hc164 => ?_) (fun hc164 => ?_)
  · have hm := iteT hm hc164
    refine WL.runk 23 [0, 1, 6, 7, 8, 9, 80] [(0, .slice a0' list_0.length c0'), (1, .slice a1' faults_1.length c1'), (6, .slice a16 st15.1.length c17), (7, .bool st15.2.1), (8, .int .i64 st15.2.2), (9, .slice a50 st49.1.length c51), (80, .bool true)] (by kernel_rfl) ?_
    refine WL.nil ?_
    obtain rfl := Option.some.inj hm
    exact WQ.post' ⟨rfl, hb144, hL145, hS146⟩ ⟨rfl, rfl, rfl, rfl, rfl, rfl, rfl, trivial⟩
  have hm := iteF hm hc164
  refine WL.runk 4 [0, 1, 6, 7, 8, 9, 57, 61] [(0, .slice a0' list_0.length c0'), (1, .slice a1' faults_1.length c1'), (6, .slice a16 st15.1.length c17), (7, .bool st15.2.1), (8, .int .i64 st15.2.2), (9, .slice a50 st49.1.length c51), (57, .bool false), (61, .bool (x130 == x139))] (by kernel_rfl) ?_
  refine WL.case (x130 == x139) [61] ⟨rfl, trivial⟩ (fun hc165 => ?_) (fun hc165 => ?_)
  rotate_left
  · have hm := iteF hm hc165
    refine WL.runk 19 [0, 1, 6, 7, 8, 9, 80] [(0, .slice a0' list_0.length c0'), (1, .slice a1' faults_1.length c1'), (6, .slice a16 st15.1.length c17), (7, .bool st15.2.1), (8, .int .i64 st15.2.2), (9, .slice a50 st49.1.length c51), (80, .bool false)] (by kernel_rfl) ?_
    refine WL.nil ?_
    obtain rfl := Option.some.inj hm
    exact WQ.post' ⟨rfl, hb144, hL145, hS146⟩ ⟨rfl, rfl, rfl, rfl, rfl, rfl, rfl, trivial⟩
  have hm := iteT hm hc165
  refine WL.runk 6 [0, 1, 6, 7, 8, 9, 57, 61, 67] [(0, .slice a0' list_0.length c0'), (1, .slice a1' faults_1.length c1'), (6, .slice a16 st15.1.length c17), (7, .bool st15.2.1), (8, .int .i64 st15.2.2), (9, .slice a50 st49.1.length c51), (57, .bool false), (61, .bool true), (67, .bool (decide ((st49.1.length : Int) < (st15.1.length : Int))))] (by kernel_rfl) ?_
  refine WL.case (decide ((st49.1.length : Int) < (st15.1.length : Int))) [67] ⟨rfl, trivial⟩ (fun hc166 => ?_) (fun hc166 => ?_)
  · have hm := iteT hm hc166
    refine WL.runk 13 [0, 1, 6, 7, 8, 9, 80] [(0, .slice a0' list_0.length c0'), (1, .slice a1' faults_1.length c1'), (6, .slice a16 st15.1.length c17), (7, .bool st15.2.1), (8, .int .i64 st15.2.2), (9, .slice a50 st49.1.length c51), (80, .bool true)] (by kernel_rfl) ?_
    refine WL.nil ?_
    obtain rfl := Option.some.inj hm
    exact WQ.post' ⟨rfl, hb144, hL145, hS146⟩ ⟨rfl, rfl, rfl, rfl, rfl, rfl, rfl, trivial⟩
  have hm := iteF hm hc166
  refine WL.runk 6 [0, 1, 6, 7, 8, 9, 57, 61, 67, 73] [(0, .slice a0' list_0.length c0'), (1, .slice a1' faults_1.length c1'), (6, .slice a16 st15.1.length c17), (7, .bool st15.2.1), (8, .int .i64 st15.2.2), (9, .slice a50 st49.1.length c51), (57, .bool false), (61, .bool true), (67, .bool false), (73, .bool ((st49.1.length : Int) == (st15.1.length : Int)))] (by kernel_rfl) ?_
  refine WL.case ((st49.1.length : Int) == (st15.1.length : Int)) [73] ⟨rfl, trivial⟩ (fun hc167 => ?_) (fun hc167 => ?_)
  rotate_left
  · have hm := iteF hm hc167
    refine WL.runk 7 [0, 1, 6, 7, 8, 9, 80] [(0, .slice a0' list_0.length c0'), (1, .slice a1' faults_1.length c1'), (6, .slice a16 st15.1.length c17), (7, .bool st15.2.1), (8, .int .i64 st15.2.2), (9, .slice a50 st49.1.length c51), (80, .bool false)] (by kernel_rfl) ?_
    refine WL.nil ?_
    obtain rfl := Option.some.inj hm
    exact WQ.post' ⟨rfl, hb144, hL145, hS146⟩ ⟨rfl, rfl, rfl, rfl, rfl, rfl, rfl, trivial⟩
  have hm := iteT hm hc167
  refine WL.runk 2 [0, 1, 6, 7, 8, 9, 57, 61, 67, 73, 74, 75] [(0, .slice a0' list_0.length c0'), (1, .slice a1' faults_1.length c1'), (6, .slice a16 st15.1.length c17), (7, .bool st15.2.1), (8, .int .i64 st15.2.2), (9, .slice a50 st49.1.length c51), (57, .bool false), (61, .bool true), (67, .bool false), (73, .bool true), (74, .slice a50 st49.1.length c51), (75, .slice a16 st15.1.length c17)] (by kernel_rfl) ?_
  obtain ⟨x168, hx169, hm⟩ := bindE hm
  refine WL.call 100 #[.slice a50 st49.1.length c51, .slice a16 st15.1.length c17] rfl rfl (by kernel_rfl) (c_100 n st49.1 a50 c51 st15.1 a16 c17 w141 hx169 (SH.rd (SH.front 0 hS146)) (SH.le (SH.front 0 hS146)).1 (SH.rd (SH.front 1 hS146)) (SH.le (SH.front 1 hS146)).1) ?_
  rintro _ w170 ⟨rfl, hE171⟩
  refine ⟨_, rfl, ?_⟩
  have hb173 : Ext w w170 := Ext.trans hb144 hE171
  have hL174 : w.heap.size ≤ w170.heap.size := Nat.le_trans hL145 hE171.size
  have hS175 : SH w170 w.heap.size [aOwn fInt 2 a50 c51 st49.1, aOwn fInt 2 a16 c17 st15.1] := SH.ext hS146 hE171
  refine WL.runk 4 [0, 1, 6, 7, 8, 9, 80] [(0, .slice a0' list_0.length c0'), (1, .slice a1' faults_1.length c1'), (6, .slice a16 st15.1.length c17), (7, .bool st15.2.1), (8, .int .i64 st15.2.2), (9, .slice a50 st49.1.length c51), (80, .bool x168)] (by kernel_rfl) ?_
  refine WL.nil ?_
  obtain rfl := Option.some.inj hm
  exact WQ.post' ⟨rfl, hb173, hL174, hS175⟩ ⟨rfl, rfl, rfl, rfl, rfl, rfl, rfl, trivial⟩

theorem c_20 (n : Nat) (list_0 : List SRepair) (a0' : Option Addr) (c0' : Nat) (faults_1 : List Int) (a1' : Option Addr) (c1' : Nat) (w : World) {r : List Int × Int} (hm : m_spec_CheapestRepairs n list_0 faults_1 = some r) (h0 : Rd fRepair.ty w a0' list_0) (hle0 : list_0.length ≤ c0') (h1 : Rd fInt.ty w a1' faults_1) (hle1 : faults_1.length ≤ c1') :
    CallV Try.prog 20 #[.slice a0' list_0.length c0', .slice a1' faults_1.length c1'] w (fun v w' => ∃ (ra0 : Option Addr) (rc0 : Nat), v = .tuple #[.slice ra0 r.1.length rc0, .int .i64 r.2] ∧ Ext w w' ∧ SH w' w.heap.size [aOwn fInt 2 ra0 rc0 r.1]) := by
  unfold m_spec_CheapestRepairs at hm
  refine CallV.enter Try.func20 rfl (by kernel_rfl) Try.ntmps20 (env := [(0, .slice a0' list_0.length c0'), (1, .slice a1' faults_1.length c1')]) ⟨rfl, rfl, trivial⟩ ?_
  refine WP.seq (fun K1 hK1 => ?_)
  refine WP.region ?_
  refine WL.runk 2 [0, 1] [(0, .slice a0' list_0.length c0'), (1, .slice a1' faults_1.length c1')] (by kernel_rfl) ?_
  refine WL.nil ?_
  refine WQ.then_normal (hK1 _ _ _ ?_)
  refine WP.seq (fun K2 hK2 => ?_)
  refine WP.region ?_
  refine WL.runk 1 [0, 1, 9] [(0, .slice a0' list_0.length c0'), (1, .slice a1' faults_1.length c1'), (9, .slice a0' list_0.length c0')] (by kernel_rfl) ?_
  refine WL.row fInt 2 ([] : List Int) 0 #[] 10 (by kernel_rfl) rfl rfl rfl rfl rfl rfl rfl ?_
  intro a3 c4 w5 hE6 hR7
  have hb9 : Ext w w5 := Ext.trans (Ext.refl w) hE6
  have hL10 : w.heap.size ≤ w5.heap.size := Nat.le_trans (Nat.le_refl _) hE6.size
  have hS11 : SH w5 w.heap.size [aOwn fInt 2 a3 c4 ([] : List Int)] := SH.add (SH.nil _ _) hE6 (Nat.le_refl _) hR7
  refine WL.runk 1 [0, 1, 9, 10, 11] [(0, .slice a0' list_0.length c0'), (1, .slice a1' faults_1.length c1'), (9, .slice a0' list_0.length c0'), (10, .slice a3 (([] : List Int).length) c4), (11, .slice a1' faults_1.length c1')] (by kernel_rfl) ?_
  obtain ⟨x12, hx13, hm⟩ := bindE hm
  refine WL.call 52 #[.slice a0' list_0.length c0', .slice a3 (([] : List Int).length) c4, .slice a1' faults_1.length c1'] rfl rfl (by kernel_rfl) (c_52 n list_0 a0' c0' ([] : List Int) a3 c4 faults_1 a1' c1' w5 hx13 (Rd.below h0 hb9) hle0 (SH.rd (SH.front 0 hS11)) (SH.le (SH.front 0 hS11)).1 (Rd.below h1 hb9) hle1) ?_
  rintro _ w14 ⟨rfl, hE15⟩
  refine ⟨_, rfl, ?_⟩
  have hb17 : Ext w w14 := Ext.trans hb9 hE15
  have hL18 : w.heap.size ≤ w14.heap.size := Nat.le_trans hL10 hE15.size
  have hS19 : SH w14 w.heap.size [aOwn fInt 2 a3 c4 ([] : List Int)] := SH.ext hS11 hE15
  refine WL.runk 1 [0, 1, 6] [(0, .slice a0' list_0.length c0'), (1, .slice a1' faults_1.length c1'), (6, .int .i64 x12)] (by kernel_rfl) ?_
  refine WL.nil ?_
  refine WQ.then_normal (hK2 _ _ _ ?_)
  refine WP.seq (fun K20 hK20 => ?_)
  refine WP.seq (fun K21 hK21 => ?_)
  refine WP.region ?_
  refine WL.runk 2 [0, 1, 6, 14] [(0, .slice a0' list_0.length c0'), (1, .slice a1' faults_1.length c1'), (6, .int .i64 x12), (14, .bool (x12 != 0))] (by kernel_rfl) ?_
  refine WL.nil ?_
  refine WQ.then_normal (hK21 _ _ _ ?_)
  refine WP.cond (x12 != 0) rfl rfl (fun hc22 => ?_) (fun hc22 => ?_)
  · have hm := iteT hm hc22
    refine WP.seq (fun K23 hK23 => ?_)
    refine WP.region ?_
    refine WL.runk 3 [4, 5] [(4, .slice none 0 0), (5, .int .i64 x12)] (by kernel_rfl) ?_
    refine WL.nil ?_
    refine WQ.then_normal (hK23 _ _ _ ?_)
    refine WP.ret ?_
    refine WQ.then_ret ?_
    obtain rfl := Option.some.inj hm
    have hS25 : SH w14 w.heap.size [aOwn fInt 2 none 0 ([] : List Int), aOwn fInt 2 a3 c4 ([] : List Int)] := SH.nilOwn hS19
    exact WQ.ret2 _ _ rfl rfl rfl ⟨_, _, rfl, hb17, (SH.take 1 hS25)⟩
  have hm := iteF hm hc22
  refine WP.skip ?_
  refine WQ.then_normal (hK20 _ _ _ ?_)
  refine WP.seq (fun K26 hK26 => ?_)
  refine WP.region ?_
  refine WL.runk 2 [17, 18] [(17, .slice a0' list_0.length c0'), (18, .slice a1' faults_1.length c1')] (by kernel_rfl) ?_
  obtain ⟨x27, hx28, hm⟩ := bindE hm
  refine WL.call 57 #[.slice a0' list_0.length c0', .slice a1' faults_1.length c1'] rfl rfl (by kernel_rfl) (c_57 n list_0 a0' c0' faults_1 a1' c1' w14 hx28 (Rd.below h0 hb17) hle0 (Rd.below h1 hb17) hle1) ?_
  rintro _ w32 ⟨a29, c30, rfl, hE33, hR34⟩
  refine ⟨_, rfl, ?_⟩
  have hb35 : Ext w w32 := Ext.trans hb17 hE33
  have hL36 : w.heap.size ≤ w32.heap.size := Nat.le_trans hL18 hE33.size
  have hS37 : SH w32 w.heap.size [aOwn fInt 2 a29 c30 x27.1, aOwn fInt 2 a3 c4 ([] : List Int)] := SH.add hS19 hE33 hL18 hR34
  refine WL.runk 5 [7, 8] [(7, .slice a29 x27.1.length c30), (8, .bool x27.2)] (by kernel_rfl) ?_
  refine WL.nil ?_
  refine WQ.then_normal (hK26 _ _ _ ?_)
  refine WP.seq (fun K38 hK38 => ?_)
  refine WP.seq (fun K39 hK39 => ?_)
  refine WP.region ?_
  refine WL.runk 2 [7, 23] [(7, .slice a29 x27.1.length c30), (23, .bool (!x27.2))] (by kernel_rfl) ?_
  refine WL.nil ?_
  refine WQ.then_normal (hK39 _ _ _ ?_)
  refine WP.cond (!x27.2) rfl rfl (fun hc40 => ?_) (fun hc40 => ?_)
  · have hm := iteT hm hc40
    refine WP.seq (fun K41 hK41 => ?_)
    refine WP.region ?_
    refine WL.runk 2 [4, 5] [(4, .slice none 0 0), (5, .int .i64 3)] (by kernel_rfl) ?_
    refine WL.nil ?_
    refine WQ.then_normal (hK41 _ _ _ ?_)
    refine WP.ret ?_
    refine WQ.then_ret ?_
    obtain rfl := Option.some.inj hm
    have hS43 : SH w32 w.heap.size [aOwn fInt 2 none 0 ([] : List Int), aOwn fInt 2 a29 c30 x27.1, aOwn fInt 2 a3 c4 ([] : List Int)] := SH.nilOwn hS37
    exact WQ.ret2 _ _ rfl rfl rfl ⟨_, _, rfl, hb35, (SH.take 1 hS43)⟩
  have hm := iteF hm hc40
  refine WP.skip ?_
  refine WQ.then_normal (hK38 _ _ _ ?_)
  refine WP.seq (fun K44 hK44 => ?_)
  refine WP.region ?_
  refine WL.runk 3 [4, 5] [(4, .slice a29 x27.1.length c30), (5, .int .i64 0)] (by kernel_rfl) ?_
  refine WL.nil ?_
  refine WQ.then_normal (hK44 _ _ _ ?_)
  refine WP.ret ?_
  obtain rfl := Option.some.inj hm
  exact WQ.ret2 _ _ rfl rfl rfl ⟨_, _, rfl, hb35, (SH.take 1 hS37)⟩

theorem c_103 (n : Nat) (a_0 : List Int) (a0' : Option Addr) (c0' : Nat) (left_1 : Int) (w : World) {r : Int} (hm : m_laws_szInt64S n a_0 left_1 = some r) (_h0 : Rd fInt.ty w a0' a_0) (_hle0 : a_0.length ≤ c0') :
    CallV Try.prog 103 #[.slice a0' a_0.length c0', .int .i64 left_1] w (fun v w' => v = .int .i64 r ∧ Ext w w') := by
  unfold m_laws_szInt64S at hm
  refine CallV.enter Try.func103 rfl (by kernel_rfl) Try.ntmps103 (env := [(0, .slice a0' a_0.length c0'), (1, .int .i64 left_1)]) ⟨rfl, rfl, trivial⟩ ?_
  refine WP.seq (fun K1 hK1 => ?_)
  refine WP.region ?_
  refine WL.runk 1 [0, 1] [(0, .slice a0' a_0.length c0'), (1, .int .i64 left_1)] (by kernel_rfl) ?_
  refine WL.nil ?_
  refine WQ.then_normal (hK1 _ _ _ ?_)
  refine WP.seq (fun K2 hK2 => ?_)
  refine WP.region ?_
  refine WL.runk 5 [1] [(1, .int .i64 (wI64 (left_1 - (a_0.length : Int))))] (by kernel_rfl) ?_
  refine WL.nil ?_
  refine WQ.then_normal (hK2 _ _ _ ?_)
  refine WP.seq (fun K3 hK3 => ?_)
  refine WP.seq (fun K4 hK4 => ?_)
  refine WP.region ?_
  refine WL.runk 2 [1, 10] [(1, .int .i64 (wI64 (left_1 - (a_0.length : Int)))), (10, .bool (decide ((wI64 (left_1 - (a_0.length : Int))) < 0)))] (by kernel_rfl) ?_
  refine WL.nil ?_
  refine WQ.then_normal (hK4 _ _ _ ?_)
  refine WP.cond (decide ((wI64 (left_1 - (a_0.length : Int))) < 0)) rfl rfl (fun hc5 => ?_) (fun hc5 => ?_)
  · have hm := iteT hm hc5
    refine WP.seq (fun K6 hK6 => ?_)
    refine WP.region ?_
    refine WL.runk 1 [4] [(4, .int .i64 (-1))] (by kernel_rfl) ?_
    refine WL.nil ?_
    refine WQ.then_normal (hK6 _ _ _ ?_)
    refine WP.ret ?_
    refine WQ.then_ret ?_
    obtain rfl := Option.some.inj hm
    exact WQ.ret1 _ rfl rfl ⟨rfl, (Ext.refl w)⟩
  have hm := iteF hm hc5
  refine WP.skip ?_
  refine WQ.then_normal (hK3 _ _ _ ?_)
  refine WP.seq (fun K7 hK7 => ?_)
  refine WP.region ?_
  refine WL.runk 2 [4] [(4, .int .i64 (wI64 (left_1 - (a_0.length : Int))))] (by kernel_rfl) ?_
  refine WL.nil ?_
  refine WQ.then_normal (hK7 _ _ _ ?_)
  refine WP.ret ?_
  obtain rfl := Option.some.inj hm
  exact WQ.ret1 _ rfl rfl ⟨rfl, (Ext.refl w)⟩

theorem c_67 (n : Nat) (a_0 : SRepair) (a0_1' : Option Addr) (c0_1' : Nat) (a0_2' : Option Addr) (c0_2' : Nat) (left_1 : Int) (w : World) {r : Int} (hm : m_laws_szRepair n a_0 left_1 = some r) (hr0_1 : Rd fInt.ty w a0_1' a_0.Mends) (hle0_1 : a_0.Mends.length ≤ c0_1') (hr0_2 : Rd fInt.ty w a0_2' a_0.First) (hle0_2 : a_0.First.length ≤ c0_2') :
    CallV Try.prog 67 #[.agg #[.string (bs a_0.Name), .slice a0_1' a_0.Mends.length c0_1', .slice a0_2' a_0.First.length c0_2', .int .i64 a_0.Price, .int .i64 a_0.Hours], .int .i64 left_1] w (fun v w' => v = .int .i64 r ∧ Ext w w') := by
  unfold m_laws_szRepair at hm
  refine CallV.enter Try.func67 rfl (by kernel_rfl) Try.ntmps67 (env := [(0, .agg #[.string (bs a_0.Name), .slice a0_1' a_0.Mends.length c0_1', .slice a0_2' a_0.First.length c0_2', .int .i64 a_0.Price, .int .i64 a_0.Hours]), (1, .int .i64 left_1)]) ⟨rfl, rfl, trivial⟩ ?_
  refine WP.seq (fun K1 hK1 => ?_)
  refine WP.region ?_
  refine WL.box 72 [.string (bs a_0.Name), .slice a0_1' a_0.Mends.length c0_1', .slice a0_2' a_0.First.length c0_2', .int .i64 a_0.Price, .int .i64 a_0.Hours] 2 (by kernel_rfl) rfl rfl rfl rfl ?_
  intro b2 w3 hE4 hR5
  have hb7 : Ext w w3 := Ext.trans (Ext.refl w) hE4
  have hL8 : w.heap.size ≤ w3.heap.size := Nat.le_trans (Nat.le_refl _) hE4.size
  have hS9 : SH w3 w.heap.size [aBox 72 b2 [.string (bs a_0.Name), .slice a0_1' a_0.Mends.length c0_1', .slice a0_2' a_0.First.length c0_2', .int .i64 a_0.Price, .int .i64 a_0.Hours]] := SH.add (SH.nil _ _) hE4 (Nat.le_refl _) hR5
  refine WL.runk 1 [1, 2] [(1, .int .i64 left_1), (2, .pointer (some ⟨b2, 0, none⟩))] (by kernel_rfl) ?_
  refine WL.nil ?_
  refine WQ.then_normal (hK1 _ _ _ ?_)
  refine WP.seq (fun K10 hK10 => ?_)
  refine WP.region ?_
  refine WL.runk 2 [2, 5, 6] [(2, .pointer (some ⟨b2, 0, none⟩)), (5, .int .i64 left_1), (6, .pointer (some ⟨b2, 0, none⟩))] (by kernel_rfl) ?_
  refine WL.st (.string (bs a_0.Name)) (ST.load (cell_ext (SH.boxAt (SH.front 0 hS9) 0 _ rfl)) rfl rfl Try.underlying9 rfl) rfl rfl rfl ?_
  refine WL.runk 3 [1, 2] [(2, .pointer (some ⟨b2, 0, none⟩)), (1, .int .i64 (wI64 (left_1 - (a_0.Name.length : Int))))] (by kernel_rfl) ?_
  refine WL.nil ?_
  refine WQ.then_normal (hK10 _ _ _ ?_)
  refine WP.seq (fun K11 hK11 => ?_)
  refine WP.seq (fun K12 hK12 => ?_)
  refine WP.region ?_
  refine WL.runk 2 [1, 2, 11] [(2, .pointer (some ⟨b2, 0, none⟩)), (1, .int .i64 (wI64 (left_1 - (a_0.Name.length : Int)))), (11, .bool (decide ((wI64 (left_1 - (a_0.Name.length : Int))) < 0)))] (by kernel_rfl) ?_
  refine WL.nil ?_
  refine WQ.then_normal (hK12 _ _ _ ?_)
  refine WP.cond (decide ((wI64 (left_1 - (a_0.Name.length : Int))) < 0)) rfl rfl (fun hc13 => ?_) (fun hc13 => ?_)
  · have hm := iteT hm hc13
    refine WP.seq (fun K14 hK14 => ?_)
    refine WP.region ?_
    refine WL.runk 1 [4] [(4, .int .i64 (-1))] (by kernel_rfl) ?_
    refine WL.nil ?_
    refine WQ.then_normal (hK14 _ _ _ ?_)
    refine WP.ret ?_
    refine WQ.then_ret ?_
    obtain rfl := Option.some.inj hm
    exact WQ.ret1 _ rfl rfl ⟨rfl, hb7⟩
  have hm := iteF hm hc13
  refine WP.skip ?_
  refine WQ.then_normal (hK11 _ _ _ ?_)
  refine WP.seq (fun K15 hK15 => ?_)
  refine WP.region ?_
  refine WL.runk 1 [1, 2, 12] [(2, .pointer (some ⟨b2, 0, none⟩)), (1, .int .i64 (wI64 (left_1 - (a_0.Name.length : Int)))), (12, .pointer (some ⟨b2, 1, none⟩))] (by kernel_rfl) ?_
  refine WL.st (.slice a0_1' a_0.Mends.length c0_1') (ST.load (cell_ext (SH.boxAt (SH.front 0 hS9) 1 _ rfl)) rfl rfl Try.underlying25 rfl) rfl rfl rfl ?_
  refine WL.runk 1 [2, 13, 14] [(2, .pointer (some ⟨b2, 0, none⟩)), (13, .slice a0_1' a_0.Mends.length c0_1'), (14, .int .i64 (wI64 (left_1 - (a_0.Name.length : Int))))] (by kernel_rfl) ?_
  obtain ⟨x16, hx17, hm⟩ := bindE hm
  refine WL.call 103 #[.slice a0_1' a_0.Mends.length c0_1', .int .i64 (wI64 (left_1 - (a_0.Name.length : Int)))] rfl rfl (by kernel_rfl) (c_103 n a_0.Mends a0_1' c0_1' (wI64 (left_1 - (a_0.Name.length : Int))) w3 hx17 (Rd.below hr0_1 hb7) hle0_1) ?_
  rintro _ w18 ⟨rfl, hE19⟩
  refine ⟨_, rfl, ?_⟩
  have hb21 : Ext w w18 := Ext.trans hb7 hE19
  have hL22 : w.heap.size ≤ w18.heap.size := Nat.le_trans hL8 hE19.size
  have hS23 : SH w18 w.heap.size [aBox 72 b2 [.string (bs a_0.Name), .slice a0_1' a_0.Mends.length c0_1', .slice a0_2' a_0.First.length c0_2', .int .i64 a_0.Price, .int .i64 a_0.Hours]] := SH.ext hS9 hE19
  refine WL.runk 1 [1, 2] [(2, .pointer (some ⟨b2, 0, none⟩)), (1, .int .i64 x16)] (by kernel_rfl) ?_
  refine WL.nil ?_
  refine WQ.then_normal (hK15 _ _ _ ?_)
  refine WP.seq (fun K24 hK24 => ?_)
  refine WP.seq (fun K25 hK25 => ?_)
  refine WP.region ?_
  refine WL.runk 2 [1, 2, 17] [(2, .pointer (some ⟨b2, 0, none⟩)), (1, .int .i64 x16), (17, .bool (decide (x16 < 0)))] (by kernel_rfl) ?_
  refine WL.nil ?_
  refine WQ.then_normal (hK25 _ _ _ ?_)
  refine WP.cond (decide (x16 < 0)) rfl rfl (fun hc26 => ?_) (fun hc26 => ?_)
  · have hm := iteT hm hc26
    refine WP.seq (fun K27 hK27 => ?_)
    refine WP.region ?_
    refine WL.runk 1 [4] [(4, .int .i64 (-1))] (by kernel_rfl) ?_
    refine WL.nil ?_
    refine WQ.then_normal (hK27 _ _ _ ?_)
    refine WP.ret ?_
    refine WQ.then_ret ?_
    obtain rfl := Option.some.inj hm
    exact WQ.ret1 _ rfl rfl ⟨rfl, hb21⟩
  have hm := iteF hm hc26
  refine WP.skip ?_
  refine WQ.then_normal (hK24 _ _ _ ?_)
  refine WP.seq (fun K28 hK28 => ?_)
  refine WP.region ?_
  refine WL.runk 1 [1, 18] [(1, .int .i64 x16), (18, .pointer (some ⟨b2, 2, none⟩))] (by kernel_rfl) ?_
  refine WL.st (.slice a0_2' a_0.First.length c0_2') (ST.load (cell_ext (SH.boxAt (SH.front 0 hS23) 2 _ rfl)) rfl rfl Try.underlying25 rfl) rfl rfl rfl ?_
  refine WL.runk 1 [19, 20] [(19, .slice a0_2' a_0.First.length c0_2'), (20, .int .i64 x16)] (by kernel_rfl) ?_
  obtain ⟨x29, hx30, hm⟩ := bindE hm
  refine WL.call 103 #[.slice a0_2' a_0.First.length c0_2', .int .i64 x16] rfl rfl (by kernel_rfl) (c_103 n a_0.First a0_2' c0_2' x16 w18 hx30 (Rd.below hr0_2 hb21) hle0_2) ?_
  rintro _ w31 ⟨rfl, hE32⟩
  refine ⟨_, rfl, ?_⟩
  have hb34 : Ext w w31 := Ext.trans hb21 hE32
  have hL35 : w.heap.size ≤ w31.heap.size := Nat.le_trans hL22 hE32.size
  have hS36 : SH w31 w.heap.size [aBox 72 b2 [.string (bs a_0.Name), .slice a0_1' a_0.Mends.length c0_1', .slice a0_2' a_0.First.length c0_2', .int .i64 a_0.Price, .int .i64 a_0.Hours]] := SH.ext hS23 hE32
  refine WL.runk 1 [1] [(1, .int .i64 x29)] (by kernel_rfl) ?_
  refine WL.nil ?_
  refine WQ.then_normal (hK28 _ _ _ ?_)
  refine WP.seq (fun K37 hK37 => ?_)
  refine WP.seq (fun K38 hK38 => ?_)
  refine WP.region ?_
  refine WL.runk 2 [1, 23] [(1, .int .i64 x29), (23, .bool (decide (x29 < 0)))] (by kernel_rfl) ?_
  refine WL.nil ?_
  refine WQ.then_normal (hK38 _ _ _ ?_)
  refine WP.cond (decide (x29 < 0)) rfl rfl (fun hc39 => ?_) (fun hc39 => ?_)
  · have hm := iteT hm hc39
    refine WP.seq (fun K40 hK40 => ?_)
    refine WP.region ?_
    refine WL.runk 1 [4] [(4, .int .i64 (-1))] (by kernel_rfl) ?_
    refine WL.nil ?_
    refine WQ.then_normal (hK40 _ _ _ ?_)
    refine WP.ret ?_
    refine WQ.then_ret ?_
    obtain rfl := Option.some.inj hm
    exact WQ.ret1 _ rfl rfl ⟨rfl, hb34⟩
  have hm := iteF hm hc39
  refine WP.skip ?_
  refine WQ.then_normal (hK37 _ _ _ ?_)
  refine WP.seq (fun K41 hK41 => ?_)
  refine WP.region ?_
  refine WL.runk 2 [4] [(4, .int .i64 x29)] (by kernel_rfl) ?_
  refine WL.nil ?_
  refine WQ.then_normal (hK41 _ _ _ ?_)
  refine WP.ret ?_
  obtain rfl := Option.some.inj hm
  exact WQ.ret1 _ rfl rfl ⟨rfl, hb34⟩

theorem c_28 (n : Nat) (a_0 : List SRepair) (a0' : Option Addr) (c0' : Nat) (left_1 : Int) (w : World) {r : Int} (hm : m_laws_szRepairS n a_0 left_1 = some r) (h0 : Rd fRepair.ty w a0' a_0) (_hle0 : a_0.length ≤ c0') :
    CallV Try.prog 28 #[.slice a0' a_0.length c0', .int .i64 left_1] w (fun v w' => v = .int .i64 r ∧ Ext w w') := by
  unfold m_laws_szRepairS at hm
  refine CallV.enter Try.func28 rfl (by kernel_rfl) Try.ntmps28 (env := [(0, .slice a0' a_0.length c0'), (1, .int .i64 left_1)]) ⟨rfl, rfl, trivial⟩ ?_
  refine WP.seq (fun K1 hK1 => ?_)
  refine WP.region ?_
  refine WL.runk 1 [0, 1] [(0, .slice a0' a_0.length c0'), (1, .int .i64 left_1)] (by kernel_rfl) ?_
  refine WL.nil ?_
  refine WQ.then_normal (hK1 _ _ _ ?_)
  refine WP.seq (fun K2 hK2 => ?_)
  refine WP.region ?_
  refine WL.runk 5 [0, 1] [(0, .slice a0' a_0.length c0'), (1, .int .i64 (wI64 (left_1 - (a_0.length : Int))))] (by kernel_rfl) ?_
  refine WL.nil ?_
  refine WQ.then_normal (hK2 _ _ _ ?_)
  refine WP.seq (fun K3 hK3 => ?_)
  refine WP.seq (fun K4 hK4 => ?_)
  refine WP.region ?_
  refine WL.runk 2 [0, 1, 11] [(0, .slice a0' a_0.length c0'), (1, .int .i64 (wI64 (left_1 - (a_0.length : Int)))), (11, .bool (decide ((wI64 (left_1 - (a_0.length : Int))) < 0)))] (by kernel_rfl) ?_
  refine WL.nil ?_
  refine WQ.then_normal (hK4 _ _ _ ?_)
  refine WP.cond (decide ((wI64 (left_1 - (a_0.length : Int))) < 0)) rfl rfl (fun hc5 => ?_) (fun hc5 => ?_)
  · have hm := iteT hm hc5
    refine WP.seq (fun K6 hK6 => ?_)
    refine WP.region ?_
    refine WL.runk 1 [4] [(4, .int .i64 (-1))] (by kernel_rfl) ?_
    refine WL.nil ?_
    refine WQ.then_normal (hK6 _ _ _ ?_)
    refine WP.ret ?_
    refine WQ.then_ret ?_
    obtain rfl := Option.some.inj hm
    exact WQ.ret1 _ rfl rfl ⟨rfl, (Ext.refl w)⟩
  have hm := iteF hm hc5
  refine WP.skip ?_
  refine WQ.then_normal (hK3 _ _ _ ?_)
  refine WP.seq (fun K7 hK7 => ?_)
  refine WP.seq (fun K8 hK8 => ?_)
  refine WP.region ?_
  refine WL.runk 1 [0, 1, 5] [(0, .slice a0' a_0.length c0'), (1, .int .i64 (wI64 (left_1 - (a_0.length : Int)))), (5, .int .i64 0)] (by kernel_rfl) ?_
  refine WL.nil ?_
  refine WQ.then_normal (hK8 _ _ _ ?_)
  refine WP.block ?_
  obtain ⟨t20, ht21, hm⟩ := bindE hm
  have hmo15 := hm; clear hm
  refine WP.sub [(0, .slice a0' a_0.length c0'), (1, .int .i64 (wI64 (left_1 - (a_0.length : Int)))), (5, .int .i64 0)] ⟨rfl, rfl, rfl, trivial⟩ ?_
  refine WP.loop (fun n' env' w' => ∃ (st9 : Int × Int) , env' = [(0, .slice a0' a_0.length c0'), (1, .int .i64 st9.1), (5, .int .i64 st9.2)] ∧ Ext w w' ∧ w.heap.size ≤ w'.heap.size ∧ SH w' w.heap.size [] ∧ loopN (m_laws_szRepairS_l1 n a_0) n' st9 = some t20) n ⟨((wI64 (left_1 - (a_0.length : Int))), 0), rfl, (Ext.refl w), (Nat.le_refl _), (SH.nil _ _), ht21⟩ ?_
  rintro n17 _ w10 ⟨st9, rfl, hb11, hL12, hS13, hl14⟩ K16 hK16
  obtain ⟨n18, s19, rfl, hm, hl14⟩ := loopN_some hl14
  unfold m_laws_szRepairS_l1 at hm
  refine WP.seq (fun K22 hK22 => ?_)
  refine WP.seq (fun K23 hK23 => ?_)
  refine WP.region ?_
  refine WL.runk 4 [0, 1, 5, 15] [(0, .slice a0' a_0.length c0'), (1, .int .i64 st9.1), (5, .int .i64 st9.2), (15, .bool (decide (st9.2 < (a_0.length : Int))))] (by kernel_rfl) ?_
  refine WL.nil ?_
  refine WQ.then_normal (hK23 _ _ _ ?_)
  refine WP.cond (decide (st9.2 < (a_0.length : Int))) rfl rfl (fun hc24 => ?_) (fun hc24 => ?_)
  rotate_left
  · have hm := iteF hm hc24
    refine WP.exit ?_
    refine WQ.then_exit ?_
    refine WQ.then_exit ?_
    refine WQ.block_here ?_
    obtain rfl := Option.some.inj hm
    obtain rfl := afterN_done hl14
    have hm := hmo15
    refine WQ.then_normal (hK7 _ _ _ ?_)
    refine WP.seq (fun K51 hK51 => ?_)
    refine WP.region ?_
    refine WL.runk 2 [4] [(4, .int .i64 st9.1)] (by kernel_rfl) ?_
    refine WL.nil ?_
    refine WQ.then_normal (hK51 _ _ _ ?_)
    refine WP.ret ?_
    obtain rfl := Option.some.inj hm
    exact WQ.ret1 _ rfl rfl ⟨rfl, hb11⟩
  have hm := iteT hm hc24
  refine WP.skip ?_
  refine WQ.then_normal (hK22 _ _ _ ?_)
  refine WP.seq (fun K25 hK25 => ?_)
  refine WP.block ?_
  refine WP.seq (fun K26 hK26 => ?_)
  refine WP.region ?_
  refine WL.runk 2 [0, 1, 5, 18, 19] [(0, .slice a0' a_0.length c0'), (1, .int .i64 st9.1), (5, .int .i64 st9.2), (18, .slice a0' a_0.length c0'), (19, .int .i64 st9.2)] (by kernel_rfl) ?_
  obtain ⟨x27, hx28, hm⟩ := bindE hm
  obtain ⟨a29, c30, a34, c35, hc39, hR31, hle32, hR36, hle37⟩ := nest_Repair h0 hx28
  refine WL.st (.pointer (some (at_ a0' (Int.toNat st9.2 * 5)))) (ST.index (T := fRepair.ty) (xs := a_0) (Rd.below h0 hb11) hx28 rfl rfl rfl Try.underlying39 (info72).1 (info72).2.1) rfl rfl rfl ?_
  refine WL.st (.agg #[.string (bs x27.Name), .slice a29 x27.Mends.length c30, .slice a34 x27.First.length c35, .int .i64 x27.Price, .int .i64 x27.Hours]) (ST.loadAgg (vs := [.string (bs x27.Name), .slice a29 x27.Mends.length c30, .slice a34 x27.First.length c35, .int .i64 x27.Price, .int .i64 x27.Hours]) (at_agg (cells_ext hc39 hb11)) rfl rfl rfl Try.underlying72 rfl (info72).1 (info72).2.1) rfl rfl rfl ?_
  refine WL.runk 1 [0, 5, 21, 22] [(0, .slice a0' a_0.length c0'), (5, .int .i64 st9.2), (21, .agg #[.string (bs x27.Name), .slice a29 x27.Mends.length c30, .slice a34 x27.First.length c35, .int .i64 x27.Price, .int .i64 x27.Hours]), (22, .int .i64 st9.1)] (by kernel_rfl) ?_
  obtain ⟨x40, hx41, hm⟩ := bindE hm
  refine WL.call 67 #[.agg #[.string (bs x27.Name), .slice a29 x27.Mends.length c30, .slice a34 x27.First.length c35, .int .i64 x27.Price, .int .i64 x27.Hours], .int .i64 st9.1] rfl rfl (by kernel_rfl) (c_67 n x27 a29 c30 a34 c35 st9.1 w10 hx41 (Rd.below hR31 hb11) hle32 (Rd.below hR36 hb11) hle37) ?_
  rintro _ w42 ⟨rfl, hE43⟩
  refine ⟨_, rfl, ?_⟩
  have hb45 : Ext w w42 := Ext.trans hb11 hE43
  have hL46 : w.heap.size ≤ w42.heap.size := Nat.le_trans hL12 hE43.size
  have hS47 : SH w42 w.heap.size [] := SH.ext hS13 hE43
  refine WL.runk 1 [0, 1, 5] [(0, .slice a0' a_0.length c0'), (5, .int .i64 st9.2), (1, .int .i64 x40)] (by kernel_rfl) ?_
  refine WL.nil ?_
  refine WQ.then_normal (hK26 _ _ _ ?_)
  refine WP.seq (fun K48 hK48 => ?_)
  refine WP.region ?_
  refine WL.runk 2 [0, 1, 5, 25] [(0, .slice a0' a_0.length c0'), (5, .int .i64 st9.2), (1, .int .i64 x40), (25, .bool (decide (x40 < 0)))] (by kernel_rfl) ?_
  refine WL.nil ?_
  refine WQ.then_normal (hK48 _ _ _ ?_)
  refine WP.cond (decide (x40 < 0)) rfl rfl (fun hc49 => ?_) (fun hc49 => ?_)
  rotate_left
  · have hm := iteF hm hc49
    refine WP.skip ?_
    refine WQ.block_normal ?_
    refine WQ.then_normal (hK25 _ _ _ ?_)
    refine WP.region ?_
    refine WL.runk 3 [0, 1, 5] [(0, .slice a0' a_0.length c0'), (5, .int .i64 (wI64 (st9.2 + 1))), (1, .int .i64 x40)] (by kernel_rfl) ?_
    refine WL.nil ?_
    obtain rfl := Option.some.inj hm
    exact WQ.round hK16 ⟨(x40, (wI64 (st9.2 + 1))), rfl, hb45, hL46, hS47, hl14⟩ (Nat.lt_succ_self _) ⟨rfl, rfl, rfl, trivial⟩
  have hm := iteT hm hc49
  refine WP.seq (fun K50 hK50 => ?_)
  refine WP.region ?_
  refine WL.runk 1 [4] [(4, .int .i64 (-1))] (by kernel_rfl) ?_
  refine WL.nil ?_
  refine WQ.then_normal (hK50 _ _ _ ?_)
  refine WP.ret ?_
  refine WQ.block_ret ?_
  refine WQ.then_ret ?_
  refine WQ.then_ret ?_
  refine WQ.block_ret ?_
  refine WQ.then_ret ?_
  obtain rfl := Option.some.inj hm
  obtain rfl := afterN_done hl14
  have hm := hmo15
  obtain rfl := Option.some.inj hm
  exact WQ.ret1 _ rfl rfl ⟨rfl, hb45⟩

theorem c_36 (n : Nat) (a_0 : List Int) (a0' : Option Addr) (c0' : Nat) (w : World) {r : List Int} (hm : m_laws_toInt64S n a_0 = some r) (h0 : Rd fInt.ty w a0' a_0) (_hle0 : a_0.length ≤ c0') :
    CallV Try.prog 36 #[.slice a0' a_0.length c0'] w (fun v w' => ∃ (ra0 : Option Addr) (rc0 : Nat), v = .slice ra0 r.length rc0 ∧ Ext w w' ∧ SH w' w.heap.size [aOwn fInt 2 ra0 rc0 r]) := by
  unfold m_laws_toInt64S at hm
  refine CallV.enter Try.func36 rfl (by kernel_rfl) Try.ntmps36 (env := [(0, .slice a0' a_0.length c0')]) ⟨rfl, trivial⟩ ?_
  refine WP.seq (fun K1 hK1 => ?_)
  refine WP.region ?_
  refine WL.runk 1 [0] [(0, .slice a0' a_0.length c0')] (by kernel_rfl) ?_
  refine WL.nil ?_
  refine WQ.then_normal (hK1 _ _ _ ?_)
  refine WP.seq (fun K2 hK2 => ?_)
  refine WP.region ?_
  refine WL.runk 2 [0, 6] [(0, .slice a0' a_0.length c0'), (6, .int .i64 (a_0.length : Int))] (by kernel_rfl) ?_
  obtain ⟨x3, hx4, hm⟩ := bindE hm
  refine WL.make fInt 7 hx4 rfl rfl rfl Try.underlying25 (info2).1 (info2).2.2.1 (info2).2.1 (info2).2.2.2 rfl rfl rfl rfl rfl ?_
  intro a5 c6 w7 hE8 hR9
  have hb11 : Ext w w7 := Ext.trans (Ext.refl w) hE8
  have hL12 : w.heap.size ≤ w7.heap.size := Nat.le_trans (Nat.le_refl _) hE8.size
  have hS13 : SH w7 w.heap.size [aOwn fInt 2 a5 c6 x3] := SH.add (SH.nil _ _) hE8 (Nat.le_refl _) hR9
  refine WL.runk 1 [0, 3] [(0, .slice a0' a_0.length c0'), (3, .slice a5 x3.length c6)] (by kernel_rfl) ?_
  refine WL.nil ?_
  refine WQ.then_normal (hK2 _ _ _ ?_)
  refine WP.seq (fun K14 hK14 => ?_)
  refine WP.seq (fun K15 hK15 => ?_)
  refine WP.region ?_
  refine WL.runk 1 [0, 3, 4] [(0, .slice a0' a_0.length c0'), (3, .slice a5 x3.length c6), (4, .int .i64 0)] (by kernel_rfl) ?_
  refine WL.nil ?_
  refine WQ.then_normal (hK15 _ _ _ ?_)
  refine WP.block ?_
  obtain ⟨t54, ht55, hm⟩ := bindE hm
  have hmo49 := hm; clear hm
  refine WP.sub [(0, .slice a0' a_0.length c0'), (3, .slice a5 x3.length c6), (4, .int .i64 0)] ⟨rfl, rfl, rfl, trivial⟩ ?_
  refine WP.loop (fun n' env' w' => ∃ (st43 : Int × List Int) , env' = [(0, .slice a0' a_0.length c0'), (3, .slice a5 st43.2.length c6), (4, .int .i64 st43.1)] ∧ Ext w w' ∧ w.heap.size ≤ w'.heap.size ∧ SH w' w.heap.size [aOwn fInt 2 a5 c6 st43.2] ∧ loopN (m_laws_toInt64S_l1 n a_0) n' st43 = some t54) n ⟨(0, x3), rfl, hb11, hL12, hS13, ht55⟩ ?_
  rintro n51 _ w44 ⟨st43, rfl, hb45, hL46, hS47, hl48⟩ K50 hK50
  obtain ⟨n52, s53, rfl, hm, hl48⟩ := loopN_some hl48
  unfold m_laws_toInt64S_l1 at hm
  refine WP.seq (fun K56 hK56 => ?_)
  refine WP.seq (fun K57 hK57 => ?_)
  refine WP.region ?_
  refine WL.runk 4 [0, 3, 4, 11] [(0, .slice a0' a_0.length c0'), (3, .slice a5 st43.2.length c6), (4, .int .i64 st43.1), (11, .bool (decide (st43.1 < (a_0.length : Int))))] (by kernel_rfl) ?_
  refine WL.nil ?_
  refine WQ.then_normal (hK57 _ _ _ ?_)
  refine WP.cond (decide (st43.1 < (a_0.length : Int))) rfl rfl (fun hc58 => ?_) (fun hc58 => ?_)
  rotate_left
  · have hm := iteF hm hc58
    refine WP.exit ?_
    refine WQ.then_exit ?_
    refine WQ.then_exit ?_
    refine WQ.block_here ?_
    obtain rfl := Option.some.inj hm
    obtain rfl := afterN_done hl48
    have hm := hmo49
    refine WQ.then_normal (hK14 _ _ _ ?_)
    refine WP.seq (fun K69 hK69 => ?_)
    refine WP.region ?_
    refine WL.runk 2 [2] [(2, .slice a5 st43.2.length c6)] (by kernel_rfl) ?_
    refine WL.nil ?_
    refine WQ.then_normal (hK69 _ _ _ ?_)
    refine WP.ret ?_
    obtain rfl := Option.some.inj hm
    exact WQ.ret1 _ rfl rfl ⟨_, _, rfl, hb45, hS47⟩
  have hm := iteT hm hc58
  refine WP.skip ?_
  refine WQ.then_normal (hK56 _ _ _ ?_)
  refine WP.seq (fun K59 hK59 => ?_)
  refine WP.block ?_
  refine WP.region ?_
  refine WL.runk 4 [0, 3, 4, 14, 15, 16, 17] [(0, .slice a0' a_0.length c0'), (3, .slice a5 st43.2.length c6), (4, .int .i64 st43.1), (14, .slice a5 st43.2.length c6), (15, .int .i64 st43.1), (16, .slice a0' a_0.length c0'), (17, .int .i64 st43.1)] (by kernel_rfl) ?_
  obtain ⟨x60, hx61, hm⟩ := bindE hm
  refine WL.st (.pointer (some (at_ a0' (Int.toNat st43.1 * 1)))) (ST.index (T := fInt.ty) (xs := a_0) (Rd.below h0 hb45) hx61 rfl rfl rfl Try.underlying25 (info2).1 (info2).2.1) rfl rfl rfl ?_
  refine WL.st (.int .i64 x60) (ST.load (cell_ext (Rd.flat (F := fInt) (Rd.below h0 hb45) hx61 0 rfl)) rfl rfl Try.underlying2 rfl) rfl rfl rfl ?_
  obtain ⟨x62, hx63, hm⟩ := bindE hm
  refine WL.st (.pointer (some (at_ a5 (Int.toNat st43.1 * 1)))) (ST.index (T := fInt.ty) (xs := st43.2) (SH.rd (SH.front 0 hS47)) hx63 rfl rfl rfl Try.underlying25 (info2).1 (info2).2.1) rfl rfl rfl ?_
  refine WL.store (F := fInt) x60 0 [.int .i64 x60] (SH.front 0 hS47) hL46 hx63 rfl rfl rfl rfl rfl rfl rfl (info2).1 (info2).2.1 rfl rfl rfl ?_
  intro w64 hB65 hS66
  have hb67 : Ext w w64 := Below.trans hb45 hB65
  have hL68 : w.heap.size ≤ w64.heap.size := Nat.le_trans hL46 hB65.size
  refine WL.sub [(0, .slice a0' a_0.length c0'), (3, .slice a5 ((st43.2.set (Int.toNat st43.1) x60).length) c6), (4, .int .i64 st43.1), (14, .slice a5 ((st43.2.set (Int.toNat st43.1) x60).length) c6), (15, .int .i64 st43.1), (16, .slice a0' a_0.length c0'), (17, .int .i64 st43.1), (18, .pointer (some (at_ a0' (Int.toNat st43.1 * 1)))), (19, .int .i64 x60)] ⟨rfl, by first | (simp only [List.length_set]; done) | (simp only [List.length_set]; rfl), rfl, by first | (simp only [List.length_set]; done) | (simp only [List.length_set]; rfl), rfl, rfl, rfl, rfl, rfl, trivial⟩ ?_
  refine WL.sub [(0, .slice a0' a_0.length c0'), (3, .slice a5 ((st43.2.set (Int.toNat st43.1) x60).length) c6), (4, .int .i64 st43.1)] ⟨rfl, rfl, rfl, trivial⟩ ?_
  refine WL.nil ?_
  refine WQ.block_normal ?_
  refine WQ.then_normal (hK59 _ _ _ ?_)
  refine WP.region ?_
  refine WL.runk 3 [0, 3, 4] [(0, .slice a0' a_0.length c0'), (3, .slice a5 ((st43.2.set (Int.toNat st43.1) x60).length) c6), (4, .int .i64 (wI64 (st43.1 + 1)))] (by kernel_rfl) ?_
  refine WL.nil ?_
  obtain rfl := Option.some.inj hm
  exact WQ.round hK50 ⟨((wI64 (st43.1 + 1)), (st43.2.set (Int.toNat st43.1) x60)), rfl, hb67, hL68, hS66, hl48⟩ (Nat.lt_succ_self _) ⟨rfl, rfl, rfl, trivial⟩

theorem c_69 (n : Nat) (a_0 : SRepair) (a0_1' : Option Addr) (c0_1' : Nat) (a0_2' : Option Addr) (c0_2' : Nat) (w : World) {r : SRepair} (hm : m_laws_toRepair n a_0 = some r) (hr0_1 : Rd fInt.ty w a0_1' a_0.Mends) (hle0_1 : a_0.Mends.length ≤ c0_1') (hr0_2 : Rd fInt.ty w a0_2' a_0.First) (hle0_2 : a_0.First.length ≤ c0_2') :
    CallV Try.prog 69 #[.agg #[.string (bs a_0.Name), .slice a0_1' a_0.Mends.length c0_1', .slice a0_2' a_0.First.length c0_2', .int .i64 a_0.Price, .int .i64 a_0.Hours]] w (fun v w' => ∃ (ra0_1 : Option Addr) (rc0_1 : Nat) (ra0_2 : Option Addr) (rc0_2 : Nat), v = .agg #[.string (bs r.Name), .slice ra0_1 r.Mends.length rc0_1, .slice ra0_2 r.First.length rc0_2, .int .i64 r.Price, .int .i64 r.Hours] ∧ Ext w w' ∧ SH w' w.heap.size [aOwn fInt 2 ra0_1 rc0_1 r.Mends, aOwn fInt 2 ra0_2 rc0_2 r.First]) := by
  unfold m_laws_toRepair at hm
  refine CallV.enter Try.func69 rfl (by kernel_rfl) Try.ntmps69 (env := [(0, .agg #[.string (bs a_0.Name), .slice a0_1' a_0.Mends.length c0_1', .slice a0_2' a_0.First.length c0_2', .int .i64 a_0.Price, .int .i64 a_0.Hours])]) ⟨rfl, trivial⟩ ?_
  refine WP.seq (fun K1 hK1 => ?_)
  refine WP.region ?_
  refine WL.box 72 [.string (bs a_0.Name), .slice a0_1' a_0.Mends.length c0_1', .slice a0_2' a_0.First.length c0_2', .int .i64 a_0.Price, .int .i64 a_0.Hours] 1 (by kernel_rfl) rfl rfl rfl rfl ?_
  intro b2 w3 hE4 hR5
  have hb7 : Ext w w3 := Ext.trans (Ext.refl w) hE4
  have hL8 : w.heap.size ≤ w3.heap.size := Nat.le_trans (Nat.le_refl _) hE4.size
  have hS9 : SH w3 w.heap.size [aBox 72 b2 [.string (bs a_0.Name), .slice a0_1' a_0.Mends.length c0_1', .slice a0_2' a_0.First.length c0_2', .int .i64 a_0.Price, .int .i64 a_0.Hours]] := SH.add (SH.nil _ _) hE4 (Nat.le_refl _) hR5
  refine WL.box 73 [.string (bs []), .slice none 0 0, .slice none 0 0, .int .i64 0, .int .i64 0] 2 (by kernel_rfl) rfl rfl rfl rfl ?_
  intro b10 w11 hE12 hR13
  have hb15 : Ext w w11 := Ext.trans hb7 hE12
  have hL16 : w.heap.size ≤ w11.heap.size := Nat.le_trans hL8 hE12.size
  have hS17 : SH w11 w.heap.size [aBox 73 b10 [.string (bs []), .slice none 0 0, .slice none 0 0, .int .i64 0, .int .i64 0], aBox 72 b2 [.string (bs a_0.Name), .slice a0_1' a_0.Mends.length c0_1', .slice a0_2' a_0.First.length c0_2', .int .i64 a_0.Price, .int .i64 a_0.Hours]] := SH.add hS9 hE12 hL8 hR13
  refine WL.sub [(1, .pointer (some ⟨b2, 0, none⟩)), (2, .pointer (some ⟨b10, 0, none⟩))] ⟨rfl, rfl, trivial⟩ ?_
  refine WL.nil ?_
  refine WQ.then_normal (hK1 _ _ _ ?_)
  refine WP.seq (fun K18 hK18 => ?_)
  refine WP.region ?_
  refine WL.box 73 [.string (bs []), .slice none 0 0, .slice none 0 0, .int .i64 0, .int .i64 0] 3 (by kernel_rfl) rfl rfl rfl rfl ?_
  intro b19 w20 hE21 hR22
  have hb24 : Ext w w20 := Ext.trans hb15 hE21
  have hL25 : w.heap.size ≤ w20.heap.size := Nat.le_trans hL16 hE21.size
  have hS26 : SH w20 w.heap.size [aBox 73 b19 [.string (bs []), .slice none 0 0, .slice none 0 0, .int .i64 0, .int .i64 0], aBox 73 b10 [.string (bs []), .slice none 0 0, .slice none 0 0, .int .i64 0, .int .i64 0], aBox 72 b2 [.string (bs a_0.Name), .slice a0_1' a_0.Mends.length c0_1', .slice a0_2' a_0.First.length c0_2', .int .i64 a_0.Price, .int .i64 a_0.Hours]] := SH.add hS17 hE21 hL16 hR22
  refine WL.sub [(1, .pointer (some ⟨b2, 0, none⟩)), (2, .pointer (some ⟨b10, 0, none⟩)), (3, .pointer (some ⟨b19, 0, none⟩))] ⟨rfl, rfl, rfl, trivial⟩ ?_
  refine WL.nil ?_
  refine WQ.then_normal (hK18 _ _ _ ?_)
  refine WP.seq (fun K27 hK27 => ?_)
  refine WP.region ?_
  refine WL.runk 1 [1, 2, 3, 4] [(1, .pointer (some ⟨b2, 0, none⟩)), (2, .pointer (some ⟨b10, 0, none⟩)), (3, .pointer (some ⟨b19, 0, none⟩)), (4, .pointer (some ⟨b2, 0, none⟩))] (by kernel_rfl) ?_
  refine WL.st (.string (bs a_0.Name)) (ST.load (cell_ext (SH.boxAt (SH.front 2 hS26) 0 _ rfl)) rfl rfl Try.underlying9 rfl) rfl rfl rfl ?_
  refine WL.runk 1 [1, 2, 3, 5, 6] [(1, .pointer (some ⟨b2, 0, none⟩)), (2, .pointer (some ⟨b10, 0, none⟩)), (3, .pointer (some ⟨b19, 0, none⟩)), (5, .string (bs a_0.Name)), (6, .pointer (some ⟨b19, 0, none⟩))] (by kernel_rfl) ?_
  refine WL.boxStore 0 [.string (bs a_0.Name)] [.string (bs a_0.Name), .slice none 0 0, .slice none 0 0, .int .i64 0, .int .i64 0] (SH.front 0 hS26) hL25 rfl rfl rfl rfl rfl rfl rfl (info9).1 (info9).2.1 rfl rfl rfl ?_
  intro w28 hB29 hS30
  have hb31 : Ext w w28 := Below.trans hb24 hB29
  have hL32 : w.heap.size ≤ w28.heap.size := Nat.le_trans hL25 hB29.size
  refine WL.sub [(1, .pointer (some ⟨b2, 0, none⟩)), (2, .pointer (some ⟨b10, 0, none⟩)), (3, .pointer (some ⟨b19, 0, none⟩))] ⟨rfl, rfl, rfl, trivial⟩ ?_
  refine WL.nil ?_
  refine WQ.then_normal (hK27 _ _ _ ?_)
  refine WP.seq (fun K33 hK33 => ?_)
  refine WP.region ?_
  refine WL.runk 1 [1, 2, 3, 7] [(1, .pointer (some ⟨b2, 0, none⟩)), (2, .pointer (some ⟨b10, 0, none⟩)), (3, .pointer (some ⟨b19, 0, none⟩)), (7, .pointer (some ⟨b2, 1, none⟩))] (by kernel_rfl) ?_
  refine WL.st (.slice a0_1' a_0.Mends.length c0_1') (ST.load (cell_ext (SH.boxAt (SH.front 2 hS30) 1 _ rfl)) rfl rfl Try.underlying25 rfl) rfl rfl rfl ?_
  obtain ⟨x34, hx35, hm⟩ := bindE hm
  refine WL.call 36 #[.slice a0_1' a_0.Mends.length c0_1'] rfl rfl (by kernel_rfl) (c_36 n a_0.Mends a0_1' c0_1' w28 hx35 (Rd.below hr0_1 hb31) hle0_1) ?_
  rintro _ w39 ⟨a36, c37, rfl, hE40, hR41⟩
  refine ⟨_, rfl, ?_⟩
  have hb42 : Ext w w39 := Ext.trans hb31 hE40
  have hL43 : w.heap.size ≤ w39.heap.size := Nat.le_trans hL32 hE40.size
  have hS44 : SH w39 w.heap.size [aOwn fInt 2 a36 c37 x34, aBox 73 b19 [.string (bs a_0.Name), .slice none 0 0, .slice none 0 0, .int .i64 0, .int .i64 0], aBox 73 b10 [.string (bs []), .slice none 0 0, .slice none 0 0, .int .i64 0, .int .i64 0], aBox 72 b2 [.string (bs a_0.Name), .slice a0_1' a_0.Mends.length c0_1', .slice a0_2' a_0.First.length c0_2', .int .i64 a_0.Price, .int .i64 a_0.Hours]] := SH.add hS30 hE40 hL32 hR41
  refine WL.runk 1 [1, 2, 3, 9, 10] [(1, .pointer (some ⟨b2, 0, none⟩)), (2, .pointer (some ⟨b10, 0, none⟩)), (3, .pointer (some ⟨b19, 0, none⟩)), (9, .slice a36 x34.length c37), (10, .pointer (some ⟨b19, 1, none⟩))] (by kernel_rfl) ?_
  refine WL.boxStore 1 [.slice a36 x34.length c37] [.string (bs a_0.Name), .slice a36 x34.length c37, .slice none 0 0, .int .i64 0, .int .i64 0] (SH.front 1 hS44) hL43 rfl rfl rfl rfl rfl rfl rfl (info25).1 (info25).2.1 rfl rfl rfl ?_
  intro w45 hB46 hS47
  have hb48 : Ext w w45 := Below.trans hb42 hB46
  have hL49 : w.heap.size ≤ w45.heap.size := Nat.le_trans hL43 hB46.size
  refine WL.sub [(1, .pointer (some ⟨b2, 0, none⟩)), (2, .pointer (some ⟨b10, 0, none⟩)), (3, .pointer (some ⟨b19, 0, none⟩))] ⟨rfl, rfl, rfl, trivial⟩ ?_
  refine WL.nil ?_
  refine WQ.then_normal (hK33 _ _ _ ?_)
  refine WP.seq (fun K50 hK50 => ?_)
  refine WP.region ?_
  refine WL.runk 1 [1, 2, 3, 11] [(1, .pointer (some ⟨b2, 0, none⟩)), (2, .pointer (some ⟨b10, 0, none⟩)), (3, .pointer (some ⟨b19, 0, none⟩)), (11, .pointer (some ⟨b2, 2, none⟩))] (by kernel_rfl) ?_
  refine WL.st (.slice a0_2' a_0.First.length c0_2') (ST.load (cell_ext (SH.boxAt (SH.front 3 hS47) 2 _ rfl)) rfl rfl Try.underlying25 rfl) rfl rfl rfl ?_
  obtain ⟨x51, hx52, hm⟩ := bindE hm
  refine WL.call 36 #[.slice a0_2' a_0.First.length c0_2'] rfl rfl (by kernel_rfl) (c_36 n a_0.First a0_2' c0_2' w45 hx52 (Rd.below hr0_2 hb48) hle0_2) ?_
  rintro _ w56 ⟨a53, c54, rfl, hE57, hR58⟩
  refine ⟨_, rfl, ?_⟩
  have hb59 : Ext w w56 := Ext.trans hb48 hE57
  have hL60 : w.heap.size ≤ w56.heap.size := Nat.le_trans hL49 hE57.size
  have hS61 : SH w56 w.heap.size [aOwn fInt 2 a53 c54 x51, aBox 73 b19 [.string (bs a_0.Name), .slice a36 x34.length c37, .slice none 0 0, .int .i64 0, .int .i64 0], aOwn fInt 2 a36 c37 x34, aBox 73 b10 [.string (bs []), .slice none 0 0, .slice none 0 0, .int .i64 0, .int .i64 0], aBox 72 b2 [.string (bs a_0.Name), .slice a0_1' a_0.Mends.length c0_1', .slice a0_2' a_0.First.length c0_2', .int .i64 a_0.Price, .int .i64 a_0.Hours]] := SH.add hS47 hE57 hL49 hR58
  refine WL.runk 1 [1, 2, 3, 13, 14] [(1, .pointer (some ⟨b2, 0, none⟩)), (2, .pointer (some ⟨b10, 0, none⟩)), (3, .pointer (some ⟨b19, 0, none⟩)), (13, .slice a53 x51.length c54), (14, .pointer (some ⟨b19, 2, none⟩))] (by kernel_rfl) ?_
  refine WL.boxStore 2 [.slice a53 x51.length c54] [.string (bs a_0.Name), .slice a36 x34.length c37, .slice a53 x51.length c54, .int .i64 0, .int .i64 0] (SH.front 1 hS61) hL60 rfl rfl rfl rfl rfl rfl rfl (info25).1 (info25).2.1 rfl rfl rfl ?_
  intro w62 hB63 hS64
  have hb65 : Ext w w62 := Below.trans hb59 hB63
  have hL66 : w.heap.size ≤ w62.heap.size := Nat.le_trans hL60 hB63.size
  refine WL.sub [(1, .pointer (some ⟨b2, 0, none⟩)), (2, .pointer (some ⟨b10, 0, none⟩)), (3, .pointer (some ⟨b19, 0, none⟩))] ⟨rfl, rfl, rfl, trivial⟩ ?_
  refine WL.nil ?_
  refine WQ.then_normal (hK50 _ _ _ ?_)
  refine WP.seq (fun K67 hK67 => ?_)
  refine WP.region ?_
  refine WL.runk 1 [1, 2, 3, 15] [(1, .pointer (some ⟨b2, 0, none⟩)), (2, .pointer (some ⟨b10, 0, none⟩)), (3, .pointer (some ⟨b19, 0, none⟩)), (15, .pointer (some ⟨b2, 3, none⟩))] (by kernel_rfl) ?_
  refine WL.st (.int .i64 a_0.Price) (ST.load (cell_ext (SH.boxAt (SH.front 4 hS64) 3 _ rfl)) rfl rfl Try.underlying2 rfl) rfl rfl rfl ?_
  refine WL.runk 1 [1, 2, 3, 16, 17] [(1, .pointer (some ⟨b2, 0, none⟩)), (2, .pointer (some ⟨b10, 0, none⟩)), (3, .pointer (some ⟨b19, 0, none⟩)), (16, .int .i64 a_0.Price), (17, .pointer (some ⟨b19, 3, none⟩))] (by kernel_rfl) ?_
  refine WL.boxStore 3 [.int .i64 a_0.Price] [.string (bs a_0.Name), .slice a36 x34.length c37, .slice a53 x51.length c54, .int .i64 a_0.Price, .int .i64 0] (SH.front 0 hS64) hL66 rfl rfl rfl rfl rfl rfl rfl (info2).1 (info2).2.1 rfl rfl rfl ?_
  intro w68 hB69 hS70
  have hb71 : Ext w w68 := Below.trans hb65 hB69
  have hL72 : w.heap.size ≤ w68.heap.size := Nat.le_trans hL66 hB69.size
  refine WL.sub [(1, .pointer (some ⟨b2, 0, none⟩)), (2, .pointer (some ⟨b10, 0, none⟩)), (3, .pointer (some ⟨b19, 0, none⟩))] ⟨rfl, rfl, rfl, trivial⟩ ?_
  refine WL.nil ?_
  refine WQ.then_normal (hK67 _ _ _ ?_)
  refine WP.seq (fun K73 hK73 => ?_)
  refine WP.region ?_
  refine WL.runk 1 [2, 3, 18] [(2, .pointer (some ⟨b10, 0, none⟩)), (3, .pointer (some ⟨b19, 0, none⟩)), (18, .pointer (some ⟨b2, 4, none⟩))] (by kernel_rfl) ?_
  refine WL.st (.int .i64 a_0.Hours) (ST.load (cell_ext (SH.boxAt (SH.front 4 hS70) 4 _ rfl)) rfl rfl Try.underlying2 rfl) rfl rfl rfl ?_
  refine WL.runk 1 [2, 3, 19, 20] [(2, .pointer (some ⟨b10, 0, none⟩)), (3, .pointer (some ⟨b19, 0, none⟩)), (19, .int .i64 a_0.Hours), (20, .pointer (some ⟨b19, 4, none⟩))] (by kernel_rfl) ?_
  refine WL.boxStore 4 [.int .i64 a_0.Hours] [.string (bs a_0.Name), .slice a36 x34.length c37, .slice a53 x51.length c54, .int .i64 a_0.Price, .int .i64 a_0.Hours] (SH.front 0 hS70) hL72 rfl rfl rfl rfl rfl rfl rfl (info2).1 (info2).2.1 rfl rfl rfl ?_
  intro w74 hB75 hS76
  have hb77 : Ext w w74 := Below.trans hb71 hB75
  have hL78 : w.heap.size ≤ w74.heap.size := Nat.le_trans hL72 hB75.size
  refine WL.sub [(2, .pointer (some ⟨b10, 0, none⟩)), (3, .pointer (some ⟨b19, 0, none⟩))] ⟨rfl, rfl, trivial⟩ ?_
  refine WL.nil ?_
  refine WQ.then_normal (hK73 _ _ _ ?_)
  refine WP.seq (fun K79 hK79 => ?_)
  refine WP.region ?_
  refine WL.st (.agg #[.string (bs a_0.Name), .slice a36 x34.length c37, .slice a53 x51.length c54, .int .i64 a_0.Price, .int .i64 a_0.Hours]) (ST.loadAgg (vs := [.string (bs a_0.Name), .slice a36 x34.length c37, .slice a53 x51.length c54, .int .i64 a_0.Price, .int .i64 a_0.Hours]) (fun j v hv => SH.boxPart (us := [.string (bs a_0.Name), .slice a36 x34.length c37, .slice a53 x51.length c54, .int .i64 a_0.Price, .int .i64 a_0.Hours]) (SH.front 0 hS76) 0 rfl j v hv) rfl rfl rfl Try.underlying73 rfl (info73).1 (info73).2.1) rfl rfl rfl ?_
  refine WL.boxStore 0 [.string (bs a_0.Name), .slice a36 x34.length c37, .slice a53 x51.length c54, .int .i64 a_0.Price, .int .i64 a_0.Hours] [.string (bs a_0.Name), .slice a36 x34.length c37, .slice a53 x51.length c54, .int .i64 a_0.Price, .int .i64 a_0.Hours] (SH.front 3 hS76) hL78 rfl rfl rfl rfl rfl rfl rfl (info73).1 (info73).2.1 rfl rfl rfl ?_
  intro w80 hB81 hS82
  have hb83 : Ext w w80 := Below.trans hb77 hB81
  have hL84 : w.heap.size ≤ w80.heap.size := Nat.le_trans hL78 hB81.size
  refine WL.sub [(2, .pointer (some ⟨b10, 0, none⟩))] ⟨rfl, trivial⟩ ?_
  refine WL.nil ?_
  refine WQ.then_normal (hK79 _ _ _ ?_)
  refine WP.ret ?_
  obtain rfl := Option.some.inj hm
  exact WQ.retv1 _ rfl (RVal.box (SH.front 0 hS82) rfl Try.underlying73 rfl (info73).1 (info73).2.1) ⟨_, _, _, _, rfl, hb83, (SH.take 2 (SH.front 3 (SH.front 2 hS82)))⟩

theorem c_30 (n : Nat) (a_0 : List SRepair) (a0' : Option Addr) (c0' : Nat) (w : World) {r : List SRepair} (hm : m_laws_toRepairS n a_0 = some r) (h0 : Rd fRepair.ty w a0' a_0) (_hle0 : a_0.length ≤ c0') :
    CallV Try.prog 30 #[.slice a0' a_0.length c0'] w (fun v w' => ∃ (ra0 : Option Addr) (rc0 : Nat), v = .slice ra0 r.length rc0 ∧ Ext w w' ∧ SH w' w.heap.size [aNest fRepair 73 2 ra0 rc0 r]) := by
  unfold m_laws_toRepairS at hm
  refine CallV.enter Try.func30 rfl (by kernel_rfl) Try.ntmps30 (env := [(0, .slice a0' a_0.length c0')]) ⟨rfl, trivial⟩ ?_
  refine WP.seq (fun K1 hK1 => ?_)
  refine WP.region ?_
  refine WL.runk 1 [0] [(0, .slice a0' a_0.length c0')] (by kernel_rfl) ?_
  refine WL.nil ?_
  refine WQ.then_normal (hK1 _ _ _ ?_)
  refine WP.seq (fun K2 hK2 => ?_)
  refine WP.region ?_
  refine WL.runk 2 [0, 6] [(0, .slice a0' a_0.length c0'), (6, .int .i64 (a_0.length : Int))] (by kernel_rfl) ?_
  obtain ⟨x3, hx4, hm⟩ := bindE hm
  refine WL.makeN (ei := 2) fRepair 7 hx4 (.val (Fit.row' rfl (Fit.row' rfl (.val (.val .nil))))) (Emp.row (Emp.row Emp.nil)) rfl rfl rfl Try.underlying24 (info73).1 (info73).2.2.1 (info73).2.1 (info73).2.2.2 rfl rfl rfl rfl ?_
  intro a5 c6 w7 hE8 hR9
  have hb11 : Ext w w7 := Ext.trans (Ext.refl w) hE8
  have hL12 : w.heap.size ≤ w7.heap.size := Nat.le_trans (Nat.le_refl _) hE8.size
  have hS13 : SH w7 w.heap.size [aNest fRepair 73 2 a5 c6 x3] := SH.add (SH.nil _ _) hE8 (Nat.le_refl _) hR9
  refine WL.runk 1 [0, 3] [(0, .slice a0' a_0.length c0'), (3, .slice a5 x3.length c6)] (by kernel_rfl) ?_
  refine WL.nil ?_
  refine WQ.then_normal (hK2 _ _ _ ?_)
  refine WP.seq (fun K14 hK14 => ?_)
  refine WP.seq (fun K15 hK15 => ?_)
  refine WP.region ?_
  refine WL.runk 1 [0, 3, 4] [(0, .slice a0' a_0.length c0'), (3, .slice a5 x3.length c6), (4, .int .i64 0)] (by kernel_rfl) ?_
  refine WL.nil ?_
  refine WQ.then_normal (hK15 _ _ _ ?_)
  refine WP.block ?_
  obtain ⟨t87, ht88, hm⟩ := bindE hm
  have hmo82 := hm; clear hm
  refine WP.sub [(0, .slice a0' a_0.length c0'), (3, .slice a5 x3.length c6), (4, .int .i64 0)] ⟨rfl, rfl, rfl, trivial⟩ ?_
  refine WP.loop (fun n' env' w' => ∃ (st76 : Int × List SRepair) , env' = [(0, .slice a0' a_0.length c0'), (3, .slice a5 st76.2.length c6), (4, .int .i64 st76.1)] ∧ Ext w w' ∧ w.heap.size ≤ w'.heap.size ∧ SH w' w.heap.size [aNest fRepair 73 2 a5 c6 st76.2] ∧ loopN (m_laws_toRepairS_l1 n a_0) n' st76 = some t87) n ⟨(0, x3), rfl, hb11, hL12, hS13, ht88⟩ ?_
  rintro n84 _ w77 ⟨st76, rfl, hb78, hL79, hS80, hl81⟩ K83 hK83
  obtain ⟨n85, s86, rfl, hm, hl81⟩ := loopN_some hl81
  unfold m_laws_toRepairS_l1 at hm
  refine WP.seq (fun K89 hK89 => ?_)
  refine WP.seq (fun K90 hK90 => ?_)
  refine WP.region ?_
  refine WL.runk 4 [0, 3, 4, 11] [(0, .slice a0' a_0.length c0'), (3, .slice a5 st76.2.length c6), (4, .int .i64 st76.1), (11, .bool (decide (st76.1 < (a_0.length : Int))))] (by kernel_rfl) ?_
  refine WL.nil ?_
  refine WQ.then_normal (hK90 _ _ _ ?_)
  refine WP.cond (decide (st76.1 < (a_0.length : Int))) rfl rfl (fun hc91 => ?_) (fun hc91 => ?_)
  rotate_left
  · have hm := iteF hm hc91
    refine WP.exit ?_
    refine WQ.then_exit ?_
    refine WQ.then_exit ?_
    refine WQ.block_here ?_
    obtain rfl := Option.some.inj hm
    obtain rfl := afterN_done hl81
    have hm := hmo82
    refine WQ.then_normal (hK14 _ _ _ ?_)
    refine WP.seq (fun K135 hK135 => ?_)
    refine WP.region ?_
    refine WL.runk 2 [2] [(2, .slice a5 st76.2.length c6)] (by kernel_rfl) ?_
    refine WL.nil ?_
    refine WQ.then_normal (hK135 _ _ _ ?_)
    refine WP.ret ?_
    obtain rfl := Option.some.inj hm
    exact WQ.ret1 _ rfl rfl ⟨_, _, rfl, hb78, hS80⟩
  have hm := iteT hm hc91
  refine WP.skip ?_
  refine WQ.then_normal (hK89 _ _ _ ?_)
  refine WP.seq (fun K92 hK92 => ?_)
  refine WP.block ?_
  refine WP.region ?_
  refine WL.runk 4 [0, 3, 4, 14, 15, 16, 17] [(0, .slice a0' a_0.length c0'), (3, .slice a5 st76.2.length c6), (4, .int .i64 st76.1), (14, .slice a5 st76.2.length c6), (15, .int .i64 st76.1), (16, .slice a0' a_0.length c0'), (17, .int .i64 st76.1)] (by kernel_rfl) ?_
  obtain ⟨x93, hx94, hm⟩ := bindE hm
  obtain ⟨a95, c96, a100, c101, hc105, hR97, hle98, hR102, hle103⟩ := nest_Repair h0 hx94
  refine WL.st (.pointer (some (at_ a0' (Int.toNat st76.1 * 5)))) (ST.index (T := fRepair.ty) (xs := a_0) (Rd.below h0 hb78) hx94 rfl rfl rfl Try.underlying39 (info72).1 (info72).2.1) rfl rfl rfl ?_
  refine WL.st (.agg #[.string (bs x93.Name), .slice a95 x93.Mends.length c96, .slice a100 x93.First.length c101, .int .i64 x93.Price, .int .i64 x93.Hours]) (ST.loadAgg (vs := [.string (bs x93.Name), .slice a95 x93.Mends.length c96, .slice a100 x93.First.length c101, .int .i64 x93.Price, .int .i64 x93.Hours]) (at_agg (cells_ext hc105 hb78)) rfl rfl rfl Try.underlying72 rfl (info72).1 (info72).2.1) rfl rfl rfl ?_
  obtain ⟨x106, hx107, hm⟩ := bindE hm
  refine WL.call 69 #[.agg #[.string (bs x93.Name), .slice a95 x93.Mends.length c96, .slice a100 x93.First.length c101, .int .i64 x93.Price, .int .i64 x93.Hours]] rfl rfl (by kernel_rfl) (c_69 n x93 a95 c96 a100 c101 w77 hx107 (Rd.below hR97 hb78) hle98 (Rd.below hR102 hb78) hle103) ?_
  rintro _ w114 ⟨a108, c109, a111, c112, rfl, hE115, hR116⟩
  refine ⟨_, rfl, ?_⟩
  have hb117 : Ext w w114 := Ext.trans hb78 hE115
  have hL118 : w.heap.size ≤ w114.heap.size := Nat.le_trans hL79 hE115.size
  have hS119 : SH w114 w.heap.size [aOwn fInt 2 a108 c109 x106.Mends, aOwn fInt 2 a111 c112 x106.First, aNest fRepair 73 2 a5 c6 st76.2] := SH.add hS80 hE115 hL79 hR116
  obtain ⟨x120, hx121, hm⟩ := bindE hm
  obtain ⟨a122, c123, a125, c126, hS128⟩ := elem_Repair (SH.front 2 hS119) hx121
  refine WL.st (.pointer (some (at_ a5 (Int.toNat st76.1 * 5)))) (ST.index (T := fRepair.ty) (xs := st76.2) (SH.rdN (SH.front 2 hS119)) hx121 rfl rfl rfl Try.underlying24 (info73).1 (info73).2.1) rfl rfl rfl ?_
  refine WL.holeStore 0 [.string (bs x106.Name), .slice a108 x106.Mends.length c109, .slice a111 x106.First.length c112, .int .i64 x106.Price, .int .i64 x106.Hours] [.string (bs x106.Name), .slice a108 x106.Mends.length c109, .slice a111 x106.First.length c112, .int .i64 x106.Price, .int .i64 x106.Hours] (SH.front 2 hS128) hL118 rfl rfl rfl rfl rfl rfl rfl (info73).1 (info73).2.1 rfl rfl rfl ?_
  intro w129 hB130 hS131
  have hb132 : Ext w w129 := Below.trans hb117 hB130
  have hL133 : w.heap.size ≤ w129.heap.size := Nat.le_trans hL118 hB130.size
  refine WL.sub [(0, .slice a0' a_0.length c0'), (3, .slice a5 st76.2.length c6), (4, .int .i64 st76.1)] ⟨rfl, rfl, rfl, trivial⟩ ?_
  have hS134 : SH w129 w.heap.size [aNest fRepair 73 2 a5 c6 (st76.2.set (Int.toNat st76.1) x106), aOwn fInt 2 a122 c123 x120.Mends, aOwn fInt 2 a125 c126 x120.First] := SH.elemBack (Ix := [aOwn fInt 2 a108 c109 x106.Mends, aOwn fInt 2 a111 c112 x106.First]) (x' := x106) (SH.front 4 (SH.front 4 (SH.front 2 (SH.front 2 (SH.front 2 hS131))))) (.val (Fit.row' rfl (Fit.row' rfl (.val (.val .nil)))))
  refine WL.sub [(0, .slice a0' a_0.length c0'), (3, .slice a5 ((st76.2.set (Int.toNat st76.1) x106).length) c6), (4, .int .i64 st76.1)] ⟨rfl, by first | (simp only [List.length_set]; done) | (simp only [List.length_set]; rfl), rfl, trivial⟩ ?_
  refine WL.nil ?_
  refine WQ.block_normal ?_
  refine WQ.then_normal (hK92 _ _ _ ?_)
  refine WP.region ?_
  refine WL.runk 3 [0, 3, 4] [(0, .slice a0' a_0.length c0'), (3, .slice a5 ((st76.2.set (Int.toNat st76.1) x106).length) c6), (4, .int .i64 (wI64 (st76.1 + 1)))] (by kernel_rfl) ?_
  refine WL.nil ?_
  obtain rfl := Option.some.inj hm
  exact WQ.round hK83 ⟨((wI64 (st76.1 + 1)), (st76.2.set (Int.toNat st76.1) x106)), rfl, hb132, hL133, (SH.take 1 hS134), hl81⟩ (Nat.lt_succ_self _) ⟨rfl, rfl, rfl, trivial⟩

theorem c_38 (n : Nat) (a_0 : List Int) (a0' : Option Addr) (c0' : Nat) (b_1 : List Int) (a1' : Option Addr) (c1' : Nat) (w : World) {r : Bool} (hm : m_laws_eqInt64S n a_0 b_1 = some r) (h0 : Rd fInt.ty w a0' a_0) (_hle0 : a_0.length ≤ c0') (h1 : Rd fInt.ty w a1' b_1) (_hle1 : b_1.length ≤ c1') :
    CallV Try.prog 38 #[.slice a0' a_0.length c0', .slice a1' b_1.length c1'] w (fun v w' => v = .bool r ∧ Ext w w') := by
  unfold m_laws_eqInt64S at hm
  refine CallV.enter Try.func38 rfl (by kernel_rfl) Try.ntmps38 (env := [(0, .slice a0' a_0.length c0'), (1, .slice a1' b_1.length c1')]) ⟨rfl, rfl, trivial⟩ ?_
  refine WP.seq (fun K1 hK1 => ?_)
  refine WP.region ?_
  refine WL.runk 1 [0, 1] [(0, .slice a0' a_0.length c0'), (1, .slice a1' b_1.length c1')] (by kernel_rfl) ?_
  refine WL.nil ?_
  refine WQ.then_normal (hK1 _ _ _ ?_)
  refine WP.seq (fun K2 hK2 => ?_)
  refine WP.seq (fun K3 hK3 => ?_)
  refine WP.region ?_
  refine WL.runk 5 [0, 1, 10] [(0, .slice a0' a_0.length c0'), (1, .slice a1' b_1.length c1'), (10, .bool ((a_0.length : Int) != (b_1.length : Int)))] (by kernel_rfl) ?_
  refine WL.nil ?_
  refine WQ.then_normal (hK3 _ _ _ ?_)
  refine WP.cond ((a_0.length : Int) != (b_1.length : Int)) rfl rfl (fun hc4 => ?_) (fun hc4 => ?_)
  · have hm := iteT hm hc4
    refine WP.seq (fun K5 hK5 => ?_)
    refine WP.region ?_
    refine WL.runk 1 [4] [(4, .bool false)] (by kernel_rfl) ?_
    refine WL.nil ?_
    refine WQ.then_normal (hK5 _ _ _ ?_)
    refine WP.ret ?_
    refine WQ.then_ret ?_
    obtain rfl := Option.some.inj hm
    exact WQ.ret1 _ rfl rfl ⟨rfl, (Ext.refl w)⟩
  have hm := iteF hm hc4
  refine WP.skip ?_
  refine WQ.then_normal (hK2 _ _ _ ?_)
  refine WP.seq (fun K6 hK6 => ?_)
  refine WP.seq (fun K7 hK7 => ?_)
  refine WP.region ?_
  refine WL.runk 1 [0, 1, 5] [(0, .slice a0' a_0.length c0'), (1, .slice a1' b_1.length c1'), (5, .int .i64 0)] (by kernel_rfl) ?_
  refine WL.nil ?_
  refine WQ.then_normal (hK7 _ _ _ ?_)
  refine WP.block ?_
  obtain ⟨t19, ht20, hm⟩ := bindE hm
  have hmo14 := hm; clear hm
  refine WP.sub [(0, .slice a0' a_0.length c0'), (1, .slice a1' b_1.length c1'), (5, .int .i64 0)] ⟨rfl, rfl, rfl, trivial⟩ ?_
  refine WP.loop (fun n' env' w' => ∃ (st8 : Int) , env' = [(0, .slice a0' a_0.length c0'), (1, .slice a1' b_1.length c1'), (5, .int .i64 st8)] ∧ Ext w w' ∧ w.heap.size ≤ w'.heap.size ∧ SH w' w.heap.size [] ∧ loopN (m_laws_eqInt64S_l1 n a_0 b_1) n' st8 = some t19) n ⟨0, rfl, (Ext.refl w), (Nat.le_refl _), (SH.nil _ _), ht20⟩ ?_
  rintro n16 _ w9 ⟨st8, rfl, hb10, hL11, hS12, hl13⟩ K15 hK15
  obtain ⟨n17, s18, rfl, hm, hl13⟩ := loopN_some hl13
  unfold m_laws_eqInt64S_l1 at hm
  refine WP.seq (fun K21 hK21 => ?_)
  refine WP.seq (fun K22 hK22 => ?_)
  refine WP.region ?_
  refine WL.runk 4 [0, 1, 5, 14] [(0, .slice a0' a_0.length c0'), (1, .slice a1' b_1.length c1'), (5, .int .i64 st8), (14, .bool (decide (st8 < (a_0.length : Int))))] (by kernel_rfl) ?_
  refine WL.nil ?_
  refine WQ.then_normal (hK22 _ _ _ ?_)
  refine WP.cond (decide (st8 < (a_0.length : Int))) rfl rfl (fun hc23 => ?_) (fun hc23 => ?_)
  rotate_left
  · have hm := iteF hm hc23
    refine WP.exit ?_
    refine WQ.then_exit ?_
    refine WQ.then_exit ?_
    refine WQ.block_here ?_
    obtain rfl := Option.some.inj hm
    obtain rfl := afterN_done hl13
    have hm := hmo14
    refine WQ.then_normal (hK6 _ _ _ ?_)
    refine WP.seq (fun K37 hK37 => ?_)
    refine WP.region ?_
    refine WL.runk 1 [4] [(4, .bool true)] (by kernel_rfl) ?_
    refine WL.nil ?_
    refine WQ.then_normal (hK37 _ _ _ ?_)
    refine WP.ret ?_
    obtain rfl := Option.some.inj hm
    exact WQ.ret1 _ rfl rfl ⟨rfl, hb10⟩
  have hm := iteT hm hc23
  refine WP.skip ?_
  refine WQ.then_normal (hK21 _ _ _ ?_)
  refine WP.seq (fun K24 hK24 => ?_)
  refine WP.block ?_
  refine WP.seq (fun K25 hK25 => ?_)
  refine WP.quiet (by kernel_rfl) (by kernel_rfl) ?_
  refine QL.step1v 17 (.slice a0' a_0.length c0') rfl (fun _ => by kernel_rfl) ?_
  refine QL.step1v 18 (.int .i64 st8) rfl (fun _ => by kernel_rfl) ?_
  refine QL.subk [0, 1, 5, 17, 18] [(0, .slice a0' a_0.length c0'), (1, .slice a1' b_1.length c1'), (5, .int .i64 st8), (17, .slice a0' a_0.length c0'), (18, .int .i64 st8)] (by kernel_rfl) ?_
  obtain ⟨x26, hx27, hm⟩ := bindE hm
  refine QL.st (.pointer (some (at_ a0' (Int.toNat st8 * 1)))) (ST.index (T := fInt.ty) (xs := a_0) (Rd.below h0 hb10) hx27 rfl rfl rfl Try.underlying25 (info2).1 (info2).2.1) rfl rfl rfl ?_
  refine QL.st (.int .i64 x26) (ST.load (cell_ext (Rd.flat (F := fInt) (Rd.below h0 hb10) hx27 0 rfl)) rfl rfl Try.underlying2 rfl) rfl rfl rfl ?_
  refine QL.step1v 21 (.slice a1' b_1.length c1') rfl (fun _ => by kernel_rfl) ?_
  refine QL.step1v 22 (.int .i64 st8) rfl (fun _ => by kernel_rfl) ?_
  refine QL.subk [0, 1, 5, 20, 21, 22] [(0, .slice a0' a_0.length c0'), (1, .slice a1' b_1.length c1'), (5, .int .i64 st8), (20, .int .i64 x26), (21, .slice a1' b_1.length c1'), (22, .int .i64 st8)] (by kernel_rfl) ?_
  obtain ⟨x28, hx29, hm⟩ := bindE hm
  refine QL.st (.pointer (some (at_ a1' (Int.toNat st8 * 1)))) (ST.index (T := fInt.ty) (xs := b_1) (Rd.below h1 hb10) hx29 rfl rfl rfl Try.underlying25 (info2).1 (info2).2.1) rfl rfl rfl ?_
  refine QL.st (.int .i64 x28) (ST.load (cell_ext (Rd.flat (F := fInt) (Rd.below h1 hb10) hx29 0 rfl)) rfl rfl Try.underlying2 rfl) rfl rfl rfl ?_
  refine QL.step1v 25 (.bool (x26 != x28)) rfl (fun _ => by kernel_rfl) ?_
  refine QL.subk [0, 1, 5, 25] [(0, .slice a0' a_0.length c0'), (1, .slice a1' b_1.length c1'), (5, .int .i64 st8), (25, .bool (x26 != x28))] (by kernel_rfl) ?_
  refine QL.nil ?_
  intro w30 hE31
  have hb32 : Ext w w30 := Ext.trans hb10 hE31
  have hL33 : w.heap.size ≤ w30.heap.size := Nat.le_trans hL11 hE31.size
  have hS34 : SH w30 w.heap.size [] := SH.ext hS12 hE31
  refine WQ.then_normal (hK25 _ _ _ ?_)
  refine WP.cond (x26 != x28) rfl rfl (fun hc35 => ?_) (fun hc35 => ?_)
  rotate_left
  · have hm := iteF hm hc35
    refine WP.skip ?_
    refine WQ.block_normal ?_
    refine WQ.then_normal (hK24 _ _ _ ?_)
    refine WP.region ?_
    refine WL.runk 3 [0, 1, 5] [(0, .slice a0' a_0.length c0'), (1, .slice a1' b_1.length c1'), (5, .int .i64 (wI64 (st8 + 1)))] (by kernel_rfl) ?_
    refine WL.nil ?_
    obtain rfl := Option.some.inj hm
    exact WQ.round hK15 ⟨(wI64 (st8 + 1)), rfl, hb32, hL33, hS34, hl13⟩ (Nat.lt_succ_self _) ⟨rfl, rfl, rfl, trivial⟩
  have hm := iteT hm hc35
  refine WP.seq (fun K36 hK36 => ?_)
  refine WP.region ?_
  refine WL.runk 1 [4] [(4, .bool false)] (by kernel_rfl) ?_
  refine WL.nil ?_
  refine WQ.then_normal (hK36 _ _ _ ?_)
  refine WP.ret ?_
  refine WQ.block_ret ?_
  refine WQ.then_ret ?_
  refine WQ.then_ret ?_
  refine WQ.block_ret ?_
  refine WQ.then_ret ?_
  obtain rfl := Option.some.inj hm
  obtain rfl := afterN_done hl13
  have hm := hmo14
  obtain rfl := Option.some.inj hm
  exact WQ.ret1 _ rfl rfl ⟨rfl, hb32⟩

theorem c_73 (n : Nat) (a_0 : SRepair) (a0_1' : Option Addr) (c0_1' : Nat) (a0_2' : Option Addr) (c0_2' : Nat) (b_1 : SRepair) (a1_1' : Option Addr) (c1_1' : Nat) (a1_2' : Option Addr) (c1_2' : Nat) (w : World) {r : Bool} (hm : m_laws_eqRepair n a_0 b_1 = some r) (hr0_1 : Rd fInt.ty w a0_1' a_0.Mends) (hle0_1 : a_0.Mends.length ≤ c0_1') (hr0_2 : Rd fInt.ty w a0_2' a_0.First) (hle0_2 : a_0.First.length ≤ c0_2') (hr1_1 : Rd fInt.ty w a1_1' b_1.Mends) (hle1_1 : b_1.Mends.length ≤ c1_1') (hr1_2 : Rd fInt.ty w a1_2' b_1.First) (hle1_2 : b_1.First.length ≤ c1_2') :
    CallV Try.prog 73 #[.agg #[.string (bs a_0.Name), .slice a0_1' a_0.Mends.length c0_1', .slice a0_2' a_0.First.length c0_2', .int .i64 a_0.Price, .int .i64 a_0.Hours], .agg #[.string (bs b_1.Name), .slice a1_1' b_1.Mends.length c1_1', .slice a1_2' b_1.First.length c1_2', .int .i64 b_1.Price, .int .i64 b_1.Hours]] w (fun v w' => v = .bool r ∧ Ext w w') := by
  unfold m_laws_eqRepair at hm
  refine CallV.enter Try.func73 rfl (by kernel_rfl) Try.ntmps73 (env := [(0, .agg #[.string (bs a_0.Name), .slice a0_1' a_0.Mends.length c0_1', .slice a0_2' a_0.First.length c0_2', .int .i64 a_0.Price, .int .i64 a_0.Hours]), (1, .agg #[.string (bs b_1.Name), .slice a1_1' b_1.Mends.length c1_1', .slice a1_2' b_1.First.length c1_2', .int .i64 b_1.Price, .int .i64 b_1.Hours])]) ⟨rfl, rfl, trivial⟩ ?_
  refine WP.seq (fun K1 hK1 => ?_)
  refine WP.region ?_
  refine WL.box 73 [.string (bs a_0.Name), .slice a0_1' a_0.Mends.length c0_1', .slice a0_2' a_0.First.length c0_2', .int .i64 a_0.Price, .int .i64 a_0.Hours] 2 (by kernel_rfl) rfl rfl rfl rfl ?_
  intro b2 w3 hE4 hR5
  have hb7 : Ext w w3 := Ext.trans (Ext.refl w) hE4
  have hL8 : w.heap.size ≤ w3.heap.size := Nat.le_trans (Nat.le_refl _) hE4.size
  have hS9 : SH w3 w.heap.size [aBox 73 b2 [.string (bs a_0.Name), .slice a0_1' a_0.Mends.length c0_1', .slice a0_2' a_0.First.length c0_2', .int .i64 a_0.Price, .int .i64 a_0.Hours]] := SH.add (SH.nil _ _) hE4 (Nat.le_refl _) hR5
  refine WL.box 73 [.string (bs b_1.Name), .slice a1_1' b_1.Mends.length c1_1', .slice a1_2' b_1.First.length c1_2', .int .i64 b_1.Price, .int .i64 b_1.Hours] 3 (by kernel_rfl) rfl rfl rfl rfl ?_
  intro b10 w11 hE12 hR13
  have hb15 : Ext w w11 := Ext.trans hb7 hE12
  have hL16 : w.heap.size ≤ w11.heap.size := Nat.le_trans hL8 hE12.size
  have hS17 : SH w11 w.heap.size [aBox 73 b10 [.string (bs b_1.Name), .slice a1_1' b_1.Mends.length c1_1', .slice a1_2' b_1.First.length c1_2', .int .i64 b_1.Price, .int .i64 b_1.Hours], aBox 73 b2 [.string (bs a_0.Name), .slice a0_1' a_0.Mends.length c0_1', .slice a0_2' a_0.First.length c0_2', .int .i64 a_0.Price, .int .i64 a_0.Hours]] := SH.add hS9 hE12 hL8 hR13
  refine WL.runk 1 [2, 3] [(2, .pointer (some ⟨b2, 0, none⟩)), (3, .pointer (some ⟨b10, 0, none⟩))] (by kernel_rfl) ?_
  refine WL.nil ?_
  refine WQ.then_normal (hK1 _ _ _ ?_)
  refine WP.seq (fun K18 hK18 => ?_)
  refine WP.seq (fun K19 hK19 => ?_)
  refine WP.region ?_
  refine WL.runk 1 [2, 3, 5] [(2, .pointer (some ⟨b2, 0, none⟩)), (3, .pointer (some ⟨b10, 0, none⟩)), (5, .pointer (some ⟨b2, 0, none⟩))] (by kernel_rfl) ?_
  refine WL.st (.string (bs a_0.Name)) (ST.load (cell_ext (SH.boxAt (SH.front 1 hS17) 0 _ rfl)) rfl rfl Try.underlying9 rfl) rfl rfl rfl ?_
  refine WL.runk 1 [2, 3, 6, 7] [(2, .pointer (some ⟨b2, 0, none⟩)), (3, .pointer (some ⟨b10, 0, none⟩)), (6, .string (bs a_0.Name)), (7, .pointer (some ⟨b10, 0, none⟩))] (by kernel_rfl) ?_
  refine WL.st (.string (bs b_1.Name)) (ST.load (cell_ext (SH.boxAt (SH.front 0 hS17) 0 _ rfl)) rfl rfl Try.underlying9 rfl) rfl rfl rfl ?_
  refine WL.st (.bool (!(a_0.Name == b_1.Name))) (ST.strne (x := a_0.Name) (y := b_1.Name) rfl rfl rfl) rfl rfl rfl ?_
  refine WL.sub [(2, .pointer (some ⟨b2, 0, none⟩)), (3, .pointer (some ⟨b10, 0, none⟩)), (9, .bool (!(a_0.Name == b_1.Name)))] ⟨rfl, rfl, rfl, trivial⟩ ?_
  refine WL.nil ?_
  refine WQ.then_normal (hK19 _ _ _ ?_)
  refine WP.cond (!(a_0.Name == b_1.Name)) rfl rfl (fun hc20 => ?_) (fun hc20 => ?_)
  · have hm := iteT hm hc20
    refine WP.seq (fun K21 hK21 => ?_)
    refine WP.region ?_
    refine WL.runk 1 [4] [(4, .bool false)] (by kernel_rfl) ?_
    refine WL.nil ?_
    refine WQ.then_normal (hK21 _ _ _ ?_)
    refine WP.ret ?_
    refine WQ.then_ret ?_
    obtain rfl := Option.some.inj hm
    exact WQ.ret1 _ rfl rfl ⟨rfl, hb15⟩
  have hm := iteF hm hc20
  refine WP.skip ?_
  refine WQ.then_normal (hK18 _ _ _ ?_)
  refine WP.seq (fun K22 hK22 => ?_)
  refine WP.seq (fun K23 hK23 => ?_)
  refine WP.region ?_
  refine WL.runk 1 [2, 3, 10] [(2, .pointer (some ⟨b2, 0, none⟩)), (3, .pointer (some ⟨b10, 0, none⟩)), (10, .pointer (some ⟨b2, 1, none⟩))] (by kernel_rfl) ?_
  refine WL.st (.slice a0_1' a_0.Mends.length c0_1') (ST.load (cell_ext (SH.boxAt (SH.front 1 hS17) 1 _ rfl)) rfl rfl Try.underlying25 rfl) rfl rfl rfl ?_
  refine WL.runk 1 [2, 3, 11, 12] [(2, .pointer (some ⟨b2, 0, none⟩)), (3, .pointer (some ⟨b10, 0, none⟩)), (11, .slice a0_1' a_0.Mends.length c0_1'), (12, .pointer (some ⟨b10, 1, none⟩))] (by kernel_rfl) ?_
  refine WL.st (.slice a1_1' b_1.Mends.length c1_1') (ST.load (cell_ext (SH.boxAt (SH.front 0 hS17) 1 _ rfl)) rfl rfl Try.underlying25 rfl) rfl rfl rfl ?_
  obtain ⟨x24, hx25, hm⟩ := bindE hm
  refine WL.call 38 #[.slice a0_1' a_0.Mends.length c0_1', .slice a1_1' b_1.Mends.length c1_1'] rfl rfl (by kernel_rfl) (c_38 n a_0.Mends a0_1' c0_1' b_1.Mends a1_1' c1_1' w11 hx25 (Rd.below hr0_1 hb15) hle0_1 (Rd.below hr1_1 hb15) hle1_1) ?_
  rintro _ w26 ⟨rfl, hE27⟩
  refine ⟨_, rfl, ?_⟩
  have hb29 : Ext w w26 := Ext.trans hb15 hE27
  have hL30 : w.heap.size ≤ w26.heap.size := Nat.le_trans hL16 hE27.size
  have hS31 : SH w26 w.heap.size [aBox 73 b10 [.string (bs b_1.Name), .slice a1_1' b_1.Mends.length c1_1', .slice a1_2' b_1.First.length c1_2', .int .i64 b_1.Price, .int .i64 b_1.Hours], aBox 73 b2 [.string (bs a_0.Name), .slice a0_1' a_0.Mends.length c0_1', .slice a0_2' a_0.First.length c0_2', .int .i64 a_0.Price, .int .i64 a_0.Hours]] := SH.ext hS17 hE27
  refine WL.runk 1 [2, 3, 15] [(2, .pointer (some ⟨b2, 0, none⟩)), (3, .pointer (some ⟨b10, 0, none⟩)), (15, .bool (!x24))] (by kernel_rfl) ?_
  refine WL.nil ?_
  refine WQ.then_normal (hK23 _ _ _ ?_)
  refine WP.cond (!x24) rfl rfl (fun hc32 => ?_) (fun hc32 => ?_)
  · have hm := iteT hm hc32
    refine WP.seq (fun K33 hK33 => ?_)
    refine WP.region ?_
    refine WL.runk 1 [4] [(4, .bool false)] (by kernel_rfl) ?_
    refine WL.nil ?_
    refine WQ.then_normal (hK33 _ _ _ ?_)
    refine WP.ret ?_
    refine WQ.then_ret ?_
    obtain rfl := Option.some.inj hm
    exact WQ.ret1 _ rfl rfl ⟨rfl, hb29⟩
  have hm := iteF hm hc32
  refine WP.skip ?_
  refine WQ.then_normal (hK22 _ _ _ ?_)
  refine WP.seq (fun K34 hK34 => ?_)
  refine WP.seq (fun K35 hK35 => ?_)
  refine WP.region ?_
  refine WL.runk 1 [2, 3, 16] [(2, .pointer (some ⟨b2, 0, none⟩)), (3, .pointer (some ⟨b10, 0, none⟩)), (16, .pointer (some ⟨b2, 2, none⟩))] (by kernel_rfl) ?_
  refine WL.st (.slice a0_2' a_0.First.length c0_2') (ST.load (cell_ext (SH.boxAt (SH.front 1 hS31) 2 _ rfl)) rfl rfl Try.underlying25 rfl) rfl rfl rfl ?_
  refine WL.runk 1 [2, 3, 17, 18] [(2, .pointer (some ⟨b2, 0, none⟩)), (3, .pointer (some ⟨b10, 0, none⟩)), (17, .slice a0_2' a_0.First.length c0_2'), (18, .pointer (some ⟨b10, 2, none⟩))] (by kernel_rfl) ?_
  refine WL.st (.slice a1_2' b_1.First.length c1_2') (ST.load (cell_ext (SH.boxAt (SH.front 0 hS31) 2 _ rfl)) rfl rfl Try.underlying25 rfl) rfl rfl rfl ?_
  obtain ⟨x36, hx37, hm⟩ := bindE hm
  refine WL.call 38 #[.slice a0_2' a_0.First.length c0_2', .slice a1_2' b_1.First.length c1_2'] rfl rfl (by kernel_rfl) (c_38 n a_0.First a0_2' c0_2' b_1.First a1_2' c1_2' w26 hx37 (Rd.below hr0_2 hb29) hle0_2 (Rd.below hr1_2 hb29) hle1_2) ?_
  rintro _ w38 ⟨rfl, hE39⟩
  refine ⟨_, rfl, ?_⟩
  have hb41 : Ext w w38 := Ext.trans hb29 hE39
  have hL42 : w.heap.size ≤ w38.heap.size := Nat.le_trans hL30 hE39.size
  have hS43 : SH w38 w.heap.size [aBox 73 b10 [.string (bs b_1.Name), .slice a1_1' b_1.Mends.length c1_1', .slice a1_2' b_1.First.length c1_2', .int .i64 b_1.Price, .int .i64 b_1.Hours], aBox 73 b2 [.string (bs a_0.Name), .slice a0_1' a_0.Mends.length c0_1', .slice a0_2' a_0.First.length c0_2', .int .i64 a_0.Price, .int .i64 a_0.Hours]] := SH.ext hS31 hE39
  refine WL.runk 1 [2, 3, 21] [(2, .pointer (some ⟨b2, 0, none⟩)), (3, .pointer (some ⟨b10, 0, none⟩)), (21, .bool (!x36))] (by kernel_rfl) ?_
  refine WL.nil ?_
  refine WQ.then_normal (hK35 _ _ _ ?_)
  refine WP.cond (!x36) rfl rfl (fun hc44 => ?_) (fun hc44 => ?_)
  · have hm := iteT hm hc44
    refine WP.seq (fun K45 hK45 => ?_)
    refine WP.region ?_
    refine WL.runk 1 [4] [(4, .bool false)] (by kernel_rfl) ?_
    refine WL.nil ?_
    refine WQ.then_normal (hK45 _ _ _ ?_)
    refine WP.ret ?_
    refine WQ.then_ret ?_
    obtain rfl := Option.some.inj hm
    exact WQ.ret1 _ rfl rfl ⟨rfl, hb41⟩
  have hm := iteF hm hc44
  refine WP.skip ?_
  refine WQ.then_normal (hK34 _ _ _ ?_)
  refine WP.seq (fun K46 hK46 => ?_)
  refine WP.seq (fun K47 hK47 => ?_)
  refine WP.region ?_
  refine WL.runk 1 [2, 3, 22] [(2, .pointer (some ⟨b2, 0, none⟩)), (3, .pointer (some ⟨b10, 0, none⟩)), (22, .pointer (some ⟨b2, 3, none⟩))] (by kernel_rfl) ?_
  refine WL.st (.int .i64 a_0.Price) (ST.load (cell_ext (SH.boxAt (SH.front 1 hS43) 3 _ rfl)) rfl rfl Try.underlying2 rfl) rfl rfl rfl ?_
  refine WL.runk 1 [2, 3, 23, 24] [(2, .pointer (some ⟨b2, 0, none⟩)), (3, .pointer (some ⟨b10, 0, none⟩)), (23, .int .i64 a_0.Price), (24, .pointer (some ⟨b10, 3, none⟩))] (by kernel_rfl) ?_
  refine WL.st (.int .i64 b_1.Price) (ST.load (cell_ext (SH.boxAt (SH.front 0 hS43) 3 _ rfl)) rfl rfl Try.underlying2 rfl) rfl rfl rfl ?_
  refine WL.runk 1 [2, 3, 26] [(2, .pointer (some ⟨b2, 0, none⟩)), (3, .pointer (some ⟨b10, 0, none⟩)), (26, .bool (a_0.Price != b_1.Price))] (by kernel_rfl) ?_
  refine WL.nil ?_
  refine WQ.then_normal (hK47 _ _ _ ?_)
  refine WP.cond (a_0.Price != b_1.Price) rfl rfl (fun hc48 => ?_) (fun hc48 => ?_)
  · have hm := iteT hm hc48
    refine WP.seq (fun K49 hK49 => ?_)
    refine WP.region ?_
    refine WL.runk 1 [4] [(4, .bool false)] (by kernel_rfl) ?_
    refine WL.nil ?_
    refine WQ.then_normal (hK49 _ _ _ ?_)
    refine WP.ret ?_
    refine WQ.then_ret ?_
    obtain rfl := Option.some.inj hm
    exact WQ.ret1 _ rfl rfl ⟨rfl, hb41⟩
  have hm := iteF hm hc48
  refine WP.skip ?_
  refine WQ.then_normal (hK46 _ _ _ ?_)
  refine WP.seq (fun K50 hK50 => ?_)
  refine WP.seq (fun K51 hK51 => ?_)
  refine WP.region ?_
  refine WL.runk 1 [3, 27] [(3, .pointer (some ⟨b10, 0, none⟩)), (27, .pointer (some ⟨b2, 4, none⟩))] (by kernel_rfl) ?_
  refine WL.st (.int .i64 a_0.Hours) (ST.load (cell_ext (SH.boxAt (SH.front 1 hS43) 4 _ rfl)) rfl rfl Try.underlying2 rfl) rfl rfl rfl ?_
  refine WL.runk 1 [28, 29] [(28, .int .i64 a_0.Hours), (29, .pointer (some ⟨b10, 4, none⟩))] (by kernel_rfl) ?_
  refine WL.st (.int .i64 b_1.Hours) (ST.load (cell_ext (SH.boxAt (SH.front 0 hS43) 4 _ rfl)) rfl rfl Try.underlying2 rfl) rfl rfl rfl ?_
  refine WL.runk 1 [31] [(31, .bool (a_0.Hours != b_1.Hours))] (by kernel_rfl) ?_
  refine WL.nil ?_
  refine WQ.then_normal (hK51 _ _ _ ?_)
  refine WP.cond (a_0.Hours != b_1.Hours) rfl rfl (fun hc52 => ?_) (fun hc52 => ?_)
  · have hm := iteT hm hc52
    refine WP.seq (fun K53 hK53 => ?_)
    refine WP.region ?_
    refine WL.runk 1 [4] [(4, .bool false)] (by kernel_rfl) ?_
    refine WL.nil ?_
    refine WQ.then_normal (hK53 _ _ _ ?_)
    refine WP.ret ?_
    refine WQ.then_ret ?_
    obtain rfl := Option.some.inj hm
    exact WQ.ret1 _ rfl rfl ⟨rfl, hb41⟩
  have hm := iteF hm hc52
  refine WP.skip ?_
  refine WQ.then_normal (hK50 _ _ _ ?_)
  refine WP.seq (fun K54 hK54 => ?_)
  refine WP.region ?_
  refine WL.runk 1 [4] [(4, .bool true)] (by kernel_rfl) ?_
  refine WL.nil ?_
  refine WQ.then_normal (hK54 _ _ _ ?_)
  refine WP.ret ?_
  obtain rfl := Option.some.inj hm
  exact WQ.ret1 _ rfl rfl ⟨rfl, hb41⟩

theorem c_32 (n : Nat) (a_0 : List SRepair) (a0' : Option Addr) (c0' : Nat) (b_1 : List SRepair) (a1' : Option Addr) (c1' : Nat) (w : World) {r : Bool} (hm : m_laws_eqRepairS n a_0 b_1 = some r) (h0 : Rd fRepair.ty w a0' a_0) (_hle0 : a_0.length ≤ c0') (h1 : Rd fRepair.ty w a1' b_1) (_hle1 : b_1.length ≤ c1') :
    CallV Try.prog 32 #[.slice a0' a_0.length c0', .slice a1' b_1.length c1'] w (fun v w' => v = .bool r ∧ Ext w w') := by
  unfold m_laws_eqRepairS at hm
  refine CallV.enter Try.func32 rfl (by kernel_rfl) Try.ntmps32 (env := [(0, .slice a0' a_0.length c0'), (1, .slice a1' b_1.length c1')]) ⟨rfl, rfl, trivial⟩ ?_
  refine WP.seq (fun K1 hK1 => ?_)
  refine WP.region ?_
  refine WL.runk 1 [0, 1] [(0, .slice a0' a_0.length c0'), (1, .slice a1' b_1.length c1')] (by kernel_rfl) ?_
  refine WL.nil ?_
  refine WQ.then_normal (hK1 _ _ _ ?_)
  refine WP.seq (fun K2 hK2 => ?_)
  refine WP.seq (fun K3 hK3 => ?_)
  refine WP.region ?_
  refine WL.runk 5 [0, 1, 10] [(0, .slice a0' a_0.length c0'), (1, .slice a1' b_1.length c1'), (10, .bool ((a_0.length : Int) != (b_1.length : Int)))] (by kernel_rfl) ?_
  refine WL.nil ?_
  refine WQ.then_normal (hK3 _ _ _ ?_)
  refine WP.cond ((a_0.length : Int) != (b_1.length : Int)) rfl rfl (fun hc4 => ?_) (fun hc4 => ?_)
  · have hm := iteT hm hc4
    refine WP.seq (fun K5 hK5 => ?_)
    refine WP.region ?_
    refine WL.runk 1 [4] [(4, .bool false)] (by kernel_rfl) ?_
    refine WL.nil ?_
    refine WQ.then_normal (hK5 _ _ _ ?_)
    refine WP.ret ?_
    refine WQ.then_ret ?_
    obtain rfl := Option.some.inj hm
    exact WQ.ret1 _ rfl rfl ⟨rfl, (Ext.refl w)⟩
  have hm := iteF hm hc4
  refine WP.skip ?_
  refine WQ.then_normal (hK2 _ _ _ ?_)
  refine WP.seq (fun K6 hK6 => ?_)
  refine WP.seq (fun K7 hK7 => ?_)
  refine WP.region ?_
  refine WL.runk 1 [0, 1, 5] [(0, .slice a0' a_0.length c0'), (1, .slice a1' b_1.length c1'), (5, .int .i64 0)] (by kernel_rfl) ?_
  refine WL.nil ?_
  refine WQ.then_normal (hK7 _ _ _ ?_)
  refine WP.block ?_
  obtain ⟨t19, ht20, hm⟩ := bindE hm
  have hmo14 := hm; clear hm
  refine WP.sub [(0, .slice a0' a_0.length c0'), (1, .slice a1' b_1.length c1'), (5, .int .i64 0)] ⟨rfl, rfl, rfl, trivial⟩ ?_
  refine WP.loop (fun n' env' w' => ∃ (st8 : Int) , env' = [(0, .slice a0' a_0.length c0'), (1, .slice a1' b_1.length c1'), (5, .int .i64 st8)] ∧ Ext w w' ∧ w.heap.size ≤ w'.heap.size ∧ SH w' w.heap.size [] ∧ loopN (m_laws_eqRepairS_l1 n a_0 b_1) n' st8 = some t19) n ⟨0, rfl, (Ext.refl w), (Nat.le_refl _), (SH.nil _ _), ht20⟩ ?_
  rintro n16 _ w9 ⟨st8, rfl, hb10, hL11, hS12, hl13⟩ K15 hK15
  obtain ⟨n17, s18, rfl, hm, hl13⟩ := loopN_some hl13
  unfold m_laws_eqRepairS_l1 at hm
  refine WP.seq (fun K21 hK21 => ?_)
  refine WP.seq (fun K22 hK22 => ?_)
  refine WP.region ?_
  refine WL.runk 4 [0, 1, 5, 14] [(0, .slice a0' a_0.length c0'), (1, .slice a1' b_1.length c1'), (5, .int .i64 st8), (14, .bool (decide (st8 < (a_0.length : Int))))] (by kernel_rfl) ?_
  refine WL.nil ?_
  refine WQ.then_normal (hK22 _ _ _ ?_)
  refine WP.cond (decide (st8 < (a_0.length : Int))) rfl rfl (fun hc23 => ?_) (fun hc23 => ?_)
  rotate_left
  · have hm := iteF hm hc23
    refine WP.exit ?_
    refine WQ.then_exit ?_
    refine WQ.then_exit ?_
    refine WQ.block_here ?_
    obtain rfl := Option.some.inj hm
    obtain rfl := afterN_done hl13
    have hm := hmo14
    refine WQ.then_normal (hK6 _ _ _ ?_)
    refine WP.seq (fun K63 hK63 => ?_)
    refine WP.region ?_
    refine WL.runk 1 [4] [(4, .bool true)] (by kernel_rfl) ?_
    refine WL.nil ?_
    refine WQ.then_normal (hK63 _ _ _ ?_)
    refine WP.ret ?_
    obtain rfl := Option.some.inj hm
    exact WQ.ret1 _ rfl rfl ⟨rfl, hb10⟩
  have hm := iteT hm hc23
  refine WP.skip ?_
  refine WQ.then_normal (hK21 _ _ _ ?_)
  refine WP.seq (fun K24 hK24 => ?_)
  refine WP.block ?_
  refine WP.seq (fun K25 hK25 => ?_)
  refine WP.quiet (by kernel_rfl) (by kernel_rfl) ?_
  refine QL.step1v 17 (.slice a0' a_0.length c0') rfl (fun _ => by kernel_rfl) ?_
  refine QL.step1v 18 (.int .i64 st8) rfl (fun _ => by kernel_rfl) ?_
  refine QL.subk [0, 1, 5, 17, 18] [(0, .slice a0' a_0.length c0'), (1, .slice a1' b_1.length c1'), (5, .int .i64 st8), (17, .slice a0' a_0.length c0'), (18, .int .i64 st8)] (by kernel_rfl) ?_
  obtain ⟨x26, hx27, hm⟩ := bindE hm
  obtain ⟨a28, c29, a33, c34, hc38, hR30, hle31, hR35, hle36⟩ := nest_Repair h0 hx27
  refine QL.st (.pointer (some (at_ a0' (Int.toNat st8 * 5)))) (ST.index (T := fRepair.ty) (xs := a_0) (Rd.below h0 hb10) hx27 rfl rfl rfl Try.underlying24 (info73).1 (info73).2.1) rfl rfl rfl ?_
  refine QL.st (.agg #[.string (bs x26.Name), .slice a28 x26.Mends.length c29, .slice a33 x26.First.length c34, .int .i64 x26.Price, .int .i64 x26.Hours]) (ST.loadAgg (vs := [.string (bs x26.Name), .slice a28 x26.Mends.length c29, .slice a33 x26.First.length c34, .int .i64 x26.Price, .int .i64 x26.Hours]) (at_agg (cells_ext hc38 hb10)) rfl rfl rfl Try.underlying73 rfl (info73).1 (info73).2.1) rfl rfl rfl ?_
  refine QL.step1v 21 (.slice a1' b_1.length c1') rfl (fun _ => by kernel_rfl) ?_
  refine QL.step1v 22 (.int .i64 st8) rfl (fun _ => by kernel_rfl) ?_
  refine QL.subk [0, 1, 5, 20, 21, 22] [(0, .slice a0' a_0.length c0'), (1, .slice a1' b_1.length c1'), (5, .int .i64 st8), (20, .agg #[.string (bs x26.Name), .slice a28 x26.Mends.length c29, .slice a33 x26.First.length c34, .int .i64 x26.Price, .int .i64 x26.Hours]), (21, .slice a1' b_1.length c1'), (22, .int .i64 st8)] (by kernel_rfl) ?_
  obtain ⟨x39, hx40, hm⟩ := bindE hm
  obtain ⟨a41, c42, a46, c47, hc51, hR43, hle44, hR48, hle49⟩ := nest_Repair h1 hx40
  refine QL.st (.pointer (some (at_ a1' (Int.toNat st8 * 5)))) (ST.index (T := fRepair.ty) (xs := b_1) (Rd.below h1 hb10) hx40 rfl rfl rfl Try.underlying24 (info73).1 (info73).2.1) rfl rfl rfl ?_
  refine QL.st (.agg #[.string (bs x39.Name), .slice a41 x39.Mends.length c42, .slice a46 x39.First.length c47, .int .i64 x39.Price, .int .i64 x39.Hours]) (ST.loadAgg (vs := [.string (bs x39.Name), .slice a41 x39.Mends.length c42, .slice a46 x39.First.length c47, .int .i64 x39.Price, .int .i64 x39.Hours]) (at_agg (cells_ext hc51 hb10)) rfl rfl rfl Try.underlying73 rfl (info73).1 (info73).2.1) rfl rfl rfl ?_
  obtain ⟨x52, hx53, hm⟩ := bindE hm
  refine QL.call 73 #[.agg #[.string (bs x26.Name), .slice a28 x26.Mends.length c29, .slice a33 x26.First.length c34, .int .i64 x26.Price, .int .i64 x26.Hours], .agg #[.string (bs x39.Name), .slice a41 x39.Mends.length c42, .slice a46 x39.First.length c47, .int .i64 x39.Price, .int .i64 x39.Hours]] (.bool x52) (fun _ => by kernel_rfl) (fun w54 hE55 => c_73 n x26 a28 c29 a33 c34 x39 a41 c42 a46 c47 w54 hx53 (Rd.below (Rd.below hR30 hb10) hE55) hle31 (Rd.below (Rd.below hR35 hb10) hE55) hle36 (Rd.below (Rd.below hR43 hb10) hE55) hle44 (Rd.below (Rd.below hR48 hb10) hE55) hle49) rfl rfl rfl ?_
  refine QL.step1v 26 (.bool (!x52)) rfl (fun _ => by kernel_rfl) ?_
  refine QL.subk [0, 1, 5, 26] [(0, .slice a0' a_0.length c0'), (1, .slice a1' b_1.length c1'), (5, .int .i64 st8), (26, .bool (!x52))] (by kernel_rfl) ?_
  refine QL.nil ?_
  intro w56 hE57
  have hb58 : Ext w w56 := Ext.trans hb10 hE57
  have hL59 : w.heap.size ≤ w56.heap.size := Nat.le_trans hL11 hE57.size
  have hS60 : SH w56 w.heap.size [] := SH.ext hS12 hE57
  refine WQ.then_normal (hK25 _ _ _ ?_)
  refine WP.cond (!x52) rfl rfl (fun hc61 => ?_) (fun hc61 => ?_)
  rotate_left
  · have hm := iteF hm hc61
    refine WP.skip ?_
    refine WQ.block_normal ?_
    refine WQ.then_normal (hK24 _ _ _ ?_)
    refine WP.region ?_
    refine WL.runk 3 [0, 1, 5] [(0, .slice a0' a_0.length c0'), (1, .slice a1' b_1.length c1'), (5, .int .i64 (wI64 (st8 + 1)))] (by kernel_rfl) ?_
    refine WL.nil ?_
    obtain rfl := Option.some.inj hm
    exact WQ.round hK15 ⟨(wI64 (st8 + 1)), rfl, hb58, hL59, hS60, hl13⟩ (Nat.lt_succ_self _) ⟨rfl, rfl, rfl, trivial⟩
  have hm := iteT hm hc61
  refine WP.seq (fun K62 hK62 => ?_)
  refine WP.region ?_
  refine WL.runk 1 [4] [(4, .bool false)] (by kernel_rfl) ?_
  refine WL.nil ?_
  refine WQ.then_normal (hK62 _ _ _ ?_)
  refine WP.ret ?_
  refine WQ.block_ret ?_
  refine WQ.then_ret ?_
  refine WQ.then_ret ?_
  refine WQ.block_ret ?_
  refine WQ.then_ret ?_
  obtain rfl := Option.some.inj hm
  obtain rfl := afterN_done hl13
  have hm := hmo14
  obtain rfl := Option.some.inj hm
  exact WQ.ret1 _ rfl rfl ⟨rfl, hb58⟩

theorem c_43 (n : Nat) (a_0 : List Int) (a0' : Option Addr) (c0' : Nat) (k_1 : Int) (w : World) (w0 : World) (B : Nat) (L : List Asrt) {r : Int × List Int} (hm : m_laws_markInt64S n a_0 k_1 = some r) (_hE0 : Ext w0 w) (_hW : w0.heap.size ≤ B) (hL : B ≤ w.heap.size) (hS : SH w B (aOwn fInt 2 a0' c0' a_0 :: L)) :
    CallV Try.prog 43 #[.slice a0' a_0.length c0', .int .i64 k_1] w (fun v w' => v = .int .i64 r.1 ∧ Below B w w' ∧ SH w' B (aOwn fInt 2 a0' c0' r.2 :: L) ∧ r.2.length = a_0.length) := by
  unfold m_laws_markInt64S at hm
  refine CallV.enter Try.func43 rfl (by kernel_rfl) Try.ntmps43 (env := [(0, .slice a0' a_0.length c0'), (1, .int .i64 k_1)]) ⟨rfl, rfl, trivial⟩ ?_
  refine WP.seq (fun K1 hK1 => ?_)
  refine WP.region ?_
  refine WL.runk 1 [0, 1] [(0, .slice a0' a_0.length c0'), (1, .int .i64 k_1)] (by kernel_rfl) ?_
  refine WL.nil ?_
  refine WQ.then_normal (hK1 _ _ _ ?_)
  refine WP.seq (fun K2 hK2 => ?_)
  refine WP.seq (fun K3 hK3 => ?_)
  refine WP.region ?_
  refine WL.runk 1 [0, 1, 5] [(0, .slice a0' a_0.length c0'), (1, .int .i64 k_1), (5, .int .i64 0)] (by kernel_rfl) ?_
  refine WL.nil ?_
  refine WQ.then_normal (hK3 _ _ _ ?_)
  refine WP.block ?_
  obtain ⟨t42, ht43, hm⟩ := bindE hm
  have hmo37 := hm; clear hm
  refine WP.sub [(0, .slice a0' a_0.length c0'), (1, .int .i64 k_1), (5, .int .i64 0)] ⟨rfl, rfl, rfl, trivial⟩ ?_
  refine WP.loop (fun n' env' w' => ∃ (st31 : Int × Int × List Int) , env' = [(0, .slice a0' st31.2.2.length c0'), (1, .int .i64 st31.1), (5, .int .i64 st31.2.1)] ∧ Below B w w' ∧ B ≤ w'.heap.size ∧ SH w' B (aOwn fInt 2 a0' c0' st31.2.2 :: L) ∧ st31.2.2.length = a_0.length ∧ loopN (m_laws_markInt64S_l1 n) n' st31 = some t42) n ⟨(k_1, 0, a_0), rfl, (Below.refl _ _), hL, hS, rfl, ht43⟩ ?_
  rintro n39 _ w32 ⟨st31, rfl, hb33, hL34, hS35, hn44, hl36⟩ K38 hK38
  obtain ⟨n40, s41, rfl, hm, hl36⟩ := loopN_some hl36
  unfold m_laws_markInt64S_l1 at hm
  refine WP.seq (fun K45 hK45 => ?_)
  refine WP.seq (fun K46 hK46 => ?_)
  refine WP.region ?_
  refine WL.runk 4 [0, 1, 5, 9] [(0, .slice a0' st31.2.2.length c0'), (1, .int .i64 st31.1), (5, .int .i64 st31.2.1), (9, .bool (decide (st31.2.1 < (st31.2.2.length : Int))))] (by kernel_rfl) ?_
  refine WL.nil ?_
  refine WQ.then_normal (hK46 _ _ _ ?_)
  refine WP.cond (decide (st31.2.1 < (st31.2.2.length : Int))) rfl rfl (fun hc47 => ?_) (fun hc47 => ?_)
  rotate_left
  · have hm := iteF hm hc47
    refine WP.exit ?_
    refine WQ.then_exit ?_
    refine WQ.then_exit ?_
    refine WQ.block_here ?_
    obtain rfl := Option.some.inj hm
    obtain rfl := afterN_done hl36
    have hm := hmo37
    refine WQ.then_normal (hK2 _ _ _ ?_)
    refine WP.seq (fun K58 hK58 => ?_)
    refine WP.region ?_
    refine WL.runk 2 [4] [(4, .int .i64 st31.1)] (by kernel_rfl) ?_
    refine WL.nil ?_
    refine WQ.then_normal (hK58 _ _ _ ?_)
    refine WP.ret ?_
    obtain rfl := Option.some.inj hm
    exact WQ.ret1 _ rfl rfl ⟨rfl, hb33, hS35, hn44⟩
  have hm := iteT hm hc47
  refine WP.skip ?_
  refine WQ.then_normal (hK45 _ _ _ ?_)
  refine WP.seq (fun K48 hK48 => ?_)
  refine WP.block ?_
  refine WP.seq (fun K49 hK49 => ?_)
  refine WP.region ?_
  refine WL.runk 3 [0, 1, 5, 12, 13, 14] [(0, .slice a0' st31.2.2.length c0'), (1, .int .i64 st31.1), (5, .int .i64 st31.2.1), (12, .slice a0' st31.2.2.length c0'), (13, .int .i64 st31.2.1), (14, .int .i64 st31.1)] (by kernel_rfl) ?_
  obtain ⟨x50, hx51, hm⟩ := bindE hm
  refine WL.st (.pointer (some (at_ a0' (Int.toNat st31.2.1 * 1)))) (ST.index (T := fInt.ty) (xs := st31.2.2) (SH.rd (SH.front 0 hS35)) hx51 rfl rfl rfl Try.underlying25 (info2).1 (info2).2.1) rfl rfl rfl ?_
  refine WL.store (F := fInt) st31.1 0 [.int .i64 st31.1] (SH.front 0 hS35) hL34 hx51 rfl rfl rfl rfl rfl rfl rfl (info2).1 (info2).2.1 rfl rfl rfl ?_
  intro w52 hB53 hS54
  have hb55 : Below B w w52 := Below.trans hb33 hB53
  have hL56 : B ≤ w52.heap.size := Nat.le_trans hL34 hB53.size
  refine WL.sub [(0, .slice a0' ((st31.2.2.set (Int.toNat st31.2.1) st31.1).length) c0'), (1, .int .i64 st31.1), (5, .int .i64 st31.2.1), (12, .slice a0' ((st31.2.2.set (Int.toNat st31.2.1) st31.1).length) c0'), (13, .int .i64 st31.2.1), (14, .int .i64 st31.1)] ⟨by first | (simp only [List.length_set]; done) | (simp only [List.length_set]; rfl), rfl, rfl, by first | (simp only [List.length_set]; done) | (simp only [List.length_set]; rfl), rfl, rfl, trivial⟩ ?_
  have hn57 : (st31.2.2.set (Int.toNat st31.2.1) st31.1).length = a_0.length := List.length_set.trans hn44
  refine WL.sub [(0, .slice a0' ((st31.2.2.set (Int.toNat st31.2.1) st31.1).length) c0'), (1, .int .i64 st31.1), (5, .int .i64 st31.2.1)] ⟨rfl, rfl, rfl, trivial⟩ ?_
  refine WL.nil ?_
  refine WQ.then_normal (hK49 _ _ _ ?_)
  refine WP.region ?_
  refine WL.runk 3 [0, 1, 5] [(0, .slice a0' ((st31.2.2.set (Int.toNat st31.2.1) st31.1).length) c0'), (1, .int .i64 (wI64 (st31.1 + 1))), (5, .int .i64 st31.2.1)] (by kernel_rfl) ?_
  refine WL.nil ?_
  refine WQ.block_normal ?_
  refine WQ.then_normal (hK48 _ _ _ ?_)
  refine WP.region ?_
  refine WL.runk 3 [0, 1, 5] [(0, .slice a0' ((st31.2.2.set (Int.toNat st31.2.1) st31.1).length) c0'), (1, .int .i64 (wI64 (st31.1 + 1))), (5, .int .i64 (wI64 (st31.2.1 + 1)))] (by kernel_rfl) ?_
  refine WL.nil ?_
  obtain rfl := Option.some.inj hm
  exact WQ.round hK38 ⟨((wI64 (st31.1 + 1)), (wI64 (st31.2.1 + 1)), (st31.2.2.set (Int.toNat st31.2.1) st31.1)), rfl, hb55, hL56, hS54, hn57, hl36⟩ (Nat.lt_succ_self _) ⟨rfl, rfl, rfl, trivial⟩

theorem c_83 (n : Nat) (k_0 : Int) (w : World) {r : List UInt8} (hm : m_laws_markText n k_0 = some r)  :
    CallV Try.prog 83 #[.int .i64 k_0] w (fun v w' => v = .string (bs r) ∧ Ext w w') := by
  unfold m_laws_markText at hm
  refine CallV.enter Try.func83 rfl (by kernel_rfl) Try.ntmps83 (env := [(0, .int .i64 k_0)]) ⟨rfl, trivial⟩ ?_
  refine WP.seq (fun K1 hK1 => ?_)
  refine WP.region ?_
  refine WL.runk 1 [0] [(0, .int .i64 k_0)] (by kernel_rfl) ?_
  refine WL.nil ?_
  refine WQ.then_normal (hK1 _ _ _ ?_)
  refine WP.seq (fun K2 hK2 => ?_)
  refine WP.seq (fun K3 hK3 => ?_)
  refine WP.region ?_
  refine WL.runk 2 [0, 5] [(0, .int .i64 k_0), (5, .bool (decide (k_0 ≤ 0)))] (by kernel_rfl) ?_
  refine WL.nil ?_
  refine WQ.then_normal (hK3 _ _ _ ?_)
  refine WP.cond (decide (k_0 ≤ 0)) rfl rfl (fun hc4 => ?_) (fun hc4 => ?_)
  · have hm := iteT hm hc4
    refine WP.seq (fun K5 hK5 => ?_)
    refine WP.region ?_
    refine WL.runk 1 [2] [(2, .string (bs [109, 48]))] (by kernel_rfl) ?_
    refine WL.nil ?_
    refine WQ.then_normal (hK5 _ _ _ ?_)
    refine WP.ret ?_
    refine WQ.then_ret ?_
    obtain rfl := Option.some.inj hm
    exact WQ.ret1 _ rfl rfl ⟨rfl, (Ext.refl w)⟩
  have hm := iteF hm hc4
  refine WP.skip ?_
  refine WQ.then_normal (hK2 _ _ _ ?_)
  refine WP.seq (fun K6 hK6 => ?_)
  refine WP.region ?_
  refine WL.runk 1 [0, 3] [(0, .int .i64 k_0), (3, .string (bs []))] (by kernel_rfl) ?_
  refine WL.nil ?_
  refine WQ.then_normal (hK6 _ _ _ ?_)
  refine WP.seq (fun K7 hK7 => ?_)
  refine WP.block ?_
  obtain ⟨t19, ht20, hm⟩ := bindE hm
  have hmo14 := hm; clear hm
  refine WP.sub [(0, .int .i64 k_0), (3, .string (bs []))] ⟨rfl, rfl, trivial⟩ ?_
  refine WP.loop (fun n' env' w' => ∃ (st8 : Int × List UInt8) , env' = [(0, .int .i64 st8.1), (3, .string (bs st8.2))] ∧ Ext w w' ∧ w.heap.size ≤ w'.heap.size ∧ SH w' w.heap.size [] ∧ loopN (m_laws_markText_l1 n) n' st8 = some t19) n ⟨(k_0, []), rfl, (Ext.refl w), (Nat.le_refl _), (SH.nil _ _), ht20⟩ ?_
  rintro n16 _ w9 ⟨st8, rfl, hb10, hL11, hS12, hl13⟩ K15 hK15
  obtain ⟨n17, s18, rfl, hm, hl13⟩ := loopN_some hl13
  unfold m_laws_markText_l1 at hm
  refine WP.seq (fun K21 hK21 => ?_)
  refine WP.seq (fun K22 hK22 => ?_)
  refine WP.region ?_
  refine WL.runk 2 [0, 3, 7] [(0, .int .i64 st8.1), (3, .string (bs st8.2)), (7, .bool (decide (st8.1 > 0)))] (by kernel_rfl) ?_
  refine WL.nil ?_
  refine WQ.then_normal (hK22 _ _ _ ?_)
  refine WP.cond (decide (st8.1 > 0)) rfl rfl (fun hc23 => ?_) (fun hc23 => ?_)
  rotate_left
  · have hm := iteF hm hc23
    refine WP.exit ?_
    refine WQ.then_exit ?_
    refine WQ.then_exit ?_
    refine WQ.block_here ?_
    obtain rfl := Option.some.inj hm
    obtain rfl := afterN_done hl13
    have hm := hmo14
    refine WQ.then_normal (hK7 _ _ _ ?_)
    refine WP.seq (fun K36 hK36 => ?_)
    refine WP.region ?_
    refine WL.runk 1 [18] [(18, .string (bs st8.2))] (by kernel_rfl) ?_
    obtain ⟨x37, hx38, hm⟩ := bindE hm
    refine WL.st (.string (bs x37)) (ST.cat hx38 rfl rfl rfl) rfl rfl rfl ?_
    refine WL.runk 1 [2] [(2, .string (bs x37))] (by kernel_rfl) ?_
    refine WL.nil ?_
    refine WQ.then_normal (hK36 _ _ _ ?_)
    refine WP.ret ?_
    obtain rfl := Option.some.inj hm
    exact WQ.ret1 _ rfl rfl ⟨rfl, hb10⟩
  have hm := iteT hm hc23
  refine WP.skip ?_
  refine WQ.then_normal (hK21 _ _ _ ?_)
  refine WP.block ?_
  refine WP.seq (fun K24 hK24 => ?_)
  refine WP.region ?_
  refine WL.runk 4 [0, 3, 11] [(0, .int .i64 st8.1), (3, .string (bs st8.2)), (11, .int .u8 (IntKind.u8.wrap (wI64 (48 + (Int.tmod st8.1 10)))))] (by kernel_rfl) ?_
  refine WL.row fU8 5 ([(IntKind.u8.wrap (wI64 (48 + (Int.tmod st8.1 10))))] : List Int) 1 #[.int .u8 (IntKind.u8.wrap (wI64 (48 + (Int.tmod st8.1 10))))] 12 (by kernel_rfl) rfl rfl rfl rfl rfl rfl rfl ?_
  intro a25 c26 w27 hE28 hR29
  have hb31 : Ext w w27 := Ext.trans hb10 hE28
  have hL32 : w.heap.size ≤ w27.heap.size := Nat.le_trans hL11 hE28.size
  have hS33 : SH w27 w.heap.size [aOwn fU8 5 a25 c26 ([(IntKind.u8.wrap (wI64 (48 + (Int.tmod st8.1 10))))] : List Int)] := SH.add hS12 hE28 hL11 hR29
  refine WL.st (.string (bs (ofBytes ([(IntKind.u8.wrap (wI64 (48 + (Int.tmod st8.1 10))))] : List Int)))) (ST.b2s (SH.rd (SH.front 0 hS33)) (SH.le (SH.front 0 hS33)).2 rfl rfl Try.underlying22 Try.underlying9 Try.underlying5) rfl rfl rfl ?_
  refine WL.runk 1 [0, 13, 14] [(0, .int .i64 st8.1), (13, .string (bs (ofBytes ([(IntKind.u8.wrap (wI64 (48 + (Int.tmod st8.1 10))))] : List Int)))), (14, .string (bs st8.2))] (by kernel_rfl) ?_
  obtain ⟨x34, hx35, hm⟩ := bindE hm
  refine WL.st (.string (bs x34)) (ST.cat hx35 rfl rfl rfl) rfl rfl rfl ?_
  refine WL.runk 1 [0, 3] [(0, .int .i64 st8.1), (3, .string (bs x34))] (by kernel_rfl) ?_
  refine WL.nil ?_
  refine WQ.then_normal (hK24 _ _ _ ?_)
  refine WP.region ?_
  refine WL.runk 3 [0, 3] [(0, .int .i64 (wI64 (Int.tdiv st8.1 10))), (3, .string (bs x34))] (by kernel_rfl) ?_
  refine WL.nil ?_
  refine WQ.block_normal ?_
  obtain rfl := Option.some.inj hm
  exact WQ.round hK15 ⟨((wI64 (Int.tdiv st8.1 10)), x34), rfl, hb31, hL32, (SH.take 0 hS33), hl13⟩ (Nat.lt_succ_self _) ⟨rfl, rfl, trivial⟩

theorem c_42 (n : Nat) (a_0 : List SRepair) (a0' : Option Addr) (c0' : Nat) (k_1 : Int) (w : World) (w0 : World) (B : Nat) (L : List Asrt) {r : Int × List SRepair} (hm : m_laws_markRepairS n a_0 k_1 = some r) (hE0 : Ext w0 w) (hW : w0.heap.size ≤ B) (hL : B ≤ w.heap.size) (hS : SH w B (aNest fRepair 73 2 a0' c0' a_0 :: L)) :
    CallV Try.prog 42 #[.slice a0' a_0.length c0', .int .i64 k_1] w (fun v w' => v = .int .i64 r.1 ∧ Below B w w' ∧ SH w' B (aNest fRepair 73 2 a0' c0' r.2 :: L) ∧ r.2.length = a_0.length) := by
  unfold m_laws_markRepairS at hm
  refine CallV.enter Try.func42 rfl (by kernel_rfl) Try.ntmps42 (env := [(0, .slice a0' a_0.length c0'), (1, .int .i64 k_1)]) ⟨rfl, rfl, trivial⟩ ?_
  refine WP.seq (fun K1 hK1 => ?_)
  refine WP.region ?_
  refine WL.runk 1 [0, 1] [(0, .slice a0' a_0.length c0'), (1, .int .i64 k_1)] (by kernel_rfl) ?_
  refine WL.nil ?_
  refine WQ.then_normal (hK1 _ _ _ ?_)
  refine WP.seq (fun K2 hK2 => ?_)
  refine WP.seq (fun K3 hK3 => ?_)
  refine WP.region ?_
  refine WL.runk 1 [0, 1, 5] [(0, .slice a0' a_0.length c0'), (1, .int .i64 k_1), (5, .int .i64 0)] (by kernel_rfl) ?_
  refine WL.nil ?_
  refine WQ.then_normal (hK3 _ _ _ ?_)
  refine WP.block ?_
  obtain ⟨t138, ht139, hm⟩ := bindE hm
  have hmo133 := hm; clear hm
  refine WP.sub [(0, .slice a0' a_0.length c0'), (1, .int .i64 k_1), (5, .int .i64 0)] ⟨rfl, rfl, rfl, trivial⟩ ?_
  refine WP.loop (fun n' env' w' => ∃ (st127 : Int × Int × List SRepair) , env' = [(0, .slice a0' st127.2.2.length c0'), (1, .int .i64 st127.1), (5, .int .i64 st127.2.1)] ∧ Below B w w' ∧ B ≤ w'.heap.size ∧ SH w' B (aNest fRepair 73 2 a0' c0' st127.2.2 :: L) ∧ st127.2.2.length = a_0.length ∧ loopN (m_laws_markRepairS_l1 n) n' st127 = some t138) n ⟨(k_1, 0, a_0), rfl, (Below.refl _ _), hL, hS, rfl, ht139⟩ ?_
  rintro n135 _ w128 ⟨st127, rfl, hb129, hL130, hS131, hn140, hl132⟩ K134 hK134
  obtain ⟨n136, s137, rfl, hm, hl132⟩ := loopN_some hl132
  unfold m_laws_markRepairS_l1 at hm
  refine WP.seq (fun K141 hK141 => ?_)
  refine WP.seq (fun K142 hK142 => ?_)
  refine WP.region ?_
  refine WL.runk 4 [0, 1, 5, 9] [(0, .slice a0' st127.2.2.length c0'), (1, .int .i64 st127.1), (5, .int .i64 st127.2.1), (9, .bool (decide (st127.2.1 < (st127.2.2.length : Int))))] (by kernel_rfl) ?_
  refine WL.nil ?_
  refine WQ.then_normal (hK142 _ _ _ ?_)
  refine WP.cond (decide (st127.2.1 < (st127.2.2.length : Int))) rfl rfl (fun hc143 => ?_) (fun hc143 => ?_)
  rotate_left
  · have hm := iteF hm hc143
    refine WP.exit ?_
    refine WQ.then_exit ?_
    refine WQ.then_exit ?_
    refine WQ.block_here ?_
    obtain rfl := Option.some.inj hm
    obtain rfl := afterN_done hl132
    have hm := hmo133
    refine WQ.then_normal (hK2 _ _ _ ?_)
    refine WP.seq (fun K250 hK250 => ?_)
    refine WP.region ?_
    refine WL.runk 2 [4] [(4, .int .i64 st127.1)] (by kernel_rfl) ?_
    refine WL.nil ?_
    refine WQ.then_normal (hK250 _ _ _ ?_)
    refine WP.ret ?_
    obtain rfl := Option.some.inj hm
    exact WQ.ret1 _ rfl rfl ⟨rfl, hb129, hS131, hn140⟩
  have hm := iteT hm hc143
  refine WP.skip ?_
  refine WQ.then_normal (hK141 _ _ _ ?_)
  refine WP.seq (fun K144 hK144 => ?_)
  refine WP.block ?_
  refine WP.seq (fun K145 hK145 => ?_)
  refine WP.region ?_
  refine WL.runk 3 [0, 1, 5, 12, 13, 14] [(0, .slice a0' st127.2.2.length c0'), (1, .int .i64 st127.1), (5, .int .i64 st127.2.1), (12, .slice a0' st127.2.2.length c0'), (13, .int .i64 st127.2.1), (14, .int .i64 st127.1)] (by kernel_rfl) ?_
  obtain ⟨x146, hx147, hm⟩ := bindE hm
  refine WL.call 83 #[.int .i64 st127.1] rfl rfl (by kernel_rfl) (c_83 n st127.1 w128 hx147 ) ?_
  rintro _ w148 ⟨rfl, hE149⟩
  refine ⟨_, rfl, ?_⟩
  have hb151 : Below B w w148 := Below.trans hb129 (Below.mono hE149 hL130)
  have hL152 : B ≤ w148.heap.size := Nat.le_trans hL130 hE149.size
  have hS153 : SH w148 B (aNest fRepair 73 2 a0' c0' st127.2.2 :: L) := SH.ext hS131 hE149
  obtain ⟨x154, hx155, hm⟩ := bindE hm
  obtain ⟨a156, c157, a159, c160, hS162⟩ := elem_Repair (SH.front 0 hS153) hx155
  refine WL.st (.pointer (some (at_ a0' (Int.toNat st127.2.1 * 5)))) (ST.index (T := fRepair.ty) (xs := st127.2.2) (SH.rdN (SH.front 0 hS153)) hx155 rfl rfl rfl Try.underlying24 (info73).1 (info73).2.1) rfl rfl rfl ?_
  refine WL.runk 1 [0, 1, 5, 15, 17] [(0, .slice a0' st127.2.2.length c0'), (1, .int .i64 st127.1), (5, .int .i64 st127.2.1), (15, .string (bs x146)), (17, .pointer (some (at_ a0' (Int.toNat st127.2.1 * 5))))] (by kernel_rfl) ?_
  refine WL.holeStore 0 [.string (bs x146)] [.string (bs x146), .slice a156 x154.Mends.length c157, .slice a159 x154.First.length c160, .int .i64 x154.Price, .int .i64 x154.Hours] (SH.front 2 hS162) hL152 rfl rfl rfl rfl rfl rfl rfl (info9).1 (info9).2.1 rfl rfl rfl ?_
  intro w163 hB164 hS165
  have hb166 : Below B w w163 := Below.trans hb151 hB164
  have hL167 : B ≤ w163.heap.size := Nat.le_trans hL152 hB164.size
  refine WL.sub [(0, .slice a0' st127.2.2.length c0'), (1, .int .i64 st127.1), (5, .int .i64 st127.2.1)] ⟨rfl, rfl, rfl, trivial⟩ ?_
  have hS168 : SH w163 B (aNest fRepair 73 2 a0' c0' (st127.2.2.set (Int.toNat st127.2.1) (SRepair.mk x146 x154.Mends x154.First x154.Price x154.Hours)) :: L) := SH.elemBack (Ix := [aOwn fInt 2 a156 c157 x154.Mends, aOwn fInt 2 a159 c160 x154.First]) (x' := (SRepair.mk x146 x154.Mends x154.First x154.Price x154.Hours)) (SH.front 2 (SH.front 2 hS165)) (.val (Fit.row' rfl (Fit.row' rfl (.val (.val .nil)))))
  refine WL.sub [(0, .slice a0' ((st127.2.2.set (Int.toNat st127.2.1) (SRepair.mk x146 x154.Mends x154.First x154.Price x154.Hours)).length) c0'), (1, .int .i64 st127.1), (5, .int .i64 st127.2.1)] ⟨by first | (simp only [List.length_set]; done) | (simp only [List.length_set]; rfl), rfl, rfl, trivial⟩ ?_
  have hn169 : (st127.2.2.set (Int.toNat st127.2.1) (SRepair.mk x146 x154.Mends x154.First x154.Price x154.Hours)).length = a_0.length := List.length_set.trans hn140
  refine WL.nil ?_
  refine WQ.then_normal (hK145 _ _ _ ?_)
  refine WP.seq (fun K170 hK170 => ?_)
  refine WP.region ?_
  refine WL.runk 3 [0, 1, 5] [(0, .slice a0' ((st127.2.2.set (Int.toNat st127.2.1) (SRepair.mk x146 x154.Mends x154.First x154.Price x154.Hours)).length) c0'), (1, .int .i64 (wI64 (st127.1 + 1))), (5, .int .i64 st127.2.1)] (by kernel_rfl) ?_
  refine WL.nil ?_
  refine WQ.then_normal (hK170 _ _ _ ?_)
  refine WP.seq (fun K171 hK171 => ?_)
  refine WP.region ?_
  refine WL.runk 2 [0, 1, 5, 20, 21] [(0, .slice a0' ((st127.2.2.set (Int.toNat st127.2.1) (SRepair.mk x146 x154.Mends x154.First x154.Price x154.Hours)).length) c0'), (1, .int .i64 (wI64 (st127.1 + 1))), (5, .int .i64 st127.2.1), (20, .slice a0' ((st127.2.2.set (Int.toNat st127.2.1) (SRepair.mk x146 x154.Mends x154.First x154.Price x154.Hours)).length) c0'), (21, .int .i64 st127.2.1)] (by kernel_rfl) ?_
  obtain ⟨x172, hx173, hm⟩ := bindE hm
  obtain ⟨a174, c175, a177, c178, hS180⟩ := elem_Repair (SH.front 0 hS168) hx173
  refine WL.st (.pointer (some (at_ a0' (Int.toNat st127.2.1 * 5)))) (ST.index (T := fRepair.ty) (xs := (st127.2.2.set (Int.toNat st127.2.1) (SRepair.mk x146 x154.Mends x154.First x154.Price x154.Hours))) (SH.rdN (SH.front 0 hS168)) hx173 rfl rfl rfl Try.underlying24 (info73).1 (info73).2.1) rfl rfl rfl ?_
  refine WL.runk 1 [0, 1, 5, 23] [(0, .slice a0' ((st127.2.2.set (Int.toNat st127.2.1) (SRepair.mk x146 x154.Mends x154.First x154.Price x154.Hours)).length) c0'), (1, .int .i64 (wI64 (st127.1 + 1))), (5, .int .i64 st127.2.1), (23, .pointer (some (at_ a0' (Int.toNat st127.2.1 * 5 + 1))))] (by kernel_rfl) ?_
  refine WL.st (.slice a174 x172.Mends.length c175) (ST.load (cell_ext ((SH.holeAt (SH.front 2 hS180)) 1 _ rfl)) rfl rfl Try.underlying25 rfl) rfl rfl rfl ?_
  refine WL.runk 1 [0, 5, 24, 25] [(0, .slice a0' ((st127.2.2.set (Int.toNat st127.2.1) (SRepair.mk x146 x154.Mends x154.First x154.Price x154.Hours)).length) c0'), (5, .int .i64 st127.2.1), (24, .slice a174 x172.Mends.length c175), (25, .int .i64 (wI64 (st127.1 + 1)))] (by kernel_rfl) ?_
  obtain ⟨x181, hx182, hm⟩ := bindE hm
  refine WL.call 43 #[.slice a174 x172.Mends.length c175, .int .i64 (wI64 (st127.1 + 1))] rfl rfl (by kernel_rfl) (c_43 n x172.Mends a174 c175 (wI64 (st127.1 + 1)) w163 w0 B (aOwn fInt 2 a177 c178 x172.First :: aHole fRepair 73 2 a0' c0' (st127.2.2.set (Int.toNat st127.2.1) (SRepair.mk x146 x154.Mends x154.First x154.Price x154.Hours)) (Int.toNat st127.2.1) [.string (bs x172.Name), .slice a174 x172.Mends.length c175, .slice a177 x172.First.length c178, .int .i64 x172.Price, .int .i64 x172.Hours] :: L) hx182 (Below.trans hE0 (Below.mono hb166 hW)) hW hL167  hS180) ?_
  rintro _ w183 ⟨rfl, hB187, hS186, hlen188⟩
  refine ⟨_, rfl, ?_⟩
  have hb189 : Below B w w183 := Below.trans hb166 hB187
  have hL190 : B ≤ w183.heap.size := Nat.le_trans hL167 hB187.size
  refine WL.sub [(0, .slice a0' ((st127.2.2.set (Int.toNat st127.2.1) (SRepair.mk x146 x154.Mends x154.First x154.Price x154.Hours)).length) c0'), (5, .int .i64 st127.2.1), (24, .slice a174 x181.2.length c175), (25, .int .i64 (wI64 (st127.1 + 1))), (26, .int .i64 x181.1)] ⟨rfl, rfl, by rw [hlen188]; rfl, rfl, rfl, trivial⟩ ?_
  refine WL.runk 1 [0, 1, 5] [(0, .slice a0' ((st127.2.2.set (Int.toNat st127.2.1) (SRepair.mk x146 x154.Mends x154.First x154.Price x154.Hours)).length) c0'), (5, .int .i64 st127.2.1), (1, .int .i64 x181.1)] (by kernel_rfl) ?_
  have hS191 : SH w183 B (aNest fRepair 73 2 a0' c0' ((st127.2.2.set (Int.toNat st127.2.1) (SRepair.mk x146 x154.Mends x154.First x154.Price x154.Hours)).set (Int.toNat st127.2.1) (SRepair.mk x172.Name x181.2 x172.First x172.Price x172.Hours)) :: L) := SH.elemBack (Ix := [aOwn fInt 2 a174 c175 x181.2, aOwn fInt 2 a177 c178 x172.First]) (x' := (SRepair.mk x172.Name x181.2 x172.First x172.Price x172.Hours)) hS186 (.val (Fit.row' hlen188.symm (Fit.row' rfl (.val (.val .nil)))))
  refine WL.sub [(0, .slice a0' (((st127.2.2.set (Int.toNat st127.2.1) (SRepair.mk x146 x154.Mends x154.First x154.Price x154.Hours)).set (Int.toNat st127.2.1) (SRepair.mk x172.Name x181.2 x172.First x172.Price x172.Hours)).length) c0'), (5, .int .i64 st127.2.1), (1, .int .i64 x181.1)] ⟨by first | (simp only [List.length_set]; done) | (simp only [List.length_set]; rfl), rfl, rfl, trivial⟩ ?_
  have hn192 : ((st127.2.2.set (Int.toNat st127.2.1) (SRepair.mk x146 x154.Mends x154.First x154.Price x154.Hours)).set (Int.toNat st127.2.1) (SRepair.mk x172.Name x181.2 x172.First x172.Price x172.Hours)).length = a_0.length := List.length_set.trans hn169
  refine WL.nil ?_
  refine WQ.then_normal (hK171 _ _ _ ?_)
  refine WP.seq (fun K193 hK193 => ?_)
  refine WP.region ?_
  refine WL.runk 2 [0, 1, 5, 27, 28] [(0, .slice a0' (((st127.2.2.set (Int.toNat st127.2.1) (SRepair.mk x146 x154.Mends x154.First x154.Price x154.Hours)).set (Int.toNat st127.2.1) (SRepair.mk x172.Name x181.2 x172.First x172.Price x172.Hours)).length) c0'), (5, .int .i64 st127.2.1), (1, .int .i64 x181.1), (27, .slice a0' (((st127.2.2.set (Int.toNat st127.2.1) (SRepair.mk x146 x154.Mends x154.First x154.Price x154.Hours)).set (Int.toNat st127.2.1) (SRepair.mk x172.Name x181.2 x172.First x172.Price x172.Hours)).length) c0'), (28, .int .i64 st127.2.1)] (by kernel_rfl) ?_
  obtain ⟨x194, hx195, hm⟩ := bindE hm
  obtain ⟨a196, c197, a199, c200, hS202⟩ := elem_Repair (SH.front 0 hS191) hx195
  refine WL.st (.pointer (some (at_ a0' (Int.toNat st127.2.1 * 5)))) (ST.index (T := fRepair.ty) (xs := ((st127.2.2.set (Int.toNat st127.2.1) (SRepair.mk x146 x154.Mends x154.First x154.Price x154.Hours)).set (Int.toNat st127.2.1) (SRepair.mk x172.Name x181.2 x172.First x172.Price x172.Hours))) (SH.rdN (SH.front 0 hS191)) hx195 rfl rfl rfl Try.underlying24 (info73).1 (info73).2.1) rfl rfl rfl ?_
  refine WL.runk 1 [0, 1, 5, 30] [(0, .slice a0' (((st127.2.2.set (Int.toNat st127.2.1) (SRepair.mk x146 x154.Mends x154.First x154.Price x154.Hours)).set (Int.toNat st127.2.1) (SRepair.mk x172.Name x181.2 x172.First x172.Price x172.Hours)).length) c0'), (5, .int .i64 st127.2.1), (1, .int .i64 x181.1), (30, .pointer (some (at_ a0' (Int.toNat st127.2.1 * 5 + 2))))] (by kernel_rfl) ?_
  refine WL.st (.slice a199 x194.First.length c200) (ST.load (cell_ext ((SH.holeAt (SH.front 2 hS202)) 2 _ rfl)) rfl rfl Try.underlying25 rfl) rfl rfl rfl ?_
  refine WL.runk 1 [0, 5, 31, 32] [(0, .slice a0' (((st127.2.2.set (Int.toNat st127.2.1) (SRepair.mk x146 x154.Mends x154.First x154.Price x154.Hours)).set (Int.toNat st127.2.1) (SRepair.mk x172.Name x181.2 x172.First x172.Price x172.Hours)).length) c0'), (5, .int .i64 st127.2.1), (31, .slice a199 x194.First.length c200), (32, .int .i64 x181.1)] (by kernel_rfl) ?_
  obtain ⟨x203, hx204, hm⟩ := bindE hm
  refine WL.call 43 #[.slice a199 x194.First.length c200, .int .i64 x181.1] rfl rfl (by kernel_rfl) (c_43 n x194.First a199 c200 x181.1 w183 w0 B (aOwn fInt 2 a196 c197 x194.Mends :: aHole fRepair 73 2 a0' c0' ((st127.2.2.set (Int.toNat st127.2.1) (SRepair.mk x146 x154.Mends x154.First x154.Price x154.Hours)).set (Int.toNat st127.2.1) (SRepair.mk x172.Name x181.2 x172.First x172.Price x172.Hours)) (Int.toNat st127.2.1) [.string (bs x194.Name), .slice a196 x194.Mends.length c197, .slice a199 x194.First.length c200, .int .i64 x194.Price, .int .i64 x194.Hours] :: L) hx204 (Below.trans hE0 (Below.mono hb189 hW)) hW hL190  (SH.front 2 (SH.front 1 (SH.front 2 hS202)))) ?_
  rintro _ w205 ⟨rfl, hB209, hS208, hlen210⟩
  refine ⟨_, rfl, ?_⟩
  have hb211 : Below B w w205 := Below.trans hb189 hB209
  have hL212 : B ≤ w205.heap.size := Nat.le_trans hL190 hB209.size
  refine WL.sub [(0, .slice a0' (((st127.2.2.set (Int.toNat st127.2.1) (SRepair.mk x146 x154.Mends x154.First x154.Price x154.Hours)).set (Int.toNat st127.2.1) (SRepair.mk x172.Name x181.2 x172.First x172.Price x172.Hours)).length) c0'), (5, .int .i64 st127.2.1), (31, .slice a199 x203.2.length c200), (32, .int .i64 x181.1), (33, .int .i64 x203.1)] ⟨rfl, rfl, by rw [hlen210]; rfl, rfl, rfl, trivial⟩ ?_
  refine WL.runk 1 [0, 1, 5] [(0, .slice a0' (((st127.2.2.set (Int.toNat st127.2.1) (SRepair.mk x146 x154.Mends x154.First x154.Price x154.Hours)).set (Int.toNat st127.2.1) (SRepair.mk x172.Name x181.2 x172.First x172.Price x172.Hours)).length) c0'), (5, .int .i64 st127.2.1), (1, .int .i64 x203.1)] (by kernel_rfl) ?_
  have hS213 : SH w205 B (aNest fRepair 73 2 a0' c0' (((st127.2.2.set (Int.toNat st127.2.1) (SRepair.mk x146 x154.Mends x154.First x154.Price x154.Hours)).set (Int.toNat st127.2.1) (SRepair.mk x172.Name x181.2 x172.First x172.Price x172.Hours)).set (Int.toNat st127.2.1) (SRepair.mk x194.Name x194.Mends x203.2 x194.Price x194.Hours)) :: L) := SH.elemBack (Ix := [aOwn fInt 2 a196 c197 x194.Mends, aOwn fInt 2 a199 c200 x203.2]) (x' := (SRepair.mk x194.Name x194.Mends x203.2 x194.Price x194.Hours)) (SH.front 2 (SH.front 1 (SH.front 2 hS208))) (.val (Fit.row' rfl (Fit.row' hlen210.symm (.val (.val .nil)))))
  refine WL.sub [(0, .slice a0' ((((st127.2.2.set (Int.toNat st127.2.1) (SRepair.mk x146 x154.Mends x154.First x154.Price x154.Hours)).set (Int.toNat st127.2.1) (SRepair.mk x172.Name x181.2 x172.First x172.Price x172.Hours)).set (Int.toNat st127.2.1) (SRepair.mk x194.Name x194.Mends x203.2 x194.Price x194.Hours)).length) c0'), (5, .int .i64 st127.2.1), (1, .int .i64 x203.1)] ⟨by first | (simp only [List.length_set]; done) | (simp only [List.length_set]; rfl), rfl, rfl, trivial⟩ ?_
  have hn214 : (((st127.2.2.set (Int.toNat st127.2.1) (SRepair.mk x146 x154.Mends x154.First x154.Price x154.Hours)).set (Int.toNat st127.2.1) (SRepair.mk x172.Name x181.2 x172.First x172.Price x172.Hours)).set (Int.toNat st127.2.1) (SRepair.mk x194.Name x194.Mends x203.2 x194.Price x194.Hours)).length = a_0.length := List.length_set.trans hn192
  refine WL.nil ?_
  refine WQ.then_normal (hK193 _ _ _ ?_)
  refine WP.seq (fun K215 hK215 => ?_)
  refine WP.region ?_
  refine WL.runk 3 [0, 1, 5, 34, 35, 36] [(0, .slice a0' ((((st127.2.2.set (Int.toNat st127.2.1) (SRepair.mk x146 x154.Mends x154.First x154.Price x154.Hours)).set (Int.toNat st127.2.1) (SRepair.mk x172.Name x181.2 x172.First x172.Price x172.Hours)).set (Int.toNat st127.2.1) (SRepair.mk x194.Name x194.Mends x203.2 x194.Price x194.Hours)).length) c0'), (5, .int .i64 st127.2.1), (1, .int .i64 x203.1), (34, .slice a0' ((((st127.2.2.set (Int.toNat st127.2.1) (SRepair.mk x146 x154.Mends x154.First x154.Price x154.Hours)).set (Int.toNat st127.2.1) (SRepair.mk x172.Name x181.2 x172.First x172.Price x172.Hours)).set (Int.toNat st127.2.1) (SRepair.mk x194.Name x194.Mends x203.2 x194.Price x194.Hours)).length) c0'), (35, .int .i64 st127.2.1), (36, .int .i64 x203.1)] (by kernel_rfl) ?_
  obtain ⟨x216, hx217, hm⟩ := bindE hm
  obtain ⟨a218, c219, a221, c222, hS224⟩ := elem_Repair (SH.front 0 hS213) hx217
  refine WL.st (.pointer (some (at_ a0' (Int.toNat st127.2.1 * 5)))) (ST.index (T := fRepair.ty) (xs := (((st127.2.2.set (Int.toNat st127.2.1) (SRepair.mk x146 x154.Mends x154.First x154.Price x154.Hours)).set (Int.toNat st127.2.1) (SRepair.mk x172.Name x181.2 x172.First x172.Price x172.Hours)).set (Int.toNat st127.2.1) (SRepair.mk x194.Name x194.Mends x203.2 x194.Price x194.Hours))) (SH.rdN (SH.front 0 hS213)) hx217 rfl rfl rfl Try.underlying24 (info73).1 (info73).2.1) rfl rfl rfl ?_
  refine WL.runk 1 [0, 1, 5, 36, 38] [(0, .slice a0' ((((st127.2.2.set (Int.toNat st127.2.1) (SRepair.mk x146 x154.Mends x154.First x154.Price x154.Hours)).set (Int.toNat st127.2.1) (SRepair.mk x172.Name x181.2 x172.First x172.Price x172.Hours)).set (Int.toNat st127.2.1) (SRepair.mk x194.Name x194.Mends x203.2 x194.Price x194.Hours)).length) c0'), (5, .int .i64 st127.2.1), (1, .int .i64 x203.1), (36, .int .i64 x203.1), (38, .pointer (some (at_ a0' (Int.toNat st127.2.1 * 5 + 3))))] (by kernel_rfl) ?_
  refine WL.holeStore 3 [.int .i64 x203.1] [.string (bs x216.Name), .slice a218 x216.Mends.length c219, .slice a221 x216.First.length c222, .int .i64 x203.1, .int .i64 x216.Hours] (SH.front 2 hS224) hL212 rfl rfl rfl rfl rfl rfl rfl (info2).1 (info2).2.1 rfl rfl rfl ?_
  intro w225 hB226 hS227
  have hb228 : Below B w w225 := Below.trans hb211 hB226
  have hL229 : B ≤ w225.heap.size := Nat.le_trans hL212 hB226.size
  refine WL.sub [(0, .slice a0' ((((st127.2.2.set (Int.toNat st127.2.1) (SRepair.mk x146 x154.Mends x154.First x154.Price x154.Hours)).set (Int.toNat st127.2.1) (SRepair.mk x172.Name x181.2 x172.First x172.Price x172.Hours)).set (Int.toNat st127.2.1) (SRepair.mk x194.Name x194.Mends x203.2 x194.Price x194.Hours)).length) c0'), (5, .int .i64 st127.2.1), (1, .int .i64 x203.1)] ⟨rfl, rfl, rfl, trivial⟩ ?_
  have hS230 : SH w225 B (aNest fRepair 73 2 a0' c0' ((((st127.2.2.set (Int.toNat st127.2.1) (SRepair.mk x146 x154.Mends x154.First x154.Price x154.Hours)).set (Int.toNat st127.2.1) (SRepair.mk x172.Name x181.2 x172.First x172.Price x172.Hours)).set (Int.toNat st127.2.1) (SRepair.mk x194.Name x194.Mends x203.2 x194.Price x194.Hours)).set (Int.toNat st127.2.1) (SRepair.mk x216.Name x216.Mends x216.First x203.1 x216.Hours)) :: L) := SH.elemBack (Ix := [aOwn fInt 2 a218 c219 x216.Mends, aOwn fInt 2 a221 c222 x216.First]) (x' := (SRepair.mk x216.Name x216.Mends x216.First x203.1 x216.Hours)) (SH.front 2 (SH.front 2 hS227)) (.val (Fit.row' rfl (Fit.row' rfl (.val (.val .nil)))))
  refine WL.sub [(0, .slice a0' (((((st127.2.2.set (Int.toNat st127.2.1) (SRepair.mk x146 x154.Mends x154.First x154.Price x154.Hours)).set (Int.toNat st127.2.1) (SRepair.mk x172.Name x181.2 x172.First x172.Price x172.Hours)).set (Int.toNat st127.2.1) (SRepair.mk x194.Name x194.Mends x203.2 x194.Price x194.Hours)).set (Int.toNat st127.2.1) (SRepair.mk x216.Name x216.Mends x216.First x203.1 x216.Hours)).length) c0'), (5, .int .i64 st127.2.1), (1, .int .i64 x203.1)] ⟨by first | (simp only [List.length_set]; done) | (simp only [List.length_set]; rfl), rfl, rfl, trivial⟩ ?_
  have hn231 : ((((st127.2.2.set (Int.toNat st127.2.1) (SRepair.mk x146 x154.Mends x154.First x154.Price x154.Hours)).set (Int.toNat st127.2.1) (SRepair.mk x172.Name x181.2 x172.First x172.Price x172.Hours)).set (Int.toNat st127.2.1) (SRepair.mk x194.Name x194.Mends x203.2 x194.Price x194.Hours)).set (Int.toNat st127.2.1) (SRepair.mk x216.Name x216.Mends x216.First x203.1 x216.Hours)).length = a_0.length := List.length_set.trans hn214
  refine WL.nil ?_
  refine WQ.then_normal (hK215 _ _ _ ?_)
  refine WP.seq (fun K232 hK232 => ?_)
  refine WP.region ?_
  refine WL.runk 3 [0, 1, 5] [(0, .slice a0' (((((st127.2.2.set (Int.toNat st127.2.1) (SRepair.mk x146 x154.Mends x154.First x154.Price x154.Hours)).set (Int.toNat st127.2.1) (SRepair.mk x172.Name x181.2 x172.First x172.Price x172.Hours)).set (Int.toNat st127.2.1) (SRepair.mk x194.Name x194.Mends x203.2 x194.Price x194.Hours)).set (Int.toNat st127.2.1) (SRepair.mk x216.Name x216.Mends x216.First x203.1 x216.Hours)).length) c0'), (5, .int .i64 st127.2.1), (1, .int .i64 (wI64 (x203.1 + 1)))] (by kernel_rfl) ?_
  refine WL.nil ?_
  refine WQ.then_normal (hK232 _ _ _ ?_)
  refine WP.seq (fun K233 hK233 => ?_)
  refine WP.region ?_
  refine WL.runk 3 [0, 1, 5, 41, 42, 43] [(0, .slice a0' (((((st127.2.2.set (Int.toNat st127.2.1) (SRepair.mk x146 x154.Mends x154.First x154.Price x154.Hours)).set (Int.toNat st127.2.1) (SRepair.mk x172.Name x181.2 x172.First x172.Price x172.Hours)).set (Int.toNat st127.2.1) (SRepair.mk x194.Name x194.Mends x203.2 x194.Price x194.Hours)).set (Int.toNat st127.2.1) (SRepair.mk x216.Name x216.Mends x216.First x203.1 x216.Hours)).length) c0'), (5, .int .i64 st127.2.1), (1, .int .i64 (wI64 (x203.1 + 1))), (41, .slice a0' (((((st127.2.2.set (Int.toNat st127.2.1) (SRepair.mk x146 x154.Mends x154.First x154.Price x154.Hours)).set (Int.toNat st127.2.1) (SRepair.mk x172.Name x181.2 x172.First x172.Price x172.Hours)).set (Int.toNat st127.2.1) (SRepair.mk x194.Name x194.Mends x203.2 x194.Price x194.Hours)).set (Int.toNat st127.2.1) (SRepair.mk x216.Name x216.Mends x216.First x203.1 x216.Hours)).length) c0'), (42, .int .i64 st127.2.1), (43, .int .i64 (wI64 (x203.1 + 1)))] (by kernel_rfl) ?_
  obtain ⟨x234, hx235, hm⟩ := bindE hm
  obtain ⟨a236, c237, a239, c240, hS242⟩ := elem_Repair (SH.front 0 hS230) hx235
  refine WL.st (.pointer (some (at_ a0' (Int.toNat st127.2.1 * 5)))) (ST.index (T := fRepair.ty) (xs := ((((st127.2.2.set (Int.toNat st127.2.1) (SRepair.mk x146 x154.Mends x154.First x154.Price x154.Hours)).set (Int.toNat st127.2.1) (SRepair.mk x172.Name x181.2 x172.First x172.Price x172.Hours)).set (Int.toNat st127.2.1) (SRepair.mk x194.Name x194.Mends x203.2 x194.Price x194.Hours)).set (Int.toNat st127.2.1) (SRepair.mk x216.Name x216.Mends x216.First x203.1 x216.Hours))) (SH.rdN (SH.front 0 hS230)) hx235 rfl rfl rfl Try.underlying24 (info73).1 (info73).2.1) rfl rfl rfl ?_
  refine WL.runk 1 [0, 1, 5, 43, 45] [(0, .slice a0' (((((st127.2.2.set (Int.toNat st127.2.1) (SRepair.mk x146 x154.Mends x154.First x154.Price x154.Hours)).set (Int.toNat st127.2.1) (SRepair.mk x172.Name x181.2 x172.First x172.Price x172.Hours)).set (Int.toNat st127.2.1) (SRepair.mk x194.Name x194.Mends x203.2 x194.Price x194.Hours)).set (Int.toNat st127.2.1) (SRepair.mk x216.Name x216.Mends x216.First x203.1 x216.Hours)).length) c0'), (5, .int .i64 st127.2.1), (1, .int .i64 (wI64 (x203.1 + 1))), (43, .int .i64 (wI64 (x203.1 + 1))), (45, .pointer (some (at_ a0' (Int.toNat st127.2.1 * 5 + 4))))] (by kernel_rfl) ?_
  refine WL.holeStore 4 [.int .i64 (wI64 (x203.1 + 1))] [.string (bs x234.Name), .slice a236 x234.Mends.length c237, .slice a239 x234.First.length c240, .int .i64 x234.Price, .int .i64 (wI64 (x203.1 + 1))] (SH.front 2 hS242) hL229 rfl rfl rfl rfl rfl rfl rfl (info2).1 (info2).2.1 rfl rfl rfl ?_
  intro w243 hB244 hS245
  have hb246 : Below B w w243 := Below.trans hb228 hB244
  have hL247 : B ≤ w243.heap.size := Nat.le_trans hL229 hB244.size
  refine WL.sub [(0, .slice a0' (((((st127.2.2.set (Int.toNat st127.2.1) (SRepair.mk x146 x154.Mends x154.First x154.Price x154.Hours)).set (Int.toNat st127.2.1) (SRepair.mk x172.Name x181.2 x172.First x172.Price x172.Hours)).set (Int.toNat st127.2.1) (SRepair.mk x194.Name x194.Mends x203.2 x194.Price x194.Hours)).set (Int.toNat st127.2.1) (SRepair.mk x216.Name x216.Mends x216.First x203.1 x216.Hours)).length) c0'), (5, .int .i64 st127.2.1), (1, .int .i64 (wI64 (x203.1 + 1)))] ⟨rfl, rfl, rfl, trivial⟩ ?_
  have hS248 : SH w243 B (aNest fRepair 73 2 a0' c0' (((((st127.2.2.set (Int.toNat st127.2.1) (SRepair.mk x146 x154.Mends x154.First x154.Price x154.Hours)).set (Int.toNat st127.2.1) (SRepair.mk x172.Name x181.2 x172.First x172.Price x172.Hours)).set (Int.toNat st127.2.1) (SRepair.mk x194.Name x194.Mends x203.2 x194.Price x194.Hours)).set (Int.toNat st127.2.1) (SRepair.mk x216.Name x216.Mends x216.First x203.1 x216.Hours)).set (Int.toNat st127.2.1) (SRepair.mk x234.Name x234.Mends x234.First x234.Price (wI64 (x203.1 + 1)))) :: L) := SH.elemBack (Ix := [aOwn fInt 2 a236 c237 x234.Mends, aOwn fInt 2 a239 c240 x234.First]) (x' := (SRepair.mk x234.Name x234.Mends x234.First x234.Price (wI64 (x203.1 + 1)))) (SH.front 2 (SH.front 2 hS245)) (.val (Fit.row' rfl (Fit.row' rfl (.val (.val .nil)))))
  refine WL.sub [(0, .slice a0' ((((((st127.2.2.set (Int.toNat st127.2.1) (SRepair.mk x146 x154.Mends x154.First x154.Price x154.Hours)).set (Int.toNat st127.2.1) (SRepair.mk x172.Name x181.2 x172.First x172.Price x172.Hours)).set (Int.toNat st127.2.1) (SRepair.mk x194.Name x194.Mends x203.2 x194.Price x194.Hours)).set (Int.toNat st127.2.1) (SRepair.mk x216.Name x216.Mends x216.First x203.1 x216.Hours)).set (Int.toNat st127.2.1) (SRepair.mk x234.Name x234.Mends x234.First x234.Price (wI64 (x203.1 + 1)))).length) c0'), (5, .int .i64 st127.2.1), (1, .int .i64 (wI64 (x203.1 + 1)))] ⟨by first | (simp only [List.length_set]; done) | (simp only [List.length_set]; rfl), rfl, rfl, trivial⟩ ?_
  have hn249 : (((((st127.2.2.set (Int.toNat st127.2.1) (SRepair.mk x146 x154.Mends x154.First x154.Price x154.Hours)).set (Int.toNat st127.2.1) (SRepair.mk x172.Name x181.2 x172.First x172.Price x172.Hours)).set (Int.toNat st127.2.1) (SRepair.mk x194.Name x194.Mends x203.2 x194.Price x194.Hours)).set (Int.toNat st127.2.1) (SRepair.mk x216.Name x216.Mends x216.First x203.1 x216.Hours)).set (Int.toNat st127.2.1) (SRepair.mk x234.Name x234.Mends x234.First x234.Price (wI64 (x203.1 + 1)))).length = a_0.length := List.length_set.trans hn231
  refine WL.nil ?_
  refine WQ.then_normal (hK233 _ _ _ ?_)
  refine WP.region ?_
  refine WL.runk 3 [0, 1, 5] [(0, .slice a0' ((((((st127.2.2.set (Int.toNat st127.2.1) (SRepair.mk x146 x154.Mends x154.First x154.Price x154.Hours)).set (Int.toNat st127.2.1) (SRepair.mk x172.Name x181.2 x172.First x172.Price x172.Hours)).set (Int.toNat st127.2.1) (SRepair.mk x194.Name x194.Mends x203.2 x194.Price x194.Hours)).set (Int.toNat st127.2.1) (SRepair.mk x216.Name x216.Mends x216.First x203.1 x216.Hours)).set (Int.toNat st127.2.1) (SRepair.mk x234.Name x234.Mends x234.First x234.Price (wI64 (x203.1 + 1)))).length) c0'), (5, .int .i64 st127.2.1), (1, .int .i64 (wI64 ((wI64 (x203.1 + 1)) + 1)))] (by kernel_rfl) ?_
  refine WL.nil ?_
  refine WQ.block_normal ?_
  refine WQ.then_normal (hK144 _ _ _ ?_)
  refine WP.region ?_
  refine WL.runk 3 [0, 1, 5] [(0, .slice a0' ((((((st127.2.2.set (Int.toNat st127.2.1) (SRepair.mk x146 x154.Mends x154.First x154.Price x154.Hours)).set (Int.toNat st127.2.1) (SRepair.mk x172.Name x181.2 x172.First x172.Price x172.Hours)).set (Int.toNat st127.2.1) (SRepair.mk x194.Name x194.Mends x203.2 x194.Price x194.Hours)).set (Int.toNat st127.2.1) (SRepair.mk x216.Name x216.Mends x216.First x203.1 x216.Hours)).set (Int.toNat st127.2.1) (SRepair.mk x234.Name x234.Mends x234.First x234.Price (wI64 (x203.1 + 1)))).length) c0'), (5, .int .i64 (wI64 (st127.2.1 + 1))), (1, .int .i64 (wI64 ((wI64 (x203.1 + 1)) + 1)))] (by kernel_rfl) ?_
  refine WL.nil ?_
  obtain rfl := Option.some.inj hm
  exact WQ.round hK134 ⟨((wI64 ((wI64 (x203.1 + 1)) + 1)), (wI64 (st127.2.1 + 1)), (((((st127.2.2.set (Int.toNat st127.2.1) (SRepair.mk x146 x154.Mends x154.First x154.Price x154.Hours)).set (Int.toNat st127.2.1) (SRepair.mk x172.Name x181.2 x172.First x172.Price x172.Hours)).set (Int.toNat st127.2.1) (SRepair.mk x194.Name x194.Mends x203.2 x194.Price x194.Hours)).set (Int.toNat st127.2.1) (SRepair.mk x216.Name x216.Mends x216.First x203.1 x216.Hours)).set (Int.toNat st127.2.1) (SRepair.mk x234.Name x234.Mends x234.First x234.Price (wI64 (x203.1 + 1))))), rfl, hb246, hL247, hS248, hn249, hl132⟩ (Nat.lt_succ_self _) ⟨rfl, rfl, rfl, trivial⟩

theorem c_44 (n : Nat) (a_0 : List Int) (a0' : Option Addr) (c0' : Nat) (k_1 : Int) (w : World) {r : Int} (hm : m_laws_heldInt64S n a_0 k_1 = some r) (h0 : Rd fInt.ty w a0' a_0) (_hle0 : a_0.length ≤ c0') :
    CallV Try.prog 44 #[.slice a0' a_0.length c0', .int .i64 k_1] w (fun v w' => v = .int .i64 r ∧ Ext w w') := by
  unfold m_laws_heldInt64S at hm
  refine CallV.enter Try.func44 rfl (by kernel_rfl) Try.ntmps44 (env := [(0, .slice a0' a_0.length c0'), (1, .int .i64 k_1)]) ⟨rfl, rfl, trivial⟩ ?_
  refine WP.seq (fun K1 hK1 => ?_)
  refine WP.region ?_
  refine WL.runk 1 [0, 1] [(0, .slice a0' a_0.length c0'), (1, .int .i64 k_1)] (by kernel_rfl) ?_
  refine WL.nil ?_
  refine WQ.then_normal (hK1 _ _ _ ?_)
  refine WP.seq (fun K2 hK2 => ?_)
  refine WP.seq (fun K3 hK3 => ?_)
  refine WP.region ?_
  refine WL.runk 1 [0, 1, 5] [(0, .slice a0' a_0.length c0'), (1, .int .i64 k_1), (5, .int .i64 0)] (by kernel_rfl) ?_
  refine WL.nil ?_
  refine WQ.then_normal (hK3 _ _ _ ?_)
  refine WP.block ?_
  obtain ⟨t15, ht16, hm⟩ := bindE hm
  have hmo10 := hm; clear hm
  refine WP.sub [(0, .slice a0' a_0.length c0'), (1, .int .i64 k_1), (5, .int .i64 0)] ⟨rfl, rfl, rfl, trivial⟩ ?_
  refine WP.loop (fun n' env' w' => ∃ (st4 : Int × Int) , env' = [(0, .slice a0' a_0.length c0'), (1, .int .i64 st4.1), (5, .int .i64 st4.2)] ∧ Ext w w' ∧ w.heap.size ≤ w'.heap.size ∧ SH w' w.heap.size [] ∧ loopN (m_laws_heldInt64S_l1 n a_0) n' st4 = some t15) n ⟨(k_1, 0), rfl, (Ext.refl w), (Nat.le_refl _), (SH.nil _ _), ht16⟩ ?_
  rintro n12 _ w5 ⟨st4, rfl, hb6, hL7, hS8, hl9⟩ K11 hK11
  obtain ⟨n13, s14, rfl, hm, hl9⟩ := loopN_some hl9
  unfold m_laws_heldInt64S_l1 at hm
  refine WP.seq (fun K17 hK17 => ?_)
  refine WP.seq (fun K18 hK18 => ?_)
  refine WP.region ?_
  refine WL.runk 4 [0, 1, 5, 9] [(0, .slice a0' a_0.length c0'), (1, .int .i64 st4.1), (5, .int .i64 st4.2), (9, .bool (decide (st4.2 < (a_0.length : Int))))] (by kernel_rfl) ?_
  refine WL.nil ?_
  refine WQ.then_normal (hK18 _ _ _ ?_)
  refine WP.cond (decide (st4.2 < (a_0.length : Int))) rfl rfl (fun hc19 => ?_) (fun hc19 => ?_)
  rotate_left
  · have hm := iteF hm hc19
    refine WP.exit ?_
    refine WQ.then_exit ?_
    refine WQ.then_exit ?_
    refine WQ.block_here ?_
    obtain rfl := Option.some.inj hm
    obtain rfl := afterN_done hl9
    have hm := hmo10
    refine WQ.then_normal (hK2 _ _ _ ?_)
    refine WP.seq (fun K27 hK27 => ?_)
    refine WP.region ?_
    refine WL.runk 2 [4] [(4, .int .i64 st4.1)] (by kernel_rfl) ?_
    refine WL.nil ?_
    refine WQ.then_normal (hK27 _ _ _ ?_)
    refine WP.ret ?_
    obtain rfl := Option.some.inj hm
    exact WQ.ret1 _ rfl rfl ⟨rfl, hb6⟩
  have hm := iteT hm hc19
  refine WP.skip ?_
  refine WQ.then_normal (hK17 _ _ _ ?_)
  refine WP.seq (fun K20 hK20 => ?_)
  refine WP.block ?_
  refine WP.seq (fun K21 hK21 => ?_)
  refine WP.seq (fun K22 hK22 => ?_)
  refine WP.region ?_
  refine WL.runk 2 [0, 1, 5, 12, 13] [(0, .slice a0' a_0.length c0'), (1, .int .i64 st4.1), (5, .int .i64 st4.2), (12, .slice a0' a_0.length c0'), (13, .int .i64 st4.2)] (by kernel_rfl) ?_
  obtain ⟨x23, hx24, hm⟩ := bindE hm
  refine WL.st (.pointer (some (at_ a0' (Int.toNat st4.2 * 1)))) (ST.index (T := fInt.ty) (xs := a_0) (Rd.below h0 hb6) hx24 rfl rfl rfl Try.underlying25 (info2).1 (info2).2.1) rfl rfl rfl ?_
  refine WL.st (.int .i64 x23) (ST.load (cell_ext (Rd.flat (F := fInt) (Rd.below h0 hb6) hx24 0 rfl)) rfl rfl Try.underlying2 rfl) rfl rfl rfl ?_
  refine WL.runk 2 [0, 1, 5, 17] [(0, .slice a0' a_0.length c0'), (1, .int .i64 st4.1), (5, .int .i64 st4.2), (17, .bool (x23 != st4.1))] (by kernel_rfl) ?_
  refine WL.nil ?_
  refine WQ.then_normal (hK22 _ _ _ ?_)
  refine WP.cond (x23 != st4.1) rfl rfl (fun hc25 => ?_) (fun hc25 => ?_)
  rotate_left
  · have hm := iteF hm hc25
    refine WP.skip ?_
    refine WQ.then_normal (hK21 _ _ _ ?_)
    refine WP.region ?_
    refine WL.runk 3 [0, 1, 5] [(0, .slice a0' a_0.length c0'), (1, .int .i64 (wI64 (st4.1 + 1))), (5, .int .i64 st4.2)] (by kernel_rfl) ?_
    refine WL.nil ?_
    refine WQ.block_normal ?_
    refine WQ.then_normal (hK20 _ _ _ ?_)
    refine WP.region ?_
    refine WL.runk 3 [0, 1, 5] [(0, .slice a0' a_0.length c0'), (1, .int .i64 (wI64 (st4.1 + 1))), (5, .int .i64 (wI64 (st4.2 + 1)))] (by kernel_rfl) ?_
    refine WL.nil ?_
    obtain rfl := Option.some.inj hm
    exact WQ.round hK11 ⟨((wI64 (st4.1 + 1)), (wI64 (st4.2 + 1))), rfl, hb6, hL7, hS8, hl9⟩ (Nat.lt_succ_self _) ⟨rfl, rfl, rfl, trivial⟩
  have hm := iteT hm hc25
  refine WP.seq (fun K26 hK26 => ?_)
  refine WP.region ?_
  refine WL.runk 1 [4] [(4, .int .i64 (-1))] (by kernel_rfl) ?_
  refine WL.nil ?_
  refine WQ.then_normal (hK26 _ _ _ ?_)
  refine WP.ret ?_
  refine WQ.then_ret ?_
  refine WQ.block_ret ?_
  refine WQ.then_ret ?_
  refine WQ.then_ret ?_
  refine WQ.block_ret ?_
  refine WQ.then_ret ?_
  obtain rfl := Option.some.inj hm
  obtain rfl := afterN_done hl9
  have hm := hmo10
  obtain rfl := Option.some.inj hm
  exact WQ.ret1 _ rfl rfl ⟨rfl, hb6⟩

theorem c_14 (n : Nat) (aList_0 : List SRepair) (a0' : Option Addr) (c0' : Nat) (aFaults_1 : List Int) (a1' : Option Addr) (c1' : Nat) (w : World) {r : Bool} (hm : m_laws_FnExactCheapestRepairs n aList_0 aFaults_1 = some r) (h0 : Rd fRepair.ty w a0' aList_0) (hle0 : aList_0.length ≤ c0') (h1 : Rd fInt.ty w a1' aFaults_1) (hle1 : aFaults_1.length ≤ c1') :
    CallV Try.prog 14 #[.slice a0' aList_0.length c0', .slice a1' aFaults_1.length c1'] w (fun v w' => v = .bool r ∧ Ext w w') := by
  unfold m_laws_FnExactCheapestRepairs at hm
  refine CallV.enter Try.func14 rfl (by kernel_rfl) Try.ntmps14 (env := [(0, .slice a0' aList_0.length c0'), (1, .slice a1' aFaults_1.length c1')]) ⟨rfl, rfl, trivial⟩ ?_
  refine WP.seq (fun K1 hK1 => ?_)
  refine WP.region ?_
  refine WL.runk 1 [0, 1] [(0, .slice a0' aList_0.length c0'), (1, .slice a1' aFaults_1.length c1')] (by kernel_rfl) ?_
  refine WL.nil ?_
  refine WQ.then_normal (hK1 _ _ _ ?_)
  refine WP.seq (fun K2 hK2 => ?_)
  refine WP.seq (fun K3 hK3 => ?_)
  refine WP.region ?_
  refine WL.runk 3 [0, 1, 19] [(0, .slice a0' aList_0.length c0'), (1, .slice a1' aFaults_1.length c1'), (19, .bool (decide ((aFaults_1.length : Int) > 1048576)))] (by kernel_rfl) ?_
  refine WL.nil ?_
  refine WQ.then_normal (hK3 _ _ _ ?_)
  refine WP.cond (decide ((aFaults_1.length : Int) > 1048576)) rfl rfl (fun hc4 => ?_) (fun hc4 => ?_)
  · have hm := iteT hm hc4
    refine WP.seq (fun K5 hK5 => ?_)
    refine WP.region ?_
    refine WL.runk 1 [4] [(4, .bool true)] (by kernel_rfl) ?_
    refine WL.nil ?_
    refine WQ.then_normal (hK5 _ _ _ ?_)
    refine WP.ret ?_
    refine WQ.then_ret ?_
    obtain rfl := Option.some.inj hm
    exact WQ.ret1 _ rfl rfl ⟨rfl, (Ext.refl w)⟩
  have hm := iteF hm hc4
  refine WP.skip ?_
  refine WQ.then_normal (hK2 _ _ _ ?_)
  refine WP.seq (fun K6 hK6 => ?_)
  refine WP.region ?_
  refine WL.runk 1 [0, 1, 5] [(0, .slice a0' aList_0.length c0'), (1, .slice a1' aFaults_1.length c1'), (5, .int .i64 1048576)] (by kernel_rfl) ?_
  refine WL.nil ?_
  refine WQ.then_normal (hK6 _ _ _ ?_)
  refine WP.seq (fun K7 hK7 => ?_)
  refine WP.region ?_
  refine WL.runk 2 [0, 1, 20, 21] [(0, .slice a0' aList_0.length c0'), (1, .slice a1' aFaults_1.length c1'), (20, .slice a0' aList_0.length c0'), (21, .int .i64 1048576)] (by kernel_rfl) ?_
  obtain ⟨x8, hx9, hm⟩ := bindE hm
  refine WL.call 28 #[.slice a0' aList_0.length c0', .int .i64 1048576] rfl rfl (by kernel_rfl) (c_28 n aList_0 a0' c0' 1048576 w hx9 (Rd.below h0 (Ext.refl w)) hle0) ?_
  rintro _ w10 ⟨rfl, hE11⟩
  refine ⟨_, rfl, ?_⟩
  have hb13 : Ext w w10 := Ext.trans (Ext.refl w) hE11
  have hL14 : w.heap.size ≤ w10.heap.size := Nat.le_trans (Nat.le_refl _) hE11.size
  have hS15 : SH w10 w.heap.size [] := SH.ext (SH.nil _ _) hE11
  refine WL.runk 1 [0, 1, 5] [(0, .slice a0' aList_0.length c0'), (1, .slice a1' aFaults_1.length c1'), (5, .int .i64 x8)] (by kernel_rfl) ?_
  refine WL.nil ?_
  refine WQ.then_normal (hK7 _ _ _ ?_)
  refine WP.seq (fun K16 hK16 => ?_)
  refine WP.seq (fun K17 hK17 => ?_)
  refine WP.region ?_
  refine WL.runk 2 [0, 1, 24] [(0, .slice a0' aList_0.length c0'), (1, .slice a1' aFaults_1.length c1'), (24, .bool (decide (x8 < 0)))] (by kernel_rfl) ?_
  refine WL.nil ?_
  refine WQ.then_normal (hK17 _ _ _ ?_)
  refine WP.cond (decide (x8 < 0)) rfl rfl (fun hc18 => ?_) (fun hc18 => ?_)
  · have hm := iteT hm hc18
    refine WP.seq (fun K19 hK19 => ?_)
    refine WP.region ?_
    refine WL.runk 1 [4] [(4, .bool true)] (by kernel_rfl) ?_
    refine WL.nil ?_
    refine WQ.then_normal (hK19 _ _ _ ?_)
    refine WP.ret ?_
    refine WQ.then_ret ?_
    obtain rfl := Option.some.inj hm
    exact WQ.ret1 _ rfl rfl ⟨rfl, hb13⟩
  have hm := iteF hm hc18
  refine WP.skip ?_
  refine WQ.then_normal (hK16 _ _ _ ?_)
  refine WP.seq (fun K20 hK20 => ?_)
  refine WP.region ?_
  refine WL.runk 1 [0, 1, 26] [(0, .slice a0' aList_0.length c0'), (1, .slice a1' aFaults_1.length c1'), (26, .slice a0' aList_0.length c0')] (by kernel_rfl) ?_
  obtain ⟨x21, hx22, hm⟩ := bindE hm
  refine WL.call 30 #[.slice a0' aList_0.length c0'] rfl rfl (by kernel_rfl) (c_30 n aList_0 a0' c0' w10 hx22 (Rd.below h0 hb13) hle0) ?_
  rintro _ w26 ⟨a23, c24, rfl, hE27, hR28⟩
  refine ⟨_, rfl, ?_⟩
  have hb29 : Ext w w26 := Ext.trans hb13 hE27
  have hL30 : w.heap.size ≤ w26.heap.size := Nat.le_trans hL14 hE27.size
  have hS31 : SH w26 w.heap.size [aNest fRepair 73 2 a23 c24 x21] := SH.add hS15 hE27 hL14 hR28
  refine WL.runk 1 [0, 1, 27, 28] [(0, .slice a0' aList_0.length c0'), (1, .slice a1' aFaults_1.length c1'), (27, .slice a23 x21.length c24), (28, .slice a1' aFaults_1.length c1')] (by kernel_rfl) ?_
  obtain ⟨x32, hx33, hm⟩ := bindE hm
  refine WL.call 36 #[.slice a1' aFaults_1.length c1'] rfl rfl (by kernel_rfl) (c_36 n aFaults_1 a1' c1' w26 hx33 (Rd.below h1 hb29) hle1) ?_
  rintro _ w37 ⟨a34, c35, rfl, hE38, hR39⟩
  refine ⟨_, rfl, ?_⟩
  have hb40 : Ext w w37 := Ext.trans hb29 hE38
  have hL41 : w.heap.size ≤ w37.heap.size := Nat.le_trans hL30 hE38.size
  have hS42 : SH w37 w.heap.size [aOwn fInt 2 a34 c35 x32, aNest fRepair 73 2 a23 c24 x21] := SH.add hS31 hE38 hL30 hR39
  obtain ⟨x43, hx44, hm⟩ := bindE hm
  refine WL.call 20 #[.slice a23 x21.length c24, .slice a34 x32.length c35] rfl rfl (by kernel_rfl) (c_20 n x21 a23 c24 x32 a34 c35 w37 hx44 (SH.rdN (SH.front 1 hS42)) (SH.leN (SH.front 1 hS42)).1 (SH.rd (SH.front 0 hS42)) (SH.le (SH.front 0 hS42)).1) ?_
  rintro _ w48 ⟨a45, c46, rfl, hE49, hR50⟩
  refine ⟨_, rfl, ?_⟩
  have hb51 : Ext w w48 := Ext.trans hb40 hE49
  have hL52 : w.heap.size ≤ w48.heap.size := Nat.le_trans hL41 hE49.size
  have hS53 : SH w48 w.heap.size [aOwn fInt 2 a45 c46 x43.1, aOwn fInt 2 a34 c35 x32, aNest fRepair 73 2 a23 c24 x21] := SH.add hS42 hE49 hL41 hR50
  refine WL.runk 5 [0, 1, 6, 7] [(0, .slice a0' aList_0.length c0'), (1, .slice a1' aFaults_1.length c1'), (6, .slice a45 x43.1.length c46), (7, .int .i64 x43.2)] (by kernel_rfl) ?_
  refine WL.nil ?_
  refine WQ.then_normal (hK20 _ _ _ ?_)
  refine WP.seq (fun K54 hK54 => ?_)
  refine WP.region ?_
  refine WL.runk 1 [0, 1, 6, 7, 33] [(0, .slice a0' aList_0.length c0'), (1, .slice a1' aFaults_1.length c1'), (6, .slice a45 x43.1.length c46), (7, .int .i64 x43.2), (33, .slice a0' aList_0.length c0')] (by kernel_rfl) ?_
  obtain ⟨x55, hx56, hm⟩ := bindE hm
  refine WL.call 30 #[.slice a0' aList_0.length c0'] rfl rfl (by kernel_rfl) (c_30 n aList_0 a0' c0' w48 hx56 (Rd.below h0 hb51) hle0) ?_
  rintro _ w60 ⟨a57, c58, rfl, hE61, hR62⟩
  refine ⟨_, rfl, ?_⟩
  have hb63 : Ext w w60 := Ext.trans hb51 hE61
  have hL64 : w.heap.size ≤ w60.heap.size := Nat.le_trans hL52 hE61.size
  have hS65 : SH w60 w.heap.size [aNest fRepair 73 2 a57 c58 x55, aOwn fInt 2 a45 c46 x43.1, aOwn fInt 2 a34 c35 x32, aNest fRepair 73 2 a23 c24 x21] := SH.add hS53 hE61 hL52 hR62
  refine WL.runk 1 [0, 1, 6, 7, 8] [(0, .slice a0' aList_0.length c0'), (1, .slice a1' aFaults_1.length c1'), (6, .slice a45 x43.1.length c46), (7, .int .i64 x43.2), (8, .slice a57 x55.length c58)] (by kernel_rfl) ?_
  refine WL.nil ?_
  refine WQ.then_normal (hK54 _ _ _ ?_)
  refine WP.seq (fun K66 hK66 => ?_)
  refine WP.region ?_
  refine WL.runk 1 [0, 1, 6, 7, 8, 35] [(0, .slice a0' aList_0.length c0'), (1, .slice a1' aFaults_1.length c1'), (6, .slice a45 x43.1.length c46), (7, .int .i64 x43.2), (8, .slice a57 x55.length c58), (35, .slice a1' aFaults_1.length c1')] (by kernel_rfl) ?_
  obtain ⟨x67, hx68, hm⟩ := bindE hm
  refine WL.call 36 #[.slice a1' aFaults_1.length c1'] rfl rfl (by kernel_rfl) (c_36 n aFaults_1 a1' c1' w60 hx68 (Rd.below h1 hb63) hle1) ?_
  rintro _ w72 ⟨a69, c70, rfl, hE73, hR74⟩
  refine ⟨_, rfl, ?_⟩
  have hb75 : Ext w w72 := Ext.trans hb63 hE73
  have hL76 : w.heap.size ≤ w72.heap.size := Nat.le_trans hL64 hE73.size
  have hS77 : SH w72 w.heap.size [aOwn fInt 2 a69 c70 x67, aNest fRepair 73 2 a57 c58 x55, aOwn fInt 2 a45 c46 x43.1, aOwn fInt 2 a34 c35 x32, aNest fRepair 73 2 a23 c24 x21] := SH.add hS65 hE73 hL64 hR74
  refine WL.runk 1 [0, 1, 6, 7, 8, 9] [(0, .slice a0' aList_0.length c0'), (1, .slice a1' aFaults_1.length c1'), (6, .slice a45 x43.1.length c46), (7, .int .i64 x43.2), (8, .slice a57 x55.length c58), (9, .slice a69 x67.length c70)] (by kernel_rfl) ?_
  refine WL.nil ?_
  refine WQ.then_normal (hK66 _ _ _ ?_)
  refine WP.seq (fun K78 hK78 => ?_)
  refine WP.region ?_
  refine WL.runk 2 [0, 1, 6, 7, 8, 9, 38, 39] [(0, .slice a0' aList_0.length c0'), (1, .slice a1' aFaults_1.length c1'), (6, .slice a45 x43.1.length c46), (7, .int .i64 x43.2), (8, .slice a57 x55.length c58), (9, .slice a69 x67.length c70), (38, .slice a57 x55.length c58), (39, .slice a69 x67.length c70)] (by kernel_rfl) ?_
  obtain ⟨x79, hx80, hm⟩ := bindE hm
  refine WL.call 19 #[.slice a57 x55.length c58, .slice a69 x67.length c70] rfl rfl (by kernel_rfl) (c_19 n x55 a57 c58 x67 a69 c70 w72 hx80 (SH.rdN (SH.front 1 hS77)) (SH.leN (SH.front 1 hS77)).1 (SH.rd (SH.front 0 hS77)) (SH.le (SH.front 0 hS77)).1) ?_
  rintro _ w84 ⟨a81, c82, rfl, hE85, hR86⟩
  refine ⟨_, rfl, ?_⟩
  have hb87 : Ext w w84 := Ext.trans hb75 hE85
  have hL88 : w.heap.size ≤ w84.heap.size := Nat.le_trans hL76 hE85.size
  have hS89 : SH w84 w.heap.size [aOwn fInt 2 a81 c82 x79.1, aOwn fInt 2 a69 c70 x67, aNest fRepair 73 2 a57 c58 x55, aOwn fInt 2 a45 c46 x43.1, aOwn fInt 2 a34 c35 x32, aNest fRepair 73 2 a23 c24 x21] := SH.add hS77 hE85 hL76 hR86
  refine WL.runk 5 [0, 1, 6, 7, 8, 9, 10, 11] [(0, .slice a0' aList_0.length c0'), (1, .slice a1' aFaults_1.length c1'), (6, .slice a45 x43.1.length c46), (7, .int .i64 x43.2), (8, .slice a57 x55.length c58), (9, .slice a69 x67.length c70), (10, .slice a81 x79.1.length c82), (11, .int .i64 x79.2)] (by kernel_rfl) ?_
  refine WL.nil ?_
  refine WQ.then_normal (hK78 _ _ _ ?_)
  refine WP.seq (fun K90 hK90 => ?_)
  refine WP.seq (fun K91 hK91 => ?_)
  obtain ⟨x101, hx102, hm⟩ := bindE hm
  refine WP.cut (fun env' w' => env' = [(0, .slice a0' aList_0.length c0'), (1, .slice a1' aFaults_1.length c1'), (6, .slice a45 x43.1.length c46), (7, .int .i64 x43.2), (8, .slice a57 x55.length c58), (9, .slice a69 x67.length c70), (10, .slice a81 x79.1.length c82), (11, .int .i64 x79.2), (51, .bool x101)] ∧ Ext w w' ∧ w.heap.size ≤ w'.heap.size ∧ SH w' w.heap.size [aOwn fInt 2 a81 c82 x79.1, aOwn fInt 2 a69 c70 x67, aNest fRepair 73 2 a57 c58 x55, aOwn fInt 2 a45 c46 x43.1]) ?_ ?_
  · have hm := hx102; clear hx102
    refine WP.region ?_
    refine WL.runk 2 [0, 1, 6, 7, 8, 9, 10, 11, 43, 44] [(0, .slice a0' aList_0.length c0'), (1, .slice a1' aFaults_1.length c1'), (6, .slice a45 x43.1.length c46), (7, .int .i64 x43.2), (8, .slice a57 x55.length c58), (9, .slice a69 x67.length c70), (10, .slice a81 x79.1.length c82), (11, .int .i64 x79.2), (43, .slice a81 x79.1.length c82), (44, .slice a45 x43.1.length c46)] (by kernel_rfl) ?_
    obtain ⟨x103, hx104, hm⟩ := bindE hm
    refine WL.call 38 #[.slice a81 x79.1.length c82, .slice a45 x43.1.length c46] rfl rfl (by kernel_rfl) (c_38 n x79.1 a81 c82 x43.1 a45 c46 w84 hx104 (SH.rd (SH.front 0 hS89)) (SH.le (SH.front 0 hS89)).1 (SH.rd (SH.front 3 hS89)) (SH.le (SH.front 3 hS89)).1) ?_
    rintro _ w105 ⟨rfl, hE106⟩
    refine ⟨_, rfl, ?_⟩
    have hb108 : Ext w w105 := Ext.trans hb87 hE106
    have hL109 : w.heap.size ≤ w105.heap.size := Nat.le_trans hL88 hE106.size
    have hS110 : SH w105 w.heap.size [aOwn fInt 2 a81 c82 x79.1, aOwn fInt 2 a69 c70 x67, aNest fRepair 73 2 a57 c58 x55, aOwn fInt 2 a45 c46 x43.1, aOwn fInt 2 a34 c35 x32, aNest fRepair 73 2 a23 c24 x21] := SH.ext hS89 hE106
    refine WL.runk 2 [0, 1, 6, 7, 8, 9, 10, 11, 47] [(0, .slice a0' aList_0.length c0'), (1, .slice a1' aFaults_1.length c1'), (6, .slice a45 x43.1.length c46), (7, .int .i64 x43.2), (8, .slice a57 x55.length c58), (9, .slice a69 x67.length c70), (10, .slice a81 x79.1.length c82), (11, .int .i64 x79.2), (47, .bool (!x103))] (by kernel_rfl) ?_
    refine WL.case (!x103) [47] ⟨rfl, trivial⟩ (fun hc111 => ?_) (fun hc111 => ?_)
    · have hm := iteT hm hc111
      refine WL.runk 4 [0, 1, 6, 7, 8, 9, 10, 11, 51] [(0, .slice a0' aList_0.length c0'), (1, .slice a1' aFaults_1.length c1'), (6, .slice a45 x43.1.length c46), (7, .int .i64 x43.2), (8, .slice a57 x55.length c58), (9, .slice a69 x67.length c70), (10, .slice a81 x79.1.length c82), (11, .int .i64 x79.2), (51, .bool true)] (by kernel_rfl) ?_
      refine WL.nil ?_
      obtain rfl := Option.some.inj hm
      exact WQ.post' ⟨rfl, hb108, hL109, (SH.take 4 (SH.front 3 (SH.front 3 (SH.front 3 (SH.front 3 hS110)))))⟩ ⟨rfl, rfl, rfl, rfl, rfl, rfl, rfl, rfl, rfl, trivial⟩
    have hm := iteF hm hc111
    refine WL.runk 4 [0, 1, 6, 7, 8, 9, 10, 11, 51] [(0, .slice a0' aList_0.length c0'), (1, .slice a1' aFaults_1.length c1'), (6, .slice a45 x43.1.length c46), (7, .int .i64 x43.2), (8, .slice a57 x55.length c58), (9, .slice a69 x67.length c70), (10, .slice a81 x79.1.length c82), (11, .int .i64 x79.2), (51, .bool (x79.2 != x43.2))] (by kernel_rfl) ?_
    refine WL.nil ?_
    obtain rfl := Option.some.inj hm
    exact WQ.post' ⟨rfl, hb108, hL109, (SH.take 4 (SH.front 3 (SH.front 3 (SH.front 3 (SH.front 3 hS110)))))⟩ ⟨rfl, rfl, rfl, rfl, rfl, rfl, rfl, rfl, rfl, trivial⟩
  clear hx102
  rintro _ w112 ⟨rfl, hb113, hL114, hS115⟩
  refine WQ.then_normal (hK91 _ _ _ ?_)
  refine WP.cond x101 rfl rfl (fun hc116 => ?_) (fun hc116 => ?_)
  · have hm := iteT hm hc116
    refine WP.seq (fun K117 hK117 => ?_)
    refine WP.region ?_
    refine WL.runk 1 [4] [(4, .bool false)] (by kernel_rfl) ?_
    refine WL.nil ?_
    refine WQ.then_normal (hK117 _ _ _ ?_)
    refine WP.ret ?_
    refine WQ.then_ret ?_
    obtain rfl := Option.some.inj hm
    exact WQ.ret1 _ rfl rfl ⟨rfl, hb113⟩
  have hm := iteF hm hc116
  refine WP.skip ?_
  refine WQ.then_normal (hK90 _ _ _ ?_)
  refine WP.seq (fun K118 hK118 => ?_)
  refine WP.seq (fun K119 hK119 => ?_)
  refine WP.region ?_
  refine WL.runk 2 [0, 1, 6, 7, 8, 9, 10, 11, 52, 53] [(0, .slice a0' aList_0.length c0'), (1, .slice a1' aFaults_1.length c1'), (6, .slice a45 x43.1.length c46), (7, .int .i64 x43.2), (8, .slice a57 x55.length c58), (9, .slice a69 x67.length c70), (10, .slice a81 x79.1.length c82), (11, .int .i64 x79.2), (52, .slice a57 x55.length c58), (53, .slice a0' aList_0.length c0')] (by kernel_rfl) ?_
  obtain ⟨x120, hx121, hm⟩ := bindE hm
  refine WL.call 30 #[.slice a0' aList_0.length c0'] rfl rfl (by kernel_rfl) (c_30 n aList_0 a0' c0' w112 hx121 (Rd.below h0 hb113) hle0) ?_
  rintro _ w125 ⟨a122, c123, rfl, hE126, hR127⟩
  refine ⟨_, rfl, ?_⟩
  have hb128 : Ext w w125 := Ext.trans hb113 hE126
  have hL129 : w.heap.size ≤ w125.heap.size := Nat.le_trans hL114 hE126.size
  have hS130 : SH w125 w.heap.size [aNest fRepair 73 2 a122 c123 x120, aOwn fInt 2 a81 c82 x79.1, aOwn fInt 2 a69 c70 x67, aNest fRepair 73 2 a57 c58 x55, aOwn fInt 2 a45 c46 x43.1] := SH.add hS115 hE126 hL114 hR127
  obtain ⟨x131, hx132, hm⟩ := bindE hm
  refine WL.call 32 #[.slice a57 x55.length c58, .slice a122 x120.length c123] rfl rfl (by kernel_rfl) (c_32 n x55 a57 c58 x120 a122 c123 w125 hx132 (SH.rdN (SH.front 3 hS130)) (SH.leN (SH.front 3 hS130)).1 (SH.rdN (SH.front 0 hS130)) (SH.leN (SH.front 0 hS130)).1) ?_
  rintro _ w133 ⟨rfl, hE134⟩
  refine ⟨_, rfl, ?_⟩
  have hb136 : Ext w w133 := Ext.trans hb128 hE134
  have hL137 : w.heap.size ≤ w133.heap.size := Nat.le_trans hL129 hE134.size
  have hS138 : SH w133 w.heap.size [aNest fRepair 73 2 a122 c123 x120, aOwn fInt 2 a81 c82 x79.1, aOwn fInt 2 a69 c70 x67, aNest fRepair 73 2 a57 c58 x55, aOwn fInt 2 a45 c46 x43.1] := SH.ext hS130 hE134
  refine WL.runk 1 [0, 1, 6, 7, 8, 9, 10, 11, 56] [(0, .slice a0' aList_0.length c0'), (1, .slice a1' aFaults_1.length c1'), (6, .slice a45 x43.1.length c46), (7, .int .i64 x43.2), (8, .slice a57 x55.length c58), (9, .slice a69 x67.length c70), (10, .slice a81 x79.1.length c82), (11, .int .i64 x79.2), (56, .bool (!x131))] (by kernel_rfl) ?_
  refine WL.nil ?_
  refine WQ.then_normal (hK119 _ _ _ ?_)
  refine WP.cond (!x131) rfl rfl (fun hc139 => ?_) (fun hc139 => ?_)
  · have hm := iteT hm hc139
    refine WP.seq (fun K140 hK140 => ?_)
    refine WP.region ?_
    refine WL.runk 1 [4] [(4, .bool false)] (by kernel_rfl) ?_
    refine WL.nil ?_
    refine WQ.then_normal (hK140 _ _ _ ?_)
    refine WP.ret ?_
    refine WQ.then_ret ?_
    obtain rfl := Option.some.inj hm
    exact WQ.ret1 _ rfl rfl ⟨rfl, hb136⟩
  have hm := iteF hm hc139
  refine WP.skip ?_
  refine WQ.then_normal (hK118 _ _ _ ?_)
  refine WP.seq (fun K141 hK141 => ?_)
  refine WP.seq (fun K142 hK142 => ?_)
  refine WP.region ?_
  refine WL.runk 2 [0, 1, 6, 7, 8, 9, 10, 11, 57, 58] [(0, .slice a0' aList_0.length c0'), (1, .slice a1' aFaults_1.length c1'), (6, .slice a45 x43.1.length c46), (7, .int .i64 x43.2), (8, .slice a57 x55.length c58), (9, .slice a69 x67.length c70), (10, .slice a81 x79.1.length c82), (11, .int .i64 x79.2), (57, .slice a69 x67.length c70), (58, .slice a1' aFaults_1.length c1')] (by kernel_rfl) ?_
  obtain ⟨x143, hx144, hm⟩ := bindE hm
  refine WL.call 36 #[.slice a1' aFaults_1.length c1'] rfl rfl (by kernel_rfl) (c_36 n aFaults_1 a1' c1' w133 hx144 (Rd.below h1 hb136) hle1) ?_
  rintro _ w148 ⟨a145, c146, rfl, hE149, hR150⟩
  refine ⟨_, rfl, ?_⟩
  have hb151 : Ext w w148 := Ext.trans hb136 hE149
  have hL152 : w.heap.size ≤ w148.heap.size := Nat.le_trans hL137 hE149.size
  have hS153 : SH w148 w.heap.size [aOwn fInt 2 a145 c146 x143, aNest fRepair 73 2 a122 c123 x120, aOwn fInt 2 a81 c82 x79.1, aOwn fInt 2 a69 c70 x67, aNest fRepair 73 2 a57 c58 x55, aOwn fInt 2 a45 c46 x43.1] := SH.add hS138 hE149 hL137 hR150
  obtain ⟨x154, hx155, hm⟩ := bindE hm
  refine WL.call 38 #[.slice a69 x67.length c70, .slice a145 x143.length c146] rfl rfl (by kernel_rfl) (c_38 n x67 a69 c70 x143 a145 c146 w148 hx155 (SH.rd (SH.front 3 hS153)) (SH.le (SH.front 3 hS153)).1 (SH.rd (SH.front 0 hS153)) (SH.le (SH.front 0 hS153)).1) ?_
  rintro _ w156 ⟨rfl, hE157⟩
  refine ⟨_, rfl, ?_⟩
  have hb159 : Ext w w156 := Ext.trans hb151 hE157
  have hL160 : w.heap.size ≤ w156.heap.size := Nat.le_trans hL152 hE157.size
  have hS161 : SH w156 w.heap.size [aOwn fInt 2 a145 c146 x143, aNest fRepair 73 2 a122 c123 x120, aOwn fInt 2 a81 c82 x79.1, aOwn fInt 2 a69 c70 x67, aNest fRepair 73 2 a57 c58 x55, aOwn fInt 2 a45 c46 x43.1] := SH.ext hS153 hE157
  refine WL.runk 1 [0, 1, 6, 7, 8, 9, 10, 11, 61] [(0, .slice a0' aList_0.length c0'), (1, .slice a1' aFaults_1.length c1'), (6, .slice a45 x43.1.length c46), (7, .int .i64 x43.2), (8, .slice a57 x55.length c58), (9, .slice a69 x67.length c70), (10, .slice a81 x79.1.length c82), (11, .int .i64 x79.2), (61, .bool (!x154))] (by kernel_rfl) ?_
  refine WL.nil ?_
  refine WQ.then_normal (hK142 _ _ _ ?_)
  refine WP.cond (!x154) rfl rfl (fun hc162 => ?_) (fun hc162 => ?_)
  · have hm := iteT hm hc162
    refine WP.seq (fun K163 hK163 => ?_)
    refine WP.region ?_
    refine WL.runk 1 [4] [(4, .bool false)] (by kernel_rfl) ?_
    refine WL.nil ?_
    refine WQ.then_normal (hK163 _ _ _ ?_)
    refine WP.ret ?_
    refine WQ.then_ret ?_
    obtain rfl := Option.some.inj hm
    exact WQ.ret1 _ rfl rfl ⟨rfl, hb159⟩
  have hm := iteF hm hc162
  refine WP.skip ?_
  refine WQ.then_normal (hK141 _ _ _ ?_)
  refine WP.seq (fun K164 hK164 => ?_)
  refine WP.region ?_
  refine WL.runk 1 [0, 1, 6, 7, 8, 9, 10, 11, 12] [(0, .slice a0' aList_0.length c0'), (1, .slice a1' aFaults_1.length c1'), (6, .slice a45 x43.1.length c46), (7, .int .i64 x43.2), (8, .slice a57 x55.length c58), (9, .slice a69 x67.length c70), (10, .slice a81 x79.1.length c82), (11, .int .i64 x79.2), (12, .int .i64 1)] (by kernel_rfl) ?_
  refine WL.nil ?_
  refine WQ.then_normal (hK164 _ _ _ ?_)
  refine WP.seq (fun K165 hK165 => ?_)
  refine WP.region ?_
  refine WL.runk 2 [0, 1, 6, 7, 9, 10, 11, 62, 63] [(0, .slice a0' aList_0.length c0'), (1, .slice a1' aFaults_1.length c1'), (6, .slice a45 x43.1.length c46), (7, .int .i64 x43.2), (9, .slice a69 x67.length c70), (10, .slice a81 x79.1.length c82), (11, .int .i64 x79.2), (62, .slice a57 x55.length c58), (63, .int .i64 1)] (by kernel_rfl) ?_
  obtain ⟨x166, hx167, hm⟩ := bindE hm
  refine WL.call 42 #[.slice a57 x55.length c58, .int .i64 1] rfl rfl (by kernel_rfl) (c_42 n x55 a57 c58 1 w156 w w.heap.size [aOwn fInt 2 a145 c146 x143, aNest fRepair 73 2 a122 c123 x120, aOwn fInt 2 a81 c82 x79.1, aOwn fInt 2 a69 c70 x67, aOwn fInt 2 a45 c46 x43.1] hx167 hb159 (Nat.le_refl _) hL160  (SH.front 5 (SH.front 4 (SH.front 4 (SH.front 4 (SH.front 4 (SH.front 5 hS161))))))) ?_
  rintro _ w168 ⟨rfl, hB172, hS171, hlen173⟩
  refine ⟨_, rfl, ?_⟩
  have hb174 : Ext w w168 := Below.trans hb159 hB172
  have hL175 : w.heap.size ≤ w168.heap.size := Nat.le_trans hL160 hB172.size
  refine WL.sub [(0, .slice a0' aList_0.length c0'), (1, .slice a1' aFaults_1.length c1'), (6, .slice a45 x43.1.length c46), (7, .int .i64 x43.2), (9, .slice a69 x67.length c70), (10, .slice a81 x79.1.length c82), (11, .int .i64 x79.2), (62, .slice a57 x166.2.length c58), (63, .int .i64 1), (64, .int .i64 x166.1)] ⟨rfl, rfl, rfl, rfl, rfl, rfl, rfl, by rw [hlen173]; rfl, rfl, rfl, trivial⟩ ?_
  refine WL.runk 1 [0, 1, 6, 7, 9, 10, 11, 12] [(0, .slice a0' aList_0.length c0'), (1, .slice a1' aFaults_1.length c1'), (6, .slice a45 x43.1.length c46), (7, .int .i64 x43.2), (9, .slice a69 x67.length c70), (10, .slice a81 x79.1.length c82), (11, .int .i64 x79.2), (12, .int .i64 x166.1)] (by kernel_rfl) ?_
  refine WL.nil ?_
  refine WQ.then_normal (hK165 _ _ _ ?_)
  refine WP.seq (fun K176 hK176 => ?_)
  refine WP.region ?_
  refine WL.runk 2 [0, 1, 6, 7, 10, 11, 65, 66] [(0, .slice a0' aList_0.length c0'), (1, .slice a1' aFaults_1.length c1'), (6, .slice a45 x43.1.length c46), (7, .int .i64 x43.2), (10, .slice a81 x79.1.length c82), (11, .int .i64 x79.2), (65, .slice a69 x67.length c70), (66, .int .i64 x166.1)] (by kernel_rfl) ?_
  obtain ⟨x177, hx178, hm⟩ := bindE hm
  refine WL.call 43 #[.slice a69 x67.length c70, .int .i64 x166.1] rfl rfl (by kernel_rfl) (c_43 n x67 a69 c70 x166.1 w168 w w.heap.size [aNest fRepair 73 2 a57 c58 x166.2, aOwn fInt 2 a145 c146 x143, aNest fRepair 73 2 a122 c123 x120, aOwn fInt 2 a81 c82 x79.1, aOwn fInt 2 a45 c46 x43.1] hx178 hb174 (Nat.le_refl _) hL175  (SH.front 5 (SH.front 4 (SH.front 4 (SH.front 4 (SH.front 4 (SH.front 5 hS171))))))) ?_
  rintro _ w179 ⟨rfl, hB183, hS182, hlen184⟩
  refine ⟨_, rfl, ?_⟩
  have hb185 : Ext w w179 := Below.trans hb174 hB183
  have hL186 : w.heap.size ≤ w179.heap.size := Nat.le_trans hL175 hB183.size
  refine WL.sub [(0, .slice a0' aList_0.length c0'), (1, .slice a1' aFaults_1.length c1'), (6, .slice a45 x43.1.length c46), (7, .int .i64 x43.2), (10, .slice a81 x79.1.length c82), (11, .int .i64 x79.2), (65, .slice a69 x177.2.length c70), (66, .int .i64 x166.1), (67, .int .i64 x177.1)] ⟨rfl, rfl, rfl, rfl, rfl, rfl, by rw [hlen184]; rfl, rfl, rfl, trivial⟩ ?_
  refine WL.runk 1 [0, 1, 6, 7, 10, 11, 12] [(0, .slice a0' aList_0.length c0'), (1, .slice a1' aFaults_1.length c1'), (6, .slice a45 x43.1.length c46), (7, .int .i64 x43.2), (10, .slice a81 x79.1.length c82), (11, .int .i64 x79.2), (12, .int .i64 x177.1)] (by kernel_rfl) ?_
  refine WL.nil ?_
  refine WQ.then_normal (hK176 _ _ _ ?_)
  refine WP.seq (fun K187 hK187 => ?_)
  refine WP.seq (fun K188 hK188 => ?_)
  obtain ⟨x199, hx200, hm⟩ := bindE hm
  refine WP.cut (fun env' w' => env' = [(0, .slice a0' aList_0.length c0'), (1, .slice a1' aFaults_1.length c1'), (6, .slice a45 x43.1.length c46), (7, .int .i64 x43.2), (10, .slice a81 x79.1.length c82), (80, .bool x199)] ∧ Ext w w' ∧ w.heap.size ≤ w'.heap.size ∧ SH w' w.heap.size [aOwn fInt 2 a81 c82 x79.1, aOwn fInt 2 a45 c46 x43.1]) ?_ ?_
  · have hm := hx200; clear hx200
    refine WP.region ?_
    refine WL.runk 3 [0, 1, 6, 7, 10, 11, 70] [(0, .slice a0' aList_0.length c0'), (1, .slice a1' aFaults_1.length c1'), (6, .slice a45 x43.1.length c46), (7, .int .i64 x43.2), (10, .slice a81 x79.1.length c82), (11, .int .i64 x79.2), (70, .bool (decide (x177.1 < 0)))] (by kernel_rfl) ?_
    refine WL.case (decide (x177.1 < 0)) [70] ⟨rfl, trivial⟩ (fun hc201 => ?_) (fun hc201 => ?_)
    · have hm := iteT hm hc201
      refine WL.runk 10 [0, 1, 6, 7, 10, 80] [(0, .slice a0' aList_0.length c0'), (1, .slice a1' aFaults_1.length c1'), (6, .slice a45 x43.1.length c46), (7, .int .i64 x43.2), (10, .slice a81 x79.1.length c82), (80, .bool true)] (by kernel_rfl) ?_
      refine WL.nil ?_
      obtain rfl := Option.some.inj hm
      exact WQ.post' ⟨rfl, hb185, hL186, (SH.take 2 (SH.front 5 (SH.front 5 hS182)))⟩ ⟨rfl, rfl, rfl, rfl, rfl, rfl, trivial⟩
    have hm := iteF hm hc201
    refine WL.runk 2 [0, 1, 6, 7, 10, 11, 70, 71, 72] [(0, .slice a0' aList_0.length c0'), (1, .slice a1' aFaults_1.length c1'), (6, .slice a45 x43.1.length c46), (7, .int .i64 x43.2), (10, .slice a81 x79.1.length c82), (11, .int .i64 x79.2), (70, .bool false), (71, .slice a81 x79.1.length c82), (72, .slice a45 x43.1.length c46)] (by kernel_rfl) ?_
    obtain ⟨x202, hx203, hm⟩ := bindE hm
    refine WL.call 38 #[.slice a81 x79.1.length c82, .slice a45 x43.1.length c46] rfl rfl (by kernel_rfl) (c_38 n x79.1 a81 c82 x43.1 a45 c46 w179 hx203 (SH.rd (SH.front 4 hS182)) (SH.le (SH.front 4 hS182)).1 (SH.rd (SH.front 5 hS182)) (SH.le (SH.front 5 hS182)).1) ?_
    rintro _ w204 ⟨rfl, hE205⟩
    refine ⟨_, rfl, ?_⟩
    have hb207 : Ext w w204 := Ext.trans hb185 hE205
    have hL208 : w.heap.size ≤ w204.heap.size := Nat.le_trans hL186 hE205.size
    have hS209 : SH w204 w.heap.size [aOwn fInt 2 a69 c70 x177.2, aNest fRepair 73 2 a57 c58 x166.2, aOwn fInt 2 a145 c146 x143, aNest fRepair 73 2 a122 c123 x120, aOwn fInt 2 a81 c82 x79.1, aOwn fInt 2 a45 c46 x43.1] := SH.ext hS182 hE205
    refine WL.runk 3 [0, 1, 6, 7, 10, 11, 76] [(0, .slice a0' aList_0.length c0'), (1, .slice a1' aFaults_1.length c1'), (6, .slice a45 x43.1.length c46), (7, .int .i64 x43.2), (10, .slice a81 x79.1.length c82), (11, .int .i64 x79.2), (76, .bool (!x202))] (by kernel_rfl) ?_
    refine WL.case (!x202) [76] ⟨rfl, trivial⟩ (fun hc210 => ?_) (fun hc210 => ?_)
    · have hm := iteT hm hc210
      refine WL.runk 4 [0, 1, 6, 7, 10, 80] [(0, .slice a0' aList_0.length c0'), (1, .slice a1' aFaults_1.length c1'), (6, .slice a45 x43.1.length c46), (7, .int .i64 x43.2), (10, .slice a81 x79.1.length c82), (80, .bool true)] (by kernel_rfl) ?_
      refine WL.nil ?_
      obtain rfl := Option.some.inj hm
      exact WQ.post' ⟨rfl, hb207, hL208, (SH.take 2 (SH.front 5 (SH.front 5 hS209)))⟩ ⟨rfl, rfl, rfl, rfl, rfl, rfl, trivial⟩
    have hm := iteF hm hc210
    refine WL.runk 4 [0, 1, 6, 7, 10, 80] [(0, .slice a0' aList_0.length c0'), (1, .slice a1' aFaults_1.length c1'), (6, .slice a45 x43.1.length c46), (7, .int .i64 x43.2), (10, .slice a81 x79.1.length c82), (80, .bool (x79.2 != x43.2))] (by kernel_rfl) ?_
    refine WL.nil ?_
    obtain rfl := Option.some.inj hm
    exact WQ.post' ⟨rfl, hb207, hL208, (SH.take 2 (SH.front 5 (SH.front 5 hS209)))⟩ ⟨rfl, rfl, rfl, rfl, rfl, rfl, trivial⟩
  clear hx200
  rintro _ w211 ⟨rfl, hb212, hL213, hS214⟩
  refine WQ.then_normal (hK188 _ _ _ ?_)
  refine WP.cond x199 rfl rfl (fun hc215 => ?_) (fun hc215 => ?_)
  · have hm := iteT hm hc215
    refine WP.seq (fun K216 hK216 => ?_)
    refine WP.region ?_
    refine WL.runk 1 [4] [(4, .bool false)] (by kernel_rfl) ?_
    refine WL.nil ?_
    refine WQ.then_normal (hK216 _ _ _ ?_)
    refine WP.ret ?_
    refine WQ.then_ret ?_
    obtain rfl := Option.some.inj hm
    exact WQ.ret1 _ rfl rfl ⟨rfl, hb212⟩
  have hm := iteF hm hc215
  refine WP.skip ?_
  refine WQ.then_normal (hK187 _ _ _ ?_)
  refine WP.seq (fun K217 hK217 => ?_)
  refine WP.region ?_
  refine WL.runk 1 [0, 1, 6, 7, 10, 13] [(0, .slice a0' aList_0.length c0'), (1, .slice a1' aFaults_1.length c1'), (6, .slice a45 x43.1.length c46), (7, .int .i64 x43.2), (10, .slice a81 x79.1.length c82), (13, .int .i64 1)] (by kernel_rfl) ?_
  refine WL.nil ?_
  refine WQ.then_normal (hK217 _ _ _ ?_)
  refine WP.seq (fun K218 hK218 => ?_)
  refine WP.region ?_
  refine WL.runk 2 [0, 1, 6, 7, 10, 81, 82] [(0, .slice a0' aList_0.length c0'), (1, .slice a1' aFaults_1.length c1'), (6, .slice a45 x43.1.length c46), (7, .int .i64 x43.2), (10, .slice a81 x79.1.length c82), (81, .slice a81 x79.1.length c82), (82, .int .i64 1)] (by kernel_rfl) ?_
  obtain ⟨x219, hx220, hm⟩ := bindE hm
  refine WL.call 43 #[.slice a81 x79.1.length c82, .int .i64 1] rfl rfl (by kernel_rfl) (c_43 n x79.1 a81 c82 1 w211 w w.heap.size [aOwn fInt 2 a45 c46 x43.1] hx220 hb212 (Nat.le_refl _) hL213  hS214) ?_
  rintro _ w221 ⟨rfl, hB225, hS224, hlen226⟩
  refine ⟨_, rfl, ?_⟩
  have hb227 : Ext w w221 := Below.trans hb212 hB225
  have hL228 : w.heap.size ≤ w221.heap.size := Nat.le_trans hL213 hB225.size
  refine WL.sub [(0, .slice a0' aList_0.length c0'), (1, .slice a1' aFaults_1.length c1'), (6, .slice a45 x43.1.length c46), (7, .int .i64 x43.2), (10, .slice a81 x219.2.length c82), (81, .slice a81 x219.2.length c82), (82, .int .i64 1), (83, .int .i64 x219.1)] ⟨rfl, rfl, rfl, rfl, by rw [hlen226]; rfl, by rw [hlen226]; rfl, rfl, rfl, trivial⟩ ?_
  refine WL.runk 1 [0, 1, 6, 7, 10, 13] [(0, .slice a0' aList_0.length c0'), (1, .slice a1' aFaults_1.length c1'), (6, .slice a45 x43.1.length c46), (7, .int .i64 x43.2), (10, .slice a81 x219.2.length c82), (13, .int .i64 x219.1)] (by kernel_rfl) ?_
  refine WL.nil ?_
  refine WQ.then_normal (hK218 _ _ _ ?_)
  refine WP.seq (fun K229 hK229 => ?_)
  refine WP.region ?_
  refine WL.runk 1 [0, 1, 6, 7, 10, 13, 14] [(0, .slice a0' aList_0.length c0'), (1, .slice a1' aFaults_1.length c1'), (6, .slice a45 x43.1.length c46), (7, .int .i64 x43.2), (10, .slice a81 x219.2.length c82), (13, .int .i64 x219.1), (14, .int .i64 1)] (by kernel_rfl) ?_
  refine WL.nil ?_
  refine WQ.then_normal (hK229 _ _ _ ?_)
  refine WP.seq (fun K230 hK230 => ?_)
  refine WP.region ?_
  refine WL.runk 2 [0, 1, 6, 7, 10, 13, 84, 85] [(0, .slice a0' aList_0.length c0'), (1, .slice a1' aFaults_1.length c1'), (6, .slice a45 x43.1.length c46), (7, .int .i64 x43.2), (10, .slice a81 x219.2.length c82), (13, .int .i64 x219.1), (84, .slice a81 x219.2.length c82), (85, .int .i64 1)] (by kernel_rfl) ?_
  obtain ⟨x231, hx232, hm⟩ := bindE hm
  refine WL.call 44 #[.slice a81 x219.2.length c82, .int .i64 1] rfl rfl (by kernel_rfl) (c_44 n x219.2 a81 c82 1 w221 hx232 (SH.rd (SH.front 0 hS224)) (SH.le (SH.front 0 hS224)).1) ?_
  rintro _ w233 ⟨rfl, hE234⟩
  refine ⟨_, rfl, ?_⟩
  have hb236 : Ext w w233 := Ext.trans hb227 hE234
  have hL237 : w.heap.size ≤ w233.heap.size := Nat.le_trans hL228 hE234.size
  have hS238 : SH w233 w.heap.size [aOwn fInt 2 a81 c82 x219.2, aOwn fInt 2 a45 c46 x43.1] := SH.ext hS224 hE234
  refine WL.runk 1 [0, 1, 6, 7, 10, 13, 14] [(0, .slice a0' aList_0.length c0'), (1, .slice a1' aFaults_1.length c1'), (6, .slice a45 x43.1.length c46), (7, .int .i64 x43.2), (10, .slice a81 x219.2.length c82), (13, .int .i64 x219.1), (14, .int .i64 x231)] (by kernel_rfl) ?_
  refine WL.nil ?_
  refine WQ.then_normal (hK230 _ _ _ ?_)
  refine WP.seq (fun K239 hK239 => ?_)
  refine WP.seq (fun K240 hK240 => ?_)
  refine WP.region ?_
  refine WL.runk 2 [0, 1, 6, 7, 10, 13, 14, 88] [(0, .slice a0' aList_0.length c0'), (1, .slice a1' aFaults_1.length c1'), (6, .slice a45 x43.1.length c46), (7, .int .i64 x43.2), (10, .slice a81 x219.2.length c82), (13, .int .i64 x219.1), (14, .int .i64 x231), (88, .bool (decide (x231 < 0)))] (by kernel_rfl) ?_
  refine WL.nil ?_
  refine WQ.then_normal (hK240 _ _ _ ?_)
  refine WP.cond (decide (x231 < 0)) rfl rfl (fun hc241 => ?_) (fun hc241 => ?_)
  · have hm := iteT hm hc241
    refine WP.seq (fun K242 hK242 => ?_)
    refine WP.region ?_
    refine WL.runk 1 [4] [(4, .bool false)] (by kernel_rfl) ?_
    refine WL.nil ?_
    refine WQ.then_normal (hK242 _ _ _ ?_)
    refine WP.ret ?_
    refine WQ.then_ret ?_
    obtain rfl := Option.some.inj hm
    exact WQ.ret1 _ rfl rfl ⟨rfl, hb236⟩
  have hm := iteF hm hc241
  refine WP.skip ?_
  refine WQ.then_normal (hK239 _ _ _ ?_)
  refine WP.seq (fun K243 hK243 => ?_)
  refine WP.seq (fun K244 hK244 => ?_)
  refine WP.region ?_
  refine WL.runk 3 [0, 1, 6, 7, 10, 13, 91] [(0, .slice a0' aList_0.length c0'), (1, .slice a1' aFaults_1.length c1'), (6, .slice a45 x43.1.length c46), (7, .int .i64 x43.2), (10, .slice a81 x219.2.length c82), (13, .int .i64 x219.1), (91, .bool (x231 != x219.1))] (by kernel_rfl) ?_
  refine WL.nil ?_
  refine WQ.then_normal (hK244 _ _ _ ?_)
  refine WP.cond (x231 != x219.1) rfl rfl (fun hc245 => ?_) (fun hc245 => ?_)
  · have hm := iteT hm hc245
    refine WP.seq (fun K246 hK246 => ?_)
    refine WP.region ?_
    refine WL.runk 1 [4] [(4, .bool false)] (by kernel_rfl) ?_
    refine WL.nil ?_
    refine WQ.then_normal (hK246 _ _ _ ?_)
    refine WP.ret ?_
    refine WQ.then_ret ?_
    obtain rfl := Option.some.inj hm
    exact WQ.ret1 _ rfl rfl ⟨rfl, hb236⟩
  have hm := iteF hm hc245
  refine WP.skip ?_
  refine WQ.then_normal (hK243 _ _ _ ?_)
  refine WP.seq (fun K247 hK247 => ?_)
  refine WP.region ?_
  refine WL.runk 1 [1, 6, 7, 10, 13, 93] [(1, .slice a1' aFaults_1.length c1'), (6, .slice a45 x43.1.length c46), (7, .int .i64 x43.2), (10, .slice a81 x219.2.length c82), (13, .int .i64 x219.1), (93, .slice a0' aList_0.length c0')] (by kernel_rfl) ?_
  obtain ⟨x248, hx249, hm⟩ := bindE hm
  refine WL.call 30 #[.slice a0' aList_0.length c0'] rfl rfl (by kernel_rfl) (c_30 n aList_0 a0' c0' w233 hx249 (Rd.below h0 hb236) hle0) ?_
  rintro _ w253 ⟨a250, c251, rfl, hE254, hR255⟩
  refine ⟨_, rfl, ?_⟩
  have hb256 : Ext w w253 := Ext.trans hb236 hE254
  have hL257 : w.heap.size ≤ w253.heap.size := Nat.le_trans hL237 hE254.size
  have hS258 : SH w253 w.heap.size [aNest fRepair 73 2 a250 c251 x248, aOwn fInt 2 a81 c82 x219.2, aOwn fInt 2 a45 c46 x43.1] := SH.add hS238 hE254 hL237 hR255
  refine WL.runk 1 [6, 7, 10, 13, 94, 95] [(6, .slice a45 x43.1.length c46), (7, .int .i64 x43.2), (10, .slice a81 x219.2.length c82), (13, .int .i64 x219.1), (94, .slice a250 x248.length c251), (95, .slice a1' aFaults_1.length c1')] (by kernel_rfl) ?_
  obtain ⟨x259, hx260, hm⟩ := bindE hm
  refine WL.call 36 #[.slice a1' aFaults_1.length c1'] rfl rfl (by kernel_rfl) (c_36 n aFaults_1 a1' c1' w253 hx260 (Rd.below h1 hb256) hle1) ?_
  rintro _ w264 ⟨a261, c262, rfl, hE265, hR266⟩
  refine ⟨_, rfl, ?_⟩
  have hb267 : Ext w w264 := Ext.trans hb256 hE265
  have hL268 : w.heap.size ≤ w264.heap.size := Nat.le_trans hL257 hE265.size
  have hS269 : SH w264 w.heap.size [aOwn fInt 2 a261 c262 x259, aNest fRepair 73 2 a250 c251 x248, aOwn fInt 2 a81 c82 x219.2, aOwn fInt 2 a45 c46 x43.1] := SH.add hS258 hE265 hL257 hR266
  obtain ⟨x270, hx271, hm⟩ := bindE hm
  refine WL.call 19 #[.slice a250 x248.length c251, .slice a261 x259.length c262] rfl rfl (by kernel_rfl) (c_19 n x248 a250 c251 x259 a261 c262 w264 hx271 (SH.rdN (SH.front 1 hS269)) (SH.leN (SH.front 1 hS269)).1 (SH.rd (SH.front 0 hS269)) (SH.le (SH.front 0 hS269)).1) ?_
  rintro _ w275 ⟨a272, c273, rfl, hE276, hR277⟩
  refine ⟨_, rfl, ?_⟩
  have hb278 : Ext w w275 := Ext.trans hb267 hE276
  have hL279 : w.heap.size ≤ w275.heap.size := Nat.le_trans hL268 hE276.size
  have hS280 : SH w275 w.heap.size [aOwn fInt 2 a272 c273 x270.1, aOwn fInt 2 a261 c262 x259, aNest fRepair 73 2 a250 c251 x248, aOwn fInt 2 a81 c82 x219.2, aOwn fInt 2 a45 c46 x43.1] := SH.add hS269 hE276 hL268 hR277
  refine WL.runk 5 [6, 7, 10, 13, 15, 16] [(6, .slice a45 x43.1.length c46), (7, .int .i64 x43.2), (10, .slice a81 x219.2.length c82), (13, .int .i64 x219.1), (15, .slice a272 x270.1.length c273), (16, .int .i64 x270.2)] (by kernel_rfl) ?_
  refine WL.nil ?_
  refine WQ.then_normal (hK247 _ _ _ ?_)
  refine WP.seq (fun K281 hK281 => ?_)
  refine WP.seq (fun K282 hK282 => ?_)
  obtain ⟨x292, hx293, hm⟩ := bindE hm
  refine WP.cut (fun env' w' => env' = [(10, .slice a81 x219.2.length c82), (13, .int .i64 x219.1), (108, .bool x292)] ∧ Ext w w' ∧ w.heap.size ≤ w'.heap.size ∧ SH w' w.heap.size [aOwn fInt 2 a81 c82 x219.2]) ?_ ?_
  · have hm := hx293; clear hx293
    refine WP.region ?_
    refine WL.runk 2 [7, 10, 13, 16, 100, 101] [(7, .int .i64 x43.2), (10, .slice a81 x219.2.length c82), (13, .int .i64 x219.1), (16, .int .i64 x270.2), (100, .slice a272 x270.1.length c273), (101, .slice a45 x43.1.length c46)] (by kernel_rfl) ?_
    obtain ⟨x294, hx295, hm⟩ := bindE hm
    refine WL.call 38 #[.slice a272 x270.1.length c273, .slice a45 x43.1.length c46] rfl rfl (by kernel_rfl) (c_38 n x270.1 a272 c273 x43.1 a45 c46 w275 hx295 (SH.rd (SH.front 0 hS280)) (SH.le (SH.front 0 hS280)).1 (SH.rd (SH.front 4 hS280)) (SH.le (SH.front 4 hS280)).1) ?_
    rintro _ w296 ⟨rfl, hE297⟩
    refine ⟨_, rfl, ?_⟩
    have hb299 : Ext w w296 := Ext.trans hb278 hE297
    have hL300 : w.heap.size ≤ w296.heap.size := Nat.le_trans hL279 hE297.size
    have hS301 : SH w296 w.heap.size [aOwn fInt 2 a272 c273 x270.1, aOwn fInt 2 a261 c262 x259, aNest fRepair 73 2 a250 c251 x248, aOwn fInt 2 a81 c82 x219.2, aOwn fInt 2 a45 c46 x43.1] := SH.ext hS280 hE297
    refine WL.runk 2 [7, 10, 13, 16, 104] [(7, .int .i64 x43.2), (10, .slice a81 x219.2.length c82), (13, .int .i64 x219.1), (16, .int .i64 x270.2), (104, .bool (!x294))] (by kernel_rfl) ?_
    refine WL.case (!x294) [104] ⟨rfl, trivial⟩ (fun hc302 => ?_) (fun hc302 => ?_)
    · have hm := iteT hm hc302
      refine WL.runk 4 [10, 13, 108] [(10, .slice a81 x219.2.length c82), (13, .int .i64 x219.1), (108, .bool true)] (by kernel_rfl) ?_
      refine WL.nil ?_
      obtain rfl := Option.some.inj hm
      exact WQ.post' ⟨rfl, hb299, hL300, (SH.take 1 (SH.front 3 hS301))⟩ ⟨rfl, rfl, rfl, trivial⟩
    have hm := iteF hm hc302
    refine WL.runk 4 [10, 13, 108] [(10, .slice a81 x219.2.length c82), (13, .int .i64 x219.1), (108, .bool (x270.2 != x43.2))] (by kernel_rfl) ?_
    refine WL.nil ?_
    obtain rfl := Option.some.inj hm
    exact WQ.post' ⟨rfl, hb299, hL300, (SH.take 1 (SH.front 3 hS301))⟩ ⟨rfl, rfl, rfl, trivial⟩
  clear hx293
  rintro _ w303 ⟨rfl, hb304, hL305, hS306⟩
  refine WQ.then_normal (hK282 _ _ _ ?_)
  refine WP.cond x292 rfl rfl (fun hc307 => ?_) (fun hc307 => ?_)
  · have hm := iteT hm hc307
    refine WP.seq (fun K308 hK308 => ?_)
    refine WP.region ?_
    refine WL.runk 1 [4] [(4, .bool false)] (by kernel_rfl) ?_
    refine WL.nil ?_
    refine WQ.then_normal (hK308 _ _ _ ?_)
    refine WP.ret ?_
    refine WQ.then_ret ?_
    obtain rfl := Option.some.inj hm
    exact WQ.ret1 _ rfl rfl ⟨rfl, hb304⟩
  have hm := iteF hm hc307
  refine WP.skip ?_
  refine WQ.then_normal (hK281 _ _ _ ?_)
  refine WP.seq (fun K309 hK309 => ?_)
  refine WP.region ?_
  refine WL.runk 1 [10, 13, 14] [(10, .slice a81 x219.2.length c82), (13, .int .i64 x219.1), (14, .int .i64 1)] (by kernel_rfl) ?_
  refine WL.nil ?_
  refine WQ.then_normal (hK309 _ _ _ ?_)
  refine WP.seq (fun K310 hK310 => ?_)
  refine WP.region ?_
  refine WL.runk 2 [13, 109, 110] [(13, .int .i64 x219.1), (109, .slice a81 x219.2.length c82), (110, .int .i64 1)] (by kernel_rfl) ?_
  obtain ⟨x311, hx312, hm⟩ := bindE hm
  refine WL.call 44 #[.slice a81 x219.2.length c82, .int .i64 1] rfl rfl (by kernel_rfl) (c_44 n x219.2 a81 c82 1 w303 hx312 (SH.rd (SH.front 0 hS306)) (SH.le (SH.front 0 hS306)).1) ?_
  rintro _ w313 ⟨rfl, hE314⟩
  refine ⟨_, rfl, ?_⟩
  have hb316 : Ext w w313 := Ext.trans hb304 hE314
  have hL317 : w.heap.size ≤ w313.heap.size := Nat.le_trans hL305 hE314.size
  have hS318 : SH w313 w.heap.size [aOwn fInt 2 a81 c82 x219.2] := SH.ext hS306 hE314
  refine WL.runk 1 [13, 14] [(13, .int .i64 x219.1), (14, .int .i64 x311)] (by kernel_rfl) ?_
  refine WL.nil ?_
  refine WQ.then_normal (hK310 _ _ _ ?_)
  refine WP.seq (fun K319 hK319 => ?_)
  refine WP.seq (fun K320 hK320 => ?_)
  refine WP.region ?_
  refine WL.runk 2 [13, 14, 113] [(13, .int .i64 x219.1), (14, .int .i64 x311), (113, .bool (decide (x311 < 0)))] (by kernel_rfl) ?_
  refine WL.nil ?_
  refine WQ.then_normal (hK320 _ _ _ ?_)
  refine WP.cond (decide (x311 < 0)) rfl rfl (fun hc321 => ?_) (fun hc321 => ?_)
  · have hm := iteT hm hc321
    refine WP.seq (fun K322 hK322 => ?_)
    refine WP.region ?_
    refine WL.runk 1 [4] [(4, .bool false)] (by kernel_rfl) ?_
    refine WL.nil ?_
    refine WQ.then_normal (hK322 _ _ _ ?_)
    refine WP.ret ?_
    refine WQ.then_ret ?_
    obtain rfl := Option.some.inj hm
    exact WQ.ret1 _ rfl rfl ⟨rfl, hb316⟩
  have hm := iteF hm hc321
  refine WP.skip ?_
  refine WQ.then_normal (hK319 _ _ _ ?_)
  refine WP.seq (fun K323 hK323 => ?_)
  refine WP.seq (fun K324 hK324 => ?_)
  refine WP.region ?_
  refine WL.runk 3 [116] [(116, .bool (x311 != x219.1))] (by kernel_rfl) ?_
  refine WL.nil ?_
  refine WQ.then_normal (hK324 _ _ _ ?_)
  refine WP.cond (x311 != x219.1) rfl rfl (fun hc325 => ?_) (fun hc325 => ?_)
  · have hm := iteT hm hc325
    refine WP.seq (fun K326 hK326 => ?_)
    refine WP.region ?_
    refine WL.runk 1 [4] [(4, .bool false)] (by kernel_rfl) ?_
    refine WL.nil ?_
    refine WQ.then_normal (hK326 _ _ _ ?_)
    refine WP.ret ?_
    refine WQ.then_ret ?_
    obtain rfl := Option.some.inj hm
    exact WQ.ret1 _ rfl rfl ⟨rfl, hb316⟩
  have hm := iteF hm hc325
  refine WP.skip ?_
  refine WQ.then_normal (hK323 _ _ _ ?_)
  refine WP.seq (fun K327 hK327 => ?_)
  refine WP.region ?_
  refine WL.runk 1 [4] [(4, .bool true)] (by kernel_rfl) ?_
  refine WL.nil ?_
  refine WQ.then_normal (hK327 _ _ _ ?_)
  refine WP.ret ?_
  obtain rfl := Option.some.inj hm
  exact WQ.ret1 _ rfl rfl ⟨rfl, hb316⟩

end Go.Proofs.Ytkglfbcelaphhaa
