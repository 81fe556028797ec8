/- Each call does what its Lean function says. -/
import Derived.Test.YtkglfbcelaphhaaGreatDoorKRepairs2
set_option maxRecDepth 20000
set_option maxHeartbeats 40000000
namespace Go.Proofs.YtkglfbcelaphhaaGreatDoor
open Go Go.Gv Go.RowKit

theorem c_14 (n : Nat) (list_0 : List SRepair) (a0' : Option Addr) (c0' : Nat) (faults_1 : List Int) (a1' : Option Addr) (c1' : Nat) (w : World) {r : List Int × Int} (hm : m_spec_HopelessFaults n list_0 faults_1 = some r) (h0 : Rd fRepair.ty w a0' list_0) (hle0 : list_0.length ≤ c0') (h1 : Rd fInt.ty w a1' faults_1) (hle1 : faults_1.length ≤ c1') :
    CallV Tryz.prog 14 #[.slice a0' list_0.length c0', .slice a1' faults_1.length c1'] w (fun v w' => ∃ (ra0 : Option Addr) (rc0 : Nat), v = .tuple #[.slice ra0 r.1.length rc0, .int .i64 r.2] ∧ Ext w w' ∧ SH w' w.heap.size [aOwn fInt 2 ra0 rc0 r.1]) := by
  unfold m_spec_HopelessFaults at hm
  refine CallV.enter Tryz.func14 rfl (by kernel_rfl) Tryz.ntmps14 (env := [(0, .slice a0' list_0.length c0'), (1, .slice a1' faults_1.length c1')]) ⟨rfl, rfl, trivial⟩ ?_
  refine WP.seq (fun K1 hK1 => ?_)
  refine WP.region ?_
  refine WL.runk 2 [0, 1] [(0, .slice a0' list_0.length c0'), (1, .slice a1' faults_1.length c1')] (by kernel_rfl) ?_
  refine WL.nil ?_
  refine WQ.then_normal (hK1 _ _ _ ?_)
  refine WP.seq (fun K2 hK2 => ?_)
  refine WP.region ?_
  refine WL.runk 1 [0, 1, 11] [(0, .slice a0' list_0.length c0'), (1, .slice a1' faults_1.length c1'), (11, .slice a0' list_0.length c0')] (by kernel_rfl) ?_
  refine WL.row fInt 2 ([] : List Int) 0 #[] 12 (by kernel_rfl) rfl rfl rfl rfl rfl rfl rfl ?_
  intro a3 c4 w5 hE6 hR7
  have hb9 : Ext w w5 := Ext.trans (Ext.refl w) hE6
  have hL10 : w.heap.size ≤ w5.heap.size := Nat.le_trans (Nat.le_refl _) hE6.size
  have hS11 : SH w5 w.heap.size [aOwn fInt 2 a3 c4 ([] : List Int)] := SH.add (SH.nil _ _) hE6 (Nat.le_refl _) hR7
  refine WL.runk 1 [0, 1, 11, 12, 13] [(0, .slice a0' list_0.length c0'), (1, .slice a1' faults_1.length c1'), (11, .slice a0' list_0.length c0'), (12, .slice a3 (([] : List Int).length) c4), (13, .slice a1' faults_1.length c1')] (by kernel_rfl) ?_
  obtain ⟨x12, hx13, hm⟩ := bindE hm
  refine WL.call 44 #[.slice a0' list_0.length c0', .slice a3 (([] : List Int).length) c4, .slice a1' faults_1.length c1'] rfl rfl (by kernel_rfl) (c_44 n list_0 a0' c0' ([] : List Int) a3 c4 faults_1 a1' c1' w5 hx13 (Rd.below h0 hb9) hle0 (SH.rd (SH.front 0 hS11)) (SH.le (SH.front 0 hS11)).1 (Rd.below h1 hb9) hle1) ?_
  rintro _ w14 ⟨rfl, hE15⟩
  refine ⟨_, rfl, ?_⟩
  have hb17 : Ext w w14 := Ext.trans hb9 hE15
  have hL18 : w.heap.size ≤ w14.heap.size := Nat.le_trans hL10 hE15.size
  have hS19 : SH w14 w.heap.size [aOwn fInt 2 a3 c4 ([] : List Int)] := SH.ext hS11 hE15
  refine WL.runk 1 [0, 1, 6] [(0, .slice a0' list_0.length c0'), (1, .slice a1' faults_1.length c1'), (6, .int .i64 x12)] (by kernel_rfl) ?_
  refine WL.nil ?_
  refine WQ.then_normal (hK2 _ _ _ ?_)
  refine WP.seq (fun K20 hK20 => ?_)
  refine WP.seq (fun K21 hK21 => ?_)
  refine WP.region ?_
  refine WL.runk 2 [0, 1, 6, 16] [(0, .slice a0' list_0.length c0'), (1, .slice a1' faults_1.length c1'), (6, .int .i64 x12), (16, .bool (x12 != 0))] (by kernel_rfl) ?_
  refine WL.nil ?_
  refine WQ.then_normal (hK21 _ _ _ ?_)
  refine WP.cond (x12 != 0) rfl rfl (fun hc22 => ?_) (fun hc22 => ?_)
  · have hm := iteT hm hc22
    refine WP.seq (fun K23 hK23 => ?_)
    refine WP.region ?_
    refine WL.runk 3 [4, 5] [(4, .slice none 0 0), (5, .int .i64 x12)] (by kernel_rfl) ?_
    refine WL.nil ?_
    refine WQ.then_normal (hK23 _ _ _ ?_)
    refine WP.ret ?_
    refine WQ.then_ret ?_
    obtain rfl := Option.some.inj hm
    have hS25 : SH w14 w.heap.size [aOwn fInt 2 none 0 ([] : List Int), aOwn fInt 2 a3 c4 ([] : List Int)] := SH.nilOwn hS19
    exact WQ.ret2 _ _ rfl rfl rfl ⟨_, _, rfl, hb17, (SH.take 1 hS25)⟩
  have hm := iteF hm hc22
  refine WP.skip ?_
  refine WQ.then_normal (hK20 _ _ _ ?_)
  refine WP.seq (fun K26 hK26 => ?_)
  refine WP.region ?_
  refine WL.row fInt 2 ([] : List Int) 0 #[] 18 (by kernel_rfl) rfl rfl rfl rfl rfl rfl rfl ?_
  intro a27 c28 w29 hE30 hR31
  have hb33 : Ext w w29 := Ext.trans hb17 hE30
  have hL34 : w.heap.size ≤ w29.heap.size := Nat.le_trans hL18 hE30.size
  have hS35 : SH w29 w.heap.size [aOwn fInt 2 a27 c28 ([] : List Int), aOwn fInt 2 a3 c4 ([] : List Int)] := SH.add hS19 hE30 hL18 hR31
  refine WL.runk 1 [0, 1, 7] [(0, .slice a0' list_0.length c0'), (1, .slice a1' faults_1.length c1'), (7, .slice a27 (([] : List Int).length) c28)] (by kernel_rfl) ?_
  refine WL.nil ?_
  refine WQ.then_normal (hK26 _ _ _ ?_)
  refine WP.seq (fun K36 hK36 => ?_)
  refine WP.seq (fun K37 hK37 => ?_)
  refine WP.region ?_
  refine WL.runk 1 [0, 1, 7, 8] [(0, .slice a0' list_0.length c0'), (1, .slice a1' faults_1.length c1'), (7, .slice a27 (([] : List Int).length) c28), (8, .int .i64 0)] (by kernel_rfl) ?_
  refine WL.nil ?_
  refine WQ.then_normal (hK37 _ _ _ ?_)
  refine WP.block ?_
  obtain ⟨t52, ht53, hm⟩ := bindE hm
  have hmo47 := hm; clear hm
  refine WP.sub [(0, .slice a0' list_0.length c0'), (1, .slice a1' faults_1.length c1'), (7, .slice a27 (([] : List Int).length) c28), (8, .int .i64 0)] ⟨rfl, rfl, rfl, rfl, trivial⟩ ?_
  refine WP.loop (fun n' env' w' => ∃ (st38 : List Int × Int) (a39 : Option Addr) (c40 : Nat), env' = [(0, .slice a0' list_0.length c0'), (1, .slice a1' faults_1.length c1'), (7, .slice a39 st38.1.length c40), (8, .int .i64 st38.2)] ∧ Ext w w' ∧ w.heap.size ≤ w'.heap.size ∧ SH w' w.heap.size [aOwn fInt 2 a39 c40 st38.1] ∧ loopN (m_spec_HopelessFaults_l1 n list_0) n' st38 = some t52) n ⟨(([] : List Int), 0), _, _, rfl, hb33, hL34, (SH.take 1 hS35), ht53⟩ ?_
  rintro n49 _ w42 ⟨st38, a39, c40, rfl, hb43, hL44, hS45, hl46⟩ K48 hK48
  obtain ⟨n50, s51, rfl, hm, hl46⟩ := loopN_some hl46
  unfold m_spec_HopelessFaults_l1 at hm
  refine WP.seq (fun K54 hK54 => ?_)
  refine WP.seq (fun K55 hK55 => ?_)
  refine WP.region ?_
  refine WL.runk 4 [0, 1, 7, 8, 22] [(0, .slice a0' list_0.length c0'), (1, .slice a1' faults_1.length c1'), (7, .slice a39 st38.1.length c40), (8, .int .i64 st38.2), (22, .bool (decide (st38.2 < (list_0.length : Int))))] (by kernel_rfl) ?_
  refine WL.nil ?_
  refine WQ.then_normal (hK55 _ _ _ ?_)
  refine WP.cond (decide (st38.2 < (list_0.length : Int))) rfl rfl (fun hc56 => ?_) (fun hc56 => ?_)
  · have hm := iteT hm hc56
    refine WP.skip ?_
    refine WQ.then_normal (hK54 _ _ _ ?_)
    refine WP.seq (fun K57 hK57 => ?_)
    refine WP.block ?_
    refine WP.region ?_
    refine WL.runk 2 [0, 1, 8, 25, 26] [(0, .slice a0' list_0.length c0'), (1, .slice a1' faults_1.length c1'), (8, .int .i64 st38.2), (25, .slice a39 st38.1.length c40), (26, .int .i64 st38.2)] (by kernel_rfl) ?_
    refine WL.row fInt 2 ([st38.2] : List Int) 1 #[.int .i64 st38.2] 27 (by kernel_rfl) rfl rfl rfl rfl rfl rfl rfl ?_
    intro a58 c59 w60 hE61 hR62
    have hb64 : Ext w w60 := Ext.trans hb43 hE61
    have hL65 : w.heap.size ≤ w60.heap.size := Nat.le_trans hL44 hE61.size
    have hS66 : SH w60 w.heap.size [aOwn fInt 2 a58 c59 ([st38.2] : List Int), aOwn fInt 2 a39 c40 st38.1] := SH.add hS45 hE61 hL44 hR62
    obtain ⟨x67, hx68, hm⟩ := bindE hm
    refine WL.append (F := fInt) (xs := st38.1) (ys := ([st38.2] : List Int)) 28 (SH.front 1 hS66) hL65 (SH.rd (SH.front 0 hS66)) hx68 rfl rfl rfl Tryz.underlying25 (info2).1 (info2).2.2.1 (info2).2.1 (info2).2.2.2 rfl rfl rfl rfl rfl ?_
    intro a69 c70 w71 hB72 hS73
    have hb74 : Ext w w71 := Below.trans hb64 hB72
    have hL75 : w.heap.size ≤ w71.heap.size := Nat.le_trans hL65 hB72.size
    refine WL.runk 1 [0, 1, 7, 8] [(0, .slice a0' list_0.length c0'), (1, .slice a1' faults_1.length c1'), (8, .int .i64 st38.2), (7, .slice a69 x67.length c70)] (by kernel_rfl) ?_
    refine WL.nil ?_
    refine WQ.block_normal ?_
    refine WQ.then_normal (hK57 _ _ _ ?_)
    refine WP.region ?_
    refine WL.runk 3 [0, 1, 7, 8] [(0, .slice a0' list_0.length c0'), (1, .slice a1' faults_1.length c1'), (8, .int .i64 (wI64 (st38.2 + 1))), (7, .slice a69 x67.length c70)] (by kernel_rfl) ?_
    refine WL.nil ?_
    obtain rfl := Option.some.inj hm
    exact WQ.round hK48 ⟨(x67, (wI64 (st38.2 + 1))), _, _, rfl, hb74, hL75, (SH.take 1 hS73), hl46⟩ (Nat.lt_succ_self _) ⟨rfl, rfl, rfl, rfl, trivial⟩
  have hm := iteF hm hc56
  refine WP.exit ?_
  refine WQ.then_exit ?_
  refine WQ.then_exit ?_
  refine WQ.block_here ?_
  obtain rfl := Option.some.inj hm
  obtain rfl := afterN_done hl46
  have hm := hmo47
  refine WQ.then_normal (hK36 _ _ _ ?_)
  refine WP.seq (fun K76 hK76 => ?_)
  refine WP.region ?_
  refine WL.row fInt 2 ([] : List Int) 0 #[] 29 (by kernel_rfl) rfl rfl rfl rfl rfl rfl rfl ?_
  intro a77 c78 w79 hE80 hR81
  have hb83 : Ext w w79 := Ext.trans hb43 hE80
  have hL84 : w.heap.size ≤ w79.heap.size := Nat.le_trans hL44 hE80.size
  have hS85 : SH w79 w.heap.size [aOwn fInt 2 a77 c78 ([] : List Int), aOwn fInt 2 a39 c40 st38.1] := SH.add hS45 hE80 hL44 hR81
  refine WL.runk 1 [0, 1, 7, 9] [(0, .slice a0' list_0.length c0'), (1, .slice a1' faults_1.length c1'), (7, .slice a39 st38.1.length c40), (9, .slice a77 (([] : List Int).length) c78)] (by kernel_rfl) ?_
  refine WL.nil ?_
  refine WQ.then_normal (hK76 _ _ _ ?_)
  refine WP.seq (fun K86 hK86 => ?_)
  refine WP.seq (fun K87 hK87 => ?_)
  refine WP.region ?_
  refine WL.runk 1 [0, 1, 7, 9, 10] [(0, .slice a0' list_0.length c0'), (1, .slice a1' faults_1.length c1'), (7, .slice a39 st38.1.length c40), (9, .slice a77 (([] : List Int).length) c78), (10, .int .i64 0)] (by kernel_rfl) ?_
  refine WL.nil ?_
  refine WQ.then_normal (hK87 _ _ _ ?_)
  refine WP.block ?_
  obtain ⟨t102, ht103, hm⟩ := bindE hm
  have hmo97 := hm; clear hm
  refine WP.sub [(0, .slice a0' list_0.length c0'), (1, .slice a1' faults_1.length c1'), (7, .slice a39 st38.1.length c40), (9, .slice a77 (([] : List Int).length) c78), (10, .int .i64 0)] ⟨rfl, rfl, rfl, rfl, rfl, trivial⟩ ?_
  refine WP.loop (fun n' env' w' => ∃ (st88 : List Int × Int) (a89 : Option Addr) (c90 : Nat), env' = [(0, .slice a0' list_0.length c0'), (1, .slice a1' faults_1.length c1'), (7, .slice a39 st38.1.length c40), (9, .slice a89 st88.1.length c90), (10, .int .i64 st88.2)] ∧ Ext w w' ∧ w.heap.size ≤ w'.heap.size ∧ SH w' w.heap.size [aOwn fInt 2 a89 c90 st88.1, aOwn fInt 2 a39 c40 st38.1] ∧ loopN (m_spec_HopelessFaults_l2 n list_0 faults_1 st38) n' st88 = some t102) n ⟨(([] : List Int), 0), _, _, rfl, hb83, hL84, hS85, ht103⟩ ?_
  rintro n99 _ w92 ⟨st88, a89, c90, rfl, hb93, hL94, hS95, hl96⟩ K98 hK98
  obtain ⟨n100, s101, rfl, hm, hl96⟩ := loopN_some hl96
  unfold m_spec_HopelessFaults_l2 at hm
  refine WP.seq (fun K104 hK104 => ?_)
  refine WP.seq (fun K105 hK105 => ?_)
  refine WP.region ?_
  refine WL.runk 4 [0, 1, 7, 9, 10, 33] [(0, .slice a0' list_0.length c0'), (1, .slice a1' faults_1.length c1'), (7, .slice a39 st38.1.length c40), (9, .slice a89 st88.1.length c90), (10, .int .i64 st88.2), (33, .bool (decide (st88.2 < (faults_1.length : Int))))] (by kernel_rfl) ?_
  refine WL.nil ?_
  refine WQ.then_normal (hK105 _ _ _ ?_)
  refine WP.cond (decide (st88.2 < (faults_1.length : Int))) rfl rfl (fun hc106 => ?_) (fun hc106 => ?_)
  rotate_left
  · have hm := iteF hm hc106
    refine WP.exit ?_
    refine WQ.then_exit ?_
    refine WQ.then_exit ?_
    refine WQ.block_here ?_
    obtain rfl := Option.some.inj hm
    obtain rfl := afterN_done hl96
    have hm := hmo97
    refine WQ.then_normal (hK86 _ _ _ ?_)
    refine WP.seq (fun K169 hK169 => ?_)
    refine WP.region ?_
    refine WL.runk 3 [4, 5] [(4, .slice a89 st88.1.length c90), (5, .int .i64 0)] (by kernel_rfl) ?_
    refine WL.nil ?_
    refine WQ.then_normal (hK169 _ _ _ ?_)
    refine WP.ret ?_
    obtain rfl := Option.some.inj hm
    exact WQ.ret2 _ _ rfl rfl rfl ⟨_, _, rfl, hb93, (SH.take 1 hS95)⟩
  have hm := iteT hm hc106
  refine WP.skip ?_
  refine WQ.then_normal (hK104 _ _ _ ?_)
  refine WP.seq (fun K107 hK107 => ?_)
  refine WP.block ?_
  refine WP.seq (fun K108 hK108 => ?_)
  refine WP.region ?_
  refine WL.runk 4 [0, 1, 7, 9, 10, 36, 37, 38, 39] [(0, .slice a0' list_0.length c0'), (1, .slice a1' faults_1.length c1'), (7, .slice a39 st38.1.length c40), (9, .slice a89 st88.1.length c90), (10, .int .i64 st88.2), (36, .slice a0' list_0.length c0'), (37, .slice a39 st38.1.length c40), (38, .slice a1' faults_1.length c1'), (39, .int .i64 st88.2)] (by kernel_rfl) ?_
  obtain ⟨x109, hx110, hm⟩ := bindE hm
  refine WL.st (.pointer (some (at_ a1' (Int.toNat st88.2 * 1)))) (ST.index (T := fInt.ty) (xs := faults_1) (Rd.below h1 hb93) hx110 rfl rfl rfl Tryz.underlying25 (info2).1 (info2).2.1) rfl rfl rfl ?_
  refine WL.st (.int .i64 x109) (ST.load (cell_ext (Rd.flat (F := fInt) (Rd.below h1 hb93) hx110 0 rfl)) rfl rfl Tryz.underlying2 rfl) rfl rfl rfl ?_
  obtain ⟨x111, hx112, hm⟩ := bindE hm
  refine WL.call 45 #[.slice a0' list_0.length c0', .slice a39 st38.1.length c40, .int .i64 x109] rfl rfl (by kernel_rfl) (c_45 n list_0 a0' c0' st38.1 a39 c40 x109 w92 hx112 (Rd.below h0 hb93) hle0 (SH.rd (SH.front 1 hS95)) (SH.le (SH.front 1 hS95)).1) ?_
  rintro _ w113 ⟨rfl, hE114⟩
  refine ⟨_, rfl, ?_⟩
  have hb116 : Ext w w113 := Ext.trans hb93 hE114
  have hL117 : w.heap.size ≤ w113.heap.size := Nat.le_trans hL94 hE114.size
  have hS118 : SH w113 w.heap.size [aOwn fInt 2 a89 c90 st88.1, aOwn fInt 2 a39 c40 st38.1] := SH.ext hS95 hE114
  refine WL.runk 1 [0, 1, 7, 9, 10, 43] [(0, .slice a0' list_0.length c0'), (1, .slice a1' faults_1.length c1'), (7, .slice a39 st38.1.length c40), (9, .slice a89 st88.1.length c90), (10, .int .i64 st88.2), (43, .bool (!x111))] (by kernel_rfl) ?_
  refine WL.nil ?_
  refine WQ.then_normal (hK108 _ _ _ ?_)
  obtain ⟨x140, hx141, hm⟩ := bindE hm
  refine WP.cut (fun env' w' => ∃ (a142 : Option Addr) (c143 : Nat), env' = [(0, .slice a0' list_0.length c0'), (1, .slice a1' faults_1.length c1'), (7, .slice a39 st38.1.length c40), (9, .slice a142 x140.length c143), (10, .int .i64 st88.2)] ∧ Ext w w' ∧ w.heap.size ≤ w'.heap.size ∧ SH w' w.heap.size [aOwn fInt 2 a142 c143 x140, aOwn fInt 2 a39 c40 st38.1]) ?_ ?_
  rotate_left
  · clear hx141
    rintro _ w165 ⟨a142, c143, rfl, hb166, hL167, hS168⟩
    refine WQ.block_normal ?_
    refine WQ.then_normal (hK107 _ _ _ ?_)
    refine WP.region ?_
    refine WL.runk 3 [0, 1, 7, 9, 10] [(0, .slice a0' list_0.length c0'), (1, .slice a1' faults_1.length c1'), (7, .slice a39 st38.1.length c40), (9, .slice a142 x140.length c143), (10, .int .i64 (wI64 (st88.2 + 1)))] (by kernel_rfl) ?_
    refine WL.nil ?_
    obtain rfl := Option.some.inj hm
    exact WQ.round hK98 ⟨(x140, (wI64 (st88.2 + 1))), _, _, rfl, hb166, hL167, hS168, hl96⟩ (Nat.lt_succ_self _) ⟨rfl, rfl, rfl, rfl, rfl, trivial⟩
  have hm := hx141; clear hx141
  refine WP.cond (!x111) rfl rfl (fun hc119 => ?_) (fun hc119 => ?_)
  rotate_left
  · have hm := iteF hm hc119
    refine WP.skip ?_
    obtain rfl := Option.some.inj hm
    exact WQ.post' ⟨_, _, rfl, hb116, hL117, hS118⟩ ⟨rfl, rfl, rfl, rfl, rfl, trivial⟩
  have hm := iteT hm hc119
  refine WP.region ?_
  refine WL.runk 3 [0, 1, 7, 10, 44, 45, 46] [(0, .slice a0' list_0.length c0'), (1, .slice a1' faults_1.length c1'), (7, .slice a39 st38.1.length c40), (10, .int .i64 st88.2), (44, .slice a89 st88.1.length c90), (45, .slice a1' faults_1.length c1'), (46, .int .i64 st88.2)] (by kernel_rfl) ?_
  obtain ⟨x145, hx146, hm⟩ := bindE hm
  refine WL.st (.pointer (some (at_ a1' (Int.toNat st88.2 * 1)))) (ST.index (T := fInt.ty) (xs := faults_1) (Rd.below h1 hb116) hx146 rfl rfl rfl Tryz.underlying25 (info2).1 (info2).2.1) rfl rfl rfl ?_
  refine WL.st (.int .i64 x145) (ST.load (cell_ext (Rd.flat (F := fInt) (Rd.below h1 hb116) hx146 0 rfl)) rfl rfl Tryz.underlying2 rfl) rfl rfl rfl ?_
  refine WL.row fInt 2 ([x145] : List Int) 1 #[.int .i64 x145] 49 (by kernel_rfl) rfl rfl rfl rfl rfl rfl rfl ?_
  intro a147 c148 w149 hE150 hR151
  have hb153 : Ext w w149 := Ext.trans hb116 hE150
  have hL154 : w.heap.size ≤ w149.heap.size := Nat.le_trans hL117 hE150.size
  have hS155 : SH w149 w.heap.size [aOwn fInt 2 a147 c148 ([x145] : List Int), aOwn fInt 2 a89 c90 st88.1, aOwn fInt 2 a39 c40 st38.1] := SH.add hS118 hE150 hL117 hR151
  obtain ⟨x156, hx157, hm⟩ := bindE hm
  refine WL.append (F := fInt) (xs := st88.1) (ys := ([x145] : List Int)) 50 (SH.front 1 hS155) hL154 (SH.rd (SH.front 0 hS155)) hx157 rfl rfl rfl Tryz.underlying25 (info2).1 (info2).2.2.1 (info2).2.1 (info2).2.2.2 rfl rfl rfl rfl rfl ?_
  intro a158 c159 w160 hB161 hS162
  have hb163 : Ext w w160 := Below.trans hb153 hB161
  have hL164 : w.heap.size ≤ w160.heap.size := Nat.le_trans hL154 hB161.size
  refine WL.runk 1 [0, 1, 7, 9, 10] [(0, .slice a0' list_0.length c0'), (1, .slice a1' faults_1.length c1'), (7, .slice a39 st38.1.length c40), (10, .int .i64 st88.2), (9, .slice a158 x156.length c159)] (by kernel_rfl) ?_
  refine WL.nil ?_
  obtain rfl := Option.some.inj hm
  exact WQ.post' ⟨_, _, rfl, hb163, hL164, (SH.take 2 (SH.front 1 (SH.front 2 hS162)))⟩ ⟨rfl, rfl, rfl, rfl, rfl, trivial⟩

theorem c_15 (n : Nat) (code_0 : List Int) (a0' : Option Addr) (c0' : Nat) (w : World) {r : List SRepair × Int} (hm : m_spec_DrawRepairsFor n code_0 = some r) (h0 : Rd fU8.ty w a0' code_0) (hle0 : code_0.length ≤ c0') :
    CallV Tryz.prog 15 #[.slice a0' code_0.length c0'] w (fun v w' => ∃ (ra0 : Option Addr) (rc0 : Nat), v = .tuple #[.slice ra0 r.1.length rc0, .int .i64 r.2] ∧ Ext w w' ∧ SH w' w.heap.size [aNest fRepair 48 2 ra0 rc0 r.1]) := by
  unfold m_spec_DrawRepairsFor at hm
  refine CallV.enter Tryz.func15 rfl (by kernel_rfl) Tryz.ntmps15 (env := [(0, .slice a0' code_0.length c0')]) ⟨rfl, trivial⟩ ?_
  refine WP.seq (fun K1 hK1 => ?_)
  refine WP.region ?_
  refine WL.runk 2 [0] [(0, .slice a0' code_0.length c0')] (by kernel_rfl) ?_
  refine WL.nil ?_
  refine WQ.then_normal (hK1 _ _ _ ?_)
  refine WP.seq (fun K2 hK2 => ?_)
  refine WP.region ?_
  refine WL.runk 1 [6] [(6, .slice a0' code_0.length c0')] (by kernel_rfl) ?_
  obtain ⟨x3, hx4, hm⟩ := bindE hm
  refine WL.call 46 #[.slice a0' code_0.length c0'] rfl rfl (by kernel_rfl) (c_46 n code_0 a0' c0' w hx4 (Rd.below h0 (Ext.refl w)) hle0) ?_
  rintro _ w7 ⟨b5, rfl, hE8, hR9⟩
  refine ⟨_, rfl, ?_⟩
  have hb10 : Ext w w7 := Ext.trans (Ext.refl w) hE8
  have hL11 : w.heap.size ≤ w7.heap.size := Nat.le_trans (Nat.le_refl _) hE8.size
  have hS12 : SH w7 w.heap.size [aBox 82 b5 [.slice a0' code_0.length c0', .int .i64 x3.1, .int .u64 x3.2]] := SH.add (SH.nil _ _) hE8 (Nat.le_refl _) hR9
  refine WL.runk 1 [4] [(4, .pointer (some ⟨b5, 0, none⟩))] (by kernel_rfl) ?_
  refine WL.nil ?_
  refine WQ.then_normal (hK2 _ _ _ ?_)
  refine WP.seq (fun K13 hK13 => ?_)
  refine WP.region ?_
  refine WL.runk 1 [4, 8] [(4, .pointer (some ⟨b5, 0, none⟩)), (8, .pointer (some ⟨b5, 0, none⟩))] (by kernel_rfl) ?_
  obtain ⟨x14, hx15, hm⟩ := bindE hm
  refine WL.call 47 #[.pointer (some ⟨b5, 0, none⟩)] rfl rfl (by kernel_rfl) (c_47 n code_0 a0' c0' x3.1 x3.2 b5 w7 w w.heap.size [] hx15 hb10 (Nat.le_refl _) hL11 h0 hle0 hS12) ?_
  rintro _ w19 ⟨a16, c17, rfl, hB23, hS22⟩
  refine ⟨_, rfl, ?_⟩
  have hb24 : Ext w w19 := Below.trans hb10 hB23
  have hL25 : w.heap.size ≤ w19.heap.size := Nat.le_trans hL11 hB23.size
  refine WL.runk 1 [4, 5] [(4, .pointer (some ⟨b5, 0, none⟩)), (5, .slice a16 x14.1.length c17)] (by kernel_rfl) ?_
  refine WL.nil ?_
  refine WQ.then_normal (hK13 _ _ _ ?_)
  refine WP.seq (fun K26 hK26 => ?_)
  refine WP.seq (fun K27 hK27 => ?_)
  refine WP.region ?_
  refine WL.runk 1 [4, 5, 10] [(4, .pointer (some ⟨b5, 0, none⟩)), (5, .slice a16 x14.1.length c17), (10, .pointer (some ⟨b5, 0, none⟩))] (by kernel_rfl) ?_
  obtain ⟨x28, hx29, hm⟩ := bindE hm
  refine WL.call 48 #[.pointer (some ⟨b5, 0, none⟩), .int .i64 8] rfl rfl (by kernel_rfl) (c_48 n code_0 a0' c0' x14.2.1 x14.2.2 b5 8 w19 w w.heap.size [aNest fRepair 48 2 a16 c17 x14.1] hx29 hb24 (Nat.le_refl _) hL25 h0 hle0 (SH.front 1 hS22)) ?_
  rintro _ w30 ⟨rfl, hB34, hS33⟩
  refine ⟨_, rfl, ?_⟩
  have hb35 : Ext w w30 := Below.trans hb24 hB34
  have hL36 : w.heap.size ≤ w30.heap.size := Nat.le_trans hL25 hB34.size
  refine WL.sub [(4, .pointer (some ⟨b5, 0, none⟩)), (5, .slice a16 x14.1.length c17), (11, .bool x28.1)] ⟨rfl, rfl, rfl, trivial⟩ ?_
  refine WL.nil ?_
  refine WQ.then_normal (hK27 _ _ _ ?_)
  refine WP.cond x28.1 rfl rfl (fun hc37 => ?_) (fun hc37 => ?_)
  rotate_left
  · have hm := iteF hm hc37
    refine WP.skip ?_
    refine WQ.then_normal (hK26 _ _ _ ?_)
    refine WP.seq (fun K57 hK57 => ?_)
    refine WP.region ?_
    refine WL.runk 2 [16, 17] [(16, .slice a16 x14.1.length c17), (17, .pointer (some ⟨b5, 0, none⟩))] (by kernel_rfl) ?_
    obtain ⟨x58, hx59, hm⟩ := bindE hm
    refine WL.call 50 #[.pointer (some ⟨b5, 0, none⟩), .int .i64 6] rfl rfl (by kernel_rfl) (c_50 n code_0 a0' c0' x28.2.1 x28.2.2 b5 6 w30 w w.heap.size [aNest fRepair 48 2 a16 c17 x14.1] hx59 hb35 (Nat.le_refl _) hL36 h0 hle0 hS33) ?_
    rintro _ w60 ⟨rfl, hB64, hS63⟩
    refine ⟨_, rfl, ?_⟩
    have hb65 : Ext w w60 := Below.trans hb35 hB64
    have hL66 : w.heap.size ≤ w60.heap.size := Nat.le_trans hL36 hB64.size
    refine WL.runk 2 [2, 3] [(2, .slice a16 x14.1.length c17), (3, .int .i64 x58.1)] (by kernel_rfl) ?_
    refine WL.nil ?_
    refine WQ.then_normal (hK57 _ _ _ ?_)
    refine WP.ret ?_
    obtain rfl := Option.some.inj hm
    exact WQ.ret2 _ _ rfl rfl rfl ⟨_, _, rfl, hb65, (SH.take 1 (SH.front 1 hS63))⟩
  have hm := iteT hm hc37
  refine WP.seq (fun K38 hK38 => ?_)
  refine WP.region ?_
  refine WL.runk 2 [12, 13] [(12, .slice a16 x14.1.length c17), (13, .pointer (some ⟨b5, 0, none⟩))] (by kernel_rfl) ?_
  refine WL.row fInt 2 ([(-1), 0, 9, 10] : List Int) 4 #[.int .i64 (-1), .int .i64 0, .int .i64 9, .int .i64 10] 14 (by kernel_rfl) rfl rfl rfl rfl rfl rfl rfl ?_
  intro a39 c40 w41 hE42 hR43
  have hb45 : Ext w w41 := Ext.trans hb35 hE42
  have hL46 : w.heap.size ≤ w41.heap.size := Nat.le_trans hL36 hE42.size
  have hS47 : SH w41 w.heap.size [aOwn fInt 2 a39 c40 ([(-1), 0, 9, 10] : List Int), aBox 82 b5 [.slice a0' code_0.length c0', .int .i64 x28.2.1, .int .u64 x28.2.2], aNest fRepair 48 2 a16 c17 x14.1] := SH.add hS33 hE42 hL36 hR43
  obtain ⟨x48, hx49, hm⟩ := bindE hm
  refine WL.call 49 #[.pointer (some ⟨b5, 0, none⟩), .slice a39 (([(-1), 0, 9, 10] : List Int).length) c40] rfl rfl (by kernel_rfl) (c_49_o1 n code_0 a0' c0' x28.2.1 x28.2.2 b5 ([(-1), 0, 9, 10] : List Int) a39 c40 w41 w w.heap.size [aNest fRepair 48 2 a16 c17 x14.1] hx49 hb45 (Nat.le_refl _) hL46 h0 hle0 (SH.front 2 (SH.front 1 (SH.front 2 hS47)))) ?_
  rintro _ w50 ⟨rfl, hB54, hS53⟩
  refine ⟨_, rfl, ?_⟩
  have hb55 : Ext w w50 := Below.trans hb45 hB54
  have hL56 : w.heap.size ≤ w50.heap.size := Nat.le_trans hL46 hB54.size
  refine WL.runk 2 [2, 3] [(2, .slice a16 x14.1.length c17), (3, .int .i64 x48.1)] (by kernel_rfl) ?_
  refine WL.nil ?_
  refine WQ.then_normal (hK38 _ _ _ ?_)
  refine WP.ret ?_
  refine WQ.then_ret ?_
  obtain rfl := Option.some.inj hm
  exact WQ.ret2 _ _ rfl rfl rfl ⟨_, _, rfl, hb55, (SH.take 1 (SH.front 2 hS53))⟩

theorem c_16 (n : Nat) (list_0 : List SRepair) (a0' : Option Addr) (c0' : Nat) (fault_1 : Int) (w : World) {r : List Int × Int} (hm : m_impl_RepairsFor n list_0 fault_1 = some r) (h0 : Rd fRepair.ty w a0' list_0) (hle0 : list_0.length ≤ c0') :
    CallV Tryz.prog 16 #[.slice a0' list_0.length c0', .int .i64 fault_1] w (fun v w' => ∃ (ra0 : Option Addr) (rc0 : Nat), v = .tuple #[.slice ra0 r.1.length rc0, .int .i64 r.2] ∧ Ext w w' ∧ SH w' w.heap.size [aOwn fInt 2 ra0 rc0 r.1]) := by
  unfold m_impl_RepairsFor at hm
  refine CallV.enter Tryz.func16 rfl (by kernel_rfl) Tryz.ntmps16 (env := [(0, .slice a0' list_0.length c0'), (1, .int .i64 fault_1)]) ⟨rfl, rfl, trivial⟩ ?_
  refine WP.seq (fun K1 hK1 => ?_)
  refine WP.region ?_
  refine WL.runk 2 [0, 1] [(0, .slice a0' list_0.length c0'), (1, .int .i64 fault_1)] (by kernel_rfl) ?_
  refine WL.nil ?_
  refine WQ.then_normal (hK1 _ _ _ ?_)
  refine WP.seq (fun K2 hK2 => ?_)
  refine WP.block ?_
  refine WP.seq (fun K3 hK3 => ?_)
  refine WP.region ?_
  refine WL.runk 1 [0, 1, 10] [(0, .slice a0' list_0.length c0'), (1, .int .i64 fault_1), (10, .slice a0' list_0.length c0')] (by kernel_rfl) ?_
  obtain ⟨x4, hx5, hm⟩ := bindE hm
  refine WL.call 25 #[.slice a0' list_0.length c0'] rfl rfl (by kernel_rfl) (c_25 n list_0 a0' c0' w hx5 (Rd.below h0 (Ext.refl w)) hle0) ?_
  rintro _ w6 ⟨rfl, hE7⟩
  refine ⟨_, rfl, ?_⟩
  have hb9 : Ext w w6 := Ext.trans (Ext.refl w) hE7
  have hL10 : w.heap.size ≤ w6.heap.size := Nat.le_trans (Nat.le_refl _) hE7.size
  have hS11 : SH w6 w.heap.size [] := SH.ext (SH.nil _ _) hE7
  refine WL.runk 2 [0, 1, 9] [(0, .slice a0' list_0.length c0'), (1, .int .i64 fault_1), (9, .bool (!x4))] (by kernel_rfl) ?_
  refine WL.nil ?_
  refine WQ.then_normal (hK3 _ _ _ ?_)
  refine WP.cond (!x4) rfl rfl (fun hc12 => ?_) (fun hc12 => ?_)
  · have hm := iteT hm hc12
    refine WP.seq (fun K13 hK13 => ?_)
    refine WP.region ?_
    refine WL.runk 2 [4, 5] [(4, .slice none 0 0), (5, .int .i64 1)] (by kernel_rfl) ?_
    refine WL.nil ?_
    refine WQ.then_normal (hK13 _ _ _ ?_)
    refine WP.ret ?_
    refine WQ.block_ret ?_
    refine WQ.then_ret ?_
    obtain rfl := Option.some.inj hm
    have hS15 : SH w6 w.heap.size [aOwn fInt 2 none 0 ([] : List Int)] := SH.nilOwn hS11
    exact WQ.ret2 _ _ rfl rfl rfl ⟨_, _, rfl, hb9, hS15⟩
  have hm := iteF hm hc12
  refine WP.seq (fun K16 hK16 => ?_)
  refine WP.region ?_
  refine WL.runk 1 [0, 1, 14] [(0, .slice a0' list_0.length c0'), (1, .int .i64 fault_1), (14, .int .i64 fault_1)] (by kernel_rfl) ?_
  obtain ⟨x17, hx18, hm⟩ := bindE hm
  refine WL.call 51 #[.int .i64 fault_1, .int .i64 0, .int .i64 9] rfl rfl (by kernel_rfl) (c_51 n fault_1 0 9 w6 hx18 ) ?_
  rintro _ w19 ⟨rfl, hE20⟩
  refine ⟨_, rfl, ?_⟩
  have hb22 : Ext w w19 := Ext.trans hb9 hE20
  have hL23 : w.heap.size ≤ w19.heap.size := Nat.le_trans hL10 hE20.size
  have hS24 : SH w19 w.heap.size [] := SH.ext hS11 hE20
  refine WL.runk 2 [0, 1, 13] [(0, .slice a0' list_0.length c0'), (1, .int .i64 fault_1), (13, .bool (!x17))] (by kernel_rfl) ?_
  refine WL.nil ?_
  refine WQ.then_normal (hK16 _ _ _ ?_)
  refine WP.cond (!x17) rfl rfl (fun hc25 => ?_) (fun hc25 => ?_)
  · have hm := iteT hm hc25
    refine WP.seq (fun K26 hK26 => ?_)
    refine WP.region ?_
    refine WL.runk 2 [4, 5] [(4, .slice none 0 0), (5, .int .i64 2)] (by kernel_rfl) ?_
    refine WL.nil ?_
    refine WQ.then_normal (hK26 _ _ _ ?_)
    refine WP.ret ?_
    refine WQ.block_ret ?_
    refine WQ.then_ret ?_
    obtain rfl := Option.some.inj hm
    have hS28 : SH w19 w.heap.size [aOwn fInt 2 none 0 ([] : List Int)] := SH.nilOwn hS24
    exact WQ.ret2 _ _ rfl rfl rfl ⟨_, _, rfl, hb22, hS28⟩
  have hm := iteF hm hc25
  refine WP.skip ?_
  refine WQ.block_normal ?_
  refine WQ.then_normal (hK2 _ _ _ ?_)
  refine WP.seq (fun K29 hK29 => ?_)
  refine WP.region ?_
  refine WL.row fInt 2 ([] : List Int) 0 #[] 17 (by kernel_rfl) rfl rfl rfl rfl rfl rfl rfl ?_
  intro a30 c31 w32 hE33 hR34
  have hb36 : Ext w w32 := Ext.trans hb22 hE33
  have hL37 : w.heap.size ≤ w32.heap.size := Nat.le_trans hL23 hE33.size
  have hS38 : SH w32 w.heap.size [aOwn fInt 2 a30 c31 ([] : List Int)] := SH.add hS24 hE33 hL23 hR34
  refine WL.runk 1 [0, 1, 6] [(0, .slice a0' list_0.length c0'), (1, .int .i64 fault_1), (6, .slice a30 (([] : List Int).length) c31)] (by kernel_rfl) ?_
  refine WL.nil ?_
  refine WQ.then_normal (hK29 _ _ _ ?_)
  refine WP.seq (fun K39 hK39 => ?_)
  refine WP.seq (fun K40 hK40 => ?_)
  refine WP.region ?_
  refine WL.runk 3 [1, 6, 18, 19, 20] [(1, .int .i64 fault_1), (6, .slice a30 (([] : List Int).length) c31), (18, .slice a0' list_0.length c0'), (19, .int .i64 (list_0.length : Int)), (20, .int .i64 0)] (by kernel_rfl) ?_
  refine WL.nil ?_
  refine WQ.then_normal (hK40 _ _ _ ?_)
  refine WP.block ?_
  obtain ⟨t55, ht56, hm⟩ := bindE hm
  have hmo50 := hm; clear hm
  refine WP.sub [(1, .int .i64 fault_1), (6, .slice a30 (([] : List Int).length) c31), (18, .slice a0' list_0.length c0'), (19, .int .i64 (list_0.length : Int)), (20, .int .i64 0)] ⟨rfl, rfl, rfl, rfl, rfl, trivial⟩ ?_
  refine WP.loop (fun n' env' w' => ∃ (st41 : List Int × Int) (a42 : Option Addr) (c43 : Nat), env' = [(1, .int .i64 fault_1), (6, .slice a42 st41.1.length c43), (18, .slice a0' list_0.length c0'), (19, .int .i64 (list_0.length : Int)), (20, .int .i64 st41.2)] ∧ Ext w w' ∧ w.heap.size ≤ w'.heap.size ∧ SH w' w.heap.size [aOwn fInt 2 a42 c43 st41.1] ∧ loopN (m_impl_RepairsFor_l1 n list_0 fault_1) n' st41 = some t55) n ⟨(([] : List Int), 0), _, _, rfl, hb36, hL37, hS38, ht56⟩ ?_
  rintro n52 _ w45 ⟨st41, a42, c43, rfl, hb46, hL47, hS48, hl49⟩ K51 hK51
  obtain ⟨n53, s54, rfl, hm, hl49⟩ := loopN_some hl49
  unfold m_impl_RepairsFor_l1 at hm
  refine WP.seq (fun K57 hK57 => ?_)
  refine WP.region ?_
  refine WL.runk 1 [1, 6, 18, 19, 20, 21] [(1, .int .i64 fault_1), (6, .slice a42 st41.1.length c43), (18, .slice a0' list_0.length c0'), (19, .int .i64 (list_0.length : Int)), (20, .int .i64 st41.2), (21, .bool (decide (st41.2 < (list_0.length : Int))))] (by kernel_rfl) ?_
  refine WL.nil ?_
  refine WQ.then_normal (hK57 _ _ _ ?_)
  refine WP.seq (fun K58 hK58 => ?_)
  refine WP.cond (decide (st41.2 < (list_0.length : Int))) rfl rfl (fun hc59 => ?_) (fun hc59 => ?_)
  rotate_left
  · have hm := iteF hm hc59
    refine WP.exit ?_
    refine WQ.then_exit ?_
    refine WQ.then_exit ?_
    refine WQ.block_here ?_
    obtain rfl := Option.some.inj hm
    obtain rfl := afterN_done hl49
    have hm := hmo50
    refine WQ.then_normal (hK39 _ _ _ ?_)
    refine WP.seq (fun K143 hK143 => ?_)
    refine WP.region ?_
    refine WL.runk 3 [4, 5] [(4, .slice a42 st41.1.length c43), (5, .int .i64 0)] (by kernel_rfl) ?_
    refine WL.nil ?_
    refine WQ.then_normal (hK143 _ _ _ ?_)
    refine WP.ret ?_
    obtain rfl := Option.some.inj hm
    exact WQ.ret2 _ _ rfl rfl rfl ⟨_, _, rfl, hb46, hS48⟩
  have hm := iteT hm hc59
  refine WP.skip ?_
  refine WQ.then_normal (hK58 _ _ _ ?_)
  refine WP.seq (fun K60 hK60 => ?_)
  refine WP.block ?_
  refine WP.seq (fun K61 hK61 => ?_)
  refine WP.region ?_
  refine WL.runk 1 [1, 6, 18, 19, 20, 22] [(1, .int .i64 fault_1), (6, .slice a42 st41.1.length c43), (18, .slice a0' list_0.length c0'), (19, .int .i64 (list_0.length : Int)), (20, .int .i64 st41.2), (22, .int .i64 st41.2)] (by kernel_rfl) ?_
  obtain ⟨x62, hx63, hm⟩ := bindE hm
  obtain ⟨a64, c65, a69, c70, hc74, hR66, hle67, hR71, hle72⟩ := nest_Repair h0 hx63
  refine WL.st (.pointer (some (at_ a0' (Int.toNat st41.2 * 5)))) (ST.index (T := fRepair.ty) (xs := list_0) (Rd.below h0 hb46) hx63 rfl rfl rfl Tryz.underlying24 (info48).1 (info48).2.1) rfl rfl rfl ?_
  refine WL.st (.agg #[.string (bs x62.Name), .slice a64 x62.Mends.length c65, .slice a69 x62.First.length c70, .int .i64 x62.Price, .int .i64 x62.Hours]) (ST.loadAgg (vs := [.string (bs x62.Name), .slice a64 x62.Mends.length c65, .slice a69 x62.First.length c70, .int .i64 x62.Price, .int .i64 x62.Hours]) (at_agg (cells_ext hc74 hb46)) rfl rfl rfl Tryz.underlying48 rfl (info48).1 (info48).2.1) rfl rfl rfl ?_
  refine WL.box 48 [.string (bs []), .slice none 0 0, .slice none 0 0, .int .i64 0, .int .i64 0] 8 (by kernel_rfl) rfl rfl rfl rfl ?_
  intro b75 w76 hE77 hR78
  have hb80 : Ext w w76 := Ext.trans hb46 hE77
  have hL81 : w.heap.size ≤ w76.heap.size := Nat.le_trans hL47 hE77.size
  have hS82 : SH w76 w.heap.size [aBox 48 b75 [.string (bs []), .slice none 0 0, .slice none 0 0, .int .i64 0, .int .i64 0], aOwn fInt 2 a42 c43 st41.1] := SH.add hS48 hE77 hL47 hR78
  refine WL.runk 1 [1, 6, 7, 8, 18, 19, 20, 24] [(1, .int .i64 fault_1), (6, .slice a42 st41.1.length c43), (18, .slice a0' list_0.length c0'), (19, .int .i64 (list_0.length : Int)), (20, .int .i64 st41.2), (24, .agg #[.string (bs x62.Name), .slice a64 x62.Mends.length c65, .slice a69 x62.First.length c70, .int .i64 x62.Price, .int .i64 x62.Hours]), (8, .pointer (some ⟨b75, 0, none⟩)), (7, .int .i64 st41.2)] (by kernel_rfl) ?_
  refine WL.boxStore 0 [.string (bs x62.Name), .slice a64 x62.Mends.length c65, .slice a69 x62.First.length c70, .int .i64 x62.Price, .int .i64 x62.Hours] [.string (bs x62.Name), .slice a64 x62.Mends.length c65, .slice a69 x62.First.length c70, .int .i64 x62.Price, .int .i64 x62.Hours] (SH.front 0 hS82) hL81 rfl rfl rfl rfl rfl rfl rfl (info48).1 (info48).2.1 rfl rfl rfl ?_
  intro w83 hB84 hS85
  have hb86 : Ext w w83 := Below.trans hb80 hB84
  have hL87 : w.heap.size ≤ w83.heap.size := Nat.le_trans hL81 hB84.size
  refine WL.sub [(1, .int .i64 fault_1), (6, .slice a42 st41.1.length c43), (18, .slice a0' list_0.length c0'), (19, .int .i64 (list_0.length : Int)), (20, .int .i64 st41.2), (8, .pointer (some ⟨b75, 0, none⟩)), (7, .int .i64 st41.2)] ⟨rfl, rfl, rfl, rfl, rfl, rfl, rfl, trivial⟩ ?_
  refine WL.nil ?_
  refine WQ.then_normal (hK61 _ _ _ ?_)
  refine WP.seq (fun K88 hK88 => ?_)
  refine WP.region ?_
  refine WL.runk 1 [1, 6, 7, 18, 19, 20, 25] [(1, .int .i64 fault_1), (6, .slice a42 st41.1.length c43), (18, .slice a0' list_0.length c0'), (19, .int .i64 (list_0.length : Int)), (20, .int .i64 st41.2), (7, .int .i64 st41.2), (25, .pointer (some ⟨b75, 1, none⟩))] (by kernel_rfl) ?_
  refine WL.st (.slice a64 x62.Mends.length c65) (ST.load (cell_ext (SH.boxAt (SH.front 0 hS85) 1 _ rfl)) rfl rfl Tryz.underlying25 rfl) rfl rfl rfl ?_
  refine WL.runk 1 [1, 6, 7, 18, 19, 20, 26, 27] [(1, .int .i64 fault_1), (6, .slice a42 st41.1.length c43), (18, .slice a0' list_0.length c0'), (19, .int .i64 (list_0.length : Int)), (20, .int .i64 st41.2), (7, .int .i64 st41.2), (26, .slice a64 x62.Mends.length c65), (27, .int .i64 fault_1)] (by kernel_rfl) ?_
  obtain ⟨x89, hx90, hm⟩ := bindE hm
  refine WL.call 43 #[.slice a64 x62.Mends.length c65, .int .i64 fault_1] rfl rfl (by kernel_rfl) (c_43 n x62.Mends a64 c65 fault_1 w83 hx90 (Rd.below hR66 hb86) hle67) ?_
  rintro _ w91 ⟨rfl, hE92⟩
  refine ⟨_, rfl, ?_⟩
  have hb94 : Ext w w91 := Ext.trans hb86 hE92
  have hL95 : w.heap.size ≤ w91.heap.size := Nat.le_trans hL87 hE92.size
  have hS96 : SH w91 w.heap.size [aBox 48 b75 [.string (bs x62.Name), .slice a64 x62.Mends.length c65, .slice a69 x62.First.length c70, .int .i64 x62.Price, .int .i64 x62.Hours], aOwn fInt 2 a42 c43 st41.1] := SH.ext hS85 hE92
  refine WL.sub [(1, .int .i64 fault_1), (6, .slice a42 st41.1.length c43), (18, .slice a0' list_0.length c0'), (19, .int .i64 (list_0.length : Int)), (20, .int .i64 st41.2), (7, .int .i64 st41.2), (28, .bool x89)] ⟨rfl, rfl, rfl, rfl, rfl, rfl, rfl, trivial⟩ ?_
  refine WL.nil ?_
  refine WQ.then_normal (hK88 _ _ _ ?_)
  obtain ⟨x116, hx117, hm⟩ := bindE hm
  refine WP.cut (fun env' w' => ∃ (a118 : Option Addr) (c119 : Nat), env' = [(1, .int .i64 fault_1), (6, .slice a118 x116.length c119), (18, .slice a0' list_0.length c0'), (19, .int .i64 (list_0.length : Int)), (20, .int .i64 st41.2)] ∧ Ext w w' ∧ w.heap.size ≤ w'.heap.size ∧ SH w' w.heap.size [aOwn fInt 2 a118 c119 x116, aBox 48 b75 [.string (bs x62.Name), .slice a64 x62.Mends.length c65, .slice a69 x62.First.length c70, .int .i64 x62.Price, .int .i64 x62.Hours]]) ?_ ?_
  rotate_left
  · clear hx117
    rintro _ w139 ⟨a118, c119, rfl, hb140, hL141, hS142⟩
    refine WQ.block_normal ?_
    refine WQ.then_normal (hK60 _ _ _ ?_)
    refine WP.region ?_
    refine WL.runk 2 [1, 6, 18, 19, 20] [(1, .int .i64 fault_1), (6, .slice a118 x116.length c119), (18, .slice a0' list_0.length c0'), (19, .int .i64 (list_0.length : Int)), (20, .int .i64 (wI64 (st41.2 + 1)))] (by kernel_rfl) ?_
    refine WL.nil ?_
    obtain rfl := Option.some.inj hm
    exact WQ.round hK51 ⟨(x116, (wI64 (st41.2 + 1))), _, _, rfl, hb140, hL141, (SH.take 1 hS142), hl49⟩ (Nat.lt_succ_self _) ⟨rfl, rfl, rfl, rfl, rfl, trivial⟩
  have hm := hx117; clear hx117
  refine WP.cond x89 rfl rfl (fun hc97 => ?_) (fun hc97 => ?_)
  rotate_left
  · have hm := iteF hm hc97
    refine WP.skip ?_
    obtain rfl := Option.some.inj hm
    exact WQ.post' ⟨_, _, rfl, hb94, hL95, (SH.front 1 hS96)⟩ ⟨rfl, rfl, rfl, rfl, rfl, trivial⟩
  have hm := iteT hm hc97
  refine WP.region ?_
  refine WL.runk 2 [1, 18, 19, 20, 29, 30] [(1, .int .i64 fault_1), (18, .slice a0' list_0.length c0'), (19, .int .i64 (list_0.length : Int)), (20, .int .i64 st41.2), (29, .slice a42 st41.1.length c43), (30, .int .i64 st41.2)] (by kernel_rfl) ?_
  refine WL.row fInt 2 ([st41.2] : List Int) 1 #[.int .i64 st41.2] 31 (by kernel_rfl) rfl rfl rfl rfl rfl rfl rfl ?_
  intro a121 c122 w123 hE124 hR125
  have hb127 : Ext w w123 := Ext.trans hb94 hE124
  have hL128 : w.heap.size ≤ w123.heap.size := Nat.le_trans hL95 hE124.size
  have hS129 : SH w123 w.heap.size [aOwn fInt 2 a121 c122 ([st41.2] : List Int), aBox 48 b75 [.string (bs x62.Name), .slice a64 x62.Mends.length c65, .slice a69 x62.First.length c70, .int .i64 x62.Price, .int .i64 x62.Hours], aOwn fInt 2 a42 c43 st41.1] := SH.add hS96 hE124 hL95 hR125
  obtain ⟨x130, hx131, hm⟩ := bindE hm
  refine WL.append (F := fInt) (xs := st41.1) (ys := ([st41.2] : List Int)) 32 (SH.front 2 hS129) hL128 (SH.rd (SH.front 0 hS129)) hx131 rfl rfl rfl Tryz.underlying25 (info2).1 (info2).2.2.1 (info2).2.1 (info2).2.2.2 rfl rfl rfl rfl rfl ?_
  intro a132 c133 w134 hB135 hS136
  have hb137 : Ext w w134 := Below.trans hb127 hB135
  have hL138 : w.heap.size ≤ w134.heap.size := Nat.le_trans hL128 hB135.size
  refine WL.runk 1 [1, 6, 18, 19, 20] [(1, .int .i64 fault_1), (18, .slice a0' list_0.length c0'), (19, .int .i64 (list_0.length : Int)), (20, .int .i64 st41.2), (6, .slice a132 x130.length c133)] (by kernel_rfl) ?_
  refine WL.nil ?_
  obtain rfl := Option.some.inj hm
  exact WQ.post' ⟨_, _, rfl, hb137, hL138, (SH.take 2 (SH.front 1 (SH.front 2 hS136)))⟩ ⟨rfl, rfl, rfl, rfl, rfl, trivial⟩

theorem c_17 (n : Nat) (list_0 : List SRepair) (a0' : Option Addr) (c0' : Nat) (fault_1 : Int) (w : World) {r : List Int × Int} (hm : m_spec_RepairsFor n list_0 fault_1 = some r) (h0 : Rd fRepair.ty w a0' list_0) (hle0 : list_0.length ≤ c0') :
    CallV Tryz.prog 17 #[.slice a0' list_0.length c0', .int .i64 fault_1] w (fun v w' => ∃ (ra0 : Option Addr) (rc0 : Nat), v = .tuple #[.slice ra0 r.1.length rc0, .int .i64 r.2] ∧ Ext w w' ∧ SH w' w.heap.size [aOwn fInt 2 ra0 rc0 r.1]) := by
  unfold m_spec_RepairsFor at hm
  refine CallV.enter Tryz.func17 rfl (by kernel_rfl) Tryz.ntmps17 (env := [(0, .slice a0' list_0.length c0'), (1, .int .i64 fault_1)]) ⟨rfl, rfl, trivial⟩ ?_
  refine WP.seq (fun K1 hK1 => ?_)
  refine WP.region ?_
  refine WL.runk 2 [0, 1] [(0, .slice a0' list_0.length c0'), (1, .int .i64 fault_1)] (by kernel_rfl) ?_
  refine WL.nil ?_
  refine WQ.then_normal (hK1 _ _ _ ?_)
  refine WP.seq (fun K2 hK2 => ?_)
  refine WP.seq (fun K3 hK3 => ?_)
  refine WP.region ?_
  refine WL.runk 1 [0, 1, 8] [(0, .slice a0' list_0.length c0'), (1, .int .i64 fault_1), (8, .slice a0' list_0.length c0')] (by kernel_rfl) ?_
  obtain ⟨x4, hx5, hm⟩ := bindE hm
  refine WL.call 52 #[.slice a0' list_0.length c0'] rfl rfl (by kernel_rfl) (c_52 n list_0 a0' c0' w hx5 (Rd.below h0 (Ext.refl w)) hle0) ?_
  rintro _ w6 ⟨rfl, hE7⟩
  refine ⟨_, rfl, ?_⟩
  have hb9 : Ext w w6 := Ext.trans (Ext.refl w) hE7
  have hL10 : w.heap.size ≤ w6.heap.size := Nat.le_trans (Nat.le_refl _) hE7.size
  have hS11 : SH w6 w.heap.size [] := SH.ext (SH.nil _ _) hE7
  refine WL.runk 1 [0, 1, 10] [(0, .slice a0' list_0.length c0'), (1, .int .i64 fault_1), (10, .bool (!x4))] (by kernel_rfl) ?_
  refine WL.nil ?_
  refine WQ.then_normal (hK3 _ _ _ ?_)
  refine WP.cond (!x4) rfl rfl (fun hc12 => ?_) (fun hc12 => ?_)
  · have hm := iteT hm hc12
    refine WP.seq (fun K13 hK13 => ?_)
    refine WP.region ?_
    refine WL.runk 2 [4, 5] [(4, .slice none 0 0), (5, .int .i64 1)] (by kernel_rfl) ?_
    refine WL.nil ?_
    refine WQ.then_normal (hK13 _ _ _ ?_)
    refine WP.ret ?_
    refine WQ.then_ret ?_
    obtain rfl := Option.some.inj hm
    have hS15 : SH w6 w.heap.size [aOwn fInt 2 none 0 ([] : List Int)] := SH.nilOwn hS11
    exact WQ.ret2 _ _ rfl rfl rfl ⟨_, _, rfl, hb9, hS15⟩
  have hm := iteF hm hc12
  refine WP.skip ?_
  refine WQ.then_normal (hK2 _ _ _ ?_)
  refine WP.seq (fun K16 hK16 => ?_)
  refine WP.seq (fun K17 hK17 => ?_)
  refine WP.region ?_
  refine WL.runk 1 [0, 1, 11] [(0, .slice a0' list_0.length c0'), (1, .int .i64 fault_1), (11, .int .i64 fault_1)] (by kernel_rfl) ?_
  obtain ⟨x18, hx19, hm⟩ := bindE hm
  refine WL.call 53 #[.int .i64 fault_1, .int .i64 0, .int .i64 9] rfl rfl (by kernel_rfl) (c_53 n fault_1 0 9 w6 hx19 ) ?_
  rintro _ w20 ⟨rfl, hE21⟩
  refine ⟨_, rfl, ?_⟩
  have hb23 : Ext w w20 := Ext.trans hb9 hE21
  have hL24 : w.heap.size ≤ w20.heap.size := Nat.le_trans hL10 hE21.size
  have hS25 : SH w20 w.heap.size [] := SH.ext hS11 hE21
  refine WL.runk 1 [0, 1, 13] [(0, .slice a0' list_0.length c0'), (1, .int .i64 fault_1), (13, .bool (!x18))] (by kernel_rfl) ?_
  refine WL.nil ?_
  refine WQ.then_normal (hK17 _ _ _ ?_)
  refine WP.cond (!x18) rfl rfl (fun hc26 => ?_) (fun hc26 => ?_)
  · have hm := iteT hm hc26
    refine WP.seq (fun K27 hK27 => ?_)
    refine WP.region ?_
    refine WL.runk 2 [4, 5] [(4, .slice none 0 0), (5, .int .i64 2)] (by kernel_rfl) ?_
    refine WL.nil ?_
    refine WQ.then_normal (hK27 _ _ _ ?_)
    refine WP.ret ?_
    refine WQ.then_ret ?_
    obtain rfl := Option.some.inj hm
    have hS29 : SH w20 w.heap.size [aOwn fInt 2 none 0 ([] : List Int)] := SH.nilOwn hS25
    exact WQ.ret2 _ _ rfl rfl rfl ⟨_, _, rfl, hb23, hS29⟩
  have hm := iteF hm hc26
  refine WP.skip ?_
  refine WQ.then_normal (hK16 _ _ _ ?_)
  refine WP.seq (fun K30 hK30 => ?_)
  refine WP.region ?_
  refine WL.row fInt 2 ([] : List Int) 0 #[] 14 (by kernel_rfl) rfl rfl rfl rfl rfl rfl rfl ?_
  intro a31 c32 w33 hE34 hR35
  have hb37 : Ext w w33 := Ext.trans hb23 hE34
  have hL38 : w.heap.size ≤ w33.heap.size := Nat.le_trans hL24 hE34.size
  have hS39 : SH w33 w.heap.size [aOwn fInt 2 a31 c32 ([] : List Int)] := SH.add hS25 hE34 hL24 hR35
  refine WL.runk 1 [0, 1, 6] [(0, .slice a0' list_0.length c0'), (1, .int .i64 fault_1), (6, .slice a31 (([] : List Int).length) c32)] (by kernel_rfl) ?_
  refine WL.nil ?_
  refine WQ.then_normal (hK30 _ _ _ ?_)
  refine WP.seq (fun K40 hK40 => ?_)
  refine WP.seq (fun K41 hK41 => ?_)
  refine WP.region ?_
  refine WL.runk 1 [0, 1, 6, 7] [(0, .slice a0' list_0.length c0'), (1, .int .i64 fault_1), (6, .slice a31 (([] : List Int).length) c32), (7, .int .i64 0)] (by kernel_rfl) ?_
  refine WL.nil ?_
  refine WQ.then_normal (hK41 _ _ _ ?_)
  refine WP.block ?_
  obtain ⟨t56, ht57, hm⟩ := bindE hm
  have hmo51 := hm; clear hm
  refine WP.sub [(0, .slice a0' list_0.length c0'), (1, .int .i64 fault_1), (6, .slice a31 (([] : List Int).length) c32), (7, .int .i64 0)] ⟨rfl, rfl, rfl, rfl, trivial⟩ ?_
  refine WP.loop (fun n' env' w' => ∃ (st42 : List Int × Int) (a43 : Option Addr) (c44 : Nat), env' = [(0, .slice a0' list_0.length c0'), (1, .int .i64 fault_1), (6, .slice a43 st42.1.length c44), (7, .int .i64 st42.2)] ∧ Ext w w' ∧ w.heap.size ≤ w'.heap.size ∧ SH w' w.heap.size [aOwn fInt 2 a43 c44 st42.1] ∧ loopN (m_spec_RepairsFor_l1 n list_0 fault_1) n' st42 = some t56) n ⟨(([] : List Int), 0), _, _, rfl, hb37, hL38, hS39, ht57⟩ ?_
  rintro n53 _ w46 ⟨st42, a43, c44, rfl, hb47, hL48, hS49, hl50⟩ K52 hK52
  obtain ⟨n54, s55, rfl, hm, hl50⟩ := loopN_some hl50
  unfold m_spec_RepairsFor_l1 at hm
  refine WP.seq (fun K58 hK58 => ?_)
  refine WP.seq (fun K59 hK59 => ?_)
  refine WP.region ?_
  refine WL.runk 4 [0, 1, 6, 7, 18] [(0, .slice a0' list_0.length c0'), (1, .int .i64 fault_1), (6, .slice a43 st42.1.length c44), (7, .int .i64 st42.2), (18, .bool (decide (st42.2 < (list_0.length : Int))))] (by kernel_rfl) ?_
  refine WL.nil ?_
  refine WQ.then_normal (hK59 _ _ _ ?_)
  refine WP.cond (decide (st42.2 < (list_0.length : Int))) rfl rfl (fun hc60 => ?_) (fun hc60 => ?_)
  rotate_left
  · have hm := iteF hm hc60
    refine WP.exit ?_
    refine WQ.then_exit ?_
    refine WQ.then_exit ?_
    refine WQ.block_here ?_
    obtain rfl := Option.some.inj hm
    obtain rfl := afterN_done hl50
    have hm := hmo51
    refine WQ.then_normal (hK40 _ _ _ ?_)
    refine WP.seq (fun K130 hK130 => ?_)
    refine WP.region ?_
    refine WL.runk 3 [4, 5] [(4, .slice a43 st42.1.length c44), (5, .int .i64 0)] (by kernel_rfl) ?_
    refine WL.nil ?_
    refine WQ.then_normal (hK130 _ _ _ ?_)
    refine WP.ret ?_
    obtain rfl := Option.some.inj hm
    exact WQ.ret2 _ _ rfl rfl rfl ⟨_, _, rfl, hb47, hS49⟩
  have hm := iteT hm hc60
  refine WP.skip ?_
  refine WQ.then_normal (hK58 _ _ _ ?_)
  refine WP.seq (fun K61 hK61 => ?_)
  refine WP.block ?_
  refine WP.seq (fun K62 hK62 => ?_)
  refine WP.region ?_
  refine WL.runk 2 [0, 1, 6, 7, 21, 22] [(0, .slice a0' list_0.length c0'), (1, .int .i64 fault_1), (6, .slice a43 st42.1.length c44), (7, .int .i64 st42.2), (21, .slice a0' list_0.length c0'), (22, .int .i64 st42.2)] (by kernel_rfl) ?_
  obtain ⟨x63, hx64, hm⟩ := bindE hm
  obtain ⟨a65, c66, a70, c71, hc75, hR67, hle68, hR72, hle73⟩ := nest_Repair h0 hx64
  refine WL.st (.pointer (some (at_ a0' (Int.toNat st42.2 * 5)))) (ST.index (T := fRepair.ty) (xs := list_0) (Rd.below h0 hb47) hx64 rfl rfl rfl Tryz.underlying24 (info48).1 (info48).2.1) rfl rfl rfl ?_
  refine WL.runk 1 [0, 1, 6, 7, 24] [(0, .slice a0' list_0.length c0'), (1, .int .i64 fault_1), (6, .slice a43 st42.1.length c44), (7, .int .i64 st42.2), (24, .pointer (some (at_ a0' (Int.toNat st42.2 * 5 + 1))))] (by kernel_rfl) ?_
  refine WL.st (.slice a65 x63.Mends.length c66) (ST.load (cell_ext ((cells_ext hc75 hb47) 1 _ rfl)) rfl rfl Tryz.underlying25 rfl) rfl rfl rfl ?_
  refine WL.runk 1 [0, 1, 6, 7, 25, 26] [(0, .slice a0' list_0.length c0'), (1, .int .i64 fault_1), (6, .slice a43 st42.1.length c44), (7, .int .i64 st42.2), (25, .slice a65 x63.Mends.length c66), (26, .int .i64 fault_1)] (by kernel_rfl) ?_
  obtain ⟨x76, hx77, hm⟩ := bindE hm
  refine WL.call 54 #[.slice a65 x63.Mends.length c66, .int .i64 fault_1] rfl rfl (by kernel_rfl) (c_54 n x63.Mends a65 c66 fault_1 w46 hx77 (Rd.below hR67 hb47) hle68) ?_
  rintro _ w78 ⟨rfl, hE79⟩
  refine ⟨_, rfl, ?_⟩
  have hb81 : Ext w w78 := Ext.trans hb47 hE79
  have hL82 : w.heap.size ≤ w78.heap.size := Nat.le_trans hL48 hE79.size
  have hS83 : SH w78 w.heap.size [aOwn fInt 2 a43 c44 st42.1] := SH.ext hS49 hE79
  refine WL.sub [(0, .slice a0' list_0.length c0'), (1, .int .i64 fault_1), (6, .slice a43 st42.1.length c44), (7, .int .i64 st42.2), (27, .bool x76)] ⟨rfl, rfl, rfl, rfl, rfl, trivial⟩ ?_
  refine WL.nil ?_
  refine WQ.then_normal (hK62 _ _ _ ?_)
  obtain ⟨x103, hx104, hm⟩ := bindE hm
  refine WP.cut (fun env' w' => ∃ (a105 : Option Addr) (c106 : Nat), env' = [(0, .slice a0' list_0.length c0'), (1, .int .i64 fault_1), (6, .slice a105 x103.length c106), (7, .int .i64 st42.2)] ∧ Ext w w' ∧ w.heap.size ≤ w'.heap.size ∧ SH w' w.heap.size [aOwn fInt 2 a105 c106 x103]) ?_ ?_
  rotate_left
  · clear hx104
    rintro _ w126 ⟨a105, c106, rfl, hb127, hL128, hS129⟩
    refine WQ.block_normal ?_
    refine WQ.then_normal (hK61 _ _ _ ?_)
    refine WP.region ?_
    refine WL.runk 3 [0, 1, 6, 7] [(0, .slice a0' list_0.length c0'), (1, .int .i64 fault_1), (6, .slice a105 x103.length c106), (7, .int .i64 (wI64 (st42.2 + 1)))] (by kernel_rfl) ?_
    refine WL.nil ?_
    obtain rfl := Option.some.inj hm
    exact WQ.round hK52 ⟨(x103, (wI64 (st42.2 + 1))), _, _, rfl, hb127, hL128, hS129, hl50⟩ (Nat.lt_succ_self _) ⟨rfl, rfl, rfl, rfl, trivial⟩
  have hm := hx104; clear hx104
  refine WP.cond x76 rfl rfl (fun hc84 => ?_) (fun hc84 => ?_)
  rotate_left
  · have hm := iteF hm hc84
    refine WP.skip ?_
    obtain rfl := Option.some.inj hm
    exact WQ.post' ⟨_, _, rfl, hb81, hL82, hS83⟩ ⟨rfl, rfl, rfl, rfl, trivial⟩
  have hm := iteT hm hc84
  refine WP.region ?_
  refine WL.runk 2 [0, 1, 7, 28, 29] [(0, .slice a0' list_0.length c0'), (1, .int .i64 fault_1), (7, .int .i64 st42.2), (28, .slice a43 st42.1.length c44), (29, .int .i64 st42.2)] (by kernel_rfl) ?_
  refine WL.row fInt 2 ([st42.2] : List Int) 1 #[.int .i64 st42.2] 30 (by kernel_rfl) rfl rfl rfl rfl rfl rfl rfl ?_
  intro a108 c109 w110 hE111 hR112
  have hb114 : Ext w w110 := Ext.trans hb81 hE111
  have hL115 : w.heap.size ≤ w110.heap.size := Nat.le_trans hL82 hE111.size
  have hS116 : SH w110 w.heap.size [aOwn fInt 2 a108 c109 ([st42.2] : List Int), aOwn fInt 2 a43 c44 st42.1] := SH.add hS83 hE111 hL82 hR112
  obtain ⟨x117, hx118, hm⟩ := bindE hm
  refine WL.append (F := fInt) (xs := st42.1) (ys := ([st42.2] : List Int)) 31 (SH.front 1 hS116) hL115 (SH.rd (SH.front 0 hS116)) hx118 rfl rfl rfl Tryz.underlying25 (info2).1 (info2).2.2.1 (info2).2.1 (info2).2.2.2 rfl rfl rfl rfl rfl ?_
  intro a119 c120 w121 hB122 hS123
  have hb124 : Ext w w121 := Below.trans hb114 hB122
  have hL125 : w.heap.size ≤ w121.heap.size := Nat.le_trans hL115 hB122.size
  refine WL.runk 1 [0, 1, 6, 7] [(0, .slice a0' list_0.length c0'), (1, .int .i64 fault_1), (7, .int .i64 st42.2), (6, .slice a119 x117.length c120)] (by kernel_rfl) ?_
  refine WL.nil ?_
  obtain rfl := Option.some.inj hm
  exact WQ.post' ⟨_, _, rfl, hb124, hL125, (SH.take 1 hS123)⟩ ⟨rfl, rfl, rfl, rfl, trivial⟩

theorem c_18 (n : Nat) (code_0 : List Int) (a0' : Option Addr) (c0' : Nat) (w : World) {r : List SRepair × List SRepair} (hm : m_spec_DrawSameRepairs n code_0 = some r) (h0 : Rd fU8.ty w a0' code_0) (hle0 : code_0.length ≤ c0') :
    CallV Tryz.prog 18 #[.slice a0' code_0.length c0'] w (fun v w' => ∃ (ra0 : Option Addr) (rc0 : Nat) (ra1 : Option Addr) (rc1 : Nat), v = .tuple #[.slice ra0 r.1.length rc0, .slice ra1 r.2.length rc1] ∧ Ext w w' ∧ SH w' w.heap.size [aNest fRepair 48 2 ra0 rc0 r.1, aNest fRepair 48 2 ra1 rc1 r.2]) := by
  unfold m_spec_DrawSameRepairs at hm
  refine CallV.enter Tryz.func18 rfl (by kernel_rfl) Tryz.ntmps18 (env := [(0, .slice a0' code_0.length c0')]) ⟨rfl, trivial⟩ ?_
  refine WP.seq (fun K1 hK1 => ?_)
  refine WP.region ?_
  refine WL.runk 2 [0] [(0, .slice a0' code_0.length c0')] (by kernel_rfl) ?_
  refine WL.nil ?_
  refine WQ.then_normal (hK1 _ _ _ ?_)
  refine WP.seq (fun K2 hK2 => ?_)
  refine WP.region ?_
  refine WL.runk 1 [8] [(8, .slice a0' code_0.length c0')] (by kernel_rfl) ?_
  obtain ⟨x3, hx4, hm⟩ := bindE hm
  refine WL.call 46 #[.slice a0' code_0.length c0'] rfl rfl (by kernel_rfl) (c_46 n code_0 a0' c0' w hx4 (Rd.below h0 (Ext.refl w)) hle0) ?_
  rintro _ w7 ⟨b5, rfl, hE8, hR9⟩
  refine ⟨_, rfl, ?_⟩
  have hb10 : Ext w w7 := Ext.trans (Ext.refl w) hE8
  have hL11 : w.heap.size ≤ w7.heap.size := Nat.le_trans (Nat.le_refl _) hE8.size
  have hS12 : SH w7 w.heap.size [aBox 82 b5 [.slice a0' code_0.length c0', .int .i64 x3.1, .int .u64 x3.2]] := SH.add (SH.nil _ _) hE8 (Nat.le_refl _) hR9
  refine WL.runk 1 [4] [(4, .pointer (some ⟨b5, 0, none⟩))] (by kernel_rfl) ?_
  refine WL.nil ?_
  refine WQ.then_normal (hK2 _ _ _ ?_)
  refine WP.seq (fun K13 hK13 => ?_)
  refine WP.region ?_
  refine WL.runk 1 [4, 10] [(4, .pointer (some ⟨b5, 0, none⟩)), (10, .pointer (some ⟨b5, 0, none⟩))] (by kernel_rfl) ?_
  obtain ⟨x14, hx15, hm⟩ := bindE hm
  refine WL.call 55 #[.pointer (some ⟨b5, 0, none⟩)] rfl rfl (by kernel_rfl) (c_55 n code_0 a0' c0' x3.1 x3.2 b5 w7 w w.heap.size [] hx15 hb10 (Nat.le_refl _) hL11 h0 hle0 hS12) ?_
  rintro _ w19 ⟨a16, c17, rfl, hB23, hS22⟩
  refine ⟨_, rfl, ?_⟩
  have hb24 : Ext w w19 := Below.trans hb10 hB23
  have hL25 : w.heap.size ≤ w19.heap.size := Nat.le_trans hL11 hB23.size
  refine WL.runk 1 [4, 5] [(4, .pointer (some ⟨b5, 0, none⟩)), (5, .slice a16 x14.1.length c17)] (by kernel_rfl) ?_
  refine WL.nil ?_
  refine WQ.then_normal (hK13 _ _ _ ?_)
  refine WP.seq (fun K26 hK26 => ?_)
  refine WP.region ?_
  refine WL.rowN fRepair 48 2 #[] 12 (by kernel_rfl) rfl rfl rfl rfl rfl ?_
  intro a27 c28 w29 hE30 hR31
  have hb33 : Ext w w29 := Ext.trans hb24 hE30
  have hL34 : w.heap.size ≤ w29.heap.size := Nat.le_trans hL25 hE30.size
  have hS35 : SH w29 w.heap.size [aNest fRepair 48 2 a27 c28 ([] : List SRepair), aNest fRepair 48 2 a16 c17 x14.1, aBox 82 b5 [.slice a0' code_0.length c0', .int .i64 x14.2.1, .int .u64 x14.2.2]] := SH.add hS22 hE30 hL25 hR31
  refine WL.runk 1 [4, 5, 6] [(4, .pointer (some ⟨b5, 0, none⟩)), (5, .slice a16 x14.1.length c17), (6, .slice a27 (([] : List SRepair).length) c28)] (by kernel_rfl) ?_
  refine WL.nil ?_
  refine WQ.then_normal (hK26 _ _ _ ?_)
  refine WP.seq (fun K36 hK36 => ?_)
  refine WP.seq (fun K37 hK37 => ?_)
  refine WP.region ?_
  refine WL.runk 1 [4, 5, 6, 7] [(4, .pointer (some ⟨b5, 0, none⟩)), (5, .slice a16 x14.1.length c17), (6, .slice a27 (([] : List SRepair).length) c28), (7, .int .i64 0)] (by kernel_rfl) ?_
  refine WL.nil ?_
  refine WQ.then_normal (hK37 _ _ _ ?_)
  refine WP.block ?_
  obtain ⟨t2117, ht2118, hm⟩ := bindE hm
  have hmo2112 := hm; clear hm
  refine WP.sub [(4, .pointer (some ⟨b5, 0, none⟩)), (5, .slice a16 x14.1.length c17), (6, .slice a27 (([] : List SRepair).length) c28), (7, .int .i64 0)] ⟨rfl, rfl, rfl, rfl, trivial⟩ ?_
  refine WP.loop (fun n' env' w' => ∃ (st2103 : List SRepair × Int × List SRepair) (a2104 : Option Addr) (c2105 : Nat), env' = [(4, .pointer (some ⟨b5, 0, none⟩)), (5, .slice a16 st2103.2.2.length c17), (6, .slice a2104 st2103.1.length c2105), (7, .int .i64 st2103.2.1)] ∧ Ext w w' ∧ w.heap.size ≤ w'.heap.size ∧ SH w' w.heap.size [aNest fRepair 48 2 a2104 c2105 st2103.1, aNest fRepair 48 2 a16 c17 st2103.2.2, aBox 82 b5 [.slice a0' code_0.length c0', .int .i64 x14.2.1, .int .u64 x14.2.2]] ∧ loopN (m_spec_DrawSameRepairs_l1 n) n' st2103 = some t2117) n ⟨(([] : List SRepair), 0, x14.1), _, _, rfl, hb33, hL34, hS35, ht2118⟩ ?_
  rintro n2114 _ w2107 ⟨st2103, a2104, c2105, rfl, hb2108, hL2109, hS2110, hl2111⟩ K2113 hK2113
  obtain ⟨n2115, s2116, rfl, hm, hl2111⟩ := loopN_some hl2111
  unfold m_spec_DrawSameRepairs_l1 at hm
  refine WP.seq (fun K2119 hK2119 => ?_)
  refine WP.seq (fun K2120 hK2120 => ?_)
  refine WP.region ?_
  refine WL.runk 4 [4, 5, 6, 7, 16] [(4, .pointer (some ⟨b5, 0, none⟩)), (5, .slice a16 st2103.2.2.length c17), (6, .slice a2104 st2103.1.length c2105), (7, .int .i64 st2103.2.1), (16, .bool (decide (st2103.2.1 < (st2103.2.2.length : Int))))] (by kernel_rfl) ?_
  refine WL.nil ?_
  refine WQ.then_normal (hK2120 _ _ _ ?_)
  refine WP.cond (decide (st2103.2.1 < (st2103.2.2.length : Int))) rfl rfl (fun hc2121 => ?_) (fun hc2121 => ?_)
  rotate_left
  · have hm := iteF hm hc2121
    refine WP.exit ?_
    refine WQ.then_exit ?_
    refine WQ.then_exit ?_
    refine WQ.block_here ?_
    obtain rfl := Option.some.inj hm
    obtain rfl := afterN_done hl2111
    have hm := hmo2112
    refine WQ.then_normal (hK36 _ _ _ ?_)
    refine WP.seq (fun K2365 hK2365 => ?_)
    refine WP.seq (fun K2366 hK2366 => ?_)
    refine WP.region ?_
    refine WL.runk 3 [4, 5, 6, 52] [(4, .pointer (some ⟨b5, 0, none⟩)), (5, .slice a16 st2103.2.2.length c17), (6, .slice a2104 st2103.1.length c2105), (52, .bool (decide ((st2103.1.length : Int) > 0)))] (by kernel_rfl) ?_
    refine WL.nil ?_
    refine WQ.then_normal (hK2366 _ _ _ ?_)
    obtain ⟨x3666, hx3667, hm⟩ := bindE hm
    refine WP.cut (fun env' w' => env' = [(4, .pointer (some ⟨b5, 0, none⟩)), (5, .slice a16 st2103.2.2.length c17), (6, .slice a2104 x3666.1.length c2105)] ∧ Ext w w' ∧ w.heap.size ≤ w'.heap.size ∧ SH w' w.heap.size [aNest fRepair 48 2 a2104 c2105 x3666.1, aNest fRepair 48 2 a16 c17 st2103.2.2, aBox 82 b5 [.slice a0' code_0.length c0', .int .i64 x3666.2.1, .int .u64 x3666.2.2]]) ?_ ?_
    rotate_left
    · clear hx3667
      rintro _ w4100 ⟨rfl, hb4101, hL4102, hS4103⟩
      refine WQ.then_normal (hK2365 _ _ _ ?_)
      refine WP.seq (fun K4104 hK4104 => ?_)
      refine WP.seq (fun K4105 hK4105 => ?_)
      refine WP.region ?_
      refine WL.runk 1 [5, 6, 75] [(5, .slice a16 st2103.2.2.length c17), (6, .slice a2104 x3666.1.length c2105), (75, .pointer (some ⟨b5, 0, none⟩))] (by kernel_rfl) ?_
      obtain ⟨x4106, hx4107, hm⟩ := bindE hm
      refine WL.call 48 #[.pointer (some ⟨b5, 0, none⟩), .int .i64 5] rfl rfl (by kernel_rfl) (c_48 n code_0 a0' c0' x3666.2.1 x3666.2.2 b5 5 w4100 w w.heap.size [aNest fRepair 48 2 a2104 c2105 x3666.1, aNest fRepair 48 2 a16 c17 st2103.2.2] hx4107 hb4101 (Nat.le_refl _) hL4102 h0 hle0 (SH.front 2 (SH.front 1 (SH.front 1 hS4103)))) ?_
      rintro _ w4108 ⟨rfl, hB4112, hS4111⟩
      refine ⟨_, rfl, ?_⟩
      have hb4113 : Ext w w4108 := Below.trans hb4101 hB4112
      have hL4114 : w.heap.size ≤ w4108.heap.size := Nat.le_trans hL4102 hB4112.size
      refine WL.sub [(5, .slice a16 st2103.2.2.length c17), (6, .slice a2104 x3666.1.length c2105), (76, .bool x4106.1)] ⟨rfl, rfl, rfl, trivial⟩ ?_
      refine WL.nil ?_
      refine WQ.then_normal (hK4105 _ _ _ ?_)
      obtain ⟨x4137, hx4138, hm⟩ := bindE hm
      refine WP.cut (fun env' w' => ∃ (a4139 : Option Addr) (c4140 : Nat), env' = [(5, .slice a16 st2103.2.2.length c17), (6, .slice a4139 x4137.length c4140)] ∧ Ext w w' ∧ w.heap.size ≤ w'.heap.size ∧ SH w' w.heap.size [aNest fRepair 48 2 a4139 c4140 x4137, aBox 82 b5 [.slice a0' code_0.length c0', .int .i64 x4106.2.1, .int .u64 x4106.2.2], aNest fRepair 48 2 a16 c17 st2103.2.2]) ?_ ?_
      rotate_left
      · clear hx4138
        rintro _ w4163 ⟨a4139, c4140, rfl, hb4164, hL4165, hS4166⟩
        refine WQ.then_normal (hK4104 _ _ _ ?_)
        refine WP.seq (fun K4167 hK4167 => ?_)
        refine WP.region ?_
        refine WL.runk 4 [2, 3] [(2, .slice a16 st2103.2.2.length c17), (3, .slice a4139 x4137.length c4140)] (by kernel_rfl) ?_
        refine WL.nil ?_
        refine WQ.then_normal (hK4167 _ _ _ ?_)
        refine WP.ret ?_
        obtain rfl := Option.some.inj hm
        exact WQ.ret2 _ _ rfl rfl rfl ⟨_, _, _, _, rfl, hb4164, (SH.take 2 (SH.front 2 hS4166))⟩
      have hm := hx4138; clear hx4138
      refine WP.cond x4106.1 rfl rfl (fun hc4115 => ?_) (fun hc4115 => ?_)
      rotate_left
      · have hm := iteF hm hc4115
        refine WP.skip ?_
        obtain rfl := Option.some.inj hm
        exact WQ.post' ⟨_, _, rfl, hb4113, hL4114, (SH.front 2 (SH.front 1 (SH.front 2 hS4111)))⟩ ⟨rfl, rfl, trivial⟩
      have hm := iteT hm hc4115
      refine WP.region ?_
      refine WL.runk 2 [5, 77, 78] [(5, .slice a16 st2103.2.2.length c17), (77, .slice a2104 x3666.1.length c2105), (78, .agg #[.string (bs []), .slice none 0 0, .slice none 0 0, .int .i64 0, .int .i64 0])] (by kernel_rfl) ?_
      have hS4143 : SH w4108 w.heap.size [aOwn fInt 2 none 0 ([] : List Int), aBox 82 b5 [.slice a0' code_0.length c0', .int .i64 x4106.2.1, .int .u64 x4106.2.2], aNest fRepair 48 2 a2104 c2105 x3666.1, aNest fRepair 48 2 a16 c17 st2103.2.2] := SH.nilOwn hS4111
      have hS4145 : SH w4108 w.heap.size [aOwn fInt 2 none 0 ([] : List Int), aOwn fInt 2 none 0 ([] : List Int), aBox 82 b5 [.slice a0' code_0.length c0', .int .i64 x4106.2.1, .int .u64 x4106.2.2], aNest fRepair 48 2 a2104 c2105 x3666.1, aNest fRepair 48 2 a16 c17 st2103.2.2] := SH.nilOwn hS4143
      refine WL.row1N (ei := 2) fRepair 48 (I := [aOwn fInt 2 none 0 ([] : List Int), aOwn fInt 2 none 0 ([] : List Int)]) (SRepair.mk [] ([] : List Int) ([] : List Int) 0 0) [.string (bs []), .slice none 0 0, .slice none 0 0, .int .i64 0, .int .i64 0] (.val (Fit.row' rfl (Fit.row' rfl (.val (.val .nil))))) 79 (SH.front 4 (SH.front 3 (SH.front 4 (SH.front 4 (SH.front 4 hS4145))))) hL4114 (by kernel_rfl) rfl rfl rfl rfl ?_
      intro a4146 c4147 w4148 hB4149 hS4150
      have hb4152 : Ext w w4148 := Below.trans hb4113 hB4149
      have hL4153 : w.heap.size ≤ w4148.heap.size := Nat.le_trans hL4114 hB4149.size
      obtain ⟨x4154, hx4155, hm⟩ := bindE hm
      refine WL.appendN (F := fRepair) (ei := 2) (xs := x3666.1) (ys := ([(SRepair.mk [] ([] : List Int) ([] : List Int) 0 0)] : List SRepair)) 80 (SH.front 3 (SH.front 2 (SH.front 2 (SH.front 3 hS4150)))) hL4153 hx4155 rfl rfl rfl Tryz.underlying24 (info48).1 (info48).2.2.1 (info48).2.1 (info48).2.2.2 rfl rfl rfl rfl rfl ?_
      intro a4156 c4157 w4158 hB4159 hS4160
      have hb4161 : Ext w w4158 := Below.trans hb4152 hB4159
      have hL4162 : w.heap.size ≤ w4158.heap.size := Nat.le_trans hL4153 hB4159.size
      refine WL.runk 1 [5, 6] [(5, .slice a16 st2103.2.2.length c17), (6, .slice a4156 x4154.length c4157)] (by kernel_rfl) ?_
      refine WL.nil ?_
      obtain rfl := Option.some.inj hm
      exact WQ.post' ⟨_, _, rfl, hb4161, hL4162, hS4160⟩ ⟨rfl, rfl, trivial⟩
    have hm := hx3667; clear hx3667
    refine WP.cond (decide ((st2103.1.length : Int) > 0)) rfl rfl (fun hc2367 => ?_) (fun hc2367 => ?_)
    rotate_left
    · have hm := iteF hm hc2367
      refine WP.skip ?_
      obtain rfl := Option.some.inj hm
      exact WQ.post' ⟨rfl, hb2108, hL2109, hS2110⟩ ⟨rfl, rfl, rfl, trivial⟩
    have hm := iteT hm hc2367
    refine WP.seq (fun K3668 hK3668 => ?_)
    refine WP.region ?_
    refine WL.runk 1 [4, 5, 6, 53] [(4, .pointer (some ⟨b5, 0, none⟩)), (5, .slice a16 st2103.2.2.length c17), (6, .slice a2104 st2103.1.length c2105), (53, .pointer (some ⟨b5, 0, none⟩))] (by kernel_rfl) ?_
    obtain ⟨x3669, hx3670, hm⟩ := bindE hm
    refine WL.call 50 #[.pointer (some ⟨b5, 0, none⟩), .int .i64 5] rfl rfl (by kernel_rfl) (c_50 n code_0 a0' c0' x14.2.1 x14.2.2 b5 5 w2107 w w.heap.size [aNest fRepair 48 2 a2104 c2105 st2103.1, aNest fRepair 48 2 a16 c17 st2103.2.2] hx3670 hb2108 (Nat.le_refl _) hL2109 h0 hle0 (SH.front 2 (SH.front 1 (SH.front 1 hS2110)))) ?_
    rintro _ w3671 ⟨rfl, hB3675, hS3674⟩
    refine ⟨_, rfl, ?_⟩
    have hb3676 : Ext w w3671 := Below.trans hb2108 hB3675
    have hL3677 : w.heap.size ≤ w3671.heap.size := Nat.le_trans hL2109 hB3675.size
    refine WL.sub [(4, .pointer (some ⟨b5, 0, none⟩)), (5, .slice a16 st2103.2.2.length c17), (6, .slice a2104 st2103.1.length c2105), (54, .int .i64 x3669.1)] ⟨rfl, rfl, rfl, rfl, trivial⟩ ?_
    refine WL.nil ?_
    refine WQ.then_normal (hK3668 _ _ _ ?_)
    refine WP.block ?_
    refine WP.seq (fun K3678 hK3678 => ?_)
    refine WP.region ?_
    refine WL.runk 2 [4, 5, 6, 54, 55] [(4, .pointer (some ⟨b5, 0, none⟩)), (5, .slice a16 st2103.2.2.length c17), (6, .slice a2104 st2103.1.length c2105), (54, .int .i64 x3669.1), (55, .bool (x3669.1 == 0))] (by kernel_rfl) ?_
    refine WL.nil ?_
    refine WQ.then_normal (hK3678 _ _ _ ?_)
    obtain ⟨x3991, hx3992, hm⟩ := bindE hm
    refine WP.cut (fun env' w' => env' = [(4, .pointer (some ⟨b5, 0, none⟩)), (5, .slice a16 st2103.2.2.length c17), (6, .slice a2104 x3991.length c2105)] ∧ Ext w w' ∧ w.heap.size ≤ w'.heap.size ∧ SH w' w.heap.size [aBox 82 b5 [.slice a0' code_0.length c0', .int .i64 x3669.2.1, .int .u64 x3669.2.2], aNest fRepair 48 2 a2104 c2105 x3991, aNest fRepair 48 2 a16 c17 st2103.2.2]) ?_ ?_
    rotate_left
    · clear hx3992
      rintro _ w4096 ⟨rfl, hb4097, hL4098, hS4099⟩
      refine WQ.block_normal ?_
      obtain rfl := Option.some.inj hm
      exact WQ.post' ⟨rfl, hb4097, hL4098, (SH.front 2 (SH.front 2 hS4099))⟩ ⟨rfl, rfl, rfl, trivial⟩
    have hm := hx3992; clear hx3992
    refine WP.cond (x3669.1 == 0) rfl rfl (fun hc3679 => ?_) (fun hc3679 => ?_)
    · have hm := iteT hm hc3679
      refine WP.region ?_
      refine WL.runk 2 [4, 5, 6, 57, 58] [(4, .pointer (some ⟨b5, 0, none⟩)), (5, .slice a16 st2103.2.2.length c17), (6, .slice a2104 st2103.1.length c2105), (57, .slice a2104 st2103.1.length c2105), (58, .slice a2104 st2103.1.length c2105)] (by kernel_rfl) ?_
      obtain ⟨x3993, hx3994, hm⟩ := bindE hm
      obtain ⟨a3995, c3996, a3998, c3999, hS4001⟩ := elem_Repair (SH.front 1 hS3674) hx3994
      refine WL.st (.pointer (some (at_ a2104 (Int.toNat 0 * 5)))) (ST.index (T := fRepair.ty) (xs := st2103.1) (SH.rdN (SH.front 1 hS3674)) hx3994 rfl rfl rfl Tryz.underlying24 (info48).1 (info48).2.1) rfl rfl rfl ?_
      refine WL.runk 1 [4, 5, 6, 57, 60] [(4, .pointer (some ⟨b5, 0, none⟩)), (5, .slice a16 st2103.2.2.length c17), (6, .slice a2104 st2103.1.length c2105), (57, .slice a2104 st2103.1.length c2105), (60, .pointer (some (at_ a2104 (Int.toNat 0 * 5 + 1))))] (by kernel_rfl) ?_
      refine WL.st (.slice a3995 x3993.Mends.length c3996) (ST.load (cell_ext ((SH.holeAt (SH.front 2 hS4001)) 1 _ rfl)) rfl rfl Tryz.underlying25 rfl) rfl rfl rfl ?_
      refine WL.row fInt 2 ([9] : List Int) 1 #[.int .i64 9] 62 (by kernel_rfl) rfl rfl rfl rfl rfl rfl rfl ?_
      intro a4002 c4003 w4004 hE4005 hR4006
      have hb4008 : Ext w w4004 := Ext.trans hb3676 hE4005
      have hL4009 : w.heap.size ≤ w4004.heap.size := Nat.le_trans hL3677 hE4005.size
      have hS4010 : SH w4004 w.heap.size [aOwn fInt 2 a4002 c4003 ([9] : List Int), aOwn fInt 2 a3995 c3996 x3993.Mends, aOwn fInt 2 a3998 c3999 x3993.First, aHole fRepair 48 2 a2104 c2105 st2103.1 (Int.toNat 0) [.string (bs x3993.Name), .slice a3995 x3993.Mends.length c3996, .slice a3998 x3993.First.length c3999, .int .i64 x3993.Price, .int .i64 x3993.Hours], aBox 82 b5 [.slice a0' code_0.length c0', .int .i64 x3669.2.1, .int .u64 x3669.2.2], aNest fRepair 48 2 a16 c17 st2103.2.2] := SH.add hS4001 hE4005 hL3677 hR4006
      obtain ⟨x4011, hx4012, hm⟩ := bindE hm
      refine WL.append (F := fInt) (xs := x3993.Mends) (ys := ([9] : List Int)) 63 (SH.front 1 hS4010) hL4009 (SH.rd (SH.front 0 hS4010)) hx4012 rfl rfl rfl Tryz.underlying25 (info2).1 (info2).2.2.1 (info2).2.1 (info2).2.2.2 rfl rfl rfl rfl rfl ?_
      intro a4013 c4014 w4015 hB4016 hS4017
      have hb4018 : Ext w w4015 := Below.trans hb4008 hB4016
      have hL4019 : w.heap.size ≤ w4015.heap.size := Nat.le_trans hL4009 hB4016.size
      refine WL.st (.pointer (some (at_ a2104 (Int.toNat 0 * 5)))) (ST.indexA (T := fRepair.ty) (xs := st2103.1) (SH.holeHead (SH.front 3 hS4017)) hx3994 rfl rfl rfl Tryz.underlying24 (info48).1 (info48).2.1) rfl rfl rfl ?_
      refine WL.runk 1 [4, 5, 6, 63, 65] [(4, .pointer (some ⟨b5, 0, none⟩)), (5, .slice a16 st2103.2.2.length c17), (6, .slice a2104 st2103.1.length c2105), (63, .slice a4013 x4011.length c4014), (65, .pointer (some (at_ a2104 (Int.toNat 0 * 5 + 1))))] (by kernel_rfl) ?_
      refine WL.holeStore 1 [.slice a4013 x4011.length c4014] [.string (bs x3993.Name), .slice a4013 x4011.length c4014, .slice a3998 x3993.First.length c3999, .int .i64 x3993.Price, .int .i64 x3993.Hours] (SH.front 3 hS4017) hL4019 rfl rfl rfl rfl rfl rfl rfl (info25).1 (info25).2.1 rfl rfl rfl ?_
      intro w4020 hB4021 hS4022
      have hb4023 : Ext w w4020 := Below.trans hb4018 hB4021
      have hL4024 : w.heap.size ≤ w4020.heap.size := Nat.le_trans hL4019 hB4021.size
      refine WL.sub [(4, .pointer (some ⟨b5, 0, none⟩)), (5, .slice a16 st2103.2.2.length c17), (6, .slice a2104 st2103.1.length c2105)] ⟨rfl, rfl, rfl, trivial⟩ ?_
      have hS4025 : SH w4020 w.heap.size [aNest fRepair 48 2 a2104 c2105 (st2103.1.set (Int.toNat 0) (SRepair.mk x3993.Name x4011 x3993.First x3993.Price x3993.Hours)), aOwn fInt 2 a4002 c4003 ([9] : List Int), aBox 82 b5 [.slice a0' code_0.length c0', .int .i64 x3669.2.1, .int .u64 x3669.2.2], aNest fRepair 48 2 a16 c17 st2103.2.2] := SH.elemBack (Ix := [aOwn fInt 2 a4013 c4014 x4011, aOwn fInt 2 a3998 c3999 x3993.First]) (x' := (SRepair.mk x3993.Name x4011 x3993.First x3993.Price x3993.Hours)) (SH.front 5 (SH.front 5 (SH.front 3 (SH.front 4 (SH.front 5 (SH.front 5 hS4022)))))) (.val (Fit.row' rfl (Fit.row' rfl (.val (.val .nil)))))
      refine WL.sub [(4, .pointer (some ⟨b5, 0, none⟩)), (5, .slice a16 st2103.2.2.length c17), (6, .slice a2104 ((st2103.1.set (Int.toNat 0) (SRepair.mk x3993.Name x4011 x3993.First x3993.Price x3993.Hours)).length) c2105)] ⟨rfl, rfl, by first | (simp only [List.length_set]; done) | (simp only [List.length_set]; rfl), trivial⟩ ?_
      refine WL.nil ?_
      obtain rfl := Option.some.inj hm
      exact WQ.post' ⟨rfl, hb4023, hL4024, (SH.take 3 (SH.front 3 (SH.front 1 (SH.front 3 hS4025))))⟩ ⟨rfl, rfl, rfl, trivial⟩
    have hm := iteF hm hc3679
    refine WP.seq (fun K4026 hK4026 => ?_)
    refine WP.region ?_
    refine WL.runk 2 [4, 5, 6, 66] [(4, .pointer (some ⟨b5, 0, none⟩)), (5, .slice a16 st2103.2.2.length c17), (6, .slice a2104 st2103.1.length c2105), (66, .bool (x3669.1 == 1))] (by kernel_rfl) ?_
    refine WL.nil ?_
    refine WQ.then_normal (hK4026 _ _ _ ?_)
    obtain ⟨x4075, hx4076, hm⟩ := bindE hm
    refine WP.cut (fun env' w' => env' = [(4, .pointer (some ⟨b5, 0, none⟩)), (5, .slice a16 st2103.2.2.length c17), (6, .slice a2104 x4075.length c2105)] ∧ Ext w w' ∧ w.heap.size ≤ w'.heap.size ∧ SH w' w.heap.size [aBox 82 b5 [.slice a0' code_0.length c0', .int .i64 x3669.2.1, .int .u64 x3669.2.2], aNest fRepair 48 2 a2104 c2105 x4075, aNest fRepair 48 2 a16 c17 st2103.2.2]) ?_ ?_
    rotate_left
    · clear hx4076
      rintro _ w4092 ⟨rfl, hb4093, hL4094, hS4095⟩
      obtain rfl := Option.some.inj hm
      exact WQ.post' ⟨rfl, hb4093, hL4094, hS4095⟩ ⟨rfl, rfl, rfl, trivial⟩
    have hm := hx4076; clear hx4076
    refine WP.cond (x3669.1 == 1) rfl rfl (fun hc4027 => ?_) (fun hc4027 => ?_)
    rotate_left
    · have hm := iteF hm hc4027
      refine WP.skip ?_
      obtain rfl := Option.some.inj hm
      exact WQ.post' ⟨rfl, hb3676, hL3677, hS3674⟩ ⟨rfl, rfl, rfl, trivial⟩
    have hm := iteT hm hc4027
    refine WP.region ?_
    refine WL.runk 1 [4, 5, 6, 68] [(4, .pointer (some ⟨b5, 0, none⟩)), (5, .slice a16 st2103.2.2.length c17), (6, .slice a2104 st2103.1.length c2105), (68, .slice a2104 st2103.1.length c2105)] (by kernel_rfl) ?_
    obtain ⟨x4077, hx4078, hm⟩ := bindE hm
    obtain ⟨a4079, c4080, a4082, c4083, hS4085⟩ := elem_Repair (SH.front 1 hS3674) hx4078
    refine WL.st (.pointer (some (at_ a2104 (Int.toNat 0 * 5)))) (ST.index (T := fRepair.ty) (xs := st2103.1) (SH.rdN (SH.front 1 hS3674)) hx4078 rfl rfl rfl Tryz.underlying24 (info48).1 (info48).2.1) rfl rfl rfl ?_
    refine WL.runk 1 [4, 5, 6, 68, 70] [(4, .pointer (some ⟨b5, 0, none⟩)), (5, .slice a16 st2103.2.2.length c17), (6, .slice a2104 st2103.1.length c2105), (68, .slice a2104 st2103.1.length c2105), (70, .pointer (some (at_ a2104 (Int.toNat 0 * 5 + 4))))] (by kernel_rfl) ?_
    refine WL.st (.int .i64 x4077.Hours) (ST.load (cell_ext ((SH.holeAt (SH.front 2 hS4085)) 4 _ rfl)) rfl rfl Tryz.underlying2 rfl) rfl rfl rfl ?_
    refine WL.runk 1 [4, 5, 6, 68, 72] [(4, .pointer (some ⟨b5, 0, none⟩)), (5, .slice a16 st2103.2.2.length c17), (6, .slice a2104 st2103.1.length c2105), (68, .slice a2104 st2103.1.length c2105), (72, .int .i64 (wI64 (x4077.Hours + 1)))] (by kernel_rfl) ?_
    refine WL.st (.pointer (some (at_ a2104 (Int.toNat 0 * 5)))) (ST.indexA (T := fRepair.ty) (xs := st2103.1) (SH.holeHead (SH.front 2 hS4085)) hx4078 rfl rfl rfl Tryz.underlying24 (info48).1 (info48).2.1) rfl rfl rfl ?_
    refine WL.runk 1 [4, 5, 6, 72, 74] [(4, .pointer (some ⟨b5, 0, none⟩)), (5, .slice a16 st2103.2.2.length c17), (6, .slice a2104 st2103.1.length c2105), (72, .int .i64 (wI64 (x4077.Hours + 1))), (74, .pointer (some (at_ a2104 (Int.toNat 0 * 5 + 4))))] (by kernel_rfl) ?_
    refine WL.holeStore 4 [.int .i64 (wI64 (x4077.Hours + 1))] [.string (bs x4077.Name), .slice a4079 x4077.Mends.length c4080, .slice a4082 x4077.First.length c4083, .int .i64 x4077.Price, .int .i64 (wI64 (x4077.Hours + 1))] (SH.front 2 hS4085) hL3677 rfl rfl rfl rfl rfl rfl rfl (info2).1 (info2).2.1 rfl rfl rfl ?_
    intro w4086 hB4087 hS4088
    have hb4089 : Ext w w4086 := Below.trans hb3676 hB4087
    have hL4090 : w.heap.size ≤ w4086.heap.size := Nat.le_trans hL3677 hB4087.size
    refine WL.sub [(4, .pointer (some ⟨b5, 0, none⟩)), (5, .slice a16 st2103.2.2.length c17), (6, .slice a2104 st2103.1.length c2105)] ⟨rfl, rfl, rfl, trivial⟩ ?_
    have hS4091 : SH w4086 w.heap.size [aNest fRepair 48 2 a2104 c2105 (st2103.1.set (Int.toNat 0) (SRepair.mk x4077.Name x4077.Mends x4077.First x4077.Price (wI64 (x4077.Hours + 1)))), aBox 82 b5 [.slice a0' code_0.length c0', .int .i64 x3669.2.1, .int .u64 x3669.2.2], aNest fRepair 48 2 a16 c17 st2103.2.2] := SH.elemBack (Ix := [aOwn fInt 2 a4079 c4080 x4077.Mends, aOwn fInt 2 a4082 c4083 x4077.First]) (x' := (SRepair.mk x4077.Name x4077.Mends x4077.First x4077.Price (wI64 (x4077.Hours + 1)))) (SH.front 4 (SH.front 4 (SH.front 2 (SH.front 4 (SH.front 4 hS4088))))) (.val (Fit.row' rfl (Fit.row' rfl (.val (.val .nil)))))
    refine WL.sub [(4, .pointer (some ⟨b5, 0, none⟩)), (5, .slice a16 st2103.2.2.length c17), (6, .slice a2104 ((st2103.1.set (Int.toNat 0) (SRepair.mk x4077.Name x4077.Mends x4077.First x4077.Price (wI64 (x4077.Hours + 1)))).length) c2105)] ⟨rfl, rfl, by first | (simp only [List.length_set]; done) | (simp only [List.length_set]; rfl), trivial⟩ ?_
    refine WL.nil ?_
    obtain rfl := Option.some.inj hm
    exact WQ.post' ⟨rfl, hb4089, hL4090, (SH.front 2 (SH.front 1 (SH.front 2 hS4091)))⟩ ⟨rfl, rfl, rfl, trivial⟩
  have hm := iteT hm hc2121
  refine WP.skip ?_
  refine WQ.then_normal (hK2119 _ _ _ ?_)
  refine WP.seq (fun K2122 hK2122 => ?_)
  refine WP.block ?_
  refine WP.open (n := 32) (by kernel_rfl) rfl (fun w2123 hE2124 => ?_)
  have hb2125 : Ext w w2123 := Ext.trans hb2108 hE2124
  have hL2126 : w.heap.size ≤ w2123.heap.size := Nat.le_trans hL2109 hE2124.size
  have hS2127 : SH w2123 w.heap.size [aNest fRepair 48 2 a2104 c2105 st2103.1, aNest fRepair 48 2 a16 c17 st2103.2.2, aBox 82 b5 [.slice a0' code_0.length c0', .int .i64 x14.2.1, .int .u64 x14.2.2]] := SH.ext hS2110 hE2124
  obtain ⟨x2129, hx2130, hm⟩ := bindE hm
  obtain ⟨a2131, c2132, a2134, c2135, hS2137⟩ := elem_Repair (SH.front 1 hS2127) hx2130
  obtain ⟨x2211, hx2212, hm⟩ := bindE hm
  obtain ⟨x2258, hx2259, hm⟩ := bindE hm
  refine WA.par (R := []) (f' := 2) (D' := [0, 1, 2, 3, 4, 5, 6, 7, 8, 9, 10, 11, 12, 13, 14, 15, 16, 17, 18, 19, 20, 21, 22, 23, 24, 25, 26, 27, 28, 29]) [⟨0, [], fun _ => .slice a2104 st2103.1.length c2105⟩, ⟨1, [], fun _ => .slice a16 st2103.2.2.length c17⟩, ⟨2, [], fun _ => .int .i64 st2103.2.1⟩, ⟨3, [], fun _ => .pointer (some (at_ a16 (Int.toNat st2103.2.1 * 5)))⟩, ⟨4, [], fun _ => .pointer (some (at_ a16 (Int.toNat st2103.2.1 * 5)))⟩, ⟨5, [], fun _ => .string (bs x2129.Name)⟩, ⟨6, [], fun _ => .slice a16 st2103.2.2.length c17⟩, ⟨7, [], fun _ => .int .i64 st2103.2.1⟩, ⟨8, [], fun _ => .pointer (some (at_ a16 (Int.toNat st2103.2.1 * 5)))⟩, ⟨9, [], fun _ => .pointer (some (at_ a16 (Int.toNat st2103.2.1 * 5 + 1)))⟩, ⟨10, [], fun _ => .slice a2131 x2129.Mends.length c2132⟩, ⟨11, [11], fun g2128 => .slice ((g2128 11 0).1) x2211.length ((g2128 11 0).2)⟩, ⟨12, [], fun _ => .slice a16 st2103.2.2.length c17⟩, ⟨13, [], fun _ => .int .i64 st2103.2.1⟩, ⟨14, [], fun _ => .pointer (some (at_ a16 (Int.toNat st2103.2.1 * 5)))⟩, ⟨15, [], fun _ => .pointer (some (at_ a16 (Int.toNat st2103.2.1 * 5 + 2)))⟩, ⟨16, [], fun _ => .slice a2134 x2129.First.length c2135⟩, ⟨17, [17], fun g2128 => .slice ((g2128 17 0).1) x2258.length ((g2128 17 0).2)⟩, ⟨18, [], fun _ => .slice a16 st2103.2.2.length c17⟩, ⟨19, [], fun _ => .int .i64 st2103.2.1⟩, ⟨20, [], fun _ => .pointer (some (at_ a16 (Int.toNat st2103.2.1 * 5)))⟩, ⟨21, [], fun _ => .pointer (some (at_ a16 (Int.toNat st2103.2.1 * 5 + 3)))⟩, ⟨22, [], fun _ => .int .i64 x2129.Price⟩, ⟨23, [], fun _ => .slice a16 st2103.2.2.length c17⟩, ⟨24, [], fun _ => .int .i64 st2103.2.1⟩, ⟨25, [], fun _ => .pointer (some (at_ a16 (Int.toNat st2103.2.1 * 5)))⟩, ⟨26, [], fun _ => .pointer (some (at_ a16 (Int.toNat st2103.2.1 * 5 + 4)))⟩, ⟨27, [], fun _ => .int .i64 x2129.Hours⟩, ⟨28, [11, 17], fun g2128 => .agg #[.string (bs x2129.Name), .slice ((g2128 11 0).1) x2211.length ((g2128 11 0).2), .slice ((g2128 17 0).1) x2258.length ((g2128 17 0).2), .int .i64 x2129.Price, .int .i64 x2129.Hours]⟩, ⟨29, [29], fun g2128 => .slice ((g2128 29 0).1) (([(SRepair.mk x2129.Name x2211 x2258 x2129.Price x2129.Hours)] : List SRepair).length) ((g2128 29 0).2)⟩] [⟨[aOwn fInt 2 a2131 c2132 x2129.Mends], []⟩, ⟨[aOwn fInt 2 a2134 c2135 x2129.First], []⟩, ⟨[aHole fRepair 48 2 a16 c17 st2103.2.2 (Int.toNat st2103.2.1) [.string (bs x2129.Name), .slice a2131 x2129.Mends.length c2132, .slice a2134 x2129.First.length c2135, .int .i64 x2129.Price, .int .i64 x2129.Hours]], []⟩, ⟨[aNest fRepair 48 2 a2104 c2105 st2103.1], []⟩, ⟨[aBox 82 b5 [.slice a0' code_0.length c0', .int .i64 x14.2.1, .int .u64 x14.2.2]], []⟩, ⟨[], [⟨11, [11], fun g2128 => [aOwn fInt 2 ((g2128 11 0).1) ((g2128 11 0).2) x2211]⟩, ⟨29, [], fun _ => []⟩]⟩, ⟨[], [⟨17, [17], fun g2128 => [aOwn fInt 2 ((g2128 17 0).1) ((g2128 17 0).2) x2258]⟩, ⟨29, [], fun _ => []⟩]⟩, ⟨[], [⟨29, [29], fun g2128 => [aNest fRepair 48 2 ((g2128 29 0).1) ((g2128 29 0).2) ([(SRepair.mk x2129.Name x2211 x2258 x2129.Price x2129.Hours)] : List SRepair)]⟩]⟩] rfl rfl hS2137 (by kernel_rfl) (by kernel_rfl) ⟨?_, ?_, ?_, ?_, ?_, ?_, ?_, ?_, ?_, ?_, ?_, ?_, ?_, ?_, ?_, ?_, ?_, ?_, ?_, ?_, ?_, ?_, ?_, ?_, ?_, ?_, ?_, ?_, ?_, ?_, trivial⟩ ?_
  · intro g2128 w2139 R2138 hB2140 hS2141
    have hS2142 : SH w2139 w.heap.size (aOwn fInt 2 a2131 c2132 x2129.Mends :: aOwn fInt 2 a2134 c2135 x2129.First :: aHole fRepair 48 2 a16 c17 st2103.2.2 (Int.toNat st2103.2.1) [.string (bs x2129.Name), .slice a2131 x2129.Mends.length c2132, .slice a2134 x2129.First.length c2135, .int .i64 x2129.Price, .int .i64 x2129.Hours] :: aNest fRepair 48 2 a2104 c2105 st2103.1 :: aBox 82 b5 [.slice a0' code_0.length c0', .int .i64 x14.2.1, .int .u64 x14.2.2] :: R2138) := memEq hS2141 (by kernel_rfl)
    have hb2143 : Ext w w2139 := Below.trans hb2125 hB2140
    have hL2144 : w.heap.size ≤ w2139.heap.size := Nat.le_trans hL2126 hB2140.size
    refine WL.subk [6] [(6, .slice a2104 st2103.1.length c2105)] (by kernel_rfl) ?_
    refine WL.runk 1 [19] [(19, .slice a2104 st2103.1.length c2105)] (by kernel_rfl) ?_
    refine WL.nil ?_
    exact QP.intro (fun k => ([] : List (Option Addr × Nat)).getD k (none, 0)) (d := 19) (by kernel_rfl) (by kernel_rfl) (Below.refl _ _) hS2142 (by kernel_rfl)
  · intro g2128 w2145 R2138 hB2146 hS2147
    have hS2148 : SH w2145 w.heap.size (aOwn fInt 2 a2131 c2132 x2129.Mends :: aOwn fInt 2 a2134 c2135 x2129.First :: aHole fRepair 48 2 a16 c17 st2103.2.2 (Int.toNat st2103.2.1) [.string (bs x2129.Name), .slice a2131 x2129.Mends.length c2132, .slice a2134 x2129.First.length c2135, .int .i64 x2129.Price, .int .i64 x2129.Hours] :: aNest fRepair 48 2 a2104 c2105 st2103.1 :: aBox 82 b5 [.slice a0' code_0.length c0', .int .i64 x14.2.1, .int .u64 x14.2.2] :: R2138) := memEq hS2147 (by kernel_rfl)
    have hb2149 : Ext w w2145 := Below.trans hb2125 hB2146
    have hL2150 : w.heap.size ≤ w2145.heap.size := Nat.le_trans hL2126 hB2146.size
    refine WL.subk [5] [(5, .slice a16 st2103.2.2.length c17)] (by kernel_rfl) ?_
    refine WL.runk 1 [20] [(20, .slice a16 st2103.2.2.length c17)] (by kernel_rfl) ?_
    refine WL.nil ?_
    exact QP.intro (fun k => ([] : List (Option Addr × Nat)).getD k (none, 0)) (d := 20) (by kernel_rfl) (by kernel_rfl) (Below.refl _ _) hS2148 (by kernel_rfl)
  · intro g2128 w2151 R2138 hB2152 hS2153
    have hS2154 : SH w2151 w.heap.size (aOwn fInt 2 a2131 c2132 x2129.Mends :: aOwn fInt 2 a2134 c2135 x2129.First :: aHole fRepair 48 2 a16 c17 st2103.2.2 (Int.toNat st2103.2.1) [.string (bs x2129.Name), .slice a2131 x2129.Mends.length c2132, .slice a2134 x2129.First.length c2135, .int .i64 x2129.Price, .int .i64 x2129.Hours] :: aNest fRepair 48 2 a2104 c2105 st2103.1 :: aBox 82 b5 [.slice a0' code_0.length c0', .int .i64 x14.2.1, .int .u64 x14.2.2] :: R2138) := memEq hS2153 (by kernel_rfl)
    have hb2155 : Ext w w2151 := Below.trans hb2125 hB2152
    have hL2156 : w.heap.size ≤ w2151.heap.size := Nat.le_trans hL2126 hB2152.size
    refine WL.subk [7] [(7, .int .i64 st2103.2.1)] (by kernel_rfl) ?_
    refine WL.runk 1 [21] [(21, .int .i64 st2103.2.1)] (by kernel_rfl) ?_
    refine WL.nil ?_
    exact QP.intro (fun k => ([] : List (Option Addr × Nat)).getD k (none, 0)) (d := 21) (by kernel_rfl) (by kernel_rfl) (Below.refl _ _) hS2154 (by kernel_rfl)
  · intro g2128 w2157 R2138 hB2158 hS2159
    have hS2160 : SH w2157 w.heap.size (aOwn fInt 2 a2131 c2132 x2129.Mends :: aOwn fInt 2 a2134 c2135 x2129.First :: aHole fRepair 48 2 a16 c17 st2103.2.2 (Int.toNat st2103.2.1) [.string (bs x2129.Name), .slice a2131 x2129.Mends.length c2132, .slice a2134 x2129.First.length c2135, .int .i64 x2129.Price, .int .i64 x2129.Hours] :: aNest fRepair 48 2 a2104 c2105 st2103.1 :: aBox 82 b5 [.slice a0' code_0.length c0', .int .i64 x14.2.1, .int .u64 x14.2.2] :: R2138) := memEq hS2159 (by kernel_rfl)
    have hb2161 : Ext w w2157 := Below.trans hb2125 hB2158
    have hL2162 : w.heap.size ≤ w2157.heap.size := Nat.le_trans hL2126 hB2158.size
    refine WL.subk [20, 21] [(20, .slice a16 st2103.2.2.length c17), (21, .int .i64 st2103.2.1)] (by kernel_rfl) ?_
    refine WL.st (.pointer (some (at_ a16 (Int.toNat st2103.2.1 * 5)))) (ST.indexA (T := fRepair.ty) (xs := st2103.2.2) (SH.holeHead (SH.front 2 hS2160)) hx2130 rfl rfl rfl Tryz.underlying24 (info48).1 (info48).2.1) rfl rfl rfl ?_
    refine WL.nil ?_
    exact QP.intro (fun k => ([] : List (Option Addr × Nat)).getD k (none, 0)) (d := 22) (by kernel_rfl) (by kernel_rfl) (Below.refl _ _) hS2160 (by kernel_rfl)
  · intro g2128 w2163 R2138 hB2164 hS2165
    have hS2166 : SH w2163 w.heap.size (aOwn fInt 2 a2131 c2132 x2129.Mends :: aOwn fInt 2 a2134 c2135 x2129.First :: aHole fRepair 48 2 a16 c17 st2103.2.2 (Int.toNat st2103.2.1) [.string (bs x2129.Name), .slice a2131 x2129.Mends.length c2132, .slice a2134 x2129.First.length c2135, .int .i64 x2129.Price, .int .i64 x2129.Hours] :: aNest fRepair 48 2 a2104 c2105 st2103.1 :: aBox 82 b5 [.slice a0' code_0.length c0', .int .i64 x14.2.1, .int .u64 x14.2.2] :: R2138) := memEq hS2165 (by kernel_rfl)
    have hb2167 : Ext w w2163 := Below.trans hb2125 hB2164
    have hL2168 : w.heap.size ≤ w2163.heap.size := Nat.le_trans hL2126 hB2164.size
    refine WL.subk [22] [(22, .pointer (some (at_ a16 (Int.toNat st2103.2.1 * 5))))] (by kernel_rfl) ?_
    refine WL.runk 1 [23] [(23, .pointer (some (at_ a16 (Int.toNat st2103.2.1 * 5))))] (by kernel_rfl) ?_
    refine WL.nil ?_
    exact QP.intro (fun k => ([] : List (Option Addr × Nat)).getD k (none, 0)) (d := 23) (by kernel_rfl) (by kernel_rfl) (Below.refl _ _) hS2166 (by kernel_rfl)
  · intro g2128 w2169 R2138 hB2170 hS2171
    have hS2172 : SH w2169 w.heap.size (aOwn fInt 2 a2131 c2132 x2129.Mends :: aOwn fInt 2 a2134 c2135 x2129.First :: aHole fRepair 48 2 a16 c17 st2103.2.2 (Int.toNat st2103.2.1) [.string (bs x2129.Name), .slice a2131 x2129.Mends.length c2132, .slice a2134 x2129.First.length c2135, .int .i64 x2129.Price, .int .i64 x2129.Hours] :: aNest fRepair 48 2 a2104 c2105 st2103.1 :: aBox 82 b5 [.slice a0' code_0.length c0', .int .i64 x14.2.1, .int .u64 x14.2.2] :: R2138) := memEq hS2171 (by kernel_rfl)
    have hb2173 : Ext w w2169 := Below.trans hb2125 hB2170
    have hL2174 : w.heap.size ≤ w2169.heap.size := Nat.le_trans hL2126 hB2170.size
    refine WL.subk [23] [(23, .pointer (some (at_ a16 (Int.toNat st2103.2.1 * 5))))] (by kernel_rfl) ?_
    refine WL.st (.string (bs x2129.Name)) (ST.load (cell_ext ((SH.holeAt (SH.front 2 hS2172)) 0 _ rfl)) rfl rfl Tryz.underlying9 rfl) rfl rfl rfl ?_
    refine WL.nil ?_
    exact QP.intro (fun k => ([] : List (Option Addr × Nat)).getD k (none, 0)) (d := 24) (by kernel_rfl) (by kernel_rfl) (Below.refl _ _) hS2172 (by kernel_rfl)
  · intro g2128 w2175 R2138 hB2176 hS2177
    have hS2178 : SH w2175 w.heap.size (aOwn fInt 2 a2131 c2132 x2129.Mends :: aOwn fInt 2 a2134 c2135 x2129.First :: aHole fRepair 48 2 a16 c17 st2103.2.2 (Int.toNat st2103.2.1) [.string (bs x2129.Name), .slice a2131 x2129.Mends.length c2132, .slice a2134 x2129.First.length c2135, .int .i64 x2129.Price, .int .i64 x2129.Hours] :: aNest fRepair 48 2 a2104 c2105 st2103.1 :: aBox 82 b5 [.slice a0' code_0.length c0', .int .i64 x14.2.1, .int .u64 x14.2.2] :: R2138) := memEq hS2177 (by kernel_rfl)
    have hb2179 : Ext w w2175 := Below.trans hb2125 hB2176
    have hL2180 : w.heap.size ≤ w2175.heap.size := Nat.le_trans hL2126 hB2176.size
    refine WL.subk [5] [(5, .slice a16 st2103.2.2.length c17)] (by kernel_rfl) ?_
    refine WL.runk 1 [25] [(25, .slice a16 st2103.2.2.length c17)] (by kernel_rfl) ?_
    refine WL.nil ?_
    exact QP.intro (fun k => ([] : List (Option Addr × Nat)).getD k (none, 0)) (d := 25) (by kernel_rfl) (by kernel_rfl) (Below.refl _ _) hS2178 (by kernel_rfl)
  · intro g2128 w2181 R2138 hB2182 hS2183
    have hS2184 : SH w2181 w.heap.size (aOwn fInt 2 a2131 c2132 x2129.Mends :: aOwn fInt 2 a2134 c2135 x2129.First :: aHole fRepair 48 2 a16 c17 st2103.2.2 (Int.toNat st2103.2.1) [.string (bs x2129.Name), .slice a2131 x2129.Mends.length c2132, .slice a2134 x2129.First.length c2135, .int .i64 x2129.Price, .int .i64 x2129.Hours] :: aNest fRepair 48 2 a2104 c2105 st2103.1 :: aBox 82 b5 [.slice a0' code_0.length c0', .int .i64 x14.2.1, .int .u64 x14.2.2] :: R2138) := memEq hS2183 (by kernel_rfl)
    have hb2185 : Ext w w2181 := Below.trans hb2125 hB2182
    have hL2186 : w.heap.size ≤ w2181.heap.size := Nat.le_trans hL2126 hB2182.size
    refine WL.subk [7] [(7, .int .i64 st2103.2.1)] (by kernel_rfl) ?_
    refine WL.runk 1 [26] [(26, .int .i64 st2103.2.1)] (by kernel_rfl) ?_
    refine WL.nil ?_
    exact QP.intro (fun k => ([] : List (Option Addr × Nat)).getD k (none, 0)) (d := 26) (by kernel_rfl) (by kernel_rfl) (Below.refl _ _) hS2184 (by kernel_rfl)
  · intro g2128 w2187 R2138 hB2188 hS2189
    have hS2190 : SH w2187 w.heap.size (aOwn fInt 2 a2131 c2132 x2129.Mends :: aOwn fInt 2 a2134 c2135 x2129.First :: aHole fRepair 48 2 a16 c17 st2103.2.2 (Int.toNat st2103.2.1) [.string (bs x2129.Name), .slice a2131 x2129.Mends.length c2132, .slice a2134 x2129.First.length c2135, .int .i64 x2129.Price, .int .i64 x2129.Hours] :: aNest fRepair 48 2 a2104 c2105 st2103.1 :: aBox 82 b5 [.slice a0' code_0.length c0', .int .i64 x14.2.1, .int .u64 x14.2.2] :: R2138) := memEq hS2189 (by kernel_rfl)
    have hb2191 : Ext w w2187 := Below.trans hb2125 hB2188
    have hL2192 : w.heap.size ≤ w2187.heap.size := Nat.le_trans hL2126 hB2188.size
    refine WL.subk [25, 26] [(25, .slice a16 st2103.2.2.length c17), (26, .int .i64 st2103.2.1)] (by kernel_rfl) ?_
    refine WL.st (.pointer (some (at_ a16 (Int.toNat st2103.2.1 * 5)))) (ST.indexA (T := fRepair.ty) (xs := st2103.2.2) (SH.holeHead (SH.front 2 hS2190)) hx2130 rfl rfl rfl Tryz.underlying24 (info48).1 (info48).2.1) rfl rfl rfl ?_
    refine WL.nil ?_
    exact QP.intro (fun k => ([] : List (Option Addr × Nat)).getD k (none, 0)) (d := 27) (by kernel_rfl) (by kernel_rfl) (Below.refl _ _) hS2190 (by kernel_rfl)
  · intro g2128 w2193 R2138 hB2194 hS2195
    have hS2196 : SH w2193 w.heap.size (aOwn fInt 2 a2131 c2132 x2129.Mends :: aOwn fInt 2 a2134 c2135 x2129.First :: aHole fRepair 48 2 a16 c17 st2103.2.2 (Int.toNat st2103.2.1) [.string (bs x2129.Name), .slice a2131 x2129.Mends.length c2132, .slice a2134 x2129.First.length c2135, .int .i64 x2129.Price, .int .i64 x2129.Hours] :: aNest fRepair 48 2 a2104 c2105 st2103.1 :: aBox 82 b5 [.slice a0' code_0.length c0', .int .i64 x14.2.1, .int .u64 x14.2.2] :: R2138) := memEq hS2195 (by kernel_rfl)
    have hb2197 : Ext w w2193 := Below.trans hb2125 hB2194
    have hL2198 : w.heap.size ≤ w2193.heap.size := Nat.le_trans hL2126 hB2194.size
    refine WL.subk [27] [(27, .pointer (some (at_ a16 (Int.toNat st2103.2.1 * 5))))] (by kernel_rfl) ?_
    refine WL.runk 1 [28] [(28, .pointer (some (at_ a16 (Int.toNat st2103.2.1 * 5 + 1))))] (by kernel_rfl) ?_
    refine WL.nil ?_
    exact QP.intro (fun k => ([] : List (Option Addr × Nat)).getD k (none, 0)) (d := 28) (by kernel_rfl) (by kernel_rfl) (Below.refl _ _) hS2196 (by kernel_rfl)
  · intro g2128 w2199 R2138 hB2200 hS2201
    have hS2202 : SH w2199 w.heap.size (aOwn fInt 2 a2131 c2132 x2129.Mends :: aOwn fInt 2 a2134 c2135 x2129.First :: aHole fRepair 48 2 a16 c17 st2103.2.2 (Int.toNat st2103.2.1) [.string (bs x2129.Name), .slice a2131 x2129.Mends.length c2132, .slice a2134 x2129.First.length c2135, .int .i64 x2129.Price, .int .i64 x2129.Hours] :: aNest fRepair 48 2 a2104 c2105 st2103.1 :: aBox 82 b5 [.slice a0' code_0.length c0', .int .i64 x14.2.1, .int .u64 x14.2.2] :: R2138) := memEq hS2201 (by kernel_rfl)
    have hb2203 : Ext w w2199 := Below.trans hb2125 hB2200
    have hL2204 : w.heap.size ≤ w2199.heap.size := Nat.le_trans hL2126 hB2200.size
    refine WL.subk [28] [(28, .pointer (some (at_ a16 (Int.toNat st2103.2.1 * 5 + 1))))] (by kernel_rfl) ?_
    refine WL.st (.slice a2131 x2129.Mends.length c2132) (ST.load (cell_ext ((SH.holeAt (SH.front 2 hS2202)) 1 _ rfl)) rfl rfl Tryz.underlying25 rfl) rfl rfl rfl ?_
    refine WL.nil ?_
    exact QP.intro (fun k => ([] : List (Option Addr × Nat)).getD k (none, 0)) (d := 29) (by kernel_rfl) (by kernel_rfl) (Below.refl _ _) hS2202 (by kernel_rfl)
  · intro g2128 w2205 R2138 hB2206 hS2207
    have hS2208 : SH w2205 w.heap.size (aOwn fInt 2 a2131 c2132 x2129.Mends :: aOwn fInt 2 a2134 c2135 x2129.First :: aHole fRepair 48 2 a16 c17 st2103.2.2 (Int.toNat st2103.2.1) [.string (bs x2129.Name), .slice a2131 x2129.Mends.length c2132, .slice a2134 x2129.First.length c2135, .int .i64 x2129.Price, .int .i64 x2129.Hours] :: aNest fRepair 48 2 a2104 c2105 st2103.1 :: aBox 82 b5 [.slice a0' code_0.length c0', .int .i64 x14.2.1, .int .u64 x14.2.2] :: R2138) := memEq hS2207 (by kernel_rfl)
    have hb2209 : Ext w w2205 := Below.trans hb2125 hB2206
    have hL2210 : w.heap.size ≤ w2205.heap.size := Nat.le_trans hL2126 hB2206.size
    refine WL.subk [29] [(29, .slice a2131 x2129.Mends.length c2132)] (by kernel_rfl) ?_
    refine WL.call 56 #[.slice a2131 x2129.Mends.length c2132] rfl rfl (by kernel_rfl) (c_56 n x2129.Mends a2131 c2132 w2205 hx2212 (SH.rd (SH.front 0 hS2208)) (SH.le (SH.front 0 hS2208)).1) ?_
    rintro _ w2216 ⟨a2213, c2214, rfl, hE2217, hR2218⟩
    refine ⟨_, rfl, ?_⟩
    have hb2219 : Ext w w2216 := Ext.trans hb2209 hE2217
    have hL2220 : w.heap.size ≤ w2216.heap.size := Nat.le_trans hL2210 hE2217.size
    have hS2221 : SH w2216 w.heap.size (aOwn fInt 2 a2213 c2214 x2211 :: aOwn fInt 2 a2131 c2132 x2129.Mends :: aOwn fInt 2 a2134 c2135 x2129.First :: aHole fRepair 48 2 a16 c17 st2103.2.2 (Int.toNat st2103.2.1) [.string (bs x2129.Name), .slice a2131 x2129.Mends.length c2132, .slice a2134 x2129.First.length c2135, .int .i64 x2129.Price, .int .i64 x2129.Hours] :: aNest fRepair 48 2 a2104 c2105 st2103.1 :: aBox 82 b5 [.slice a0' code_0.length c0', .int .i64 x14.2.1, .int .u64 x14.2.2] :: R2138) := SH.add hS2208 hE2217 hL2210 hR2218
    refine WL.nil ?_
    exact QP.intro (fun k => ([(a2213, c2214)] : List (Option Addr × Nat)).getD k (none, 0)) (d := 30) (by kernel_rfl) (by kernel_rfl) (Below.mono hE2217 hL2210) (SH.front 5 (SH.front 5 (SH.front 5 (SH.front 5 (SH.front 5 hS2221))))) (by kernel_rfl)
  · intro g2128 w2222 R2138 hB2223 hS2224
    have hS2225 : SH w2222 w.heap.size (aOwn fInt 2 a2131 c2132 x2129.Mends :: aOwn fInt 2 a2134 c2135 x2129.First :: aHole fRepair 48 2 a16 c17 st2103.2.2 (Int.toNat st2103.2.1) [.string (bs x2129.Name), .slice a2131 x2129.Mends.length c2132, .slice a2134 x2129.First.length c2135, .int .i64 x2129.Price, .int .i64 x2129.Hours] :: aNest fRepair 48 2 a2104 c2105 st2103.1 :: aBox 82 b5 [.slice a0' code_0.length c0', .int .i64 x14.2.1, .int .u64 x14.2.2] :: R2138) := memEq hS2224 (by kernel_rfl)
    have hb2226 : Ext w w2222 := Below.trans hb2125 hB2223
    have hL2227 : w.heap.size ≤ w2222.heap.size := Nat.le_trans hL2126 hB2223.size
    refine WL.subk [5] [(5, .slice a16 st2103.2.2.length c17)] (by kernel_rfl) ?_
    refine WL.runk 1 [31] [(31, .slice a16 st2103.2.2.length c17)] (by kernel_rfl) ?_
    refine WL.nil ?_
    exact QP.intro (fun k => ([] : List (Option Addr × Nat)).getD k (none, 0)) (d := 31) (by kernel_rfl) (by kernel_rfl) (Below.refl _ _) hS2225 (by kernel_rfl)
  · intro g2128 w2228 R2138 hB2229 hS2230
    have hS2231 : SH w2228 w.heap.size (aOwn fInt 2 a2131 c2132 x2129.Mends :: aOwn fInt 2 a2134 c2135 x2129.First :: aHole fRepair 48 2 a16 c17 st2103.2.2 (Int.toNat st2103.2.1) [.string (bs x2129.Name), .slice a2131 x2129.Mends.length c2132, .slice a2134 x2129.First.length c2135, .int .i64 x2129.Price, .int .i64 x2129.Hours] :: aNest fRepair 48 2 a2104 c2105 st2103.1 :: aBox 82 b5 [.slice a0' code_0.length c0', .int .i64 x14.2.1, .int .u64 x14.2.2] :: R2138) := memEq hS2230 (by kernel_rfl)
    have hb2232 : Ext w w2228 := Below.trans hb2125 hB2229
    have hL2233 : w.heap.size ≤ w2228.heap.size := Nat.le_trans hL2126 hB2229.size
    refine WL.subk [7] [(7, .int .i64 st2103.2.1)] (by kernel_rfl) ?_
    refine WL.runk 1 [32] [(32, .int .i64 st2103.2.1)] (by kernel_rfl) ?_
    refine WL.nil ?_
    exact QP.intro (fun k => ([] : List (Option Addr × Nat)).getD k (none, 0)) (d := 32) (by kernel_rfl) (by kernel_rfl) (Below.refl _ _) hS2231 (by kernel_rfl)
  · intro g2128 w2234 R2138 hB2235 hS2236
    have hS2237 : SH w2234 w.heap.size (aOwn fInt 2 a2131 c2132 x2129.Mends :: aOwn fInt 2 a2134 c2135 x2129.First :: aHole fRepair 48 2 a16 c17 st2103.2.2 (Int.toNat st2103.2.1) [.string (bs x2129.Name), .slice a2131 x2129.Mends.length c2132, .slice a2134 x2129.First.length c2135, .int .i64 x2129.Price, .int .i64 x2129.Hours] :: aNest fRepair 48 2 a2104 c2105 st2103.1 :: aBox 82 b5 [.slice a0' code_0.length c0', .int .i64 x14.2.1, .int .u64 x14.2.2] :: R2138) := memEq hS2236 (by kernel_rfl)
    have hb2238 : Ext w w2234 := Below.trans hb2125 hB2235
    have hL2239 : w.heap.size ≤ w2234.heap.size := Nat.le_trans hL2126 hB2235.size
    refine WL.subk [31, 32] [(31, .slice a16 st2103.2.2.length c17), (32, .int .i64 st2103.2.1)] (by kernel_rfl) ?_
    refine WL.st (.pointer (some (at_ a16 (Int.toNat st2103.2.1 * 5)))) (ST.indexA (T := fRepair.ty) (xs := st2103.2.2) (SH.holeHead (SH.front 2 hS2237)) hx2130 rfl rfl rfl Tryz.underlying24 (info48).1 (info48).2.1) rfl rfl rfl ?_
    refine WL.nil ?_
    exact QP.intro (fun k => ([] : List (Option Addr × Nat)).getD k (none, 0)) (d := 33) (by kernel_rfl) (by kernel_rfl) (Below.refl _ _) hS2237 (by kernel_rfl)
  · intro g2128 w2240 R2138 hB2241 hS2242
    have hS2243 : SH w2240 w.heap.size (aOwn fInt 2 a2131 c2132 x2129.Mends :: aOwn fInt 2 a2134 c2135 x2129.First :: aHole fRepair 48 2 a16 c17 st2103.2.2 (Int.toNat st2103.2.1) [.string (bs x2129.Name), .slice a2131 x2129.Mends.length c2132, .slice a2134 x2129.First.length c2135, .int .i64 x2129.Price, .int .i64 x2129.Hours] :: aNest fRepair 48 2 a2104 c2105 st2103.1 :: aBox 82 b5 [.slice a0' code_0.length c0', .int .i64 x14.2.1, .int .u64 x14.2.2] :: R2138) := memEq hS2242 (by kernel_rfl)
    have hb2244 : Ext w w2240 := Below.trans hb2125 hB2241
    have hL2245 : w.heap.size ≤ w2240.heap.size := Nat.le_trans hL2126 hB2241.size
    refine WL.subk [33] [(33, .pointer (some (at_ a16 (Int.toNat st2103.2.1 * 5))))] (by kernel_rfl) ?_
    refine WL.runk 1 [34] [(34, .pointer (some (at_ a16 (Int.toNat st2103.2.1 * 5 + 2))))] (by kernel_rfl) ?_
    refine WL.nil ?_
    exact QP.intro (fun k => ([] : List (Option Addr × Nat)).getD k (none, 0)) (d := 34) (by kernel_rfl) (by kernel_rfl) (Below.refl _ _) hS2243 (by kernel_rfl)
  · intro g2128 w2246 R2138 hB2247 hS2248
    have hS2249 : SH w2246 w.heap.size (aOwn fInt 2 a2131 c2132 x2129.Mends :: aOwn fInt 2 a2134 c2135 x2129.First :: aHole fRepair 48 2 a16 c17 st2103.2.2 (Int.toNat st2103.2.1) [.string (bs x2129.Name), .slice a2131 x2129.Mends.length c2132, .slice a2134 x2129.First.length c2135, .int .i64 x2129.Price, .int .i64 x2129.Hours] :: aNest fRepair 48 2 a2104 c2105 st2103.1 :: aBox 82 b5 [.slice a0' code_0.length c0', .int .i64 x14.2.1, .int .u64 x14.2.2] :: R2138) := memEq hS2248 (by kernel_rfl)
    have hb2250 : Ext w w2246 := Below.trans hb2125 hB2247
    have hL2251 : w.heap.size ≤ w2246.heap.size := Nat.le_trans hL2126 hB2247.size
    refine WL.subk [34] [(34, .pointer (some (at_ a16 (Int.toNat st2103.2.1 * 5 + 2))))] (by kernel_rfl) ?_
    refine WL.st (.slice a2134 x2129.First.length c2135) (ST.load (cell_ext ((SH.holeAt (SH.front 2 hS2249)) 2 _ rfl)) rfl rfl Tryz.underlying25 rfl) rfl rfl rfl ?_
    refine WL.nil ?_
    exact QP.intro (fun k => ([] : List (Option Addr × Nat)).getD k (none, 0)) (d := 35) (by kernel_rfl) (by kernel_rfl) (Below.refl _ _) hS2249 (by kernel_rfl)
  · intro g2128 w2252 R2138 hB2253 hS2254
    have hS2255 : SH w2252 w.heap.size (aOwn fInt 2 a2131 c2132 x2129.Mends :: aOwn fInt 2 a2134 c2135 x2129.First :: aHole fRepair 48 2 a16 c17 st2103.2.2 (Int.toNat st2103.2.1) [.string (bs x2129.Name), .slice a2131 x2129.Mends.length c2132, .slice a2134 x2129.First.length c2135, .int .i64 x2129.Price, .int .i64 x2129.Hours] :: aNest fRepair 48 2 a2104 c2105 st2103.1 :: aBox 82 b5 [.slice a0' code_0.length c0', .int .i64 x14.2.1, .int .u64 x14.2.2] :: aOwn fInt 2 ((g2128 11 0).1) ((g2128 11 0).2) x2211 :: R2138) := memEq hS2254 (by kernel_rfl)
    have hb2256 : Ext w w2252 := Below.trans hb2125 hB2253
    have hL2257 : w.heap.size ≤ w2252.heap.size := Nat.le_trans hL2126 hB2253.size
    refine WL.subk [35] [(35, .slice a2134 x2129.First.length c2135)] (by kernel_rfl) ?_
    refine WL.call 56 #[.slice a2134 x2129.First.length c2135] rfl rfl (by kernel_rfl) (c_56 n x2129.First a2134 c2135 w2252 hx2259 (SH.rd (SH.front 1 hS2255)) (SH.le (SH.front 1 hS2255)).1) ?_
    rintro _ w2263 ⟨a2260, c2261, rfl, hE2264, hR2265⟩
    refine ⟨_, rfl, ?_⟩
    have hb2266 : Ext w w2263 := Ext.trans hb2256 hE2264
    have hL2267 : w.heap.size ≤ w2263.heap.size := Nat.le_trans hL2257 hE2264.size
    have hS2268 : SH w2263 w.heap.size (aOwn fInt 2 a2260 c2261 x2258 :: aOwn fInt 2 a2131 c2132 x2129.Mends :: aOwn fInt 2 a2134 c2135 x2129.First :: aHole fRepair 48 2 a16 c17 st2103.2.2 (Int.toNat st2103.2.1) [.string (bs x2129.Name), .slice a2131 x2129.Mends.length c2132, .slice a2134 x2129.First.length c2135, .int .i64 x2129.Price, .int .i64 x2129.Hours] :: aNest fRepair 48 2 a2104 c2105 st2103.1 :: aBox 82 b5 [.slice a0' code_0.length c0', .int .i64 x14.2.1, .int .u64 x14.2.2] :: aOwn fInt 2 ((g2128 11 0).1) ((g2128 11 0).2) x2211 :: R2138) := SH.add hS2255 hE2264 hL2257 hR2265
    refine WL.nil ?_
    exact QP.intro (fun k => ([(a2260, c2261)] : List (Option Addr × Nat)).getD k (none, 0)) (d := 36) (by kernel_rfl) (by kernel_rfl) (Below.mono hE2264 hL2257) (SH.front 6 (SH.front 6 (SH.front 6 (SH.front 6 (SH.front 6 (SH.front 6 hS2268)))))) (by kernel_rfl)
  · intro g2128 w2269 R2138 hB2270 hS2271
    have hS2272 : SH w2269 w.heap.size (aOwn fInt 2 a2131 c2132 x2129.Mends :: aOwn fInt 2 a2134 c2135 x2129.First :: aHole fRepair 48 2 a16 c17 st2103.2.2 (Int.toNat st2103.2.1) [.string (bs x2129.Name), .slice a2131 x2129.Mends.length c2132, .slice a2134 x2129.First.length c2135, .int .i64 x2129.Price, .int .i64 x2129.Hours] :: aNest fRepair 48 2 a2104 c2105 st2103.1 :: aBox 82 b5 [.slice a0' code_0.length c0', .int .i64 x14.2.1, .int .u64 x14.2.2] :: R2138) := memEq hS2271 (by kernel_rfl)
    have hb2273 : Ext w w2269 := Below.trans hb2125 hB2270
    have hL2274 : w.heap.size ≤ w2269.heap.size := Nat.le_trans hL2126 hB2270.size
    refine WL.subk [5] [(5, .slice a16 st2103.2.2.length c17)] (by kernel_rfl) ?_
    refine WL.runk 1 [37] [(37, .slice a16 st2103.2.2.length c17)] (by kernel_rfl) ?_
    refine WL.nil ?_
    exact QP.intro (fun k => ([] : List (Option Addr × Nat)).getD k (none, 0)) (d := 37) (by kernel_rfl) (by kernel_rfl) (Below.refl _ _) hS2272 (by kernel_rfl)
  · intro g2128 w2275 R2138 hB2276 hS2277
    have hS2278 : SH w2275 w.heap.size (aOwn fInt 2 a2131 c2132 x2129.Mends :: aOwn fInt 2 a2134 c2135 x2129.First :: aHole fRepair 48 2 a16 c17 st2103.2.2 (Int.toNat st2103.2.1) [.string (bs x2129.Name), .slice a2131 x2129.Mends.length c2132, .slice a2134 x2129.First.length c2135, .int .i64 x2129.Price, .int .i64 x2129.Hours] :: aNest fRepair 48 2 a2104 c2105 st2103.1 :: aBox 82 b5 [.slice a0' code_0.length c0', .int .i64 x14.2.1, .int .u64 x14.2.2] :: R2138) := memEq hS2277 (by kernel_rfl)
    have hb2279 : Ext w w2275 := Below.trans hb2125 hB2276
    have hL2280 : w.heap.size ≤ w2275.heap.size := Nat.le_trans hL2126 hB2276.size
    refine WL.subk [7] [(7, .int .i64 st2103.2.1)] (by kernel_rfl) ?_
    refine WL.runk 1 [38] [(38, .int .i64 st2103.2.1)] (by kernel_rfl) ?_
    refine WL.nil ?_
    exact QP.intro (fun k => ([] : List (Option Addr × Nat)).getD k (none, 0)) (d := 38) (by kernel_rfl) (by kernel_rfl) (Below.refl _ _) hS2278 (by kernel_rfl)
  · intro g2128 w2281 R2138 hB2282 hS2283
    have hS2284 : SH w2281 w.heap.size (aOwn fInt 2 a2131 c2132 x2129.Mends :: aOwn fInt 2 a2134 c2135 x2129.First :: aHole fRepair 48 2 a16 c17 st2103.2.2 (Int.toNat st2103.2.1) [.string (bs x2129.Name), .slice a2131 x2129.Mends.length c2132, .slice a2134 x2129.First.length c2135, .int .i64 x2129.Price, .int .i64 x2129.Hours] :: aNest fRepair 48 2 a2104 c2105 st2103.1 :: aBox 82 b5 [.slice a0' code_0.length c0', .int .i64 x14.2.1, .int .u64 x14.2.2] :: R2138) := memEq hS2283 (by kernel_rfl)
    have hb2285 : Ext w w2281 := Below.trans hb2125 hB2282
    have hL2286 : w.heap.size ≤ w2281.heap.size := Nat.le_trans hL2126 hB2282.size
    refine WL.subk [37, 38] [(37, .slice a16 st2103.2.2.length c17), (38, .int .i64 st2103.2.1)] (by kernel_rfl) ?_
    refine WL.st (.pointer (some (at_ a16 (Int.toNat st2103.2.1 * 5)))) (ST.indexA (T := fRepair.ty) (xs := st2103.2.2) (SH.holeHead (SH.front 2 hS2284)) hx2130 rfl rfl rfl Tryz.underlying24 (info48).1 (info48).2.1) rfl rfl rfl ?_
    refine WL.nil ?_
    exact QP.intro (fun k => ([] : List (Option Addr × Nat)).getD k (none, 0)) (d := 39) (by kernel_rfl) (by kernel_rfl) (Below.refl _ _) hS2284 (by kernel_rfl)
  · intro g2128 w2287 R2138 hB2288 hS2289
    have hS2290 : SH w2287 w.heap.size (aOwn fInt 2 a2131 c2132 x2129.Mends :: aOwn fInt 2 a2134 c2135 x2129.First :: aHole fRepair 48 2 a16 c17 st2103.2.2 (Int.toNat st2103.2.1) [.string (bs x2129.Name), .slice a2131 x2129.Mends.length c2132, .slice a2134 x2129.First.length c2135, .int .i64 x2129.Price, .int .i64 x2129.Hours] :: aNest fRepair 48 2 a2104 c2105 st2103.1 :: aBox 82 b5 [.slice a0' code_0.length c0', .int .i64 x14.2.1, .int .u64 x14.2.2] :: R2138) := memEq hS2289 (by kernel_rfl)
    have hb2291 : Ext w w2287 := Below.trans hb2125 hB2288
    have hL2292 : w.heap.size ≤ w2287.heap.size := Nat.le_trans hL2126 hB2288.size
    refine WL.subk [39] [(39, .pointer (some (at_ a16 (Int.toNat st2103.2.1 * 5))))] (by kernel_rfl) ?_
    refine WL.runk 1 [40] [(40, .pointer (some (at_ a16 (Int.toNat st2103.2.1 * 5 + 3))))] (by kernel_rfl) ?_
    refine WL.nil ?_
    exact QP.intro (fun k => ([] : List (Option Addr × Nat)).getD k (none, 0)) (d := 40) (by kernel_rfl) (by kernel_rfl) (Below.refl _ _) hS2290 (by kernel_rfl)
  · intro g2128 w2293 R2138 hB2294 hS2295
    have hS2296 : SH w2293 w.heap.size (aOwn fInt 2 a2131 c2132 x2129.Mends :: aOwn fInt 2 a2134 c2135 x2129.First :: aHole fRepair 48 2 a16 c17 st2103.2.2 (Int.toNat st2103.2.1) [.string (bs x2129.Name), .slice a2131 x2129.Mends.length c2132, .slice a2134 x2129.First.length c2135, .int .i64 x2129.Price, .int .i64 x2129.Hours] :: aNest fRepair 48 2 a2104 c2105 st2103.1 :: aBox 82 b5 [.slice a0' code_0.length c0', .int .i64 x14.2.1, .int .u64 x14.2.2] :: R2138) := memEq hS2295 (by kernel_rfl)
    have hb2297 : Ext w w2293 := Below.trans hb2125 hB2294
    have hL2298 : w.heap.size ≤ w2293.heap.size := Nat.le_trans hL2126 hB2294.size
    refine WL.subk [40] [(40, .pointer (some (at_ a16 (Int.toNat st2103.2.1 * 5 + 3))))] (by kernel_rfl) ?_
    refine WL.st (.int .i64 x2129.Price) (ST.load (cell_ext ((SH.holeAt (SH.front 2 hS2296)) 3 _ rfl)) rfl rfl Tryz.underlying2 rfl) rfl rfl rfl ?_
    refine WL.nil ?_
    exact QP.intro (fun k => ([] : List (Option Addr × Nat)).getD k (none, 0)) (d := 41) (by kernel_rfl) (by kernel_rfl) (Below.refl _ _) hS2296 (by kernel_rfl)
  · intro g2128 w2299 R2138 hB2300 hS2301
    have hS2302 : SH w2299 w.heap.size (aOwn fInt 2 a2131 c2132 x2129.Mends :: aOwn fInt 2 a2134 c2135 x2129.First :: aHole fRepair 48 2 a16 c17 st2103.2.2 (Int.toNat st2103.2.1) [.string (bs x2129.Name), .slice a2131 x2129.Mends.length c2132, .slice a2134 x2129.First.length c2135, .int .i64 x2129.Price, .int .i64 x2129.Hours] :: aNest fRepair 48 2 a2104 c2105 st2103.1 :: aBox 82 b5 [.slice a0' code_0.length c0', .int .i64 x14.2.1, .int .u64 x14.2.2] :: R2138) := memEq hS2301 (by kernel_rfl)
    have hb2303 : Ext w w2299 := Below.trans hb2125 hB2300
    have hL2304 : w.heap.size ≤ w2299.heap.size := Nat.le_trans hL2126 hB2300.size
    refine WL.subk [5] [(5, .slice a16 st2103.2.2.length c17)] (by kernel_rfl) ?_
    refine WL.runk 1 [42] [(42, .slice a16 st2103.2.2.length c17)] (by kernel_rfl) ?_
    refine WL.nil ?_
    exact QP.intro (fun k => ([] : List (Option Addr × Nat)).getD k (none, 0)) (d := 42) (by kernel_rfl) (by kernel_rfl) (Below.refl _ _) hS2302 (by kernel_rfl)
  · intro g2128 w2305 R2138 hB2306 hS2307
    have hS2308 : SH w2305 w.heap.size (aOwn fInt 2 a2131 c2132 x2129.Mends :: aOwn fInt 2 a2134 c2135 x2129.First :: aHole fRepair 48 2 a16 c17 st2103.2.2 (Int.toNat st2103.2.1) [.string (bs x2129.Name), .slice a2131 x2129.Mends.length c2132, .slice a2134 x2129.First.length c2135, .int .i64 x2129.Price, .int .i64 x2129.Hours] :: aNest fRepair 48 2 a2104 c2105 st2103.1 :: aBox 82 b5 [.slice a0' code_0.length c0', .int .i64 x14.2.1, .int .u64 x14.2.2] :: R2138) := memEq hS2307 (by kernel_rfl)
    have hb2309 : Ext w w2305 := Below.trans hb2125 hB2306
    have hL2310 : w.heap.size ≤ w2305.heap.size := Nat.le_trans hL2126 hB2306.size
    refine WL.subk [7] [(7, .int .i64 st2103.2.1)] (by kernel_rfl) ?_
    refine WL.runk 1 [43] [(43, .int .i64 st2103.2.1)] (by kernel_rfl) ?_
    refine WL.nil ?_
    exact QP.intro (fun k => ([] : List (Option Addr × Nat)).getD k (none, 0)) (d := 43) (by kernel_rfl) (by kernel_rfl) (Below.refl _ _) hS2308 (by kernel_rfl)
  · intro g2128 w2311 R2138 hB2312 hS2313
    have hS2314 : SH w2311 w.heap.size (aOwn fInt 2 a2131 c2132 x2129.Mends :: aOwn fInt 2 a2134 c2135 x2129.First :: aHole fRepair 48 2 a16 c17 st2103.2.2 (Int.toNat st2103.2.1) [.string (bs x2129.Name), .slice a2131 x2129.Mends.length c2132, .slice a2134 x2129.First.length c2135, .int .i64 x2129.Price, .int .i64 x2129.Hours] :: aNest fRepair 48 2 a2104 c2105 st2103.1 :: aBox 82 b5 [.slice a0' code_0.length c0', .int .i64 x14.2.1, .int .u64 x14.2.2] :: R2138) := memEq hS2313 (by kernel_rfl)
    have hb2315 : Ext w w2311 := Below.trans hb2125 hB2312
    have hL2316 : w.heap.size ≤ w2311.heap.size := Nat.le_trans hL2126 hB2312.size
    refine WL.subk [42, 43] [(42, .slice a16 st2103.2.2.length c17), (43, .int .i64 st2103.2.1)] (by kernel_rfl) ?_
    refine WL.st (.pointer (some (at_ a16 (Int.toNat st2103.2.1 * 5)))) (ST.indexA (T := fRepair.ty) (xs := st2103.2.2) (SH.holeHead (SH.front 2 hS2314)) hx2130 rfl rfl rfl Tryz.underlying24 (info48).1 (info48).2.1) rfl rfl rfl ?_
    refine WL.nil ?_
    exact QP.intro (fun k => ([] : List (Option Addr × Nat)).getD k (none, 0)) (d := 44) (by kernel_rfl) (by kernel_rfl) (Below.refl _ _) hS2314 (by kernel_rfl)
  · intro g2128 w2317 R2138 hB2318 hS2319
    have hS2320 : SH w2317 w.heap.size (aOwn fInt 2 a2131 c2132 x2129.Mends :: aOwn fInt 2 a2134 c2135 x2129.First :: aHole fRepair 48 2 a16 c17 st2103.2.2 (Int.toNat st2103.2.1) [.string (bs x2129.Name), .slice a2131 x2129.Mends.length c2132, .slice a2134 x2129.First.length c2135, .int .i64 x2129.Price, .int .i64 x2129.Hours] :: aNest fRepair 48 2 a2104 c2105 st2103.1 :: aBox 82 b5 [.slice a0' code_0.length c0', .int .i64 x14.2.1, .int .u64 x14.2.2] :: R2138) := memEq hS2319 (by kernel_rfl)
    have hb2321 : Ext w w2317 := Below.trans hb2125 hB2318
    have hL2322 : w.heap.size ≤ w2317.heap.size := Nat.le_trans hL2126 hB2318.size
    refine WL.subk [44] [(44, .pointer (some (at_ a16 (Int.toNat st2103.2.1 * 5))))] (by kernel_rfl) ?_
    refine WL.runk 1 [45] [(45, .pointer (some (at_ a16 (Int.toNat st2103.2.1 * 5 + 4))))] (by kernel_rfl) ?_
    refine WL.nil ?_
    exact QP.intro (fun k => ([] : List (Option Addr × Nat)).getD k (none, 0)) (d := 45) (by kernel_rfl) (by kernel_rfl) (Below.refl _ _) hS2320 (by kernel_rfl)
  · intro g2128 w2323 R2138 hB2324 hS2325
    have hS2326 : SH w2323 w.heap.size (aOwn fInt 2 a2131 c2132 x2129.Mends :: aOwn fInt 2 a2134 c2135 x2129.First :: aHole fRepair 48 2 a16 c17 st2103.2.2 (Int.toNat st2103.2.1) [.string (bs x2129.Name), .slice a2131 x2129.Mends.length c2132, .slice a2134 x2129.First.length c2135, .int .i64 x2129.Price, .int .i64 x2129.Hours] :: aNest fRepair 48 2 a2104 c2105 st2103.1 :: aBox 82 b5 [.slice a0' code_0.length c0', .int .i64 x14.2.1, .int .u64 x14.2.2] :: R2138) := memEq hS2325 (by kernel_rfl)
    have hb2327 : Ext w w2323 := Below.trans hb2125 hB2324
    have hL2328 : w.heap.size ≤ w2323.heap.size := Nat.le_trans hL2126 hB2324.size
    refine WL.subk [45] [(45, .pointer (some (at_ a16 (Int.toNat st2103.2.1 * 5 + 4))))] (by kernel_rfl) ?_
    refine WL.st (.int .i64 x2129.Hours) (ST.load (cell_ext ((SH.holeAt (SH.front 2 hS2326)) 4 _ rfl)) rfl rfl Tryz.underlying2 rfl) rfl rfl rfl ?_
    refine WL.nil ?_
    exact QP.intro (fun k => ([] : List (Option Addr × Nat)).getD k (none, 0)) (d := 46) (by kernel_rfl) (by kernel_rfl) (Below.refl _ _) hS2326 (by kernel_rfl)
  · intro g2128 w2329 R2138 hB2330 hS2331
    have hS2332 : SH w2329 w.heap.size (aOwn fInt 2 a2131 c2132 x2129.Mends :: aOwn fInt 2 a2134 c2135 x2129.First :: aHole fRepair 48 2 a16 c17 st2103.2.2 (Int.toNat st2103.2.1) [.string (bs x2129.Name), .slice a2131 x2129.Mends.length c2132, .slice a2134 x2129.First.length c2135, .int .i64 x2129.Price, .int .i64 x2129.Hours] :: aNest fRepair 48 2 a2104 c2105 st2103.1 :: aBox 82 b5 [.slice a0' code_0.length c0', .int .i64 x14.2.1, .int .u64 x14.2.2] :: aOwn fInt 2 ((g2128 11 0).1) ((g2128 11 0).2) x2211 :: aOwn fInt 2 ((g2128 17 0).1) ((g2128 17 0).2) x2258 :: R2138) := memEq hS2331 (by kernel_rfl)
    have hb2333 : Ext w w2329 := Below.trans hb2125 hB2330
    have hL2334 : w.heap.size ≤ w2329.heap.size := Nat.le_trans hL2126 hB2330.size
    refine WL.subk [24, 30, 36, 41, 46] [(24, .string (bs x2129.Name)), (30, .slice ((g2128 11 0).1) x2211.length ((g2128 11 0).2)), (36, .slice ((g2128 17 0).1) x2258.length ((g2128 17 0).2)), (41, .int .i64 x2129.Price), (46, .int .i64 x2129.Hours)] (by kernel_rfl) ?_
    refine WL.runk 1 [47] [(47, .agg #[.string (bs x2129.Name), .slice ((g2128 11 0).1) x2211.length ((g2128 11 0).2), .slice ((g2128 17 0).1) x2258.length ((g2128 17 0).2), .int .i64 x2129.Price, .int .i64 x2129.Hours])] (by kernel_rfl) ?_
    refine WL.nil ?_
    exact QP.intro (fun k => ([] : List (Option Addr × Nat)).getD k (none, 0)) (d := 47) (by kernel_rfl) (by kernel_rfl) (Below.refl _ _) hS2332 (by kernel_rfl)
  · intro g2128 w2335 R2138 hB2336 hS2337
    have hS2338 : SH w2335 w.heap.size (aOwn fInt 2 a2131 c2132 x2129.Mends :: aOwn fInt 2 a2134 c2135 x2129.First :: aHole fRepair 48 2 a16 c17 st2103.2.2 (Int.toNat st2103.2.1) [.string (bs x2129.Name), .slice a2131 x2129.Mends.length c2132, .slice a2134 x2129.First.length c2135, .int .i64 x2129.Price, .int .i64 x2129.Hours] :: aNest fRepair 48 2 a2104 c2105 st2103.1 :: aBox 82 b5 [.slice a0' code_0.length c0', .int .i64 x14.2.1, .int .u64 x14.2.2] :: aOwn fInt 2 ((g2128 11 0).1) ((g2128 11 0).2) x2211 :: aOwn fInt 2 ((g2128 17 0).1) ((g2128 17 0).2) x2258 :: R2138) := memEq hS2337 (by kernel_rfl)
    have hb2339 : Ext w w2335 := Below.trans hb2125 hB2336
    have hL2340 : w.heap.size ≤ w2335.heap.size := Nat.le_trans hL2126 hB2336.size
    refine WL.subk [47] [(47, .agg #[.string (bs x2129.Name), .slice ((g2128 11 0).1) x2211.length ((g2128 11 0).2), .slice ((g2128 17 0).1) x2258.length ((g2128 17 0).2), .int .i64 x2129.Price, .int .i64 x2129.Hours])] (by kernel_rfl) ?_
    refine WL.row1N (ei := 2) fRepair 48 (I := [aOwn fInt 2 ((g2128 11 0).1) ((g2128 11 0).2) x2211, aOwn fInt 2 ((g2128 17 0).1) ((g2128 17 0).2) x2258]) (SRepair.mk x2129.Name x2211 x2258 x2129.Price x2129.Hours) [.string (bs x2129.Name), .slice ((g2128 11 0).1) x2211.length ((g2128 11 0).2), .slice ((g2128 17 0).1) x2258.length ((g2128 17 0).2), .int .i64 x2129.Price, .int .i64 x2129.Hours] (.val (Fit.row' rfl (Fit.row' rfl (.val (.val .nil))))) 48 (SH.front 6 (SH.front 6 (SH.front 4 (SH.front 4 (SH.front 4 (SH.front 4 (SH.front 4 hS2338))))))) hL2340 (by kernel_rfl) rfl rfl rfl rfl ?_
    intro a2341 c2342 w2343 hB2344 hS2345
    have hb2347 : Ext w w2343 := Below.trans hb2339 hB2344
    have hL2348 : w.heap.size ≤ w2343.heap.size := Nat.le_trans hL2340 hB2344.size
    refine WL.nil ?_
    exact QP.intro (fun k => ([(a2341, c2342)] : List (Option Addr × Nat)).getD k (none, 0)) (d := 48) (by kernel_rfl) (by kernel_rfl) hB2344 (SH.front 5 (SH.front 5 (SH.front 5 (SH.front 5 (SH.front 5 hS2345))))) (by kernel_rfl)
  intro g2128 w2349 hB2350 hS2351
  have hS2352 : SH w2349 w.heap.size [aOwn fInt 2 a2131 c2132 x2129.Mends, aOwn fInt 2 a2134 c2135 x2129.First, aHole fRepair 48 2 a16 c17 st2103.2.2 (Int.toNat st2103.2.1) [.string (bs x2129.Name), .slice a2131 x2129.Mends.length c2132, .slice a2134 x2129.First.length c2135, .int .i64 x2129.Price, .int .i64 x2129.Hours], aNest fRepair 48 2 a2104 c2105 st2103.1, aBox 82 b5 [.slice a0' code_0.length c0', .int .i64 x14.2.1, .int .u64 x14.2.2], aNest fRepair 48 2 ((g2128 29 0).1) ((g2128 29 0).2) ([(SRepair.mk x2129.Name x2211 x2258 x2129.Price x2129.Hours)] : List SRepair)] := memEq hS2351 (by kernel_rfl)
  have hb2353 : Ext w w2349 := Below.trans hb2125 hB2350
  have hL2354 : w.heap.size ≤ w2349.heap.size := Nat.le_trans hL2126 hB2350.size
  refine WQ.subk [4, 5, 6, 7, 19, 48] [(4, .pointer (some ⟨b5, 0, none⟩)), (5, .slice a16 st2103.2.2.length c17), (6, .slice a2104 st2103.1.length c2105), (7, .int .i64 st2103.2.1), (19, .slice a2104 st2103.1.length c2105), (48, .slice ((g2128 29 0).1) (([(SRepair.mk x2129.Name x2211 x2258 x2129.Price x2129.Hours)] : List SRepair).length) ((g2128 29 0).2))] (by kernel_rfl) ?_
  have hS2355 : SH w2349 w.heap.size [aNest fRepair 48 2 a16 c17 (st2103.2.2.set (Int.toNat st2103.2.1) x2129), aNest fRepair 48 2 a2104 c2105 st2103.1, aBox 82 b5 [.slice a0' code_0.length c0', .int .i64 x14.2.1, .int .u64 x14.2.2], aNest fRepair 48 2 ((g2128 29 0).1) ((g2128 29 0).2) ([(SRepair.mk x2129.Name x2211 x2258 x2129.Price x2129.Hours)] : List SRepair)] := SH.elemBack (Ix := [aOwn fInt 2 a2131 c2132 x2129.Mends, aOwn fInt 2 a2134 c2135 x2129.First]) (x' := x2129) hS2352 (.val (Fit.row' rfl (Fit.row' rfl (.val (.val .nil)))))
  refine WQ.sub [(4, .pointer (some ⟨b5, 0, none⟩)), (5, .slice a16 ((st2103.2.2.set (Int.toNat st2103.2.1) x2129).length) c17), (6, .slice a2104 st2103.1.length c2105), (7, .int .i64 st2103.2.1), (19, .slice a2104 st2103.1.length c2105), (48, .slice ((g2128 29 0).1) (([(SRepair.mk x2129.Name x2211 x2258 x2129.Price x2129.Hours)] : List SRepair).length) ((g2128 29 0).2))] ⟨rfl, by first | (simp only [List.length_set]; done) | (simp only [List.length_set]; rfl), rfl, rfl, rfl, rfl, trivial⟩ ?_
  refine WA.one (i := 30) (D' := [0, 1, 2, 3, 4, 5, 6, 7, 8, 9, 10, 11, 12, 13, 14, 15, 16, 17, 18, 19, 20, 21, 22, 23, 24, 25, 26, 27, 28, 29, 30]) rfl rfl (by kernel_rfl) ?_
  obtain ⟨x2356, hx2357, hm⟩ := bindE hm
  refine WL.appendN (F := fRepair) (ei := 2) (xs := st2103.1) (ys := ([(SRepair.mk x2129.Name x2211 x2258 x2129.Price x2129.Hours)] : List SRepair)) 49 (SH.front 3 (SH.front 3 (SH.front 1 (SH.front 2 hS2355)))) hL2354 hx2357 rfl rfl rfl Tryz.underlying24 (info48).1 (info48).2.2.1 (info48).2.1 (info48).2.2.2 rfl rfl rfl rfl rfl ?_
  intro a2358 c2359 w2360 hB2361 hS2362
  have hb2363 : Ext w w2360 := Below.trans hb2353 hB2361
  have hL2364 : w.heap.size ≤ w2360.heap.size := Nat.le_trans hL2354 hB2361.size
  refine WL.sub [(4, .pointer (some ⟨b5, 0, none⟩)), (5, .slice a16 ((st2103.2.2.set (Int.toNat st2103.2.1) x2129).length) c17), (7, .int .i64 st2103.2.1), (49, .slice a2358 x2356.length c2359)] ⟨rfl, rfl, rfl, rfl, trivial⟩ ?_
  refine WL.nil ?_
  refine WA.one (i := 31) (D' := [0, 1, 2, 3, 4, 5, 6, 7, 8, 9, 10, 11, 12, 13, 14, 15, 16, 17, 18, 19, 20, 21, 22, 23, 24, 25, 26, 27, 28, 29, 30, 31]) rfl rfl (by kernel_rfl) ?_
  refine WL.runk 1 [4, 5, 6, 7] [(4, .pointer (some ⟨b5, 0, none⟩)), (5, .slice a16 ((st2103.2.2.set (Int.toNat st2103.2.1) x2129).length) c17), (7, .int .i64 st2103.2.1), (6, .slice a2358 x2356.length c2359)] (by kernel_rfl) ?_
  refine WL.nil ?_
  refine WA.done (by kernel_rfl) ?_
  refine WQ.block_normal ?_
  refine WQ.then_normal (hK2122 _ _ _ ?_)
  refine WP.region ?_
  refine WL.runk 3 [4, 5, 6, 7] [(4, .pointer (some ⟨b5, 0, none⟩)), (5, .slice a16 ((st2103.2.2.set (Int.toNat st2103.2.1) x2129).length) c17), (7, .int .i64 (wI64 (st2103.2.1 + 1))), (6, .slice a2358 x2356.length c2359)] (by kernel_rfl) ?_
  refine WL.nil ?_
  obtain rfl := Option.some.inj hm
  exact WQ.round hK2113 ⟨(x2356, (wI64 (st2103.2.1 + 1)), (st2103.2.2.set (Int.toNat st2103.2.1) x2129)), _, _, rfl, hb2363, hL2364, hS2362, hl2111⟩ (Nat.lt_succ_self _) ⟨rfl, rfl, rfl, rfl, trivial⟩

theorem c_19 (n : Nat) (code_0 : List Int) (a0' : Option Addr) (c0' : Nat) (w : World) {r : List SRepair × Int} (hm : m_spec_DrawRepairText n code_0 = some r) (h0 : Rd fU8.ty w a0' code_0) (hle0 : code_0.length ≤ c0') :
    CallV Tryz.prog 19 #[.slice a0' code_0.length c0'] w (fun v w' => ∃ (ra0 : Option Addr) (rc0 : Nat), v = .tuple #[.slice ra0 r.1.length rc0, .int .i64 r.2] ∧ Ext w w' ∧ SH w' w.heap.size [aNest fRepair 48 2 ra0 rc0 r.1]) := by
  unfold m_spec_DrawRepairText at hm
  refine CallV.enter Tryz.func19 rfl (by kernel_rfl) Tryz.ntmps19 (env := [(0, .slice a0' code_0.length c0')]) ⟨rfl, trivial⟩ ?_
  refine WP.seq (fun K1 hK1 => ?_)
  refine WP.region ?_
  refine WL.runk 2 [0] [(0, .slice a0' code_0.length c0')] (by kernel_rfl) ?_
  refine WL.nil ?_
  refine WQ.then_normal (hK1 _ _ _ ?_)
  refine WP.seq (fun K2 hK2 => ?_)
  refine WP.region ?_
  refine WL.runk 1 [6] [(6, .slice a0' code_0.length c0')] (by kernel_rfl) ?_
  obtain ⟨x3, hx4, hm⟩ := bindE hm
  refine WL.call 46 #[.slice a0' code_0.length c0'] rfl rfl (by kernel_rfl) (c_46 n code_0 a0' c0' w hx4 (Rd.below h0 (Ext.refl w)) hle0) ?_
  rintro _ w7 ⟨b5, rfl, hE8, hR9⟩
  refine ⟨_, rfl, ?_⟩
  have hb10 : Ext w w7 := Ext.trans (Ext.refl w) hE8
  have hL11 : w.heap.size ≤ w7.heap.size := Nat.le_trans (Nat.le_refl _) hE8.size
  have hS12 : SH w7 w.heap.size [aBox 82 b5 [.slice a0' code_0.length c0', .int .i64 x3.1, .int .u64 x3.2]] := SH.add (SH.nil _ _) hE8 (Nat.le_refl _) hR9
  refine WL.runk 1 [4] [(4, .pointer (some ⟨b5, 0, none⟩))] (by kernel_rfl) ?_
  refine WL.nil ?_
  refine WQ.then_normal (hK2 _ _ _ ?_)
  refine WP.seq (fun K13 hK13 => ?_)
  refine WP.region ?_
  refine WL.runk 1 [4, 8] [(4, .pointer (some ⟨b5, 0, none⟩)), (8, .pointer (some ⟨b5, 0, none⟩))] (by kernel_rfl) ?_
  obtain ⟨x14, hx15, hm⟩ := bindE hm
  refine WL.call 47 #[.pointer (some ⟨b5, 0, none⟩)] rfl rfl (by kernel_rfl) (c_47 n code_0 a0' c0' x3.1 x3.2 b5 w7 w w.heap.size [] hx15 hb10 (Nat.le_refl _) hL11 h0 hle0 hS12) ?_
  rintro _ w19 ⟨a16, c17, rfl, hB23, hS22⟩
  refine ⟨_, rfl, ?_⟩
  have hb24 : Ext w w19 := Below.trans hb10 hB23
  have hL25 : w.heap.size ≤ w19.heap.size := Nat.le_trans hL11 hB23.size
  refine WL.runk 1 [4, 5] [(4, .pointer (some ⟨b5, 0, none⟩)), (5, .slice a16 x14.1.length c17)] (by kernel_rfl) ?_
  refine WL.nil ?_
  refine WQ.then_normal (hK13 _ _ _ ?_)
  refine WP.seq (fun K26 hK26 => ?_)
  refine WP.region ?_
  refine WL.runk 5 [4, 10, 11, 14] [(4, .pointer (some ⟨b5, 0, none⟩)), (10, .slice a16 x14.1.length c17), (11, .pointer (some ⟨b5, 0, none⟩)), (14, .int .i64 (wI64 ((x14.1.length : Int) + 1)))] (by kernel_rfl) ?_
  obtain ⟨x27, hx28, hm⟩ := bindE hm
  refine WL.call 50 #[.pointer (some ⟨b5, 0, none⟩), .int .i64 (wI64 ((x14.1.length : Int) + 1))] rfl rfl (by kernel_rfl) (c_50 n code_0 a0' c0' x14.2.1 x14.2.2 b5 (wI64 ((x14.1.length : Int) + 1)) w19 w w.heap.size [aNest fRepair 48 2 a16 c17 x14.1] hx28 hb24 (Nat.le_refl _) hL25 h0 hle0 (SH.front 1 hS22)) ?_
  rintro _ w29 ⟨rfl, hB33, hS32⟩
  refine ⟨_, rfl, ?_⟩
  have hb34 : Ext w w29 := Below.trans hb24 hB33
  have hL35 : w.heap.size ≤ w29.heap.size := Nat.le_trans hL25 hB33.size
  refine WL.runk 1 [10, 15, 16] [(10, .slice a16 x14.1.length c17), (15, .int .i64 x27.1), (16, .pointer (some ⟨b5, 0, none⟩))] (by kernel_rfl) ?_
  obtain ⟨x36, hx37, hm⟩ := bindE hm
  refine WL.call 50 #[.pointer (some ⟨b5, 0, none⟩), .int .i64 16] rfl rfl (by kernel_rfl) (c_50 n code_0 a0' c0' x27.2.1 x27.2.2 b5 16 w29 w w.heap.size [aNest fRepair 48 2 a16 c17 x14.1] hx37 hb34 (Nat.le_refl _) hL35 h0 hle0 hS32) ?_
  rintro _ w38 ⟨rfl, hB42, hS41⟩
  refine ⟨_, rfl, ?_⟩
  have hb43 : Ext w w38 := Below.trans hb34 hB42
  have hL44 : w.heap.size ≤ w38.heap.size := Nat.le_trans hL35 hB42.size
  refine WL.runk 4 [2, 3] [(2, .slice a16 x14.1.length c17), (3, .int .i64 (wI64 (x27.1 - (wI64 (Int.tdiv x36.1 15)))))] (by kernel_rfl) ?_
  refine WL.nil ?_
  refine WQ.then_normal (hK26 _ _ _ ?_)
  refine WP.ret ?_
  obtain rfl := Option.some.inj hm
  exact WQ.ret2 _ _ rfl rfl rfl ⟨_, _, rfl, hb43, (SH.take 1 (SH.front 1 hS41))⟩

theorem c_20 (n : Nat) (a_0 : List Int) (a0' : Option Addr) (c0' : Nat) (b_1 : List Int) (a1' : Option Addr) (c1' : Nat) (w : World) {r : Bool} (hm : m_laws_f6ints n a_0 b_1 = some r) (h0 : Rd fInt.ty w a0' a_0) (_hle0 : a_0.length ≤ c0') (h1 : Rd fInt.ty w a1' b_1) (_hle1 : b_1.length ≤ c1') :
    CallV Tryz.prog 20 #[.slice a0' a_0.length c0', .slice a1' b_1.length c1'] w (fun v w' => v = .bool r ∧ Ext w w') := by
  unfold m_laws_f6ints at hm
  refine CallV.enter Tryz.func20 rfl (by kernel_rfl) Tryz.ntmps20 (env := [(0, .slice a0' a_0.length c0'), (1, .slice a1' b_1.length c1')]) ⟨rfl, rfl, trivial⟩ ?_
  refine WP.seq (fun K1 hK1 => ?_)
  refine WP.region ?_
  refine WL.runk 1 [0, 1] [(0, .slice a0' a_0.length c0'), (1, .slice a1' b_1.length c1')] (by kernel_rfl) ?_
  refine WL.nil ?_
  refine WQ.then_normal (hK1 _ _ _ ?_)
  refine WP.seq (fun K2 hK2 => ?_)
  refine WP.seq (fun K3 hK3 => ?_)
  refine WP.region ?_
  refine WL.runk 5 [0, 1, 10] [(0, .slice a0' a_0.length c0'), (1, .slice a1' b_1.length c1'), (10, .bool ((a_0.length : Int) != (b_1.length : Int)))] (by kernel_rfl) ?_
  refine WL.nil ?_
  refine WQ.then_normal (hK3 _ _ _ ?_)
  refine WP.cond ((a_0.length : Int) != (b_1.length : Int)) rfl rfl (fun hc4 => ?_) (fun hc4 => ?_)
  · have hm := iteT hm hc4
    refine WP.seq (fun K5 hK5 => ?_)
    refine WP.region ?_
    refine WL.runk 1 [4] [(4, .bool false)] (by kernel_rfl) ?_
    refine WL.nil ?_
    refine WQ.then_normal (hK5 _ _ _ ?_)
    refine WP.ret ?_
    refine WQ.then_ret ?_
    obtain rfl := Option.some.inj hm
    exact WQ.ret1 _ rfl rfl ⟨rfl, (Ext.refl w)⟩
  have hm := iteF hm hc4
  refine WP.skip ?_
  refine WQ.then_normal (hK2 _ _ _ ?_)
  refine WP.seq (fun K6 hK6 => ?_)
  refine WP.seq (fun K7 hK7 => ?_)
  refine WP.region ?_
  refine WL.runk 1 [0, 1, 5] [(0, .slice a0' a_0.length c0'), (1, .slice a1' b_1.length c1'), (5, .int .i64 0)] (by kernel_rfl) ?_
  refine WL.nil ?_
  refine WQ.then_normal (hK7 _ _ _ ?_)
  refine WP.block ?_
  obtain ⟨t19, ht20, hm⟩ := bindE hm
  have hmo14 := hm; clear hm
  refine WP.sub [(0, .slice a0' a_0.length c0'), (1, .slice a1' b_1.length c1'), (5, .int .i64 0)] ⟨rfl, rfl, rfl, trivial⟩ ?_
  refine WP.loop (fun n' env' w' => ∃ (st8 : Int) , env' = [(0, .slice a0' a_0.length c0'), (1, .slice a1' b_1.length c1'), (5, .int .i64 st8)] ∧ Ext w w' ∧ w.heap.size ≤ w'.heap.size ∧ SH w' w.heap.size [] ∧ loopN (m_laws_f6ints_l1 n a_0 b_1) n' st8 = some t19) n ⟨0, rfl, (Ext.refl w), (Nat.le_refl _), (SH.nil _ _), ht20⟩ ?_
  rintro n16 _ w9 ⟨st8, rfl, hb10, hL11, hS12, hl13⟩ K15 hK15
  obtain ⟨n17, s18, rfl, hm, hl13⟩ := loopN_some hl13
  unfold m_laws_f6ints_l1 at hm
  refine WP.seq (fun K21 hK21 => ?_)
  refine WP.seq (fun K22 hK22 => ?_)
  refine WP.region ?_
  refine WL.runk 4 [0, 1, 5, 14] [(0, .slice a0' a_0.length c0'), (1, .slice a1' b_1.length c1'), (5, .int .i64 st8), (14, .bool (decide (st8 < (a_0.length : Int))))] (by kernel_rfl) ?_
  refine WL.nil ?_
  refine WQ.then_normal (hK22 _ _ _ ?_)
  refine WP.cond (decide (st8 < (a_0.length : Int))) rfl rfl (fun hc23 => ?_) (fun hc23 => ?_)
  rotate_left
  · have hm := iteF hm hc23
    refine WP.exit ?_
    refine WQ.then_exit ?_
    refine WQ.then_exit ?_
    refine WQ.block_here ?_
    obtain rfl := Option.some.inj hm
    obtain rfl := afterN_done hl13
    have hm := hmo14
    refine WQ.then_normal (hK6 _ _ _ ?_)
    refine WP.seq (fun K37 hK37 => ?_)
    refine WP.region ?_
    refine WL.runk 1 [4] [(4, .bool true)] (by kernel_rfl) ?_
    refine WL.nil ?_
    refine WQ.then_normal (hK37 _ _ _ ?_)
    refine WP.ret ?_
    obtain rfl := Option.some.inj hm
    exact WQ.ret1 _ rfl rfl ⟨rfl, hb10⟩
  have hm := iteT hm hc23
  refine WP.skip ?_
  refine WQ.then_normal (hK21 _ _ _ ?_)
  refine WP.seq (fun K24 hK24 => ?_)
  refine WP.block ?_
  refine WP.seq (fun K25 hK25 => ?_)
  refine WP.quiet (by kernel_rfl) (by kernel_rfl) ?_
  refine QL.step1v 17 (.slice a0' a_0.length c0') rfl (fun _ => by kernel_rfl) ?_
  refine QL.step1v 18 (.int .i64 st8) rfl (fun _ => by kernel_rfl) ?_
  refine QL.subk [0, 1, 5, 17, 18] [(0, .slice a0' a_0.length c0'), (1, .slice a1' b_1.length c1'), (5, .int .i64 st8), (17, .slice a0' a_0.length c0'), (18, .int .i64 st8)] (by kernel_rfl) ?_
  obtain ⟨x26, hx27, hm⟩ := bindE hm
  refine QL.st (.pointer (some (at_ a0' (Int.toNat st8 * 1)))) (ST.index (T := fInt.ty) (xs := a_0) (Rd.below h0 hb10) hx27 rfl rfl rfl Tryz.underlying25 (info2).1 (info2).2.1) rfl rfl rfl ?_
  refine QL.st (.int .i64 x26) (ST.load (cell_ext (Rd.flat (F := fInt) (Rd.below h0 hb10) hx27 0 rfl)) rfl rfl Tryz.underlying2 rfl) rfl rfl rfl ?_
  refine QL.step1v 21 (.slice a1' b_1.length c1') rfl (fun _ => by kernel_rfl) ?_
  refine QL.step1v 22 (.int .i64 st8) rfl (fun _ => by kernel_rfl) ?_
  refine QL.subk [0, 1, 5, 20, 21, 22] [(0, .slice a0' a_0.length c0'), (1, .slice a1' b_1.length c1'), (5, .int .i64 st8), (20, .int .i64 x26), (21, .slice a1' b_1.length c1'), (22, .int .i64 st8)] (by kernel_rfl) ?_
  obtain ⟨x28, hx29, hm⟩ := bindE hm
  refine QL.st (.pointer (some (at_ a1' (Int.toNat st8 * 1)))) (ST.index (T := fInt.ty) (xs := b_1) (Rd.below h1 hb10) hx29 rfl rfl rfl Tryz.underlying25 (info2).1 (info2).2.1) rfl rfl rfl ?_
  refine QL.st (.int .i64 x28) (ST.load (cell_ext (Rd.flat (F := fInt) (Rd.below h1 hb10) hx29 0 rfl)) rfl rfl Tryz.underlying2 rfl) rfl rfl rfl ?_
  refine QL.step1v 25 (.bool (x26 != x28)) rfl (fun _ => by kernel_rfl) ?_
  refine QL.subk [0, 1, 5, 25] [(0, .slice a0' a_0.length c0'), (1, .slice a1' b_1.length c1'), (5, .int .i64 st8), (25, .bool (x26 != x28))] (by kernel_rfl) ?_
  refine QL.nil ?_
  intro w30 hE31
  have hb32 : Ext w w30 := Ext.trans hb10 hE31
  have hL33 : w.heap.size ≤ w30.heap.size := Nat.le_trans hL11 hE31.size
  have hS34 : SH w30 w.heap.size [] := SH.ext hS12 hE31
  refine WQ.then_normal (hK25 _ _ _ ?_)
  refine WP.cond (x26 != x28) rfl rfl (fun hc35 => ?_) (fun hc35 => ?_)
  rotate_left
  · have hm := iteF hm hc35
    refine WP.skip ?_
    refine WQ.block_normal ?_
    refine WQ.then_normal (hK24 _ _ _ ?_)
    refine WP.region ?_
    refine WL.runk 3 [0, 1, 5] [(0, .slice a0' a_0.length c0'), (1, .slice a1' b_1.length c1'), (5, .int .i64 (wI64 (st8 + 1)))] (by kernel_rfl) ?_
    refine WL.nil ?_
    obtain rfl := Option.some.inj hm
    exact WQ.round hK15 ⟨(wI64 (st8 + 1)), rfl, hb32, hL33, hS34, hl13⟩ (Nat.lt_succ_self _) ⟨rfl, rfl, rfl, trivial⟩
  have hm := iteT hm hc35
  refine WP.seq (fun K36 hK36 => ?_)
  refine WP.region ?_
  refine WL.runk 1 [4] [(4, .bool false)] (by kernel_rfl) ?_
  refine WL.nil ?_
  refine WQ.then_normal (hK36 _ _ _ ?_)
  refine WP.ret ?_
  refine WQ.block_ret ?_
  refine WQ.then_ret ?_
  refine WQ.then_ret ?_
  refine WQ.block_ret ?_
  refine WQ.then_ret ?_
  obtain rfl := Option.some.inj hm
  obtain rfl := afterN_done hl13
  have hm := hmo14
  obtain rfl := Option.some.inj hm
  exact WQ.ret1 _ rfl rfl ⟨rfl, hb32⟩

theorem c_59 (n : Nat) (s1_0 : List Int) (a0' : Option Addr) (c0' : Nat) (s2_1 : List Int) (a1' : Option Addr) (c1' : Nat) (w : World) {r : Bool} (hm : m_slices_Equal_int64_int64 n s1_0 s2_1 = some r) (h0 : Rd fInt.ty w a0' s1_0) (_hle0 : s1_0.length ≤ c0') (h1 : Rd fInt.ty w a1' s2_1) (_hle1 : s2_1.length ≤ c1') :
    CallV Tryz.prog 59 #[.slice a0' s1_0.length c0', .slice a1' s2_1.length c1'] w (fun v w' => v = .bool r ∧ Ext w w') := by
  unfold m_slices_Equal_int64_int64 at hm
  refine CallV.enter Tryz.func59 rfl (by kernel_rfl) Tryz.ntmps59 (env := [(0, .slice a0' s1_0.length c0'), (1, .slice a1' s2_1.length c1')]) ⟨rfl, rfl, trivial⟩ ?_
  refine WP.seq (fun K1 hK1 => ?_)
  refine WP.region ?_
  refine WL.runk 1 [0, 1] [(0, .slice a0' s1_0.length c0'), (1, .slice a1' s2_1.length c1')] (by kernel_rfl) ?_
  refine WL.nil ?_
  refine WQ.then_normal (hK1 _ _ _ ?_)
  refine WP.seq (fun K2 hK2 => ?_)
  refine WP.seq (fun K3 hK3 => ?_)
  refine WP.region ?_
  refine WL.runk 5 [0, 1, 10] [(0, .slice a0' s1_0.length c0'), (1, .slice a1' s2_1.length c1'), (10, .bool ((s1_0.length : Int) != (s2_1.length : Int)))] (by kernel_rfl) ?_
  refine WL.nil ?_
  refine WQ.then_normal (hK3 _ _ _ ?_)
  refine WP.cond ((s1_0.length : Int) != (s2_1.length : Int)) rfl rfl (fun hc4 => ?_) (fun hc4 => ?_)
  · have hm := iteT hm hc4
    refine WP.seq (fun K5 hK5 => ?_)
    refine WP.region ?_
    refine WL.runk 1 [4] [(4, .bool false)] (by kernel_rfl) ?_
    refine WL.nil ?_
    refine WQ.then_normal (hK5 _ _ _ ?_)
    refine WP.ret ?_
    refine WQ.then_ret ?_
    obtain rfl := Option.some.inj hm
    exact WQ.ret1 _ rfl rfl ⟨rfl, (Ext.refl w)⟩
  have hm := iteF hm hc4
  refine WP.skip ?_
  refine WQ.then_normal (hK2 _ _ _ ?_)
  refine WP.seq (fun K6 hK6 => ?_)
  refine WP.seq (fun K7 hK7 => ?_)
  refine WP.region ?_
  refine WL.runk 3 [0, 1, 12, 13] [(0, .slice a0' s1_0.length c0'), (1, .slice a1' s2_1.length c1'), (12, .int .i64 (s1_0.length : Int)), (13, .int .i64 0)] (by kernel_rfl) ?_
  refine WL.nil ?_
  refine WQ.then_normal (hK7 _ _ _ ?_)
  refine WP.block ?_
  obtain ⟨t19, ht20, hm⟩ := bindE hm
  have hmo14 := hm; clear hm
  refine WP.sub [(0, .slice a0' s1_0.length c0'), (1, .slice a1' s2_1.length c1'), (12, .int .i64 (s1_0.length : Int)), (13, .int .i64 0)] ⟨rfl, rfl, rfl, rfl, trivial⟩ ?_
  refine WP.loop (fun n' env' w' => ∃ (st8 : Int) , env' = [(0, .slice a0' s1_0.length c0'), (1, .slice a1' s2_1.length c1'), (12, .int .i64 (s1_0.length : Int)), (13, .int .i64 st8)] ∧ Ext w w' ∧ w.heap.size ≤ w'.heap.size ∧ SH w' w.heap.size [] ∧ loopN (m_slices_Equal_int64_int64_l1 n s1_0 s2_1) n' st8 = some t19) n ⟨0, rfl, (Ext.refl w), (Nat.le_refl _), (SH.nil _ _), ht20⟩ ?_
  rintro n16 _ w9 ⟨st8, rfl, hb10, hL11, hS12, hl13⟩ K15 hK15
  obtain ⟨n17, s18, rfl, hm, hl13⟩ := loopN_some hl13
  unfold m_slices_Equal_int64_int64_l1 at hm
  refine WP.seq (fun K21 hK21 => ?_)
  refine WP.region ?_
  refine WL.runk 1 [0, 1, 12, 13, 14] [(0, .slice a0' s1_0.length c0'), (1, .slice a1' s2_1.length c1'), (12, .int .i64 (s1_0.length : Int)), (13, .int .i64 st8), (14, .bool (decide (st8 < (s1_0.length : Int))))] (by kernel_rfl) ?_
  refine WL.nil ?_
  refine WQ.then_normal (hK21 _ _ _ ?_)
  refine WP.seq (fun K22 hK22 => ?_)
  refine WP.cond (decide (st8 < (s1_0.length : Int))) rfl rfl (fun hc23 => ?_) (fun hc23 => ?_)
  rotate_left
  · have hm := iteF hm hc23
    refine WP.exit ?_
    refine WQ.then_exit ?_
    refine WQ.then_exit ?_
    refine WQ.block_here ?_
    obtain rfl := Option.some.inj hm
    obtain rfl := afterN_done hl13
    have hm := hmo14
    refine WQ.then_normal (hK6 _ _ _ ?_)
    refine WP.seq (fun K38 hK38 => ?_)
    refine WP.region ?_
    refine WL.runk 1 [4] [(4, .bool true)] (by kernel_rfl) ?_
    refine WL.nil ?_
    refine WQ.then_normal (hK38 _ _ _ ?_)
    refine WP.ret ?_
    obtain rfl := Option.some.inj hm
    exact WQ.ret1 _ rfl rfl ⟨rfl, hb10⟩
  have hm := iteT hm hc23
  refine WP.skip ?_
  refine WQ.then_normal (hK22 _ _ _ ?_)
  refine WP.seq (fun K24 hK24 => ?_)
  refine WP.block ?_
  refine WP.seq (fun K25 hK25 => ?_)
  refine WP.region ?_
  refine WL.runk 2 [0, 1, 5, 12, 13] [(0, .slice a0' s1_0.length c0'), (1, .slice a1' s2_1.length c1'), (12, .int .i64 (s1_0.length : Int)), (13, .int .i64 st8), (5, .int .i64 st8)] (by kernel_rfl) ?_
  refine WL.nil ?_
  refine WQ.then_normal (hK25 _ _ _ ?_)
  refine WP.seq (fun K26 hK26 => ?_)
  refine WP.quiet (by kernel_rfl) (by kernel_rfl) ?_
  refine QL.step1v 16 (.slice a0' s1_0.length c0') rfl (fun _ => by kernel_rfl) ?_
  refine QL.step1v 17 (.int .i64 st8) rfl (fun _ => by kernel_rfl) ?_
  refine QL.subk [0, 1, 12, 13, 5, 16, 17] [(0, .slice a0' s1_0.length c0'), (1, .slice a1' s2_1.length c1'), (12, .int .i64 (s1_0.length : Int)), (13, .int .i64 st8), (5, .int .i64 st8), (16, .slice a0' s1_0.length c0'), (17, .int .i64 st8)] (by kernel_rfl) ?_
  obtain ⟨x27, hx28, hm⟩ := bindE hm
  refine QL.st (.pointer (some (at_ a0' (Int.toNat st8 * 1)))) (ST.index (T := fInt.ty) (xs := s1_0) (Rd.below h0 hb10) hx28 rfl rfl rfl Tryz.underlying25 (info2).1 (info2).2.1) rfl rfl rfl ?_
  refine QL.st (.int .i64 x27) (ST.load (cell_ext (Rd.flat (F := fInt) (Rd.below h0 hb10) hx28 0 rfl)) rfl rfl Tryz.underlying2 rfl) rfl rfl rfl ?_
  refine QL.step1v 20 (.slice a1' s2_1.length c1') rfl (fun _ => by kernel_rfl) ?_
  refine QL.step1v 21 (.int .i64 st8) rfl (fun _ => by kernel_rfl) ?_
  refine QL.subk [0, 1, 12, 13, 19, 20, 21] [(0, .slice a0' s1_0.length c0'), (1, .slice a1' s2_1.length c1'), (12, .int .i64 (s1_0.length : Int)), (13, .int .i64 st8), (19, .int .i64 x27), (20, .slice a1' s2_1.length c1'), (21, .int .i64 st8)] (by kernel_rfl) ?_
  obtain ⟨x29, hx30, hm⟩ := bindE hm
  refine QL.st (.pointer (some (at_ a1' (Int.toNat st8 * 1)))) (ST.index (T := fInt.ty) (xs := s2_1) (Rd.below h1 hb10) hx30 rfl rfl rfl Tryz.underlying25 (info2).1 (info2).2.1) rfl rfl rfl ?_
  refine QL.st (.int .i64 x29) (ST.load (cell_ext (Rd.flat (F := fInt) (Rd.below h1 hb10) hx30 0 rfl)) rfl rfl Tryz.underlying2 rfl) rfl rfl rfl ?_
  refine QL.step1v 24 (.bool (x27 != x29)) rfl (fun _ => by kernel_rfl) ?_
  refine QL.subk [0, 1, 12, 13, 24] [(0, .slice a0' s1_0.length c0'), (1, .slice a1' s2_1.length c1'), (12, .int .i64 (s1_0.length : Int)), (13, .int .i64 st8), (24, .bool (x27 != x29))] (by kernel_rfl) ?_
  refine QL.nil ?_
  intro w31 hE32
  have hb33 : Ext w w31 := Ext.trans hb10 hE32
  have hL34 : w.heap.size ≤ w31.heap.size := Nat.le_trans hL11 hE32.size
  have hS35 : SH w31 w.heap.size [] := SH.ext hS12 hE32
  refine WQ.then_normal (hK26 _ _ _ ?_)
  refine WP.cond (x27 != x29) rfl rfl (fun hc36 => ?_) (fun hc36 => ?_)
  rotate_left
  · have hm := iteF hm hc36
    refine WP.skip ?_
    refine WQ.block_normal ?_
    refine WQ.then_normal (hK24 _ _ _ ?_)
    refine WP.region ?_
    refine WL.runk 2 [0, 1, 12, 13] [(0, .slice a0' s1_0.length c0'), (1, .slice a1' s2_1.length c1'), (12, .int .i64 (s1_0.length : Int)), (13, .int .i64 (wI64 (st8 + 1)))] (by kernel_rfl) ?_
    refine WL.nil ?_
    obtain rfl := Option.some.inj hm
    exact WQ.round hK15 ⟨(wI64 (st8 + 1)), rfl, hb33, hL34, hS35, hl13⟩ (Nat.lt_succ_self _) ⟨rfl, rfl, rfl, rfl, trivial⟩
  have hm := iteT hm hc36
  refine WP.seq (fun K37 hK37 => ?_)
  refine WP.region ?_
  refine WL.runk 1 [4] [(4, .bool false)] (by kernel_rfl) ?_
  refine WL.nil ?_
  refine WQ.then_normal (hK37 _ _ _ ?_)
  refine WP.ret ?_
  refine WQ.block_ret ?_
  refine WQ.then_ret ?_
  refine WQ.then_ret ?_
  refine WQ.block_ret ?_
  refine WQ.then_ret ?_
  obtain rfl := Option.some.inj hm
  obtain rfl := afterN_done hl13
  have hm := hmo14
  obtain rfl := Option.some.inj hm
  exact WQ.ret1 _ rfl rfl ⟨rfl, hb33⟩

theorem c_58 (n : Nat) (x_0 : SRepair) (a0_1' : Option Addr) (c0_1' : Nat) (a0_2' : Option Addr) (c0_2' : Nat) (y_1 : SRepair) (a1_1' : Option Addr) (c1_1' : Nat) (a1_2' : Option Addr) (c1_2' : Nat) (w : World) {r : Bool} (hm : m_impl_SameRepairs_1 n x_0 y_1 = some r) (hr0_1 : Rd fInt.ty w a0_1' x_0.Mends) (hle0_1 : x_0.Mends.length ≤ c0_1') (hr0_2 : Rd fInt.ty w a0_2' x_0.First) (hle0_2 : x_0.First.length ≤ c0_2') (hr1_1 : Rd fInt.ty w a1_1' y_1.Mends) (hle1_1 : y_1.Mends.length ≤ c1_1') (hr1_2 : Rd fInt.ty w a1_2' y_1.First) (hle1_2 : y_1.First.length ≤ c1_2') :
    CallV Tryz.prog 58 #[.agg #[.string (bs x_0.Name), .slice a0_1' x_0.Mends.length c0_1', .slice a0_2' x_0.First.length c0_2', .int .i64 x_0.Price, .int .i64 x_0.Hours], .agg #[.string (bs y_1.Name), .slice a1_1' y_1.Mends.length c1_1', .slice a1_2' y_1.First.length c1_2', .int .i64 y_1.Price, .int .i64 y_1.Hours]] w (fun v w' => v = .bool r ∧ Ext w w') := by
  unfold m_impl_SameRepairs_1 at hm
  refine CallV.enter Tryz.func58 rfl (by kernel_rfl) Tryz.ntmps58 (env := [(0, .agg #[.string (bs x_0.Name), .slice a0_1' x_0.Mends.length c0_1', .slice a0_2' x_0.First.length c0_2', .int .i64 x_0.Price, .int .i64 x_0.Hours]), (1, .agg #[.string (bs y_1.Name), .slice a1_1' y_1.Mends.length c1_1', .slice a1_2' y_1.First.length c1_2', .int .i64 y_1.Price, .int .i64 y_1.Hours])]) ⟨rfl, rfl, trivial⟩ ?_
  refine WP.seq (fun K1 hK1 => ?_)
  refine WP.region ?_
  refine WL.box 48 [.string (bs x_0.Name), .slice a0_1' x_0.Mends.length c0_1', .slice a0_2' x_0.First.length c0_2', .int .i64 x_0.Price, .int .i64 x_0.Hours] 2 (by kernel_rfl) rfl rfl rfl rfl ?_
  intro b2 w3 hE4 hR5
  have hb7 : Ext w w3 := Ext.trans (Ext.refl w) hE4
  have hL8 : w.heap.size ≤ w3.heap.size := Nat.le_trans (Nat.le_refl _) hE4.size
  have hS9 : SH w3 w.heap.size [aBox 48 b2 [.string (bs x_0.Name), .slice a0_1' x_0.Mends.length c0_1', .slice a0_2' x_0.First.length c0_2', .int .i64 x_0.Price, .int .i64 x_0.Hours]] := SH.add (SH.nil _ _) hE4 (Nat.le_refl _) hR5
  refine WL.box 48 [.string (bs y_1.Name), .slice a1_1' y_1.Mends.length c1_1', .slice a1_2' y_1.First.length c1_2', .int .i64 y_1.Price, .int .i64 y_1.Hours] 3 (by kernel_rfl) rfl rfl rfl rfl ?_
  intro b10 w11 hE12 hR13
  have hb15 : Ext w w11 := Ext.trans hb7 hE12
  have hL16 : w.heap.size ≤ w11.heap.size := Nat.le_trans hL8 hE12.size
  have hS17 : SH w11 w.heap.size [aBox 48 b10 [.string (bs y_1.Name), .slice a1_1' y_1.Mends.length c1_1', .slice a1_2' y_1.First.length c1_2', .int .i64 y_1.Price, .int .i64 y_1.Hours], aBox 48 b2 [.string (bs x_0.Name), .slice a0_1' x_0.Mends.length c0_1', .slice a0_2' x_0.First.length c0_2', .int .i64 x_0.Price, .int .i64 x_0.Hours]] := SH.add hS9 hE12 hL8 hR13
  refine WL.runk 1 [2, 3] [(2, .pointer (some ⟨b2, 0, none⟩)), (3, .pointer (some ⟨b10, 0, none⟩))] (by kernel_rfl) ?_
  refine WL.nil ?_
  refine WQ.then_normal (hK1 _ _ _ ?_)
  refine WP.seq (fun K18 hK18 => ?_)
  obtain ⟨x39, hx40, hm⟩ := bindE hm
  refine WP.cut (fun env' w' => env' = [(4, .bool x39)] ∧ Ext w w' ∧ w.heap.size ≤ w'.heap.size ∧ SH w' w.heap.size [aBox 48 b10 [.string (bs y_1.Name), .slice a1_1' y_1.Mends.length c1_1', .slice a1_2' y_1.First.length c1_2', .int .i64 y_1.Price, .int .i64 y_1.Hours], aBox 48 b2 [.string (bs x_0.Name), .slice a0_1' x_0.Mends.length c0_1', .slice a0_2' x_0.First.length c0_2', .int .i64 x_0.Price, .int .i64 x_0.Hours]]) ?_ ?_
  rotate_left
  · clear hx40
    rintro _ w61 ⟨rfl, hb62, hL63, hS64⟩
    refine WQ.then_normal (hK18 _ _ _ ?_)
    refine WP.ret ?_
    obtain rfl := Option.some.inj hm
    exact WQ.ret1 _ rfl rfl ⟨rfl, hb62⟩
  have hm := hx40; clear hx40
  refine WP.region ?_
  refine WL.runk 1 [2, 3, 5] [(2, .pointer (some ⟨b2, 0, none⟩)), (3, .pointer (some ⟨b10, 0, none⟩)), (5, .pointer (some ⟨b2, 0, none⟩))] (by kernel_rfl) ?_
  refine WL.st (.string (bs x_0.Name)) (ST.load (cell_ext (SH.boxAt (SH.front 1 hS17) 0 _ rfl)) rfl rfl Tryz.underlying9 rfl) rfl rfl rfl ?_
  refine WL.runk 1 [2, 3, 6, 7] [(2, .pointer (some ⟨b2, 0, none⟩)), (3, .pointer (some ⟨b10, 0, none⟩)), (6, .string (bs x_0.Name)), (7, .pointer (some ⟨b10, 0, none⟩))] (by kernel_rfl) ?_
  refine WL.st (.string (bs y_1.Name)) (ST.load (cell_ext (SH.boxAt (SH.front 0 hS17) 0 _ rfl)) rfl rfl Tryz.underlying9 rfl) rfl rfl rfl ?_
  refine WL.st (.bool (x_0.Name == y_1.Name)) (ST.streq (x := x_0.Name) (y := y_1.Name) rfl rfl rfl) rfl rfl rfl ?_
  refine WL.runk 1 [2, 3, 10] [(2, .pointer (some ⟨b2, 0, none⟩)), (3, .pointer (some ⟨b10, 0, none⟩)), (10, .bool (x_0.Name == y_1.Name))] (by kernel_rfl) ?_
  refine WL.case (x_0.Name == y_1.Name) [10] ⟨rfl, trivial⟩ (fun hc41 => ?_) (fun hc41 => ?_)
  rotate_left
  · have hm := iteF hm hc41
    refine WL.runk 28 [4] [(4, .bool false)] (by kernel_rfl) ?_
    refine WL.nil ?_
    obtain rfl := Option.some.inj hm
    exact WQ.post' ⟨rfl, hb15, hL16, hS17⟩ ⟨rfl, trivial⟩
  have hm := iteT hm hc41
  refine WL.runk 1 [2, 3, 10, 11] [(2, .pointer (some ⟨b2, 0, none⟩)), (3, .pointer (some ⟨b10, 0, none⟩)), (10, .bool true), (11, .pointer (some ⟨b2, 3, none⟩))] (by kernel_rfl) ?_
  refine WL.st (.int .i64 x_0.Price) (ST.load (cell_ext (SH.boxAt (SH.front 1 hS17) 3 _ rfl)) rfl rfl Tryz.underlying2 rfl) rfl rfl rfl ?_
  refine WL.runk 1 [2, 3, 10, 12, 13] [(2, .pointer (some ⟨b2, 0, none⟩)), (3, .pointer (some ⟨b10, 0, none⟩)), (10, .bool true), (12, .int .i64 x_0.Price), (13, .pointer (some ⟨b10, 3, none⟩))] (by kernel_rfl) ?_
  refine WL.st (.int .i64 y_1.Price) (ST.load (cell_ext (SH.boxAt (SH.front 0 hS17) 3 _ rfl)) rfl rfl Tryz.underlying2 rfl) rfl rfl rfl ?_
  refine WL.runk 3 [2, 3, 17] [(2, .pointer (some ⟨b2, 0, none⟩)), (3, .pointer (some ⟨b10, 0, none⟩)), (17, .bool (x_0.Price == y_1.Price))] (by kernel_rfl) ?_
  refine WL.case (x_0.Price == y_1.Price) [17] ⟨rfl, trivial⟩ (fun hc42 => ?_) (fun hc42 => ?_)
  rotate_left
  · have hm := iteF hm hc42
    refine WL.runk 21 [4] [(4, .bool false)] (by kernel_rfl) ?_
    refine WL.nil ?_
    obtain rfl := Option.some.inj hm
    exact WQ.post' ⟨rfl, hb15, hL16, hS17⟩ ⟨rfl, trivial⟩
  have hm := iteT hm hc42
  refine WL.runk 1 [2, 3, 17, 18] [(2, .pointer (some ⟨b2, 0, none⟩)), (3, .pointer (some ⟨b10, 0, none⟩)), (17, .bool true), (18, .pointer (some ⟨b2, 4, none⟩))] (by kernel_rfl) ?_
  refine WL.st (.int .i64 x_0.Hours) (ST.load (cell_ext (SH.boxAt (SH.front 1 hS17) 4 _ rfl)) rfl rfl Tryz.underlying2 rfl) rfl rfl rfl ?_
  refine WL.runk 1 [2, 3, 17, 19, 20] [(2, .pointer (some ⟨b2, 0, none⟩)), (3, .pointer (some ⟨b10, 0, none⟩)), (17, .bool true), (19, .int .i64 x_0.Hours), (20, .pointer (some ⟨b10, 4, none⟩))] (by kernel_rfl) ?_
  refine WL.st (.int .i64 y_1.Hours) (ST.load (cell_ext (SH.boxAt (SH.front 0 hS17) 4 _ rfl)) rfl rfl Tryz.underlying2 rfl) rfl rfl rfl ?_
  refine WL.runk 3 [2, 3, 24] [(2, .pointer (some ⟨b2, 0, none⟩)), (3, .pointer (some ⟨b10, 0, none⟩)), (24, .bool (x_0.Hours == y_1.Hours))] (by kernel_rfl) ?_
  refine WL.case (x_0.Hours == y_1.Hours) [24] ⟨rfl, trivial⟩ (fun hc43 => ?_) (fun hc43 => ?_)
  rotate_left
  · have hm := iteF hm hc43
    refine WL.runk 14 [4] [(4, .bool false)] (by kernel_rfl) ?_
    refine WL.nil ?_
    obtain rfl := Option.some.inj hm
    exact WQ.post' ⟨rfl, hb15, hL16, hS17⟩ ⟨rfl, trivial⟩
  have hm := iteT hm hc43
  refine WL.runk 1 [2, 3, 24, 25] [(2, .pointer (some ⟨b2, 0, none⟩)), (3, .pointer (some ⟨b10, 0, none⟩)), (24, .bool true), (25, .pointer (some ⟨b2, 1, none⟩))] (by kernel_rfl) ?_
  refine WL.st (.slice a0_1' x_0.Mends.length c0_1') (ST.load (cell_ext (SH.boxAt (SH.front 1 hS17) 1 _ rfl)) rfl rfl Tryz.underlying25 rfl) rfl rfl rfl ?_
  refine WL.runk 1 [2, 3, 24, 26, 27] [(2, .pointer (some ⟨b2, 0, none⟩)), (3, .pointer (some ⟨b10, 0, none⟩)), (24, .bool true), (26, .slice a0_1' x_0.Mends.length c0_1'), (27, .pointer (some ⟨b10, 1, none⟩))] (by kernel_rfl) ?_
  refine WL.st (.slice a1_1' y_1.Mends.length c1_1') (ST.load (cell_ext (SH.boxAt (SH.front 0 hS17) 1 _ rfl)) rfl rfl Tryz.underlying25 rfl) rfl rfl rfl ?_
  obtain ⟨x44, hx45, hm⟩ := bindE hm
  refine WL.call 59 #[.slice a0_1' x_0.Mends.length c0_1', .slice a1_1' y_1.Mends.length c1_1'] rfl rfl (by kernel_rfl) (c_59 n x_0.Mends a0_1' c0_1' y_1.Mends a1_1' c1_1' w11 hx45 (Rd.below hr0_1 hb15) hle0_1 (Rd.below hr1_1 hb15) hle1_1) ?_
  rintro _ w46 ⟨rfl, hE47⟩
  refine ⟨_, rfl, ?_⟩
  have hb49 : Ext w w46 := Ext.trans hb15 hE47
  have hL50 : w.heap.size ≤ w46.heap.size := Nat.le_trans hL16 hE47.size
  have hS51 : SH w46 w.heap.size [aBox 48 b10 [.string (bs y_1.Name), .slice a1_1' y_1.Mends.length c1_1', .slice a1_2' y_1.First.length c1_2', .int .i64 y_1.Price, .int .i64 y_1.Hours], aBox 48 b2 [.string (bs x_0.Name), .slice a0_1' x_0.Mends.length c0_1', .slice a0_2' x_0.First.length c0_2', .int .i64 x_0.Price, .int .i64 x_0.Hours]] := SH.ext hS17 hE47
  refine WL.runk 2 [2, 3, 31] [(2, .pointer (some ⟨b2, 0, none⟩)), (3, .pointer (some ⟨b10, 0, none⟩)), (31, .bool x44)] (by kernel_rfl) ?_
  refine WL.case x44 [31] ⟨rfl, trivial⟩ (fun hc52 => ?_) (fun hc52 => ?_)
  rotate_left
  · have hm := iteF hm hc52
    refine WL.runk 7 [4] [(4, .bool false)] (by kernel_rfl) ?_
    refine WL.nil ?_
    obtain rfl := Option.some.inj hm
    exact WQ.post' ⟨rfl, hb49, hL50, hS51⟩ ⟨rfl, trivial⟩
  have hm := iteT hm hc52
  refine WL.runk 1 [3, 31, 32] [(3, .pointer (some ⟨b10, 0, none⟩)), (31, .bool true), (32, .pointer (some ⟨b2, 2, none⟩))] (by kernel_rfl) ?_
  refine WL.st (.slice a0_2' x_0.First.length c0_2') (ST.load (cell_ext (SH.boxAt (SH.front 1 hS51) 2 _ rfl)) rfl rfl Tryz.underlying25 rfl) rfl rfl rfl ?_
  refine WL.runk 1 [31, 33, 34] [(31, .bool true), (33, .slice a0_2' x_0.First.length c0_2'), (34, .pointer (some ⟨b10, 2, none⟩))] (by kernel_rfl) ?_
  refine WL.st (.slice a1_2' y_1.First.length c1_2') (ST.load (cell_ext (SH.boxAt (SH.front 0 hS51) 2 _ rfl)) rfl rfl Tryz.underlying25 rfl) rfl rfl rfl ?_
  obtain ⟨x53, hx54, hm⟩ := bindE hm
  refine WL.call 59 #[.slice a0_2' x_0.First.length c0_2', .slice a1_2' y_1.First.length c1_2'] rfl rfl (by kernel_rfl) (c_59 n x_0.First a0_2' c0_2' y_1.First a1_2' c1_2' w46 hx54 (Rd.below hr0_2 hb49) hle0_2 (Rd.below hr1_2 hb49) hle1_2) ?_
  rintro _ w55 ⟨rfl, hE56⟩
  refine ⟨_, rfl, ?_⟩
  have hb58 : Ext w w55 := Ext.trans hb49 hE56
  have hL59 : w.heap.size ≤ w55.heap.size := Nat.le_trans hL50 hE56.size
  have hS60 : SH w55 w.heap.size [aBox 48 b10 [.string (bs y_1.Name), .slice a1_1' y_1.Mends.length c1_1', .slice a1_2' y_1.First.length c1_2', .int .i64 y_1.Price, .int .i64 y_1.Hours], aBox 48 b2 [.string (bs x_0.Name), .slice a0_1' x_0.Mends.length c0_1', .slice a0_2' x_0.First.length c0_2', .int .i64 x_0.Price, .int .i64 x_0.Hours]] := SH.ext hS51 hE56
  refine WL.runk 2 [4] [(4, .bool x53)] (by kernel_rfl) ?_
  refine WL.nil ?_
  obtain rfl := Option.some.inj hm
  exact WQ.post' ⟨rfl, hb58, hL59, hS60⟩ ⟨rfl, trivial⟩

theorem c_57_58 (n : Nat) (s1_0 : List SRepair) (a0' : Option Addr) (c0' : Nat) (s2_1 : List SRepair) (a1' : Option Addr) (c1' : Nat) (w : World) {r : Bool} (hm : m_slices_EqualFunc_impl_Repair_impl_Repair_impl_Repair_impl_Repair_f58 n s1_0 s2_1 = some r) (h0 : Rd fRepair.ty w a0' s1_0) (_hle0 : s1_0.length ≤ c0') (h1 : Rd fRepair.ty w a1' s2_1) (_hle1 : s2_1.length ≤ c1') :
    CallV Tryz.prog 57 #[.slice a0' s1_0.length c0', .slice a1' s2_1.length c1', .func (.func 58) #[] #[]] w (fun v w' => v = .bool r ∧ Ext w w') := by
  unfold m_slices_EqualFunc_impl_Repair_impl_Repair_impl_Repair_impl_Repair_f58 at hm
  refine CallV.enter Tryz.func57 rfl (by kernel_rfl) Tryz.ntmps57 (env := [(0, .slice a0' s1_0.length c0'), (1, .slice a1' s2_1.length c1'), (2, .func (.func 58) #[] #[])]) ⟨rfl, rfl, rfl, trivial⟩ ?_
  refine WP.seq (fun K1 hK1 => ?_)
  refine WP.region ?_
  refine WL.runk 1 [0, 1, 2] [(0, .slice a0' s1_0.length c0'), (1, .slice a1' s2_1.length c1'), (2, .func (.func 58) #[] #[])] (by kernel_rfl) ?_
  refine WL.nil ?_
  refine WQ.then_normal (hK1 _ _ _ ?_)
  refine WP.seq (fun K2 hK2 => ?_)
  refine WP.seq (fun K3 hK3 => ?_)
  refine WP.region ?_
  refine WL.runk 5 [0, 1, 2, 14] [(0, .slice a0' s1_0.length c0'), (1, .slice a1' s2_1.length c1'), (2, .func (.func 58) #[] #[]), (14, .bool ((s1_0.length : Int) != (s2_1.length : Int)))] (by kernel_rfl) ?_
  refine WL.nil ?_
  refine WQ.then_normal (hK3 _ _ _ ?_)
  refine WP.cond ((s1_0.length : Int) != (s2_1.length : Int)) rfl rfl (fun hc4 => ?_) (fun hc4 => ?_)
  · have hm := iteT hm hc4
    refine WP.seq (fun K5 hK5 => ?_)
    refine WP.region ?_
    refine WL.runk 1 [6] [(6, .bool false)] (by kernel_rfl) ?_
    refine WL.nil ?_
    refine WQ.then_normal (hK5 _ _ _ ?_)
    refine WP.ret ?_
    refine WQ.then_ret ?_
    obtain rfl := Option.some.inj hm
    exact WQ.ret1 _ rfl rfl ⟨rfl, (Ext.refl w)⟩
  have hm := iteF hm hc4
  refine WP.skip ?_
  refine WQ.then_normal (hK2 _ _ _ ?_)
  refine WP.seq (fun K6 hK6 => ?_)
  refine WP.seq (fun K7 hK7 => ?_)
  refine WP.region ?_
  refine WL.runk 3 [1, 2, 15, 16, 17] [(1, .slice a1' s2_1.length c1'), (2, .func (.func 58) #[] #[]), (15, .slice a0' s1_0.length c0'), (16, .int .i64 (s1_0.length : Int)), (17, .int .i64 0)] (by kernel_rfl) ?_
  refine WL.nil ?_
  refine WQ.then_normal (hK7 _ _ _ ?_)
  refine WP.block ?_
  obtain ⟨t19, ht20, hm⟩ := bindE hm
  have hmo14 := hm; clear hm
  refine WP.sub [(1, .slice a1' s2_1.length c1'), (2, .func (.func 58) #[] #[]), (15, .slice a0' s1_0.length c0'), (16, .int .i64 (s1_0.length : Int)), (17, .int .i64 0)] ⟨rfl, rfl, rfl, rfl, rfl, trivial⟩ ?_
  refine WP.loop (fun n' env' w' => ∃ (st8 : Int) , env' = [(1, .slice a1' s2_1.length c1'), (2, .func (.func 58) #[] #[]), (15, .slice a0' s1_0.length c0'), (16, .int .i64 (s1_0.length : Int)), (17, .int .i64 st8)] ∧ Ext w w' ∧ w.heap.size ≤ w'.heap.size ∧ SH w' w.heap.size [] ∧ loopN (m_slices_EqualFunc_impl_Repair_impl_Repair_impl_Repair_impl_Repair_f58_l1 n s1_0 s2_1) n' st8 = some t19) n ⟨0, rfl, (Ext.refl w), (Nat.le_refl _), (SH.nil _ _), ht20⟩ ?_
  rintro n16 _ w9 ⟨st8, rfl, hb10, hL11, hS12, hl13⟩ K15 hK15
  obtain ⟨n17, s18, rfl, hm, hl13⟩ := loopN_some hl13
  unfold m_slices_EqualFunc_impl_Repair_impl_Repair_impl_Repair_impl_Repair_f58_l1 at hm
  refine WP.seq (fun K21 hK21 => ?_)
  refine WP.region ?_
  refine WL.runk 1 [1, 2, 15, 16, 17, 18] [(1, .slice a1' s2_1.length c1'), (2, .func (.func 58) #[] #[]), (15, .slice a0' s1_0.length c0'), (16, .int .i64 (s1_0.length : Int)), (17, .int .i64 st8), (18, .bool (decide (st8 < (s1_0.length : Int))))] (by kernel_rfl) ?_
  refine WL.nil ?_
  refine WQ.then_normal (hK21 _ _ _ ?_)
  refine WP.seq (fun K22 hK22 => ?_)
  refine WP.cond (decide (st8 < (s1_0.length : Int))) rfl rfl (fun hc23 => ?_) (fun hc23 => ?_)
  rotate_left
  · have hm := iteF hm hc23
    refine WP.exit ?_
    refine WQ.then_exit ?_
    refine WQ.then_exit ?_
    refine WQ.block_here ?_
    obtain rfl := Option.some.inj hm
    obtain rfl := afterN_done hl13
    have hm := hmo14
    refine WQ.then_normal (hK6 _ _ _ ?_)
    refine WP.seq (fun K90 hK90 => ?_)
    refine WP.region ?_
    refine WL.runk 1 [6] [(6, .bool true)] (by kernel_rfl) ?_
    refine WL.nil ?_
    refine WQ.then_normal (hK90 _ _ _ ?_)
    refine WP.ret ?_
    obtain rfl := Option.some.inj hm
    exact WQ.ret1 _ rfl rfl ⟨rfl, hb10⟩
  have hm := iteT hm hc23
  refine WP.skip ?_
  refine WQ.then_normal (hK22 _ _ _ ?_)
  refine WP.seq (fun K24 hK24 => ?_)
  refine WP.block ?_
  refine WP.seq (fun K25 hK25 => ?_)
  refine WP.region ?_
  refine WL.runk 1 [1, 2, 15, 16, 17, 19] [(1, .slice a1' s2_1.length c1'), (2, .func (.func 58) #[] #[]), (15, .slice a0' s1_0.length c0'), (16, .int .i64 (s1_0.length : Int)), (17, .int .i64 st8), (19, .int .i64 st8)] (by kernel_rfl) ?_
  obtain ⟨x26, hx27, hm⟩ := bindE hm
  obtain ⟨a28, c29, a33, c34, hc38, hR30, hle31, hR35, hle36⟩ := nest_Repair h0 hx27
  refine WL.st (.pointer (some (at_ a0' (Int.toNat st8 * 5)))) (ST.index (T := fRepair.ty) (xs := s1_0) (Rd.below h0 hb10) hx27 rfl rfl rfl Tryz.underlying24 (info48).1 (info48).2.1) rfl rfl rfl ?_
  refine WL.st (.agg #[.string (bs x26.Name), .slice a28 x26.Mends.length c29, .slice a33 x26.First.length c34, .int .i64 x26.Price, .int .i64 x26.Hours]) (ST.loadAgg (vs := [.string (bs x26.Name), .slice a28 x26.Mends.length c29, .slice a33 x26.First.length c34, .int .i64 x26.Price, .int .i64 x26.Hours]) (at_agg (cells_ext hc38 hb10)) rfl rfl rfl Tryz.underlying48 rfl (info48).1 (info48).2.1) rfl rfl rfl ?_
  refine WL.box 48 [.string (bs []), .slice none 0 0, .slice none 0 0, .int .i64 0, .int .i64 0] 8 (by kernel_rfl) rfl rfl rfl rfl ?_
  intro b39 w40 hE41 hR42
  have hb44 : Ext w w40 := Ext.trans hb10 hE41
  have hL45 : w.heap.size ≤ w40.heap.size := Nat.le_trans hL11 hE41.size
  have hS46 : SH w40 w.heap.size [aBox 48 b39 [.string (bs []), .slice none 0 0, .slice none 0 0, .int .i64 0, .int .i64 0]] := SH.add hS12 hE41 hL11 hR42
  refine WL.runk 1 [1, 2, 7, 8, 15, 16, 17, 21] [(1, .slice a1' s2_1.length c1'), (2, .func (.func 58) #[] #[]), (15, .slice a0' s1_0.length c0'), (16, .int .i64 (s1_0.length : Int)), (17, .int .i64 st8), (21, .agg #[.string (bs x26.Name), .slice a28 x26.Mends.length c29, .slice a33 x26.First.length c34, .int .i64 x26.Price, .int .i64 x26.Hours]), (8, .pointer (some ⟨b39, 0, none⟩)), (7, .int .i64 st8)] (by kernel_rfl) ?_
  refine WL.boxStore 0 [.string (bs x26.Name), .slice a28 x26.Mends.length c29, .slice a33 x26.First.length c34, .int .i64 x26.Price, .int .i64 x26.Hours] [.string (bs x26.Name), .slice a28 x26.Mends.length c29, .slice a33 x26.First.length c34, .int .i64 x26.Price, .int .i64 x26.Hours] (SH.front 0 hS46) hL45 rfl rfl rfl rfl rfl rfl rfl (info48).1 (info48).2.1 rfl rfl rfl ?_
  intro w47 hB48 hS49
  have hb50 : Ext w w47 := Below.trans hb44 hB48
  have hL51 : w.heap.size ≤ w47.heap.size := Nat.le_trans hL45 hB48.size
  refine WL.sub [(1, .slice a1' s2_1.length c1'), (2, .func (.func 58) #[] #[]), (15, .slice a0' s1_0.length c0'), (16, .int .i64 (s1_0.length : Int)), (17, .int .i64 st8), (8, .pointer (some ⟨b39, 0, none⟩)), (7, .int .i64 st8)] ⟨rfl, rfl, rfl, rfl, rfl, rfl, rfl, trivial⟩ ?_
  refine WL.nil ?_
  refine WQ.then_normal (hK25 _ _ _ ?_)
  refine WP.seq (fun K52 hK52 => ?_)
  refine WP.region ?_
  refine WL.runk 2 [1, 2, 8, 15, 16, 17, 22, 23] [(1, .slice a1' s2_1.length c1'), (2, .func (.func 58) #[] #[]), (15, .slice a0' s1_0.length c0'), (16, .int .i64 (s1_0.length : Int)), (17, .int .i64 st8), (8, .pointer (some ⟨b39, 0, none⟩)), (22, .slice a1' s2_1.length c1'), (23, .int .i64 st8)] (by kernel_rfl) ?_
  obtain ⟨x53, hx54, hm⟩ := bindE hm
  obtain ⟨a55, c56, a60, c61, hc65, hR57, hle58, hR62, hle63⟩ := nest_Repair h1 hx54
  refine WL.st (.pointer (some (at_ a1' (Int.toNat st8 * 5)))) (ST.index (T := fRepair.ty) (xs := s2_1) (Rd.below h1 hb50) hx54 rfl rfl rfl Tryz.underlying24 (info48).1 (info48).2.1) rfl rfl rfl ?_
  refine WL.st (.agg #[.string (bs x53.Name), .slice a55 x53.Mends.length c56, .slice a60 x53.First.length c61, .int .i64 x53.Price, .int .i64 x53.Hours]) (ST.loadAgg (vs := [.string (bs x53.Name), .slice a55 x53.Mends.length c56, .slice a60 x53.First.length c61, .int .i64 x53.Price, .int .i64 x53.Hours]) (at_agg (cells_ext hc65 hb50)) rfl rfl rfl Tryz.underlying48 rfl (info48).1 (info48).2.1) rfl rfl rfl ?_
  refine WL.box 48 [.string (bs []), .slice none 0 0, .slice none 0 0, .int .i64 0, .int .i64 0] 9 (by kernel_rfl) rfl rfl rfl rfl ?_
  intro b66 w67 hE68 hR69
  have hb71 : Ext w w67 := Ext.trans hb50 hE68
  have hL72 : w.heap.size ≤ w67.heap.size := Nat.le_trans hL51 hE68.size
  have hS73 : SH w67 w.heap.size [aBox 48 b66 [.string (bs []), .slice none 0 0, .slice none 0 0, .int .i64 0, .int .i64 0], aBox 48 b39 [.string (bs x26.Name), .slice a28 x26.Mends.length c29, .slice a33 x26.First.length c34, .int .i64 x26.Price, .int .i64 x26.Hours]] := SH.add hS49 hE68 hL51 hR69
  refine WL.boxStore 0 [.string (bs x53.Name), .slice a55 x53.Mends.length c56, .slice a60 x53.First.length c61, .int .i64 x53.Price, .int .i64 x53.Hours] [.string (bs x53.Name), .slice a55 x53.Mends.length c56, .slice a60 x53.First.length c61, .int .i64 x53.Price, .int .i64 x53.Hours] (SH.front 0 hS73) hL72 rfl rfl rfl rfl rfl rfl rfl (info48).1 (info48).2.1 rfl rfl rfl ?_
  intro w74 hB75 hS76
  have hb77 : Ext w w74 := Below.trans hb71 hB75
  have hL78 : w.heap.size ≤ w74.heap.size := Nat.le_trans hL72 hB75.size
  refine WL.sub [(1, .slice a1' s2_1.length c1'), (2, .func (.func 58) #[] #[]), (15, .slice a0' s1_0.length c0'), (16, .int .i64 (s1_0.length : Int)), (17, .int .i64 st8), (8, .pointer (some ⟨b39, 0, none⟩)), (9, .pointer (some ⟨b66, 0, none⟩))] ⟨rfl, rfl, rfl, rfl, rfl, rfl, rfl, trivial⟩ ?_
  refine WL.nil ?_
  refine WQ.then_normal (hK52 _ _ _ ?_)
  refine WP.seq (fun K79 hK79 => ?_)
  refine WP.region ?_
  refine WL.runk 1 [1, 2, 8, 9, 15, 16, 17, 26] [(1, .slice a1' s2_1.length c1'), (2, .func (.func 58) #[] #[]), (15, .slice a0' s1_0.length c0'), (16, .int .i64 (s1_0.length : Int)), (17, .int .i64 st8), (8, .pointer (some ⟨b39, 0, none⟩)), (9, .pointer (some ⟨b66, 0, none⟩)), (26, .func (.func 58) #[] #[])] (by kernel_rfl) ?_
  refine WL.st (.agg #[.string (bs x26.Name), .slice a28 x26.Mends.length c29, .slice a33 x26.First.length c34, .int .i64 x26.Price, .int .i64 x26.Hours]) (ST.loadAgg (vs := [.string (bs x26.Name), .slice a28 x26.Mends.length c29, .slice a33 x26.First.length c34, .int .i64 x26.Price, .int .i64 x26.Hours]) (fun j v hv => SH.boxPart (us := [.string (bs x26.Name), .slice a28 x26.Mends.length c29, .slice a33 x26.First.length c34, .int .i64 x26.Price, .int .i64 x26.Hours]) (SH.front 1 hS76) 0 rfl j v hv) rfl rfl rfl Tryz.underlying48 rfl (info48).1 (info48).2.1) rfl rfl rfl ?_
  refine WL.st (.agg #[.string (bs x53.Name), .slice a55 x53.Mends.length c56, .slice a60 x53.First.length c61, .int .i64 x53.Price, .int .i64 x53.Hours]) (ST.loadAgg (vs := [.string (bs x53.Name), .slice a55 x53.Mends.length c56, .slice a60 x53.First.length c61, .int .i64 x53.Price, .int .i64 x53.Hours]) (fun j v hv => SH.boxPart (us := [.string (bs x53.Name), .slice a55 x53.Mends.length c56, .slice a60 x53.First.length c61, .int .i64 x53.Price, .int .i64 x53.Hours]) (SH.front 0 hS76) 0 rfl j v hv) rfl rfl rfl Tryz.underlying48 rfl (info48).1 (info48).2.1) rfl rfl rfl ?_
  obtain ⟨x80, hx81, hm⟩ := bindE hm
  refine WL.call 58 #[.agg #[.string (bs x26.Name), .slice a28 x26.Mends.length c29, .slice a33 x26.First.length c34, .int .i64 x26.Price, .int .i64 x26.Hours], .agg #[.string (bs x53.Name), .slice a55 x53.Mends.length c56, .slice a60 x53.First.length c61, .int .i64 x53.Price, .int .i64 x53.Hours]] rfl rfl (by kernel_rfl) (c_58 n x26 a28 c29 a33 c34 x53 a55 c56 a60 c61 w74 hx81 (Rd.below hR30 hb77) hle31 (Rd.below hR35 hb77) hle36 (Rd.below hR57 hb77) hle58 (Rd.below hR62 hb77) hle63) ?_
  rintro _ w82 ⟨rfl, hE83⟩
  refine ⟨_, rfl, ?_⟩
  have hb85 : Ext w w82 := Ext.trans hb77 hE83
  have hL86 : w.heap.size ≤ w82.heap.size := Nat.le_trans hL78 hE83.size
  have hS87 : SH w82 w.heap.size [aBox 48 b66 [.string (bs x53.Name), .slice a55 x53.Mends.length c56, .slice a60 x53.First.length c61, .int .i64 x53.Price, .int .i64 x53.Hours], aBox 48 b39 [.string (bs x26.Name), .slice a28 x26.Mends.length c29, .slice a33 x26.First.length c34, .int .i64 x26.Price, .int .i64 x26.Hours]] := SH.ext hS76 hE83
  refine WL.runk 1 [1, 2, 15, 16, 17, 30] [(1, .slice a1' s2_1.length c1'), (2, .func (.func 58) #[] #[]), (15, .slice a0' s1_0.length c0'), (16, .int .i64 (s1_0.length : Int)), (17, .int .i64 st8), (30, .bool (!x80))] (by kernel_rfl) ?_
  refine WL.nil ?_
  refine WQ.then_normal (hK79 _ _ _ ?_)
  refine WP.cond (!x80) rfl rfl (fun hc88 => ?_) (fun hc88 => ?_)
  rotate_left
  · have hm := iteF hm hc88
    refine WP.skip ?_
    refine WQ.block_normal ?_
    refine WQ.then_normal (hK24 _ _ _ ?_)
    refine WP.region ?_
    refine WL.runk 2 [1, 2, 15, 16, 17] [(1, .slice a1' s2_1.length c1'), (2, .func (.func 58) #[] #[]), (15, .slice a0' s1_0.length c0'), (16, .int .i64 (s1_0.length : Int)), (17, .int .i64 (wI64 (st8 + 1)))] (by kernel_rfl) ?_
    refine WL.nil ?_
    obtain rfl := Option.some.inj hm
    exact WQ.round hK15 ⟨(wI64 (st8 + 1)), rfl, hb85, hL86, (SH.take 0 hS87), hl13⟩ (Nat.lt_succ_self _) ⟨rfl, rfl, rfl, rfl, rfl, trivial⟩
  have hm := iteT hm hc88
  refine WP.seq (fun K89 hK89 => ?_)
  refine WP.region ?_
  refine WL.runk 1 [6] [(6, .bool false)] (by kernel_rfl) ?_
  refine WL.nil ?_
  refine WQ.then_normal (hK89 _ _ _ ?_)
  refine WP.ret ?_
  refine WQ.block_ret ?_
  refine WQ.then_ret ?_
  refine WQ.then_ret ?_
  refine WQ.block_ret ?_
  refine WQ.then_ret ?_
  obtain rfl := Option.some.inj hm
  obtain rfl := afterN_done hl13
  have hm := hmo14
  obtain rfl := Option.some.inj hm
  exact WQ.ret1 _ rfl rfl ⟨rfl, hb85⟩

theorem c_21 (n : Nat) (a_0 : List SRepair) (a0' : Option Addr) (c0' : Nat) (b_1 : List SRepair) (a1' : Option Addr) (c1' : Nat) (w : World) {r : Bool} (hm : m_impl_SameRepairs n a_0 b_1 = some r) (h0 : Rd fRepair.ty w a0' a_0) (hle0 : a_0.length ≤ c0') (h1 : Rd fRepair.ty w a1' b_1) (hle1 : b_1.length ≤ c1') :
    CallV Tryz.prog 21 #[.slice a0' a_0.length c0', .slice a1' b_1.length c1'] w (fun v w' => v = .bool r ∧ Ext w w') := by
  unfold m_impl_SameRepairs at hm
  refine CallV.enter Tryz.func21 rfl (by kernel_rfl) Tryz.ntmps21 (env := [(0, .slice a0' a_0.length c0'), (1, .slice a1' b_1.length c1')]) ⟨rfl, rfl, trivial⟩ ?_
  refine WP.seq (fun K1 hK1 => ?_)
  refine WP.region ?_
  refine WL.runk 1 [0, 1] [(0, .slice a0' a_0.length c0'), (1, .slice a1' b_1.length c1')] (by kernel_rfl) ?_
  refine WL.nil ?_
  refine WQ.then_normal (hK1 _ _ _ ?_)
  refine WP.seq (fun K2 hK2 => ?_)
  refine WP.region ?_
  refine WL.runk 2 [5, 6] [(5, .slice a0' a_0.length c0'), (6, .slice a1' b_1.length c1')] (by kernel_rfl) ?_
  obtain ⟨x3, hx4, hm⟩ := bindE hm
  refine WL.call 57 #[.slice a0' a_0.length c0', .slice a1' b_1.length c1', .func (.func 58) #[] #[]] rfl rfl (by kernel_rfl) (c_57_58 n a_0 a0' c0' b_1 a1' c1' w hx4 (Rd.below h0 (Ext.refl w)) hle0 (Rd.below h1 (Ext.refl w)) hle1) ?_
  rintro _ w5 ⟨rfl, hE6⟩
  refine ⟨_, rfl, ?_⟩
  have hb8 : Ext w w5 := Ext.trans (Ext.refl w) hE6
  have hL9 : w.heap.size ≤ w5.heap.size := Nat.le_trans (Nat.le_refl _) hE6.size
  have hS10 : SH w5 w.heap.size [] := SH.ext (SH.nil _ _) hE6
  refine WL.runk 1 [4] [(4, .bool x3)] (by kernel_rfl) ?_
  refine WL.nil ?_
  refine WQ.then_normal (hK2 _ _ _ ?_)
  refine WP.ret ?_
  obtain rfl := Option.some.inj hm
  exact WQ.ret1 _ rfl rfl ⟨rfl, hb8⟩

theorem c_60 (n : Nat) (a_0 : List Int) (a0' : Option Addr) (c0' : Nat) (b_1 : List Int) (a1' : Option Addr) (c1' : Nat) (w : World) {r : Bool} (hm : m_spec_l00Same n a_0 b_1 = some r) (h0 : Rd fInt.ty w a0' a_0) (_hle0 : a_0.length ≤ c0') (h1 : Rd fInt.ty w a1' b_1) (_hle1 : b_1.length ≤ c1') :
    CallV Tryz.prog 60 #[.slice a0' a_0.length c0', .slice a1' b_1.length c1'] w (fun v w' => v = .bool r ∧ Ext w w') := by
  unfold m_spec_l00Same at hm
  refine CallV.enter Tryz.func60 rfl (by kernel_rfl) Tryz.ntmps60 (env := [(0, .slice a0' a_0.length c0'), (1, .slice a1' b_1.length c1')]) ⟨rfl, rfl, trivial⟩ ?_
  refine WP.seq (fun K1 hK1 => ?_)
  refine WP.region ?_
  refine WL.runk 1 [0, 1] [(0, .slice a0' a_0.length c0'), (1, .slice a1' b_1.length c1')] (by kernel_rfl) ?_
  refine WL.nil ?_
  refine WQ.then_normal (hK1 _ _ _ ?_)
  refine WP.seq (fun K2 hK2 => ?_)
  refine WP.seq (fun K3 hK3 => ?_)
  refine WP.region ?_
  refine WL.runk 5 [0, 1, 10] [(0, .slice a0' a_0.length c0'), (1, .slice a1' b_1.length c1'), (10, .bool ((a_0.length : Int) != (b_1.length : Int)))] (by kernel_rfl) ?_
  refine WL.nil ?_
  refine WQ.then_normal (hK3 _ _ _ ?_)
  refine WP.cond ((a_0.length : Int) != (b_1.length : Int)) rfl rfl (fun hc4 => ?_) (fun hc4 => ?_)
  · have hm := iteT hm hc4
    refine WP.seq (fun K5 hK5 => ?_)
    refine WP.region ?_
    refine WL.runk 1 [4] [(4, .bool false)] (by kernel_rfl) ?_
    refine WL.nil ?_
    refine WQ.then_normal (hK5 _ _ _ ?_)
    refine WP.ret ?_
    refine WQ.then_ret ?_
    obtain rfl := Option.some.inj hm
    exact WQ.ret1 _ rfl rfl ⟨rfl, (Ext.refl w)⟩
  have hm := iteF hm hc4
  refine WP.skip ?_
  refine WQ.then_normal (hK2 _ _ _ ?_)
  refine WP.seq (fun K6 hK6 => ?_)
  refine WP.seq (fun K7 hK7 => ?_)
  refine WP.region ?_
  refine WL.runk 1 [0, 1, 5] [(0, .slice a0' a_0.length c0'), (1, .slice a1' b_1.length c1'), (5, .int .i64 0)] (by kernel_rfl) ?_
  refine WL.nil ?_
  refine WQ.then_normal (hK7 _ _ _ ?_)
  refine WP.block ?_
  obtain ⟨t19, ht20, hm⟩ := bindE hm
  have hmo14 := hm; clear hm
  refine WP.sub [(0, .slice a0' a_0.length c0'), (1, .slice a1' b_1.length c1'), (5, .int .i64 0)] ⟨rfl, rfl, rfl, trivial⟩ ?_
  refine WP.loop (fun n' env' w' => ∃ (st8 : Int) , env' = [(0, .slice a0' a_0.length c0'), (1, .slice a1' b_1.length c1'), (5, .int .i64 st8)] ∧ Ext w w' ∧ w.heap.size ≤ w'.heap.size ∧ SH w' w.heap.size [] ∧ loopN (m_spec_l00Same_l1 n a_0 b_1) n' st8 = some t19) n ⟨0, rfl, (Ext.refl w), (Nat.le_refl _), (SH.nil _ _), ht20⟩ ?_
  rintro n16 _ w9 ⟨st8, rfl, hb10, hL11, hS12, hl13⟩ K15 hK15
  obtain ⟨n17, s18, rfl, hm, hl13⟩ := loopN_some hl13
  unfold m_spec_l00Same_l1 at hm
  refine WP.seq (fun K21 hK21 => ?_)
  refine WP.seq (fun K22 hK22 => ?_)
  refine WP.region ?_
  refine WL.runk 4 [0, 1, 5, 14] [(0, .slice a0' a_0.length c0'), (1, .slice a1' b_1.length c1'), (5, .int .i64 st8), (14, .bool (decide (st8 < (a_0.length : Int))))] (by kernel_rfl) ?_
  refine WL.nil ?_
  refine WQ.then_normal (hK22 _ _ _ ?_)
  refine WP.cond (decide (st8 < (a_0.length : Int))) rfl rfl (fun hc23 => ?_) (fun hc23 => ?_)
  rotate_left
  · have hm := iteF hm hc23
    refine WP.exit ?_
    refine WQ.then_exit ?_
    refine WQ.then_exit ?_
    refine WQ.block_here ?_
    obtain rfl := Option.some.inj hm
    obtain rfl := afterN_done hl13
    have hm := hmo14
    refine WQ.then_normal (hK6 _ _ _ ?_)
    refine WP.seq (fun K37 hK37 => ?_)
    refine WP.region ?_
    refine WL.runk 1 [4] [(4, .bool true)] (by kernel_rfl) ?_
    refine WL.nil ?_
    refine WQ.then_normal (hK37 _ _ _ ?_)
    refine WP.ret ?_
    obtain rfl := Option.some.inj hm
    exact WQ.ret1 _ rfl rfl ⟨rfl, hb10⟩
  have hm := iteT hm hc23
  refine WP.skip ?_
  refine WQ.then_normal (hK21 _ _ _ ?_)
  refine WP.seq (fun K24 hK24 => ?_)
  refine WP.block ?_
  refine WP.seq (fun K25 hK25 => ?_)
  refine WP.quiet (by kernel_rfl) (by kernel_rfl) ?_
  refine QL.step1v 17 (.slice a0' a_0.length c0') rfl (fun _ => by kernel_rfl) ?_
  refine QL.step1v 18 (.int .i64 st8) rfl (fun _ => by kernel_rfl) ?_
  refine QL.subk [0, 1, 5, 17, 18] [(0, .slice a0' a_0.length c0'), (1, .slice a1' b_1.length c1'), (5, .int .i64 st8), (17, .slice a0' a_0.length c0'), (18, .int .i64 st8)] (by kernel_rfl) ?_
  obtain ⟨x26, hx27, hm⟩ := bindE hm
  refine QL.st (.pointer (some (at_ a0' (Int.toNat st8 * 1)))) (ST.index (T := fInt.ty) (xs := a_0) (Rd.below h0 hb10) hx27 rfl rfl rfl Tryz.underlying25 (info2).1 (info2).2.1) rfl rfl rfl ?_
  refine QL.st (.int .i64 x26) (ST.load (cell_ext (Rd.flat (F := fInt) (Rd.below h0 hb10) hx27 0 rfl)) rfl rfl Tryz.underlying2 rfl) rfl rfl rfl ?_
  refine QL.step1v 21 (.slice a1' b_1.length c1') rfl (fun _ => by kernel_rfl) ?_
  refine QL.step1v 22 (.int .i64 st8) rfl (fun _ => by kernel_rfl) ?_
  refine QL.subk [0, 1, 5, 20, 21, 22] [(0, .slice a0' a_0.length c0'), (1, .slice a1' b_1.length c1'), (5, .int .i64 st8), (20, .int .i64 x26), (21, .slice a1' b_1.length c1'), (22, .int .i64 st8)] (by kernel_rfl) ?_
  obtain ⟨x28, hx29, hm⟩ := bindE hm
  refine QL.st (.pointer (some (at_ a1' (Int.toNat st8 * 1)))) (ST.index (T := fInt.ty) (xs := b_1) (Rd.below h1 hb10) hx29 rfl rfl rfl Tryz.underlying25 (info2).1 (info2).2.1) rfl rfl rfl ?_
  refine QL.st (.int .i64 x28) (ST.load (cell_ext (Rd.flat (F := fInt) (Rd.below h1 hb10) hx29 0 rfl)) rfl rfl Tryz.underlying2 rfl) rfl rfl rfl ?_
  refine QL.step1v 25 (.bool (x26 != x28)) rfl (fun _ => by kernel_rfl) ?_
  refine QL.subk [0, 1, 5, 25] [(0, .slice a0' a_0.length c0'), (1, .slice a1' b_1.length c1'), (5, .int .i64 st8), (25, .bool (x26 != x28))] (by kernel_rfl) ?_
  refine QL.nil ?_
  intro w30 hE31
  have hb32 : Ext w w30 := Ext.trans hb10 hE31
  have hL33 : w.heap.size ≤ w30.heap.size := Nat.le_trans hL11 hE31.size
  have hS34 : SH w30 w.heap.size [] := SH.ext hS12 hE31
  refine WQ.then_normal (hK25 _ _ _ ?_)
  refine WP.cond (x26 != x28) rfl rfl (fun hc35 => ?_) (fun hc35 => ?_)
  rotate_left
  · have hm := iteF hm hc35
    refine WP.skip ?_
    refine WQ.block_normal ?_
    refine WQ.then_normal (hK24 _ _ _ ?_)
    refine WP.region ?_
    refine WL.runk 3 [0, 1, 5] [(0, .slice a0' a_0.length c0'), (1, .slice a1' b_1.length c1'), (5, .int .i64 (wI64 (st8 + 1)))] (by kernel_rfl) ?_
    refine WL.nil ?_
    obtain rfl := Option.some.inj hm
    exact WQ.round hK15 ⟨(wI64 (st8 + 1)), rfl, hb32, hL33, hS34, hl13⟩ (Nat.lt_succ_self _) ⟨rfl, rfl, rfl, trivial⟩
  have hm := iteT hm hc35
  refine WP.seq (fun K36 hK36 => ?_)
  refine WP.region ?_
  refine WL.runk 1 [4] [(4, .bool false)] (by kernel_rfl) ?_
  refine WL.nil ?_
  refine WQ.then_normal (hK36 _ _ _ ?_)
  refine WP.ret ?_
  refine WQ.block_ret ?_
  refine WQ.then_ret ?_
  refine WQ.then_ret ?_
  refine WQ.block_ret ?_
  refine WQ.then_ret ?_
  obtain rfl := Option.some.inj hm
  obtain rfl := afterN_done hl13
  have hm := hmo14
  obtain rfl := Option.some.inj hm
  exact WQ.ret1 _ rfl rfl ⟨rfl, hb32⟩

theorem c_22 (n : Nat) (a_0 : List SRepair) (a0' : Option Addr) (c0' : Nat) (b_1 : List SRepair) (a1' : Option Addr) (c1' : Nat) (w : World) {r : Bool} (hm : m_spec_SameRepairs n a_0 b_1 = some r) (h0 : Rd fRepair.ty w a0' a_0) (_hle0 : a_0.length ≤ c0') (h1 : Rd fRepair.ty w a1' b_1) (_hle1 : b_1.length ≤ c1') :
    CallV Tryz.prog 22 #[.slice a0' a_0.length c0', .slice a1' b_1.length c1'] w (fun v w' => v = .bool r ∧ Ext w w') := by
  unfold m_spec_SameRepairs at hm
  refine CallV.enter Tryz.func22 rfl (by kernel_rfl) Tryz.ntmps22 (env := [(0, .slice a0' a_0.length c0'), (1, .slice a1' b_1.length c1')]) ⟨rfl, rfl, trivial⟩ ?_
  refine WP.seq (fun K1 hK1 => ?_)
  refine WP.region ?_
  refine WL.runk 1 [0, 1] [(0, .slice a0' a_0.length c0'), (1, .slice a1' b_1.length c1')] (by kernel_rfl) ?_
  refine WL.nil ?_
  refine WQ.then_normal (hK1 _ _ _ ?_)
  refine WP.seq (fun K2 hK2 => ?_)
  refine WP.seq (fun K3 hK3 => ?_)
  refine WP.region ?_
  refine WL.runk 5 [0, 1, 10] [(0, .slice a0' a_0.length c0'), (1, .slice a1' b_1.length c1'), (10, .bool ((a_0.length : Int) != (b_1.length : Int)))] (by kernel_rfl) ?_
  refine WL.nil ?_
  refine WQ.then_normal (hK3 _ _ _ ?_)
  refine WP.cond ((a_0.length : Int) != (b_1.length : Int)) rfl rfl (fun hc4 => ?_) (fun hc4 => ?_)
  · have hm := iteT hm hc4
    refine WP.seq (fun K5 hK5 => ?_)
    refine WP.region ?_
    refine WL.runk 1 [4] [(4, .bool false)] (by kernel_rfl) ?_
    refine WL.nil ?_
    refine WQ.then_normal (hK5 _ _ _ ?_)
    refine WP.ret ?_
    refine WQ.then_ret ?_
    obtain rfl := Option.some.inj hm
    exact WQ.ret1 _ rfl rfl ⟨rfl, (Ext.refl w)⟩
  have hm := iteF hm hc4
  refine WP.skip ?_
  refine WQ.then_normal (hK2 _ _ _ ?_)
  refine WP.seq (fun K6 hK6 => ?_)
  refine WP.seq (fun K7 hK7 => ?_)
  refine WP.region ?_
  refine WL.runk 1 [0, 1, 5] [(0, .slice a0' a_0.length c0'), (1, .slice a1' b_1.length c1'), (5, .int .i64 0)] (by kernel_rfl) ?_
  refine WL.nil ?_
  refine WQ.then_normal (hK7 _ _ _ ?_)
  refine WP.block ?_
  obtain ⟨t19, ht20, hm⟩ := bindE hm
  have hmo14 := hm; clear hm
  refine WP.sub [(0, .slice a0' a_0.length c0'), (1, .slice a1' b_1.length c1'), (5, .int .i64 0)] ⟨rfl, rfl, rfl, trivial⟩ ?_
  refine WP.loop (fun n' env' w' => ∃ (st8 : Int) , env' = [(0, .slice a0' a_0.length c0'), (1, .slice a1' b_1.length c1'), (5, .int .i64 st8)] ∧ Ext w w' ∧ w.heap.size ≤ w'.heap.size ∧ SH w' w.heap.size [] ∧ loopN (m_spec_SameRepairs_l1 n a_0 b_1) n' st8 = some t19) n ⟨0, rfl, (Ext.refl w), (Nat.le_refl _), (SH.nil _ _), ht20⟩ ?_
  rintro n16 _ w9 ⟨st8, rfl, hb10, hL11, hS12, hl13⟩ K15 hK15
  obtain ⟨n17, s18, rfl, hm, hl13⟩ := loopN_some hl13
  unfold m_spec_SameRepairs_l1 at hm
  refine WP.seq (fun K21 hK21 => ?_)
  refine WP.seq (fun K22 hK22 => ?_)
  refine WP.region ?_
  refine WL.runk 4 [0, 1, 5, 14] [(0, .slice a0' a_0.length c0'), (1, .slice a1' b_1.length c1'), (5, .int .i64 st8), (14, .bool (decide (st8 < (a_0.length : Int))))] (by kernel_rfl) ?_
  refine WL.nil ?_
  refine WQ.then_normal (hK22 _ _ _ ?_)
  refine WP.cond (decide (st8 < (a_0.length : Int))) rfl rfl (fun hc23 => ?_) (fun hc23 => ?_)
  rotate_left
  · have hm := iteF hm hc23
    refine WP.exit ?_
    refine WQ.then_exit ?_
    refine WQ.then_exit ?_
    refine WQ.block_here ?_
    obtain rfl := Option.some.inj hm
    obtain rfl := afterN_done hl13
    have hm := hmo14
    refine WQ.then_normal (hK6 _ _ _ ?_)
    refine WP.seq (fun K368 hK368 => ?_)
    refine WP.region ?_
    refine WL.runk 1 [4] [(4, .bool true)] (by kernel_rfl) ?_
    refine WL.nil ?_
    refine WQ.then_normal (hK368 _ _ _ ?_)
    refine WP.ret ?_
    obtain rfl := Option.some.inj hm
    exact WQ.ret1 _ rfl rfl ⟨rfl, hb10⟩
  have hm := iteT hm hc23
  refine WP.skip ?_
  refine WQ.then_normal (hK21 _ _ _ ?_)
  refine WP.seq (fun K24 hK24 => ?_)
  refine WP.block ?_
  refine WP.seq (fun K25 hK25 => ?_)
  obtain ⟨x193, hx194, hm⟩ := bindE hm
  refine WP.cut (fun env' w' => env' = [(0, .slice a0' a_0.length c0'), (1, .slice a1' b_1.length c1'), (5, .int .i64 st8), (81, .bool x193)] ∧ Ext w w' ∧ w.heap.size ≤ w'.heap.size ∧ SH w' w.heap.size []) ?_ ?_
  rotate_left
  · clear hx194
    rintro _ w362 ⟨rfl, hb363, hL364, hS365⟩
    refine WQ.then_normal (hK25 _ _ _ ?_)
    refine WP.cond x193 rfl rfl (fun hc366 => ?_) (fun hc366 => ?_)
    rotate_left
    · have hm := iteF hm hc366
      refine WP.skip ?_
      refine WQ.block_normal ?_
      refine WQ.then_normal (hK24 _ _ _ ?_)
      refine WP.region ?_
      refine WL.runk 3 [0, 1, 5] [(0, .slice a0' a_0.length c0'), (1, .slice a1' b_1.length c1'), (5, .int .i64 (wI64 (st8 + 1)))] (by kernel_rfl) ?_
      refine WL.nil ?_
      obtain rfl := Option.some.inj hm
      exact WQ.round hK15 ⟨(wI64 (st8 + 1)), rfl, hb363, hL364, hS365, hl13⟩ (Nat.lt_succ_self _) ⟨rfl, rfl, rfl, trivial⟩
    have hm := iteT hm hc366
    refine WP.seq (fun K367 hK367 => ?_)
    refine WP.region ?_
    refine WL.runk 1 [4] [(4, .bool false)] (by kernel_rfl) ?_
    refine WL.nil ?_
    refine WQ.then_normal (hK367 _ _ _ ?_)
    refine WP.ret ?_
    refine WQ.block_ret ?_
    refine WQ.then_ret ?_
    refine WQ.then_ret ?_
    refine WQ.block_ret ?_
    refine WQ.then_ret ?_
    obtain rfl := Option.some.inj hm
    obtain rfl := afterN_done hl13
    have hm := hmo14
    obtain rfl := Option.some.inj hm
    exact WQ.ret1 _ rfl rfl ⟨rfl, hb363⟩
  have hm := hx194; clear hx194
  refine WP.quiet (by kernel_rfl) (by kernel_rfl) ?_
  refine QL.step1v 17 (.slice a0' a_0.length c0') rfl (fun _ => by kernel_rfl) ?_
  refine QL.step1v 18 (.int .i64 st8) rfl (fun _ => by kernel_rfl) ?_
  refine QL.subk [0, 1, 5, 17, 18] [(0, .slice a0' a_0.length c0'), (1, .slice a1' b_1.length c1'), (5, .int .i64 st8), (17, .slice a0' a_0.length c0'), (18, .int .i64 st8)] (by kernel_rfl) ?_
  obtain ⟨x195, hx196, hm⟩ := bindE hm
  obtain ⟨a197, c198, a202, c203, hc207, hR199, hle200, hR204, hle205⟩ := nest_Repair h0 hx196
  refine QL.st (.pointer (some (at_ a0' (Int.toNat st8 * 5)))) (ST.index (T := fRepair.ty) (xs := a_0) (Rd.below h0 hb10) hx196 rfl rfl rfl Tryz.underlying24 (info48).1 (info48).2.1) rfl rfl rfl ?_
  refine QL.step1v 20 (.pointer (some (at_ a0' (Int.toNat st8 * 5)))) rfl (fun _ => by kernel_rfl) ?_
  refine QL.subk [0, 1, 5, 20] [(0, .slice a0' a_0.length c0'), (1, .slice a1' b_1.length c1'), (5, .int .i64 st8), (20, .pointer (some (at_ a0' (Int.toNat st8 * 5))))] (by kernel_rfl) ?_
  refine QL.st (.string (bs x195.Name)) (ST.load (cell_ext ((cells_ext hc207 hb10) 0 _ rfl)) rfl rfl Tryz.underlying9 rfl) rfl rfl rfl ?_
  refine QL.step1v 22 (.slice a1' b_1.length c1') rfl (fun _ => by kernel_rfl) ?_
  refine QL.step1v 23 (.int .i64 st8) rfl (fun _ => by kernel_rfl) ?_
  refine QL.subk [0, 1, 5, 21, 22, 23] [(0, .slice a0' a_0.length c0'), (1, .slice a1' b_1.length c1'), (5, .int .i64 st8), (21, .string (bs x195.Name)), (22, .slice a1' b_1.length c1'), (23, .int .i64 st8)] (by kernel_rfl) ?_
  obtain ⟨x208, hx209, hm⟩ := bindE hm
  obtain ⟨a210, c211, a215, c216, hc220, hR212, hle213, hR217, hle218⟩ := nest_Repair h1 hx209
  refine QL.st (.pointer (some (at_ a1' (Int.toNat st8 * 5)))) (ST.index (T := fRepair.ty) (xs := b_1) (Rd.below h1 hb10) hx209 rfl rfl rfl Tryz.underlying24 (info48).1 (info48).2.1) rfl rfl rfl ?_
  refine QL.step1v 25 (.pointer (some (at_ a1' (Int.toNat st8 * 5)))) rfl (fun _ => by kernel_rfl) ?_
  refine QL.subk [0, 1, 5, 21, 25] [(0, .slice a0' a_0.length c0'), (1, .slice a1' b_1.length c1'), (5, .int .i64 st8), (21, .string (bs x195.Name)), (25, .pointer (some (at_ a1' (Int.toNat st8 * 5))))] (by kernel_rfl) ?_
  refine QL.st (.string (bs x208.Name)) (ST.load (cell_ext ((cells_ext hc220 hb10) 0 _ rfl)) rfl rfl Tryz.underlying9 rfl) rfl rfl rfl ?_
  refine QL.st (.bool (!(x195.Name == x208.Name))) (ST.strne (x := x195.Name) (y := x208.Name) rfl rfl rfl) rfl rfl rfl ?_
  refine QL.step1v 28 (.bool (!(x195.Name == x208.Name))) rfl (fun _ => by kernel_rfl) ?_
  refine QL.subk [0, 1, 5, 28] [(0, .slice a0' a_0.length c0'), (1, .slice a1' b_1.length c1'), (5, .int .i64 st8), (28, .bool (!(x195.Name == x208.Name)))] (by kernel_rfl) ?_
  refine QL.case (!(x195.Name == x208.Name)) [28] ⟨rfl, trivial⟩ (fun hc221 => ?_) (fun hc221 => ?_)
  · have hm := iteT hm hc221
    refine QL.step1v 29 undef rfl (fun _ => by kernel_rfl) ?_
    refine QL.step1v 30 undef rfl (fun _ => by kernel_rfl) ?_
    refine QL.step1v 31 undef rfl (fun _ => by kernel_rfl) ?_
    refine QL.step1v 32 undef rfl (fun _ => by kernel_rfl) ?_
    refine QL.step1v 33 undef rfl (fun _ => by kernel_rfl) ?_
    refine QL.step1v 34 undef rfl (fun _ => by kernel_rfl) ?_
    refine QL.step1v 35 undef rfl (fun _ => by kernel_rfl) ?_
    refine QL.step1v 36 undef rfl (fun _ => by kernel_rfl) ?_
    refine QL.step1v 37 undef rfl (fun _ => by kernel_rfl) ?_
    refine QL.step1v 38 undef rfl (fun _ => by kernel_rfl) ?_
    refine QL.step1v 39 undef rfl (fun _ => by kernel_rfl) ?_
    refine QL.step1v 40 undef rfl (fun _ => by kernel_rfl) ?_
    refine QL.step1v 41 (.bool true) rfl (fun _ => by kernel_rfl) ?_
    refine QL.step1v 42 (.bool true) rfl (fun _ => by kernel_rfl) ?_
    refine QL.step1v 43 undef rfl (fun _ => by kernel_rfl) ?_
    refine QL.step1v 44 undef rfl (fun _ => by kernel_rfl) ?_
    refine QL.step1v 45 undef rfl (fun _ => by kernel_rfl) ?_
    refine QL.step1v 46 undef rfl (fun _ => by kernel_rfl) ?_
    refine QL.step1v 47 undef rfl (fun _ => by kernel_rfl) ?_
    refine QL.step1v 48 undef rfl (fun _ => by kernel_rfl) ?_
    refine QL.step1v 49 undef rfl (fun _ => by kernel_rfl) ?_
    refine QL.step1v 50 undef rfl (fun _ => by kernel_rfl) ?_
    refine QL.step1v 51 undef rfl (fun _ => by kernel_rfl) ?_
    refine QL.step1v 52 undef rfl (fun _ => by kernel_rfl) ?_
    refine QL.step1v 53 undef rfl (fun _ => by kernel_rfl) ?_
    refine QL.step1v 54 undef rfl (fun _ => by kernel_rfl) ?_
    refine QL.step1v 55 (.bool true) rfl (fun _ => by kernel_rfl) ?_
    refine QL.step1v 56 (.bool true) rfl (fun _ => by kernel_rfl) ?_
    refine QL.step1v 57 undef rfl (fun _ => by kernel_rfl) ?_
    refine QL.step1v 58 undef rfl (fun _ => by kernel_rfl) ?_
    refine QL.step1v 59 undef rfl (fun _ => by kernel_rfl) ?_
    refine QL.step1v 60 undef rfl (fun _ => by kernel_rfl) ?_
    refine QL.step1v 61 undef rfl (fun _ => by kernel_rfl) ?_
    refine QL.step1v 62 undef rfl (fun _ => by kernel_rfl) ?_
    refine QL.step1v 63 undef rfl (fun _ => by kernel_rfl) ?_
    refine QL.step1v 64 undef rfl (fun _ => by kernel_rfl) ?_
    refine QL.step1v 65 undef rfl (fun _ => by kernel_rfl) ?_
    refine QL.step1v 66 undef rfl (fun _ => by kernel_rfl) ?_
    refine QL.step1v 67 undef rfl (fun _ => by kernel_rfl) ?_
    refine QL.step1v 68 (.bool true) rfl (fun _ => by kernel_rfl) ?_
    refine QL.step1v 69 (.bool true) rfl (fun _ => by kernel_rfl) ?_
    refine QL.step1v 70 undef rfl (fun _ => by kernel_rfl) ?_
    refine QL.step1v 71 undef rfl (fun _ => by kernel_rfl) ?_
    refine QL.step1v 72 undef rfl (fun _ => by kernel_rfl) ?_
    refine QL.step1v 73 undef rfl (fun _ => by kernel_rfl) ?_
    refine QL.step1v 74 undef rfl (fun _ => by kernel_rfl) ?_
    refine QL.step1v 75 undef rfl (fun _ => by kernel_rfl) ?_
    refine QL.step1v 76 undef rfl (fun _ => by kernel_rfl) ?_
    refine QL.step1v 77 undef rfl (fun _ => by kernel_rfl) ?_
    refine QL.step1v 78 undef rfl (fun _ => by kernel_rfl) ?_
    refine QL.step1v 79 undef rfl (fun _ => by kernel_rfl) ?_
    refine QL.step1v 80 undef rfl (fun _ => by kernel_rfl) ?_
    refine QL.step1v 81 (.bool true) rfl (fun _ => by kernel_rfl) ?_
    refine QL.subk [0, 1, 5, 81] [(0, .slice a0' a_0.length c0'), (1, .slice a1' b_1.length c1'), (5, .int .i64 st8), (81, .bool true)] (by kernel_rfl) ?_
    refine QL.nil ?_
    intro w222 hE223
    have hb224 : Ext w w222 := Ext.trans hb10 hE223
    have hL225 : w.heap.size ≤ w222.heap.size := Nat.le_trans hL11 hE223.size
    have hS226 : SH w222 w.heap.size [] := SH.ext hS12 hE223
    obtain rfl := Option.some.inj hm
    exact WQ.post' ⟨rfl, hb224, hL225, hS226⟩ ⟨rfl, rfl, rfl, rfl, trivial⟩
  have hm := iteF hm hc221
  refine QL.step1v 29 (.slice a0' a_0.length c0') rfl (fun _ => by kernel_rfl) ?_
  refine QL.step1v 30 (.int .i64 st8) rfl (fun _ => by kernel_rfl) ?_
  refine QL.subk [0, 1, 5, 28, 29, 30] [(0, .slice a0' a_0.length c0'), (1, .slice a1' b_1.length c1'), (5, .int .i64 st8), (28, .bool false), (29, .slice a0' a_0.length c0'), (30, .int .i64 st8)] (by kernel_rfl) ?_
  obtain ⟨x227, hx228, hm⟩ := bindE hm
  obtain ⟨a229, c230, a234, c235, hc239, hR231, hle232, hR236, hle237⟩ := nest_Repair h0 hx228
  refine QL.st (.pointer (some (at_ a0' (Int.toNat st8 * 5)))) (ST.index (T := fRepair.ty) (xs := a_0) (Rd.below h0 hb10) hx228 rfl rfl rfl Tryz.underlying24 (info48).1 (info48).2.1) rfl rfl rfl ?_
  refine QL.step1v 32 (.pointer (some (at_ a0' (Int.toNat st8 * 5 + 1)))) rfl (fun _ => by kernel_rfl) ?_
  refine QL.subk [0, 1, 5, 28, 32] [(0, .slice a0' a_0.length c0'), (1, .slice a1' b_1.length c1'), (5, .int .i64 st8), (28, .bool false), (32, .pointer (some (at_ a0' (Int.toNat st8 * 5 + 1))))] (by kernel_rfl) ?_
  refine QL.st (.slice a229 x227.Mends.length c230) (ST.load (cell_ext ((cells_ext hc239 hb10) 1 _ rfl)) rfl rfl Tryz.underlying25 rfl) rfl rfl rfl ?_
  refine QL.step1v 34 (.slice a1' b_1.length c1') rfl (fun _ => by kernel_rfl) ?_
  refine QL.step1v 35 (.int .i64 st8) rfl (fun _ => by kernel_rfl) ?_
  refine QL.subk [0, 1, 5, 28, 33, 34, 35] [(0, .slice a0' a_0.length c0'), (1, .slice a1' b_1.length c1'), (5, .int .i64 st8), (28, .bool false), (33, .slice a229 x227.Mends.length c230), (34, .slice a1' b_1.length c1'), (35, .int .i64 st8)] (by kernel_rfl) ?_
  obtain ⟨x240, hx241, hm⟩ := bindE hm
  obtain ⟨a242, c243, a247, c248, hc252, hR244, hle245, hR249, hle250⟩ := nest_Repair h1 hx241
  refine QL.st (.pointer (some (at_ a1' (Int.toNat st8 * 5)))) (ST.index (T := fRepair.ty) (xs := b_1) (Rd.below h1 hb10) hx241 rfl rfl rfl Tryz.underlying24 (info48).1 (info48).2.1) rfl rfl rfl ?_
  refine QL.step1v 37 (.pointer (some (at_ a1' (Int.toNat st8 * 5 + 1)))) rfl (fun _ => by kernel_rfl) ?_
  refine QL.subk [0, 1, 5, 28, 33, 37] [(0, .slice a0' a_0.length c0'), (1, .slice a1' b_1.length c1'), (5, .int .i64 st8), (28, .bool false), (33, .slice a229 x227.Mends.length c230), (37, .pointer (some (at_ a1' (Int.toNat st8 * 5 + 1))))] (by kernel_rfl) ?_
  refine QL.st (.slice a242 x240.Mends.length c243) (ST.load (cell_ext ((cells_ext hc252 hb10) 1 _ rfl)) rfl rfl Tryz.underlying25 rfl) rfl rfl rfl ?_
  obtain ⟨x253, hx254, hm⟩ := bindE hm
  refine QL.call 60 #[.slice a229 x227.Mends.length c230, .slice a242 x240.Mends.length c243] (.bool x253) (fun _ => by kernel_rfl) (fun w255 hE256 => c_60 n x227.Mends a229 c230 x240.Mends a242 c243 w255 hx254 (Rd.below (Rd.below hR231 hb10) hE256) hle232 (Rd.below (Rd.below hR244 hb10) hE256) hle245) rfl rfl rfl ?_
  refine QL.step1v 40 (.bool (!x253)) rfl (fun _ => by kernel_rfl) ?_
  refine QL.step1v 41 (.bool (!x253)) rfl (fun _ => by kernel_rfl) ?_
  refine QL.step1v 42 (.bool (!x253)) rfl (fun _ => by kernel_rfl) ?_
  refine QL.subk [0, 1, 5, 42] [(0, .slice a0' a_0.length c0'), (1, .slice a1' b_1.length c1'), (5, .int .i64 st8), (42, .bool (!x253))] (by kernel_rfl) ?_
  refine QL.case (!x253) [42] ⟨rfl, trivial⟩ (fun hc257 => ?_) (fun hc257 => ?_)
  · have hm := iteT hm hc257
    refine QL.step1v 43 undef rfl (fun _ => by kernel_rfl) ?_
    refine QL.step1v 44 undef rfl (fun _ => by kernel_rfl) ?_
    refine QL.step1v 45 undef rfl (fun _ => by kernel_rfl) ?_
    refine QL.step1v 46 undef rfl (fun _ => by kernel_rfl) ?_
    refine QL.step1v 47 undef rfl (fun _ => by kernel_rfl) ?_
    refine QL.step1v 48 undef rfl (fun _ => by kernel_rfl) ?_
    refine QL.step1v 49 undef rfl (fun _ => by kernel_rfl) ?_
    refine QL.step1v 50 undef rfl (fun _ => by kernel_rfl) ?_
    refine QL.step1v 51 undef rfl (fun _ => by kernel_rfl) ?_
    refine QL.step1v 52 undef rfl (fun _ => by kernel_rfl) ?_
    refine QL.step1v 53 undef rfl (fun _ => by kernel_rfl) ?_
    refine QL.step1v 54 undef rfl (fun _ => by kernel_rfl) ?_
    refine QL.step1v 55 (.bool true) rfl (fun _ => by kernel_rfl) ?_
    refine QL.step1v 56 (.bool true) rfl (fun _ => by kernel_rfl) ?_
    refine QL.step1v 57 undef rfl (fun _ => by kernel_rfl) ?_
    refine QL.step1v 58 undef rfl (fun _ => by kernel_rfl) ?_
    refine QL.step1v 59 undef rfl (fun _ => by kernel_rfl) ?_
    refine QL.step1v 60 undef rfl (fun _ => by kernel_rfl) ?_
    refine QL.step1v 61 undef rfl (fun _ => by kernel_rfl) ?_
    refine QL.step1v 62 undef rfl (fun _ => by kernel_rfl) ?_
    refine QL.step1v 63 undef rfl (fun _ => by kernel_rfl) ?_
    refine QL.step1v 64 undef rfl (fun _ => by kernel_rfl) ?_
    refine QL.step1v 65 undef rfl (fun _ => by kernel_rfl) ?_
    refine QL.step1v 66 undef rfl (fun _ => by kernel_rfl) ?_
    refine QL.step1v 67 undef rfl (fun _ => by kernel_rfl) ?_
    refine QL.step1v 68 (.bool true) rfl (fun _ => by kernel_rfl) ?_
    refine QL.step1v 69 (.bool true) rfl (fun _ => by kernel_rfl) ?_
    refine QL.step1v 70 undef rfl (fun _ => by kernel_rfl) ?_
    refine QL.step1v 71 undef rfl (fun _ => by kernel_rfl) ?_
    refine QL.step1v 72 undef rfl (fun _ => by kernel_rfl) ?_
    refine QL.step1v 73 undef rfl (fun _ => by kernel_rfl) ?_
    refine QL.step1v 74 undef rfl (fun _ => by kernel_rfl) ?_
    refine QL.step1v 75 undef rfl (fun _ => by kernel_rfl) ?_
    refine QL.step1v 76 undef rfl (fun _ => by kernel_rfl) ?_
    refine QL.step1v 77 undef rfl (fun _ => by kernel_rfl) ?_
    refine QL.step1v 78 undef rfl (fun _ => by kernel_rfl) ?_
    refine QL.step1v 79 undef rfl (fun _ => by kernel_rfl) ?_
    refine QL.step1v 80 undef rfl (fun _ => by kernel_rfl) ?_
    refine QL.step1v 81 (.bool true) rfl (fun _ => by kernel_rfl) ?_
    refine QL.subk [0, 1, 5, 81] [(0, .slice a0' a_0.length c0'), (1, .slice a1' b_1.length c1'), (5, .int .i64 st8), (81, .bool true)] (by kernel_rfl) ?_
    refine QL.nil ?_
    intro w258 hE259
    have hb260 : Ext w w258 := Ext.trans hb10 hE259
    have hL261 : w.heap.size ≤ w258.heap.size := Nat.le_trans hL11 hE259.size
    have hS262 : SH w258 w.heap.size [] := SH.ext hS12 hE259
    obtain rfl := Option.some.inj hm
    exact WQ.post' ⟨rfl, hb260, hL261, hS262⟩ ⟨rfl, rfl, rfl, rfl, trivial⟩
  have hm := iteF hm hc257
  refine QL.step1v 43 (.slice a0' a_0.length c0') rfl (fun _ => by kernel_rfl) ?_
  refine QL.step1v 44 (.int .i64 st8) rfl (fun _ => by kernel_rfl) ?_
  refine QL.subk [0, 1, 5, 42, 43, 44] [(0, .slice a0' a_0.length c0'), (1, .slice a1' b_1.length c1'), (5, .int .i64 st8), (42, .bool false), (43, .slice a0' a_0.length c0'), (44, .int .i64 st8)] (by kernel_rfl) ?_
  obtain ⟨x263, hx264, hm⟩ := bindE hm
  obtain ⟨a265, c266, a270, c271, hc275, hR267, hle268, hR272, hle273⟩ := nest_Repair h0 hx264
  refine QL.st (.pointer (some (at_ a0' (Int.toNat st8 * 5)))) (ST.index (T := fRepair.ty) (xs := a_0) (Rd.below h0 hb10) hx264 rfl rfl rfl Tryz.underlying24 (info48).1 (info48).2.1) rfl rfl rfl ?_
  refine QL.step1v 46 (.pointer (some (at_ a0' (Int.toNat st8 * 5 + 2)))) rfl (fun _ => by kernel_rfl) ?_
  refine QL.subk [0, 1, 5, 42, 46] [(0, .slice a0' a_0.length c0'), (1, .slice a1' b_1.length c1'), (5, .int .i64 st8), (42, .bool false), (46, .pointer (some (at_ a0' (Int.toNat st8 * 5 + 2))))] (by kernel_rfl) ?_
  refine QL.st (.slice a270 x263.First.length c271) (ST.load (cell_ext ((cells_ext hc275 hb10) 2 _ rfl)) rfl rfl Tryz.underlying25 rfl) rfl rfl rfl ?_
  refine QL.step1v 48 (.slice a1' b_1.length c1') rfl (fun _ => by kernel_rfl) ?_
  refine QL.step1v 49 (.int .i64 st8) rfl (fun _ => by kernel_rfl) ?_
  refine QL.subk [0, 1, 5, 42, 47, 48, 49] [(0, .slice a0' a_0.length c0'), (1, .slice a1' b_1.length c1'), (5, .int .i64 st8), (42, .bool false), (47, .slice a270 x263.First.length c271), (48, .slice a1' b_1.length c1'), (49, .int .i64 st8)] (by kernel_rfl) ?_
  obtain ⟨x276, hx277, hm⟩ := bindE hm
  obtain ⟨a278, c279, a283, c284, hc288, hR280, hle281, hR285, hle286⟩ := nest_Repair h1 hx277
  refine QL.st (.pointer (some (at_ a1' (Int.toNat st8 * 5)))) (ST.index (T := fRepair.ty) (xs := b_1) (Rd.below h1 hb10) hx277 rfl rfl rfl Tryz.underlying24 (info48).1 (info48).2.1) rfl rfl rfl ?_
  refine QL.step1v 51 (.pointer (some (at_ a1' (Int.toNat st8 * 5 + 2)))) rfl (fun _ => by kernel_rfl) ?_
  refine QL.subk [0, 1, 5, 42, 47, 51] [(0, .slice a0' a_0.length c0'), (1, .slice a1' b_1.length c1'), (5, .int .i64 st8), (42, .bool false), (47, .slice a270 x263.First.length c271), (51, .pointer (some (at_ a1' (Int.toNat st8 * 5 + 2))))] (by kernel_rfl) ?_
  refine QL.st (.slice a283 x276.First.length c284) (ST.load (cell_ext ((cells_ext hc288 hb10) 2 _ rfl)) rfl rfl Tryz.underlying25 rfl) rfl rfl rfl ?_
  obtain ⟨x289, hx290, hm⟩ := bindE hm
  refine QL.call 60 #[.slice a270 x263.First.length c271, .slice a283 x276.First.length c284] (.bool x289) (fun _ => by kernel_rfl) (fun w291 hE292 => c_60 n x263.First a270 c271 x276.First a283 c284 w291 hx290 (Rd.below (Rd.below hR272 hb10) hE292) hle273 (Rd.below (Rd.below hR285 hb10) hE292) hle286) rfl rfl rfl ?_
  refine QL.step1v 54 (.bool (!x289)) rfl (fun _ => by kernel_rfl) ?_
  refine QL.step1v 55 (.bool (!x289)) rfl (fun _ => by kernel_rfl) ?_
  refine QL.step1v 56 (.bool (!x289)) rfl (fun _ => by kernel_rfl) ?_
  refine QL.subk [0, 1, 5, 56] [(0, .slice a0' a_0.length c0'), (1, .slice a1' b_1.length c1'), (5, .int .i64 st8), (56, .bool (!x289))] (by kernel_rfl) ?_
  refine QL.case (!x289) [56] ⟨rfl, trivial⟩ (fun hc293 => ?_) (fun hc293 => ?_)
  · have hm := iteT hm hc293
    refine QL.step1v 57 undef rfl (fun _ => by kernel_rfl) ?_
    refine QL.step1v 58 undef rfl (fun _ => by kernel_rfl) ?_
    refine QL.step1v 59 undef rfl (fun _ => by kernel_rfl) ?_
    refine QL.step1v 60 undef rfl (fun _ => by kernel_rfl) ?_
    refine QL.step1v 61 undef rfl (fun _ => by kernel_rfl) ?_
    refine QL.step1v 62 undef rfl (fun _ => by kernel_rfl) ?_
    refine QL.step1v 63 undef rfl (fun _ => by kernel_rfl) ?_
    refine QL.step1v 64 undef rfl (fun _ => by kernel_rfl) ?_
    refine QL.step1v 65 undef rfl (fun _ => by kernel_rfl) ?_
    refine QL.step1v 66 undef rfl (fun _ => by kernel_rfl) ?_
    refine QL.step1v 67 undef rfl (fun _ => by kernel_rfl) ?_
    refine QL.step1v 68 (.bool true) rfl (fun _ => by kernel_rfl) ?_
    refine QL.step1v 69 (.bool true) rfl (fun _ => by kernel_rfl) ?_
    refine QL.step1v 70 undef rfl (fun _ => by kernel_rfl) ?_
    refine QL.step1v 71 undef rfl (fun _ => by kernel_rfl) ?_
    refine QL.step1v 72 undef rfl (fun _ => by kernel_rfl) ?_
    refine QL.step1v 73 undef rfl (fun _ => by kernel_rfl) ?_
    refine QL.step1v 74 undef rfl (fun _ => by kernel_rfl) ?_
    refine QL.step1v 75 undef rfl (fun _ => by kernel_rfl) ?_
    refine QL.step1v 76 undef rfl (fun _ => by kernel_rfl) ?_
    refine QL.step1v 77 undef rfl (fun _ => by kernel_rfl) ?_
    refine QL.step1v 78 undef rfl (fun _ => by kernel_rfl) ?_
    refine QL.step1v 79 undef rfl (fun _ => by kernel_rfl) ?_
    refine QL.step1v 80 undef rfl (fun _ => by kernel_rfl) ?_
    refine QL.step1v 81 (.bool true) rfl (fun _ => by kernel_rfl) ?_
    refine QL.subk [0, 1, 5, 81] [(0, .slice a0' a_0.length c0'), (1, .slice a1' b_1.length c1'), (5, .int .i64 st8), (81, .bool true)] (by kernel_rfl) ?_
    refine QL.nil ?_
    intro w294 hE295
    have hb296 : Ext w w294 := Ext.trans hb10 hE295
    have hL297 : w.heap.size ≤ w294.heap.size := Nat.le_trans hL11 hE295.size
    have hS298 : SH w294 w.heap.size [] := SH.ext hS12 hE295
    obtain rfl := Option.some.inj hm
    exact WQ.post' ⟨rfl, hb296, hL297, hS298⟩ ⟨rfl, rfl, rfl, rfl, trivial⟩
  have hm := iteF hm hc293
  refine QL.step1v 57 (.slice a0' a_0.length c0') rfl (fun _ => by kernel_rfl) ?_
  refine QL.step1v 58 (.int .i64 st8) rfl (fun _ => by kernel_rfl) ?_
  refine QL.subk [0, 1, 5, 56, 57, 58] [(0, .slice a0' a_0.length c0'), (1, .slice a1' b_1.length c1'), (5, .int .i64 st8), (56, .bool false), (57, .slice a0' a_0.length c0'), (58, .int .i64 st8)] (by kernel_rfl) ?_
  obtain ⟨x299, hx300, hm⟩ := bindE hm
  obtain ⟨a301, c302, a306, c307, hc311, hR303, hle304, hR308, hle309⟩ := nest_Repair h0 hx300
  refine QL.st (.pointer (some (at_ a0' (Int.toNat st8 * 5)))) (ST.index (T := fRepair.ty) (xs := a_0) (Rd.below h0 hb10) hx300 rfl rfl rfl Tryz.underlying24 (info48).1 (info48).2.1) rfl rfl rfl ?_
  refine QL.step1v 60 (.pointer (some (at_ a0' (Int.toNat st8 * 5 + 3)))) rfl (fun _ => by kernel_rfl) ?_
  refine QL.subk [0, 1, 5, 56, 60] [(0, .slice a0' a_0.length c0'), (1, .slice a1' b_1.length c1'), (5, .int .i64 st8), (56, .bool false), (60, .pointer (some (at_ a0' (Int.toNat st8 * 5 + 3))))] (by kernel_rfl) ?_
  refine QL.st (.int .i64 x299.Price) (ST.load (cell_ext ((cells_ext hc311 hb10) 3 _ rfl)) rfl rfl Tryz.underlying2 rfl) rfl rfl rfl ?_
  refine QL.step1v 62 (.slice a1' b_1.length c1') rfl (fun _ => by kernel_rfl) ?_
  refine QL.step1v 63 (.int .i64 st8) rfl (fun _ => by kernel_rfl) ?_
  refine QL.subk [0, 1, 5, 56, 61, 62, 63] [(0, .slice a0' a_0.length c0'), (1, .slice a1' b_1.length c1'), (5, .int .i64 st8), (56, .bool false), (61, .int .i64 x299.Price), (62, .slice a1' b_1.length c1'), (63, .int .i64 st8)] (by kernel_rfl) ?_
  obtain ⟨x312, hx313, hm⟩ := bindE hm
  obtain ⟨a314, c315, a319, c320, hc324, hR316, hle317, hR321, hle322⟩ := nest_Repair h1 hx313
  refine QL.st (.pointer (some (at_ a1' (Int.toNat st8 * 5)))) (ST.index (T := fRepair.ty) (xs := b_1) (Rd.below h1 hb10) hx313 rfl rfl rfl Tryz.underlying24 (info48).1 (info48).2.1) rfl rfl rfl ?_
  refine QL.step1v 65 (.pointer (some (at_ a1' (Int.toNat st8 * 5 + 3)))) rfl (fun _ => by kernel_rfl) ?_
  refine QL.subk [0, 1, 5, 56, 61, 65] [(0, .slice a0' a_0.length c0'), (1, .slice a1' b_1.length c1'), (5, .int .i64 st8), (56, .bool false), (61, .int .i64 x299.Price), (65, .pointer (some (at_ a1' (Int.toNat st8 * 5 + 3))))] (by kernel_rfl) ?_
  refine QL.st (.int .i64 x312.Price) (ST.load (cell_ext ((cells_ext hc324 hb10) 3 _ rfl)) rfl rfl Tryz.underlying2 rfl) rfl rfl rfl ?_
  refine QL.step1v 67 (.bool (x299.Price != x312.Price)) rfl (fun _ => by kernel_rfl) ?_
  refine QL.step1v 68 (.bool (x299.Price != x312.Price)) rfl (fun _ => by kernel_rfl) ?_
  refine QL.step1v 69 (.bool (x299.Price != x312.Price)) rfl (fun _ => by kernel_rfl) ?_
  refine QL.subk [0, 1, 5, 69] [(0, .slice a0' a_0.length c0'), (1, .slice a1' b_1.length c1'), (5, .int .i64 st8), (69, .bool (x299.Price != x312.Price))] (by kernel_rfl) ?_
  refine QL.case (x299.Price != x312.Price) [69] ⟨rfl, trivial⟩ (fun hc325 => ?_) (fun hc325 => ?_)
  · have hm := iteT hm hc325
    refine QL.step1v 70 undef rfl (fun _ => by kernel_rfl) ?_
    refine QL.step1v 71 undef rfl (fun _ => by kernel_rfl) ?_
    refine QL.step1v 72 undef rfl (fun _ => by kernel_rfl) ?_
    refine QL.step1v 73 undef rfl (fun _ => by kernel_rfl) ?_
    refine QL.step1v 74 undef rfl (fun _ => by kernel_rfl) ?_
    refine QL.step1v 75 undef rfl (fun _ => by kernel_rfl) ?_
    refine QL.step1v 76 undef rfl (fun _ => by kernel_rfl) ?_
    refine QL.step1v 77 undef rfl (fun _ => by kernel_rfl) ?_
    refine QL.step1v 78 undef rfl (fun _ => by kernel_rfl) ?_
    refine QL.step1v 79 undef rfl (fun _ => by kernel_rfl) ?_
    refine QL.step1v 80 undef rfl (fun _ => by kernel_rfl) ?_
    refine QL.step1v 81 (.bool true) rfl (fun _ => by kernel_rfl) ?_
    refine QL.subk [0, 1, 5, 81] [(0, .slice a0' a_0.length c0'), (1, .slice a1' b_1.length c1'), (5, .int .i64 st8), (81, .bool true)] (by kernel_rfl) ?_
    refine QL.nil ?_
    intro w326 hE327
    have hb328 : Ext w w326 := Ext.trans hb10 hE327
    have hL329 : w.heap.size ≤ w326.heap.size := Nat.le_trans hL11 hE327.size
    have hS330 : SH w326 w.heap.size [] := SH.ext hS12 hE327
    obtain rfl := Option.some.inj hm
    exact WQ.post' ⟨rfl, hb328, hL329, hS330⟩ ⟨rfl, rfl, rfl, rfl, trivial⟩
  have hm := iteF hm hc325
  refine QL.step1v 70 (.slice a0' a_0.length c0') rfl (fun _ => by kernel_rfl) ?_
  refine QL.step1v 71 (.int .i64 st8) rfl (fun _ => by kernel_rfl) ?_
  refine QL.subk [0, 1, 5, 69, 70, 71] [(0, .slice a0' a_0.length c0'), (1, .slice a1' b_1.length c1'), (5, .int .i64 st8), (69, .bool false), (70, .slice a0' a_0.length c0'), (71, .int .i64 st8)] (by kernel_rfl) ?_
  obtain ⟨x331, hx332, hm⟩ := bindE hm
  obtain ⟨a333, c334, a338, c339, hc343, hR335, hle336, hR340, hle341⟩ := nest_Repair h0 hx332
  refine QL.st (.pointer (some (at_ a0' (Int.toNat st8 * 5)))) (ST.index (T := fRepair.ty) (xs := a_0) (Rd.below h0 hb10) hx332 rfl rfl rfl Tryz.underlying24 (info48).1 (info48).2.1) rfl rfl rfl ?_
  refine QL.step1v 73 (.pointer (some (at_ a0' (Int.toNat st8 * 5 + 4)))) rfl (fun _ => by kernel_rfl) ?_
  refine QL.subk [0, 1, 5, 69, 73] [(0, .slice a0' a_0.length c0'), (1, .slice a1' b_1.length c1'), (5, .int .i64 st8), (69, .bool false), (73, .pointer (some (at_ a0' (Int.toNat st8 * 5 + 4))))] (by kernel_rfl) ?_
  refine QL.st (.int .i64 x331.Hours) (ST.load (cell_ext ((cells_ext hc343 hb10) 4 _ rfl)) rfl rfl Tryz.underlying2 rfl) rfl rfl rfl ?_
  refine QL.step1v 75 (.slice a1' b_1.length c1') rfl (fun _ => by kernel_rfl) ?_
  refine QL.step1v 76 (.int .i64 st8) rfl (fun _ => by kernel_rfl) ?_
  refine QL.subk [0, 1, 5, 69, 74, 75, 76] [(0, .slice a0' a_0.length c0'), (1, .slice a1' b_1.length c1'), (5, .int .i64 st8), (69, .bool false), (74, .int .i64 x331.Hours), (75, .slice a1' b_1.length c1'), (76, .int .i64 st8)] (by kernel_rfl) ?_
  obtain ⟨x344, hx345, hm⟩ := bindE hm
  obtain ⟨a346, c347, a351, c352, hc356, hR348, hle349, hR353, hle354⟩ := nest_Repair h1 hx345
  refine QL.st (.pointer (some (at_ a1' (Int.toNat st8 * 5)))) (ST.index (T := fRepair.ty) (xs := b_1) (Rd.below h1 hb10) hx345 rfl rfl rfl Tryz.underlying24 (info48).1 (info48).2.1) rfl rfl rfl ?_
  refine QL.step1v 78 (.pointer (some (at_ a1' (Int.toNat st8 * 5 + 4)))) rfl (fun _ => by kernel_rfl) ?_
  refine QL.subk [0, 1, 5, 69, 74, 78] [(0, .slice a0' a_0.length c0'), (1, .slice a1' b_1.length c1'), (5, .int .i64 st8), (69, .bool false), (74, .int .i64 x331.Hours), (78, .pointer (some (at_ a1' (Int.toNat st8 * 5 + 4))))] (by kernel_rfl) ?_
  refine QL.st (.int .i64 x344.Hours) (ST.load (cell_ext ((cells_ext hc356 hb10) 4 _ rfl)) rfl rfl Tryz.underlying2 rfl) rfl rfl rfl ?_
  refine QL.step1v 80 (.bool (x331.Hours != x344.Hours)) rfl (fun _ => by kernel_rfl) ?_
  refine QL.step1v 81 (.bool (x331.Hours != x344.Hours)) rfl (fun _ => by kernel_rfl) ?_
  refine QL.subk [0, 1, 5, 81] [(0, .slice a0' a_0.length c0'), (1, .slice a1' b_1.length c1'), (5, .int .i64 st8), (81, .bool (x331.Hours != x344.Hours))] (by kernel_rfl) ?_
  refine QL.nil ?_
  intro w357 hE358
  have hb359 : Ext w w357 := Ext.trans hb10 hE358
  have hL360 : w.heap.size ≤ w357.heap.size := Nat.le_trans hL11 hE358.size
  have hS361 : SH w357 w.heap.size [] := SH.ext hS12 hE358
  obtain rfl := Option.some.inj hm
  exact WQ.post' ⟨rfl, hb359, hL360, hS361⟩ ⟨rfl, rfl, rfl, rfl, trivial⟩

theorem c_61 (n : Nat) (n_0 : Int) (w : World) {r : List UInt8} (hm : m_impl_Decimal n n_0 = some r) (hG : GL 2 w) :
    CallV Tryz.prog 61 #[.int .i64 n_0] w (fun v w' => v = .string (bs r) ∧ Ext w w') := by
  unfold m_impl_Decimal at hm
  refine CallV.enter Tryz.func61 rfl (by kernel_rfl) Tryz.ntmps61 (env := [(0, .int .i64 n_0)]) ⟨rfl, trivial⟩ ?_
  refine WP.seq (fun K1 hK1 => ?_)
  refine WP.region ?_
  refine WL.runk 1 [0] [(0, .int .i64 n_0)] (by kernel_rfl) ?_
  refine WL.nil ?_
  refine WQ.then_normal (hK1 _ _ _ ?_)
  refine WP.seq (fun K2 hK2 => ?_)
  refine WP.region ?_
  refine WL.runk 1 [3] [(3, .int .i64 n_0)] (by kernel_rfl) ?_
  obtain ⟨x3, hx4, hm⟩ := bindE hm
  refine WL.call 78 #[.int .i64 n_0, .int .i64 10] rfl rfl (by kernel_rfl) (c_78 n n_0 10 w hx4 (GL.below hG (Ext.refl w))) ?_
  rintro _ w5 ⟨rfl, hE6⟩
  refine ⟨_, rfl, ?_⟩
  have hb8 : Ext w w5 := Ext.trans (Ext.refl w) hE6
  have hL9 : w.heap.size ≤ w5.heap.size := Nat.le_trans (Nat.le_refl _) hE6.size
  have hS10 : SH w5 w.heap.size [] := SH.ext (SH.nil _ _) hE6
  refine WL.runk 1 [2] [(2, .string (bs x3))] (by kernel_rfl) ?_
  refine WL.nil ?_
  refine WQ.then_normal (hK2 _ _ _ ?_)
  refine WP.ret ?_
  obtain rfl := Option.some.inj hm
  exact WQ.ret1 _ rfl rfl ⟨rfl, hb8⟩

theorem c_23 (n : Nat) (list_0 : List SRepair) (a0' : Option Addr) (c0' : Nat) (k_1 : Int) (w : World) {r : List UInt8} (hm : m_impl_RepairText n list_0 k_1 = some r) (hG : GL 2 w) (h0 : Rd fRepair.ty w a0' list_0) (hle0 : list_0.length ≤ c0') :
    CallV Tryz.prog 23 #[.slice a0' list_0.length c0', .int .i64 k_1] w (fun v w' => v = .string (bs r) ∧ Ext w w') := by
  unfold m_impl_RepairText at hm
  refine CallV.enter Tryz.func23 rfl (by kernel_rfl) Tryz.ntmps23 (env := [(0, .slice a0' list_0.length c0'), (1, .int .i64 k_1)]) ⟨rfl, rfl, trivial⟩ ?_
  refine WP.seq (fun K1 hK1 => ?_)
  refine WP.region ?_
  refine WL.runk 1 [0, 1] [(0, .slice a0' list_0.length c0'), (1, .int .i64 k_1)] (by kernel_rfl) ?_
  refine WL.nil ?_
  refine WQ.then_normal (hK1 _ _ _ ?_)
  refine WP.seq (fun K2 hK2 => ?_)
  refine WP.seq (fun K3 hK3 => ?_)
  obtain ⟨x21, hx22, hm⟩ := bindE hm
  refine WP.cut (fun env' w' => env' = [(0, .slice a0' list_0.length c0'), (1, .int .i64 k_1), (20, .bool x21)] ∧ Ext w w' ∧ w.heap.size ≤ w'.heap.size ∧ SH w' w.heap.size []) ?_ ?_
  · have hm := hx22; clear hx22
    refine WP.region ?_
    refine WL.runk 1 [0, 1, 10] [(0, .slice a0' list_0.length c0'), (1, .int .i64 k_1), (10, .slice a0' list_0.length c0')] (by kernel_rfl) ?_
    obtain ⟨x23, hx24, hm⟩ := bindE hm
    refine WL.call 25 #[.slice a0' list_0.length c0'] rfl rfl (by kernel_rfl) (c_25 n list_0 a0' c0' w hx24 (Rd.below h0 (Ext.refl w)) hle0) ?_
    rintro _ w25 ⟨rfl, hE26⟩
    refine ⟨_, rfl, ?_⟩
    have hb28 : Ext w w25 := Ext.trans (Ext.refl w) hE26
    have hL29 : w.heap.size ≤ w25.heap.size := Nat.le_trans (Nat.le_refl _) hE26.size
    have hS30 : SH w25 w.heap.size [] := SH.ext (SH.nil _ _) hE26
    refine WL.runk 2 [0, 1, 13] [(0, .slice a0' list_0.length c0'), (1, .int .i64 k_1), (13, .bool (!x23))] (by kernel_rfl) ?_
    refine WL.case (!x23) [13] ⟨rfl, trivial⟩ (fun hc31 => ?_) (fun hc31 => ?_)
    · have hm := iteT hm hc31
      refine WL.runk 7 [0, 1, 20] [(0, .slice a0' list_0.length c0'), (1, .int .i64 k_1), (20, .bool true)] (by kernel_rfl) ?_
      refine WL.nil ?_
      obtain rfl := Option.some.inj hm
      exact WQ.post' ⟨rfl, hb28, hL29, hS30⟩ ⟨rfl, rfl, rfl, trivial⟩
    have hm := iteF hm hc31
    refine WL.runk 4 [0, 1, 13, 14, 17] [(0, .slice a0' list_0.length c0'), (1, .int .i64 k_1), (13, .bool false), (14, .int .i64 k_1), (17, .int .i64 (wI64 ((list_0.length : Int) - 1)))] (by kernel_rfl) ?_
    obtain ⟨x32, hx33, hm⟩ := bindE hm
    refine WL.call 51 #[.int .i64 k_1, .int .i64 0, .int .i64 (wI64 ((list_0.length : Int) - 1))] rfl rfl (by kernel_rfl) (c_51 n k_1 0 (wI64 ((list_0.length : Int) - 1)) w25 hx33 ) ?_
    rintro _ w34 ⟨rfl, hE35⟩
    refine ⟨_, rfl, ?_⟩
    have hb37 : Ext w w34 := Ext.trans hb28 hE35
    have hL38 : w.heap.size ≤ w34.heap.size := Nat.le_trans hL29 hE35.size
    have hS39 : SH w34 w.heap.size [] := SH.ext hS30 hE35
    refine WL.runk 2 [0, 1, 20] [(0, .slice a0' list_0.length c0'), (1, .int .i64 k_1), (20, .bool (!x32))] (by kernel_rfl) ?_
    refine WL.nil ?_
    obtain rfl := Option.some.inj hm
    exact WQ.post' ⟨rfl, hb37, hL38, hS39⟩ ⟨rfl, rfl, rfl, trivial⟩
  clear hx22
  rintro _ w40 ⟨rfl, hb41, hL42, hS43⟩
  refine WQ.then_normal (hK3 _ _ _ ?_)
  refine WP.cond x21 rfl rfl (fun hc44 => ?_) (fun hc44 => ?_)
  · have hm := iteT hm hc44
    refine WP.seq (fun K45 hK45 => ?_)
    refine WP.region ?_
    refine WL.runk 1 [4] [(4, .string (bs []))] (by kernel_rfl) ?_
    refine WL.nil ?_
    refine WQ.then_normal (hK45 _ _ _ ?_)
    refine WP.ret ?_
    refine WQ.then_ret ?_
    obtain rfl := Option.some.inj hm
    exact WQ.ret1 _ rfl rfl ⟨rfl, hb41⟩
  have hm := iteF hm hc44
  refine WP.skip ?_
  refine WQ.then_normal (hK2 _ _ _ ?_)
  refine WP.seq (fun K46 hK46 => ?_)
  refine WP.region ?_
  refine WL.runk 2 [0, 21, 22] [(0, .slice a0' list_0.length c0'), (21, .slice a0' list_0.length c0'), (22, .int .i64 k_1)] (by kernel_rfl) ?_
  obtain ⟨x47, hx48, hm⟩ := bindE hm
  obtain ⟨a49, c50, a54, c55, hc59, hR51, hle52, hR56, hle57⟩ := nest_Repair h0 hx48
  refine WL.st (.pointer (some (at_ a0' (Int.toNat k_1 * 5)))) (ST.index (T := fRepair.ty) (xs := list_0) (Rd.below h0 hb41) hx48 rfl rfl rfl Tryz.underlying24 (info48).1 (info48).2.1) rfl rfl rfl ?_
  refine WL.st (.agg #[.string (bs x47.Name), .slice a49 x47.Mends.length c50, .slice a54 x47.First.length c55, .int .i64 x47.Price, .int .i64 x47.Hours]) (ST.loadAgg (vs := [.string (bs x47.Name), .slice a49 x47.Mends.length c50, .slice a54 x47.First.length c55, .int .i64 x47.Price, .int .i64 x47.Hours]) (at_agg (cells_ext hc59 hb41)) rfl rfl rfl Tryz.underlying48 rfl (info48).1 (info48).2.1) rfl rfl rfl ?_
  refine WL.row fStr 9 ([] : List (List UInt8)) 0 #[] 25 (by kernel_rfl) rfl rfl rfl rfl rfl rfl rfl ?_
  intro a60 c61 w62 hE63 hR64
  have hb66 : Ext w w62 := Ext.trans hb41 hE63
  have hL67 : w.heap.size ≤ w62.heap.size := Nat.le_trans hL42 hE63.size
  have hS68 : SH w62 w.heap.size [aOwn fStr 9 a60 c61 ([] : List (List UInt8))] := SH.add hS43 hE63 hL42 hR64
  refine WL.box 48 [.string (bs []), .slice none 0 0, .slice none 0 0, .int .i64 0, .int .i64 0] 5 (by kernel_rfl) rfl rfl rfl rfl ?_
  intro b69 w70 hE71 hR72
  have hb74 : Ext w w70 := Ext.trans hb66 hE71
  have hL75 : w.heap.size ≤ w70.heap.size := Nat.le_trans hL67 hE71.size
  have hS76 : SH w70 w.heap.size [aBox 48 b69 [.string (bs []), .slice none 0 0, .slice none 0 0, .int .i64 0, .int .i64 0], aOwn fStr 9 a60 c61 ([] : List (List UInt8))] := SH.add hS68 hE71 hL67 hR72
  refine WL.boxStore 0 [.string (bs x47.Name), .slice a49 x47.Mends.length c50, .slice a54 x47.First.length c55, .int .i64 x47.Price, .int .i64 x47.Hours] [.string (bs x47.Name), .slice a49 x47.Mends.length c50, .slice a54 x47.First.length c55, .int .i64 x47.Price, .int .i64 x47.Hours] (SH.front 0 hS76) hL75 rfl rfl rfl rfl rfl rfl rfl (info48).1 (info48).2.1 rfl rfl rfl ?_
  intro w77 hB78 hS79
  have hb80 : Ext w w77 := Below.trans hb74 hB78
  have hL81 : w.heap.size ≤ w77.heap.size := Nat.le_trans hL75 hB78.size
  refine WL.runk 1 [0, 5, 6] [(0, .slice a0' list_0.length c0'), (5, .pointer (some ⟨b69, 0, none⟩)), (6, .slice a60 (([] : List (List UInt8)).length) c61)] (by kernel_rfl) ?_
  refine WL.nil ?_
  refine WQ.then_normal (hK46 _ _ _ ?_)
  refine WP.seq (fun K82 hK82 => ?_)
  refine WP.seq (fun K83 hK83 => ?_)
  refine WP.region ?_
  refine WL.runk 1 [0, 5, 6, 26] [(0, .slice a0' list_0.length c0'), (5, .pointer (some ⟨b69, 0, none⟩)), (6, .slice a60 (([] : List (List UInt8)).length) c61), (26, .pointer (some ⟨b69, 2, none⟩))] (by kernel_rfl) ?_
  refine WL.st (.slice a54 x47.First.length c55) (ST.load (cell_ext (SH.boxAt (SH.front 0 hS79) 2 _ rfl)) rfl rfl Tryz.underlying25 rfl) rfl rfl rfl ?_
  refine WL.runk 2 [0, 5, 6, 27, 28, 29] [(0, .slice a0' list_0.length c0'), (5, .pointer (some ⟨b69, 0, none⟩)), (6, .slice a60 (([] : List (List UInt8)).length) c61), (27, .slice a54 x47.First.length c55), (28, .int .i64 (x47.First.length : Int)), (29, .int .i64 0)] (by kernel_rfl) ?_
  refine WL.nil ?_
  refine WQ.then_normal (hK83 _ _ _ ?_)
  refine WP.block ?_
  obtain ⟨t98, ht99, hm⟩ := bindE hm
  have hmo93 := hm; clear hm
  refine WP.sub [(0, .slice a0' list_0.length c0'), (5, .pointer (some ⟨b69, 0, none⟩)), (6, .slice a60 (([] : List (List UInt8)).length) c61), (27, .slice a54 x47.First.length c55), (28, .int .i64 (x47.First.length : Int)), (29, .int .i64 0)] ⟨rfl, rfl, rfl, rfl, rfl, rfl, trivial⟩ ?_
  refine WP.loop (fun n' env' w' => ∃ (st84 : List (List UInt8) × Int) (a85 : Option Addr) (c86 : Nat), env' = [(0, .slice a0' list_0.length c0'), (5, .pointer (some ⟨b69, 0, none⟩)), (6, .slice a85 st84.1.length c86), (27, .slice a54 x47.First.length c55), (28, .int .i64 (x47.First.length : Int)), (29, .int .i64 st84.2)] ∧ Ext w w' ∧ w.heap.size ≤ w'.heap.size ∧ SH w' w.heap.size [aOwn fStr 9 a85 c86 st84.1, aBox 48 b69 [.string (bs x47.Name), .slice a49 x47.Mends.length c50, .slice a54 x47.First.length c55, .int .i64 x47.Price, .int .i64 x47.Hours]] ∧ loopN (m_impl_RepairText_l1 n list_0 x47) n' st84 = some t98) n ⟨(([] : List (List UInt8)), 0), _, _, rfl, hb80, hL81, (SH.front 1 hS79), ht99⟩ ?_
  rintro n95 _ w88 ⟨st84, a85, c86, rfl, hb89, hL90, hS91, hl92⟩ K94 hK94
  obtain ⟨n96, s97, rfl, hm, hl92⟩ := loopN_some hl92
  unfold m_impl_RepairText_l1 at hm
  refine WP.seq (fun K100 hK100 => ?_)
  refine WP.region ?_
  refine WL.runk 1 [0, 5, 6, 27, 28, 29, 30] [(0, .slice a0' list_0.length c0'), (5, .pointer (some ⟨b69, 0, none⟩)), (6, .slice a85 st84.1.length c86), (27, .slice a54 x47.First.length c55), (28, .int .i64 (x47.First.length : Int)), (29, .int .i64 st84.2), (30, .bool (decide (st84.2 < (x47.First.length : Int))))] (by kernel_rfl) ?_
  refine WL.nil ?_
  refine WQ.then_normal (hK100 _ _ _ ?_)
  refine WP.seq (fun K101 hK101 => ?_)
  refine WP.cond (decide (st84.2 < (x47.First.length : Int))) rfl rfl (fun hc102 => ?_) (fun hc102 => ?_)
  · have hm := iteT hm hc102
    refine WP.skip ?_
    refine WQ.then_normal (hK101 _ _ _ ?_)
    refine WP.seq (fun K103 hK103 => ?_)
    refine WP.block ?_
    refine WP.seq (fun K104 hK104 => ?_)
    refine WP.region ?_
    obtain ⟨x105, hx106, hm⟩ := bindE hm
    refine WL.st (.pointer (some (at_ a54 (Int.toNat st84.2 * 1)))) (ST.index (T := fInt.ty) (xs := x47.First) (Rd.below hR56 hb89) hx106 rfl rfl rfl Tryz.underlying25 (info2).1 (info2).2.1) rfl rfl rfl ?_
    refine WL.st (.int .i64 x105) (ST.load (cell_ext (Rd.flat (F := fInt) (Rd.below hR56 hb89) hx106 0 rfl)) rfl rfl Tryz.underlying2 rfl) rfl rfl rfl ?_
    refine WL.runk 1 [0, 5, 6, 8, 27, 28, 29] [(0, .slice a0' list_0.length c0'), (5, .pointer (some ⟨b69, 0, none⟩)), (6, .slice a85 st84.1.length c86), (27, .slice a54 x47.First.length c55), (28, .int .i64 (x47.First.length : Int)), (29, .int .i64 st84.2), (8, .int .i64 x105)] (by kernel_rfl) ?_
    refine WL.nil ?_
    refine WQ.then_normal (hK104 _ _ _ ?_)
    refine WP.region ?_
    refine WL.runk 3 [0, 5, 27, 28, 29, 33, 34, 35] [(0, .slice a0' list_0.length c0'), (5, .pointer (some ⟨b69, 0, none⟩)), (27, .slice a54 x47.First.length c55), (28, .int .i64 (x47.First.length : Int)), (29, .int .i64 st84.2), (33, .slice a85 st84.1.length c86), (34, .slice a0' list_0.length c0'), (35, .int .i64 x105)] (by kernel_rfl) ?_
    obtain ⟨x107, hx108, hm⟩ := bindE hm
    obtain ⟨a109, c110, a114, c115, hc119, hR111, hle112, hR116, hle117⟩ := nest_Repair h0 hx108
    refine WL.st (.pointer (some (at_ a0' (Int.toNat x105 * 5)))) (ST.index (T := fRepair.ty) (xs := list_0) (Rd.below h0 hb89) hx108 rfl rfl rfl Tryz.underlying24 (info48).1 (info48).2.1) rfl rfl rfl ?_
    refine WL.runk 1 [0, 5, 27, 28, 29, 33, 37] [(0, .slice a0' list_0.length c0'), (5, .pointer (some ⟨b69, 0, none⟩)), (27, .slice a54 x47.First.length c55), (28, .int .i64 (x47.First.length : Int)), (29, .int .i64 st84.2), (33, .slice a85 st84.1.length c86), (37, .pointer (some (at_ a0' (Int.toNat x105 * 5))))] (by kernel_rfl) ?_
    refine WL.st (.string (bs x107.Name)) (ST.load (cell_ext ((cells_ext hc119 hb89) 0 _ rfl)) rfl rfl Tryz.underlying9 rfl) rfl rfl rfl ?_
    refine WL.row fStr 9 ([x107.Name] : List (List UInt8)) 1 #[.string (bs x107.Name)] 39 (by kernel_rfl) rfl rfl rfl rfl rfl rfl rfl ?_
    intro a120 c121 w122 hE123 hR124
    have hb126 : Ext w w122 := Ext.trans hb89 hE123
    have hL127 : w.heap.size ≤ w122.heap.size := Nat.le_trans hL90 hE123.size
    have hS128 : SH w122 w.heap.size [aOwn fStr 9 a120 c121 ([x107.Name] : List (List UInt8)), aOwn fStr 9 a85 c86 st84.1, aBox 48 b69 [.string (bs x47.Name), .slice a49 x47.Mends.length c50, .slice a54 x47.First.length c55, .int .i64 x47.Price, .int .i64 x47.Hours]] := SH.add hS91 hE123 hL90 hR124
    obtain ⟨x129, hx130, hm⟩ := bindE hm
    refine WL.append (F := fStr) (xs := st84.1) (ys := ([x107.Name] : List (List UInt8))) 40 (SH.front 1 hS128) hL127 (SH.rd (SH.front 0 hS128)) hx130 rfl rfl rfl Tryz.underlying66 (info9).1 (info9).2.2.1 (info9).2.1 (info9).2.2.2 rfl rfl rfl rfl rfl ?_
    intro a131 c132 w133 hB134 hS135
    have hb136 : Ext w w133 := Below.trans hb126 hB134
    have hL137 : w.heap.size ≤ w133.heap.size := Nat.le_trans hL127 hB134.size
    refine WL.runk 1 [0, 5, 6, 27, 28, 29] [(0, .slice a0' list_0.length c0'), (5, .pointer (some ⟨b69, 0, none⟩)), (27, .slice a54 x47.First.length c55), (28, .int .i64 (x47.First.length : Int)), (29, .int .i64 st84.2), (6, .slice a131 x129.length c132)] (by kernel_rfl) ?_
    refine WL.nil ?_
    refine WQ.block_normal ?_
    refine WQ.then_normal (hK103 _ _ _ ?_)
    refine WP.region ?_
    refine WL.runk 2 [0, 5, 6, 27, 28, 29] [(0, .slice a0' list_0.length c0'), (5, .pointer (some ⟨b69, 0, none⟩)), (27, .slice a54 x47.First.length c55), (28, .int .i64 (x47.First.length : Int)), (29, .int .i64 (wI64 (st84.2 + 1))), (6, .slice a131 x129.length c132)] (by kernel_rfl) ?_
    refine WL.nil ?_
    obtain rfl := Option.some.inj hm
    exact WQ.round hK94 ⟨(x129, (wI64 (st84.2 + 1))), _, _, rfl, hb136, hL137, (SH.take 2 (SH.front 1 (SH.front 2 hS135))), hl92⟩ (Nat.lt_succ_self _) ⟨rfl, rfl, rfl, rfl, rfl, rfl, trivial⟩
  have hm := iteF hm hc102
  refine WP.exit ?_
  refine WQ.then_exit ?_
  refine WQ.then_exit ?_
  refine WQ.block_here ?_
  obtain rfl := Option.some.inj hm
  obtain rfl := afterN_done hl92
  have hm := hmo93
  refine WQ.then_normal (hK82 _ _ _ ?_)
  refine WP.seq (fun K138 hK138 => ?_)
  refine WP.quiet (by kernel_rfl) (by kernel_rfl) ?_
  refine QL.step1v 42 (.pointer (some ⟨b69, 0, none⟩)) rfl (fun _ => by kernel_rfl) ?_
  refine QL.subk [5, 6, 42] [(5, .pointer (some ⟨b69, 0, none⟩)), (6, .slice a85 st84.1.length c86), (42, .pointer (some ⟨b69, 0, none⟩))] (by kernel_rfl) ?_
  refine QL.st (.string (bs x47.Name)) (ST.load (cell_ext (SH.boxAt (SH.front 1 hS91) 0 _ rfl)) rfl rfl Tryz.underlying9 rfl) rfl rfl rfl ?_
  obtain ⟨x139, hx140, hm⟩ := bindE hm
  refine QL.st (.string (bs x139)) (ST.cat hx140 rfl rfl rfl) rfl rfl rfl ?_
  refine QL.step1v 45 (.pointer (some ⟨b69, 3, none⟩)) rfl (fun _ => by kernel_rfl) ?_
  refine QL.subk [5, 6, 44, 45] [(5, .pointer (some ⟨b69, 0, none⟩)), (6, .slice a85 st84.1.length c86), (44, .string (bs x139)), (45, .pointer (some ⟨b69, 3, none⟩))] (by kernel_rfl) ?_
  refine QL.st (.int .i64 x47.Price) (ST.load (cell_ext (SH.boxAt (SH.front 1 hS91) 3 _ rfl)) rfl rfl Tryz.underlying2 rfl) rfl rfl rfl ?_
  obtain ⟨x141, hx142, hm⟩ := bindE hm
  refine QL.call 61 #[.int .i64 x47.Price] (.string (bs x141)) (fun _ => by kernel_rfl) (fun w143 hE144 => c_61 n x47.Price w143 hx142 (GL.below (GL.below hG hb89) hE144)) rfl rfl rfl ?_
  obtain ⟨x145, hx146, hm⟩ := bindE hm
  refine QL.st (.string (bs x145)) (ST.cat hx146 rfl rfl rfl) rfl rfl rfl ?_
  obtain ⟨x147, hx148, hm⟩ := bindE hm
  refine QL.st (.string (bs x147)) (ST.cat hx148 rfl rfl rfl) rfl rfl rfl ?_
  refine QL.step1v 50 (.pointer (some ⟨b69, 4, none⟩)) rfl (fun _ => by kernel_rfl) ?_
  refine QL.subk [6, 49, 50] [(6, .slice a85 st84.1.length c86), (49, .string (bs x147)), (50, .pointer (some ⟨b69, 4, none⟩))] (by kernel_rfl) ?_
  refine QL.st (.int .i64 x47.Hours) (ST.load (cell_ext (SH.boxAt (SH.front 1 hS91) 4 _ rfl)) rfl rfl Tryz.underlying2 rfl) rfl rfl rfl ?_
  obtain ⟨x149, hx150, hm⟩ := bindE hm
  refine QL.call 61 #[.int .i64 x47.Hours] (.string (bs x149)) (fun _ => by kernel_rfl) (fun w151 hE152 => c_61 n x47.Hours w151 hx150 (GL.below (GL.below hG hb89) hE152)) rfl rfl rfl ?_
  obtain ⟨x153, hx154, hm⟩ := bindE hm
  refine QL.st (.string (bs x153)) (ST.cat hx154 rfl rfl rfl) rfl rfl rfl ?_
  refine QL.step1v 9 (.string (bs x153)) rfl (fun _ => by kernel_rfl) ?_
  refine QL.subk [6, 9] [(6, .slice a85 st84.1.length c86), (9, .string (bs x153))] (by kernel_rfl) ?_
  refine QL.nil ?_
  intro w155 hE156
  have hb157 : Ext w w155 := Ext.trans hb89 hE156
  have hL158 : w.heap.size ≤ w155.heap.size := Nat.le_trans hL90 hE156.size
  have hS159 : SH w155 w.heap.size [aOwn fStr 9 a85 c86 st84.1, aBox 48 b69 [.string (bs x47.Name), .slice a49 x47.Mends.length c50, .slice a54 x47.First.length c55, .int .i64 x47.Price, .int .i64 x47.Hours]] := SH.ext hS91 hE156
  refine WQ.then_normal (hK138 _ _ _ ?_)
  refine WP.seq (fun K160 hK160 => ?_)
  refine WP.seq (fun K161 hK161 => ?_)
  refine WP.region ?_
  refine WL.runk 3 [6, 9, 56] [(6, .slice a85 st84.1.length c86), (9, .string (bs x153)), (56, .bool (decide ((st84.1.length : Int) > 0)))] (by kernel_rfl) ?_
  refine WL.nil ?_
  refine WQ.then_normal (hK161 _ _ _ ?_)
  obtain ⟨x175, hx176, hm⟩ := bindE hm
  refine WP.cut (fun env' w' => env' = [(9, .string (bs x175))] ∧ Ext w w' ∧ w.heap.size ≤ w'.heap.size ∧ SH w' w.heap.size [aBox 48 b69 [.string (bs x47.Name), .slice a49 x47.Mends.length c50, .slice a54 x47.First.length c55, .int .i64 x47.Price, .int .i64 x47.Hours]]) ?_ ?_
  rotate_left
  · clear hx176
    rintro _ w189 ⟨rfl, hb190, hL191, hS192⟩
    refine WQ.then_normal (hK160 _ _ _ ?_)
    refine WP.seq (fun K193 hK193 => ?_)
    refine WP.region ?_
    refine WL.runk 2 [4] [(4, .string (bs x175))] (by kernel_rfl) ?_
    refine WL.nil ?_
    refine WQ.then_normal (hK193 _ _ _ ?_)
    refine WP.ret ?_
    obtain rfl := Option.some.inj hm
    exact WQ.ret1 _ rfl rfl ⟨rfl, hb190⟩
  have hm := hx176; clear hx176
  refine WP.cond (decide ((st84.1.length : Int) > 0)) rfl rfl (fun hc162 => ?_) (fun hc162 => ?_)
  rotate_left
  · have hm := iteF hm hc162
    refine WP.skip ?_
    obtain rfl := Option.some.inj hm
    exact WQ.post' ⟨rfl, hb157, hL158, (SH.take 1 (SH.front 1 hS159))⟩ ⟨rfl, trivial⟩
  have hm := iteT hm hc162
  refine WP.region ?_
  refine WL.runk 2 [57, 58] [(57, .string (bs x153)), (58, .slice a85 st84.1.length c86)] (by kernel_rfl) ?_
  obtain ⟨x177, hx178, hm⟩ := bindE hm
  refine WL.call 62 #[.slice a85 st84.1.length c86, .string (bs [44])] rfl rfl (by kernel_rfl) (c_62 n st84.1 a85 c86 [44] w155 hx178 (SH.rd (SH.front 0 hS159)) (SH.le (SH.front 0 hS159)).1) ?_
  rintro _ w179 ⟨rfl, hE180⟩
  refine ⟨_, rfl, ?_⟩
  have hb182 : Ext w w179 := Ext.trans hb157 hE180
  have hL183 : w.heap.size ≤ w179.heap.size := Nat.le_trans hL158 hE180.size
  have hS184 : SH w179 w.heap.size [aOwn fStr 9 a85 c86 st84.1, aBox 48 b69 [.string (bs x47.Name), .slice a49 x47.Mends.length c50, .slice a54 x47.First.length c55, .int .i64 x47.Price, .int .i64 x47.Hours]] := SH.ext hS159 hE180
  obtain ⟨x185, hx186, hm⟩ := bindE hm
  refine WL.st (.string (bs x185)) (ST.cat hx186 rfl rfl rfl) rfl rfl rfl ?_
  obtain ⟨x187, hx188, hm⟩ := bindE hm
  refine WL.st (.string (bs x187)) (ST.cat hx188 rfl rfl rfl) rfl rfl rfl ?_
  refine WL.runk 1 [9] [(9, .string (bs x187))] (by kernel_rfl) ?_
  refine WL.nil ?_
  obtain rfl := Option.some.inj hm
  exact WQ.post' ⟨rfl, hb182, hL183, (SH.take 1 (SH.front 1 hS184))⟩ ⟨rfl, trivial⟩

theorem c_63 (n : Nat) (n_0 : Int) (w : World) {r : List UInt8} (hm : m_spec_l01Dec n n_0 = some r)  :
    CallV Tryz.prog 63 #[.int .i64 n_0] w (fun v w' => v = .string (bs r) ∧ Ext w w') := by
  unfold m_spec_l01Dec at hm
  refine CallV.enter Tryz.func63 rfl (by kernel_rfl) Tryz.ntmps63 (env := [(0, .int .i64 n_0)]) ⟨rfl, trivial⟩ ?_
  refine WP.seq (fun K1 hK1 => ?_)
  refine WP.region ?_
  refine WL.runk 1 [0] [(0, .int .i64 n_0)] (by kernel_rfl) ?_
  refine WL.nil ?_
  refine WQ.then_normal (hK1 _ _ _ ?_)
  refine WP.seq (fun K2 hK2 => ?_)
  refine WP.region ?_
  refine WL.row fU8 5 ([] : List Int) 0 #[] 6 (by kernel_rfl) rfl rfl rfl rfl rfl rfl rfl ?_
  intro a3 c4 w5 hE6 hR7
  have hb9 : Ext w w5 := Ext.trans (Ext.refl w) hE6
  have hL10 : w.heap.size ≤ w5.heap.size := Nat.le_trans (Nat.le_refl _) hE6.size
  have hS11 : SH w5 w.heap.size [aOwn fU8 5 a3 c4 ([] : List Int)] := SH.add (SH.nil _ _) hE6 (Nat.le_refl _) hR7
  refine WL.runk 1 [0, 3] [(0, .int .i64 n_0), (3, .slice a3 (([] : List Int).length) c4)] (by kernel_rfl) ?_
  refine WL.nil ?_
  refine WQ.then_normal (hK2 _ _ _ ?_)
  refine WP.seq (fun K12 hK12 => ?_)
  refine WP.seq (fun K13 hK13 => ?_)
  refine WP.region ?_
  refine WL.runk 2 [0, 3, 4] [(0, .int .i64 n_0), (3, .slice a3 (([] : List Int).length) c4), (4, .int .i64 n_0)] (by kernel_rfl) ?_
  refine WL.nil ?_
  refine WQ.then_normal (hK13 _ _ _ ?_)
  refine WP.block ?_
  obtain ⟨t28, ht29, hm⟩ := bindE hm
  have hmo23 := hm; clear hm
  refine WP.sub [(0, .int .i64 n_0), (3, .slice a3 (([] : List Int).length) c4), (4, .int .i64 n_0)] ⟨rfl, rfl, rfl, trivial⟩ ?_
  refine WP.loop (fun n' env' w' => ∃ (st14 : List Int × Int) (a15 : Option Addr) (c16 : Nat), env' = [(0, .int .i64 n_0), (3, .slice a15 st14.1.length c16), (4, .int .i64 st14.2)] ∧ Ext w w' ∧ w.heap.size ≤ w'.heap.size ∧ SH w' w.heap.size [aOwn fU8 5 a15 c16 st14.1] ∧ loopN (m_spec_l01Dec_l1 n) n' st14 = some t28) n ⟨(([] : List Int), n_0), _, _, rfl, hb9, hL10, hS11, ht29⟩ ?_
  rintro n25 _ w18 ⟨st14, a15, c16, rfl, hb19, hL20, hS21, hl22⟩ K24 hK24
  obtain ⟨n26, s27, rfl, hm, hl22⟩ := loopN_some hl22
  unfold m_spec_l01Dec_l1 at hm
  refine WP.seq (fun K30 hK30 => ?_)
  refine WP.seq (fun K31 hK31 => ?_)
  refine WP.region ?_
  refine WL.runk 2 [0, 3, 4, 9] [(0, .int .i64 n_0), (3, .slice a15 st14.1.length c16), (4, .int .i64 st14.2), (9, .bool (st14.2 != 0))] (by kernel_rfl) ?_
  refine WL.nil ?_
  refine WQ.then_normal (hK31 _ _ _ ?_)
  refine WP.cond (st14.2 != 0) rfl rfl (fun hc32 => ?_) (fun hc32 => ?_)
  · have hm := iteT hm hc32
    refine WP.skip ?_
    refine WQ.then_normal (hK30 _ _ _ ?_)
    refine WP.seq (fun K33 hK33 => ?_)
    refine WP.block ?_
    refine WP.seq (fun K34 hK34 => ?_)
    refine WP.region ?_
    refine WL.runk 3 [0, 3, 4, 5] [(0, .int .i64 n_0), (3, .slice a15 st14.1.length c16), (4, .int .i64 st14.2), (5, .int .i64 (Int.tmod st14.2 10))] (by kernel_rfl) ?_
    refine WL.nil ?_
    refine WQ.then_normal (hK34 _ _ _ ?_)
    refine WP.seq (fun K35 hK35 => ?_)
    refine WP.seq (fun K36 hK36 => ?_)
    refine WP.region ?_
    refine WL.runk 2 [0, 3, 4, 5, 15] [(0, .int .i64 n_0), (3, .slice a15 st14.1.length c16), (4, .int .i64 st14.2), (5, .int .i64 (Int.tmod st14.2 10)), (15, .bool (decide ((Int.tmod st14.2 10) < 0)))] (by kernel_rfl) ?_
    refine WL.nil ?_
    refine WQ.then_normal (hK36 _ _ _ ?_)
    obtain ⟨x38, hx39, hm⟩ := bindE hm
    refine WP.cut (fun env' w' => env' = [(0, .int .i64 n_0), (3, .slice a15 st14.1.length c16), (4, .int .i64 st14.2), (5, .int .i64 x38)] ∧ Ext w w' ∧ w.heap.size ≤ w'.heap.size ∧ SH w' w.heap.size [aOwn fU8 5 a15 c16 st14.1]) ?_ ?_
    · have hm := hx39; clear hx39
      refine WP.cond (decide ((Int.tmod st14.2 10) < 0)) rfl rfl (fun hc37 => ?_) (fun hc37 => ?_)
      rotate_left
      · have hm := iteF hm hc37
        refine WP.skip ?_
        obtain rfl := Option.some.inj hm
        exact WQ.post' ⟨rfl, hb19, hL20, hS21⟩ ⟨rfl, rfl, rfl, rfl, trivial⟩
      have hm := iteT hm hc37
      refine WP.region ?_
      refine WL.runk 3 [0, 3, 4, 5] [(0, .int .i64 n_0), (3, .slice a15 st14.1.length c16), (4, .int .i64 st14.2), (5, .int .i64 (wI64 (0 - (Int.tmod st14.2 10))))] (by kernel_rfl) ?_
      refine WL.nil ?_
      obtain rfl := Option.some.inj hm
      exact WQ.post' ⟨rfl, hb19, hL20, hS21⟩ ⟨rfl, rfl, rfl, rfl, trivial⟩
    clear hx39
    rintro _ w40 ⟨rfl, hb41, hL42, hS43⟩
    refine WQ.then_normal (hK35 _ _ _ ?_)
    refine WP.region ?_
    refine WL.runk 3 [0, 3, 4, 20] [(0, .int .i64 n_0), (3, .slice a15 st14.1.length c16), (4, .int .i64 st14.2), (20, .int .u8 (IntKind.u8.wrap (wI64 (48 + x38))))] (by kernel_rfl) ?_
    refine WL.row fU8 5 ([(IntKind.u8.wrap (wI64 (48 + x38)))] : List Int) 1 #[.int .u8 (IntKind.u8.wrap (wI64 (48 + x38)))] 21 (by kernel_rfl) rfl rfl rfl rfl rfl rfl rfl ?_
    intro a44 c45 w46 hE47 hR48
    have hb50 : Ext w w46 := Ext.trans hb41 hE47
    have hL51 : w.heap.size ≤ w46.heap.size := Nat.le_trans hL42 hE47.size
    have hS52 : SH w46 w.heap.size [aOwn fU8 5 a44 c45 ([(IntKind.u8.wrap (wI64 (48 + x38)))] : List Int), aOwn fU8 5 a15 c16 st14.1] := SH.add hS43 hE47 hL42 hR48
    refine WL.runk 1 [0, 4, 21, 22] [(0, .int .i64 n_0), (4, .int .i64 st14.2), (21, .slice a44 (([(IntKind.u8.wrap (wI64 (48 + x38)))] : List Int).length) c45), (22, .slice a15 st14.1.length c16)] (by kernel_rfl) ?_
    obtain ⟨x53, hx54, hm⟩ := bindE hm
    refine WL.append (F := fU8) (xs := ([(IntKind.u8.wrap (wI64 (48 + x38)))] : List Int)) (ys := st14.1) 23 (SH.front 0 hS52) hL51 (SH.rd (SH.front 1 hS52)) hx54 rfl rfl rfl Tryz.underlying22 (info5).1 (info5).2.2.1 (info5).2.1 (info5).2.2.2 rfl rfl rfl rfl rfl ?_
    intro a55 c56 w57 hB58 hS59
    have hb60 : Ext w w57 := Below.trans hb50 hB58
    have hL61 : w.heap.size ≤ w57.heap.size := Nat.le_trans hL51 hB58.size
    refine WL.runk 1 [0, 3, 4] [(0, .int .i64 n_0), (4, .int .i64 st14.2), (3, .slice a55 x53.length c56)] (by kernel_rfl) ?_
    refine WL.nil ?_
    refine WQ.block_normal ?_
    refine WQ.then_normal (hK33 _ _ _ ?_)
    refine WP.region ?_
    refine WL.runk 3 [0, 3, 4] [(0, .int .i64 n_0), (4, .int .i64 (wI64 (Int.tdiv st14.2 10))), (3, .slice a55 x53.length c56)] (by kernel_rfl) ?_
    refine WL.nil ?_
    obtain rfl := Option.some.inj hm
    exact WQ.round hK24 ⟨(x53, (wI64 (Int.tdiv st14.2 10))), _, _, rfl, hb60, hL61, (SH.take 1 hS59), hl22⟩ (Nat.lt_succ_self _) ⟨rfl, rfl, rfl, trivial⟩
  have hm := iteF hm hc32
  refine WP.exit ?_
  refine WQ.then_exit ?_
  refine WQ.then_exit ?_
  refine WQ.block_here ?_
  obtain rfl := Option.some.inj hm
  obtain rfl := afterN_done hl22
  have hm := hmo23
  refine WQ.then_normal (hK12 _ _ _ ?_)
  refine WP.seq (fun K62 hK62 => ?_)
  refine WP.seq (fun K63 hK63 => ?_)
  refine WP.region ?_
  refine WL.runk 3 [0, 3, 26] [(0, .int .i64 n_0), (3, .slice a15 st14.1.length c16), (26, .bool ((st14.1.length : Int) == 0))] (by kernel_rfl) ?_
  refine WL.nil ?_
  refine WQ.then_normal (hK63 _ _ _ ?_)
  refine WP.cond ((st14.1.length : Int) == 0) rfl rfl (fun hc64 => ?_) (fun hc64 => ?_)
  · have hm := iteT hm hc64
    refine WP.seq (fun K65 hK65 => ?_)
    refine WP.region ?_
    refine WL.runk 1 [2] [(2, .string (bs [48]))] (by kernel_rfl) ?_
    refine WL.nil ?_
    refine WQ.then_normal (hK65 _ _ _ ?_)
    refine WP.ret ?_
    refine WQ.then_ret ?_
    obtain rfl := Option.some.inj hm
    exact WQ.ret1 _ rfl rfl ⟨rfl, hb19⟩
  have hm := iteF hm hc64
  refine WP.skip ?_
  refine WQ.then_normal (hK62 _ _ _ ?_)
  refine WP.seq (fun K66 hK66 => ?_)
  refine WP.seq (fun K67 hK67 => ?_)
  refine WP.region ?_
  refine WL.runk 2 [3, 28] [(3, .slice a15 st14.1.length c16), (28, .bool (decide (n_0 < 0)))] (by kernel_rfl) ?_
  refine WL.nil ?_
  refine WQ.then_normal (hK67 _ _ _ ?_)
  refine WP.cond (decide (n_0 < 0)) rfl rfl (fun hc68 => ?_) (fun hc68 => ?_)
  rotate_left
  · have hm := iteF hm hc68
    refine WP.skip ?_
    refine WQ.then_normal (hK66 _ _ _ ?_)
    refine WP.seq (fun K72 hK72 => ?_)
    refine WP.region ?_
    refine WL.runk 1 [32] [(32, .slice a15 st14.1.length c16)] (by kernel_rfl) ?_
    refine WL.st (.string (bs (ofBytes st14.1))) (ST.b2s (SH.rd (SH.front 0 hS21)) (SH.le (SH.front 0 hS21)).2 rfl rfl Tryz.underlying22 Tryz.underlying9 Tryz.underlying5) rfl rfl rfl ?_
    refine WL.runk 1 [2] [(2, .string (bs (ofBytes st14.1)))] (by kernel_rfl) ?_
    refine WL.nil ?_
    refine WQ.then_normal (hK72 _ _ _ ?_)
    refine WP.ret ?_
    obtain rfl := Option.some.inj hm
    exact WQ.ret1 _ rfl rfl ⟨rfl, hb19⟩
  have hm := iteT hm hc68
  refine WP.seq (fun K69 hK69 => ?_)
  refine WP.region ?_
  refine WL.runk 1 [29] [(29, .slice a15 st14.1.length c16)] (by kernel_rfl) ?_
  refine WL.st (.string (bs (ofBytes st14.1))) (ST.b2s (SH.rd (SH.front 0 hS21)) (SH.le (SH.front 0 hS21)).2 rfl rfl Tryz.underlying22 Tryz.underlying9 Tryz.underlying5) rfl rfl rfl ?_
  obtain ⟨x70, hx71, hm⟩ := bindE hm
  refine WL.st (.string (bs x70)) (ST.cat hx71 rfl rfl rfl) rfl rfl rfl ?_
  refine WL.runk 1 [2] [(2, .string (bs x70))] (by kernel_rfl) ?_
  refine WL.nil ?_
  refine WQ.then_normal (hK69 _ _ _ ?_)
  refine WP.ret ?_
  refine WQ.then_ret ?_
  obtain rfl := Option.some.inj hm
  exact WQ.ret1 _ rfl rfl ⟨rfl, hb19⟩

theorem c_24 (n : Nat) (list_0 : List SRepair) (a0' : Option Addr) (c0' : Nat) (k_1 : Int) (w : World) {r : List UInt8} (hm : m_spec_RepairText n list_0 k_1 = some r) (h0 : Rd fRepair.ty w a0' list_0) (hle0 : list_0.length ≤ c0') :
    CallV Tryz.prog 24 #[.slice a0' list_0.length c0', .int .i64 k_1] w (fun v w' => v = .string (bs r) ∧ Ext w w') := by
  unfold m_spec_RepairText at hm
  refine CallV.enter Tryz.func24 rfl (by kernel_rfl) Tryz.ntmps24 (env := [(0, .slice a0' list_0.length c0'), (1, .int .i64 k_1)]) ⟨rfl, rfl, trivial⟩ ?_
  refine WP.seq (fun K1 hK1 => ?_)
  refine WP.region ?_
  refine WL.runk 1 [0, 1] [(0, .slice a0' list_0.length c0'), (1, .int .i64 k_1)] (by kernel_rfl) ?_
  refine WL.nil ?_
  refine WQ.then_normal (hK1 _ _ _ ?_)
  refine WP.seq (fun K2 hK2 => ?_)
  refine WP.seq (fun K3 hK3 => ?_)
  obtain ⟨x21, hx22, hm⟩ := bindE hm
  refine WP.cut (fun env' w' => env' = [(0, .slice a0' list_0.length c0'), (1, .int .i64 k_1), (18, .bool x21)] ∧ Ext w w' ∧ w.heap.size ≤ w'.heap.size ∧ SH w' w.heap.size []) ?_ ?_
  · have hm := hx22; clear hx22
    refine WP.region ?_
    refine WL.runk 1 [0, 1, 8] [(0, .slice a0' list_0.length c0'), (1, .int .i64 k_1), (8, .slice a0' list_0.length c0')] (by kernel_rfl) ?_
    obtain ⟨x23, hx24, hm⟩ := bindE hm
    refine WL.call 52 #[.slice a0' list_0.length c0'] rfl rfl (by kernel_rfl) (c_52 n list_0 a0' c0' w hx24 (Rd.below h0 (Ext.refl w)) hle0) ?_
    rintro _ w25 ⟨rfl, hE26⟩
    refine ⟨_, rfl, ?_⟩
    have hb28 : Ext w w25 := Ext.trans (Ext.refl w) hE26
    have hL29 : w.heap.size ≤ w25.heap.size := Nat.le_trans (Nat.le_refl _) hE26.size
    have hS30 : SH w25 w.heap.size [] := SH.ext (SH.nil _ _) hE26
    refine WL.runk 2 [0, 1, 11] [(0, .slice a0' list_0.length c0'), (1, .int .i64 k_1), (11, .bool (!x23))] (by kernel_rfl) ?_
    refine WL.case (!x23) [11] ⟨rfl, trivial⟩ (fun hc31 => ?_) (fun hc31 => ?_)
    · have hm := iteT hm hc31
      refine WL.runk 7 [0, 1, 18] [(0, .slice a0' list_0.length c0'), (1, .int .i64 k_1), (18, .bool true)] (by kernel_rfl) ?_
      refine WL.nil ?_
      obtain rfl := Option.some.inj hm
      exact WQ.post' ⟨rfl, hb28, hL29, hS30⟩ ⟨rfl, rfl, rfl, trivial⟩
    have hm := iteF hm hc31
    refine WL.runk 4 [0, 1, 11, 12, 15] [(0, .slice a0' list_0.length c0'), (1, .int .i64 k_1), (11, .bool false), (12, .int .i64 k_1), (15, .int .i64 (wI64 ((list_0.length : Int) - 1)))] (by kernel_rfl) ?_
    obtain ⟨x32, hx33, hm⟩ := bindE hm
    refine WL.call 53 #[.int .i64 k_1, .int .i64 0, .int .i64 (wI64 ((list_0.length : Int) - 1))] rfl rfl (by kernel_rfl) (c_53 n k_1 0 (wI64 ((list_0.length : Int) - 1)) w25 hx33 ) ?_
    rintro _ w34 ⟨rfl, hE35⟩
    refine ⟨_, rfl, ?_⟩
    have hb37 : Ext w w34 := Ext.trans hb28 hE35
    have hL38 : w.heap.size ≤ w34.heap.size := Nat.le_trans hL29 hE35.size
    have hS39 : SH w34 w.heap.size [] := SH.ext hS30 hE35
    refine WL.runk 2 [0, 1, 18] [(0, .slice a0' list_0.length c0'), (1, .int .i64 k_1), (18, .bool (!x32))] (by kernel_rfl) ?_
    refine WL.nil ?_
    obtain rfl := Option.some.inj hm
    exact WQ.post' ⟨rfl, hb37, hL38, hS39⟩ ⟨rfl, rfl, rfl, trivial⟩
  clear hx22
  rintro _ w40 ⟨rfl, hb41, hL42, hS43⟩
  refine WQ.then_normal (hK3 _ _ _ ?_)
  refine WP.cond x21 rfl rfl (fun hc44 => ?_) (fun hc44 => ?_)
  · have hm := iteT hm hc44
    refine WP.seq (fun K45 hK45 => ?_)
    refine WP.region ?_
    refine WL.runk 1 [4] [(4, .string (bs []))] (by kernel_rfl) ?_
    refine WL.nil ?_
    refine WQ.then_normal (hK45 _ _ _ ?_)
    refine WP.ret ?_
    refine WQ.then_ret ?_
    obtain rfl := Option.some.inj hm
    exact WQ.ret1 _ rfl rfl ⟨rfl, hb41⟩
  have hm := iteF hm hc44
  refine WP.skip ?_
  refine WQ.then_normal (hK2 _ _ _ ?_)
  refine WP.seq (fun K46 hK46 => ?_)
  refine WP.region ?_
  refine WL.runk 2 [0, 19, 20] [(0, .slice a0' list_0.length c0'), (19, .slice a0' list_0.length c0'), (20, .int .i64 k_1)] (by kernel_rfl) ?_
  obtain ⟨x47, hx48, hm⟩ := bindE hm
  obtain ⟨a49, c50, a54, c55, hc59, hR51, hle52, hR56, hle57⟩ := nest_Repair h0 hx48
  refine WL.st (.pointer (some (at_ a0' (Int.toNat k_1 * 5)))) (ST.index (T := fRepair.ty) (xs := list_0) (Rd.below h0 hb41) hx48 rfl rfl rfl Tryz.underlying24 (info48).1 (info48).2.1) rfl rfl rfl ?_
  refine WL.runk 1 [0, 5] [(0, .slice a0' list_0.length c0'), (5, .pointer (some (at_ a0' (Int.toNat k_1 * 5))))] (by kernel_rfl) ?_
  refine WL.nil ?_
  refine WQ.then_normal (hK46 _ _ _ ?_)
  refine WP.seq (fun K60 hK60 => ?_)
  refine WP.quiet (by kernel_rfl) (by kernel_rfl) ?_
  refine QL.step1v 22 (.pointer (some (at_ a0' (Int.toNat k_1 * 5)))) rfl (fun _ => by kernel_rfl) ?_
  refine QL.step1v 23 (.pointer (some (at_ a0' (Int.toNat k_1 * 5)))) rfl (fun _ => by kernel_rfl) ?_
  refine QL.step1v 24 (.pointer (some (at_ a0' (Int.toNat k_1 * 5)))) rfl (fun _ => by kernel_rfl) ?_
  refine QL.subk [0, 5, 24] [(0, .slice a0' list_0.length c0'), (5, .pointer (some (at_ a0' (Int.toNat k_1 * 5)))), (24, .pointer (some (at_ a0' (Int.toNat k_1 * 5))))] (by kernel_rfl) ?_
  refine QL.st (.string (bs x47.Name)) (ST.load (cell_ext ((cells_ext hc59 hb41) 0 _ rfl)) rfl rfl Tryz.underlying9 rfl) rfl rfl rfl ?_
  obtain ⟨x61, hx62, hm⟩ := bindE hm
  refine QL.st (.string (bs x61)) (ST.cat hx62 rfl rfl rfl) rfl rfl rfl ?_
  refine QL.step1v 27 (.pointer (some (at_ a0' (Int.toNat k_1 * 5)))) rfl (fun _ => by kernel_rfl) ?_
  refine QL.step1v 28 (.pointer (some (at_ a0' (Int.toNat k_1 * 5)))) rfl (fun _ => by kernel_rfl) ?_
  refine QL.step1v 29 (.pointer (some (at_ a0' (Int.toNat k_1 * 5 + 3)))) rfl (fun _ => by kernel_rfl) ?_
  refine QL.subk [0, 5, 26, 29] [(0, .slice a0' list_0.length c0'), (5, .pointer (some (at_ a0' (Int.toNat k_1 * 5)))), (26, .string (bs x61)), (29, .pointer (some (at_ a0' (Int.toNat k_1 * 5 + 3))))] (by kernel_rfl) ?_
  refine QL.st (.int .i64 x47.Price) (ST.load (cell_ext ((cells_ext hc59 hb41) 3 _ rfl)) rfl rfl Tryz.underlying2 rfl) rfl rfl rfl ?_
  obtain ⟨x63, hx64, hm⟩ := bindE hm
  refine QL.call 63 #[.int .i64 x47.Price] (.string (bs x63)) (fun _ => by kernel_rfl) (fun w65 hE66 => c_63 n x47.Price w65 hx64 ) rfl rfl rfl ?_
  obtain ⟨x67, hx68, hm⟩ := bindE hm
  refine QL.st (.string (bs x67)) (ST.cat hx68 rfl rfl rfl) rfl rfl rfl ?_
  obtain ⟨x69, hx70, hm⟩ := bindE hm
  refine QL.st (.string (bs x69)) (ST.cat hx70 rfl rfl rfl) rfl rfl rfl ?_
  refine QL.step1v 34 (.pointer (some (at_ a0' (Int.toNat k_1 * 5)))) rfl (fun _ => by kernel_rfl) ?_
  refine QL.step1v 35 (.pointer (some (at_ a0' (Int.toNat k_1 * 5)))) rfl (fun _ => by kernel_rfl) ?_
  refine QL.step1v 36 (.pointer (some (at_ a0' (Int.toNat k_1 * 5 + 4)))) rfl (fun _ => by kernel_rfl) ?_
  refine QL.subk [0, 5, 33, 36] [(0, .slice a0' list_0.length c0'), (5, .pointer (some (at_ a0' (Int.toNat k_1 * 5)))), (33, .string (bs x69)), (36, .pointer (some (at_ a0' (Int.toNat k_1 * 5 + 4))))] (by kernel_rfl) ?_
  refine QL.st (.int .i64 x47.Hours) (ST.load (cell_ext ((cells_ext hc59 hb41) 4 _ rfl)) rfl rfl Tryz.underlying2 rfl) rfl rfl rfl ?_
  obtain ⟨x71, hx72, hm⟩ := bindE hm
  refine QL.call 63 #[.int .i64 x47.Hours] (.string (bs x71)) (fun _ => by kernel_rfl) (fun w73 hE74 => c_63 n x47.Hours w73 hx72 ) rfl rfl rfl ?_
  obtain ⟨x75, hx76, hm⟩ := bindE hm
  refine QL.st (.string (bs x75)) (ST.cat hx76 rfl rfl rfl) rfl rfl rfl ?_
  refine QL.step1v 6 (.string (bs x75)) rfl (fun _ => by kernel_rfl) ?_
  refine QL.subk [0, 5, 6] [(0, .slice a0' list_0.length c0'), (5, .pointer (some (at_ a0' (Int.toNat k_1 * 5)))), (6, .string (bs x75))] (by kernel_rfl) ?_
  refine QL.nil ?_
  intro w77 hE78
  have hb79 : Ext w w77 := Ext.trans hb41 hE78
  have hL80 : w.heap.size ≤ w77.heap.size := Nat.le_trans hL42 hE78.size
  have hS81 : SH w77 w.heap.size [] := SH.ext hS43 hE78
  refine WQ.then_normal (hK60 _ _ _ ?_)
  refine WP.seq (fun K82 hK82 => ?_)
  refine WP.seq (fun K83 hK83 => ?_)
  refine WP.region ?_
  refine WL.runk 1 [0, 5, 6, 7] [(0, .slice a0' list_0.length c0'), (5, .pointer (some (at_ a0' (Int.toNat k_1 * 5)))), (6, .string (bs x75)), (7, .int .i64 0)] (by kernel_rfl) ?_
  refine WL.nil ?_
  refine WQ.then_normal (hK83 _ _ _ ?_)
  refine WP.block ?_
  obtain ⟨t95, ht96, hm⟩ := bindE hm
  have hmo90 := hm; clear hm
  refine WP.sub [(0, .slice a0' list_0.length c0'), (5, .pointer (some (at_ a0' (Int.toNat k_1 * 5)))), (6, .string (bs x75)), (7, .int .i64 0)] ⟨rfl, rfl, rfl, rfl, trivial⟩ ?_
  refine WP.loop (fun n' env' w' => ∃ (st84 : List UInt8 × Int) , env' = [(0, .slice a0' list_0.length c0'), (5, .pointer (some (at_ a0' (Int.toNat k_1 * 5)))), (6, .string (bs st84.1)), (7, .int .i64 st84.2)] ∧ Ext w w' ∧ w.heap.size ≤ w'.heap.size ∧ SH w' w.heap.size [] ∧ loopN (m_spec_RepairText_l1 n list_0 x47) n' st84 = some t95) n ⟨(x75, 0), rfl, hb79, hL80, hS81, ht96⟩ ?_
  rintro n92 _ w85 ⟨st84, rfl, hb86, hL87, hS88, hl89⟩ K91 hK91
  obtain ⟨n93, s94, rfl, hm, hl89⟩ := loopN_some hl89
  unfold m_spec_RepairText_l1 at hm
  refine WP.seq (fun K97 hK97 => ?_)
  refine WP.seq (fun K98 hK98 => ?_)
  refine WP.region ?_
  refine WL.runk 4 [0, 5, 6, 7, 40, 43] [(0, .slice a0' list_0.length c0'), (5, .pointer (some (at_ a0' (Int.toNat k_1 * 5)))), (6, .string (bs st84.1)), (7, .int .i64 st84.2), (40, .int .i64 st84.2), (43, .pointer (some (at_ a0' (Int.toNat k_1 * 5 + 2))))] (by kernel_rfl) ?_
  refine WL.st (.slice a54 x47.First.length c55) (ST.load (cell_ext ((cells_ext hc59 hb86) 2 _ rfl)) rfl rfl Tryz.underlying25 rfl) rfl rfl rfl ?_
  refine WL.runk 2 [0, 5, 6, 7, 46] [(0, .slice a0' list_0.length c0'), (5, .pointer (some (at_ a0' (Int.toNat k_1 * 5)))), (6, .string (bs st84.1)), (7, .int .i64 st84.2), (46, .bool (decide (st84.2 < (x47.First.length : Int))))] (by kernel_rfl) ?_
  refine WL.nil ?_
  refine WQ.then_normal (hK98 _ _ _ ?_)
  refine WP.cond (decide (st84.2 < (x47.First.length : Int))) rfl rfl (fun hc99 => ?_) (fun hc99 => ?_)
  rotate_left
  · have hm := iteF hm hc99
    refine WP.exit ?_
    refine WQ.then_exit ?_
    refine WQ.then_exit ?_
    refine WQ.block_here ?_
    obtain rfl := Option.some.inj hm
    obtain rfl := afterN_done hl89
    have hm := hmo90
    refine WQ.then_normal (hK82 _ _ _ ?_)
    refine WP.seq (fun K135 hK135 => ?_)
    refine WP.region ?_
    refine WL.runk 2 [4] [(4, .string (bs st84.1))] (by kernel_rfl) ?_
    refine WL.nil ?_
    refine WQ.then_normal (hK135 _ _ _ ?_)
    refine WP.ret ?_
    obtain rfl := Option.some.inj hm
    exact WQ.ret1 _ rfl rfl ⟨rfl, hb86⟩
  have hm := iteT hm hc99
  refine WP.skip ?_
  refine WQ.then_normal (hK97 _ _ _ ?_)
  refine WP.seq (fun K100 hK100 => ?_)
  refine WP.block ?_
  refine WP.seq (fun K101 hK101 => ?_)
  refine WP.seq (fun K102 hK102 => ?_)
  refine WP.region ?_
  refine WL.runk 2 [0, 5, 6, 7, 50] [(0, .slice a0' list_0.length c0'), (5, .pointer (some (at_ a0' (Int.toNat k_1 * 5)))), (6, .string (bs st84.1)), (7, .int .i64 st84.2), (50, .bool (st84.2 == 0))] (by kernel_rfl) ?_
  refine WL.nil ?_
  refine WQ.then_normal (hK102 _ _ _ ?_)
  obtain ⟨x108, hx109, hm⟩ := bindE hm
  refine WP.cut (fun env' w' => env' = [(0, .slice a0' list_0.length c0'), (5, .pointer (some (at_ a0' (Int.toNat k_1 * 5)))), (6, .string (bs x108)), (7, .int .i64 st84.2)] ∧ Ext w w' ∧ w.heap.size ≤ w'.heap.size ∧ SH w' w.heap.size []) ?_ ?_
  · have hm := hx109; clear hx109
    refine WP.cond (st84.2 == 0) rfl rfl (fun hc103 => ?_) (fun hc103 => ?_)
    · have hm := iteT hm hc103
      refine WP.region ?_
      refine WL.runk 1 [0, 5, 7, 51] [(0, .slice a0' list_0.length c0'), (5, .pointer (some (at_ a0' (Int.toNat k_1 * 5)))), (7, .int .i64 st84.2), (51, .string (bs st84.1))] (by kernel_rfl) ?_
      obtain ⟨x110, hx111, hm⟩ := bindE hm
      refine WL.st (.string (bs x110)) (ST.cat hx111 rfl rfl rfl) rfl rfl rfl ?_
      refine WL.runk 1 [0, 5, 6, 7] [(0, .slice a0' list_0.length c0'), (5, .pointer (some (at_ a0' (Int.toNat k_1 * 5)))), (7, .int .i64 st84.2), (6, .string (bs x110))] (by kernel_rfl) ?_
      refine WL.nil ?_
      obtain rfl := Option.some.inj hm
      exact WQ.post' ⟨rfl, hb86, hL87, hS88⟩ ⟨rfl, rfl, rfl, rfl, trivial⟩
    have hm := iteF hm hc103
    refine WP.region ?_
    refine WL.runk 1 [0, 5, 7, 53] [(0, .slice a0' list_0.length c0'), (5, .pointer (some (at_ a0' (Int.toNat k_1 * 5)))), (7, .int .i64 st84.2), (53, .string (bs st84.1))] (by kernel_rfl) ?_
    obtain ⟨x112, hx113, hm⟩ := bindE hm
    refine WL.st (.string (bs x112)) (ST.cat hx113 rfl rfl rfl) rfl rfl rfl ?_
    refine WL.runk 1 [0, 5, 6, 7] [(0, .slice a0' list_0.length c0'), (5, .pointer (some (at_ a0' (Int.toNat k_1 * 5)))), (7, .int .i64 st84.2), (6, .string (bs x112))] (by kernel_rfl) ?_
    refine WL.nil ?_
    obtain rfl := Option.some.inj hm
    exact WQ.post' ⟨rfl, hb86, hL87, hS88⟩ ⟨rfl, rfl, rfl, rfl, trivial⟩
  clear hx109
  rintro _ w114 ⟨rfl, hb115, hL116, hS117⟩
  refine WQ.then_normal (hK101 _ _ _ ?_)
  refine WP.region ?_
  refine WL.runk 5 [0, 5, 7, 55, 56, 59] [(0, .slice a0' list_0.length c0'), (5, .pointer (some (at_ a0' (Int.toNat k_1 * 5)))), (7, .int .i64 st84.2), (55, .string (bs x108)), (56, .slice a0' list_0.length c0'), (59, .pointer (some (at_ a0' (Int.toNat k_1 * 5 + 2))))] (by kernel_rfl) ?_
  refine WL.st (.slice a54 x47.First.length c55) (ST.load (cell_ext ((cells_ext hc59 hb115) 2 _ rfl)) rfl rfl Tryz.underlying25 rfl) rfl rfl rfl ?_
  refine WL.runk 1 [0, 5, 7, 55, 56, 60, 61] [(0, .slice a0' list_0.length c0'), (5, .pointer (some (at_ a0' (Int.toNat k_1 * 5)))), (7, .int .i64 st84.2), (55, .string (bs x108)), (56, .slice a0' list_0.length c0'), (60, .slice a54 x47.First.length c55), (61, .int .i64 st84.2)] (by kernel_rfl) ?_
  obtain ⟨x118, hx119, hm⟩ := bindE hm
  refine WL.st (.pointer (some (at_ a54 (Int.toNat st84.2 * 1)))) (ST.index (T := fInt.ty) (xs := x47.First) (Rd.below hR56 hb115) hx119 rfl rfl rfl Tryz.underlying25 (info2).1 (info2).2.1) rfl rfl rfl ?_
  refine WL.st (.int .i64 x118) (ST.load (cell_ext (Rd.flat (F := fInt) (Rd.below hR56 hb115) hx119 0 rfl)) rfl rfl Tryz.underlying2 rfl) rfl rfl rfl ?_
  obtain ⟨x120, hx121, hm⟩ := bindE hm
  obtain ⟨a122, c123, a127, c128, hc132, hR124, hle125, hR129, hle130⟩ := nest_Repair h0 hx121
  refine WL.st (.pointer (some (at_ a0' (Int.toNat x118 * 5)))) (ST.index (T := fRepair.ty) (xs := list_0) (Rd.below h0 hb115) hx121 rfl rfl rfl Tryz.underlying24 (info48).1 (info48).2.1) rfl rfl rfl ?_
  refine WL.runk 1 [0, 5, 7, 55, 65] [(0, .slice a0' list_0.length c0'), (5, .pointer (some (at_ a0' (Int.toNat k_1 * 5)))), (7, .int .i64 st84.2), (55, .string (bs x108)), (65, .pointer (some (at_ a0' (Int.toNat x118 * 5))))] (by kernel_rfl) ?_
  refine WL.st (.string (bs x120.Name)) (ST.load (cell_ext ((cells_ext hc132 hb115) 0 _ rfl)) rfl rfl Tryz.underlying9 rfl) rfl rfl rfl ?_
  obtain ⟨x133, hx134, hm⟩ := bindE hm
  refine WL.st (.string (bs x133)) (ST.cat hx134 rfl rfl rfl) rfl rfl rfl ?_
  refine WL.runk 1 [0, 5, 6, 7] [(0, .slice a0' list_0.length c0'), (5, .pointer (some (at_ a0' (Int.toNat k_1 * 5)))), (7, .int .i64 st84.2), (6, .string (bs x133))] (by kernel_rfl) ?_
  refine WL.nil ?_
  refine WQ.block_normal ?_
  refine WQ.then_normal (hK100 _ _ _ ?_)
  refine WP.region ?_
  refine WL.runk 3 [0, 5, 6, 7] [(0, .slice a0' list_0.length c0'), (5, .pointer (some (at_ a0' (Int.toNat k_1 * 5)))), (7, .int .i64 (wI64 (st84.2 + 1))), (6, .string (bs x133))] (by kernel_rfl) ?_
  refine WL.nil ?_
  obtain rfl := Option.some.inj hm
  exact WQ.round hK91 ⟨(x133, (wI64 (st84.2 + 1))), rfl, hb115, hL116, hS117, hl89⟩ (Nat.lt_succ_self _) ⟨rfl, rfl, rfl, rfl, trivial⟩

theorem c_26 (n : Nat) (list_0 : List SRepair) (a0' : Option Addr) (c0' : Nat) (w : World) {r : Bool} (hm : m_spec_ValidRepairs n list_0 = some r) (h0 : Rd fRepair.ty w a0' list_0) (hle0 : list_0.length ≤ c0') :
    CallV Tryz.prog 26 #[.slice a0' list_0.length c0'] w (fun v w' => v = .bool r ∧ Ext w w') := by
  unfold m_spec_ValidRepairs at hm
  refine CallV.enter Tryz.func26 rfl (by kernel_rfl) Tryz.ntmps26 (env := [(0, .slice a0' list_0.length c0')]) ⟨rfl, trivial⟩ ?_
  refine WP.seq (fun K1 hK1 => ?_)
  refine WP.region ?_
  refine WL.runk 1 [0] [(0, .slice a0' list_0.length c0')] (by kernel_rfl) ?_
  refine WL.nil ?_
  refine WQ.then_normal (hK1 _ _ _ ?_)
  refine WP.seq (fun K2 hK2 => ?_)
  refine WP.region ?_
  refine WL.runk 1 [3] [(3, .slice a0' list_0.length c0')] (by kernel_rfl) ?_
  obtain ⟨x3, hx4, hm⟩ := bindE hm
  refine WL.call 52 #[.slice a0' list_0.length c0'] rfl rfl (by kernel_rfl) (c_52 n list_0 a0' c0' w hx4 (Rd.below h0 (Ext.refl w)) hle0) ?_
  rintro _ w5 ⟨rfl, hE6⟩
  refine ⟨_, rfl, ?_⟩
  have hb8 : Ext w w5 := Ext.trans (Ext.refl w) hE6
  have hL9 : w.heap.size ≤ w5.heap.size := Nat.le_trans (Nat.le_refl _) hE6.size
  have hS10 : SH w5 w.heap.size [] := SH.ext (SH.nil _ _) hE6
  refine WL.runk 1 [2] [(2, .bool x3)] (by kernel_rfl) ?_
  refine WL.nil ?_
  refine WQ.then_normal (hK2 _ _ _ ?_)
  refine WP.ret ?_
  obtain rfl := Option.some.inj hm
  exact WQ.ret1 _ rfl rfl ⟨rfl, hb8⟩

theorem c_27 (n : Nat) (list_0 : List Int) (a0' : Option Addr) (c0' : Nat) (n_1 : Int) (w : World) {r : Bool} (hm : m_laws_f6has n list_0 n_1 = some r) (h0 : Rd fInt.ty w a0' list_0) (_hle0 : list_0.length ≤ c0') :
    CallV Tryz.prog 27 #[.slice a0' list_0.length c0', .int .i64 n_1] w (fun v w' => v = .bool r ∧ Ext w w') := by
  unfold m_laws_f6has at hm
  refine CallV.enter Tryz.func27 rfl (by kernel_rfl) Tryz.ntmps27 (env := [(0, .slice a0' list_0.length c0'), (1, .int .i64 n_1)]) ⟨rfl, rfl, trivial⟩ ?_
  refine WP.seq (fun K1 hK1 => ?_)
  refine WP.region ?_
  refine WL.runk 1 [0, 1] [(0, .slice a0' list_0.length c0'), (1, .int .i64 n_1)] (by kernel_rfl) ?_
  refine WL.nil ?_
  refine WQ.then_normal (hK1 _ _ _ ?_)
  refine WP.seq (fun K2 hK2 => ?_)
  refine WP.seq (fun K3 hK3 => ?_)
  refine WP.region ?_
  refine WL.runk 1 [0, 1, 5] [(0, .slice a0' list_0.length c0'), (1, .int .i64 n_1), (5, .int .i64 0)] (by kernel_rfl) ?_
  refine WL.nil ?_
  refine WQ.then_normal (hK3 _ _ _ ?_)
  refine WP.block ?_
  obtain ⟨t15, ht16, hm⟩ := bindE hm
  have hmo10 := hm; clear hm
  refine WP.sub [(0, .slice a0' list_0.length c0'), (1, .int .i64 n_1), (5, .int .i64 0)] ⟨rfl, rfl, rfl, trivial⟩ ?_
  refine WP.loop (fun n' env' w' => ∃ (st4 : Int) , env' = [(0, .slice a0' list_0.length c0'), (1, .int .i64 n_1), (5, .int .i64 st4)] ∧ Ext w w' ∧ w.heap.size ≤ w'.heap.size ∧ SH w' w.heap.size [] ∧ loopN (m_laws_f6has_l1 n list_0 n_1) n' st4 = some t15) n ⟨0, rfl, (Ext.refl w), (Nat.le_refl _), (SH.nil _ _), ht16⟩ ?_
  rintro n12 _ w5 ⟨st4, rfl, hb6, hL7, hS8, hl9⟩ K11 hK11
  obtain ⟨n13, s14, rfl, hm, hl9⟩ := loopN_some hl9
  unfold m_laws_f6has_l1 at hm
  refine WP.seq (fun K17 hK17 => ?_)
  refine WP.seq (fun K18 hK18 => ?_)
  refine WP.region ?_
  refine WL.runk 4 [0, 1, 5, 9] [(0, .slice a0' list_0.length c0'), (1, .int .i64 n_1), (5, .int .i64 st4), (9, .bool (decide (st4 < (list_0.length : Int))))] (by kernel_rfl) ?_
  refine WL.nil ?_
  refine WQ.then_normal (hK18 _ _ _ ?_)
  refine WP.cond (decide (st4 < (list_0.length : Int))) rfl rfl (fun hc19 => ?_) (fun hc19 => ?_)
  rotate_left
  · have hm := iteF hm hc19
    refine WP.exit ?_
    refine WQ.then_exit ?_
    refine WQ.then_exit ?_
    refine WQ.block_here ?_
    obtain rfl := Option.some.inj hm
    obtain rfl := afterN_done hl9
    have hm := hmo10
    refine WQ.then_normal (hK2 _ _ _ ?_)
    refine WP.seq (fun K26 hK26 => ?_)
    refine WP.region ?_
    refine WL.runk 1 [4] [(4, .bool false)] (by kernel_rfl) ?_
    refine WL.nil ?_
    refine WQ.then_normal (hK26 _ _ _ ?_)
    refine WP.ret ?_
    obtain rfl := Option.some.inj hm
    exact WQ.ret1 _ rfl rfl ⟨rfl, hb6⟩
  have hm := iteT hm hc19
  refine WP.skip ?_
  refine WQ.then_normal (hK17 _ _ _ ?_)
  refine WP.seq (fun K20 hK20 => ?_)
  refine WP.block ?_
  refine WP.seq (fun K21 hK21 => ?_)
  refine WP.region ?_
  refine WL.runk 2 [0, 1, 5, 12, 13] [(0, .slice a0' list_0.length c0'), (1, .int .i64 n_1), (5, .int .i64 st4), (12, .slice a0' list_0.length c0'), (13, .int .i64 st4)] (by kernel_rfl) ?_
  obtain ⟨x22, hx23, hm⟩ := bindE hm
  refine WL.st (.pointer (some (at_ a0' (Int.toNat st4 * 1)))) (ST.index (T := fInt.ty) (xs := list_0) (Rd.below h0 hb6) hx23 rfl rfl rfl Tryz.underlying25 (info2).1 (info2).2.1) rfl rfl rfl ?_
  refine WL.st (.int .i64 x22) (ST.load (cell_ext (Rd.flat (F := fInt) (Rd.below h0 hb6) hx23 0 rfl)) rfl rfl Tryz.underlying2 rfl) rfl rfl rfl ?_
  refine WL.runk 2 [0, 1, 5, 17] [(0, .slice a0' list_0.length c0'), (1, .int .i64 n_1), (5, .int .i64 st4), (17, .bool (x22 == n_1))] (by kernel_rfl) ?_
  refine WL.nil ?_
  refine WQ.then_normal (hK21 _ _ _ ?_)
  refine WP.cond (x22 == n_1) rfl rfl (fun hc24 => ?_) (fun hc24 => ?_)
  rotate_left
  · have hm := iteF hm hc24
    refine WP.skip ?_
    refine WQ.block_normal ?_
    refine WQ.then_normal (hK20 _ _ _ ?_)
    refine WP.region ?_
    refine WL.runk 3 [0, 1, 5] [(0, .slice a0' list_0.length c0'), (1, .int .i64 n_1), (5, .int .i64 (wI64 (st4 + 1)))] (by kernel_rfl) ?_
    refine WL.nil ?_
    obtain rfl := Option.some.inj hm
    exact WQ.round hK11 ⟨(wI64 (st4 + 1)), rfl, hb6, hL7, hS8, hl9⟩ (Nat.lt_succ_self _) ⟨rfl, rfl, rfl, trivial⟩
  have hm := iteT hm hc24
  refine WP.seq (fun K25 hK25 => ?_)
  refine WP.region ?_
  refine WL.runk 1 [4] [(4, .bool true)] (by kernel_rfl) ?_
  refine WL.nil ?_
  refine WQ.then_normal (hK25 _ _ _ ?_)
  refine WP.ret ?_
  refine WQ.block_ret ?_
  refine WQ.then_ret ?_
  refine WQ.then_ret ?_
  refine WQ.block_ret ?_
  refine WQ.then_ret ?_
  obtain rfl := Option.some.inj hm
  obtain rfl := afterN_done hl9
  have hm := hmo10
  obtain rfl := Option.some.inj hm
  exact WQ.ret1 _ rfl rfl ⟨rfl, hb6⟩

theorem c_83 (n : Nat) (before_0 : Int) (cap_1 : List Int) (b1' o1' : Nat) (a1' : Option Addr) (c1' : Nat) (w : World) {r : Bool} (hm : m_impl_mendsAll_1 n before_0 cap_1 = some r) (h1 : RdB w b1' o1' [.slice a1' cap_1.length c1']) (hr1 : Rd fInt.ty w a1' cap_1) (hle1 : cap_1.length ≤ c1') :
    CallV Tryz.prog 83 #[.int .i64 before_0, .pointer (some ⟨b1', o1', none⟩)] w (fun v w' => v = .bool r ∧ Ext w w') := by
  unfold m_impl_mendsAll_1 at hm
  refine CallV.enter Tryz.func83 rfl (by kernel_rfl) Tryz.ntmps83 (env := [(0, .int .i64 before_0), (1, .pointer (some ⟨b1', o1', none⟩))]) ⟨rfl, rfl, trivial⟩ ?_
  refine WP.seq (fun K1 hK1 => ?_)
  refine WP.region ?_
  refine WL.runk 1 [0, 1] [(0, .int .i64 before_0), (1, .pointer (some ⟨b1', o1', none⟩))] (by kernel_rfl) ?_
  refine WL.nil ?_
  refine WQ.then_normal (hK1 _ _ _ ?_)
  refine WP.seq (fun K2 hK2 => ?_)
  refine WP.region ?_
  refine WL.st (.slice a1' cap_1.length c1') (ST.load (cell_ext (RdB.at (RdB.below h1 (Ext.refl w)) 0 _ rfl)) rfl rfl Tryz.underlying25 rfl) rfl rfl rfl ?_
  refine WL.runk 1 [4, 5] [(4, .slice a1' cap_1.length c1'), (5, .int .i64 before_0)] (by kernel_rfl) ?_
  obtain ⟨x3, hx4, hm⟩ := bindE hm
  refine WL.call 43 #[.slice a1' cap_1.length c1', .int .i64 before_0] rfl rfl (by kernel_rfl) (c_43 n cap_1 a1' c1' before_0 w hx4 (Rd.below hr1 (Ext.refl w)) hle1) ?_
  rintro _ w5 ⟨rfl, hE6⟩
  refine ⟨_, rfl, ?_⟩
  have hb8 : Ext w w5 := Ext.trans (Ext.refl w) hE6
  have hL9 : w.heap.size ≤ w5.heap.size := Nat.le_trans (Nat.le_refl _) hE6.size
  have hS10 : SH w5 w.heap.size [] := SH.ext (SH.nil _ _) hE6
  refine WL.runk 2 [3] [(3, .bool (!x3))] (by kernel_rfl) ?_
  refine WL.nil ?_
  refine WQ.then_normal (hK2 _ _ _ ?_)
  refine WP.ret ?_
  obtain rfl := Option.some.inj hm
  exact WQ.ret1 _ rfl rfl ⟨rfl, hb8⟩

theorem c_85 (n : Nat) (k_0 : Int) (cap_1 : List SRepair) (b1' o1' : Nat) (a1' : Option Addr) (c1' : Nat) (cap_2 : Int) (b2' o2' : Nat) (w : World) {r : Bool} (hm : m_impl_mendsAll_2_1 n k_0 cap_1 cap_2 = some r) (h1 : RdB w b1' o1' [.slice a1' cap_1.length c1']) (hr1 : Rd fRepair.ty w a1' cap_1) (_hle1 : cap_1.length ≤ c1') (h2 : RdB w b2' o2' [.int .i64 cap_2]) :
    CallV Tryz.prog 85 #[.int .i64 k_0, .pointer (some ⟨b1', o1', none⟩), .pointer (some ⟨b2', o2', none⟩)] w (fun v w' => v = .bool r ∧ Ext w w') := by
  unfold m_impl_mendsAll_2_1 at hm
  refine CallV.enter Tryz.func85 rfl (by kernel_rfl) Tryz.ntmps85 (env := [(0, .int .i64 k_0), (1, .pointer (some ⟨b1', o1', none⟩)), (2, .pointer (some ⟨b2', o2', none⟩))]) ⟨rfl, rfl, rfl, trivial⟩ ?_
  refine WP.seq (fun K1 hK1 => ?_)
  refine WP.region ?_
  refine WL.runk 1 [0, 1, 2] [(0, .int .i64 k_0), (1, .pointer (some ⟨b1', o1', none⟩)), (2, .pointer (some ⟨b2', o2', none⟩))] (by kernel_rfl) ?_
  refine WL.nil ?_
  refine WQ.then_normal (hK1 _ _ _ ?_)
  refine WP.seq (fun K2 hK2 => ?_)
  refine WP.quiet (by kernel_rfl) (by kernel_rfl) ?_
  refine QL.st (.slice a1' cap_1.length c1') (ST.load (cell_ext (RdB.at (RdB.below h1 (Ext.refl w)) 0 _ rfl)) rfl rfl Tryz.underlying24 rfl) rfl rfl rfl ?_
  refine QL.step1v 6 (.int .i64 k_0) rfl (fun _ => by kernel_rfl) ?_
  refine QL.subk [2, 5, 6] [(2, .pointer (some ⟨b2', o2', none⟩)), (5, .slice a1' cap_1.length c1'), (6, .int .i64 k_0)] (by kernel_rfl) ?_
  obtain ⟨x3, hx4, hm⟩ := bindE hm
  obtain ⟨a5, c6, a10, c11, hc15, hR7, hle8, hR12, hle13⟩ := nest_Repair hr1 hx4
  refine QL.st (.pointer (some (at_ a1' (Int.toNat k_0 * 5)))) (ST.index (T := fRepair.ty) (xs := cap_1) (Rd.below hr1 (Ext.refl w)) hx4 rfl rfl rfl Tryz.underlying24 (info48).1 (info48).2.1) rfl rfl rfl ?_
  refine QL.step1v 8 (.pointer (some (at_ a1' (Int.toNat k_0 * 5 + 1)))) rfl (fun _ => by kernel_rfl) ?_
  refine QL.subk [2, 8] [(2, .pointer (some ⟨b2', o2', none⟩)), (8, .pointer (some (at_ a1' (Int.toNat k_0 * 5 + 1))))] (by kernel_rfl) ?_
  refine QL.st (.slice a5 x3.Mends.length c6) (ST.load (cell_ext ((cells_ext hc15 (Ext.refl w)) 1 _ rfl)) rfl rfl Tryz.underlying25 rfl) rfl rfl rfl ?_
  refine QL.st (.int .i64 cap_2) (ST.load (cell_ext (RdB.at (RdB.below h2 (Ext.refl w)) 0 _ rfl)) rfl rfl Tryz.underlying2 rfl) rfl rfl rfl ?_
  obtain ⟨x16, hx17, hm⟩ := bindE hm
  refine QL.call 43 #[.slice a5 x3.Mends.length c6, .int .i64 cap_2] (.bool x16) (fun _ => by kernel_rfl) (fun w18 hE19 => c_43 n x3.Mends a5 c6 cap_2 w18 hx17 (Rd.below (Rd.below hR7 (Ext.refl w)) hE19) hle8) rfl rfl rfl ?_
  refine QL.step1v 4 (.bool x16) rfl (fun _ => by kernel_rfl) ?_
  refine QL.subk [4] [(4, .bool x16)] (by kernel_rfl) ?_
  refine QL.nil ?_
  intro w20 hE21
  have hb22 : Ext w w20 := Ext.trans (Ext.refl w) hE21
  have hL23 : w.heap.size ≤ w20.heap.size := Nat.le_trans (Nat.le_refl _) hE21.size
  have hS24 : SH w20 w.heap.size [] := SH.ext (SH.nil _ _) hE21
  refine WQ.then_normal (hK2 _ _ _ ?_)
  refine WP.ret ?_
  obtain rfl := Option.some.inj hm
  exact WQ.ret1 _ rfl rfl ⟨rfl, hb22⟩

end Go.Proofs.YtkglfbcelaphhaaGreatDoor
