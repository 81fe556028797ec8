/- Each call does what its Lean function says. -/
import Derived.Test.YtkglfbcelaphhaaKHopelessFaults1
set_option maxRecDepth 20000
set_option maxHeartbeats 40000000
namespace Go.Proofs.Ytkglfbcelaphhaa
open Go Go.Gv Go.RowKit

theorem c_47 (n : Nat) (list_0 : List SRepair) (a0' : Option Addr) (c0' : Nat) (faults_1 : List Int) (a1' : Option Addr) (c1' : Nat) (w : World) {r : List Int × Int} (hm : m_spec_HopelessFaults n list_0 faults_1 = some r) (h0 : Rd fRepair.ty w a0' list_0) (hle0 : list_0.length ≤ c0') (h1 : Rd fInt.ty w a1' faults_1) (hle1 : faults_1.length ≤ c1') :
    CallV Try.prog 47 #[.slice a0' list_0.length c0', .slice a1' faults_1.length c1'] w (fun v w' => ∃ (ra0 : Option Addr) (rc0 : Nat), v = .tuple #[.slice ra0 r.1.length rc0, .int .i64 r.2] ∧ Ext w w' ∧ SH w' w.heap.size [aOwn fInt 2 ra0 rc0 r.1]) := by
  unfold m_spec_HopelessFaults at hm
  refine CallV.enter Try.func47 rfl (by kernel_rfl) Try.ntmps47 (env := [(0, .slice a0' list_0.length c0'), (1, .slice a1' faults_1.length c1')]) ⟨rfl, rfl, trivial⟩ ?_
  refine WP.seq (fun K1 hK1 => ?_)
  refine WP.region ?_
  refine WL.runk 2 [0, 1] [(0, .slice a0' list_0.length c0'), (1, .slice a1' faults_1.length c1')] (by kernel_rfl) ?_
  refine WL.nil ?_
  refine WQ.then_normal (hK1 _ _ _ ?_)
  refine WP.seq (fun K2 hK2 => ?_)
  refine WP.region ?_
  refine WL.runk 1 [0, 1, 11] [(0, .slice a0' list_0.length c0'), (1, .slice a1' faults_1.length c1'), (11, .slice a0' list_0.length c0')] (by kernel_rfl) ?_
  refine WL.row fInt 2 ([] : List Int) 0 #[] 12 (by kernel_rfl) rfl rfl rfl rfl rfl rfl rfl ?_
  intro a3 c4 w5 hE6 hR7
  have hb9 : Ext w w5 := Ext.trans (Ext.refl w) hE6
  have hL10 : w.heap.size ≤ w5.heap.size := Nat.le_trans (Nat.le_refl _) hE6.size
  have hS11 : SH w5 w.heap.size [aOwn fInt 2 a3 c4 ([] : List Int)] := SH.add (SH.nil _ _) hE6 (Nat.le_refl _) hR7
  refine WL.runk 1 [0, 1, 11, 12, 13] [(0, .slice a0' list_0.length c0'), (1, .slice a1' faults_1.length c1'), (11, .slice a0' list_0.length c0'), (12, .slice a3 (([] : List Int).length) c4), (13, .slice a1' faults_1.length c1')] (by kernel_rfl) ?_
  obtain ⟨x12, hx13, hm⟩ := bindE hm
  refine WL.call 52 #[.slice a0' list_0.length c0', .slice a3 (([] : List Int).length) c4, .slice a1' faults_1.length c1'] rfl rfl (by kernel_rfl) (c_52 n list_0 a0' c0' ([] : List Int) a3 c4 faults_1 a1' c1' w5 hx13 (Rd.below h0 hb9) hle0 (SH.rd (SH.front 0 hS11)) (SH.le (SH.front 0 hS11)).1 (Rd.below h1 hb9) hle1) ?_
  rintro _ w14 ⟨rfl, hE15⟩
  refine ⟨_, rfl, ?_⟩
  have hb17 : Ext w w14 := Ext.trans hb9 hE15
  have hL18 : w.heap.size ≤ w14.heap.size := Nat.le_trans hL10 hE15.size
  have hS19 : SH w14 w.heap.size [aOwn fInt 2 a3 c4 ([] : List Int)] := SH.ext hS11 hE15
  refine WL.runk 1 [0, 1, 6] [(0, .slice a0' list_0.length c0'), (1, .slice a1' faults_1.length c1'), (6, .int .i64 x12)] (by kernel_rfl) ?_
  refine WL.nil ?_
  refine WQ.then_normal (hK2 _ _ _ ?_)
  refine WP.seq (fun K20 hK20 => ?_)
  refine WP.seq (fun K21 hK21 => ?_)
  refine WP.region ?_
  refine WL.runk 2 [0, 1, 6, 16] [(0, .slice a0' list_0.length c0'), (1, .slice a1' faults_1.length c1'), (6, .int .i64 x12), (16, .bool (x12 != 0))] (by kernel_rfl) ?_
  refine WL.nil ?_
  refine WQ.then_normal (hK21 _ _ _ ?_)
  refine WP.cond (x12 != 0) rfl rfl (fun hc22 => ?_) (fun hc22 => ?_)
  · have hm := iteT hm hc22
    refine WP.seq (fun K23 hK23 => ?_)
    refine WP.region ?_
    refine WL.runk 3 [4, 5] [(4, .slice none 0 0), (5, .int .i64 x12)] (by kernel_rfl) ?_
    refine WL.nil ?_
    refine WQ.then_normal (hK23 _ _ _ ?_)
    refine WP.ret ?_
    refine WQ.then_ret ?_
    obtain rfl := Option.some.inj hm
    have hS25 : SH w14 w.heap.size [aOwn fInt 2 none 0 ([] : List Int), aOwn fInt 2 a3 c4 ([] : List Int)] := SH.nilOwn hS19
    exact WQ.ret2 _ _ rfl rfl rfl ⟨_, _, rfl, hb17, (SH.take 1 hS25)⟩
  have hm := iteF hm hc22
  refine WP.skip ?_
  refine WQ.then_normal (hK20 _ _ _ ?_)
  refine WP.seq (fun K26 hK26 => ?_)
  refine WP.region ?_
  refine WL.row fInt 2 ([] : List Int) 0 #[] 18 (by kernel_rfl) rfl rfl rfl rfl rfl rfl rfl ?_
  intro a27 c28 w29 hE30 hR31
  have hb33 : Ext w w29 := Ext.trans hb17 hE30
  have hL34 : w.heap.size ≤ w29.heap.size := Nat.le_trans hL18 hE30.size
  have hS35 : SH w29 w.heap.size [aOwn fInt 2 a27 c28 ([] : List Int), aOwn fInt 2 a3 c4 ([] : List Int)] := SH.add hS19 hE30 hL18 hR31
  refine WL.runk 1 [0, 1, 7] [(0, .slice a0' list_0.length c0'), (1, .slice a1' faults_1.length c1'), (7, .slice a27 (([] : List Int).length) c28)] (by kernel_rfl) ?_
  refine WL.nil ?_
  refine WQ.then_normal (hK26 _ _ _ ?_)
  refine WP.seq (fun K36 hK36 => ?_)
  refine WP.seq (fun K37 hK37 => ?_)
  refine WP.region ?_
  refine WL.runk 1 [0, 1, 7, 8] [(0, .slice a0' list_0.length c0'), (1, .slice a1' faults_1.length c1'), (7, .slice a27 (([] : List Int).length) c28), (8, .int .i64 0)] (by kernel_rfl) ?_
  refine WL.nil ?_
  refine WQ.then_normal (hK37 _ _ _ ?_)
  refine WP.block ?_
  obtain ⟨t52, ht53, hm⟩ := bindE hm
  have hmo47 := hm; clear hm
  refine WP.sub [(0, .slice a0' list_0.length c0'), (1, .slice a1' faults_1.length c1'), (7, .slice a27 (([] : List Int).length) c28), (8, .int .i64 0)] ⟨rfl, rfl, rfl, rfl, trivial⟩ ?_
  refine WP.loop (fun n' env' w' => ∃ (st38 : List Int × Int) (a39 : Option Addr) (c40 : Nat), env' = [(0, .slice a0' list_0.length c0'), (1, .slice a1' faults_1.length c1'), (7, .slice a39 st38.1.length c40), (8, .int .i64 st38.2)] ∧ Ext w w' ∧ w.heap.size ≤ w'.heap.size ∧ SH w' w.heap.size [aOwn fInt 2 a39 c40 st38.1] ∧ loopN (m_spec_HopelessFaults_l1 n list_0) n' st38 = some t52) n ⟨(([] : List Int), 0), _, _, rfl, hb33, hL34, (SH.take 1 hS35), ht53⟩ ?_
  rintro n49 _ w42 ⟨st38, a39, c40, rfl, hb43, hL44, hS45, hl46⟩ K48 hK48
  obtain ⟨n50, s51, rfl, hm, hl46⟩ := loopN_some hl46
  unfold m_spec_HopelessFaults_l1 at hm
  refine WP.seq (fun K54 hK54 => ?_)
  refine WP.seq (fun K55 hK55 => ?_)
  refine WP.region ?_
  refine WL.runk 4 [0, 1, 7, 8, 22] [(0, .slice a0' list_0.length c0'), (1, .slice a1' faults_1.length c1'), (7, .slice a39 st38.1.length c40), (8, .int .i64 st38.2), (22, .bool (decide (st38.2 < (list_0.length : Int))))] (by kernel_rfl) ?_
  refine WL.nil ?_
  refine WQ.then_normal (hK55 _ _ _ ?_)
  refine WP.cond (decide (st38.2 < (list_0.length : Int))) rfl rfl (fun hc56 => ?_) (fun hc56 => ?_)
  · have hm := iteT hm hc56
    refine WP.skip ?_
    refine WQ.then_normal (hK54 _ _ _ ?_)
    refine WP.seq (fun K57 hK57 => ?_)
    refine WP.block ?_
    refine WP.region ?_
    refine WL.runk 2 [0, 1, 8, 25, 26] [(0, .slice a0' list_0.length c0'), (1, .slice a1' faults_1.length c1'), (8, .int .i64 st38.2), (25, .slice a39 st38.1.length c40), (26, .int .i64 st38.2)] (by kernel_rfl) ?_
    refine WL.row fInt 2 ([st38.2] : List Int) 1 #[.int .i64 st38.2] 27 (by kernel_rfl) rfl rfl rfl rfl rfl rfl rfl ?_
    intro a58 c59 w60 hE61 hR62
    have hb64 : Ext w w60 := Ext.trans hb43 hE61
    have hL65 : w.heap.size ≤ w60.heap.size := Nat.le_trans hL44 hE61.size
    have hS66 : SH w60 w.heap.size [aOwn fInt 2 a58 c59 ([st38.2] : List Int), aOwn fInt 2 a39 c40 st38.1] := SH.add hS45 hE61 hL44 hR62
    obtain ⟨x67, hx68, hm⟩ := bindE hm
    refine WL.append (F := fInt) (xs := st38.1) (ys := ([st38.2] : List Int)) 28 (SH.front 1 hS66) hL65 (SH.rd (SH.front 0 hS66)) hx68 rfl rfl rfl Try.underlying25 (info2).1 (info2).2.2.1 (info2).2.1 (info2).2.2.2 rfl rfl rfl rfl rfl ?_
    intro a69 c70 w71 hB72 hS73
    have hb74 : Ext w w71 := Below.trans hb64 hB72
    have hL75 : w.heap.size ≤ w71.heap.size := Nat.le_trans hL65 hB72.size
    refine WL.runk 1 [0, 1, 7, 8] [(0, .slice a0' list_0.length c0'), (1, .slice a1' faults_1.length c1'), (8, .int .i64 st38.2), (7, .slice a69 x67.length c70)] (by kernel_rfl) ?_
    refine WL.nil ?_
    refine WQ.block_normal ?_
    refine WQ.then_normal (hK57 _ _ _ ?_)
    refine WP.region ?_
    refine WL.runk 3 [0, 1, 7, 8] [(0, .slice a0' list_0.length c0'), (1, .slice a1' faults_1.length c1'), (8, .int .i64 (wI64 (st38.2 + 1))), (7, .slice a69 x67.length c70)] (by kernel_rfl) ?_
    refine WL.nil ?_
    obtain rfl := Option.some.inj hm
    exact WQ.round hK48 ⟨(x67, (wI64 (st38.2 + 1))), _, _, rfl, hb74, hL75, (SH.take 1 hS73), hl46⟩ (Nat.lt_succ_self _) ⟨rfl, rfl, rfl, rfl, trivial⟩
  have hm := iteF hm hc56
  refine WP.exit ?_
  refine WQ.then_exit ?_
  refine WQ.then_exit ?_
  refine WQ.block_here ?_
  obtain rfl := Option.some.inj hm
  obtain rfl := afterN_done hl46
  have hm := hmo47
  refine WQ.then_normal (hK36 _ _ _ ?_)
  refine WP.seq (fun K76 hK76 => ?_)
  refine WP.region ?_
  refine WL.row fInt 2 ([] : List Int) 0 #[] 29 (by kernel_rfl) rfl rfl rfl rfl rfl rfl rfl ?_
  intro a77 c78 w79 hE80 hR81
  have hb83 : Ext w w79 := Ext.trans hb43 hE80
  have hL84 : w.heap.size ≤ w79.heap.size := Nat.le_trans hL44 hE80.size
  have hS85 : SH w79 w.heap.size [aOwn fInt 2 a77 c78 ([] : List Int), aOwn fInt 2 a39 c40 st38.1] := SH.add hS45 hE80 hL44 hR81
  refine WL.runk 1 [0, 1, 7, 9] [(0, .slice a0' list_0.length c0'), (1, .slice a1' faults_1.length c1'), (7, .slice a39 st38.1.length c40), (9, .slice a77 (([] : List Int).length) c78)] (by kernel_rfl) ?_
  refine WL.nil ?_
  refine WQ.then_normal (hK76 _ _ _ ?_)
  refine WP.seq (fun K86 hK86 => ?_)
  refine WP.seq (fun K87 hK87 => ?_)
  refine WP.region ?_
  refine WL.runk 1 [0, 1, 7, 9, 10] [(0, .slice a0' list_0.length c0'), (1, .slice a1' faults_1.length c1'), (7, .slice a39 st38.1.length c40), (9, .slice a77 (([] : List Int).length) c78), (10, .int .i64 0)] (by kernel_rfl) ?_
  refine WL.nil ?_
  refine WQ.then_normal (hK87 _ _ _ ?_)
  refine WP.block ?_
  obtain ⟨t102, ht103, hm⟩ := bindE hm
  have hmo97 := hm; clear hm
  refine WP.sub [(0, .slice a0' list_0.length c0'), (1, .slice a1' faults_1.length c1'), (7, .slice a39 st38.1.length c40), (9, .slice a77 (([] : List Int).length) c78), (10, .int .i64 0)] ⟨rfl, rfl, rfl, rfl, rfl, trivial⟩ ?_
  refine WP.loop (fun n' env' w' => ∃ (st88 : List Int × Int) (a89 : Option Addr) (c90 : Nat), env' = [(0, .slice a0' list_0.length c0'), (1, .slice a1' faults_1.length c1'), (7, .slice a39 st38.1.length c40), (9, .slice a89 st88.1.length c90), (10, .int .i64 st88.2)] ∧ Ext w w' ∧ w.heap.size ≤ w'.heap.size ∧ SH w' w.heap.size [aOwn fInt 2 a89 c90 st88.1, aOwn fInt 2 a39 c40 st38.1] ∧ loopN (m_spec_HopelessFaults_l2 n list_0 faults_1 st38) n' st88 = some t102) n ⟨(([] : List Int), 0), _, _, rfl, hb83, hL84, hS85, ht103⟩ ?_
  rintro n99 _ w92 ⟨st88, a89, c90, rfl, hb93, hL94, hS95, hl96⟩ K98 hK98
  obtain ⟨n100, s101, rfl, hm, hl96⟩ := loopN_some hl96
  unfold m_spec_HopelessFaults_l2 at hm
  refine WP.seq (fun K104 hK104 => ?_)
  refine WP.seq (fun K105 hK105 => ?_)
  refine WP.region ?_
  refine WL.runk 4 [0, 1, 7, 9, 10, 33] [(0, .slice a0' list_0.length c0'), (1, .slice a1' faults_1.length c1'), (7, .slice a39 st38.1.length c40), (9, .slice a89 st88.1.length c90), (10, .int .i64 st88.2), (33, .bool (decide (st88.2 < (faults_1.length : Int))))] (by kernel_rfl) ?_
  refine WL.nil ?_
  refine WQ.then_normal (hK105 _ _ _ ?_)
  refine WP.cond (decide (st88.2 < (faults_1.length : Int))) rfl rfl (fun hc106 => ?_) (fun hc106 => ?_)
  rotate_left
  · have hm := iteF hm hc106
    refine WP.exit ?_
    refine WQ.then_exit ?_
    refine WQ.then_exit ?_
    refine WQ.block_here ?_
    obtain rfl := Option.some.inj hm
    obtain rfl := afterN_done hl96
    have hm := hmo97
    refine WQ.then_normal (hK86 _ _ _ ?_)
    refine WP.seq (fun K169 hK169 => ?_)
    refine WP.region ?_
    refine WL.runk 3 [4, 5] [(4, .slice a89 st88.1.length c90), (5, .int .i64 0)] (by kernel_rfl) ?_
    refine WL.nil ?_
    refine WQ.then_normal (hK169 _ _ _ ?_)
    refine WP.ret ?_
    obtain rfl := Option.some.inj hm
    exact WQ.ret2 _ _ rfl rfl rfl ⟨_, _, rfl, hb93, (SH.take 1 hS95)⟩
  have hm := iteT hm hc106
  refine WP.skip ?_
  refine WQ.then_normal (hK104 _ _ _ ?_)
  refine WP.seq (fun K107 hK107 => ?_)
  refine WP.block ?_
  refine WP.seq (fun K108 hK108 => ?_)
  refine WP.region ?_
  refine WL.runk 4 [0, 1, 7, 9, 10, 36, 37, 38, 39] [(0, .slice a0' list_0.length c0'), (1, .slice a1' faults_1.length c1'), (7, .slice a39 st38.1.length c40), (9, .slice a89 st88.1.length c90), (10, .int .i64 st88.2), (36, .slice a0' list_0.length c0'), (37, .slice a39 st38.1.length c40), (38, .slice a1' faults_1.length c1'), (39, .int .i64 st88.2)] (by kernel_rfl) ?_
  obtain ⟨x109, hx110, hm⟩ := bindE hm
  refine WL.st (.pointer (some (at_ a1' (Int.toNat st88.2 * 1)))) (ST.index (T := fInt.ty) (xs := faults_1) (Rd.below h1 hb93) hx110 rfl rfl rfl Try.underlying25 (info2).1 (info2).2.1) rfl rfl rfl ?_
  refine WL.st (.int .i64 x109) (ST.load (cell_ext (Rd.flat (F := fInt) (Rd.below h1 hb93) hx110 0 rfl)) rfl rfl Try.underlying2 rfl) rfl rfl rfl ?_
  obtain ⟨x111, hx112, hm⟩ := bindE hm
  refine WL.call 86 #[.slice a0' list_0.length c0', .slice a39 st38.1.length c40, .int .i64 x109] rfl rfl (by kernel_rfl) (c_86 n list_0 a0' c0' st38.1 a39 c40 x109 w92 hx112 (Rd.below h0 hb93) hle0 (SH.rd (SH.front 1 hS95)) (SH.le (SH.front 1 hS95)).1) ?_
  rintro _ w113 ⟨rfl, hE114⟩
  refine ⟨_, rfl, ?_⟩
  have hb116 : Ext w w113 := Ext.trans hb93 hE114
  have hL117 : w.heap.size ≤ w113.heap.size := Nat.le_trans hL94 hE114.size
  have hS118 : SH w113 w.heap.size [aOwn fInt 2 a89 c90 st88.1, aOwn fInt 2 a39 c40 st38.1] := SH.ext hS95 hE114
  refine WL.runk 1 [0, 1, 7, 9, 10, 43] [(0, .slice a0' list_0.length c0'), (1, .slice a1' faults_1.length c1'), (7, .slice a39 st38.1.length c40), (9, .slice a89 st88.1.length c90), (10, .int .i64 st88.2), (43, .bool (!x111))] (by kernel_rfl) ?_
  refine WL.nil ?_
  refine WQ.then_normal (hK108 _ _ _ ?_)
  obtain ⟨x140, hx141, hm⟩ := bindE hm
  refine WP.cut (fun env' w' => ∃ (a142 : Option Addr) (c143 : Nat), env' = [(0, .slice a0' list_0.length c0'), (1, .slice a1' faults_1.length c1'), (7, .slice a39 st38.1.length c40), (9, .slice a142 x140.length c143), (10, .int .i64 st88.2)] ∧ Ext w w' ∧ w.heap.size ≤ w'.heap.size ∧ SH w' w.heap.size [aOwn fInt 2 a142 c143 x140, aOwn fInt 2 a39 c40 st38.1]) ?_ ?_
  rotate_left
  · clear hx141
    rintro _ w165 ⟨a142, c143, rfl, hb166, hL167, hS168⟩
    refine WQ.block_normal ?_
    refine WQ.then_normal (hK107 _ _ _ ?_)
    refine WP.region ?_
    refine WL.runk 3 [0, 1, 7, 9, 10] [(0, .slice a0' list_0.length c0'), (1, .slice a1' faults_1.length c1'), (7, .slice a39 st38.1.length c40), (9, .slice a142 x140.length c143), (10, .int .i64 (wI64 (st88.2 + 1)))] (by kernel_rfl) ?_
    refine WL.nil ?_
    obtain rfl := Option.some.inj hm
    exact WQ.round hK98 ⟨(x140, (wI64 (st88.2 + 1))), _, _, rfl, hb166, hL167, hS168, hl96⟩ (Nat.lt_succ_self _) ⟨rfl, rfl, rfl, rfl, rfl, trivial⟩
  have hm := hx141; clear hx141
  refine WP.cond (!x111) rfl rfl (fun hc119 => ?_) (fun hc119 => ?_)
  rotate_left
  · have hm := iteF hm hc119
    refine WP.skip ?_
    obtain rfl := Option.some.inj hm
    exact WQ.post' ⟨_, _, rfl, hb116, hL117, hS118⟩ ⟨rfl, rfl, rfl, rfl, rfl, trivial⟩
  have hm := iteT hm hc119
  refine WP.region ?_
  refine WL.runk 3 [0, 1, 7, 10, 44, 45, 46] [(0, .slice a0' list_0.length c0'), (1, .slice a1' faults_1.length c1'), (7, .slice a39 st38.1.length c40), (10, .int .i64 st88.2), (44, .slice a89 st88.1.length c90), (45, .slice a1' faults_1.length c1'), (46, .int .i64 st88.2)] (by kernel_rfl) ?_
  obtain ⟨x145, hx146, hm⟩ := bindE hm
  refine WL.st (.pointer (some (at_ a1' (Int.toNat st88.2 * 1)))) (ST.index (T := fInt.ty) (xs := faults_1) (Rd.below h1 hb116) hx146 rfl rfl rfl Try.underlying25 (info2).1 (info2).2.1) rfl rfl rfl ?_
  refine WL.st (.int .i64 x145) (ST.load (cell_ext (Rd.flat (F := fInt) (Rd.below h1 hb116) hx146 0 rfl)) rfl rfl Try.underlying2 rfl) rfl rfl rfl ?_
  refine WL.row fInt 2 ([x145] : List Int) 1 #[.int .i64 x145] 49 (by kernel_rfl) rfl rfl rfl rfl rfl rfl rfl ?_
  intro a147 c148 w149 hE150 hR151
  have hb153 : Ext w w149 := Ext.trans hb116 hE150
  have hL154 : w.heap.size ≤ w149.heap.size := Nat.le_trans hL117 hE150.size
  have hS155 : SH w149 w.heap.size [aOwn fInt 2 a147 c148 ([x145] : List Int), aOwn fInt 2 a89 c90 st88.1, aOwn fInt 2 a39 c40 st38.1] := SH.add hS118 hE150 hL117 hR151
  obtain ⟨x156, hx157, hm⟩ := bindE hm
  refine WL.append (F := fInt) (xs := st88.1) (ys := ([x145] : List Int)) 50 (SH.front 1 hS155) hL154 (SH.rd (SH.front 0 hS155)) hx157 rfl rfl rfl Try.underlying25 (info2).1 (info2).2.2.1 (info2).2.1 (info2).2.2.2 rfl rfl rfl rfl rfl ?_
  intro a158 c159 w160 hB161 hS162
  have hb163 : Ext w w160 := Below.trans hb153 hB161
  have hL164 : w.heap.size ≤ w160.heap.size := Nat.le_trans hL154 hB161.size
  refine WL.runk 1 [0, 1, 7, 9, 10] [(0, .slice a0' list_0.length c0'), (1, .slice a1' faults_1.length c1'), (7, .slice a39 st38.1.length c40), (10, .int .i64 st88.2), (9, .slice a158 x156.length c159)] (by kernel_rfl) ?_
  refine WL.nil ?_
  obtain rfl := Option.some.inj hm
  exact WQ.post' ⟨_, _, rfl, hb163, hL164, (SH.take 2 (SH.front 1 (SH.front 2 hS162)))⟩ ⟨rfl, rfl, rfl, rfl, rfl, trivial⟩

theorem c_88 (n : Nat) (s_0 : List Int) (a0' : Option Addr) (c0' : Nat) (w : World) {r : List Int} (hm : m_slices_Clone_int64_int64 n s_0 = some r) (h0 : Rd fInt.ty w a0' s_0) (_hle0 : s_0.length ≤ c0') :
    CallV Try.prog 88 #[.slice a0' s_0.length c0'] w (fun v w' => ∃ (ra0 : Option Addr) (rc0 : Nat), v = .slice ra0 r.length rc0 ∧ Ext w w' ∧ SH w' w.heap.size [aOwn fInt 2 ra0 rc0 r]) := by
  unfold m_slices_Clone_int64_int64 at hm
  rcases a0' with _ | a0'
  · obtain rfl : s_0 = [] := by
      cases s_0 with
      | nil => rfl
      | cons x t => exact absurd (h0 0 x rfl).1 (by simp)
    obtain rfl : ([] : List Int) = r := by simpa [app] using hm
    refine CallV.enter Try.func88 rfl (by kernel_rfl) Try.ntmps88 (env := [(0, .slice none 0 c0')]) ⟨rfl, trivial⟩ ?_
    refine WP.seq (fun K1 hK1 => ?_)
    refine WP.region ?_
    refine WL.runk 1 [0] [(0, .slice none 0 c0')] (by kernel_rfl) ?_
    refine WL.nil ?_
    refine WQ.then_normal (hK1 _ _ _ ?_)
    refine WP.seq (fun K2 hK2 => ?_)
    refine WP.seq (fun K3 hK3 => ?_)
    refine WP.region ?_
    refine WL.runk 2 [4] [(4, .bool true)] (by kernel_rfl) ?_
    refine WL.nil ?_
    refine WQ.then_normal (hK3 _ _ _ ?_)
    refine WP.cond true rfl rfl (fun _ => ?_) (fun hc4 => ?_)
    rotate_left
    · cases hc4
    refine WP.seq (fun K5 hK5 => ?_)
    refine WP.region ?_
    refine WL.runk 1 [2] [(2, .slice none 0 0)] (by kernel_rfl) ?_
    refine WL.nil ?_
    refine WQ.then_normal (hK5 _ _ _ ?_)
    refine WP.ret ?_
    refine WQ.then_ret ?_
    have hS7 : SH w w.heap.size [aOwn fInt 2 none 0 ([] : List Int)] := SH.nilOwn (SH.nil _ _)
    exact WQ.ret1 _ rfl rfl ⟨_, _, rfl, (Ext.refl w), hS7⟩
  refine CallV.enter Try.func88 rfl (by kernel_rfl) Try.ntmps88 (env := [(0, .slice (some a0') s_0.length c0')]) ⟨rfl, trivial⟩ ?_
  refine WP.seq (fun K1 hK1 => ?_)
  refine WP.region ?_
  refine WL.runk 1 [0] [(0, .slice (some a0') s_0.length c0')] (by kernel_rfl) ?_
  refine WL.nil ?_
  refine WQ.then_normal (hK1 _ _ _ ?_)
  refine WP.seq (fun K2 hK2 => ?_)
  refine WP.seq (fun K3 hK3 => ?_)
  refine WP.region ?_
  refine WL.runk 2 [0, 4] [(0, .slice (some a0') s_0.length c0'), (4, .bool false)] (by kernel_rfl) ?_
  refine WL.nil ?_
  refine WQ.then_normal (hK3 _ _ _ ?_)
  refine WP.cond false rfl rfl (fun hc4 => ?_) (fun _ => ?_)
  · cases hc4
  refine WP.skip ?_
  refine WQ.then_normal (hK2 _ _ _ ?_)
  refine WP.seq (fun K8 hK8 => ?_)
  refine WP.region ?_
  refine WL.row fInt 2 ([] : List Int) 0 #[] 5 (by kernel_rfl) rfl rfl rfl rfl rfl rfl rfl ?_
  intro a9 c10 w11 hE12 hR13
  have hb15 : Ext w w11 := Ext.trans (Ext.refl w) hE12
  have hL16 : w.heap.size ≤ w11.heap.size := Nat.le_trans (Nat.le_refl _) hE12.size
  have hS17 : SH w11 w.heap.size [aOwn fInt 2 a9 c10 ([] : List Int)] := SH.add (SH.nil _ _) hE12 (Nat.le_refl _) hR13
  refine WL.runk 1 [5, 6] [(5, .slice a9 (([] : List Int).length) c10), (6, .slice (some a0') s_0.length c0')] (by kernel_rfl) ?_
  obtain ⟨x18, hx19, hm⟩ := bindE hm
  refine WL.append (F := fInt) (xs := ([] : List Int)) (ys := s_0) 7 (SH.front 0 hS17) hL16 (Rd.below h0 hb15) hx19 rfl rfl rfl Try.underlying25 (info2).1 (info2).2.2.1 (info2).2.1 (info2).2.2.2 rfl rfl rfl rfl rfl ?_
  intro a20 c21 w22 hB23 hS24
  have hb25 : Ext w w22 := Below.trans hb15 hB23
  refine WL.runk 1 [2] [(2, .slice a20 x18.length c21)] (by kernel_rfl) ?_
  refine WL.nil ?_
  refine WQ.then_normal (hK8 _ _ _ ?_)
  refine WP.ret ?_
  obtain rfl := Option.some.inj hm
  exact WQ.ret1 _ rfl rfl ⟨_, _, rfl, hb25, hS24⟩

theorem c_90 (n : Nat) (r_0 : SRepair) (a0_1' : Option Addr) (c0_1' : Nat) (a0_2' : Option Addr) (c0_2' : Nat) (cap_1 : Int) (b1' o1' : Nat) (w : World) {r : Bool} (hm : m_impl_HopelessFaults_1_1 n r_0 cap_1 = some r) (hr0_1 : Rd fInt.ty w a0_1' r_0.Mends) (hle0_1 : r_0.Mends.length ≤ c0_1') (_hr0_2 : Rd fInt.ty w a0_2' r_0.First) (_hle0_2 : r_0.First.length ≤ c0_2') (h1 : RdB w b1' o1' [.int .i64 cap_1]) :
    CallV Try.prog 90 #[.agg #[.string (bs r_0.Name), .slice a0_1' r_0.Mends.length c0_1', .slice a0_2' r_0.First.length c0_2', .int .i64 r_0.Price, .int .i64 r_0.Hours], .pointer (some ⟨b1', o1', none⟩)] w (fun v w' => v = .bool r ∧ Ext w w') := by
  unfold m_impl_HopelessFaults_1_1 at hm
  refine CallV.enter Try.func90 rfl (by kernel_rfl) Try.ntmps90 (env := [(0, .agg #[.string (bs r_0.Name), .slice a0_1' r_0.Mends.length c0_1', .slice a0_2' r_0.First.length c0_2', .int .i64 r_0.Price, .int .i64 r_0.Hours]), (1, .pointer (some ⟨b1', o1', none⟩))]) ⟨rfl, rfl, trivial⟩ ?_
  refine WP.seq (fun K1 hK1 => ?_)
  refine WP.region ?_
  refine WL.box 73 [.string (bs r_0.Name), .slice a0_1' r_0.Mends.length c0_1', .slice a0_2' r_0.First.length c0_2', .int .i64 r_0.Price, .int .i64 r_0.Hours] 2 (by kernel_rfl) rfl rfl rfl rfl ?_
  intro b2 w3 hE4 hR5
  have hb7 : Ext w w3 := Ext.trans (Ext.refl w) hE4
  have hL8 : w.heap.size ≤ w3.heap.size := Nat.le_trans (Nat.le_refl _) hE4.size
  have hS9 : SH w3 w.heap.size [aBox 73 b2 [.string (bs r_0.Name), .slice a0_1' r_0.Mends.length c0_1', .slice a0_2' r_0.First.length c0_2', .int .i64 r_0.Price, .int .i64 r_0.Hours]] := SH.add (SH.nil _ _) hE4 (Nat.le_refl _) hR5
  refine WL.runk 1 [1, 2] [(1, .pointer (some ⟨b1', o1', none⟩)), (2, .pointer (some ⟨b2, 0, none⟩))] (by kernel_rfl) ?_
  refine WL.nil ?_
  refine WQ.then_normal (hK1 _ _ _ ?_)
  refine WP.seq (fun K10 hK10 => ?_)
  refine WP.region ?_
  refine WL.runk 1 [1, 4] [(1, .pointer (some ⟨b1', o1', none⟩)), (4, .pointer (some ⟨b2, 1, none⟩))] (by kernel_rfl) ?_
  refine WL.st (.slice a0_1' r_0.Mends.length c0_1') (ST.load (cell_ext (SH.boxAt (SH.front 0 hS9) 1 _ rfl)) rfl rfl Try.underlying25 rfl) rfl rfl rfl ?_
  refine WL.st (.int .i64 cap_1) (ST.load (cell_ext (RdB.at (RdB.below h1 hb7) 0 _ rfl)) rfl rfl Try.underlying2 rfl) rfl rfl rfl ?_
  obtain ⟨x11, hx12, hm⟩ := bindE hm
  refine WL.call 82 #[.slice a0_1' r_0.Mends.length c0_1', .int .i64 cap_1] rfl rfl (by kernel_rfl) (c_82 n r_0.Mends a0_1' c0_1' cap_1 w3 hx12 (Rd.below hr0_1 hb7) hle0_1) ?_
  rintro _ w13 ⟨rfl, hE14⟩
  refine ⟨_, rfl, ?_⟩
  have hb16 : Ext w w13 := Ext.trans hb7 hE14
  have hL17 : w.heap.size ≤ w13.heap.size := Nat.le_trans hL8 hE14.size
  have hS18 : SH w13 w.heap.size [aBox 73 b2 [.string (bs r_0.Name), .slice a0_1' r_0.Mends.length c0_1', .slice a0_2' r_0.First.length c0_2', .int .i64 r_0.Price, .int .i64 r_0.Hours]] := SH.ext hS9 hE14
  refine WL.runk 1 [3] [(3, .bool x11)] (by kernel_rfl) ?_
  refine WL.nil ?_
  refine WQ.then_normal (hK10 _ _ _ ?_)
  refine WP.ret ?_
  obtain rfl := Option.some.inj hm
  exact WQ.ret1 _ rfl rfl ⟨rfl, hb16⟩

theorem c_105_90 (n : Nat) (s_0 : List SRepair) (a0' : Option Addr) (c0' : Nat) (cap_1_0 : Int) (b1_0' o1_0' : Nat) (w : World) {r : Int} (hm : m_slices_IndexFunc_impl_Repair_impl_Repair_f90 n s_0 cap_1_0 = some r) (h0 : Rd fRepair.ty w a0' s_0) (_hle0 : s_0.length ≤ c0') (h1_0 : RdB w b1_0' o1_0' [.int .i64 cap_1_0]) :
    CallV Try.prog 105 #[.slice a0' s_0.length c0', .func (.func 90) #[] #[.pointer (some ⟨b1_0', o1_0', none⟩)]] w (fun v w' => v = .int .i64 r ∧ Ext w w') := by
  unfold m_slices_IndexFunc_impl_Repair_impl_Repair_f90 at hm
  refine CallV.enter Try.func105 rfl (by kernel_rfl) Try.ntmps105 (env := [(0, .slice a0' s_0.length c0'), (1, .func (.func 90) #[] #[.pointer (some ⟨b1_0', o1_0', none⟩)])]) ⟨rfl, rfl, trivial⟩ ?_
  refine WP.seq (fun K1 hK1 => ?_)
  refine WP.region ?_
  refine WL.runk 1 [0, 1] [(0, .slice a0' s_0.length c0'), (1, .func (.func 90) #[] #[.pointer (some ⟨b1_0', o1_0', none⟩)])] (by kernel_rfl) ?_
  refine WL.nil ?_
  refine WQ.then_normal (hK1 _ _ _ ?_)
  refine WP.seq (fun K2 hK2 => ?_)
  refine WP.seq (fun K3 hK3 => ?_)
  refine WP.region ?_
  refine WL.runk 3 [0, 1, 7, 8] [(0, .slice a0' s_0.length c0'), (1, .func (.func 90) #[] #[.pointer (some ⟨b1_0', o1_0', none⟩)]), (7, .int .i64 (s_0.length : Int)), (8, .int .i64 0)] (by kernel_rfl) ?_
  refine WL.nil ?_
  refine WQ.then_normal (hK3 _ _ _ ?_)
  refine WP.block ?_
  obtain ⟨t15, ht16, hm⟩ := bindE hm
  have hmo10 := hm; clear hm
  refine WP.sub [(0, .slice a0' s_0.length c0'), (1, .func (.func 90) #[] #[.pointer (some ⟨b1_0', o1_0', none⟩)]), (7, .int .i64 (s_0.length : Int)), (8, .int .i64 0)] ⟨rfl, rfl, rfl, rfl, trivial⟩ ?_
  refine WP.loop (fun n' env' w' => ∃ (st4 : Int) , env' = [(0, .slice a0' s_0.length c0'), (1, .func (.func 90) #[] #[.pointer (some ⟨b1_0', o1_0', none⟩)]), (7, .int .i64 (s_0.length : Int)), (8, .int .i64 st4)] ∧ Ext w w' ∧ w.heap.size ≤ w'.heap.size ∧ SH w' w.heap.size [] ∧ loopN (m_slices_IndexFunc_impl_Repair_impl_Repair_f90_l1 n s_0 cap_1_0) n' st4 = some t15) n ⟨0, rfl, (Ext.refl w), (Nat.le_refl _), (SH.nil _ _), ht16⟩ ?_
  rintro n12 _ w5 ⟨st4, rfl, hb6, hL7, hS8, hl9⟩ K11 hK11
  obtain ⟨n13, s14, rfl, hm, hl9⟩ := loopN_some hl9
  unfold m_slices_IndexFunc_impl_Repair_impl_Repair_f90_l1 at hm
  refine WP.seq (fun K17 hK17 => ?_)
  refine WP.region ?_
  refine WL.runk 1 [0, 1, 7, 8, 9] [(0, .slice a0' s_0.length c0'), (1, .func (.func 90) #[] #[.pointer (some ⟨b1_0', o1_0', none⟩)]), (7, .int .i64 (s_0.length : Int)), (8, .int .i64 st4), (9, .bool (decide (st4 < (s_0.length : Int))))] (by kernel_rfl) ?_
  refine WL.nil ?_
  refine WQ.then_normal (hK17 _ _ _ ?_)
  refine WP.seq (fun K18 hK18 => ?_)
  refine WP.cond (decide (st4 < (s_0.length : Int))) rfl rfl (fun hc19 => ?_) (fun hc19 => ?_)
  rotate_left
  · have hm := iteF hm hc19
    refine WP.exit ?_
    refine WQ.then_exit ?_
    refine WQ.then_exit ?_
    refine WQ.block_here ?_
    obtain rfl := Option.some.inj hm
    obtain rfl := afterN_done hl9
    have hm := hmo10
    refine WQ.then_normal (hK2 _ _ _ ?_)
    refine WP.seq (fun K46 hK46 => ?_)
    refine WP.region ?_
    refine WL.runk 1 [4] [(4, .int .i64 (-1))] (by kernel_rfl) ?_
    refine WL.nil ?_
    refine WQ.then_normal (hK46 _ _ _ ?_)
    refine WP.ret ?_
    obtain rfl := Option.some.inj hm
    exact WQ.ret1 _ rfl rfl ⟨rfl, hb6⟩
  have hm := iteT hm hc19
  refine WP.skip ?_
  refine WQ.then_normal (hK18 _ _ _ ?_)
  refine WP.seq (fun K20 hK20 => ?_)
  refine WP.block ?_
  refine WP.seq (fun K21 hK21 => ?_)
  refine WP.region ?_
  refine WL.runk 2 [0, 1, 5, 7, 8] [(0, .slice a0' s_0.length c0'), (1, .func (.func 90) #[] #[.pointer (some ⟨b1_0', o1_0', none⟩)]), (7, .int .i64 (s_0.length : Int)), (8, .int .i64 st4), (5, .int .i64 st4)] (by kernel_rfl) ?_
  refine WL.nil ?_
  refine WQ.then_normal (hK21 _ _ _ ?_)
  refine WP.seq (fun K22 hK22 => ?_)
  refine WP.region ?_
  refine WL.runk 3 [0, 1, 5, 7, 8, 11, 12, 13] [(0, .slice a0' s_0.length c0'), (1, .func (.func 90) #[] #[.pointer (some ⟨b1_0', o1_0', none⟩)]), (7, .int .i64 (s_0.length : Int)), (8, .int .i64 st4), (5, .int .i64 st4), (11, .func (.func 90) #[] #[.pointer (some ⟨b1_0', o1_0', none⟩)]), (12, .slice a0' s_0.length c0'), (13, .int .i64 st4)] (by kernel_rfl) ?_
  obtain ⟨x23, hx24, hm⟩ := bindE hm
  obtain ⟨a25, c26, a30, c31, hc35, hR27, hle28, hR32, hle33⟩ := nest_Repair h0 hx24
  refine WL.st (.pointer (some (at_ a0' (Int.toNat st4 * 5)))) (ST.index (T := fRepair.ty) (xs := s_0) (Rd.below h0 hb6) hx24 rfl rfl rfl Try.underlying24 (info73).1 (info73).2.1) rfl rfl rfl ?_
  refine WL.st (.agg #[.string (bs x23.Name), .slice a25 x23.Mends.length c26, .slice a30 x23.First.length c31, .int .i64 x23.Price, .int .i64 x23.Hours]) (ST.loadAgg (vs := [.string (bs x23.Name), .slice a25 x23.Mends.length c26, .slice a30 x23.First.length c31, .int .i64 x23.Price, .int .i64 x23.Hours]) (at_agg (cells_ext hc35 hb6)) rfl rfl rfl Try.underlying73 rfl (info73).1 (info73).2.1) rfl rfl rfl ?_
  obtain ⟨x36, hx37, hm⟩ := bindE hm
  refine WL.call 90 #[.agg #[.string (bs x23.Name), .slice a25 x23.Mends.length c26, .slice a30 x23.First.length c31, .int .i64 x23.Price, .int .i64 x23.Hours], .pointer (some ⟨b1_0', o1_0', none⟩)] rfl rfl (by kernel_rfl) (c_90 n x23 a25 c26 a30 c31 cap_1_0 b1_0' o1_0' w5 hx37 (Rd.below hR27 hb6) hle28 (Rd.below hR32 hb6) hle33 (RdB.below h1_0 hb6)) ?_
  rintro _ w38 ⟨rfl, hE39⟩
  refine ⟨_, rfl, ?_⟩
  have hb41 : Ext w w38 := Ext.trans hb6 hE39
  have hL42 : w.heap.size ≤ w38.heap.size := Nat.le_trans hL7 hE39.size
  have hS43 : SH w38 w.heap.size [] := SH.ext hS8 hE39
  refine WL.sub [(0, .slice a0' s_0.length c0'), (1, .func (.func 90) #[] #[.pointer (some ⟨b1_0', o1_0', none⟩)]), (7, .int .i64 (s_0.length : Int)), (8, .int .i64 st4), (5, .int .i64 st4), (16, .bool x36)] ⟨rfl, rfl, rfl, rfl, rfl, rfl, trivial⟩ ?_
  refine WL.nil ?_
  refine WQ.then_normal (hK22 _ _ _ ?_)
  refine WP.cond x36 rfl rfl (fun hc44 => ?_) (fun hc44 => ?_)
  rotate_left
  · have hm := iteF hm hc44
    refine WP.skip ?_
    refine WQ.block_normal ?_
    refine WQ.then_normal (hK20 _ _ _ ?_)
    refine WP.region ?_
    refine WL.runk 2 [0, 1, 7, 8] [(0, .slice a0' s_0.length c0'), (1, .func (.func 90) #[] #[.pointer (some ⟨b1_0', o1_0', none⟩)]), (7, .int .i64 (s_0.length : Int)), (8, .int .i64 (wI64 (st4 + 1)))] (by kernel_rfl) ?_
    refine WL.nil ?_
    obtain rfl := Option.some.inj hm
    exact WQ.round hK11 ⟨(wI64 (st4 + 1)), rfl, hb41, hL42, hS43, hl9⟩ (Nat.lt_succ_self _) ⟨rfl, rfl, rfl, rfl, trivial⟩
  have hm := iteT hm hc44
  refine WP.seq (fun K45 hK45 => ?_)
  refine WP.region ?_
  refine WL.runk 2 [4] [(4, .int .i64 st4)] (by kernel_rfl) ?_
  refine WL.nil ?_
  refine WQ.then_normal (hK45 _ _ _ ?_)
  refine WP.ret ?_
  refine WQ.block_ret ?_
  refine WQ.then_ret ?_
  refine WQ.then_ret ?_
  refine WQ.block_ret ?_
  refine WQ.then_ret ?_
  obtain rfl := Option.some.inj hm
  obtain rfl := afterN_done hl9
  have hm := hmo10
  obtain rfl := Option.some.inj hm
  exact WQ.ret1 _ rfl rfl ⟨rfl, hb41⟩

theorem c_78_90 (n : Nat) (s_0 : List SRepair) (a0' : Option Addr) (c0' : Nat) (cap_1_0 : Int) (b1_0' o1_0' : Nat) (w : World) {r : Bool} (hm : m_slices_ContainsFunc_impl_Repair_impl_Repair_f90 n s_0 cap_1_0 = some r) (h0 : Rd fRepair.ty w a0' s_0) (hle0 : s_0.length ≤ c0') (h1_0 : RdB w b1_0' o1_0' [.int .i64 cap_1_0]) :
    CallV Try.prog 78 #[.slice a0' s_0.length c0', .func (.func 90) #[] #[.pointer (some ⟨b1_0', o1_0', none⟩)]] w (fun v w' => v = .bool r ∧ Ext w w') := by
  unfold m_slices_ContainsFunc_impl_Repair_impl_Repair_f90 at hm
  refine CallV.enter Try.func78 rfl (by kernel_rfl) Try.ntmps78 (env := [(0, .slice a0' s_0.length c0'), (1, .func (.func 90) #[] #[.pointer (some ⟨b1_0', o1_0', none⟩)])]) ⟨rfl, rfl, trivial⟩ ?_
  refine WP.seq (fun K1 hK1 => ?_)
  refine WP.region ?_
  refine WL.runk 1 [0, 1] [(0, .slice a0' s_0.length c0'), (1, .func (.func 90) #[] #[.pointer (some ⟨b1_0', o1_0', none⟩)])] (by kernel_rfl) ?_
  refine WL.nil ?_
  refine WQ.then_normal (hK1 _ _ _ ?_)
  refine WP.seq (fun K2 hK2 => ?_)
  refine WP.region ?_
  refine WL.runk 2 [5, 6] [(5, .slice a0' s_0.length c0'), (6, .func (.func 90) #[] #[.pointer (some ⟨b1_0', o1_0', none⟩)])] (by kernel_rfl) ?_
  obtain ⟨x3, hx4, hm⟩ := bindE hm
  refine WL.call 105 #[.slice a0' s_0.length c0', .func (.func 90) #[] #[.pointer (some ⟨b1_0', o1_0', none⟩)]] rfl rfl (by kernel_rfl) (c_105_90 n s_0 a0' c0' cap_1_0 b1_0' o1_0' w hx4 (Rd.below h0 (Ext.refl w)) hle0 (RdB.below h1_0 (Ext.refl w))) ?_
  rintro _ w5 ⟨rfl, hE6⟩
  refine ⟨_, rfl, ?_⟩
  have hb8 : Ext w w5 := Ext.trans (Ext.refl w) hE6
  have hL9 : w.heap.size ≤ w5.heap.size := Nat.le_trans (Nat.le_refl _) hE6.size
  have hS10 : SH w5 w.heap.size [] := SH.ext (SH.nil _ _) hE6
  refine WL.runk 2 [4] [(4, .bool (decide (x3 ≥ 0)))] (by kernel_rfl) ?_
  refine WL.nil ?_
  refine WQ.then_normal (hK2 _ _ _ ?_)
  refine WP.ret ?_
  obtain rfl := Option.some.inj hm
  exact WQ.ret1 _ rfl rfl ⟨rfl, hb8⟩

theorem c_89 (n : Nat) (fault_0 : Int) (cap_1 : List SRepair) (b1' o1' : Nat) (a1' : Option Addr) (c1' : Nat) (w : World) {r : Bool} (hm : m_impl_HopelessFaults_1 n fault_0 cap_1 = some r) (h1 : RdB w b1' o1' [.slice a1' cap_1.length c1']) (hr1 : Rd fRepair.ty w a1' cap_1) (hle1 : cap_1.length ≤ c1') :
    CallV Try.prog 89 #[.int .i64 fault_0, .pointer (some ⟨b1', o1', none⟩)] w (fun v w' => v = .bool r ∧ Ext w w') := by
  unfold m_impl_HopelessFaults_1 at hm
  refine CallV.enter Try.func89 rfl (by kernel_rfl) Try.ntmps89 (env := [(0, .int .i64 fault_0), (1, .pointer (some ⟨b1', o1', none⟩))]) ⟨rfl, rfl, trivial⟩ ?_
  refine WP.seq (fun K1 hK1 => ?_)
  refine WP.region ?_
  refine WL.box 2 [.int .i64 fault_0] 2 (by kernel_rfl) rfl rfl rfl rfl ?_
  intro b2 w3 hE4 hR5
  have hb7 : Ext w w3 := Ext.trans (Ext.refl w) hE4
  have hL8 : w.heap.size ≤ w3.heap.size := Nat.le_trans (Nat.le_refl _) hE4.size
  have hS9 : SH w3 w.heap.size [aBox 2 b2 [.int .i64 fault_0]] := SH.add (SH.nil _ _) hE4 (Nat.le_refl _) hR5
  refine WL.runk 1 [1, 2] [(1, .pointer (some ⟨b1', o1', none⟩)), (2, .pointer (some ⟨b2, 0, none⟩))] (by kernel_rfl) ?_
  refine WL.nil ?_
  refine WQ.then_normal (hK1 _ _ _ ?_)
  refine WP.seq (fun K10 hK10 => ?_)
  refine WP.region ?_
  refine WL.st (.slice a1' cap_1.length c1') (ST.load (cell_ext (RdB.at (RdB.below h1 hb7) 0 _ rfl)) rfl rfl Try.underlying24 rfl) rfl rfl rfl ?_
  refine WL.runk 1 [4, 5] [(4, .slice a1' cap_1.length c1'), (5, .func (.func 90) #[] #[.pointer (some ⟨b2, 0, none⟩)])] (by kernel_rfl) ?_
  obtain ⟨x11, hx12, hm⟩ := bindE hm
  refine WL.call 78 #[.slice a1' cap_1.length c1', .func (.func 90) #[] #[.pointer (some ⟨b2, 0, none⟩)]] rfl rfl (by kernel_rfl) (c_78_90 n cap_1 a1' c1' fault_0 b2 0 w3 hx12 (Rd.below hr1 hb7) hle1 (SH.boxRd (SH.front 0 hS9))) ?_
  rintro _ w13 ⟨rfl, hE14⟩
  refine ⟨_, rfl, ?_⟩
  have hb16 : Ext w w13 := Ext.trans hb7 hE14
  have hL17 : w.heap.size ≤ w13.heap.size := Nat.le_trans hL8 hE14.size
  have hS18 : SH w13 w.heap.size [aBox 2 b2 [.int .i64 fault_0]] := SH.ext hS9 hE14
  refine WL.runk 1 [3] [(3, .bool x11)] (by kernel_rfl) ?_
  refine WL.nil ?_
  refine WQ.then_normal (hK10 _ _ _ ?_)
  refine WP.ret ?_
  obtain rfl := Option.some.inj hm
  exact WQ.ret1 _ rfl rfl ⟨rfl, hb16⟩

theorem c_108_89 (n : Nat) (s_0 : List Int) (a0' : Option Addr) (c0' : Nat) (cap_1_0 : List SRepair) (b1_0' o1_0' : Nat) (a1_0' : Option Addr) (c1_0' : Nat) (w : World) {r : Int} (hm : m_slices_IndexFunc_int64_int64_f89 n s_0 cap_1_0 = some r) (h0 : Rd fInt.ty w a0' s_0) (_hle0 : s_0.length ≤ c0') (h1_0 : RdB w b1_0' o1_0' [.slice a1_0' cap_1_0.length c1_0']) (hr1_0 : Rd fRepair.ty w a1_0' cap_1_0) (hle1_0 : cap_1_0.length ≤ c1_0') :
    CallV Try.prog 108 #[.slice a0' s_0.length c0', .func (.func 89) #[] #[.pointer (some ⟨b1_0', o1_0', none⟩)]] w (fun v w' => v = .int .i64 r ∧ Ext w w') := by
  unfold m_slices_IndexFunc_int64_int64_f89 at hm
  refine CallV.enter Try.func108 rfl (by kernel_rfl) Try.ntmps108 (env := [(0, .slice a0' s_0.length c0'), (1, .func (.func 89) #[] #[.pointer (some ⟨b1_0', o1_0', none⟩)])]) ⟨rfl, rfl, trivial⟩ ?_
  refine WP.seq (fun K1 hK1 => ?_)
  refine WP.region ?_
  refine WL.runk 1 [0, 1] [(0, .slice a0' s_0.length c0'), (1, .func (.func 89) #[] #[.pointer (some ⟨b1_0', o1_0', none⟩)])] (by kernel_rfl) ?_
  refine WL.nil ?_
  refine WQ.then_normal (hK1 _ _ _ ?_)
  refine WP.seq (fun K2 hK2 => ?_)
  refine WP.seq (fun K3 hK3 => ?_)
  refine WP.region ?_
  refine WL.runk 3 [0, 1, 7, 8] [(0, .slice a0' s_0.length c0'), (1, .func (.func 89) #[] #[.pointer (some ⟨b1_0', o1_0', none⟩)]), (7, .int .i64 (s_0.length : Int)), (8, .int .i64 0)] (by kernel_rfl) ?_
  refine WL.nil ?_
  refine WQ.then_normal (hK3 _ _ _ ?_)
  refine WP.block ?_
  obtain ⟨t15, ht16, hm⟩ := bindE hm
  have hmo10 := hm; clear hm
  refine WP.sub [(0, .slice a0' s_0.length c0'), (1, .func (.func 89) #[] #[.pointer (some ⟨b1_0', o1_0', none⟩)]), (7, .int .i64 (s_0.length : Int)), (8, .int .i64 0)] ⟨rfl, rfl, rfl, rfl, trivial⟩ ?_
  refine WP.loop (fun n' env' w' => ∃ (st4 : Int) , env' = [(0, .slice a0' s_0.length c0'), (1, .func (.func 89) #[] #[.pointer (some ⟨b1_0', o1_0', none⟩)]), (7, .int .i64 (s_0.length : Int)), (8, .int .i64 st4)] ∧ Ext w w' ∧ w.heap.size ≤ w'.heap.size ∧ SH w' w.heap.size [] ∧ loopN (m_slices_IndexFunc_int64_int64_f89_l1 n s_0 cap_1_0) n' st4 = some t15) n ⟨0, rfl, (Ext.refl w), (Nat.le_refl _), (SH.nil _ _), ht16⟩ ?_
  rintro n12 _ w5 ⟨st4, rfl, hb6, hL7, hS8, hl9⟩ K11 hK11
  obtain ⟨n13, s14, rfl, hm, hl9⟩ := loopN_some hl9
  unfold m_slices_IndexFunc_int64_int64_f89_l1 at hm
  refine WP.seq (fun K17 hK17 => ?_)
  refine WP.region ?_
  refine WL.runk 1 [0, 1, 7, 8, 9] [(0, .slice a0' s_0.length c0'), (1, .func (.func 89) #[] #[.pointer (some ⟨b1_0', o1_0', none⟩)]), (7, .int .i64 (s_0.length : Int)), (8, .int .i64 st4), (9, .bool (decide (st4 < (s_0.length : Int))))] (by kernel_rfl) ?_
  refine WL.nil ?_
  refine WQ.then_normal (hK17 _ _ _ ?_)
  refine WP.seq (fun K18 hK18 => ?_)
  refine WP.cond (decide (st4 < (s_0.length : Int))) rfl rfl (fun hc19 => ?_) (fun hc19 => ?_)
  rotate_left
  · have hm := iteF hm hc19
    refine WP.exit ?_
    refine WQ.then_exit ?_
    refine WQ.then_exit ?_
    refine WQ.block_here ?_
    obtain rfl := Option.some.inj hm
    obtain rfl := afterN_done hl9
    have hm := hmo10
    refine WQ.then_normal (hK2 _ _ _ ?_)
    refine WP.seq (fun K35 hK35 => ?_)
    refine WP.region ?_
    refine WL.runk 1 [4] [(4, .int .i64 (-1))] (by kernel_rfl) ?_
    refine WL.nil ?_
    refine WQ.then_normal (hK35 _ _ _ ?_)
    refine WP.ret ?_
    obtain rfl := Option.some.inj hm
    exact WQ.ret1 _ rfl rfl ⟨rfl, hb6⟩
  have hm := iteT hm hc19
  refine WP.skip ?_
  refine WQ.then_normal (hK18 _ _ _ ?_)
  refine WP.seq (fun K20 hK20 => ?_)
  refine WP.block ?_
  refine WP.seq (fun K21 hK21 => ?_)
  refine WP.region ?_
  refine WL.runk 2 [0, 1, 5, 7, 8] [(0, .slice a0' s_0.length c0'), (1, .func (.func 89) #[] #[.pointer (some ⟨b1_0', o1_0', none⟩)]), (7, .int .i64 (s_0.length : Int)), (8, .int .i64 st4), (5, .int .i64 st4)] (by kernel_rfl) ?_
  refine WL.nil ?_
  refine WQ.then_normal (hK21 _ _ _ ?_)
  refine WP.seq (fun K22 hK22 => ?_)
  refine WP.region ?_
  refine WL.runk 3 [0, 1, 5, 7, 8, 11, 12, 13] [(0, .slice a0' s_0.length c0'), (1, .func (.func 89) #[] #[.pointer (some ⟨b1_0', o1_0', none⟩)]), (7, .int .i64 (s_0.length : Int)), (8, .int .i64 st4), (5, .int .i64 st4), (11, .func (.func 89) #[] #[.pointer (some ⟨b1_0', o1_0', none⟩)]), (12, .slice a0' s_0.length c0'), (13, .int .i64 st4)] (by kernel_rfl) ?_
  obtain ⟨x23, hx24, hm⟩ := bindE hm
  refine WL.st (.pointer (some (at_ a0' (Int.toNat st4 * 1)))) (ST.index (T := fInt.ty) (xs := s_0) (Rd.below h0 hb6) hx24 rfl rfl rfl Try.underlying25 (info2).1 (info2).2.1) rfl rfl rfl ?_
  refine WL.st (.int .i64 x23) (ST.load (cell_ext (Rd.flat (F := fInt) (Rd.below h0 hb6) hx24 0 rfl)) rfl rfl Try.underlying2 rfl) rfl rfl rfl ?_
  obtain ⟨x25, hx26, hm⟩ := bindE hm
  refine WL.call 89 #[.int .i64 x23, .pointer (some ⟨b1_0', o1_0', none⟩)] rfl rfl (by kernel_rfl) (c_89 n x23 cap_1_0 b1_0' o1_0' a1_0' c1_0' w5 hx26 (RdB.below h1_0 hb6) (Rd.below hr1_0 hb6) hle1_0) ?_
  rintro _ w27 ⟨rfl, hE28⟩
  refine ⟨_, rfl, ?_⟩
  have hb30 : Ext w w27 := Ext.trans hb6 hE28
  have hL31 : w.heap.size ≤ w27.heap.size := Nat.le_trans hL7 hE28.size
  have hS32 : SH w27 w.heap.size [] := SH.ext hS8 hE28
  refine WL.sub [(0, .slice a0' s_0.length c0'), (1, .func (.func 89) #[] #[.pointer (some ⟨b1_0', o1_0', none⟩)]), (7, .int .i64 (s_0.length : Int)), (8, .int .i64 st4), (5, .int .i64 st4), (16, .bool x25)] ⟨rfl, rfl, rfl, rfl, rfl, rfl, trivial⟩ ?_
  refine WL.nil ?_
  refine WQ.then_normal (hK22 _ _ _ ?_)
  refine WP.cond x25 rfl rfl (fun hc33 => ?_) (fun hc33 => ?_)
  rotate_left
  · have hm := iteF hm hc33
    refine WP.skip ?_
    refine WQ.block_normal ?_
    refine WQ.then_normal (hK20 _ _ _ ?_)
    refine WP.region ?_
    refine WL.runk 2 [0, 1, 7, 8] [(0, .slice a0' s_0.length c0'), (1, .func (.func 89) #[] #[.pointer (some ⟨b1_0', o1_0', none⟩)]), (7, .int .i64 (s_0.length : Int)), (8, .int .i64 (wI64 (st4 + 1)))] (by kernel_rfl) ?_
    refine WL.nil ?_
    obtain rfl := Option.some.inj hm
    exact WQ.round hK11 ⟨(wI64 (st4 + 1)), rfl, hb30, hL31, hS32, hl9⟩ (Nat.lt_succ_self _) ⟨rfl, rfl, rfl, rfl, trivial⟩
  have hm := iteT hm hc33
  refine WP.seq (fun K34 hK34 => ?_)
  refine WP.region ?_
  refine WL.runk 2 [4] [(4, .int .i64 st4)] (by kernel_rfl) ?_
  refine WL.nil ?_
  refine WQ.then_normal (hK34 _ _ _ ?_)
  refine WP.ret ?_
  refine WQ.block_ret ?_
  refine WQ.then_ret ?_
  refine WQ.then_ret ?_
  refine WQ.block_ret ?_
  refine WQ.then_ret ?_
  obtain rfl := Option.some.inj hm
  obtain rfl := afterN_done hl9
  have hm := hmo10
  obtain rfl := Option.some.inj hm
  exact WQ.ret1 _ rfl rfl ⟨rfl, hb30⟩

theorem c_87_89_o1 (n : Nat) (s_0 : List Int) (a0' : Option Addr) (c0' : Nat) (cap_1_0 : List SRepair) (b1_0' : Nat) (a1_0' : Option Addr) (c1_0' : Nat) (w : World) (w0 : World) (B : Nat) (L : List Asrt) {r : List Int} (hm : m_slices_DeleteFunc_int64_int64_f89_o1 n s_0 cap_1_0 = some r) (hE0 : Ext w0 w) (hW : w0.heap.size ≤ B) (hL : B ≤ w.heap.size) (h1_0 : Rd fRepair.ty w0 a1_0' cap_1_0) (hle1_0 : cap_1_0.length ≤ c1_0') (hS : SH w B (aOwn fInt 2 a0' c0' s_0 :: aBox 24 b1_0' [.slice a1_0' cap_1_0.length c1_0'] :: L)) :
    CallV Try.prog 87 #[.slice a0' s_0.length c0', .func (.func 89) #[] #[.pointer (some ⟨b1_0', 0, none⟩)]] w (fun v w' => ∃ (ra0 : Option Addr) (rc0 : Nat), v = .slice ra0 r.length rc0 ∧ Below B w w' ∧ SH w' B (aOwn fInt 2 ra0 rc0 r :: aBox 24 b1_0' [.slice a1_0' cap_1_0.length c1_0'] :: L)) := by
  unfold m_slices_DeleteFunc_int64_int64_f89_o1 at hm
  refine CallV.enter Try.func87 rfl (by kernel_rfl) Try.ntmps87 (env := [(0, .slice a0' s_0.length c0'), (1, .func (.func 89) #[] #[.pointer (some ⟨b1_0', 0, none⟩)])]) ⟨rfl, rfl, trivial⟩ ?_
  refine WP.seq (fun K1 hK1 => ?_)
  refine WP.region ?_
  refine WL.runk 1 [0, 1] [(0, .slice a0' s_0.length c0'), (1, .func (.func 89) #[] #[.pointer (some ⟨b1_0', 0, none⟩)])] (by kernel_rfl) ?_
  refine WL.nil ?_
  refine WQ.then_normal (hK1 _ _ _ ?_)
  refine WP.seq (fun K2 hK2 => ?_)
  refine WP.region ?_
  refine WL.runk 2 [0, 1, 8, 9] [(0, .slice a0' s_0.length c0'), (1, .func (.func 89) #[] #[.pointer (some ⟨b1_0', 0, none⟩)]), (8, .slice a0' s_0.length c0'), (9, .func (.func 89) #[] #[.pointer (some ⟨b1_0', 0, none⟩)])] (by kernel_rfl) ?_
  obtain ⟨x3, hx4, hm⟩ := bindE hm
  refine WL.call 108 #[.slice a0' s_0.length c0', .func (.func 89) #[] #[.pointer (some ⟨b1_0', 0, none⟩)]] rfl rfl (by kernel_rfl) (c_108_89 n s_0 a0' c0' cap_1_0 b1_0' 0 a1_0' c1_0' w hx4 (SH.rd (SH.front 0 hS)) (SH.le (SH.front 0 hS)).1 (SH.boxRd (SH.front 1 hS)) (Rd.below h1_0 (Below.trans hE0 (Below.mono (Below.refl _ _) hW))) hle1_0) ?_
  rintro _ w5 ⟨rfl, hE6⟩
  refine ⟨_, rfl, ?_⟩
  have hb8 : Below B w w5 := Below.trans (Below.refl _ _) (Below.mono hE6 hL)
  have hL9 : B ≤ w5.heap.size := Nat.le_trans hL hE6.size
  have hS10 : SH w5 B (aOwn fInt 2 a0' c0' s_0 :: aBox 24 b1_0' [.slice a1_0' cap_1_0.length c1_0'] :: L) := SH.ext hS hE6
  refine WL.runk 1 [0, 1, 5] [(0, .slice a0' s_0.length c0'), (1, .func (.func 89) #[] #[.pointer (some ⟨b1_0', 0, none⟩)]), (5, .int .i64 x3)] (by kernel_rfl) ?_
  refine WL.nil ?_
  refine WQ.then_normal (hK2 _ _ _ ?_)
  refine WP.seq (fun K11 hK11 => ?_)
  refine WP.seq (fun K12 hK12 => ?_)
  refine WP.region ?_
  refine WL.runk 2 [0, 1, 5, 12] [(0, .slice a0' s_0.length c0'), (1, .func (.func 89) #[] #[.pointer (some ⟨b1_0', 0, none⟩)]), (5, .int .i64 x3), (12, .bool (x3 == (-1)))] (by kernel_rfl) ?_
  refine WL.nil ?_
  refine WQ.then_normal (hK12 _ _ _ ?_)
  refine WP.cond (x3 == (-1)) rfl rfl (fun hc13 => ?_) (fun hc13 => ?_)
  · have hm := iteT hm hc13
    refine WP.seq (fun K14 hK14 => ?_)
    refine WP.region ?_
    refine WL.runk 2 [4] [(4, .slice a0' s_0.length c0')] (by kernel_rfl) ?_
    refine WL.nil ?_
    refine WQ.then_normal (hK14 _ _ _ ?_)
    refine WP.ret ?_
    refine WQ.then_ret ?_
    obtain rfl := Option.some.inj hm
    exact WQ.ret1 _ rfl rfl ⟨_, _, rfl, hb8, hS10⟩
  have hm := iteF hm hc13
  refine WP.skip ?_
  refine WQ.then_normal (hK11 _ _ _ ?_)
  refine WP.seq (fun K15 hK15 => ?_)
  refine WP.seq (fun K16 hK16 => ?_)
  refine WP.region ?_
  refine WL.runk 3 [0, 1, 5, 6] [(0, .slice a0' s_0.length c0'), (1, .func (.func 89) #[] #[.pointer (some ⟨b1_0', 0, none⟩)]), (5, .int .i64 x3), (6, .int .i64 (wI64 (x3 + 1)))] (by kernel_rfl) ?_
  refine WL.nil ?_
  refine WQ.then_normal (hK16 _ _ _ ?_)
  refine WP.block ?_
  obtain ⟨t112, ht113, hm⟩ := bindE hm
  have hmo107 := hm; clear hm
  refine WP.sub [(0, .slice a0' s_0.length c0'), (1, .func (.func 89) #[] #[.pointer (some ⟨b1_0', 0, none⟩)]), (5, .int .i64 x3), (6, .int .i64 (wI64 (x3 + 1)))] ⟨rfl, rfl, rfl, rfl, trivial⟩ ?_
  refine WP.loop (fun n' env' w' => ∃ (st101 : Int × Int × List Int) , env' = [(0, .slice a0' st101.2.2.length c0'), (1, .func (.func 89) #[] #[.pointer (some ⟨b1_0', 0, none⟩)]), (5, .int .i64 st101.1), (6, .int .i64 st101.2.1)] ∧ Below B w w' ∧ B ≤ w'.heap.size ∧ SH w' B (aOwn fInt 2 a0' c0' st101.2.2 :: aBox 24 b1_0' [.slice a1_0' cap_1_0.length c1_0'] :: L) ∧ loopN (m_slices_DeleteFunc_int64_int64_f89_o1_l1 n cap_1_0) n' st101 = some t112) n ⟨(x3, (wI64 (x3 + 1)), s_0), rfl, hb8, hL9, hS10, ht113⟩ ?_
  rintro n109 _ w102 ⟨st101, rfl, hb103, hL104, hS105, hl106⟩ K108 hK108
  obtain ⟨n110, s111, rfl, hm, hl106⟩ := loopN_some hl106
  unfold m_slices_DeleteFunc_int64_int64_f89_o1_l1 at hm
  refine WP.seq (fun K114 hK114 => ?_)
  refine WP.seq (fun K115 hK115 => ?_)
  refine WP.region ?_
  refine WL.runk 4 [0, 1, 5, 6, 19] [(0, .slice a0' st101.2.2.length c0'), (1, .func (.func 89) #[] #[.pointer (some ⟨b1_0', 0, none⟩)]), (5, .int .i64 st101.1), (6, .int .i64 st101.2.1), (19, .bool (decide (st101.2.1 < (st101.2.2.length : Int))))] (by kernel_rfl) ?_
  refine WL.nil ?_
  refine WQ.then_normal (hK115 _ _ _ ?_)
  refine WP.cond (decide (st101.2.1 < (st101.2.2.length : Int))) rfl rfl (fun hc116 => ?_) (fun hc116 => ?_)
  rotate_left
  · have hm := iteF hm hc116
    refine WP.exit ?_
    refine WQ.then_exit ?_
    refine WQ.then_exit ?_
    refine WQ.block_here ?_
    obtain rfl := Option.some.inj hm
    obtain rfl := afterN_done hl106
    have hm := hmo107
    refine WQ.then_normal (hK15 _ _ _ ?_)
    refine WP.seq (fun K171 hK171 => ?_)
    refine WP.region ?_
    refine WL.runk 2 [0, 5, 36, 37] [(0, .slice a0' st101.2.2.length c0'), (5, .int .i64 st101.1), (36, .slice a0' st101.2.2.length c0'), (37, .int .i64 st101.1)] (by kernel_rfl) ?_
    obtain ⟨x172, hx173, hm⟩ := bindE hm
    refine WL.clearTail (F := fInt) 0 38 (SH.front 0 hS105) hL104 hx173 rfl rfl Try.underlying25 (info2).1 (info2).2.2.1 (info2).2.1 rfl ⟨_, rfl⟩ rfl rfl rfl rfl rfl rfl rfl ?_
    intro w174 v177 hB175 hS176
    have hb178 : Below B w w174 := Below.trans hb103 hB175
    have hL179 : B ≤ w174.heap.size := Nat.le_trans hL104 hB175.size
    have hl180 : (st101.2.2.take (Int.toNat st101.1) ++ List.replicate (st101.2.2.length - Int.toNat st101.1) 0).length = st101.2.2.length := cut_len (sub_le hx173)
    refine WL.sub [(0, .slice a0' ((st101.2.2.take (Int.toNat st101.1) ++ List.replicate (st101.2.2.length - Int.toNat st101.1) 0).length) c0'), (5, .int .i64 st101.1), (36, .slice a0' ((st101.2.2.take (Int.toNat st101.1) ++ List.replicate (st101.2.2.length - Int.toNat st101.1) 0).length) c0'), (37, .int .i64 st101.1)] ⟨by rw [hl180]; rfl, rfl, by rw [hl180]; rfl, rfl, trivial⟩ ?_
    refine WL.sub [(0, .slice a0' ((st101.2.2.take (Int.toNat st101.1) ++ List.replicate (st101.2.2.length - Int.toNat st101.1) 0).length) c0'), (5, .int .i64 st101.1)] ⟨rfl, rfl, trivial⟩ ?_
    refine WL.nil ?_
    refine WQ.then_normal (hK171 _ _ _ ?_)
    refine WP.seq (fun K181 hK181 => ?_)
    refine WP.region ?_
    refine WL.runk 2 [39, 40] [(39, .slice a0' ((st101.2.2.take (Int.toNat st101.1) ++ List.replicate (st101.2.2.length - Int.toNat st101.1) 0).length) c0'), (40, .int .i64 st101.1)] (by kernel_rfl) ?_
    obtain ⟨x182, hx183, hm⟩ := bindE hm
    refine WL.shrink (F := fInt) 41 (SH.front 0 hS176) hx183 rfl rfl Try.underlying25 (info2).1 (info2).2.1 ⟨_, rfl⟩ rfl rfl rfl rfl ?_
    intro hS184
    refine WL.runk 1 [4] [(4, .slice a0' x182.length c0')] (by kernel_rfl) ?_
    refine WL.nil ?_
    refine WQ.then_normal (hK181 _ _ _ ?_)
    refine WP.ret ?_
    obtain rfl := Option.some.inj hm
    exact WQ.ret1 _ rfl rfl ⟨_, _, rfl, hb178, hS184⟩
  have hm := iteT hm hc116
  refine WP.skip ?_
  refine WQ.then_normal (hK114 _ _ _ ?_)
  refine WP.seq (fun K117 hK117 => ?_)
  refine WP.block ?_
  refine WP.seq (fun K118 hK118 => ?_)
  refine WP.region ?_
  refine WL.runk 2 [0, 1, 5, 6, 22, 23] [(0, .slice a0' st101.2.2.length c0'), (1, .func (.func 89) #[] #[.pointer (some ⟨b1_0', 0, none⟩)]), (5, .int .i64 st101.1), (6, .int .i64 st101.2.1), (22, .slice a0' st101.2.2.length c0'), (23, .int .i64 st101.2.1)] (by kernel_rfl) ?_
  obtain ⟨x119, hx120, hm⟩ := bindE hm
  refine WL.st (.pointer (some (at_ a0' (Int.toNat st101.2.1 * 1)))) (ST.index (T := fInt.ty) (xs := st101.2.2) (SH.rd (SH.front 0 hS105)) hx120 rfl rfl rfl Try.underlying25 (info2).1 (info2).2.1) rfl rfl rfl ?_
  refine WL.st (.int .i64 x119) (ST.load (cell_ext (Rd.flat (F := fInt) (SH.rd (SH.front 0 hS105)) hx120 0 rfl)) rfl rfl Try.underlying2 rfl) rfl rfl rfl ?_
  refine WL.runk 1 [0, 1, 5, 6, 7] [(0, .slice a0' st101.2.2.length c0'), (1, .func (.func 89) #[] #[.pointer (some ⟨b1_0', 0, none⟩)]), (5, .int .i64 st101.1), (6, .int .i64 st101.2.1), (7, .int .i64 x119)] (by kernel_rfl) ?_
  refine WL.nil ?_
  refine WQ.then_normal (hK118 _ _ _ ?_)
  refine WP.seq (fun K121 hK121 => ?_)
  refine WP.region ?_
  refine WL.runk 2 [0, 1, 5, 6, 7, 26, 27] [(0, .slice a0' st101.2.2.length c0'), (1, .func (.func 89) #[] #[.pointer (some ⟨b1_0', 0, none⟩)]), (5, .int .i64 st101.1), (6, .int .i64 st101.2.1), (7, .int .i64 x119), (26, .func (.func 89) #[] #[.pointer (some ⟨b1_0', 0, none⟩)]), (27, .int .i64 x119)] (by kernel_rfl) ?_
  obtain ⟨x122, hx123, hm⟩ := bindE hm
  refine WL.call 89 #[.int .i64 x119, .pointer (some ⟨b1_0', 0, none⟩)] rfl rfl (by kernel_rfl) (c_89 n x119 cap_1_0 b1_0' 0 a1_0' c1_0' w102 hx123 (SH.boxRd (SH.front 1 hS105)) (Rd.below h1_0 (Below.trans hE0 (Below.mono hb103 hW))) hle1_0) ?_
  rintro _ w124 ⟨rfl, hE125⟩
  refine ⟨_, rfl, ?_⟩
  have hb127 : Below B w w124 := Below.trans hb103 (Below.mono hE125 hL104)
  have hL128 : B ≤ w124.heap.size := Nat.le_trans hL104 hE125.size
  have hS129 : SH w124 B (aOwn fInt 2 a0' c0' st101.2.2 :: aBox 24 b1_0' [.slice a1_0' cap_1_0.length c1_0'] :: L) := SH.ext hS105 hE125
  refine WL.runk 1 [0, 1, 5, 6, 7, 29] [(0, .slice a0' st101.2.2.length c0'), (1, .func (.func 89) #[] #[.pointer (some ⟨b1_0', 0, none⟩)]), (5, .int .i64 st101.1), (6, .int .i64 st101.2.1), (7, .int .i64 x119), (29, .bool (!x122))] (by kernel_rfl) ?_
  refine WL.nil ?_
  refine WQ.then_normal (hK121 _ _ _ ?_)
  obtain ⟨x157, hx158, hm⟩ := bindE hm
  refine WP.cut (fun env' w' => env' = [(0, .slice a0' x157.2.length c0'), (1, .func (.func 89) #[] #[.pointer (some ⟨b1_0', 0, none⟩)]), (5, .int .i64 x157.1), (6, .int .i64 st101.2.1)] ∧ Below B w w' ∧ B ≤ w'.heap.size ∧ SH w' B (aOwn fInt 2 a0' c0' x157.2 :: aBox 24 b1_0' [.slice a1_0' cap_1_0.length c1_0'] :: L)) ?_ ?_
  rotate_left
  · clear hx158
    rintro _ w167 ⟨rfl, hb168, hL169, hS170⟩
    refine WQ.block_normal ?_
    refine WQ.then_normal (hK117 _ _ _ ?_)
    refine WP.region ?_
    refine WL.runk 3 [0, 1, 5, 6] [(0, .slice a0' x157.2.length c0'), (1, .func (.func 89) #[] #[.pointer (some ⟨b1_0', 0, none⟩)]), (5, .int .i64 x157.1), (6, .int .i64 (wI64 (st101.2.1 + 1)))] (by kernel_rfl) ?_
    refine WL.nil ?_
    obtain rfl := Option.some.inj hm
    exact WQ.round hK108 ⟨(x157.1, (wI64 (st101.2.1 + 1)), x157.2), rfl, hb168, hL169, hS170, hl106⟩ (Nat.lt_succ_self _) ⟨rfl, rfl, rfl, rfl, trivial⟩
  have hm := hx158; clear hx158
  refine WP.cond (!x122) rfl rfl (fun hc130 => ?_) (fun hc130 => ?_)
  rotate_left
  · have hm := iteF hm hc130
    refine WP.skip ?_
    obtain rfl := Option.some.inj hm
    exact WQ.post' ⟨rfl, hb127, hL128, hS129⟩ ⟨rfl, rfl, rfl, rfl, trivial⟩
  have hm := iteT hm hc130
  refine WP.seq (fun K159 hK159 => ?_)
  refine WP.region ?_
  refine WL.runk 3 [0, 1, 5, 6, 30, 31, 32] [(0, .slice a0' st101.2.2.length c0'), (1, .func (.func 89) #[] #[.pointer (some ⟨b1_0', 0, none⟩)]), (5, .int .i64 st101.1), (6, .int .i64 st101.2.1), (30, .slice a0' st101.2.2.length c0'), (31, .int .i64 st101.1), (32, .int .i64 x119)] (by kernel_rfl) ?_
  obtain ⟨x160, hx161, hm⟩ := bindE hm
  refine WL.st (.pointer (some (at_ a0' (Int.toNat st101.1 * 1)))) (ST.index (T := fInt.ty) (xs := st101.2.2) (SH.rd (SH.front 0 hS129)) hx161 rfl rfl rfl Try.underlying25 (info2).1 (info2).2.1) rfl rfl rfl ?_
  refine WL.store (F := fInt) x119 0 [.int .i64 x119] (SH.front 0 hS129) hL128 hx161 rfl rfl rfl rfl rfl rfl rfl (info2).1 (info2).2.1 rfl rfl rfl ?_
  intro w162 hB163 hS164
  have hb165 : Below B w w162 := Below.trans hb127 hB163
  have hL166 : B ≤ w162.heap.size := Nat.le_trans hL128 hB163.size
  refine WL.sub [(0, .slice a0' ((st101.2.2.set (Int.toNat st101.1) x119).length) c0'), (1, .func (.func 89) #[] #[.pointer (some ⟨b1_0', 0, none⟩)]), (5, .int .i64 st101.1), (6, .int .i64 st101.2.1), (30, .slice a0' ((st101.2.2.set (Int.toNat st101.1) x119).length) c0'), (31, .int .i64 st101.1), (32, .int .i64 x119)] ⟨by first | (simp only [List.length_set]; done) | (simp only [List.length_set]; rfl), rfl, rfl, rfl, by first | (simp only [List.length_set]; done) | (simp only [List.length_set]; rfl), rfl, rfl, trivial⟩ ?_
  refine WL.sub [(0, .slice a0' ((st101.2.2.set (Int.toNat st101.1) x119).length) c0'), (1, .func (.func 89) #[] #[.pointer (some ⟨b1_0', 0, none⟩)]), (5, .int .i64 st101.1), (6, .int .i64 st101.2.1)] ⟨rfl, rfl, rfl, rfl, trivial⟩ ?_
  refine WL.nil ?_
  refine WQ.then_normal (hK159 _ _ _ ?_)
  refine WP.region ?_
  refine WL.runk 3 [0, 1, 5, 6] [(0, .slice a0' ((st101.2.2.set (Int.toNat st101.1) x119).length) c0'), (1, .func (.func 89) #[] #[.pointer (some ⟨b1_0', 0, none⟩)]), (5, .int .i64 (wI64 (st101.1 + 1))), (6, .int .i64 st101.2.1)] (by kernel_rfl) ?_
  refine WL.nil ?_
  obtain rfl := Option.some.inj hm
  exact WQ.post' ⟨rfl, hb165, hL166, hS164⟩ ⟨rfl, rfl, rfl, rfl, trivial⟩

theorem c_48 (n : Nat) (list_0 : List SRepair) (a0' : Option Addr) (c0' : Nat) (faults_1 : List Int) (a1' : Option Addr) (c1' : Nat) (w : World) {r : List Int × Int} (hm : m_impl_HopelessFaults n list_0 faults_1 = some r) (h0 : Rd fRepair.ty w a0' list_0) (hle0 : list_0.length ≤ c0') (h1 : Rd fInt.ty w a1' faults_1) (hle1 : faults_1.length ≤ c1') :
    CallV Try.prog 48 #[.slice a0' list_0.length c0', .slice a1' faults_1.length c1'] w (fun v w' => ∃ (ra0 : Option Addr) (rc0 : Nat), v = .tuple #[.slice ra0 r.1.length rc0, .int .i64 r.2] ∧ Ext w w' ∧ SH w' w.heap.size [aOwn fInt 2 ra0 rc0 r.1]) := by
  unfold m_impl_HopelessFaults at hm
  refine CallV.enter Try.func48 rfl (by kernel_rfl) Try.ntmps48 (env := [(0, .slice a0' list_0.length c0'), (1, .slice a1' faults_1.length c1')]) ⟨rfl, rfl, trivial⟩ ?_
  refine WP.seq (fun K1 hK1 => ?_)
  refine WP.region ?_
  refine WL.box 24 [.slice a0' list_0.length c0'] 2 (by kernel_rfl) rfl rfl rfl rfl ?_
  intro b2 w3 hE4 hR5
  have hb7 : Ext w w3 := Ext.trans (Ext.refl w) hE4
  have hL8 : w.heap.size ≤ w3.heap.size := Nat.le_trans (Nat.le_refl _) hE4.size
  have hS9 : SH w3 w.heap.size [aBox 24 b2 [.slice a0' list_0.length c0']] := SH.add (SH.nil _ _) hE4 (Nat.le_refl _) hR5
  refine WL.runk 2 [1, 2] [(1, .slice a1' faults_1.length c1'), (2, .pointer (some ⟨b2, 0, none⟩))] (by kernel_rfl) ?_
  refine WL.nil ?_
  refine WQ.then_normal (hK1 _ _ _ ?_)
  refine WP.seq (fun K10 hK10 => ?_)
  refine WP.seq (fun K11 hK11 => ?_)
  refine WP.region ?_
  refine WL.st (.slice a0' list_0.length c0') (ST.load (cell_ext (SH.boxAt (SH.front 0 hS9) 0 _ rfl)) rfl rfl Try.underlying24 rfl) rfl rfl rfl ?_
  refine WL.runk 1 [1, 2, 7, 8] [(1, .slice a1' faults_1.length c1'), (2, .pointer (some ⟨b2, 0, none⟩)), (7, .slice a0' list_0.length c0'), (8, .slice a1' faults_1.length c1')] (by kernel_rfl) ?_
  obtain ⟨x12, hx13, hm⟩ := bindE hm
  refine WL.call 50 #[.slice a0' list_0.length c0', .slice none 0 0, .slice a1' faults_1.length c1'] rfl rfl (by kernel_rfl) (c_50 n list_0 a0' c0' ([] : List Int) none 0 faults_1 a1' c1' w3 hx13 (Rd.below h0 hb7) hle0 (Rd.nil _ _ _) (Nat.zero_le _) (Rd.below h1 hb7) hle1) ?_
  rintro _ w14 ⟨rfl, hE15⟩
  refine ⟨_, rfl, ?_⟩
  have hb17 : Ext w w14 := Ext.trans hb7 hE15
  have hL18 : w.heap.size ≤ w14.heap.size := Nat.le_trans hL8 hE15.size
  have hS19 : SH w14 w.heap.size [aBox 24 b2 [.slice a0' list_0.length c0']] := SH.ext hS9 hE15
  refine WL.runk 1 [1, 2, 6] [(1, .slice a1' faults_1.length c1'), (2, .pointer (some ⟨b2, 0, none⟩)), (6, .int .i64 x12)] (by kernel_rfl) ?_
  refine WL.nil ?_
  refine WQ.then_normal (hK11 _ _ _ ?_)
  refine WP.seq (fun K20 hK20 => ?_)
  refine WP.region ?_
  refine WL.runk 2 [1, 2, 6, 11] [(1, .slice a1' faults_1.length c1'), (2, .pointer (some ⟨b2, 0, none⟩)), (6, .int .i64 x12), (11, .bool (x12 != 0))] (by kernel_rfl) ?_
  refine WL.nil ?_
  refine WQ.then_normal (hK20 _ _ _ ?_)
  refine WP.cond (x12 != 0) rfl rfl (fun hc21 => ?_) (fun hc21 => ?_)
  · have hm := iteT hm hc21
    refine WP.seq (fun K22 hK22 => ?_)
    refine WP.region ?_
    refine WL.runk 3 [4, 5] [(4, .slice none 0 0), (5, .int .i64 x12)] (by kernel_rfl) ?_
    refine WL.nil ?_
    refine WQ.then_normal (hK22 _ _ _ ?_)
    refine WP.ret ?_
    refine WQ.then_ret ?_
    obtain rfl := Option.some.inj hm
    have hS24 : SH w14 w.heap.size [aOwn fInt 2 none 0 ([] : List Int), aBox 24 b2 [.slice a0' list_0.length c0']] := SH.nilOwn hS19
    exact WQ.ret2 _ _ rfl rfl rfl ⟨_, _, rfl, hb17, (SH.take 1 hS24)⟩
  have hm := iteF hm hc21
  refine WP.skip ?_
  refine WQ.then_normal (hK10 _ _ _ ?_)
  refine WP.seq (fun K25 hK25 => ?_)
  refine WP.region ?_
  refine WL.runk 1 [2, 13] [(2, .pointer (some ⟨b2, 0, none⟩)), (13, .slice a1' faults_1.length c1')] (by kernel_rfl) ?_
  obtain ⟨x26, hx27, hm⟩ := bindE hm
  refine WL.call 88 #[.slice a1' faults_1.length c1'] rfl rfl (by kernel_rfl) (c_88 n faults_1 a1' c1' w14 hx27 (Rd.below h1 hb17) hle1) ?_
  rintro _ w31 ⟨a28, c29, rfl, hE32, hR33⟩
  refine ⟨_, rfl, ?_⟩
  have hb34 : Ext w w31 := Ext.trans hb17 hE32
  have hL35 : w.heap.size ≤ w31.heap.size := Nat.le_trans hL18 hE32.size
  have hS36 : SH w31 w.heap.size [aOwn fInt 2 a28 c29 x26, aBox 24 b2 [.slice a0' list_0.length c0']] := SH.add hS19 hE32 hL18 hR33
  refine WL.runk 1 [14, 15] [(14, .slice a28 x26.length c29), (15, .func (.func 89) #[] #[.pointer (some ⟨b2, 0, none⟩)])] (by kernel_rfl) ?_
  obtain ⟨x37, hx38, hm⟩ := bindE hm
  refine WL.call 87 #[.slice a28 x26.length c29, .func (.func 89) #[] #[.pointer (some ⟨b2, 0, none⟩)]] rfl rfl (by kernel_rfl) (c_87_89_o1 n x26 a28 c29 list_0 b2 a0' c0' w31 w w.heap.size [] hx38 hb34 (Nat.le_refl _) hL35 h0 hle0 hS36) ?_
  rintro _ w42 ⟨a39, c40, rfl, hB46, hS45⟩
  refine ⟨_, rfl, ?_⟩
  have hb47 : Ext w w42 := Below.trans hb34 hB46
  have hL48 : w.heap.size ≤ w42.heap.size := Nat.le_trans hL35 hB46.size
  refine WL.runk 2 [4, 5] [(4, .slice a39 x37.length c40), (5, .int .i64 0)] (by kernel_rfl) ?_
  refine WL.nil ?_
  refine WQ.then_normal (hK25 _ _ _ ?_)
  refine WP.ret ?_
  obtain rfl := Option.some.inj hm
  exact WQ.ret2 _ _ rfl rfl rfl ⟨_, _, rfl, hb47, (SH.take 1 hS45)⟩

theorem c_11 (n : Nat) (aList_0 : List SRepair) (a0' : Option Addr) (c0' : Nat) (aFaults_1 : List Int) (a1' : Option Addr) (c1' : Nat) (w : World) {r : Bool} (hm : m_laws_FnExactHopelessFaults n aList_0 aFaults_1 = some r) (h0 : Rd fRepair.ty w a0' aList_0) (hle0 : aList_0.length ≤ c0') (h1 : Rd fInt.ty w a1' aFaults_1) (hle1 : aFaults_1.length ≤ c1') :
    CallV Try.prog 11 #[.slice a0' aList_0.length c0', .slice a1' aFaults_1.length c1'] w (fun v w' => v = .bool r ∧ Ext w w') := by
  unfold m_laws_FnExactHopelessFaults at hm
  refine CallV.enter Try.func11 rfl (by kernel_rfl) Try.ntmps11 (env := [(0, .slice a0' aList_0.length c0'), (1, .slice a1' aFaults_1.length c1')]) ⟨rfl, rfl, trivial⟩ ?_
  refine WP.seq (fun K1 hK1 => ?_)
  refine WP.region ?_
  refine WL.runk 1 [0, 1] [(0, .slice a0' aList_0.length c0'), (1, .slice a1' aFaults_1.length c1')] (by kernel_rfl) ?_
  refine WL.nil ?_
  refine WQ.then_normal (hK1 _ _ _ ?_)
  refine WP.seq (fun K2 hK2 => ?_)
  refine WP.seq (fun K3 hK3 => ?_)
  refine WP.region ?_
  refine WL.runk 3 [0, 1, 19] [(0, .slice a0' aList_0.length c0'), (1, .slice a1' aFaults_1.length c1'), (19, .bool (decide ((aFaults_1.length : Int) > 1048576)))] (by kernel_rfl) ?_
  refine WL.nil ?_
  refine WQ.then_normal (hK3 _ _ _ ?_)
  refine WP.cond (decide ((aFaults_1.length : Int) > 1048576)) rfl rfl (fun hc4 => ?_) (fun hc4 => ?_)
  · have hm := iteT hm hc4
    refine WP.seq (fun K5 hK5 => ?_)
    refine WP.region ?_
    refine WL.runk 1 [4] [(4, .bool true)] (by kernel_rfl) ?_
    refine WL.nil ?_
    refine WQ.then_normal (hK5 _ _ _ ?_)
    refine WP.ret ?_
    refine WQ.then_ret ?_
    obtain rfl := Option.some.inj hm
    exact WQ.ret1 _ rfl rfl ⟨rfl, (Ext.refl w)⟩
  have hm := iteF hm hc4
  refine WP.skip ?_
  refine WQ.then_normal (hK2 _ _ _ ?_)
  refine WP.seq (fun K6 hK6 => ?_)
  refine WP.region ?_
  refine WL.runk 1 [0, 1, 5] [(0, .slice a0' aList_0.length c0'), (1, .slice a1' aFaults_1.length c1'), (5, .int .i64 1048576)] (by kernel_rfl) ?_
  refine WL.nil ?_
  refine WQ.then_normal (hK6 _ _ _ ?_)
  refine WP.seq (fun K7 hK7 => ?_)
  refine WP.region ?_
  refine WL.runk 2 [0, 1, 20, 21] [(0, .slice a0' aList_0.length c0'), (1, .slice a1' aFaults_1.length c1'), (20, .slice a0' aList_0.length c0'), (21, .int .i64 1048576)] (by kernel_rfl) ?_
  obtain ⟨x8, hx9, hm⟩ := bindE hm
  refine WL.call 28 #[.slice a0' aList_0.length c0', .int .i64 1048576] rfl rfl (by kernel_rfl) (c_28 n aList_0 a0' c0' 1048576 w hx9 (Rd.below h0 (Ext.refl w)) hle0) ?_
  rintro _ w10 ⟨rfl, hE11⟩
  refine ⟨_, rfl, ?_⟩
  have hb13 : Ext w w10 := Ext.trans (Ext.refl w) hE11
  have hL14 : w.heap.size ≤ w10.heap.size := Nat.le_trans (Nat.le_refl _) hE11.size
  have hS15 : SH w10 w.heap.size [] := SH.ext (SH.nil _ _) hE11
  refine WL.runk 1 [0, 1, 5] [(0, .slice a0' aList_0.length c0'), (1, .slice a1' aFaults_1.length c1'), (5, .int .i64 x8)] (by kernel_rfl) ?_
  refine WL.nil ?_
  refine WQ.then_normal (hK7 _ _ _ ?_)
  refine WP.seq (fun K16 hK16 => ?_)
  refine WP.seq (fun K17 hK17 => ?_)
  refine WP.region ?_
  refine WL.runk 2 [0, 1, 24] [(0, .slice a0' aList_0.length c0'), (1, .slice a1' aFaults_1.length c1'), (24, .bool (decide (x8 < 0)))] (by kernel_rfl) ?_
  refine WL.nil ?_
  refine WQ.then_normal (hK17 _ _ _ ?_)
  refine WP.cond (decide (x8 < 0)) rfl rfl (fun hc18 => ?_) (fun hc18 => ?_)
  · have hm := iteT hm hc18
    refine WP.seq (fun K19 hK19 => ?_)
    refine WP.region ?_
    refine WL.runk 1 [4] [(4, .bool true)] (by kernel_rfl) ?_
    refine WL.nil ?_
    refine WQ.then_normal (hK19 _ _ _ ?_)
    refine WP.ret ?_
    refine WQ.then_ret ?_
    obtain rfl := Option.some.inj hm
    exact WQ.ret1 _ rfl rfl ⟨rfl, hb13⟩
  have hm := iteF hm hc18
  refine WP.skip ?_
  refine WQ.then_normal (hK16 _ _ _ ?_)
  refine WP.seq (fun K20 hK20 => ?_)
  refine WP.region ?_
  refine WL.runk 1 [0, 1, 26] [(0, .slice a0' aList_0.length c0'), (1, .slice a1' aFaults_1.length c1'), (26, .slice a0' aList_0.length c0')] (by kernel_rfl) ?_
  obtain ⟨x21, hx22, hm⟩ := bindE hm
  refine WL.call 30 #[.slice a0' aList_0.length c0'] rfl rfl (by kernel_rfl) (c_30 n aList_0 a0' c0' w10 hx22 (Rd.below h0 hb13) hle0) ?_
  rintro _ w26 ⟨a23, c24, rfl, hE27, hR28⟩
  refine ⟨_, rfl, ?_⟩
  have hb29 : Ext w w26 := Ext.trans hb13 hE27
  have hL30 : w.heap.size ≤ w26.heap.size := Nat.le_trans hL14 hE27.size
  have hS31 : SH w26 w.heap.size [aNest fRepair 73 2 a23 c24 x21] := SH.add hS15 hE27 hL14 hR28
  refine WL.runk 1 [0, 1, 27, 28] [(0, .slice a0' aList_0.length c0'), (1, .slice a1' aFaults_1.length c1'), (27, .slice a23 x21.length c24), (28, .slice a1' aFaults_1.length c1')] (by kernel_rfl) ?_
  obtain ⟨x32, hx33, hm⟩ := bindE hm
  refine WL.call 36 #[.slice a1' aFaults_1.length c1'] rfl rfl (by kernel_rfl) (c_36 n aFaults_1 a1' c1' w26 hx33 (Rd.below h1 hb29) hle1) ?_
  rintro _ w37 ⟨a34, c35, rfl, hE38, hR39⟩
  refine ⟨_, rfl, ?_⟩
  have hb40 : Ext w w37 := Ext.trans hb29 hE38
  have hL41 : w.heap.size ≤ w37.heap.size := Nat.le_trans hL30 hE38.size
  have hS42 : SH w37 w.heap.size [aOwn fInt 2 a34 c35 x32, aNest fRepair 73 2 a23 c24 x21] := SH.add hS31 hE38 hL30 hR39
  obtain ⟨x43, hx44, hm⟩ := bindE hm
  refine WL.call 47 #[.slice a23 x21.length c24, .slice a34 x32.length c35] rfl rfl (by kernel_rfl) (c_47 n x21 a23 c24 x32 a34 c35 w37 hx44 (SH.rdN (SH.front 1 hS42)) (SH.leN (SH.front 1 hS42)).1 (SH.rd (SH.front 0 hS42)) (SH.le (SH.front 0 hS42)).1) ?_
  rintro _ w48 ⟨a45, c46, rfl, hE49, hR50⟩
  refine ⟨_, rfl, ?_⟩
  have hb51 : Ext w w48 := Ext.trans hb40 hE49
  have hL52 : w.heap.size ≤ w48.heap.size := Nat.le_trans hL41 hE49.size
  have hS53 : SH w48 w.heap.size [aOwn fInt 2 a45 c46 x43.1, aOwn fInt 2 a34 c35 x32, aNest fRepair 73 2 a23 c24 x21] := SH.add hS42 hE49 hL41 hR50
  refine WL.runk 5 [0, 1, 6, 7] [(0, .slice a0' aList_0.length c0'), (1, .slice a1' aFaults_1.length c1'), (6, .slice a45 x43.1.length c46), (7, .int .i64 x43.2)] (by kernel_rfl) ?_
  refine WL.nil ?_
  refine WQ.then_normal (hK20 _ _ _ ?_)
  refine WP.seq (fun K54 hK54 => ?_)
  refine WP.region ?_
  refine WL.runk 1 [0, 1, 6, 7, 33] [(0, .slice a0' aList_0.length c0'), (1, .slice a1' aFaults_1.length c1'), (6, .slice a45 x43.1.length c46), (7, .int .i64 x43.2), (33, .slice a0' aList_0.length c0')] (by kernel_rfl) ?_
  obtain ⟨x55, hx56, hm⟩ := bindE hm
  refine WL.call 30 #[.slice a0' aList_0.length c0'] rfl rfl (by kernel_rfl) (c_30 n aList_0 a0' c0' w48 hx56 (Rd.below h0 hb51) hle0) ?_
  rintro _ w60 ⟨a57, c58, rfl, hE61, hR62⟩
  refine ⟨_, rfl, ?_⟩
  have hb63 : Ext w w60 := Ext.trans hb51 hE61
  have hL64 : w.heap.size ≤ w60.heap.size := Nat.le_trans hL52 hE61.size
  have hS65 : SH w60 w.heap.size [aNest fRepair 73 2 a57 c58 x55, aOwn fInt 2 a45 c46 x43.1, aOwn fInt 2 a34 c35 x32, aNest fRepair 73 2 a23 c24 x21] := SH.add hS53 hE61 hL52 hR62
  refine WL.runk 1 [0, 1, 6, 7, 8] [(0, .slice a0' aList_0.length c0'), (1, .slice a1' aFaults_1.length c1'), (6, .slice a45 x43.1.length c46), (7, .int .i64 x43.2), (8, .slice a57 x55.length c58)] (by kernel_rfl) ?_
  refine WL.nil ?_
  refine WQ.then_normal (hK54 _ _ _ ?_)
  refine WP.seq (fun K66 hK66 => ?_)
  refine WP.region ?_
  refine WL.runk 1 [0, 1, 6, 7, 8, 35] [(0, .slice a0' aList_0.length c0'), (1, .slice a1' aFaults_1.length c1'), (6, .slice a45 x43.1.length c46), (7, .int .i64 x43.2), (8, .slice a57 x55.length c58), (35, .slice a1' aFaults_1.length c1')] (by kernel_rfl) ?_
  obtain ⟨x67, hx68, hm⟩ := bindE hm
  refine WL.call 36 #[.slice a1' aFaults_1.length c1'] rfl rfl (by kernel_rfl) (c_36 n aFaults_1 a1' c1' w60 hx68 (Rd.below h1 hb63) hle1) ?_
  rintro _ w72 ⟨a69, c70, rfl, hE73, hR74⟩
  refine ⟨_, rfl, ?_⟩
  have hb75 : Ext w w72 := Ext.trans hb63 hE73
  have hL76 : w.heap.size ≤ w72.heap.size := Nat.le_trans hL64 hE73.size
  have hS77 : SH w72 w.heap.size [aOwn fInt 2 a69 c70 x67, aNest fRepair 73 2 a57 c58 x55, aOwn fInt 2 a45 c46 x43.1, aOwn fInt 2 a34 c35 x32, aNest fRepair 73 2 a23 c24 x21] := SH.add hS65 hE73 hL64 hR74
  refine WL.runk 1 [0, 1, 6, 7, 8, 9] [(0, .slice a0' aList_0.length c0'), (1, .slice a1' aFaults_1.length c1'), (6, .slice a45 x43.1.length c46), (7, .int .i64 x43.2), (8, .slice a57 x55.length c58), (9, .slice a69 x67.length c70)] (by kernel_rfl) ?_
  refine WL.nil ?_
  refine WQ.then_normal (hK66 _ _ _ ?_)
  refine WP.seq (fun K78 hK78 => ?_)
  refine WP.region ?_
  refine WL.runk 2 [0, 1, 6, 7, 8, 9, 38, 39] [(0, .slice a0' aList_0.length c0'), (1, .slice a1' aFaults_1.length c1'), (6, .slice a45 x43.1.length c46), (7, .int .i64 x43.2), (8, .slice a57 x55.length c58), (9, .slice a69 x67.length c70), (38, .slice a57 x55.length c58), (39, .slice a69 x67.length c70)] (by kernel_rfl) ?_
  obtain ⟨x79, hx80, hm⟩ := bindE hm
  refine WL.call 48 #[.slice a57 x55.length c58, .slice a69 x67.length c70] rfl rfl (by kernel_rfl) (c_48 n x55 a57 c58 x67 a69 c70 w72 hx80 (SH.rdN (SH.front 1 hS77)) (SH.leN (SH.front 1 hS77)).1 (SH.rd (SH.front 0 hS77)) (SH.le (SH.front 0 hS77)).1) ?_
  rintro _ w84 ⟨a81, c82, rfl, hE85, hR86⟩
  refine ⟨_, rfl, ?_⟩
  have hb87 : Ext w w84 := Ext.trans hb75 hE85
  have hL88 : w.heap.size ≤ w84.heap.size := Nat.le_trans hL76 hE85.size
  have hS89 : SH w84 w.heap.size [aOwn fInt 2 a81 c82 x79.1, aOwn fInt 2 a69 c70 x67, aNest fRepair 73 2 a57 c58 x55, aOwn fInt 2 a45 c46 x43.1, aOwn fInt 2 a34 c35 x32, aNest fRepair 73 2 a23 c24 x21] := SH.add hS77 hE85 hL76 hR86
  refine WL.runk 5 [0, 1, 6, 7, 8, 9, 10, 11] [(0, .slice a0' aList_0.length c0'), (1, .slice a1' aFaults_1.length c1'), (6, .slice a45 x43.1.length c46), (7, .int .i64 x43.2), (8, .slice a57 x55.length c58), (9, .slice a69 x67.length c70), (10, .slice a81 x79.1.length c82), (11, .int .i64 x79.2)] (by kernel_rfl) ?_
  refine WL.nil ?_
  refine WQ.then_normal (hK78 _ _ _ ?_)
  refine WP.seq (fun K90 hK90 => ?_)
  refine WP.seq (fun K91 hK91 => ?_)
  obtain ⟨x101, hx102, hm⟩ := bindE hm
  refine WP.cut (fun env' w' => env' = [(0, .slice a0' aList_0.length c0'), (1, .slice a1' aFaults_1.length c1'), (6, .slice a45 x43.1.length c46), (7, .int .i64 x43.2), (8, .slice a57 x55.length c58), (9, .slice a69 x67.length c70), (10, .slice a81 x79.1.length c82), (11, .int .i64 x79.2), (51, .bool x101)] ∧ Ext w w' ∧ w.heap.size ≤ w'.heap.size ∧ SH w' w.heap.size [aOwn fInt 2 a81 c82 x79.1, aOwn fInt 2 a69 c70 x67, aNest fRepair 73 2 a57 c58 x55, aOwn fInt 2 a45 c46 x43.1]) ?_ ?_
  · have hm := hx102; clear hx102
    refine WP.region ?_
    refine WL.runk 2 [0, 1, 6, 7, 8, 9, 10, 11, 43, 44] [(0, .slice a0' aList_0.length c0'), (1, .slice a1' aFaults_1.length c1'), (6, .slice a45 x43.1.length c46), (7, .int .i64 x43.2), (8, .slice a57 x55.length c58), (9, .slice a69 x67.length c70), (10, .slice a81 x79.1.length c82), (11, .int .i64 x79.2), (43, .slice a81 x79.1.length c82), (44, .slice a45 x43.1.length c46)] (by kernel_rfl) ?_
    obtain ⟨x103, hx104, hm⟩ := bindE hm
    refine WL.call 38 #[.slice a81 x79.1.length c82, .slice a45 x43.1.length c46] rfl rfl (by kernel_rfl) (c_38 n x79.1 a81 c82 x43.1 a45 c46 w84 hx104 (SH.rd (SH.front 0 hS89)) (SH.le (SH.front 0 hS89)).1 (SH.rd (SH.front 3 hS89)) (SH.le (SH.front 3 hS89)).1) ?_
    rintro _ w105 ⟨rfl, hE106⟩
    refine ⟨_, rfl, ?_⟩
    have hb108 : Ext w w105 := Ext.trans hb87 hE106
    have hL109 : w.heap.size ≤ w105.heap.size := Nat.le_trans hL88 hE106.size
    have hS110 : SH w105 w.heap.size [aOwn fInt 2 a81 c82 x79.1, aOwn fInt 2 a69 c70 x67, aNest fRepair 73 2 a57 c58 x55, aOwn fInt 2 a45 c46 x43.1, aOwn fInt 2 a34 c35 x32, aNest fRepair 73 2 a23 c24 x21] := SH.ext hS89 hE106
    refine WL.runk 2 [0, 1, 6, 7, 8, 9, 10, 11, 47] [(0, .slice a0' aList_0.length c0'), (1, .slice a1' aFaults_1.length c1'), (6, .slice a45 x43.1.length c46), (7, .int .i64 x43.2), (8, .slice a57 x55.length c58), (9, .slice a69 x67.length c70), (10, .slice a81 x79.1.length c82), (11, .int .i64 x79.2), (47, .bool (!x103))] (by kernel_rfl) ?_
    refine WL.case (!x103) [47] ⟨rfl, trivial⟩ (fun hc111 => ?_) (fun hc111 => ?_)
    · have hm := iteT hm hc111
      refine WL.runk 4 [0, 1, 6, 7, 8, 9, 10, 11, 51] [(0, .slice a0' aList_0.length c0'), (1, .slice a1' aFaults_1.length c1'), (6, .slice a45 x43.1.length c46), (7, .int .i64 x43.2), (8, .slice a57 x55.length c58), (9, .slice a69 x67.length c70), (10, .slice a81 x79.1.length c82), (11, .int .i64 x79.2), (51, .bool true)] (by kernel_rfl) ?_
      refine WL.nil ?_
      obtain rfl := Option.some.inj hm
      exact WQ.post' ⟨rfl, hb108, hL109, (SH.take 4 (SH.front 3 (SH.front 3 (SH.front 3 (SH.front 3 hS110)))))⟩ ⟨rfl, rfl, rfl, rfl, rfl, rfl, rfl, rfl, rfl, trivial⟩
    have hm := iteF hm hc111
    refine WL.runk 4 [0, 1, 6, 7, 8, 9, 10, 11, 51] [(0, .slice a0' aList_0.length c0'), (1, .slice a1' aFaults_1.length c1'), (6, .slice a45 x43.1.length c46), (7, .int .i64 x43.2), (8, .slice a57 x55.length c58), (9, .slice a69 x67.length c70), (10, .slice a81 x79.1.length c82), (11, .int .i64 x79.2), (51, .bool (x79.2 != x43.2))] (by kernel_rfl) ?_
    refine WL.nil ?_
    obtain rfl := Option.some.inj hm
    exact WQ.post' ⟨rfl, hb108, hL109, (SH.take 4 (SH.front 3 (SH.front 3 (SH.front 3 (SH.front 3 hS110)))))⟩ ⟨rfl, rfl, rfl, rfl, rfl, rfl, rfl, rfl, rfl, trivial⟩
  clear hx102
  rintro _ w112 ⟨rfl, hb113, hL114, hS115⟩
  refine WQ.then_normal (hK91 _ _ _ ?_)
  refine WP.cond x101 rfl rfl (fun hc116 => ?_) (fun hc116 => ?_)
  · have hm := iteT hm hc116
    refine WP.seq (fun K117 hK117 => ?_)
    refine WP.region ?_
    refine WL.runk 1 [4] [(4, .bool false)] (by kernel_rfl) ?_
    refine WL.nil ?_
    refine WQ.then_normal (hK117 _ _ _ ?_)
    refine WP.ret ?_
    refine WQ.then_ret ?_
    obtain rfl := Option.some.inj hm
    exact WQ.ret1 _ rfl rfl ⟨rfl, hb113⟩
  have hm := iteF hm hc116
  refine WP.skip ?_
  refine WQ.then_normal (hK90 _ _ _ ?_)
  refine WP.seq (fun K118 hK118 => ?_)
  refine WP.seq (fun K119 hK119 => ?_)
  refine WP.region ?_
  refine WL.runk 2 [0, 1, 6, 7, 8, 9, 10, 11, 52, 53] [(0, .slice a0' aList_0.length c0'), (1, .slice a1' aFaults_1.length c1'), (6, .slice a45 x43.1.length c46), (7, .int .i64 x43.2), (8, .slice a57 x55.length c58), (9, .slice a69 x67.length c70), (10, .slice a81 x79.1.length c82), (11, .int .i64 x79.2), (52, .slice a57 x55.length c58), (53, .slice a0' aList_0.length c0')] (by kernel_rfl) ?_
  obtain ⟨x120, hx121, hm⟩ := bindE hm
  refine WL.call 30 #[.slice a0' aList_0.length c0'] rfl rfl (by kernel_rfl) (c_30 n aList_0 a0' c0' w112 hx121 (Rd.below h0 hb113) hle0) ?_
  rintro _ w125 ⟨a122, c123, rfl, hE126, hR127⟩
  refine ⟨_, rfl, ?_⟩
  have hb128 : Ext w w125 := Ext.trans hb113 hE126
  have hL129 : w.heap.size ≤ w125.heap.size := Nat.le_trans hL114 hE126.size
  have hS130 : SH w125 w.heap.size [aNest fRepair 73 2 a122 c123 x120, aOwn fInt 2 a81 c82 x79.1, aOwn fInt 2 a69 c70 x67, aNest fRepair 73 2 a57 c58 x55, aOwn fInt 2 a45 c46 x43.1] := SH.add hS115 hE126 hL114 hR127
  obtain ⟨x131, hx132, hm⟩ := bindE hm
  refine WL.call 32 #[.slice a57 x55.length c58, .slice a122 x120.length c123] rfl rfl (by kernel_rfl) (c_32 n x55 a57 c58 x120 a122 c123 w125 hx132 (SH.rdN (SH.front 3 hS130)) (SH.leN (SH.front 3 hS130)).1 (SH.rdN (SH.front 0 hS130)) (SH.leN (SH.front 0 hS130)).1) ?_
  rintro _ w133 ⟨rfl, hE134⟩
  refine ⟨_, rfl, ?_⟩
  have hb136 : Ext w w133 := Ext.trans hb128 hE134
  have hL137 : w.heap.size ≤ w133.heap.size := Nat.le_trans hL129 hE134.size
  have hS138 : SH w133 w.heap.size [aNest fRepair 73 2 a122 c123 x120, aOwn fInt 2 a81 c82 x79.1, aOwn fInt 2 a69 c70 x67, aNest fRepair 73 2 a57 c58 x55, aOwn fInt 2 a45 c46 x43.1] := SH.ext hS130 hE134
  refine WL.runk 1 [0, 1, 6, 7, 8, 9, 10, 11, 56] [(0, .slice a0' aList_0.length c0'), (1, .slice a1' aFaults_1.length c1'), (6, .slice a45 x43.1.length c46), (7, .int .i64 x43.2), (8, .slice a57 x55.length c58), (9, .slice a69 x67.length c70), (10, .slice a81 x79.1.length c82), (11, .int .i64 x79.2), (56, .bool (!x131))] (by kernel_rfl) ?_
  refine WL.nil ?_
  refine WQ.then_normal (hK119 _ _ _ ?_)
  refine WP.cond (!x131) rfl rfl (fun hc139 => ?_) (fun hc139 => ?_)
  · have hm := iteT hm hc139
    refine WP.seq (fun K140 hK140 => ?_)
    refine WP.region ?_
    refine WL.runk 1 [4] [(4, .bool false)] (by kernel_rfl) ?_
    refine WL.nil ?_
    refine WQ.then_normal (hK140 _ _ _ ?_)
    refine WP.ret ?_
    refine WQ.then_ret ?_
    obtain rfl := Option.some.inj hm
    exact WQ.ret1 _ rfl rfl ⟨rfl, hb136⟩
  have hm := iteF hm hc139
  refine WP.skip ?_
  refine WQ.then_normal (hK118 _ _ _ ?_)
  refine WP.seq (fun K141 hK141 => ?_)
  refine WP.seq (fun K142 hK142 => ?_)
  refine WP.region ?_
  refine WL.runk 2 [0, 1, 6, 7, 8, 9, 10, 11, 57, 58] [(0, .slice a0' aList_0.length c0'), (1, .slice a1' aFaults_1.length c1'), (6, .slice a45 x43.1.length c46), (7, .int .i64 x43.2), (8, .slice a57 x55.length c58), (9, .slice a69 x67.length c70), (10, .slice a81 x79.1.length c82), (11, .int .i64 x79.2), (57, .slice a69 x67.length c70), (58, .slice a1' aFaults_1.length c1')] (by kernel_rfl) ?_
  obtain ⟨x143, hx144, hm⟩ := bindE hm
  refine WL.call 36 #[.slice a1' aFaults_1.length c1'] rfl rfl (by kernel_rfl) (c_36 n aFaults_1 a1' c1' w133 hx144 (Rd.below h1 hb136) hle1) ?_
  rintro _ w148 ⟨a145, c146, rfl, hE149, hR150⟩
  refine ⟨_, rfl, ?_⟩
  have hb151 : Ext w w148 := Ext.trans hb136 hE149
  have hL152 : w.heap.size ≤ w148.heap.size := Nat.le_trans hL137 hE149.size
  have hS153 : SH w148 w.heap.size [aOwn fInt 2 a145 c146 x143, aNest fRepair 73 2 a122 c123 x120, aOwn fInt 2 a81 c82 x79.1, aOwn fInt 2 a69 c70 x67, aNest fRepair 73 2 a57 c58 x55, aOwn fInt 2 a45 c46 x43.1] := SH.add hS138 hE149 hL137 hR150
  obtain ⟨x154, hx155, hm⟩ := bindE hm
  refine WL.call 38 #[.slice a69 x67.length c70, .slice a145 x143.length c146] rfl rfl (by kernel_rfl) (c_38 n x67 a69 c70 x143 a145 c146 w148 hx155 (SH.rd (SH.front 3 hS153)) (SH.le (SH.front 3 hS153)).1 (SH.rd (SH.front 0 hS153)) (SH.le (SH.front 0 hS153)).1) ?_
  rintro _ w156 ⟨rfl, hE157⟩
  refine ⟨_, rfl, ?_⟩
  have hb159 : Ext w w156 := Ext.trans hb151 hE157
  have hL160 : w.heap.size ≤ w156.heap.size := Nat.le_trans hL152 hE157.size
  have hS161 : SH w156 w.heap.size [aOwn fInt 2 a145 c146 x143, aNest fRepair 73 2 a122 c123 x120, aOwn fInt 2 a81 c82 x79.1, aOwn fInt 2 a69 c70 x67, aNest fRepair 73 2 a57 c58 x55, aOwn fInt 2 a45 c46 x43.1] := SH.ext hS153 hE157
  refine WL.runk 1 [0, 1, 6, 7, 8, 9, 10, 11, 61] [(0, .slice a0' aList_0.length c0'), (1, .slice a1' aFaults_1.length c1'), (6, .slice a45 x43.1.length c46), (7, .int .i64 x43.2), (8, .slice a57 x55.length c58), (9, .slice a69 x67.length c70), (10, .slice a81 x79.1.length c82), (11, .int .i64 x79.2), (61, .bool (!x154))] (by kernel_rfl) ?_
  refine WL.nil ?_
  refine WQ.then_normal (hK142 _ _ _ ?_)
  refine WP.cond (!x154) rfl rfl (fun hc162 => ?_) (fun hc162 => ?_)
  · have hm := iteT hm hc162
    refine WP.seq (fun K163 hK163 => ?_)
    refine WP.region ?_
    refine WL.runk 1 [4] [(4, .bool false)] (by kernel_rfl) ?_
    refine WL.nil ?_
    refine WQ.then_normal (hK163 _ _ _ ?_)
    refine WP.ret ?_
    refine WQ.then_ret ?_
    obtain rfl := Option.some.inj hm
    exact WQ.ret1 _ rfl rfl ⟨rfl, hb159⟩
  have hm := iteF hm hc162
  refine WP.skip ?_
  refine WQ.then_normal (hK141 _ _ _ ?_)
  refine WP.seq (fun K164 hK164 => ?_)
  refine WP.region ?_
  refine WL.runk 1 [0, 1, 6, 7, 8, 9, 10, 11, 12] [(0, .slice a0' aList_0.length c0'), (1, .slice a1' aFaults_1.length c1'), (6, .slice a45 x43.1.length c46), (7, .int .i64 x43.2), (8, .slice a57 x55.length c58), (9, .slice a69 x67.length c70), (10, .slice a81 x79.1.length c82), (11, .int .i64 x79.2), (12, .int .i64 1)] (by kernel_rfl) ?_
  refine WL.nil ?_
  refine WQ.then_normal (hK164 _ _ _ ?_)
  refine WP.seq (fun K165 hK165 => ?_)
  refine WP.region ?_
  refine WL.runk 2 [0, 1, 6, 7, 9, 10, 11, 62, 63] [(0, .slice a0' aList_0.length c0'), (1, .slice a1' aFaults_1.length c1'), (6, .slice a45 x43.1.length c46), (7, .int .i64 x43.2), (9, .slice a69 x67.length c70), (10, .slice a81 x79.1.length c82), (11, .int .i64 x79.2), (62, .slice a57 x55.length c58), (63, .int .i64 1)] (by kernel_rfl) ?_
  obtain ⟨x166, hx167, hm⟩ := bindE hm
  refine WL.call 42 #[.slice a57 x55.length c58, .int .i64 1] rfl rfl (by kernel_rfl) (c_42 n x55 a57 c58 1 w156 w w.heap.size [aOwn fInt 2 a145 c146 x143, aNest fRepair 73 2 a122 c123 x120, aOwn fInt 2 a81 c82 x79.1, aOwn fInt 2 a69 c70 x67, aOwn fInt 2 a45 c46 x43.1] hx167 hb159 (Nat.le_refl _) hL160  (SH.front 5 (SH.front 4 (SH.front 4 (SH.front 4 (SH.front 4 (SH.front 5 hS161))))))) ?_
  rintro _ w168 ⟨rfl, hB172, hS171, hlen173⟩
  refine ⟨_, rfl, ?_⟩
  have hb174 : Ext w w168 := Below.trans hb159 hB172
  have hL175 : w.heap.size ≤ w168.heap.size := Nat.le_trans hL160 hB172.size
  refine WL.sub [(0, .slice a0' aList_0.length c0'), (1, .slice a1' aFaults_1.length c1'), (6, .slice a45 x43.1.length c46), (7, .int .i64 x43.2), (9, .slice a69 x67.length c70), (10, .slice a81 x79.1.length c82), (11, .int .i64 x79.2), (62, .slice a57 x166.2.length c58), (63, .int .i64 1), (64, .int .i64 x166.1)] ⟨rfl, rfl, rfl, rfl, rfl, rfl, rfl, by rw [hlen173]; rfl, rfl, rfl, trivial⟩ ?_
  refine WL.runk 1 [0, 1, 6, 7, 9, 10, 11, 12] [(0, .slice a0' aList_0.length c0'), (1, .slice a1' aFaults_1.length c1'), (6, .slice a45 x43.1.length c46), (7, .int .i64 x43.2), (9, .slice a69 x67.length c70), (10, .slice a81 x79.1.length c82), (11, .int .i64 x79.2), (12, .int .i64 x166.1)] (by kernel_rfl) ?_
  refine WL.nil ?_
  refine WQ.then_normal (hK165 _ _ _ ?_)
  refine WP.seq (fun K176 hK176 => ?_)
  refine WP.region ?_
  refine WL.runk 2 [0, 1, 6, 7, 10, 11, 65, 66] [(0, .slice a0' aList_0.length c0'), (1, .slice a1' aFaults_1.length c1'), (6, .slice a45 x43.1.length c46), (7, .int .i64 x43.2), (10, .slice a81 x79.1.length c82), (11, .int .i64 x79.2), (65, .slice a69 x67.length c70), (66, .int .i64 x166.1)] (by kernel_rfl) ?_
  obtain ⟨x177, hx178, hm⟩ := bindE hm
  refine WL.call 43 #[.slice a69 x67.length c70, .int .i64 x166.1] rfl rfl (by kernel_rfl) (c_43 n x67 a69 c70 x166.1 w168 w w.heap.size [aNest fRepair 73 2 a57 c58 x166.2, aOwn fInt 2 a145 c146 x143, aNest fRepair 73 2 a122 c123 x120, aOwn fInt 2 a81 c82 x79.1, aOwn fInt 2 a45 c46 x43.1] hx178 hb174 (Nat.le_refl _) hL175  (SH.front 5 (SH.front 4 (SH.front 4 (SH.front 4 (SH.front 4 (SH.front 5 hS171))))))) ?_
  rintro _ w179 ⟨rfl, hB183, hS182, hlen184⟩
  refine ⟨_, rfl, ?_⟩
  have hb185 : Ext w w179 := Below.trans hb174 hB183
  have hL186 : w.heap.size ≤ w179.heap.size := Nat.le_trans hL175 hB183.size
  refine WL.sub [(0, .slice a0' aList_0.length c0'), (1, .slice a1' aFaults_1.length c1'), (6, .slice a45 x43.1.length c46), (7, .int .i64 x43.2), (10, .slice a81 x79.1.length c82), (11, .int .i64 x79.2), (65, .slice a69 x177.2.length c70), (66, .int .i64 x166.1), (67, .int .i64 x177.1)] ⟨rfl, rfl, rfl, rfl, rfl, rfl, by rw [hlen184]; rfl, rfl, rfl, trivial⟩ ?_
  refine WL.runk 1 [0, 1, 6, 7, 10, 11, 12] [(0, .slice a0' aList_0.length c0'), (1, .slice a1' aFaults_1.length c1'), (6, .slice a45 x43.1.length c46), (7, .int .i64 x43.2), (10, .slice a81 x79.1.length c82), (11, .int .i64 x79.2), (12, .int .i64 x177.1)] (by kernel_rfl) ?_
  refine WL.nil ?_
  refine WQ.then_normal (hK176 _ _ _ ?_)
  refine WP.seq (fun K187 hK187 => ?_)
  refine WP.seq (fun K188 hK188 => ?_)
  obtain ⟨x199, hx200, hm⟩ := bindE hm
  refine WP.cut (fun env' w' => env' = [(0, .slice a0' aList_0.length c0'), (1, .slice a1' aFaults_1.length c1'), (6, .slice a45 x43.1.length c46), (7, .int .i64 x43.2), (10, .slice a81 x79.1.length c82), (80, .bool x199)] ∧ Ext w w' ∧ w.heap.size ≤ w'.heap.size ∧ SH w' w.heap.size [aOwn fInt 2 a81 c82 x79.1, aOwn fInt 2 a45 c46 x43.1]) ?_ ?_
  · have hm := hx200; clear hx200
    refine WP.region ?_
    refine WL.runk 3 [0, 1, 6, 7, 10, 11, 70] [(0, .slice a0' aList_0.length c0'), (1, .slice a1' aFaults_1.length c1'), (6, .slice a45 x43.1.length c46), (7, .int .i64 x43.2), (10, .slice a81 x79.1.length c82), (11, .int .i64 x79.2), (70, .bool (decide (x177.1 < 0)))] (by kernel_rfl) ?_
    refine WL.case (decide (x177.1 < 0)) [70] ⟨rfl, trivial⟩ (fun hc201 => ?_) (fun hc201 => ?_)
    · have hm := iteT hm hc201
      refine WL.runk 10 [0, 1, 6, 7, 10, 80] [(0, .slice a0' aList_0.length c0'), (1, .slice a1' aFaults_1.length c1'), (6, .slice a45 x43.1.length c46), (7, .int .i64 x43.2), (10, .slice a81 x79.1.length c82), (80, .bool true)] (by kernel_rfl) ?_
      refine WL.nil ?_
      obtain rfl := Option.some.inj hm
      exact WQ.post' ⟨rfl, hb185, hL186, (SH.take 2 (SH.front 5 (SH.front 5 hS182)))⟩ ⟨rfl, rfl, rfl, rfl, rfl, rfl, trivial⟩
    have hm := iteF hm hc201
    refine WL.runk 2 [0, 1, 6, 7, 10, 11, 70, 71, 72] [(0, .slice a0' aList_0.length c0'), (1, .slice a1' aFaults_1.length c1'), (6, .slice a45 x43.1.length c46), (7, .int .i64 x43.2), (10, .slice a81 x79.1.length c82), (11, .int .i64 x79.2), (70, .bool false), (71, .slice a81 x79.1.length c82), (72, .slice a45 x43.1.length c46)] (by kernel_rfl) ?_
    obtain ⟨x202, hx203, hm⟩ := bindE hm
    refine WL.call 38 #[.slice a81 x79.1.length c82, .slice a45 x43.1.length c46] rfl rfl (by kernel_rfl) (c_38 n x79.1 a81 c82 x43.1 a45 c46 w179 hx203 (SH.rd (SH.front 4 hS182)) (SH.le (SH.front 4 hS182)).1 (SH.rd (SH.front 5 hS182)) (SH.le (SH.front 5 hS182)).1) ?_
    rintro _ w204 ⟨rfl, hE205⟩
    refine ⟨_, rfl, ?_⟩
    have hb207 : Ext w w204 := Ext.trans hb185 hE205
    have hL208 : w.heap.size ≤ w204.heap.size := Nat.le_trans hL186 hE205.size
    have hS209 : SH w204 w.heap.size [aOwn fInt 2 a69 c70 x177.2, aNest fRepair 73 2 a57 c58 x166.2, aOwn fInt 2 a145 c146 x143, aNest fRepair 73 2 a122 c123 x120, aOwn fInt 2 a81 c82 x79.1, aOwn fInt 2 a45 c46 x43.1] := SH.ext hS182 hE205
    refine WL.runk 3 [0, 1, 6, 7, 10, 11, 76] [(0, .slice a0' aList_0.length c0'), (1, .slice a1' aFaults_1.length c1'), (6, .slice a45 x43.1.length c46), (7, .int .i64 x43.2), (10, .slice a81 x79.1.length c82), (11, .int .i64 x79.2), (76, .bool (!x202))] (by kernel_rfl) ?_
    refine WL.case (!x202) [76] ⟨rfl, trivial⟩ (fun hc210 => ?_) (fun hc210 => ?_)
    · have hm := iteT hm hc210
      refine WL.runk 4 [0, 1, 6, 7, 10, 80] [(0, .slice a0' aList_0.length c0'), (1, .slice a1' aFaults_1.length c1'), (6, .slice a45 x43.1.length c46), (7, .int .i64 x43.2), (10, .slice a81 x79.1.length c82), (80, .bool true)] (by kernel_rfl) ?_
      refine WL.nil ?_
      obtain rfl := Option.some.inj hm
      exact WQ.post' ⟨rfl, hb207, hL208, (SH.take 2 (SH.front 5 (SH.front 5 hS209)))⟩ ⟨rfl, rfl, rfl, rfl, rfl, rfl, trivial⟩
    have hm := iteF hm hc210
    refine WL.runk 4 [0, 1, 6, 7, 10, 80] [(0, .slice a0' aList_0.length c0'), (1, .slice a1' aFaults_1.length c1'), (6, .slice a45 x43.1.length c46), (7, .int .i64 x43.2), (10, .slice a81 x79.1.length c82), (80, .bool (x79.2 != x43.2))] (by kernel_rfl) ?_
    refine WL.nil ?_
    obtain rfl := Option.some.inj hm
    exact WQ.post' ⟨rfl, hb207, hL208, (SH.take 2 (SH.front 5 (SH.front 5 hS209)))⟩ ⟨rfl, rfl, rfl, rfl, rfl, rfl, trivial⟩
  clear hx200
  rintro _ w211 ⟨rfl, hb212, hL213, hS214⟩
  refine WQ.then_normal (hK188 _ _ _ ?_)
  refine WP.cond x199 rfl rfl (fun hc215 => ?_) (fun hc215 => ?_)
  · have hm := iteT hm hc215
    refine WP.seq (fun K216 hK216 => ?_)
    refine WP.region ?_
    refine WL.runk 1 [4] [(4, .bool false)] (by kernel_rfl) ?_
    refine WL.nil ?_
    refine WQ.then_normal (hK216 _ _ _ ?_)
    refine WP.ret ?_
    refine WQ.then_ret ?_
    obtain rfl := Option.some.inj hm
    exact WQ.ret1 _ rfl rfl ⟨rfl, hb212⟩
  have hm := iteF hm hc215
  refine WP.skip ?_
  refine WQ.then_normal (hK187 _ _ _ ?_)
  refine WP.seq (fun K217 hK217 => ?_)
  refine WP.region ?_
  refine WL.runk 1 [0, 1, 6, 7, 10, 13] [(0, .slice a0' aList_0.length c0'), (1, .slice a1' aFaults_1.length c1'), (6, .slice a45 x43.1.length c46), (7, .int .i64 x43.2), (10, .slice a81 x79.1.length c82), (13, .int .i64 1)] (by kernel_rfl) ?_
  refine WL.nil ?_
  refine WQ.then_normal (hK217 _ _ _ ?_)
  refine WP.seq (fun K218 hK218 => ?_)
  refine WP.region ?_
  refine WL.runk 2 [0, 1, 6, 7, 10, 81, 82] [(0, .slice a0' aList_0.length c0'), (1, .slice a1' aFaults_1.length c1'), (6, .slice a45 x43.1.length c46), (7, .int .i64 x43.2), (10, .slice a81 x79.1.length c82), (81, .slice a81 x79.1.length c82), (82, .int .i64 1)] (by kernel_rfl) ?_
  obtain ⟨x219, hx220, hm⟩ := bindE hm
  refine WL.call 43 #[.slice a81 x79.1.length c82, .int .i64 1] rfl rfl (by kernel_rfl) (c_43 n x79.1 a81 c82 1 w211 w w.heap.size [aOwn fInt 2 a45 c46 x43.1] hx220 hb212 (Nat.le_refl _) hL213  hS214) ?_
  rintro _ w221 ⟨rfl, hB225, hS224, hlen226⟩
  refine ⟨_, rfl, ?_⟩
  have hb227 : Ext w w221 := Below.trans hb212 hB225
  have hL228 : w.heap.size ≤ w221.heap.size := Nat.le_trans hL213 hB225.size
  refine WL.sub [(0, .slice a0' aList_0.length c0'), (1, .slice a1' aFaults_1.length c1'), (6, .slice a45 x43.1.length c46), (7, .int .i64 x43.2), (10, .slice a81 x219.2.length c82), (81, .slice a81 x219.2.length c82), (82, .int .i64 1), (83, .int .i64 x219.1)] ⟨rfl, rfl, rfl, rfl, by rw [hlen226]; rfl, by rw [hlen226]; rfl, rfl, rfl, trivial⟩ ?_
  refine WL.runk 1 [0, 1, 6, 7, 10, 13] [(0, .slice a0' aList_0.length c0'), (1, .slice a1' aFaults_1.length c1'), (6, .slice a45 x43.1.length c46), (7, .int .i64 x43.2), (10, .slice a81 x219.2.length c82), (13, .int .i64 x219.1)] (by kernel_rfl) ?_
  refine WL.nil ?_
  refine WQ.then_normal (hK218 _ _ _ ?_)
  refine WP.seq (fun K229 hK229 => ?_)
  refine WP.region ?_
  refine WL.runk 1 [0, 1, 6, 7, 10, 13, 14] [(0, .slice a0' aList_0.length c0'), (1, .slice a1' aFaults_1.length c1'), (6, .slice a45 x43.1.length c46), (7, .int .i64 x43.2), (10, .slice a81 x219.2.length c82), (13, .int .i64 x219.1), (14, .int .i64 1)] (by kernel_rfl) ?_
  refine WL.nil ?_
  refine WQ.then_normal (hK229 _ _ _ ?_)
  refine WP.seq (fun K230 hK230 => ?_)
  refine WP.region ?_
  refine WL.runk 2 [0, 1, 6, 7, 10, 13, 84, 85] [(0, .slice a0' aList_0.length c0'), (1, .slice a1' aFaults_1.length c1'), (6, .slice a45 x43.1.length c46), (7, .int .i64 x43.2), (10, .slice a81 x219.2.length c82), (13, .int .i64 x219.1), (84, .slice a81 x219.2.length c82), (85, .int .i64 1)] (by kernel_rfl) ?_
  obtain ⟨x231, hx232, hm⟩ := bindE hm
  refine WL.call 44 #[.slice a81 x219.2.length c82, .int .i64 1] rfl rfl (by kernel_rfl) (c_44 n x219.2 a81 c82 1 w221 hx232 (SH.rd (SH.front 0 hS224)) (SH.le (SH.front 0 hS224)).1) ?_
  rintro _ w233 ⟨rfl, hE234⟩
  refine ⟨_, rfl, ?_⟩
  have hb236 : Ext w w233 := Ext.trans hb227 hE234
  have hL237 : w.heap.size ≤ w233.heap.size := Nat.le_trans hL228 hE234.size
  have hS238 : SH w233 w.heap.size [aOwn fInt 2 a81 c82 x219.2, aOwn fInt 2 a45 c46 x43.1] := SH.ext hS224 hE234
  refine WL.runk 1 [0, 1, 6, 7, 10, 13, 14] [(0, .slice a0' aList_0.length c0'), (1, .slice a1' aFaults_1.length c1'), (6, .slice a45 x43.1.length c46), (7, .int .i64 x43.2), (10, .slice a81 x219.2.length c82), (13, .int .i64 x219.1), (14, .int .i64 x231)] (by kernel_rfl) ?_
  refine WL.nil ?_
  refine WQ.then_normal (hK230 _ _ _ ?_)
  refine WP.seq (fun K239 hK239 => ?_)
  refine WP.seq (fun K240 hK240 => ?_)
  refine WP.region ?_
  refine WL.runk 2 [0, 1, 6, 7, 10, 13, 14, 88] [(0, .slice a0' aList_0.length c0'), (1, .slice a1' aFaults_1.length c1'), (6, .slice a45 x43.1.length c46), (7, .int .i64 x43.2), (10, .slice a81 x219.2.length c82), (13, .int .i64 x219.1), (14, .int .i64 x231), (88, .bool (decide (x231 < 0)))] (by kernel_rfl) ?_
  refine WL.nil ?_
  refine WQ.then_normal (hK240 _ _ _ ?_)
  refine WP.cond (decide (x231 < 0)) rfl rfl (fun hc241 => ?_) (fun hc241 => ?_)
  · have hm := iteT hm hc241
    refine WP.seq (fun K242 hK242 => ?_)
    refine WP.region ?_
    refine WL.runk 1 [4] [(4, .bool false)] (by kernel_rfl) ?_
    refine WL.nil ?_
    refine WQ.then_normal (hK242 _ _ _ ?_)
    refine WP.ret ?_
    refine WQ.then_ret ?_
    obtain rfl := Option.some.inj hm
    exact WQ.ret1 _ rfl rfl ⟨rfl, hb236⟩
  have hm := iteF hm hc241
  refine WP.skip ?_
  refine WQ.then_normal (hK239 _ _ _ ?_)
  refine WP.seq (fun K243 hK243 => ?_)
  refine WP.seq (fun K244 hK244 => ?_)
  refine WP.region ?_
  refine WL.runk 3 [0, 1, 6, 7, 10, 13, 91] [(0, .slice a0' aList_0.length c0'), (1, .slice a1' aFaults_1.length c1'), (6, .slice a45 x43.1.length c46), (7, .int .i64 x43.2), (10, .slice a81 x219.2.length c82), (13, .int .i64 x219.1), (91, .bool (x231 != x219.1))] (by kernel_rfl) ?_
  refine WL.nil ?_
  refine WQ.then_normal (hK244 _ _ _ ?_)
  refine WP.cond (x231 != x219.1) rfl rfl (fun hc245 => ?_) (fun hc245 => ?_)
  · have hm := iteT hm hc245
    refine WP.seq (fun K246 hK246 => ?_)
    refine WP.region ?_
    refine WL.runk 1 [4] [(4, .bool false)] (by kernel_rfl) ?_
    refine WL.nil ?_
    refine WQ.then_normal (hK246 _ _ _ ?_)
    refine WP.ret ?_
    refine WQ.then_ret ?_
    obtain rfl := Option.some.inj hm
    exact WQ.ret1 _ rfl rfl ⟨rfl, hb236⟩
  have hm := iteF hm hc245
  refine WP.skip ?_
  refine WQ.then_normal (hK243 _ _ _ ?_)
  refine WP.seq (fun K247 hK247 => ?_)
  refine WP.region ?_
  refine WL.runk 1 [1, 6, 7, 10, 13, 93] [(1, .slice a1' aFaults_1.length c1'), (6, .slice a45 x43.1.length c46), (7, .int .i64 x43.2), (10, .slice a81 x219.2.length c82), (13, .int .i64 x219.1), (93, .slice a0' aList_0.length c0')] (by kernel_rfl) ?_
  obtain ⟨x248, hx249, hm⟩ := bindE hm
  refine WL.call 30 #[.slice a0' aList_0.length c0'] rfl rfl (by kernel_rfl) (c_30 n aList_0 a0' c0' w233 hx249 (Rd.below h0 hb236) hle0) ?_
  rintro _ w253 ⟨a250, c251, rfl, hE254, hR255⟩
  refine ⟨_, rfl, ?_⟩
  have hb256 : Ext w w253 := Ext.trans hb236 hE254
  have hL257 : w.heap.size ≤ w253.heap.size := Nat.le_trans hL237 hE254.size
  have hS258 : SH w253 w.heap.size [aNest fRepair 73 2 a250 c251 x248, aOwn fInt 2 a81 c82 x219.2, aOwn fInt 2 a45 c46 x43.1] := SH.add hS238 hE254 hL237 hR255
  refine WL.runk 1 [6, 7, 10, 13, 94, 95] [(6, .slice a45 x43.1.length c46), (7, .int .i64 x43.2), (10, .slice a81 x219.2.length c82), (13, .int .i64 x219.1), (94, .slice a250 x248.length c251), (95, .slice a1' aFaults_1.length c1')] (by kernel_rfl) ?_
  obtain ⟨x259, hx260, hm⟩ := bindE hm
  refine WL.call 36 #[.slice a1' aFaults_1.length c1'] rfl rfl (by kernel_rfl) (c_36 n aFaults_1 a1' c1' w253 hx260 (Rd.below h1 hb256) hle1) ?_
  rintro _ w264 ⟨a261, c262, rfl, hE265, hR266⟩
  refine ⟨_, rfl, ?_⟩
  have hb267 : Ext w w264 := Ext.trans hb256 hE265
  have hL268 : w.heap.size ≤ w264.heap.size := Nat.le_trans hL257 hE265.size
  have hS269 : SH w264 w.heap.size [aOwn fInt 2 a261 c262 x259, aNest fRepair 73 2 a250 c251 x248, aOwn fInt 2 a81 c82 x219.2, aOwn fInt 2 a45 c46 x43.1] := SH.add hS258 hE265 hL257 hR266
  obtain ⟨x270, hx271, hm⟩ := bindE hm
  refine WL.call 48 #[.slice a250 x248.length c251, .slice a261 x259.length c262] rfl rfl (by kernel_rfl) (c_48 n x248 a250 c251 x259 a261 c262 w264 hx271 (SH.rdN (SH.front 1 hS269)) (SH.leN (SH.front 1 hS269)).1 (SH.rd (SH.front 0 hS269)) (SH.le (SH.front 0 hS269)).1) ?_
  rintro _ w275 ⟨a272, c273, rfl, hE276, hR277⟩
  refine ⟨_, rfl, ?_⟩
  have hb278 : Ext w w275 := Ext.trans hb267 hE276
  have hL279 : w.heap.size ≤ w275.heap.size := Nat.le_trans hL268 hE276.size
  have hS280 : SH w275 w.heap.size [aOwn fInt 2 a272 c273 x270.1, aOwn fInt 2 a261 c262 x259, aNest fRepair 73 2 a250 c251 x248, aOwn fInt 2 a81 c82 x219.2, aOwn fInt 2 a45 c46 x43.1] := SH.add hS269 hE276 hL268 hR277
  refine WL.runk 5 [6, 7, 10, 13, 15, 16] [(6, .slice a45 x43.1.length c46), (7, .int .i64 x43.2), (10, .slice a81 x219.2.length c82), (13, .int .i64 x219.1), (15, .slice a272 x270.1.length c273), (16, .int .i64 x270.2)] (by kernel_rfl) ?_
  refine WL.nil ?_
  refine WQ.then_normal (hK247 _ _ _ ?_)
  refine WP.seq (fun K281 hK281 => ?_)
  refine WP.seq (fun K282 hK282 => ?_)
  obtain ⟨x292, hx293, hm⟩ := bindE hm
  refine WP.cut (fun env' w' => env' = [(10, .slice a81 x219.2.length c82), (13, .int .i64 x219.1), (108, .bool x292)] ∧ Ext w w' ∧ w.heap.size ≤ w'.heap.size ∧ SH w' w.heap.size [aOwn fInt 2 a81 c82 x219.2]) ?_ ?_
  · have hm := hx293; clear hx293
    refine WP.region ?_
    refine WL.runk 2 [7, 10, 13, 16, 100, 101] [(7, .int .i64 x43.2), (10, .slice a81 x219.2.length c82), (13, .int .i64 x219.1), (16, .int .i64 x270.2), (100, .slice a272 x270.1.length c273), (101, .slice a45 x43.1.length c46)] (by kernel_rfl) ?_
    obtain ⟨x294, hx295, hm⟩ := bindE hm
    refine WL.call 38 #[.slice a272 x270.1.length c273, .slice a45 x43.1.length c46] rfl rfl (by kernel_rfl) (c_38 n x270.1 a272 c273 x43.1 a45 c46 w275 hx295 (SH.rd (SH.front 0 hS280)) (SH.le (SH.front 0 hS280)).1 (SH.rd (SH.front 4 hS280)) (SH.le (SH.front 4 hS280)).1) ?_
    rintro _ w296 ⟨rfl, hE297⟩
    refine ⟨_, rfl, ?_⟩
    have hb299 : Ext w w296 := Ext.trans hb278 hE297
    have hL300 : w.heap.size ≤ w296.heap.size := Nat.le_trans hL279 hE297.size
    have hS301 : SH w296 w.heap.size [aOwn fInt 2 a272 c273 x270.1, aOwn fInt 2 a261 c262 x259, aNest fRepair 73 2 a250 c251 x248, aOwn fInt 2 a81 c82 x219.2, aOwn fInt 2 a45 c46 x43.1] := SH.ext hS280 hE297
    refine WL.runk 2 [7, 10, 13, 16, 104] [(7, .int .i64 x43.2), (10, .slice a81 x219.2.length c82), (13, .int .i64 x219.1), (16, .int .i64 x270.2), (104, .bool (!x294))] (by kernel_rfl) ?_
    refine WL.case (!x294) [104] ⟨rfl, trivial⟩ (fun hc302 => ?_) (fun hc302 => ?_)
    · have hm := iteT hm hc302
      refine WL.runk 4 [10, 13, 108] [(10, .slice a81 x219.2.length c82), (13, .int .i64 x219.1), (108, .bool true)] (by kernel_rfl) ?_
      refine WL.nil ?_
      obtain rfl := Option.some.inj hm
      exact WQ.post' ⟨rfl, hb299, hL300, (SH.take 1 (SH.front 3 hS301))⟩ ⟨rfl, rfl, rfl, trivial⟩
    have hm := iteF hm hc302
    refine WL.runk 4 [10, 13, 108] [(10, .slice a81 x219.2.length c82), (13, .int .i64 x219.1), (108, .bool (x270.2 != x43.2))] (by kernel_rfl) ?_
    refine WL.nil ?_
    obtain rfl := Option.some.inj hm
    exact WQ.post' ⟨rfl, hb299, hL300, (SH.take 1 (SH.front 3 hS301))⟩ ⟨rfl, rfl, rfl, trivial⟩
  clear hx293
  rintro _ w303 ⟨rfl, hb304, hL305, hS306⟩
  refine WQ.then_normal (hK282 _ _ _ ?_)
  refine WP.cond x292 rfl rfl (fun hc307 => ?_) (fun hc307 => ?_)
  · have hm := iteT hm hc307
    refine WP.seq (fun K308 hK308 => ?_)
    refine WP.region ?_
    refine WL.runk 1 [4] [(4, .bool false)] (by kernel_rfl) ?_
    refine WL.nil ?_
    refine WQ.then_normal (hK308 _ _ _ ?_)
    refine WP.ret ?_
    refine WQ.then_ret ?_
    obtain rfl := Option.some.inj hm
    exact WQ.ret1 _ rfl rfl ⟨rfl, hb304⟩
  have hm := iteF hm hc307
  refine WP.skip ?_
  refine WQ.then_normal (hK281 _ _ _ ?_)
  refine WP.seq (fun K309 hK309 => ?_)
  refine WP.region ?_
  refine WL.runk 1 [10, 13, 14] [(10, .slice a81 x219.2.length c82), (13, .int .i64 x219.1), (14, .int .i64 1)] (by kernel_rfl) ?_
  refine WL.nil ?_
  refine WQ.then_normal (hK309 _ _ _ ?_)
  refine WP.seq (fun K310 hK310 => ?_)
  refine WP.region ?_
  refine WL.runk 2 [13, 109, 110] [(13, .int .i64 x219.1), (109, .slice a81 x219.2.length c82), (110, .int .i64 1)] (by kernel_rfl) ?_
  obtain ⟨x311, hx312, hm⟩ := bindE hm
  refine WL.call 44 #[.slice a81 x219.2.length c82, .int .i64 1] rfl rfl (by kernel_rfl) (c_44 n x219.2 a81 c82 1 w303 hx312 (SH.rd (SH.front 0 hS306)) (SH.le (SH.front 0 hS306)).1) ?_
  rintro _ w313 ⟨rfl, hE314⟩
  refine ⟨_, rfl, ?_⟩
  have hb316 : Ext w w313 := Ext.trans hb304 hE314
  have hL317 : w.heap.size ≤ w313.heap.size := Nat.le_trans hL305 hE314.size
  have hS318 : SH w313 w.heap.size [aOwn fInt 2 a81 c82 x219.2] := SH.ext hS306 hE314
  refine WL.runk 1 [13, 14] [(13, .int .i64 x219.1), (14, .int .i64 x311)] (by kernel_rfl) ?_
  refine WL.nil ?_
  refine WQ.then_normal (hK310 _ _ _ ?_)
  refine WP.seq (fun K319 hK319 => ?_)
  refine WP.seq (fun K320 hK320 => ?_)
  refine WP.region ?_
  refine WL.runk 2 [13, 14, 113] [(13, .int .i64 x219.1), (14, .int .i64 x311), (113, .bool (decide (x311 < 0)))] (by kernel_rfl) ?_
  refine WL.nil ?_
  refine WQ.then_normal (hK320 _ _ _ ?_)
  refine WP.cond (decide (x311 < 0)) rfl rfl (fun hc321 => ?_) (fun hc321 => ?_)
  · have hm := iteT hm hc321
    refine WP.seq (fun K322 hK322 => ?_)
    refine WP.region ?_
    refine WL.runk 1 [4] [(4, .bool false)] (by kernel_rfl) ?_
    refine WL.nil ?_
    refine WQ.then_normal (hK322 _ _ _ ?_)
    refine WP.ret ?_
    refine WQ.then_ret ?_
    obtain rfl := Option.some.inj hm
    exact WQ.ret1 _ rfl rfl ⟨rfl, hb316⟩
  have hm := iteF hm hc321
  refine WP.skip ?_
  refine WQ.then_normal (hK319 _ _ _ ?_)
  refine WP.seq (fun K323 hK323 => ?_)
  refine WP.seq (fun K324 hK324 => ?_)
  refine WP.region ?_
  refine WL.runk 3 [116] [(116, .bool (x311 != x219.1))] (by kernel_rfl) ?_
  refine WL.nil ?_
  refine WQ.then_normal (hK324 _ _ _ ?_)
  refine WP.cond (x311 != x219.1) rfl rfl (fun hc325 => ?_) (fun hc325 => ?_)
  · have hm := iteT hm hc325
    refine WP.seq (fun K326 hK326 => ?_)
    refine WP.region ?_
    refine WL.runk 1 [4] [(4, .bool false)] (by kernel_rfl) ?_
    refine WL.nil ?_
    refine WQ.then_normal (hK326 _ _ _ ?_)
    refine WP.ret ?_
    refine WQ.then_ret ?_
    obtain rfl := Option.some.inj hm
    exact WQ.ret1 _ rfl rfl ⟨rfl, hb316⟩
  have hm := iteF hm hc325
  refine WP.skip ?_
  refine WQ.then_normal (hK323 _ _ _ ?_)
  refine WP.seq (fun K327 hK327 => ?_)
  refine WP.region ?_
  refine WL.runk 1 [4] [(4, .bool true)] (by kernel_rfl) ?_
  refine WL.nil ?_
  refine WQ.then_normal (hK327 _ _ _ ?_)
  refine WP.ret ?_
  obtain rfl := Option.some.inj hm
  exact WQ.ret1 _ rfl rfl ⟨rfl, hb316⟩

end Go.Proofs.Ytkglfbcelaphhaa
