/- Each call does what its Lean function says. -/
import Derived.Test.YtkpdicajinionaaKUseReserved1
set_option maxRecDepth 20000
set_option maxHeartbeats 40000000
namespace Go.Proofs.Ytkpdicajinionaa
open Go Go.Gv Go.RowKit

theorem c_7 (n : Nat) (aList_0 : List SGood) (a0' : Option Addr) (c0' : Nat) (aName_1 : List UInt8) (aMany_2 : Int) (w : World) {r : Bool} (hm : m_laws_FnExactUseReserved n aList_0 aName_1 aMany_2 = some r) (h0 : Rd fGood.ty w a0' aList_0) (hle0 : aList_0.length ≤ c0') :
    CallV Try.prog 7 #[.slice a0' aList_0.length c0', .string (bs aName_1), .int .i64 aMany_2] w (fun v w' => v = .bool r ∧ Ext w w') := by
  unfold m_laws_FnExactUseReserved at hm
  refine CallV.enter Try.func7 rfl (by kernel_rfl) Try.ntmps7 (env := [(0, .slice a0' aList_0.length c0'), (1, .string (bs aName_1)), (2, .int .i64 aMany_2)]) ⟨rfl, rfl, rfl, trivial⟩ ?_
  refine WP.seq (fun K1 hK1 => ?_)
  refine WP.region ?_
  refine WL.runk 1 [0, 1, 2] [(0, .slice a0' aList_0.length c0'), (1, .string (bs aName_1)), (2, .int .i64 aMany_2)] (by kernel_rfl) ?_
  refine WL.nil ?_
  refine WQ.then_normal (hK1 _ _ _ ?_)
  refine WP.seq (fun K2 hK2 => ?_)
  refine WP.seq (fun K3 hK3 => ?_)
  refine WP.region ?_
  refine WL.runk 3 [0, 1, 2, 20] [(0, .slice a0' aList_0.length c0'), (1, .string (bs aName_1)), (2, .int .i64 aMany_2), (20, .bool (decide ((aName_1.length : Int) > 1048576)))] (by kernel_rfl) ?_
  refine WL.nil ?_
  refine WQ.then_normal (hK3 _ _ _ ?_)
  refine WP.cond (decide ((aName_1.length : Int) > 1048576)) rfl rfl (fun hc4 => ?_) (fun hc4 => ?_)
  · have hm := iteT hm hc4
    refine WP.seq (fun K5 hK5 => ?_)
    refine WP.region ?_
    refine WL.runk 1 [6] [(6, .bool true)] (by kernel_rfl) ?_
    refine WL.nil ?_
    refine WQ.then_normal (hK5 _ _ _ ?_)
    refine WP.ret ?_
    refine WQ.then_ret ?_
    obtain rfl := Option.some.inj hm
    exact WQ.ret1 _ rfl rfl ⟨rfl, (Ext.refl w)⟩
  have hm := iteF hm hc4
  refine WP.skip ?_
  refine WQ.then_normal (hK2 _ _ _ ?_)
  refine WP.seq (fun K6 hK6 => ?_)
  refine WP.region ?_
  refine WL.runk 1 [0, 1, 2, 7] [(0, .slice a0' aList_0.length c0'), (1, .string (bs aName_1)), (2, .int .i64 aMany_2), (7, .int .i64 1048576)] (by kernel_rfl) ?_
  refine WL.nil ?_
  refine WQ.then_normal (hK6 _ _ _ ?_)
  refine WP.seq (fun K7 hK7 => ?_)
  refine WP.region ?_
  refine WL.runk 2 [0, 1, 2, 21, 22] [(0, .slice a0' aList_0.length c0'), (1, .string (bs aName_1)), (2, .int .i64 aMany_2), (21, .slice a0' aList_0.length c0'), (22, .int .i64 1048576)] (by kernel_rfl) ?_
  obtain ⟨x8, hx9, hm⟩ := bindE hm
  refine WL.call 13 #[.slice a0' aList_0.length c0', .int .i64 1048576] rfl rfl (by kernel_rfl) (c_13 n aList_0 a0' c0' 1048576 w hx9 (Rd.below h0 (Ext.refl w)) hle0) ?_
  rintro _ w10 ⟨rfl, hE11⟩
  refine ⟨_, rfl, ?_⟩
  have hb13 : Ext w w10 := Ext.trans (Ext.refl w) hE11
  have hL14 : w.heap.size ≤ w10.heap.size := Nat.le_trans (Nat.le_refl _) hE11.size
  have hS15 : SH w10 w.heap.size [] := SH.ext (SH.nil _ _) hE11
  refine WL.runk 1 [0, 1, 2, 7] [(0, .slice a0' aList_0.length c0'), (1, .string (bs aName_1)), (2, .int .i64 aMany_2), (7, .int .i64 x8)] (by kernel_rfl) ?_
  refine WL.nil ?_
  refine WQ.then_normal (hK7 _ _ _ ?_)
  refine WP.seq (fun K16 hK16 => ?_)
  refine WP.seq (fun K17 hK17 => ?_)
  refine WP.region ?_
  refine WL.runk 2 [0, 1, 2, 25] [(0, .slice a0' aList_0.length c0'), (1, .string (bs aName_1)), (2, .int .i64 aMany_2), (25, .bool (decide (x8 < 0)))] (by kernel_rfl) ?_
  refine WL.nil ?_
  refine WQ.then_normal (hK17 _ _ _ ?_)
  refine WP.cond (decide (x8 < 0)) rfl rfl (fun hc18 => ?_) (fun hc18 => ?_)
  · have hm := iteT hm hc18
    refine WP.seq (fun K19 hK19 => ?_)
    refine WP.region ?_
    refine WL.runk 1 [6] [(6, .bool true)] (by kernel_rfl) ?_
    refine WL.nil ?_
    refine WQ.then_normal (hK19 _ _ _ ?_)
    refine WP.ret ?_
    refine WQ.then_ret ?_
    obtain rfl := Option.some.inj hm
    exact WQ.ret1 _ rfl rfl ⟨rfl, hb13⟩
  have hm := iteF hm hc18
  refine WP.skip ?_
  refine WQ.then_normal (hK16 _ _ _ ?_)
  refine WP.seq (fun K20 hK20 => ?_)
  refine WP.region ?_
  refine WL.runk 1 [0, 1, 2, 27] [(0, .slice a0' aList_0.length c0'), (1, .string (bs aName_1)), (2, .int .i64 aMany_2), (27, .slice a0' aList_0.length c0')] (by kernel_rfl) ?_
  obtain ⟨x21, hx22, hm⟩ := bindE hm
  refine WL.call 15 #[.slice a0' aList_0.length c0'] rfl rfl (by kernel_rfl) (c_15 n aList_0 a0' c0' w10 hx22 (Rd.below h0 hb13) hle0) ?_
  rintro _ w26 ⟨a23, c24, rfl, hE27, hR28⟩
  refine ⟨_, rfl, ?_⟩
  have hb29 : Ext w w26 := Ext.trans hb13 hE27
  have hL30 : w.heap.size ≤ w26.heap.size := Nat.le_trans hL14 hE27.size
  have hS31 : SH w26 w.heap.size [aOwn fGood 56 a23 c24 x21] := SH.add hS15 hE27 hL14 hR28
  refine WL.runk 2 [0, 1, 2, 28, 29, 30] [(0, .slice a0' aList_0.length c0'), (1, .string (bs aName_1)), (2, .int .i64 aMany_2), (28, .slice a23 x21.length c24), (29, .string (bs aName_1)), (30, .int .i64 aMany_2)] (by kernel_rfl) ?_
  obtain ⟨x32, hx33, hm⟩ := bindE hm
  refine WL.call 29 #[.slice a23 x21.length c24, .string (bs aName_1), .int .i64 aMany_2] rfl rfl (by kernel_rfl) (c_29 n x21 a23 c24 aName_1 aMany_2 w26 hx33 (SH.rd (SH.front 0 hS31)) (SH.le (SH.front 0 hS31)).1) ?_
  rintro _ w37 ⟨a34, c35, rfl, hE38, hR39⟩
  refine ⟨_, rfl, ?_⟩
  have hb40 : Ext w w37 := Ext.trans hb29 hE38
  have hL41 : w.heap.size ≤ w37.heap.size := Nat.le_trans hL30 hE38.size
  have hS42 : SH w37 w.heap.size [aOwn fGood 56 a34 c35 x32.1, aOwn fGood 56 a23 c24 x21] := SH.add hS31 hE38 hL30 hR39
  refine WL.runk 5 [0, 1, 2, 8, 9] [(0, .slice a0' aList_0.length c0'), (1, .string (bs aName_1)), (2, .int .i64 aMany_2), (8, .slice a34 x32.1.length c35), (9, .int .i64 x32.2)] (by kernel_rfl) ?_
  refine WL.nil ?_
  refine WQ.then_normal (hK20 _ _ _ ?_)
  refine WP.seq (fun K43 hK43 => ?_)
  refine WP.region ?_
  refine WL.runk 1 [0, 1, 2, 8, 9, 34] [(0, .slice a0' aList_0.length c0'), (1, .string (bs aName_1)), (2, .int .i64 aMany_2), (8, .slice a34 x32.1.length c35), (9, .int .i64 x32.2), (34, .slice a0' aList_0.length c0')] (by kernel_rfl) ?_
  obtain ⟨x44, hx45, hm⟩ := bindE hm
  refine WL.call 15 #[.slice a0' aList_0.length c0'] rfl rfl (by kernel_rfl) (c_15 n aList_0 a0' c0' w37 hx45 (Rd.below h0 hb40) hle0) ?_
  rintro _ w49 ⟨a46, c47, rfl, hE50, hR51⟩
  refine ⟨_, rfl, ?_⟩
  have hb52 : Ext w w49 := Ext.trans hb40 hE50
  have hL53 : w.heap.size ≤ w49.heap.size := Nat.le_trans hL41 hE50.size
  have hS54 : SH w49 w.heap.size [aOwn fGood 56 a46 c47 x44, aOwn fGood 56 a34 c35 x32.1, aOwn fGood 56 a23 c24 x21] := SH.add hS42 hE50 hL41 hR51
  refine WL.runk 1 [0, 1, 2, 8, 9, 10] [(0, .slice a0' aList_0.length c0'), (1, .string (bs aName_1)), (2, .int .i64 aMany_2), (8, .slice a34 x32.1.length c35), (9, .int .i64 x32.2), (10, .slice a46 x44.length c47)] (by kernel_rfl) ?_
  refine WL.nil ?_
  refine WQ.then_normal (hK43 _ _ _ ?_)
  refine WP.seq (fun K55 hK55 => ?_)
  refine WP.region ?_
  refine WL.runk 3 [0, 1, 2, 8, 9, 10, 37, 38, 39] [(0, .slice a0' aList_0.length c0'), (1, .string (bs aName_1)), (2, .int .i64 aMany_2), (8, .slice a34 x32.1.length c35), (9, .int .i64 x32.2), (10, .slice a46 x44.length c47), (37, .slice a46 x44.length c47), (38, .string (bs aName_1)), (39, .int .i64 aMany_2)] (by kernel_rfl) ?_
  obtain ⟨x56, hx57, hm⟩ := bindE hm
  refine WL.call 30 #[.slice a46 x44.length c47, .string (bs aName_1), .int .i64 aMany_2] rfl rfl (by kernel_rfl) (c_30 n x44 a46 c47 aName_1 aMany_2 w49 hx57 (SH.rd (SH.front 0 hS54)) (SH.le (SH.front 0 hS54)).1) ?_
  rintro _ w61 ⟨a58, c59, rfl, hE62, hR63⟩
  refine ⟨_, rfl, ?_⟩
  have hb64 : Ext w w61 := Ext.trans hb52 hE62
  have hL65 : w.heap.size ≤ w61.heap.size := Nat.le_trans hL53 hE62.size
  have hS66 : SH w61 w.heap.size [aOwn fGood 56 a58 c59 x56.1, aOwn fGood 56 a46 c47 x44, aOwn fGood 56 a34 c35 x32.1, aOwn fGood 56 a23 c24 x21] := SH.add hS54 hE62 hL53 hR63
  refine WL.runk 5 [0, 1, 2, 8, 9, 10, 11, 12] [(0, .slice a0' aList_0.length c0'), (1, .string (bs aName_1)), (2, .int .i64 aMany_2), (8, .slice a34 x32.1.length c35), (9, .int .i64 x32.2), (10, .slice a46 x44.length c47), (11, .slice a58 x56.1.length c59), (12, .int .i64 x56.2)] (by kernel_rfl) ?_
  refine WL.nil ?_
  refine WQ.then_normal (hK55 _ _ _ ?_)
  refine WP.seq (fun K67 hK67 => ?_)
  refine WP.seq (fun K68 hK68 => ?_)
  obtain ⟨x78, hx79, hm⟩ := bindE hm
  refine WP.cut (fun env' w' => env' = [(0, .slice a0' aList_0.length c0'), (1, .string (bs aName_1)), (2, .int .i64 aMany_2), (8, .slice a34 x32.1.length c35), (9, .int .i64 x32.2), (10, .slice a46 x44.length c47), (11, .slice a58 x56.1.length c59), (12, .int .i64 x56.2), (51, .bool x78)] ∧ Ext w w' ∧ w.heap.size ≤ w'.heap.size ∧ SH w' w.heap.size [aOwn fGood 56 a58 c59 x56.1, aOwn fGood 56 a46 c47 x44, aOwn fGood 56 a34 c35 x32.1, aOwn fGood 56 a23 c24 x21]) ?_ ?_
  · have hm := hx79; clear hx79
    refine WP.region ?_
    refine WL.runk 2 [0, 1, 2, 8, 9, 10, 11, 12, 43, 44] [(0, .slice a0' aList_0.length c0'), (1, .string (bs aName_1)), (2, .int .i64 aMany_2), (8, .slice a34 x32.1.length c35), (9, .int .i64 x32.2), (10, .slice a46 x44.length c47), (11, .slice a58 x56.1.length c59), (12, .int .i64 x56.2), (43, .slice a58 x56.1.length c59), (44, .slice a34 x32.1.length c35)] (by kernel_rfl) ?_
    obtain ⟨x80, hx81, hm⟩ := bindE hm
    refine WL.call 17 #[.slice a58 x56.1.length c59, .slice a34 x32.1.length c35] rfl rfl (by kernel_rfl) (c_17 n x56.1 a58 c59 x32.1 a34 c35 w61 hx81 (SH.rd (SH.front 0 hS66)) (SH.le (SH.front 0 hS66)).1 (SH.rd (SH.front 2 hS66)) (SH.le (SH.front 2 hS66)).1) ?_
    rintro _ w82 ⟨rfl, hE83⟩
    refine ⟨_, rfl, ?_⟩
    have hb85 : Ext w w82 := Ext.trans hb64 hE83
    have hL86 : w.heap.size ≤ w82.heap.size := Nat.le_trans hL65 hE83.size
    have hS87 : SH w82 w.heap.size [aOwn fGood 56 a58 c59 x56.1, aOwn fGood 56 a46 c47 x44, aOwn fGood 56 a34 c35 x32.1, aOwn fGood 56 a23 c24 x21] := SH.ext hS66 hE83
    refine WL.runk 2 [0, 1, 2, 8, 9, 10, 11, 12, 47] [(0, .slice a0' aList_0.length c0'), (1, .string (bs aName_1)), (2, .int .i64 aMany_2), (8, .slice a34 x32.1.length c35), (9, .int .i64 x32.2), (10, .slice a46 x44.length c47), (11, .slice a58 x56.1.length c59), (12, .int .i64 x56.2), (47, .bool (!x80))] (by kernel_rfl) ?_
    refine WL.case (!x80) [47] ⟨rfl, trivial⟩ (fun hc88 => ?_) (fun hc88 => ?_)
    · have hm := iteT hm hc88
      refine WL.runk 4 [0, 1, 2, 8, 9, 10, 11, 12, 51] [(0, .slice a0' aList_0.length c0'), (1, .string (bs aName_1)), (2, .int .i64 aMany_2), (8, .slice a34 x32.1.length c35), (9, .int .i64 x32.2), (10, .slice a46 x44.length c47), (11, .slice a58 x56.1.length c59), (12, .int .i64 x56.2), (51, .bool true)] (by kernel_rfl) ?_
      refine WL.nil ?_
      obtain rfl := Option.some.inj hm
      exact WQ.post' ⟨rfl, hb85, hL86, hS87⟩ ⟨rfl, rfl, rfl, rfl, rfl, rfl, rfl, rfl, rfl, trivial⟩
    have hm := iteF hm hc88
    refine WL.runk 4 [0, 1, 2, 8, 9, 10, 11, 12, 51] [(0, .slice a0' aList_0.length c0'), (1, .string (bs aName_1)), (2, .int .i64 aMany_2), (8, .slice a34 x32.1.length c35), (9, .int .i64 x32.2), (10, .slice a46 x44.length c47), (11, .slice a58 x56.1.length c59), (12, .int .i64 x56.2), (51, .bool (x56.2 != x32.2))] (by kernel_rfl) ?_
    refine WL.nil ?_
    obtain rfl := Option.some.inj hm
    exact WQ.post' ⟨rfl, hb85, hL86, hS87⟩ ⟨rfl, rfl, rfl, rfl, rfl, rfl, rfl, rfl, rfl, trivial⟩
  clear hx79
  rintro _ w89 ⟨rfl, hb90, hL91, hS92⟩
  refine WQ.then_normal (hK68 _ _ _ ?_)
  refine WP.cond x78 rfl rfl (fun hc93 => ?_) (fun hc93 => ?_)
  · have hm := iteT hm hc93
    refine WP.seq (fun K94 hK94 => ?_)
    refine WP.region ?_
    refine WL.runk 1 [6] [(6, .bool false)] (by kernel_rfl) ?_
    refine WL.nil ?_
    refine WQ.then_normal (hK94 _ _ _ ?_)
    refine WP.ret ?_
    refine WQ.then_ret ?_
    obtain rfl := Option.some.inj hm
    exact WQ.ret1 _ rfl rfl ⟨rfl, hb90⟩
  have hm := iteF hm hc93
  refine WP.skip ?_
  refine WQ.then_normal (hK67 _ _ _ ?_)
  refine WP.seq (fun K95 hK95 => ?_)
  refine WP.seq (fun K96 hK96 => ?_)
  refine WP.region ?_
  refine WL.runk 2 [0, 1, 2, 8, 9, 10, 11, 12, 52, 53] [(0, .slice a0' aList_0.length c0'), (1, .string (bs aName_1)), (2, .int .i64 aMany_2), (8, .slice a34 x32.1.length c35), (9, .int .i64 x32.2), (10, .slice a46 x44.length c47), (11, .slice a58 x56.1.length c59), (12, .int .i64 x56.2), (52, .slice a46 x44.length c47), (53, .slice a0' aList_0.length c0')] (by kernel_rfl) ?_
  obtain ⟨x97, hx98, hm⟩ := bindE hm
  refine WL.call 15 #[.slice a0' aList_0.length c0'] rfl rfl (by kernel_rfl) (c_15 n aList_0 a0' c0' w89 hx98 (Rd.below h0 hb90) hle0) ?_
  rintro _ w102 ⟨a99, c100, rfl, hE103, hR104⟩
  refine ⟨_, rfl, ?_⟩
  have hb105 : Ext w w102 := Ext.trans hb90 hE103
  have hL106 : w.heap.size ≤ w102.heap.size := Nat.le_trans hL91 hE103.size
  have hS107 : SH w102 w.heap.size [aOwn fGood 56 a99 c100 x97, aOwn fGood 56 a58 c59 x56.1, aOwn fGood 56 a46 c47 x44, aOwn fGood 56 a34 c35 x32.1, aOwn fGood 56 a23 c24 x21] := SH.add hS92 hE103 hL91 hR104
  obtain ⟨x108, hx109, hm⟩ := bindE hm
  refine WL.call 17 #[.slice a46 x44.length c47, .slice a99 x97.length c100] rfl rfl (by kernel_rfl) (c_17 n x44 a46 c47 x97 a99 c100 w102 hx109 (SH.rd (SH.front 2 hS107)) (SH.le (SH.front 2 hS107)).1 (SH.rd (SH.front 0 hS107)) (SH.le (SH.front 0 hS107)).1) ?_
  rintro _ w110 ⟨rfl, hE111⟩
  refine ⟨_, rfl, ?_⟩
  have hb113 : Ext w w110 := Ext.trans hb105 hE111
  have hL114 : w.heap.size ≤ w110.heap.size := Nat.le_trans hL106 hE111.size
  have hS115 : SH w110 w.heap.size [aOwn fGood 56 a99 c100 x97, aOwn fGood 56 a58 c59 x56.1, aOwn fGood 56 a46 c47 x44, aOwn fGood 56 a34 c35 x32.1, aOwn fGood 56 a23 c24 x21] := SH.ext hS107 hE111
  refine WL.runk 1 [0, 1, 2, 8, 9, 10, 11, 12, 56] [(0, .slice a0' aList_0.length c0'), (1, .string (bs aName_1)), (2, .int .i64 aMany_2), (8, .slice a34 x32.1.length c35), (9, .int .i64 x32.2), (10, .slice a46 x44.length c47), (11, .slice a58 x56.1.length c59), (12, .int .i64 x56.2), (56, .bool (!x108))] (by kernel_rfl) ?_
  refine WL.nil ?_
  refine WQ.then_normal (hK96 _ _ _ ?_)
  refine WP.cond (!x108) rfl rfl (fun hc116 => ?_) (fun hc116 => ?_)
  · have hm := iteT hm hc116
    refine WP.seq (fun K117 hK117 => ?_)
    refine WP.region ?_
    refine WL.runk 1 [6] [(6, .bool false)] (by kernel_rfl) ?_
    refine WL.nil ?_
    refine WQ.then_normal (hK117 _ _ _ ?_)
    refine WP.ret ?_
    refine WQ.then_ret ?_
    obtain rfl := Option.some.inj hm
    exact WQ.ret1 _ rfl rfl ⟨rfl, hb113⟩
  have hm := iteF hm hc116
  refine WP.skip ?_
  refine WQ.then_normal (hK95 _ _ _ ?_)
  refine WP.seq (fun K118 hK118 => ?_)
  refine WP.region ?_
  refine WL.runk 1 [0, 1, 2, 8, 9, 10, 11, 12, 13] [(0, .slice a0' aList_0.length c0'), (1, .string (bs aName_1)), (2, .int .i64 aMany_2), (8, .slice a34 x32.1.length c35), (9, .int .i64 x32.2), (10, .slice a46 x44.length c47), (11, .slice a58 x56.1.length c59), (12, .int .i64 x56.2), (13, .int .i64 1)] (by kernel_rfl) ?_
  refine WL.nil ?_
  refine WQ.then_normal (hK118 _ _ _ ?_)
  refine WP.seq (fun K119 hK119 => ?_)
  refine WP.region ?_
  refine WL.runk 2 [0, 1, 2, 8, 9, 11, 12, 57, 58] [(0, .slice a0' aList_0.length c0'), (1, .string (bs aName_1)), (2, .int .i64 aMany_2), (8, .slice a34 x32.1.length c35), (9, .int .i64 x32.2), (11, .slice a58 x56.1.length c59), (12, .int .i64 x56.2), (57, .slice a46 x44.length c47), (58, .int .i64 1)] (by kernel_rfl) ?_
  obtain ⟨x120, hx121, hm⟩ := bindE hm
  refine WL.call 23 #[.slice a46 x44.length c47, .int .i64 1] rfl rfl (by kernel_rfl) (c_23 n x44 a46 c47 1 w110 w w.heap.size [aOwn fGood 56 a99 c100 x97, aOwn fGood 56 a58 c59 x56.1, aOwn fGood 56 a34 c35 x32.1, aOwn fGood 56 a23 c24 x21] hx121 hb113 (Nat.le_refl _) hL114  (SH.front 4 (SH.front 3 (SH.front 3 (SH.front 4 (SH.front 4 hS115)))))) ?_
  rintro _ w122 ⟨rfl, hB126, hS125, hlen127⟩
  refine ⟨_, rfl, ?_⟩
  have hb128 : Ext w w122 := Below.trans hb113 hB126
  have hL129 : w.heap.size ≤ w122.heap.size := Nat.le_trans hL114 hB126.size
  refine WL.sub [(0, .slice a0' aList_0.length c0'), (1, .string (bs aName_1)), (2, .int .i64 aMany_2), (8, .slice a34 x32.1.length c35), (9, .int .i64 x32.2), (11, .slice a58 x56.1.length c59), (12, .int .i64 x56.2), (57, .slice a46 x120.2.length c47), (58, .int .i64 1), (59, .int .i64 x120.1)] ⟨rfl, rfl, rfl, rfl, rfl, rfl, rfl, by rw [hlen127]; rfl, rfl, rfl, trivial⟩ ?_
  refine WL.runk 1 [0, 1, 2, 8, 9, 11, 12, 13] [(0, .slice a0' aList_0.length c0'), (1, .string (bs aName_1)), (2, .int .i64 aMany_2), (8, .slice a34 x32.1.length c35), (9, .int .i64 x32.2), (11, .slice a58 x56.1.length c59), (12, .int .i64 x56.2), (13, .int .i64 x120.1)] (by kernel_rfl) ?_
  refine WL.nil ?_
  refine WQ.then_normal (hK119 _ _ _ ?_)
  refine WP.seq (fun K130 hK130 => ?_)
  refine WP.seq (fun K131 hK131 => ?_)
  obtain ⟨x142, hx143, hm⟩ := bindE hm
  refine WP.cut (fun env' w' => env' = [(0, .slice a0' aList_0.length c0'), (1, .string (bs aName_1)), (2, .int .i64 aMany_2), (8, .slice a34 x32.1.length c35), (9, .int .i64 x32.2), (11, .slice a58 x56.1.length c59), (72, .bool x142)] ∧ Ext w w' ∧ w.heap.size ≤ w'.heap.size ∧ SH w' w.heap.size [aOwn fGood 56 a46 c47 x120.2, aOwn fGood 56 a99 c100 x97, aOwn fGood 56 a58 c59 x56.1, aOwn fGood 56 a34 c35 x32.1, aOwn fGood 56 a23 c24 x21]) ?_ ?_
  · have hm := hx143; clear hx143
    refine WP.region ?_
    refine WL.runk 3 [0, 1, 2, 8, 9, 11, 12, 62] [(0, .slice a0' aList_0.length c0'), (1, .string (bs aName_1)), (2, .int .i64 aMany_2), (8, .slice a34 x32.1.length c35), (9, .int .i64 x32.2), (11, .slice a58 x56.1.length c59), (12, .int .i64 x56.2), (62, .bool (decide (x120.1 < 0)))] (by kernel_rfl) ?_
    refine WL.case (decide (x120.1 < 0)) [62] ⟨rfl, trivial⟩ (fun hc144 => ?_) (fun hc144 => ?_)
    · have hm := iteT hm hc144
      refine WL.runk 10 [0, 1, 2, 8, 9, 11, 72] [(0, .slice a0' aList_0.length c0'), (1, .string (bs aName_1)), (2, .int .i64 aMany_2), (8, .slice a34 x32.1.length c35), (9, .int .i64 x32.2), (11, .slice a58 x56.1.length c59), (72, .bool true)] (by kernel_rfl) ?_
      refine WL.nil ?_
      obtain rfl := Option.some.inj hm
      exact WQ.post' ⟨rfl, hb128, hL129, hS125⟩ ⟨rfl, rfl, rfl, rfl, rfl, rfl, rfl, trivial⟩
    have hm := iteF hm hc144
    refine WL.runk 2 [0, 1, 2, 8, 9, 11, 12, 62, 63, 64] [(0, .slice a0' aList_0.length c0'), (1, .string (bs aName_1)), (2, .int .i64 aMany_2), (8, .slice a34 x32.1.length c35), (9, .int .i64 x32.2), (11, .slice a58 x56.1.length c59), (12, .int .i64 x56.2), (62, .bool false), (63, .slice a58 x56.1.length c59), (64, .slice a34 x32.1.length c35)] (by kernel_rfl) ?_
    obtain ⟨x145, hx146, hm⟩ := bindE hm
    refine WL.call 17 #[.slice a58 x56.1.length c59, .slice a34 x32.1.length c35] rfl rfl (by kernel_rfl) (c_17 n x56.1 a58 c59 x32.1 a34 c35 w122 hx146 (SH.rd (SH.front 2 hS125)) (SH.le (SH.front 2 hS125)).1 (SH.rd (SH.front 3 hS125)) (SH.le (SH.front 3 hS125)).1) ?_
    rintro _ w147 ⟨rfl, hE148⟩
    refine ⟨_, rfl, ?_⟩
    have hb150 : Ext w w147 := Ext.trans hb128 hE148
    have hL151 : w.heap.size ≤ w147.heap.size := Nat.le_trans hL129 hE148.size
    have hS152 : SH w147 w.heap.size [aOwn fGood 56 a46 c47 x120.2, aOwn fGood 56 a99 c100 x97, aOwn fGood 56 a58 c59 x56.1, aOwn fGood 56 a34 c35 x32.1, aOwn fGood 56 a23 c24 x21] := SH.ext hS125 hE148
    refine WL.runk 3 [0, 1, 2, 8, 9, 11, 12, 68] [(0, .slice a0' aList_0.length c0'), (1, .string (bs aName_1)), (2, .int .i64 aMany_2), (8, .slice a34 x32.1.length c35), (9, .int .i64 x32.2), (11, .slice a58 x56.1.length c59), (12, .int .i64 x56.2), (68, .bool (!x145))] (by kernel_rfl) ?_
    refine WL.case (!x145) [68] ⟨rfl, trivial⟩ (fun hc153 => ?_) (fun hc153 => ?_)
    · have hm := iteT hm hc153
      refine WL.runk 4 [0, 1, 2, 8, 9, 11, 72] [(0, .slice a0' aList_0.length c0'), (1, .string (bs aName_1)), (2, .int .i64 aMany_2), (8, .slice a34 x32.1.length c35), (9, .int .i64 x32.2), (11, .slice a58 x56.1.length c59), (72, .bool true)] (by kernel_rfl) ?_
      refine WL.nil ?_
      obtain rfl := Option.some.inj hm
      exact WQ.post' ⟨rfl, hb150, hL151, hS152⟩ ⟨rfl, rfl, rfl, rfl, rfl, rfl, rfl, trivial⟩
    have hm := iteF hm hc153
    refine WL.runk 4 [0, 1, 2, 8, 9, 11, 72] [(0, .slice a0' aList_0.length c0'), (1, .string (bs aName_1)), (2, .int .i64 aMany_2), (8, .slice a34 x32.1.length c35), (9, .int .i64 x32.2), (11, .slice a58 x56.1.length c59), (72, .bool (x56.2 != x32.2))] (by kernel_rfl) ?_
    refine WL.nil ?_
    obtain rfl := Option.some.inj hm
    exact WQ.post' ⟨rfl, hb150, hL151, hS152⟩ ⟨rfl, rfl, rfl, rfl, rfl, rfl, rfl, trivial⟩
  clear hx143
  rintro _ w154 ⟨rfl, hb155, hL156, hS157⟩
  refine WQ.then_normal (hK131 _ _ _ ?_)
  refine WP.cond x142 rfl rfl (fun hc158 => ?_) (fun hc158 => ?_)
  · have hm := iteT hm hc158
    refine WP.seq (fun K159 hK159 => ?_)
    refine WP.region ?_
    refine WL.runk 1 [6] [(6, .bool false)] (by kernel_rfl) ?_
    refine WL.nil ?_
    refine WQ.then_normal (hK159 _ _ _ ?_)
    refine WP.ret ?_
    refine WQ.then_ret ?_
    obtain rfl := Option.some.inj hm
    exact WQ.ret1 _ rfl rfl ⟨rfl, hb155⟩
  have hm := iteF hm hc158
  refine WP.skip ?_
  refine WQ.then_normal (hK130 _ _ _ ?_)
  refine WP.seq (fun K160 hK160 => ?_)
  refine WP.region ?_
  refine WL.runk 1 [0, 1, 2, 8, 9, 11, 14] [(0, .slice a0' aList_0.length c0'), (1, .string (bs aName_1)), (2, .int .i64 aMany_2), (8, .slice a34 x32.1.length c35), (9, .int .i64 x32.2), (11, .slice a58 x56.1.length c59), (14, .int .i64 1)] (by kernel_rfl) ?_
  refine WL.nil ?_
  refine WQ.then_normal (hK160 _ _ _ ?_)
  refine WP.seq (fun K161 hK161 => ?_)
  refine WP.region ?_
  refine WL.runk 2 [0, 1, 2, 8, 9, 11, 73, 74] [(0, .slice a0' aList_0.length c0'), (1, .string (bs aName_1)), (2, .int .i64 aMany_2), (8, .slice a34 x32.1.length c35), (9, .int .i64 x32.2), (11, .slice a58 x56.1.length c59), (73, .slice a58 x56.1.length c59), (74, .int .i64 1)] (by kernel_rfl) ?_
  obtain ⟨x162, hx163, hm⟩ := bindE hm
  refine WL.call 23 #[.slice a58 x56.1.length c59, .int .i64 1] rfl rfl (by kernel_rfl) (c_23 n x56.1 a58 c59 1 w154 w w.heap.size [aOwn fGood 56 a46 c47 x120.2, aOwn fGood 56 a99 c100 x97, aOwn fGood 56 a34 c35 x32.1, aOwn fGood 56 a23 c24 x21] hx163 hb155 (Nat.le_refl _) hL156  (SH.front 4 (SH.front 3 (SH.front 3 (SH.front 4 (SH.front 4 hS157)))))) ?_
  rintro _ w164 ⟨rfl, hB168, hS167, hlen169⟩
  refine ⟨_, rfl, ?_⟩
  have hb170 : Ext w w164 := Below.trans hb155 hB168
  have hL171 : w.heap.size ≤ w164.heap.size := Nat.le_trans hL156 hB168.size
  refine WL.sub [(0, .slice a0' aList_0.length c0'), (1, .string (bs aName_1)), (2, .int .i64 aMany_2), (8, .slice a34 x32.1.length c35), (9, .int .i64 x32.2), (11, .slice a58 x162.2.length c59), (73, .slice a58 x162.2.length c59), (74, .int .i64 1), (75, .int .i64 x162.1)] ⟨rfl, rfl, rfl, rfl, rfl, by rw [hlen169]; rfl, by rw [hlen169]; rfl, rfl, rfl, trivial⟩ ?_
  refine WL.runk 1 [0, 1, 2, 8, 9, 11, 14] [(0, .slice a0' aList_0.length c0'), (1, .string (bs aName_1)), (2, .int .i64 aMany_2), (8, .slice a34 x32.1.length c35), (9, .int .i64 x32.2), (11, .slice a58 x162.2.length c59), (14, .int .i64 x162.1)] (by kernel_rfl) ?_
  refine WL.nil ?_
  refine WQ.then_normal (hK161 _ _ _ ?_)
  refine WP.seq (fun K172 hK172 => ?_)
  refine WP.region ?_
  refine WL.runk 1 [0, 1, 2, 8, 9, 11, 14, 15] [(0, .slice a0' aList_0.length c0'), (1, .string (bs aName_1)), (2, .int .i64 aMany_2), (8, .slice a34 x32.1.length c35), (9, .int .i64 x32.2), (11, .slice a58 x162.2.length c59), (14, .int .i64 x162.1), (15, .int .i64 1)] (by kernel_rfl) ?_
  refine WL.nil ?_
  refine WQ.then_normal (hK172 _ _ _ ?_)
  refine WP.seq (fun K173 hK173 => ?_)
  refine WP.region ?_
  refine WL.runk 2 [0, 1, 2, 8, 9, 11, 14, 76, 77] [(0, .slice a0' aList_0.length c0'), (1, .string (bs aName_1)), (2, .int .i64 aMany_2), (8, .slice a34 x32.1.length c35), (9, .int .i64 x32.2), (11, .slice a58 x162.2.length c59), (14, .int .i64 x162.1), (76, .slice a58 x162.2.length c59), (77, .int .i64 1)] (by kernel_rfl) ?_
  obtain ⟨x174, hx175, hm⟩ := bindE hm
  refine WL.call 28 #[.slice a58 x162.2.length c59, .int .i64 1] rfl rfl (by kernel_rfl) (c_28 n x162.2 a58 c59 1 w164 hx175 (SH.rd (SH.front 0 hS167)) (SH.le (SH.front 0 hS167)).1) ?_
  rintro _ w176 ⟨rfl, hE177⟩
  refine ⟨_, rfl, ?_⟩
  have hb179 : Ext w w176 := Ext.trans hb170 hE177
  have hL180 : w.heap.size ≤ w176.heap.size := Nat.le_trans hL171 hE177.size
  have hS181 : SH w176 w.heap.size [aOwn fGood 56 a58 c59 x162.2, aOwn fGood 56 a46 c47 x120.2, aOwn fGood 56 a99 c100 x97, aOwn fGood 56 a34 c35 x32.1, aOwn fGood 56 a23 c24 x21] := SH.ext hS167 hE177
  refine WL.runk 1 [0, 1, 2, 8, 9, 11, 14, 15] [(0, .slice a0' aList_0.length c0'), (1, .string (bs aName_1)), (2, .int .i64 aMany_2), (8, .slice a34 x32.1.length c35), (9, .int .i64 x32.2), (11, .slice a58 x162.2.length c59), (14, .int .i64 x162.1), (15, .int .i64 x174)] (by kernel_rfl) ?_
  refine WL.nil ?_
  refine WQ.then_normal (hK173 _ _ _ ?_)
  refine WP.seq (fun K182 hK182 => ?_)
  refine WP.seq (fun K183 hK183 => ?_)
  refine WP.region ?_
  refine WL.runk 2 [0, 1, 2, 8, 9, 11, 14, 15, 80] [(0, .slice a0' aList_0.length c0'), (1, .string (bs aName_1)), (2, .int .i64 aMany_2), (8, .slice a34 x32.1.length c35), (9, .int .i64 x32.2), (11, .slice a58 x162.2.length c59), (14, .int .i64 x162.1), (15, .int .i64 x174), (80, .bool (decide (x174 < 0)))] (by kernel_rfl) ?_
  refine WL.nil ?_
  refine WQ.then_normal (hK183 _ _ _ ?_)
  refine WP.cond (decide (x174 < 0)) rfl rfl (fun hc184 => ?_) (fun hc184 => ?_)
  · have hm := iteT hm hc184
    refine WP.seq (fun K185 hK185 => ?_)
    refine WP.region ?_
    refine WL.runk 1 [6] [(6, .bool false)] (by kernel_rfl) ?_
    refine WL.nil ?_
    refine WQ.then_normal (hK185 _ _ _ ?_)
    refine WP.ret ?_
    refine WQ.then_ret ?_
    obtain rfl := Option.some.inj hm
    exact WQ.ret1 _ rfl rfl ⟨rfl, hb179⟩
  have hm := iteF hm hc184
  refine WP.skip ?_
  refine WQ.then_normal (hK182 _ _ _ ?_)
  refine WP.seq (fun K186 hK186 => ?_)
  refine WP.seq (fun K187 hK187 => ?_)
  refine WP.region ?_
  refine WL.runk 3 [0, 1, 2, 8, 9, 11, 14, 83] [(0, .slice a0' aList_0.length c0'), (1, .string (bs aName_1)), (2, .int .i64 aMany_2), (8, .slice a34 x32.1.length c35), (9, .int .i64 x32.2), (11, .slice a58 x162.2.length c59), (14, .int .i64 x162.1), (83, .bool (x174 != x162.1))] (by kernel_rfl) ?_
  refine WL.nil ?_
  refine WQ.then_normal (hK187 _ _ _ ?_)
  refine WP.cond (x174 != x162.1) rfl rfl (fun hc188 => ?_) (fun hc188 => ?_)
  · have hm := iteT hm hc188
    refine WP.seq (fun K189 hK189 => ?_)
    refine WP.region ?_
    refine WL.runk 1 [6] [(6, .bool false)] (by kernel_rfl) ?_
    refine WL.nil ?_
    refine WQ.then_normal (hK189 _ _ _ ?_)
    refine WP.ret ?_
    refine WQ.then_ret ?_
    obtain rfl := Option.some.inj hm
    exact WQ.ret1 _ rfl rfl ⟨rfl, hb179⟩
  have hm := iteF hm hc188
  refine WP.skip ?_
  refine WQ.then_normal (hK186 _ _ _ ?_)
  refine WP.seq (fun K190 hK190 => ?_)
  refine WP.region ?_
  refine WL.runk 1 [1, 2, 8, 9, 11, 14, 85] [(1, .string (bs aName_1)), (2, .int .i64 aMany_2), (8, .slice a34 x32.1.length c35), (9, .int .i64 x32.2), (11, .slice a58 x162.2.length c59), (14, .int .i64 x162.1), (85, .slice a0' aList_0.length c0')] (by kernel_rfl) ?_
  obtain ⟨x191, hx192, hm⟩ := bindE hm
  refine WL.call 15 #[.slice a0' aList_0.length c0'] rfl rfl (by kernel_rfl) (c_15 n aList_0 a0' c0' w176 hx192 (Rd.below h0 hb179) hle0) ?_
  rintro _ w196 ⟨a193, c194, rfl, hE197, hR198⟩
  refine ⟨_, rfl, ?_⟩
  have hb199 : Ext w w196 := Ext.trans hb179 hE197
  have hL200 : w.heap.size ≤ w196.heap.size := Nat.le_trans hL180 hE197.size
  have hS201 : SH w196 w.heap.size [aOwn fGood 56 a193 c194 x191, aOwn fGood 56 a58 c59 x162.2, aOwn fGood 56 a46 c47 x120.2, aOwn fGood 56 a99 c100 x97, aOwn fGood 56 a34 c35 x32.1, aOwn fGood 56 a23 c24 x21] := SH.add hS181 hE197 hL180 hR198
  refine WL.runk 2 [8, 9, 11, 14, 86, 87, 88] [(8, .slice a34 x32.1.length c35), (9, .int .i64 x32.2), (11, .slice a58 x162.2.length c59), (14, .int .i64 x162.1), (86, .slice a193 x191.length c194), (87, .string (bs aName_1)), (88, .int .i64 aMany_2)] (by kernel_rfl) ?_
  obtain ⟨x202, hx203, hm⟩ := bindE hm
  refine WL.call 30 #[.slice a193 x191.length c194, .string (bs aName_1), .int .i64 aMany_2] rfl rfl (by kernel_rfl) (c_30 n x191 a193 c194 aName_1 aMany_2 w196 hx203 (SH.rd (SH.front 0 hS201)) (SH.le (SH.front 0 hS201)).1) ?_
  rintro _ w207 ⟨a204, c205, rfl, hE208, hR209⟩
  refine ⟨_, rfl, ?_⟩
  have hb210 : Ext w w207 := Ext.trans hb199 hE208
  have hL211 : w.heap.size ≤ w207.heap.size := Nat.le_trans hL200 hE208.size
  have hS212 : SH w207 w.heap.size [aOwn fGood 56 a204 c205 x202.1, aOwn fGood 56 a193 c194 x191, aOwn fGood 56 a58 c59 x162.2, aOwn fGood 56 a46 c47 x120.2, aOwn fGood 56 a99 c100 x97, aOwn fGood 56 a34 c35 x32.1, aOwn fGood 56 a23 c24 x21] := SH.add hS201 hE208 hL200 hR209
  refine WL.runk 5 [8, 9, 11, 14, 16, 17] [(8, .slice a34 x32.1.length c35), (9, .int .i64 x32.2), (11, .slice a58 x162.2.length c59), (14, .int .i64 x162.1), (16, .slice a204 x202.1.length c205), (17, .int .i64 x202.2)] (by kernel_rfl) ?_
  refine WL.nil ?_
  refine WQ.then_normal (hK190 _ _ _ ?_)
  refine WP.seq (fun K213 hK213 => ?_)
  refine WP.seq (fun K214 hK214 => ?_)
  obtain ⟨x224, hx225, hm⟩ := bindE hm
  refine WP.cut (fun env' w' => env' = [(11, .slice a58 x162.2.length c59), (14, .int .i64 x162.1), (100, .bool x224)] ∧ Ext w w' ∧ w.heap.size ≤ w'.heap.size ∧ SH w' w.heap.size [aOwn fGood 56 a204 c205 x202.1, aOwn fGood 56 a193 c194 x191, aOwn fGood 56 a58 c59 x162.2, aOwn fGood 56 a46 c47 x120.2, aOwn fGood 56 a99 c100 x97, aOwn fGood 56 a34 c35 x32.1, aOwn fGood 56 a23 c24 x21]) ?_ ?_
  · have hm := hx225; clear hx225
    refine WP.region ?_
    refine WL.runk 2 [9, 11, 14, 17, 92, 93] [(9, .int .i64 x32.2), (11, .slice a58 x162.2.length c59), (14, .int .i64 x162.1), (17, .int .i64 x202.2), (92, .slice a204 x202.1.length c205), (93, .slice a34 x32.1.length c35)] (by kernel_rfl) ?_
    obtain ⟨x226, hx227, hm⟩ := bindE hm
    refine WL.call 17 #[.slice a204 x202.1.length c205, .slice a34 x32.1.length c35] rfl rfl (by kernel_rfl) (c_17 n x202.1 a204 c205 x32.1 a34 c35 w207 hx227 (SH.rd (SH.front 0 hS212)) (SH.le (SH.front 0 hS212)).1 (SH.rd (SH.front 5 hS212)) (SH.le (SH.front 5 hS212)).1) ?_
    rintro _ w228 ⟨rfl, hE229⟩
    refine ⟨_, rfl, ?_⟩
    have hb231 : Ext w w228 := Ext.trans hb210 hE229
    have hL232 : w.heap.size ≤ w228.heap.size := Nat.le_trans hL211 hE229.size
    have hS233 : SH w228 w.heap.size [aOwn fGood 56 a204 c205 x202.1, aOwn fGood 56 a193 c194 x191, aOwn fGood 56 a58 c59 x162.2, aOwn fGood 56 a46 c47 x120.2, aOwn fGood 56 a99 c100 x97, aOwn fGood 56 a34 c35 x32.1, aOwn fGood 56 a23 c24 x21] := SH.ext hS212 hE229
    refine WL.runk 2 [9, 11, 14, 17, 96] [(9, .int .i64 x32.2), (11, .slice a58 x162.2.length c59), (14, .int .i64 x162.1), (17, .int .i64 x202.2), (96, .bool (!x226))] (by kernel_rfl) ?_
    refine WL.case (!x226) [96] ⟨rfl, trivial⟩ (fun hc234 => ?_) (fun hc234 => ?_)
    · have hm := iteT hm hc234
      refine WL.runk 4 [11, 14, 100] [(11, .slice a58 x162.2.length c59), (14, .int .i64 x162.1), (100, .bool true)] (by kernel_rfl) ?_
      refine WL.nil ?_
      obtain rfl := Option.some.inj hm
      exact WQ.post' ⟨rfl, hb231, hL232, hS233⟩ ⟨rfl, rfl, rfl, trivial⟩
    have hm := iteF hm hc234
    refine WL.runk 4 [11, 14, 100] [(11, .slice a58 x162.2.length c59), (14, .int .i64 x162.1), (100, .bool (x202.2 != x32.2))] (by kernel_rfl) ?_
    refine WL.nil ?_
    obtain rfl := Option.some.inj hm
    exact WQ.post' ⟨rfl, hb231, hL232, hS233⟩ ⟨rfl, rfl, rfl, trivial⟩
  clear hx225
  rintro _ w235 ⟨rfl, hb236, hL237, hS238⟩
  refine WQ.then_normal (hK214 _ _ _ ?_)
  refine WP.cond x224 rfl rfl (fun hc239 => ?_) (fun hc239 => ?_)
  · have hm := iteT hm hc239
    refine WP.seq (fun K240 hK240 => ?_)
    refine WP.region ?_
    refine WL.runk 1 [6] [(6, .bool false)] (by kernel_rfl) ?_
    refine WL.nil ?_
    refine WQ.then_normal (hK240 _ _ _ ?_)
    refine WP.ret ?_
    refine WQ.then_ret ?_
    obtain rfl := Option.some.inj hm
    exact WQ.ret1 _ rfl rfl ⟨rfl, hb236⟩
  have hm := iteF hm hc239
  refine WP.skip ?_
  refine WQ.then_normal (hK213 _ _ _ ?_)
  refine WP.seq (fun K241 hK241 => ?_)
  refine WP.region ?_
  refine WL.runk 1 [11, 14, 15] [(11, .slice a58 x162.2.length c59), (14, .int .i64 x162.1), (15, .int .i64 1)] (by kernel_rfl) ?_
  refine WL.nil ?_
  refine WQ.then_normal (hK241 _ _ _ ?_)
  refine WP.seq (fun K242 hK242 => ?_)
  refine WP.region ?_
  refine WL.runk 2 [14, 101, 102] [(14, .int .i64 x162.1), (101, .slice a58 x162.2.length c59), (102, .int .i64 1)] (by kernel_rfl) ?_
  obtain ⟨x243, hx244, hm⟩ := bindE hm
  refine WL.call 28 #[.slice a58 x162.2.length c59, .int .i64 1] rfl rfl (by kernel_rfl) (c_28 n x162.2 a58 c59 1 w235 hx244 (SH.rd (SH.front 2 hS238)) (SH.le (SH.front 2 hS238)).1) ?_
  rintro _ w245 ⟨rfl, hE246⟩
  refine ⟨_, rfl, ?_⟩
  have hb248 : Ext w w245 := Ext.trans hb236 hE246
  have hL249 : w.heap.size ≤ w245.heap.size := Nat.le_trans hL237 hE246.size
  have hS250 : SH w245 w.heap.size [aOwn fGood 56 a204 c205 x202.1, aOwn fGood 56 a193 c194 x191, aOwn fGood 56 a58 c59 x162.2, aOwn fGood 56 a46 c47 x120.2, aOwn fGood 56 a99 c100 x97, aOwn fGood 56 a34 c35 x32.1, aOwn fGood 56 a23 c24 x21] := SH.ext hS238 hE246
  refine WL.runk 1 [14, 15] [(14, .int .i64 x162.1), (15, .int .i64 x243)] (by kernel_rfl) ?_
  refine WL.nil ?_
  refine WQ.then_normal (hK242 _ _ _ ?_)
  refine WP.seq (fun K251 hK251 => ?_)
  refine WP.seq (fun K252 hK252 => ?_)
  refine WP.region ?_
  refine WL.runk 2 [14, 15, 105] [(14, .int .i64 x162.1), (15, .int .i64 x243), (105, .bool (decide (x243 < 0)))] (by kernel_rfl) ?_
  refine WL.nil ?_
  refine WQ.then_normal (hK252 _ _ _ ?_)
  refine WP.cond (decide (x243 < 0)) rfl rfl (fun hc253 => ?_) (fun hc253 => ?_)
  · have hm := iteT hm hc253
    refine WP.seq (fun K254 hK254 => ?_)
    refine WP.region ?_
    refine WL.runk 1 [6] [(6, .bool false)] (by kernel_rfl) ?_
    refine WL.nil ?_
    refine WQ.then_normal (hK254 _ _ _ ?_)
    refine WP.ret ?_
    refine WQ.then_ret ?_
    obtain rfl := Option.some.inj hm
    exact WQ.ret1 _ rfl rfl ⟨rfl, hb248⟩
  have hm := iteF hm hc253
  refine WP.skip ?_
  refine WQ.then_normal (hK251 _ _ _ ?_)
  refine WP.seq (fun K255 hK255 => ?_)
  refine WP.seq (fun K256 hK256 => ?_)
  refine WP.region ?_
  refine WL.runk 3 [108] [(108, .bool (x243 != x162.1))] (by kernel_rfl) ?_
  refine WL.nil ?_
  refine WQ.then_normal (hK256 _ _ _ ?_)
  refine WP.cond (x243 != x162.1) rfl rfl (fun hc257 => ?_) (fun hc257 => ?_)
  · have hm := iteT hm hc257
    refine WP.seq (fun K258 hK258 => ?_)
    refine WP.region ?_
    refine WL.runk 1 [6] [(6, .bool false)] (by kernel_rfl) ?_
    refine WL.nil ?_
    refine WQ.then_normal (hK258 _ _ _ ?_)
    refine WP.ret ?_
    refine WQ.then_ret ?_
    obtain rfl := Option.some.inj hm
    exact WQ.ret1 _ rfl rfl ⟨rfl, hb248⟩
  have hm := iteF hm hc257
  refine WP.skip ?_
  refine WQ.then_normal (hK255 _ _ _ ?_)
  refine WP.seq (fun K259 hK259 => ?_)
  refine WP.region ?_
  refine WL.runk 1 [6] [(6, .bool true)] (by kernel_rfl) ?_
  refine WL.nil ?_
  refine WQ.then_normal (hK259 _ _ _ ?_)
  refine WP.ret ?_
  obtain rfl := Option.some.inj hm
  exact WQ.ret1 _ rfl rfl ⟨rfl, hb248⟩

end Go.Proofs.Ytkpdicajinionaa
