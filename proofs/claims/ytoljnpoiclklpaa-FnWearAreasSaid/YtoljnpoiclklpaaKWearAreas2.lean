/- Each call does what its Lean function says. -/
import Derived.Test.YtoljnpoiclklpaaKWearAreas1
set_option maxRecDepth 20000
set_option maxHeartbeats 4000000
namespace Go.Proofs.Ytoljnpoiclklpaa
open Go Go.Gv Go.RowKit

theorem c_14 (n : Nat) (code_0 : List Int) (a0' : Option Addr) (c0' : Nat) (more_1 : List Int) (a1' : Option Addr) (c1' : Nat) (w : World) {r : Bool} (hm : m_laws_FnWearAreas n code_0 more_1 = some r) (h0 : Rd fU8.ty w a0' code_0) (hle0 : code_0.length ≤ c0') (h1 : Rd fU8.ty w a1' more_1) (hle1 : more_1.length ≤ c1') :
    CallV Try.prog 14 #[.slice a0' code_0.length c0', .slice a1' more_1.length c1'] w (fun v w' => v = .bool r ∧ Ext w w') := by
  unfold m_laws_FnWearAreas at hm
  refine CallV.enter Try.func14 rfl (by kernel_rfl) Try.ntmps14 (env := [(0, .slice a0' code_0.length c0'), (1, .slice a1' more_1.length c1')]) ⟨rfl, rfl, trivial⟩ ?_
  refine WP.seq (fun K1 hK1 => ?_)
  refine WP.region ?_
  refine WL.runk 1 [0, 1] [(0, .slice a0' code_0.length c0'), (1, .slice a1' more_1.length c1')] (by kernel_rfl) ?_
  refine WL.nil ?_
  refine WQ.then_normal (hK1 _ _ _ ?_)
  refine WP.seq (fun K2 hK2 => ?_)
  refine WP.seq (fun K3 hK3 => ?_)
  refine WP.region ?_
  refine WL.runk 2 [0, 1, 27, 28] [(0, .slice a0' code_0.length c0'), (1, .slice a1' more_1.length c1'), (27, .slice a0' code_0.length c0'), (28, .slice a1' more_1.length c1')] (by kernel_rfl) ?_
  obtain ⟨x4, hx5, hm⟩ := bindE hm
  refine WL.call 40 #[.slice a0' code_0.length c0', .slice a1' more_1.length c1'] rfl rfl (by kernel_rfl) (c_40 n code_0 a0' c0' more_1 a1' c1' w hx5 (Rd.below h0 (Ext.refl w)) hle0 (Rd.below h1 (Ext.refl w)) hle1) ?_
  rintro _ w6 ⟨rfl, hE7⟩
  refine ⟨_, rfl, ?_⟩
  have hb9 : Ext w w6 := Ext.trans (Ext.refl w) hE7
  have hL10 : w.heap.size ≤ w6.heap.size := Nat.le_trans (Nat.le_refl _) hE7.size
  have hS11 : SH w6 w.heap.size [] := SH.ext (SH.nil _ _) hE7
  refine WL.sub [(0, .slice a0' code_0.length c0'), (1, .slice a1' more_1.length c1'), (29, .bool x4)] ⟨rfl, rfl, rfl, trivial⟩ ?_
  refine WL.nil ?_
  refine WQ.then_normal (hK3 _ _ _ ?_)
  refine WP.cond x4 rfl rfl (fun hc12 => ?_) (fun hc12 => ?_)
  · have hm := iteT hm hc12
    refine WP.seq (fun K13 hK13 => ?_)
    refine WP.region ?_
    refine WL.runk 1 [4] [(4, .bool true)] (by kernel_rfl) ?_
    refine WL.nil ?_
    refine WQ.then_normal (hK13 _ _ _ ?_)
    refine WP.ret ?_
    refine WQ.then_ret ?_
    obtain rfl := Option.some.inj hm
    exact WQ.ret1 _ rfl rfl ⟨rfl, hb9⟩
  have hm := iteF hm hc12
  refine WP.skip ?_
  refine WQ.then_normal (hK2 _ _ _ ?_)
  refine WP.seq (fun K14 hK14 => ?_)
  refine WP.region ?_
  refine WL.runk 1 [1, 30] [(1, .slice a1' more_1.length c1'), (30, .slice a0' code_0.length c0')] (by kernel_rfl) ?_
  obtain ⟨x15, hx16, hm⟩ := bindE hm
  refine WL.call 41 #[.slice a0' code_0.length c0'] rfl rfl (by kernel_rfl) (c_41 n code_0 a0' c0' w6 hx16 (Rd.below h0 hb9) hle0) ?_
  rintro _ w20 ⟨a17, c18, rfl, hE21, hR22⟩
  refine ⟨_, rfl, ?_⟩
  have hb23 : Ext w w20 := Ext.trans hb9 hE21
  have hL24 : w.heap.size ≤ w20.heap.size := Nat.le_trans hL10 hE21.size
  have hS25 : SH w20 w.heap.size [aOwn fStr 9 a17 c18 x15] := SH.add hS11 hE21 hL10 hR22
  refine WL.runk 1 [1, 5] [(1, .slice a1' more_1.length c1'), (5, .slice a17 x15.length c18)] (by kernel_rfl) ?_
  refine WL.nil ?_
  refine WQ.then_normal (hK14 _ _ _ ?_)
  refine WP.seq (fun K26 hK26 => ?_)
  refine WP.region ?_
  refine WL.runk 1 [1, 5, 32] [(1, .slice a1' more_1.length c1'), (5, .slice a17 x15.length c18), (32, .slice a1' more_1.length c1')] (by kernel_rfl) ?_
  obtain ⟨x27, hx28, hm⟩ := bindE hm
  refine WL.call 47 #[.slice a1' more_1.length c1', .int .i64 0, .int .i64 9] rfl rfl (by kernel_rfl) (c_47 n more_1 a1' c1' 0 9 w20 hx28 (Rd.below h1 hb23) hle1) ?_
  rintro _ w29 ⟨rfl, hE30⟩
  refine ⟨_, rfl, ?_⟩
  have hb32 : Ext w w29 := Ext.trans hb23 hE30
  have hL33 : w.heap.size ≤ w29.heap.size := Nat.le_trans hL24 hE30.size
  have hS34 : SH w29 w.heap.size [aOwn fStr 9 a17 c18 x15] := SH.ext hS25 hE30
  refine WL.runk 2 [1, 5, 6] [(1, .slice a1' more_1.length c1'), (5, .slice a17 x15.length c18), (6, .int .i64 (wI64 (1 + x27)))] (by kernel_rfl) ?_
  refine WL.nil ?_
  refine WQ.then_normal (hK26 _ _ _ ?_)
  refine WP.seq (fun K35 hK35 => ?_)
  refine WP.region ?_
  refine WL.runk 2 [1, 5, 6, 36, 37] [(1, .slice a1' more_1.length c1'), (5, .slice a17 x15.length c18), (6, .int .i64 (wI64 (1 + x27))), (36, .slice a17 x15.length c18), (37, .int .i64 (wI64 (1 + x27)))] (by kernel_rfl) ?_
  obtain ⟨x36, hx37, hm⟩ := bindE hm
  refine WL.call 21 #[.slice a17 x15.length c18, .int .i64 (wI64 (1 + x27))] rfl rfl (by kernel_rfl) (c_21 n x15 a17 c18 (wI64 (1 + x27)) w29 hx37 (SH.rd (SH.front 0 hS34)) (SH.le (SH.front 0 hS34)).1) ?_
  rintro _ w38 ⟨rfl, hE39⟩
  refine ⟨_, rfl, ?_⟩
  have hb41 : Ext w w38 := Ext.trans hb32 hE39
  have hL42 : w.heap.size ≤ w38.heap.size := Nat.le_trans hL33 hE39.size
  have hS43 : SH w38 w.heap.size [aOwn fStr 9 a17 c18 x15] := SH.ext hS34 hE39
  refine WL.runk 5 [1, 5, 6, 7, 8] [(1, .slice a1' more_1.length c1'), (5, .slice a17 x15.length c18), (6, .int .i64 (wI64 (1 + x27))), (7, .int .i64 x36.1), (8, .int .i64 x36.2)] (by kernel_rfl) ?_
  refine WL.nil ?_
  refine WQ.then_normal (hK35 _ _ _ ?_)
  refine WP.seq (fun K44 hK44 => ?_)
  refine WP.region ?_
  refine WL.runk 2 [1, 5, 6, 7, 8, 42, 43] [(1, .slice a1' more_1.length c1'), (5, .slice a17 x15.length c18), (6, .int .i64 (wI64 (1 + x27))), (7, .int .i64 x36.1), (8, .int .i64 x36.2), (42, .slice a17 x15.length c18), (43, .int .i64 (wI64 (1 + x27)))] (by kernel_rfl) ?_
  obtain ⟨x45, hx46, hm⟩ := bindE hm
  refine WL.call 46 #[.slice a17 x15.length c18, .int .i64 (wI64 (1 + x27))] rfl rfl (by kernel_rfl) (c_46 n x15 a17 c18 (wI64 (1 + x27)) w38 hx46 (SH.rd (SH.front 0 hS43)) (SH.le (SH.front 0 hS43)).1) ?_
  rintro _ w50 ⟨a47, c48, rfl, hE51, hR52⟩
  refine ⟨_, rfl, ?_⟩
  have hb53 : Ext w w50 := Ext.trans hb41 hE51
  have hL54 : w.heap.size ≤ w50.heap.size := Nat.le_trans hL42 hE51.size
  have hS55 : SH w50 w.heap.size [aOwn fInt 2 a47 c48 x45.1, aOwn fStr 9 a17 c18 x15] := SH.add hS43 hE51 hL42 hR52
  refine WL.runk 5 [1, 5, 6, 7, 8, 9, 10] [(1, .slice a1' more_1.length c1'), (5, .slice a17 x15.length c18), (6, .int .i64 (wI64 (1 + x27))), (7, .int .i64 x36.1), (8, .int .i64 x36.2), (9, .slice a47 x45.1.length c48), (10, .int .i64 x45.2)] (by kernel_rfl) ?_
  refine WL.nil ?_
  refine WQ.then_normal (hK44 _ _ _ ?_)
  refine WP.seq (fun K56 hK56 => ?_)
  refine WP.region ?_
  refine WL.runk 2 [1, 5, 6, 7, 8, 9, 10, 48, 49] [(1, .slice a1' more_1.length c1'), (5, .slice a17 x15.length c18), (6, .int .i64 (wI64 (1 + x27))), (7, .int .i64 x36.1), (8, .int .i64 x36.2), (9, .slice a47 x45.1.length c48), (10, .int .i64 x45.2), (48, .slice a17 x15.length c18), (49, .int .i64 (wI64 (1 + x27)))] (by kernel_rfl) ?_
  obtain ⟨x57, hx58, hm⟩ := bindE hm
  refine WL.call 39 #[.slice a17 x15.length c18, .int .i64 (wI64 (1 + x27))] rfl rfl (by kernel_rfl) (c_39 n x15 a17 c18 (wI64 (1 + x27)) w50 hx58 (SH.rd (SH.front 1 hS55)) (SH.le (SH.front 1 hS55)).1) ?_
  rintro _ w62 ⟨a59, c60, rfl, hE63, hR64⟩
  refine ⟨_, rfl, ?_⟩
  have hb65 : Ext w w62 := Ext.trans hb53 hE63
  have hL66 : w.heap.size ≤ w62.heap.size := Nat.le_trans hL54 hE63.size
  have hS67 : SH w62 w.heap.size [aOwn fInt 2 a59 c60 x57.1, aOwn fInt 2 a47 c48 x45.1, aOwn fStr 9 a17 c18 x15] := SH.add hS55 hE63 hL54 hR64
  refine WL.runk 5 [1, 5, 6, 7, 8, 9, 10, 11, 12] [(1, .slice a1' more_1.length c1'), (5, .slice a17 x15.length c18), (6, .int .i64 (wI64 (1 + x27))), (7, .int .i64 x36.1), (8, .int .i64 x36.2), (9, .slice a47 x45.1.length c48), (10, .int .i64 x45.2), (11, .slice a59 x57.1.length c60), (12, .int .i64 x57.2)] (by kernel_rfl) ?_
  refine WL.nil ?_
  refine WQ.then_normal (hK56 _ _ _ ?_)
  refine WP.seq (fun K68 hK68 => ?_)
  refine WP.region ?_
  refine WL.runk 1 [1, 5, 6, 7, 8, 9, 10, 11, 12, 54] [(1, .slice a1' more_1.length c1'), (5, .slice a17 x15.length c18), (6, .int .i64 (wI64 (1 + x27))), (7, .int .i64 x36.1), (8, .int .i64 x36.2), (9, .slice a47 x45.1.length c48), (10, .int .i64 x45.2), (11, .slice a59 x57.1.length c60), (12, .int .i64 x57.2), (54, .slice a17 x15.length c18)] (by kernel_rfl) ?_
  obtain ⟨x69, hx70, hm⟩ := bindE hm
  refine WL.call 23 #[.slice a17 x15.length c18] rfl rfl (by kernel_rfl) (c_23 n x15 a17 c18 w62 hx70 (SH.rd (SH.front 2 hS67)) (SH.le (SH.front 2 hS67)).1) ?_
  rintro _ w74 ⟨a71, c72, rfl, hE75, hR76⟩
  refine ⟨_, rfl, ?_⟩
  have hb77 : Ext w w74 := Ext.trans hb65 hE75
  have hL78 : w.heap.size ≤ w74.heap.size := Nat.le_trans hL66 hE75.size
  have hS79 : SH w74 w.heap.size [aOwn fStr 9 a71 c72 x69.1, aOwn fInt 2 a59 c60 x57.1, aOwn fInt 2 a47 c48 x45.1, aOwn fStr 9 a17 c18 x15] := SH.add hS67 hE75 hL66 hR76
  refine WL.runk 5 [1, 5, 6, 7, 8, 9, 10, 11, 12, 13, 14] [(1, .slice a1' more_1.length c1'), (5, .slice a17 x15.length c18), (6, .int .i64 (wI64 (1 + x27))), (7, .int .i64 x36.1), (8, .int .i64 x36.2), (9, .slice a47 x45.1.length c48), (10, .int .i64 x45.2), (11, .slice a59 x57.1.length c60), (12, .int .i64 x57.2), (13, .slice a71 x69.1.length c72), (14, .int .i64 x69.2)] (by kernel_rfl) ?_
  refine WL.nil ?_
  refine WQ.then_normal (hK68 _ _ _ ?_)
  refine WP.seq (fun K80 hK80 => ?_)
  refine WP.seq (fun K81 hK81 => ?_)
  obtain ⟨x103, hx104, hm⟩ := bindE hm
  refine WP.cut (fun env' w' => env' = [(1, .slice a1' more_1.length c1'), (5, .slice a17 x15.length c18), (6, .int .i64 (wI64 (1 + x27))), (7, .int .i64 x36.1), (9, .slice a47 x45.1.length c48), (11, .slice a59 x57.1.length c60), (12, .int .i64 x57.2), (13, .slice a71 x69.1.length c72), (85, .bool x103)] ∧ Ext w w' ∧ w.heap.size ≤ w'.heap.size ∧ SH w' w.heap.size [aOwn fStr 9 a71 c72 x69.1, aOwn fInt 2 a59 c60 x57.1, aOwn fInt 2 a47 c48 x45.1, aOwn fStr 9 a17 c18 x15]) ?_ ?_
  · have hm := hx104; clear hx104
    refine WP.region ?_
    refine WL.runk 3 [1, 5, 6, 7, 9, 10, 11, 12, 13, 14, 60] [(1, .slice a1' more_1.length c1'), (5, .slice a17 x15.length c18), (6, .int .i64 (wI64 (1 + x27))), (7, .int .i64 x36.1), (9, .slice a47 x45.1.length c48), (10, .int .i64 x45.2), (11, .slice a59 x57.1.length c60), (12, .int .i64 x57.2), (13, .slice a71 x69.1.length c72), (14, .int .i64 x69.2), (60, .bool (x36.2 != 0))] (by kernel_rfl) ?_
    refine WL.case (x36.2 != 0) [60] ⟨rfl, trivial⟩ (fun hc105 => ?_) (fun hc105 => ?_)
    · have hm := iteT hm hc105
      refine WL.runk 25 [1, 5, 6, 7, 9, 11, 12, 13, 85] [(1, .slice a1' more_1.length c1'), (5, .slice a17 x15.length c18), (6, .int .i64 (wI64 (1 + x27))), (7, .int .i64 x36.1), (9, .slice a47 x45.1.length c48), (11, .slice a59 x57.1.length c60), (12, .int .i64 x57.2), (13, .slice a71 x69.1.length c72), (85, .bool true)] (by kernel_rfl) ?_
      refine WL.nil ?_
      obtain rfl := Option.some.inj hm
      exact WQ.post' ⟨rfl, hb77, hL78, hS79⟩ ⟨rfl, rfl, rfl, rfl, rfl, rfl, rfl, rfl, rfl, trivial⟩
    have hm := iteF hm hc105
    refine WL.runk 4 [1, 5, 6, 7, 9, 11, 12, 13, 14, 64] [(1, .slice a1' more_1.length c1'), (5, .slice a17 x15.length c18), (6, .int .i64 (wI64 (1 + x27))), (7, .int .i64 x36.1), (9, .slice a47 x45.1.length c48), (11, .slice a59 x57.1.length c60), (12, .int .i64 x57.2), (13, .slice a71 x69.1.length c72), (14, .int .i64 x69.2), (64, .bool (x45.2 != 0))] (by kernel_rfl) ?_
    refine WL.case (x45.2 != 0) [64] ⟨rfl, trivial⟩ (fun hc106 => ?_) (fun hc106 => ?_)
    · have hm := iteT hm hc106
      refine WL.runk 21 [1, 5, 6, 7, 9, 11, 12, 13, 85] [(1, .slice a1' more_1.length c1'), (5, .slice a17 x15.length c18), (6, .int .i64 (wI64 (1 + x27))), (7, .int .i64 x36.1), (9, .slice a47 x45.1.length c48), (11, .slice a59 x57.1.length c60), (12, .int .i64 x57.2), (13, .slice a71 x69.1.length c72), (85, .bool true)] (by kernel_rfl) ?_
      refine WL.nil ?_
      obtain rfl := Option.some.inj hm
      exact WQ.post' ⟨rfl, hb77, hL78, hS79⟩ ⟨rfl, rfl, rfl, rfl, rfl, rfl, rfl, rfl, rfl, trivial⟩
    have hm := iteF hm hc106
    refine WL.runk 1 [1, 5, 6, 7, 9, 11, 12, 13, 14, 64, 65] [(1, .slice a1' more_1.length c1'), (5, .slice a17 x15.length c18), (6, .int .i64 (wI64 (1 + x27))), (7, .int .i64 x36.1), (9, .slice a47 x45.1.length c48), (11, .slice a59 x57.1.length c60), (12, .int .i64 x57.2), (13, .slice a71 x69.1.length c72), (14, .int .i64 x69.2), (64, .bool false), (65, .slice a47 x45.1.length c48)] (by kernel_rfl) ?_
    obtain ⟨x107, hx108, hm⟩ := bindE hm
    refine WL.call 43 #[.slice a47 x45.1.length c48] rfl rfl (by kernel_rfl) (c_43 n x45.1 a47 c48 w74 hx108 (SH.rd (SH.front 2 hS79)) (SH.le (SH.front 2 hS79)).1) ?_
    rintro _ w109 ⟨rfl, hE110⟩
    refine ⟨_, rfl, ?_⟩
    have hb112 : Ext w w109 := Ext.trans hb77 hE110
    have hL113 : w.heap.size ≤ w109.heap.size := Nat.le_trans hL78 hE110.size
    have hS114 : SH w109 w.heap.size [aOwn fStr 9 a71 c72 x69.1, aOwn fInt 2 a59 c60 x57.1, aOwn fInt 2 a47 c48 x45.1, aOwn fStr 9 a17 c18 x15] := SH.ext hS79 hE110
    refine WL.runk 4 [1, 5, 6, 7, 9, 11, 12, 13, 14, 70] [(1, .slice a1' more_1.length c1'), (5, .slice a17 x15.length c18), (6, .int .i64 (wI64 (1 + x27))), (7, .int .i64 x36.1), (9, .slice a47 x45.1.length c48), (11, .slice a59 x57.1.length c60), (12, .int .i64 x57.2), (13, .slice a71 x69.1.length c72), (14, .int .i64 x69.2), (70, .bool (x107 != x36.1))] (by kernel_rfl) ?_
    refine WL.case (x107 != x36.1) [70] ⟨rfl, trivial⟩ (fun hc115 => ?_) (fun hc115 => ?_)
    · have hm := iteT hm hc115
      refine WL.runk 15 [1, 5, 6, 7, 9, 11, 12, 13, 85] [(1, .slice a1' more_1.length c1'), (5, .slice a17 x15.length c18), (6, .int .i64 (wI64 (1 + x27))), (7, .int .i64 x36.1), (9, .slice a47 x45.1.length c48), (11, .slice a59 x57.1.length c60), (12, .int .i64 x57.2), (13, .slice a71 x69.1.length c72), (85, .bool true)] (by kernel_rfl) ?_
      refine WL.nil ?_
      obtain rfl := Option.some.inj hm
      exact WQ.post' ⟨rfl, hb112, hL113, hS114⟩ ⟨rfl, rfl, rfl, rfl, rfl, rfl, rfl, rfl, rfl, trivial⟩
    have hm := iteF hm hc115
    refine WL.runk 7 [1, 5, 6, 7, 9, 11, 12, 13, 14, 77] [(1, .slice a1' more_1.length c1'), (5, .slice a17 x15.length c18), (6, .int .i64 (wI64 (1 + x27))), (7, .int .i64 x36.1), (9, .slice a47 x45.1.length c48), (11, .slice a59 x57.1.length c60), (12, .int .i64 x57.2), (13, .slice a71 x69.1.length c72), (14, .int .i64 x69.2), (77, .bool (!((x36.1 == 0) == (x57.2 == 3))))] (by kernel_rfl) ?_
    refine WL.case (!((x36.1 == 0) == (x57.2 == 3))) [77] ⟨rfl, trivial⟩ (fun hc116 => ?_) (fun hc116 => ?_)
    · have hm := iteT hm hc116
      refine WL.runk 8 [1, 5, 6, 7, 9, 11, 12, 13, 85] [(1, .slice a1' more_1.length c1'), (5, .slice a17 x15.length c18), (6, .int .i64 (wI64 (1 + x27))), (7, .int .i64 x36.1), (9, .slice a47 x45.1.length c48), (11, .slice a59 x57.1.length c60), (12, .int .i64 x57.2), (13, .slice a71 x69.1.length c72), (85, .bool true)] (by kernel_rfl) ?_
      refine WL.nil ?_
      obtain rfl := Option.some.inj hm
      exact WQ.post' ⟨rfl, hb112, hL113, hS114⟩ ⟨rfl, rfl, rfl, rfl, rfl, rfl, rfl, rfl, rfl, trivial⟩
    have hm := iteF hm hc116
    refine WL.runk 4 [1, 5, 6, 7, 9, 11, 12, 13, 81] [(1, .slice a1' more_1.length c1'), (5, .slice a17 x15.length c18), (6, .int .i64 (wI64 (1 + x27))), (7, .int .i64 x36.1), (9, .slice a47 x45.1.length c48), (11, .slice a59 x57.1.length c60), (12, .int .i64 x57.2), (13, .slice a71 x69.1.length c72), (81, .bool (x69.2 != 0))] (by kernel_rfl) ?_
    refine WL.case (x69.2 != 0) [81] ⟨rfl, trivial⟩ (fun hc117 => ?_) (fun hc117 => ?_)
    · have hm := iteT hm hc117
      refine WL.runk 4 [1, 5, 6, 7, 9, 11, 12, 13, 85] [(1, .slice a1' more_1.length c1'), (5, .slice a17 x15.length c18), (6, .int .i64 (wI64 (1 + x27))), (7, .int .i64 x36.1), (9, .slice a47 x45.1.length c48), (11, .slice a59 x57.1.length c60), (12, .int .i64 x57.2), (13, .slice a71 x69.1.length c72), (85, .bool true)] (by kernel_rfl) ?_
      refine WL.nil ?_
      obtain rfl := Option.some.inj hm
      exact WQ.post' ⟨rfl, hb112, hL113, hS114⟩ ⟨rfl, rfl, rfl, rfl, rfl, rfl, rfl, rfl, rfl, trivial⟩
    have hm := iteF hm hc117
    refine WL.runk 1 [1, 5, 6, 7, 9, 11, 12, 13, 81, 82] [(1, .slice a1' more_1.length c1'), (5, .slice a17 x15.length c18), (6, .int .i64 (wI64 (1 + x27))), (7, .int .i64 x36.1), (9, .slice a47 x45.1.length c48), (11, .slice a59 x57.1.length c60), (12, .int .i64 x57.2), (13, .slice a71 x69.1.length c72), (81, .bool false), (82, .slice a71 x69.1.length c72)] (by kernel_rfl) ?_
    obtain ⟨x118, hx119, hm⟩ := bindE hm
    refine WL.call 16 #[.slice a71 x69.1.length c72] rfl rfl (by kernel_rfl) (c_16 n x69.1 a71 c72 w109 hx119 (SH.rd (SH.front 0 hS114)) (SH.le (SH.front 0 hS114)).1) ?_
    rintro _ w120 ⟨rfl, hE121⟩
    refine ⟨_, rfl, ?_⟩
    have hb123 : Ext w w120 := Ext.trans hb112 hE121
    have hL124 : w.heap.size ≤ w120.heap.size := Nat.le_trans hL113 hE121.size
    have hS125 : SH w120 w.heap.size [aOwn fStr 9 a71 c72 x69.1, aOwn fInt 2 a59 c60 x57.1, aOwn fInt 2 a47 c48 x45.1, aOwn fStr 9 a17 c18 x15] := SH.ext hS114 hE121
    refine WL.runk 2 [1, 5, 6, 7, 9, 11, 12, 13, 85] [(1, .slice a1' more_1.length c1'), (5, .slice a17 x15.length c18), (6, .int .i64 (wI64 (1 + x27))), (7, .int .i64 x36.1), (9, .slice a47 x45.1.length c48), (11, .slice a59 x57.1.length c60), (12, .int .i64 x57.2), (13, .slice a71 x69.1.length c72), (85, .bool (!x118))] (by kernel_rfl) ?_
    refine WL.nil ?_
    obtain rfl := Option.some.inj hm
    exact WQ.post' ⟨rfl, hb123, hL124, hS125⟩ ⟨rfl, rfl, rfl, rfl, rfl, rfl, rfl, rfl, rfl, trivial⟩
  clear hx104
  rintro _ w126 ⟨rfl, hb127, hL128, hS129⟩
  refine WQ.then_normal (hK81 _ _ _ ?_)
  refine WP.cond x103 rfl rfl (fun hc130 => ?_) (fun hc130 => ?_)
  · have hm := iteT hm hc130
    refine WP.seq (fun K131 hK131 => ?_)
    refine WP.region ?_
    refine WL.runk 1 [4] [(4, .bool false)] (by kernel_rfl) ?_
    refine WL.nil ?_
    refine WQ.then_normal (hK131 _ _ _ ?_)
    refine WP.ret ?_
    refine WQ.then_ret ?_
    obtain rfl := Option.some.inj hm
    exact WQ.ret1 _ rfl rfl ⟨rfl, hb127⟩
  have hm := iteF hm hc130
  refine WP.skip ?_
  refine WQ.then_normal (hK80 _ _ _ ?_)
  refine WP.seq (fun K132 hK132 => ?_)
  refine WP.region ?_
  refine WL.runk 2 [1, 5, 6, 7, 9, 11, 12, 13, 87, 88] [(1, .slice a1' more_1.length c1'), (5, .slice a17 x15.length c18), (6, .int .i64 (wI64 (1 + x27))), (7, .int .i64 x36.1), (9, .slice a47 x45.1.length c48), (11, .slice a59 x57.1.length c60), (12, .int .i64 x57.2), (13, .slice a71 x69.1.length c72), (87, .slice a71 x69.1.length c72), (88, .int .i64 (wI64 (1 + x27)))] (by kernel_rfl) ?_
  obtain ⟨x133, hx134, hm⟩ := bindE hm
  refine WL.call 21 #[.slice a71 x69.1.length c72, .int .i64 (wI64 (1 + x27))] rfl rfl (by kernel_rfl) (c_21 n x69.1 a71 c72 (wI64 (1 + x27)) w126 hx134 (SH.rd (SH.front 0 hS129)) (SH.le (SH.front 0 hS129)).1) ?_
  rintro _ w135 ⟨rfl, hE136⟩
  refine ⟨_, rfl, ?_⟩
  have hb138 : Ext w w135 := Ext.trans hb127 hE136
  have hL139 : w.heap.size ≤ w135.heap.size := Nat.le_trans hL128 hE136.size
  have hS140 : SH w135 w.heap.size [aOwn fStr 9 a71 c72 x69.1, aOwn fInt 2 a59 c60 x57.1, aOwn fInt 2 a47 c48 x45.1, aOwn fStr 9 a17 c18 x15] := SH.ext hS129 hE136
  refine WL.runk 5 [1, 5, 6, 7, 9, 11, 12, 13, 15, 16] [(1, .slice a1' more_1.length c1'), (5, .slice a17 x15.length c18), (6, .int .i64 (wI64 (1 + x27))), (7, .int .i64 x36.1), (9, .slice a47 x45.1.length c48), (11, .slice a59 x57.1.length c60), (12, .int .i64 x57.2), (13, .slice a71 x69.1.length c72), (15, .int .i64 x133.1), (16, .int .i64 x133.2)] (by kernel_rfl) ?_
  refine WL.nil ?_
  refine WQ.then_normal (hK132 _ _ _ ?_)
  refine WP.seq (fun K141 hK141 => ?_)
  refine WP.region ?_
  refine WL.runk 2 [1, 5, 6, 7, 9, 11, 12, 15, 16, 93, 94] [(1, .slice a1' more_1.length c1'), (5, .slice a17 x15.length c18), (6, .int .i64 (wI64 (1 + x27))), (7, .int .i64 x36.1), (9, .slice a47 x45.1.length c48), (11, .slice a59 x57.1.length c60), (12, .int .i64 x57.2), (15, .int .i64 x133.1), (16, .int .i64 x133.2), (93, .slice a71 x69.1.length c72), (94, .int .i64 (wI64 (1 + x27)))] (by kernel_rfl) ?_
  obtain ⟨x142, hx143, hm⟩ := bindE hm
  refine WL.call 46 #[.slice a71 x69.1.length c72, .int .i64 (wI64 (1 + x27))] rfl rfl (by kernel_rfl) (c_46 n x69.1 a71 c72 (wI64 (1 + x27)) w135 hx143 (SH.rd (SH.front 0 hS140)) (SH.le (SH.front 0 hS140)).1) ?_
  rintro _ w147 ⟨a144, c145, rfl, hE148, hR149⟩
  refine ⟨_, rfl, ?_⟩
  have hb150 : Ext w w147 := Ext.trans hb138 hE148
  have hL151 : w.heap.size ≤ w147.heap.size := Nat.le_trans hL139 hE148.size
  have hS152 : SH w147 w.heap.size [aOwn fInt 2 a144 c145 x142.1, aOwn fStr 9 a71 c72 x69.1, aOwn fInt 2 a59 c60 x57.1, aOwn fInt 2 a47 c48 x45.1, aOwn fStr 9 a17 c18 x15] := SH.add hS140 hE148 hL139 hR149
  refine WL.runk 5 [1, 5, 6, 7, 9, 11, 12, 15, 16, 17, 18] [(1, .slice a1' more_1.length c1'), (5, .slice a17 x15.length c18), (6, .int .i64 (wI64 (1 + x27))), (7, .int .i64 x36.1), (9, .slice a47 x45.1.length c48), (11, .slice a59 x57.1.length c60), (12, .int .i64 x57.2), (15, .int .i64 x133.1), (16, .int .i64 x133.2), (17, .slice a144 x142.1.length c145), (18, .int .i64 x142.2)] (by kernel_rfl) ?_
  refine WL.nil ?_
  refine WQ.then_normal (hK141 _ _ _ ?_)
  refine WP.seq (fun K153 hK153 => ?_)
  refine WP.seq (fun K154 hK154 => ?_)
  obtain ⟨x158, hx159, hm⟩ := bindE hm
  refine WP.cut (fun env' w' => env' = [(1, .slice a1' more_1.length c1'), (5, .slice a17 x15.length c18), (6, .int .i64 (wI64 (1 + x27))), (7, .int .i64 x36.1), (11, .slice a59 x57.1.length c60), (12, .int .i64 x57.2), (115, .bool x158)] ∧ Ext w w' ∧ w.heap.size ≤ w'.heap.size ∧ SH w' w.heap.size [aOwn fInt 2 a144 c145 x142.1, aOwn fStr 9 a71 c72 x69.1, aOwn fInt 2 a59 c60 x57.1, aOwn fInt 2 a47 c48 x45.1, aOwn fStr 9 a17 c18 x15]) ?_ ?_
  · have hm := hx159; clear hx159
    refine WP.region ?_
    refine WL.runk 3 [1, 5, 6, 7, 9, 11, 12, 15, 17, 18, 100] [(1, .slice a1' more_1.length c1'), (5, .slice a17 x15.length c18), (6, .int .i64 (wI64 (1 + x27))), (7, .int .i64 x36.1), (9, .slice a47 x45.1.length c48), (11, .slice a59 x57.1.length c60), (12, .int .i64 x57.2), (15, .int .i64 x133.1), (17, .slice a144 x142.1.length c145), (18, .int .i64 x142.2), (100, .bool (x133.2 != 0))] (by kernel_rfl) ?_
    refine WL.case (x133.2 != 0) [100] ⟨rfl, trivial⟩ (fun hc160 => ?_) (fun hc160 => ?_)
    · have hm := iteT hm hc160
      refine WL.runk 15 [1, 5, 6, 7, 11, 12, 115] [(1, .slice a1' more_1.length c1'), (5, .slice a17 x15.length c18), (6, .int .i64 (wI64 (1 + x27))), (7, .int .i64 x36.1), (11, .slice a59 x57.1.length c60), (12, .int .i64 x57.2), (115, .bool true)] (by kernel_rfl) ?_
      refine WL.nil ?_
      obtain rfl := Option.some.inj hm
      exact WQ.post' ⟨rfl, hb150, hL151, hS152⟩ ⟨rfl, rfl, rfl, rfl, rfl, rfl, rfl, trivial⟩
    have hm := iteF hm hc160
    refine WL.runk 5 [1, 5, 6, 7, 9, 11, 12, 17, 18, 105] [(1, .slice a1' more_1.length c1'), (5, .slice a17 x15.length c18), (6, .int .i64 (wI64 (1 + x27))), (7, .int .i64 x36.1), (9, .slice a47 x45.1.length c48), (11, .slice a59 x57.1.length c60), (12, .int .i64 x57.2), (17, .slice a144 x142.1.length c145), (18, .int .i64 x142.2), (105, .bool (x133.1 != x36.1))] (by kernel_rfl) ?_
    refine WL.case (x133.1 != x36.1) [105] ⟨rfl, trivial⟩ (fun hc161 => ?_) (fun hc161 => ?_)
    · have hm := iteT hm hc161
      refine WL.runk 10 [1, 5, 6, 7, 11, 12, 115] [(1, .slice a1' more_1.length c1'), (5, .slice a17 x15.length c18), (6, .int .i64 (wI64 (1 + x27))), (7, .int .i64 x36.1), (11, .slice a59 x57.1.length c60), (12, .int .i64 x57.2), (115, .bool true)] (by kernel_rfl) ?_
      refine WL.nil ?_
      obtain rfl := Option.some.inj hm
      exact WQ.post' ⟨rfl, hb150, hL151, hS152⟩ ⟨rfl, rfl, rfl, rfl, rfl, rfl, rfl, trivial⟩
    have hm := iteF hm hc161
    refine WL.runk 4 [1, 5, 6, 7, 9, 11, 12, 17, 109] [(1, .slice a1' more_1.length c1'), (5, .slice a17 x15.length c18), (6, .int .i64 (wI64 (1 + x27))), (7, .int .i64 x36.1), (9, .slice a47 x45.1.length c48), (11, .slice a59 x57.1.length c60), (12, .int .i64 x57.2), (17, .slice a144 x142.1.length c145), (109, .bool (x142.2 != 0))] (by kernel_rfl) ?_
    refine WL.case (x142.2 != 0) [109] ⟨rfl, trivial⟩ (fun hc162 => ?_) (fun hc162 => ?_)
    · have hm := iteT hm hc162
      refine WL.runk 6 [1, 5, 6, 7, 11, 12, 115] [(1, .slice a1' more_1.length c1'), (5, .slice a17 x15.length c18), (6, .int .i64 (wI64 (1 + x27))), (7, .int .i64 x36.1), (11, .slice a59 x57.1.length c60), (12, .int .i64 x57.2), (115, .bool true)] (by kernel_rfl) ?_
      refine WL.nil ?_
      obtain rfl := Option.some.inj hm
      exact WQ.post' ⟨rfl, hb150, hL151, hS152⟩ ⟨rfl, rfl, rfl, rfl, rfl, rfl, rfl, trivial⟩
    have hm := iteF hm hc162
    refine WL.runk 6 [1, 5, 6, 7, 11, 12, 115] [(1, .slice a1' more_1.length c1'), (5, .slice a17 x15.length c18), (6, .int .i64 (wI64 (1 + x27))), (7, .int .i64 x36.1), (11, .slice a59 x57.1.length c60), (12, .int .i64 x57.2), (115, .bool ((x142.1.length : Int) != (x45.1.length : Int)))] (by kernel_rfl) ?_
    refine WL.nil ?_
    obtain rfl := Option.some.inj hm
    exact WQ.post' ⟨rfl, hb150, hL151, hS152⟩ ⟨rfl, rfl, rfl, rfl, rfl, rfl, rfl, trivial⟩
  clear hx159
  rintro _ w163 ⟨rfl, hb164, hL165, hS166⟩
  refine WQ.then_normal (hK154 _ _ _ ?_)
  refine WP.cond x158 rfl rfl (fun hc167 => ?_) (fun hc167 => ?_)
  · have hm := iteT hm hc167
    refine WP.seq (fun K168 hK168 => ?_)
    refine WP.region ?_
    refine WL.runk 1 [4] [(4, .bool false)] (by kernel_rfl) ?_
    refine WL.nil ?_
    refine WQ.then_normal (hK168 _ _ _ ?_)
    refine WP.ret ?_
    refine WQ.then_ret ?_
    obtain rfl := Option.some.inj hm
    exact WQ.ret1 _ rfl rfl ⟨rfl, hb164⟩
  have hm := iteF hm hc167
  refine WP.skip ?_
  refine WQ.then_normal (hK153 _ _ _ ?_)
  refine WP.seq (fun K169 hK169 => ?_)
  refine WP.seq (fun K170 hK170 => ?_)
  obtain ⟨x172, hx173, hm⟩ := bindE hm
  refine WP.cut (fun env' w' => env' = [(1, .slice a1' more_1.length c1'), (5, .slice a17 x15.length c18), (6, .int .i64 (wI64 (1 + x27))), (7, .int .i64 x36.1), (11, .slice a59 x57.1.length c60), (12, .int .i64 x57.2), (122, .bool x172)] ∧ Ext w w' ∧ w.heap.size ≤ w'.heap.size ∧ SH w' w.heap.size [aOwn fInt 2 a144 c145 x142.1, aOwn fStr 9 a71 c72 x69.1, aOwn fInt 2 a59 c60 x57.1, aOwn fInt 2 a47 c48 x45.1, aOwn fStr 9 a17 c18 x15]) ?_ ?_
  · have hm := hx173; clear hx173
    refine WP.region ?_
    refine WL.runk 3 [1, 5, 6, 7, 11, 12, 118] [(1, .slice a1' more_1.length c1'), (5, .slice a17 x15.length c18), (6, .int .i64 (wI64 (1 + x27))), (7, .int .i64 x36.1), (11, .slice a59 x57.1.length c60), (12, .int .i64 x57.2), (118, .bool (x57.2 == 0))] (by kernel_rfl) ?_
    refine WL.case (x57.2 == 0) [118] ⟨rfl, trivial⟩ (fun hc174 => ?_) (fun hc174 => ?_)
    · have hm := iteT hm hc174
      refine WL.runk 4 [1, 5, 6, 7, 11, 12, 122] [(1, .slice a1' more_1.length c1'), (5, .slice a17 x15.length c18), (6, .int .i64 (wI64 (1 + x27))), (7, .int .i64 x36.1), (11, .slice a59 x57.1.length c60), (12, .int .i64 x57.2), (122, .bool ((x57.1.length : Int) != 4))] (by kernel_rfl) ?_
      refine WL.nil ?_
      obtain rfl := Option.some.inj hm
      exact WQ.post' ⟨rfl, hb164, hL165, hS166⟩ ⟨rfl, rfl, rfl, rfl, rfl, rfl, rfl, trivial⟩
    have hm := iteF hm hc174
    refine WL.runk 4 [1, 5, 6, 7, 11, 12, 122] [(1, .slice a1' more_1.length c1'), (5, .slice a17 x15.length c18), (6, .int .i64 (wI64 (1 + x27))), (7, .int .i64 x36.1), (11, .slice a59 x57.1.length c60), (12, .int .i64 x57.2), (122, .bool false)] (by kernel_rfl) ?_
    refine WL.nil ?_
    obtain rfl := Option.some.inj hm
    exact WQ.post' ⟨rfl, hb164, hL165, hS166⟩ ⟨rfl, rfl, rfl, rfl, rfl, rfl, rfl, trivial⟩
  clear hx173
  rintro _ w175 ⟨rfl, hb176, hL177, hS178⟩
  refine WQ.then_normal (hK170 _ _ _ ?_)
  refine WP.cond x172 rfl rfl (fun hc179 => ?_) (fun hc179 => ?_)
  · have hm := iteT hm hc179
    refine WP.seq (fun K180 hK180 => ?_)
    refine WP.region ?_
    refine WL.runk 1 [4] [(4, .bool false)] (by kernel_rfl) ?_
    refine WL.nil ?_
    refine WQ.then_normal (hK180 _ _ _ ?_)
    refine WP.ret ?_
    refine WQ.then_ret ?_
    obtain rfl := Option.some.inj hm
    exact WQ.ret1 _ rfl rfl ⟨rfl, hb176⟩
  have hm := iteF hm hc179
  refine WP.skip ?_
  refine WQ.then_normal (hK169 _ _ _ ?_)
  refine WP.seq (fun K181 hK181 => ?_)
  refine WP.region ?_
  refine WL.runk 1 [1, 5, 6, 7, 11, 12, 19] [(1, .slice a1' more_1.length c1'), (5, .slice a17 x15.length c18), (6, .int .i64 (wI64 (1 + x27))), (7, .int .i64 x36.1), (11, .slice a59 x57.1.length c60), (12, .int .i64 x57.2), (19, .int .i64 100)] (by kernel_rfl) ?_
  refine WL.nil ?_
  refine WQ.then_normal (hK181 _ _ _ ?_)
  refine WP.seq (fun K182 hK182 => ?_)
  refine WP.seq (fun K183 hK183 => ?_)
  refine WP.region ?_
  refine WL.runk 1 [1, 5, 6, 7, 11, 12, 19, 20] [(1, .slice a1' more_1.length c1'), (5, .slice a17 x15.length c18), (6, .int .i64 (wI64 (1 + x27))), (7, .int .i64 x36.1), (11, .slice a59 x57.1.length c60), (12, .int .i64 x57.2), (19, .int .i64 100), (20, .int .i64 0)] (by kernel_rfl) ?_
  refine WL.nil ?_
  refine WQ.then_normal (hK183 _ _ _ ?_)
  refine WP.block ?_
  obtain ⟨t195, ht196, hm⟩ := bindE hm
  have hmo190 := hm; clear hm
  refine WP.sub [(1, .slice a1' more_1.length c1'), (5, .slice a17 x15.length c18), (6, .int .i64 (wI64 (1 + x27))), (7, .int .i64 x36.1), (11, .slice a59 x57.1.length c60), (12, .int .i64 x57.2), (19, .int .i64 100), (20, .int .i64 0)] ⟨rfl, rfl, rfl, rfl, rfl, rfl, rfl, rfl, trivial⟩ ?_
  refine WP.loop (fun n' env' w' => ∃ (st184 : Int × Int) , env' = [(1, .slice a1' more_1.length c1'), (5, .slice a17 x15.length c18), (6, .int .i64 (wI64 (1 + x27))), (7, .int .i64 x36.1), (11, .slice a59 x57.1.length c60), (12, .int .i64 x57.2), (19, .int .i64 st184.1), (20, .int .i64 st184.2)] ∧ Ext w w' ∧ w.heap.size ≤ w'.heap.size ∧ SH w' w.heap.size [aOwn fInt 2 a144 c145 x142.1, aOwn fStr 9 a71 c72 x69.1, aOwn fInt 2 a59 c60 x57.1, aOwn fInt 2 a47 c48 x45.1, aOwn fStr 9 a17 c18 x15] ∧ loopN (m_laws_FnWearAreas_l1 n x15 x27 x57) n' st184 = some t195) n ⟨(100, 0), rfl, hb176, hL177, hS178, ht196⟩ ?_
  rintro n192 _ w185 ⟨st184, rfl, hb186, hL187, hS188, hl189⟩ K191 hK191
  obtain ⟨n193, s194, rfl, hm, hl189⟩ := loopN_some hl189
  unfold m_laws_FnWearAreas_l1 at hm
  refine WP.seq (fun K197 hK197 => ?_)
  refine WP.seq (fun K198 hK198 => ?_)
  refine WP.region ?_
  refine WL.runk 4 [1, 5, 6, 7, 11, 12, 19, 20, 126] [(1, .slice a1' more_1.length c1'), (5, .slice a17 x15.length c18), (6, .int .i64 (wI64 (1 + x27))), (7, .int .i64 x36.1), (11, .slice a59 x57.1.length c60), (12, .int .i64 x57.2), (19, .int .i64 st184.1), (20, .int .i64 st184.2), (126, .bool (decide (st184.2 < (x15.length : Int))))] (by kernel_rfl) ?_
  refine WL.nil ?_
  refine WQ.then_normal (hK198 _ _ _ ?_)
  refine WP.cond (decide (st184.2 < (x15.length : Int))) rfl rfl (fun hc199 => ?_) (fun hc199 => ?_)
  · have hm := iteT hm hc199
    refine WP.skip ?_
    refine WQ.then_normal (hK197 _ _ _ ?_)
    refine WP.seq (fun K200 hK200 => ?_)
    refine WP.block ?_
    refine WP.seq (fun K201 hK201 => ?_)
    refine WP.region ?_
    refine WL.runk 1 [1, 5, 6, 7, 11, 12, 19, 20, 21] [(1, .slice a1' more_1.length c1'), (5, .slice a17 x15.length c18), (6, .int .i64 (wI64 (1 + x27))), (7, .int .i64 x36.1), (11, .slice a59 x57.1.length c60), (12, .int .i64 x57.2), (19, .int .i64 st184.1), (20, .int .i64 st184.2), (21, .int .i64 0)] (by kernel_rfl) ?_
    refine WL.nil ?_
    refine WQ.then_normal (hK201 _ _ _ ?_)
    refine WP.block ?_
    obtain ⟨t213, ht214, hm⟩ := bindE hm
    have hmo208 := hm; clear hm
    refine WP.sub [(1, .slice a1' more_1.length c1'), (5, .slice a17 x15.length c18), (6, .int .i64 (wI64 (1 + x27))), (7, .int .i64 x36.1), (11, .slice a59 x57.1.length c60), (12, .int .i64 x57.2), (19, .int .i64 st184.1), (20, .int .i64 st184.2), (21, .int .i64 0)] ⟨rfl, rfl, rfl, rfl, rfl, rfl, rfl, rfl, rfl, trivial⟩ ?_
    refine WP.loop (fun n' env' w' => ∃ (st202 : Int × Int) , env' = [(1, .slice a1' more_1.length c1'), (5, .slice a17 x15.length c18), (6, .int .i64 (wI64 (1 + x27))), (7, .int .i64 x36.1), (11, .slice a59 x57.1.length c60), (12, .int .i64 x57.2), (19, .int .i64 st202.1), (20, .int .i64 st184.2), (21, .int .i64 st202.2)] ∧ Ext w w' ∧ w.heap.size ≤ w'.heap.size ∧ SH w' w.heap.size [aOwn fInt 2 a144 c145 x142.1, aOwn fStr 9 a71 c72 x69.1, aOwn fInt 2 a59 c60 x57.1, aOwn fInt 2 a47 c48 x45.1, aOwn fStr 9 a17 c18 x15] ∧ loopN (m_laws_FnWearAreas_l2 n x15 x27 x57 st184) n' st202 = some t213) n ⟨(st184.1, 0), rfl, hb186, hL187, hS188, ht214⟩ ?_
    rintro n210 _ w203 ⟨st202, rfl, hb204, hL205, hS206, hl207⟩ K209 hK209
    obtain ⟨n211, s212, rfl, hm, hl207⟩ := loopN_some hl207
    unfold m_laws_FnWearAreas_l2 at hm
    refine WP.seq (fun K215 hK215 => ?_)
    refine WP.seq (fun K216 hK216 => ?_)
    refine WP.region ?_
    refine WL.runk 2 [1, 5, 6, 7, 11, 12, 19, 20, 21, 129, 130] [(1, .slice a1' more_1.length c1'), (5, .slice a17 x15.length c18), (6, .int .i64 (wI64 (1 + x27))), (7, .int .i64 x36.1), (11, .slice a59 x57.1.length c60), (12, .int .i64 x57.2), (19, .int .i64 st202.1), (20, .int .i64 st184.2), (21, .int .i64 st202.2), (129, .int .i64 st202.2), (130, .slice a17 x15.length c18)] (by kernel_rfl) ?_
    obtain ⟨x217, hx218, hm⟩ := bindE hm
    refine WL.st (.pointer (some (at_ a17 (Int.toNat 0 * 1)))) (ST.index (T := fStr.ty) (xs := x15) (SH.rd (SH.front 4 hS206)) hx218 rfl rfl rfl Try.underlying22 (info9).1 (info9).2.1) rfl rfl rfl ?_
    refine WL.st (.string (bs x217)) (ST.load (cell_ext (Rd.flat (F := fStr) (SH.rd (SH.front 4 hS206)) hx218 0 rfl)) rfl rfl Try.underlying9 rfl) rfl rfl rfl ?_
    refine WL.runk 2 [1, 5, 6, 7, 11, 12, 19, 20, 21, 134] [(1, .slice a1' more_1.length c1'), (5, .slice a17 x15.length c18), (6, .int .i64 (wI64 (1 + x27))), (7, .int .i64 x36.1), (11, .slice a59 x57.1.length c60), (12, .int .i64 x57.2), (19, .int .i64 st202.1), (20, .int .i64 st184.2), (21, .int .i64 st202.2), (134, .bool (decide (st202.2 < (x217.length : Int))))] (by kernel_rfl) ?_
    refine WL.nil ?_
    refine WQ.then_normal (hK216 _ _ _ ?_)
    refine WP.cond (decide (st202.2 < (x217.length : Int))) rfl rfl (fun hc219 => ?_) (fun hc219 => ?_)
    rotate_left
    · have hm := iteF hm hc219
      refine WP.exit ?_
      refine WQ.then_exit ?_
      refine WQ.then_exit ?_
      refine WQ.block_here ?_
      obtain rfl := Option.some.inj hm
      obtain rfl := afterN_done hl207
      have hm := hmo208
      refine WQ.block_normal ?_
      refine WQ.then_normal (hK200 _ _ _ ?_)
      refine WP.region ?_
      refine WL.runk 3 [1, 5, 6, 7, 11, 12, 19, 20] [(1, .slice a1' more_1.length c1'), (5, .slice a17 x15.length c18), (6, .int .i64 (wI64 (1 + x27))), (7, .int .i64 x36.1), (11, .slice a59 x57.1.length c60), (12, .int .i64 x57.2), (19, .int .i64 st202.1), (20, .int .i64 (wI64 (st184.2 + 1)))] (by kernel_rfl) ?_
      refine WL.nil ?_
      obtain rfl := Option.some.inj hm
      exact WQ.round hK191 ⟨(st202.1, (wI64 (st184.2 + 1))), rfl, hb204, hL205, hS206, hl189⟩ (Nat.lt_succ_self _) ⟨rfl, rfl, rfl, rfl, rfl, rfl, rfl, rfl, trivial⟩
    have hm := iteT hm hc219
    refine WP.skip ?_
    refine WQ.then_normal (hK215 _ _ _ ?_)
    refine WP.seq (fun K220 hK220 => ?_)
    refine WP.block ?_
    refine WP.seq (fun K221 hK221 => ?_)
    refine WP.seq (fun K222 hK222 => ?_)
    refine WP.region ?_
    refine WL.runk 2 [1, 5, 6, 7, 11, 12, 19, 20, 21, 137, 138] [(1, .slice a1' more_1.length c1'), (5, .slice a17 x15.length c18), (6, .int .i64 (wI64 (1 + x27))), (7, .int .i64 x36.1), (11, .slice a59 x57.1.length c60), (12, .int .i64 x57.2), (19, .int .i64 st202.1), (20, .int .i64 st184.2), (21, .int .i64 st202.2), (137, .slice a17 x15.length c18), (138, .int .i64 st184.2)] (by kernel_rfl) ?_
    obtain ⟨x223, hx224, hm⟩ := bindE hm
    refine WL.st (.pointer (some (at_ a17 (Int.toNat st184.2 * 1)))) (ST.index (T := fStr.ty) (xs := x15) (SH.rd (SH.front 4 hS206)) hx224 rfl rfl rfl Try.underlying22 (info9).1 (info9).2.1) rfl rfl rfl ?_
    refine WL.st (.string (bs x223)) (ST.load (cell_ext (Rd.flat (F := fStr) (SH.rd (SH.front 4 hS206)) hx224 0 rfl)) rfl rfl Try.underlying9 rfl) rfl rfl rfl ?_
    refine WL.runk 1 [1, 5, 6, 7, 11, 12, 19, 20, 21, 140, 141] [(1, .slice a1' more_1.length c1'), (5, .slice a17 x15.length c18), (6, .int .i64 (wI64 (1 + x27))), (7, .int .i64 x36.1), (11, .slice a59 x57.1.length c60), (12, .int .i64 x57.2), (19, .int .i64 st202.1), (20, .int .i64 st184.2), (21, .int .i64 st202.2), (140, .string (bs x223)), (141, .int .i64 st202.2)] (by kernel_rfl) ?_
    obtain ⟨x225, hx226, hm⟩ := bindE hm
    refine WL.st (.int .u8 (x225.toNat : Int)) (ST.sindex hx226 rfl rfl rfl Try.underlying9) rfl rfl rfl ?_
    refine WL.runk 4 [1, 5, 6, 7, 11, 12, 19, 20, 21, 146] [(1, .slice a1' more_1.length c1'), (5, .slice a17 x15.length c18), (6, .int .i64 (wI64 (1 + x27))), (7, .int .i64 x36.1), (11, .slice a59 x57.1.length c60), (12, .int .i64 x57.2), (19, .int .i64 st202.1), (20, .int .i64 st184.2), (21, .int .i64 st202.2), (146, .bool (decide ((wI64 (IntKind.u8.wrap ((x225.toNat : Int) - 48))) < (wI64 (1 + x27)))))] (by kernel_rfl) ?_
    refine WL.nil ?_
    refine WQ.then_normal (hK222 _ _ _ ?_)
    refine WP.cond (decide ((wI64 (IntKind.u8.wrap ((x225.toNat : Int) - 48))) < (wI64 (1 + x27)))) rfl rfl (fun hc227 => ?_) (fun hc227 => ?_)
    · have hm := iteT hm hc227
      refine WP.exit ?_
      refine WQ.then_exit ?_
      refine WQ.block_here ?_
      refine WQ.then_normal (hK220 _ _ _ ?_)
      refine WP.region ?_
      refine WL.runk 3 [1, 5, 6, 7, 11, 12, 19, 20, 21] [(1, .slice a1' more_1.length c1'), (5, .slice a17 x15.length c18), (6, .int .i64 (wI64 (1 + x27))), (7, .int .i64 x36.1), (11, .slice a59 x57.1.length c60), (12, .int .i64 x57.2), (19, .int .i64 st202.1), (20, .int .i64 st184.2), (21, .int .i64 (wI64 (st202.2 + 1)))] (by kernel_rfl) ?_
      refine WL.nil ?_
      obtain rfl := Option.some.inj hm
      exact WQ.round hK209 ⟨(st202.1, (wI64 (st202.2 + 1))), rfl, hb204, hL205, hS206, hl207⟩ (Nat.lt_succ_self _) ⟨rfl, rfl, rfl, rfl, rfl, rfl, rfl, rfl, rfl, trivial⟩
    have hm := iteF hm hc227
    refine WP.skip ?_
    refine WQ.then_normal (hK221 _ _ _ ?_)
    refine WP.seq (fun K228 hK228 => ?_)
    refine WP.region ?_
    refine WL.runk 4 [1, 5, 6, 7, 11, 12, 19, 20, 21] [(1, .slice a1' more_1.length c1'), (5, .slice a17 x15.length c18), (6, .int .i64 (wI64 (1 + x27))), (7, .int .i64 x36.1), (11, .slice a59 x57.1.length c60), (12, .int .i64 x57.2), (19, .int .i64 (imin st202.1 st184.2)), (20, .int .i64 st184.2), (21, .int .i64 st202.2)] (by kernel_rfl) ?_
    refine WL.nil ?_
    refine WQ.then_normal (hK228 _ _ _ ?_)
    refine WP.seq (fun K229 hK229 => ?_)
    obtain ⟨x271, hx272, hm⟩ := bindE hm
    refine WP.cut (fun env' w' => env' = [(1, .slice a1' more_1.length c1'), (5, .slice a17 x15.length c18), (6, .int .i64 (wI64 (1 + x27))), (7, .int .i64 x36.1), (11, .slice a59 x57.1.length c60), (12, .int .i64 x57.2), (19, .int .i64 (imin st202.1 st184.2)), (20, .int .i64 st184.2), (21, .int .i64 st202.2), (187, .bool x271)] ∧ Ext w w' ∧ w.heap.size ≤ w'.heap.size ∧ SH w' w.heap.size [aOwn fInt 2 a144 c145 x142.1, aOwn fStr 9 a71 c72 x69.1, aOwn fInt 2 a59 c60 x57.1, aOwn fInt 2 a47 c48 x45.1, aOwn fStr 9 a17 c18 x15]) ?_ ?_
    rotate_left
    · clear hx272
      rintro _ w314 ⟨rfl, hb315, hL316, hS317⟩
      refine WQ.then_normal (hK229 _ _ _ ?_)
      refine WP.cond x271 rfl rfl (fun hc318 => ?_) (fun hc318 => ?_)
      rotate_left
      · have hm := iteF hm hc318
        refine WP.skip ?_
        refine WQ.block_normal ?_
        refine WQ.then_normal (hK220 _ _ _ ?_)
        refine WP.region ?_
        refine WL.runk 3 [1, 5, 6, 7, 11, 12, 19, 20, 21] [(1, .slice a1' more_1.length c1'), (5, .slice a17 x15.length c18), (6, .int .i64 (wI64 (1 + x27))), (7, .int .i64 x36.1), (11, .slice a59 x57.1.length c60), (12, .int .i64 x57.2), (19, .int .i64 (imin st202.1 st184.2)), (20, .int .i64 st184.2), (21, .int .i64 (wI64 (st202.2 + 1)))] (by kernel_rfl) ?_
        refine WL.nil ?_
        obtain rfl := Option.some.inj hm
        exact WQ.round hK209 ⟨((imin st202.1 st184.2), (wI64 (st202.2 + 1))), rfl, hb315, hL316, hS317, hl207⟩ (Nat.lt_succ_self _) ⟨rfl, rfl, rfl, rfl, rfl, rfl, rfl, rfl, rfl, trivial⟩
      have hm := iteT hm hc318
      refine WP.seq (fun K319 hK319 => ?_)
      refine WP.region ?_
      refine WL.runk 1 [4] [(4, .bool false)] (by kernel_rfl) ?_
      refine WL.nil ?_
      refine WQ.then_normal (hK319 _ _ _ ?_)
      refine WP.ret ?_
      refine WQ.block_ret ?_
      refine WQ.then_ret ?_
      refine WQ.then_ret ?_
      refine WQ.block_ret ?_
      refine WQ.block_ret ?_
      refine WQ.then_ret ?_
      refine WQ.then_ret ?_
      refine WQ.block_ret ?_
      refine WQ.then_ret ?_
      obtain rfl := Option.some.inj hm
      obtain rfl := afterN_done hl207
      have hm := hmo208
      obtain rfl := Option.some.inj hm
      obtain rfl := afterN_done hl189
      have hm := hmo190
      obtain rfl := Option.some.inj hm
      exact WQ.ret1 _ rfl rfl ⟨rfl, hb315⟩
    have hm := hx272; clear hx272
    refine WP.quiet (by kernel_rfl) (by kernel_rfl) ?_
    refine QL.step1v 150 (.int .i64 x57.2) rfl (fun _ => by kernel_rfl) ?_
    refine QL.step1v 151 (.bool (x57.2 != 0)) rfl (fun _ => by kernel_rfl) ?_
    refine QL.step1v 152 (.bool (x57.2 != 0)) rfl (fun _ => by kernel_rfl) ?_
    refine QL.subk [1, 5, 6, 7, 11, 12, 19, 20, 21, 152] [(1, .slice a1' more_1.length c1'), (5, .slice a17 x15.length c18), (6, .int .i64 (wI64 (1 + x27))), (7, .int .i64 x36.1), (11, .slice a59 x57.1.length c60), (12, .int .i64 x57.2), (19, .int .i64 (imin st202.1 st184.2)), (20, .int .i64 st184.2), (21, .int .i64 st202.2), (152, .bool (x57.2 != 0))] (by kernel_rfl) ?_
    refine QL.case (x57.2 != 0) [152] ⟨rfl, trivial⟩ (fun hc273 => ?_) (fun hc273 => ?_)
    · have hm := iteT hm hc273
      refine QL.step1v 153 undef rfl (fun _ => by kernel_rfl) ?_
      refine QL.step1v 154 undef rfl (fun _ => by kernel_rfl) ?_
      refine QL.step1v 155 undef rfl (fun _ => by kernel_rfl) ?_
      refine QL.step1v 156 undef rfl (fun _ => by kernel_rfl) ?_
      refine QL.step1v 157 undef rfl (fun _ => by kernel_rfl) ?_
      refine QL.step1v 158 (.bool true) rfl (fun _ => by kernel_rfl) ?_
      refine QL.step1v 159 (.bool true) rfl (fun _ => by kernel_rfl) ?_
      refine QL.step1v 160 undef rfl (fun _ => by kernel_rfl) ?_
      refine QL.step1v 161 undef rfl (fun _ => by kernel_rfl) ?_
      refine QL.step1v 162 undef rfl (fun _ => by kernel_rfl) ?_
      refine QL.step1v 163 undef rfl (fun _ => by kernel_rfl) ?_
      refine QL.step1v 164 undef rfl (fun _ => by kernel_rfl) ?_
      refine QL.step1v 165 undef rfl (fun _ => by kernel_rfl) ?_
      refine QL.step1v 166 undef rfl (fun _ => by kernel_rfl) ?_
      refine QL.step1v 167 undef rfl (fun _ => by kernel_rfl) ?_
      refine QL.step1v 168 undef rfl (fun _ => by kernel_rfl) ?_
      refine QL.step1v 169 (.bool true) rfl (fun _ => by kernel_rfl) ?_
      refine QL.step1v 170 (.bool true) rfl (fun _ => by kernel_rfl) ?_
      refine QL.step1v 171 undef rfl (fun _ => by kernel_rfl) ?_
      refine QL.step1v 172 undef rfl (fun _ => by kernel_rfl) ?_
      refine QL.step1v 173 undef rfl (fun _ => by kernel_rfl) ?_
      refine QL.step1v 174 undef rfl (fun _ => by kernel_rfl) ?_
      refine QL.step1v 175 undef rfl (fun _ => by kernel_rfl) ?_
      refine QL.step1v 176 (.bool true) rfl (fun _ => by kernel_rfl) ?_
      refine QL.step1v 177 (.bool true) rfl (fun _ => by kernel_rfl) ?_
      refine QL.step1v 178 undef rfl (fun _ => by kernel_rfl) ?_
      refine QL.step1v 179 undef rfl (fun _ => by kernel_rfl) ?_
      refine QL.step1v 180 undef rfl (fun _ => by kernel_rfl) ?_
      refine QL.step1v 181 undef rfl (fun _ => by kernel_rfl) ?_
      refine QL.step1v 182 undef rfl (fun _ => by kernel_rfl) ?_
      refine QL.step1v 183 undef rfl (fun _ => by kernel_rfl) ?_
      refine QL.step1v 184 undef rfl (fun _ => by kernel_rfl) ?_
      refine QL.step1v 185 undef rfl (fun _ => by kernel_rfl) ?_
      refine QL.step1v 186 undef rfl (fun _ => by kernel_rfl) ?_
      refine QL.step1v 187 (.bool true) rfl (fun _ => by kernel_rfl) ?_
      refine QL.subk [1, 5, 6, 7, 11, 12, 19, 20, 21, 187] [(1, .slice a1' more_1.length c1'), (5, .slice a17 x15.length c18), (6, .int .i64 (wI64 (1 + x27))), (7, .int .i64 x36.1), (11, .slice a59 x57.1.length c60), (12, .int .i64 x57.2), (19, .int .i64 (imin st202.1 st184.2)), (20, .int .i64 st184.2), (21, .int .i64 st202.2), (187, .bool true)] (by kernel_rfl) ?_
      refine QL.nil ?_
      intro w274 hE275
      have hb276 : Ext w w274 := Ext.trans hb204 hE275
      have hL277 : w.heap.size ≤ w274.heap.size := Nat.le_trans hL205 hE275.size
      have hS278 : SH w274 w.heap.size [aOwn fInt 2 a144 c145 x142.1, aOwn fStr 9 a71 c72 x69.1, aOwn fInt 2 a59 c60 x57.1, aOwn fInt 2 a47 c48 x45.1, aOwn fStr 9 a17 c18 x15] := SH.ext hS206 hE275
      obtain rfl := Option.some.inj hm
      exact WQ.post' ⟨rfl, hb276, hL277, hS278⟩ ⟨rfl, rfl, rfl, rfl, rfl, rfl, rfl, rfl, rfl, rfl, trivial⟩
    have hm := iteF hm hc273
    refine QL.step1v 153 (.int .i64 st184.2) rfl (fun _ => by kernel_rfl) ?_
    refine QL.step1v 154 (.slice a59 x57.1.length c60) rfl (fun _ => by kernel_rfl) ?_
    refine QL.subk [1, 5, 6, 7, 11, 12, 19, 20, 21, 152, 153, 154] [(1, .slice a1' more_1.length c1'), (5, .slice a17 x15.length c18), (6, .int .i64 (wI64 (1 + x27))), (7, .int .i64 x36.1), (11, .slice a59 x57.1.length c60), (12, .int .i64 x57.2), (19, .int .i64 (imin st202.1 st184.2)), (20, .int .i64 st184.2), (21, .int .i64 st202.2), (152, .bool false), (153, .int .i64 st184.2), (154, .slice a59 x57.1.length c60)] (by kernel_rfl) ?_
    obtain ⟨x279, hx280, hm⟩ := bindE hm
    refine QL.st (.pointer (some (at_ a59 (Int.toNat 0 * 1)))) (ST.index (T := fInt.ty) (xs := x57.1) (SH.rd (SH.front 2 hS206)) hx280 rfl rfl rfl Try.underlying40 (info2).1 (info2).2.1) rfl rfl rfl ?_
    refine QL.st (.int .i64 x279) (ST.load (cell_ext (Rd.flat (F := fInt) (SH.rd (SH.front 2 hS206)) hx280 0 rfl)) rfl rfl Try.underlying2 rfl) rfl rfl rfl ?_
    refine QL.step1v 157 (.bool (decide (st184.2 < x279))) rfl (fun _ => by kernel_rfl) ?_
    refine QL.step1v 158 (.bool (decide (st184.2 < x279))) rfl (fun _ => by kernel_rfl) ?_
    refine QL.step1v 159 (.bool (decide (st184.2 < x279))) rfl (fun _ => by kernel_rfl) ?_
    refine QL.subk [1, 5, 6, 7, 11, 12, 19, 20, 21, 159] [(1, .slice a1' more_1.length c1'), (5, .slice a17 x15.length c18), (6, .int .i64 (wI64 (1 + x27))), (7, .int .i64 x36.1), (11, .slice a59 x57.1.length c60), (12, .int .i64 x57.2), (19, .int .i64 (imin st202.1 st184.2)), (20, .int .i64 st184.2), (21, .int .i64 st202.2), (159, .bool (decide (st184.2 < x279)))] (by kernel_rfl) ?_
    refine QL.case (decide (st184.2 < x279)) [159] ⟨rfl, trivial⟩ (fun hc281 => ?_) (fun hc281 => ?_)
    · have hm := iteT hm hc281
      refine QL.step1v 160 undef rfl (fun _ => by kernel_rfl) ?_
      refine QL.step1v 161 undef rfl (fun _ => by kernel_rfl) ?_
      refine QL.step1v 162 undef rfl (fun _ => by kernel_rfl) ?_
      refine QL.step1v 163 undef rfl (fun _ => by kernel_rfl) ?_
      refine QL.step1v 164 undef rfl (fun _ => by kernel_rfl) ?_
      refine QL.step1v 165 undef rfl (fun _ => by kernel_rfl) ?_
      refine QL.step1v 166 undef rfl (fun _ => by kernel_rfl) ?_
      refine QL.step1v 167 undef rfl (fun _ => by kernel_rfl) ?_
      refine QL.step1v 168 undef rfl (fun _ => by kernel_rfl) ?_
      refine QL.step1v 169 (.bool true) rfl (fun _ => by kernel_rfl) ?_
      refine QL.step1v 170 (.bool true) rfl (fun _ => by kernel_rfl) ?_
      refine QL.step1v 171 undef rfl (fun _ => by kernel_rfl) ?_
      refine QL.step1v 172 undef rfl (fun _ => by kernel_rfl) ?_
      refine QL.step1v 173 undef rfl (fun _ => by kernel_rfl) ?_
      refine QL.step1v 174 undef rfl (fun _ => by kernel_rfl) ?_
      refine QL.step1v 175 undef rfl (fun _ => by kernel_rfl) ?_
      refine QL.step1v 176 (.bool true) rfl (fun _ => by kernel_rfl) ?_
      refine QL.step1v 177 (.bool true) rfl (fun _ => by kernel_rfl) ?_
      refine QL.step1v 178 undef rfl (fun _ => by kernel_rfl) ?_
      refine QL.step1v 179 undef rfl (fun _ => by kernel_rfl) ?_
      refine QL.step1v 180 undef rfl (fun _ => by kernel_rfl) ?_
      refine QL.step1v 181 undef rfl (fun _ => by kernel_rfl) ?_
      refine QL.step1v 182 undef rfl (fun _ => by kernel_rfl) ?_
      refine QL.step1v 183 undef rfl (fun _ => by kernel_rfl) ?_
      refine QL.step1v 184 undef rfl (fun _ => by kernel_rfl) ?_
      refine QL.step1v 185 undef rfl (fun _ => by kernel_rfl) ?_
      refine QL.step1v 186 undef rfl (fun _ => by kernel_rfl) ?_
      refine QL.step1v 187 (.bool true) rfl (fun _ => by kernel_rfl) ?_
      refine QL.subk [1, 5, 6, 7, 11, 12, 19, 20, 21, 187] [(1, .slice a1' more_1.length c1'), (5, .slice a17 x15.length c18), (6, .int .i64 (wI64 (1 + x27))), (7, .int .i64 x36.1), (11, .slice a59 x57.1.length c60), (12, .int .i64 x57.2), (19, .int .i64 (imin st202.1 st184.2)), (20, .int .i64 st184.2), (21, .int .i64 st202.2), (187, .bool true)] (by kernel_rfl) ?_
      refine QL.nil ?_
      intro w282 hE283
      have hb284 : Ext w w282 := Ext.trans hb204 hE283
      have hL285 : w.heap.size ≤ w282.heap.size := Nat.le_trans hL205 hE283.size
      have hS286 : SH w282 w.heap.size [aOwn fInt 2 a144 c145 x142.1, aOwn fStr 9 a71 c72 x69.1, aOwn fInt 2 a59 c60 x57.1, aOwn fInt 2 a47 c48 x45.1, aOwn fStr 9 a17 c18 x15] := SH.ext hS206 hE283
      obtain rfl := Option.some.inj hm
      exact WQ.post' ⟨rfl, hb284, hL285, hS286⟩ ⟨rfl, rfl, rfl, rfl, rfl, rfl, rfl, rfl, rfl, rfl, trivial⟩
    have hm := iteF hm hc281
    refine QL.step1v 160 (.int .i64 st184.2) rfl (fun _ => by kernel_rfl) ?_
    refine QL.step1v 161 (.slice a59 x57.1.length c60) rfl (fun _ => by kernel_rfl) ?_
    refine QL.subk [1, 5, 6, 7, 11, 12, 19, 20, 21, 159, 160, 161] [(1, .slice a1' more_1.length c1'), (5, .slice a17 x15.length c18), (6, .int .i64 (wI64 (1 + x27))), (7, .int .i64 x36.1), (11, .slice a59 x57.1.length c60), (12, .int .i64 x57.2), (19, .int .i64 (imin st202.1 st184.2)), (20, .int .i64 st184.2), (21, .int .i64 st202.2), (159, .bool false), (160, .int .i64 st184.2), (161, .slice a59 x57.1.length c60)] (by kernel_rfl) ?_
    obtain ⟨x287, hx288, hm⟩ := bindE hm
    refine QL.st (.pointer (some (at_ a59 (Int.toNat 0 * 1)))) (ST.index (T := fInt.ty) (xs := x57.1) (SH.rd (SH.front 2 hS206)) hx288 rfl rfl rfl Try.underlying40 (info2).1 (info2).2.1) rfl rfl rfl ?_
    refine QL.st (.int .i64 x287) (ST.load (cell_ext (Rd.flat (F := fInt) (SH.rd (SH.front 2 hS206)) hx288 0 rfl)) rfl rfl Try.underlying2 rfl) rfl rfl rfl ?_
    refine QL.step1v 164 (.slice a59 x57.1.length c60) rfl (fun _ => by kernel_rfl) ?_
    refine QL.subk [1, 5, 6, 7, 11, 12, 19, 20, 21, 159, 160, 163, 164] [(1, .slice a1' more_1.length c1'), (5, .slice a17 x15.length c18), (6, .int .i64 (wI64 (1 + x27))), (7, .int .i64 x36.1), (11, .slice a59 x57.1.length c60), (12, .int .i64 x57.2), (19, .int .i64 (imin st202.1 st184.2)), (20, .int .i64 st184.2), (21, .int .i64 st202.2), (159, .bool false), (160, .int .i64 st184.2), (163, .int .i64 x287), (164, .slice a59 x57.1.length c60)] (by kernel_rfl) ?_
    obtain ⟨x289, hx290, hm⟩ := bindE hm
    refine QL.st (.pointer (some (at_ a59 (Int.toNat 2 * 1)))) (ST.index (T := fInt.ty) (xs := x57.1) (SH.rd (SH.front 2 hS206)) hx290 rfl rfl rfl Try.underlying40 (info2).1 (info2).2.1) rfl rfl rfl ?_
    refine QL.st (.int .i64 x289) (ST.load (cell_ext (Rd.flat (F := fInt) (SH.rd (SH.front 2 hS206)) hx290 0 rfl)) rfl rfl Try.underlying2 rfl) rfl rfl rfl ?_
    refine QL.step1v 167 (.int .i64 (wI64 (x287 + x289))) rfl (fun _ => by kernel_rfl) ?_
    refine QL.step1v 168 (.bool (decide (st184.2 ≥ (wI64 (x287 + x289))))) rfl (fun _ => by kernel_rfl) ?_
    refine QL.step1v 169 (.bool (decide (st184.2 ≥ (wI64 (x287 + x289))))) rfl (fun _ => by kernel_rfl) ?_
    refine QL.step1v 170 (.bool (decide (st184.2 ≥ (wI64 (x287 + x289))))) rfl (fun _ => by kernel_rfl) ?_
    refine QL.subk [1, 5, 6, 7, 11, 12, 19, 20, 21, 170] [(1, .slice a1' more_1.length c1'), (5, .slice a17 x15.length c18), (6, .int .i64 (wI64 (1 + x27))), (7, .int .i64 x36.1), (11, .slice a59 x57.1.length c60), (12, .int .i64 x57.2), (19, .int .i64 (imin st202.1 st184.2)), (20, .int .i64 st184.2), (21, .int .i64 st202.2), (170, .bool (decide (st184.2 ≥ (wI64 (x287 + x289)))))] (by kernel_rfl) ?_
    refine QL.case (decide (st184.2 ≥ (wI64 (x287 + x289)))) [170] ⟨rfl, trivial⟩ (fun hc291 => ?_) (fun hc291 => ?_)
    · have hm := iteT hm hc291
      refine QL.step1v 171 undef rfl (fun _ => by kernel_rfl) ?_
      refine QL.step1v 172 undef rfl (fun _ => by kernel_rfl) ?_
      refine QL.step1v 173 undef rfl (fun _ => by kernel_rfl) ?_
      refine QL.step1v 174 undef rfl (fun _ => by kernel_rfl) ?_
      refine QL.step1v 175 undef rfl (fun _ => by kernel_rfl) ?_
      refine QL.step1v 176 (.bool true) rfl (fun _ => by kernel_rfl) ?_
      refine QL.step1v 177 (.bool true) rfl (fun _ => by kernel_rfl) ?_
      refine QL.step1v 178 undef rfl (fun _ => by kernel_rfl) ?_
      refine QL.step1v 179 undef rfl (fun _ => by kernel_rfl) ?_
      refine QL.step1v 180 undef rfl (fun _ => by kernel_rfl) ?_
      refine QL.step1v 181 undef rfl (fun _ => by kernel_rfl) ?_
      refine QL.step1v 182 undef rfl (fun _ => by kernel_rfl) ?_
      refine QL.step1v 183 undef rfl (fun _ => by kernel_rfl) ?_
      refine QL.step1v 184 undef rfl (fun _ => by kernel_rfl) ?_
      refine QL.step1v 185 undef rfl (fun _ => by kernel_rfl) ?_
      refine QL.step1v 186 undef rfl (fun _ => by kernel_rfl) ?_
      refine QL.step1v 187 (.bool true) rfl (fun _ => by kernel_rfl) ?_
      refine QL.subk [1, 5, 6, 7, 11, 12, 19, 20, 21, 187] [(1, .slice a1' more_1.length c1'), (5, .slice a17 x15.length c18), (6, .int .i64 (wI64 (1 + x27))), (7, .int .i64 x36.1), (11, .slice a59 x57.1.length c60), (12, .int .i64 x57.2), (19, .int .i64 (imin st202.1 st184.2)), (20, .int .i64 st184.2), (21, .int .i64 st202.2), (187, .bool true)] (by kernel_rfl) ?_
      refine QL.nil ?_
      intro w292 hE293
      have hb294 : Ext w w292 := Ext.trans hb204 hE293
      have hL295 : w.heap.size ≤ w292.heap.size := Nat.le_trans hL205 hE293.size
      have hS296 : SH w292 w.heap.size [aOwn fInt 2 a144 c145 x142.1, aOwn fStr 9 a71 c72 x69.1, aOwn fInt 2 a59 c60 x57.1, aOwn fInt 2 a47 c48 x45.1, aOwn fStr 9 a17 c18 x15] := SH.ext hS206 hE293
      obtain rfl := Option.some.inj hm
      exact WQ.post' ⟨rfl, hb294, hL295, hS296⟩ ⟨rfl, rfl, rfl, rfl, rfl, rfl, rfl, rfl, rfl, rfl, trivial⟩
    have hm := iteF hm hc291
    refine QL.step1v 171 (.int .i64 st202.2) rfl (fun _ => by kernel_rfl) ?_
    refine QL.step1v 172 (.slice a59 x57.1.length c60) rfl (fun _ => by kernel_rfl) ?_
    refine QL.subk [1, 5, 6, 7, 11, 12, 19, 20, 21, 170, 171, 172] [(1, .slice a1' more_1.length c1'), (5, .slice a17 x15.length c18), (6, .int .i64 (wI64 (1 + x27))), (7, .int .i64 x36.1), (11, .slice a59 x57.1.length c60), (12, .int .i64 x57.2), (19, .int .i64 (imin st202.1 st184.2)), (20, .int .i64 st184.2), (21, .int .i64 st202.2), (170, .bool false), (171, .int .i64 st202.2), (172, .slice a59 x57.1.length c60)] (by kernel_rfl) ?_
    obtain ⟨x297, hx298, hm⟩ := bindE hm
    refine QL.st (.pointer (some (at_ a59 (Int.toNat 1 * 1)))) (ST.index (T := fInt.ty) (xs := x57.1) (SH.rd (SH.front 2 hS206)) hx298 rfl rfl rfl Try.underlying40 (info2).1 (info2).2.1) rfl rfl rfl ?_
    refine QL.st (.int .i64 x297) (ST.load (cell_ext (Rd.flat (F := fInt) (SH.rd (SH.front 2 hS206)) hx298 0 rfl)) rfl rfl Try.underlying2 rfl) rfl rfl rfl ?_
    refine QL.step1v 175 (.bool (decide (st202.2 < x297))) rfl (fun _ => by kernel_rfl) ?_
    refine QL.step1v 176 (.bool (decide (st202.2 < x297))) rfl (fun _ => by kernel_rfl) ?_
    refine QL.step1v 177 (.bool (decide (st202.2 < x297))) rfl (fun _ => by kernel_rfl) ?_
    refine QL.subk [1, 5, 6, 7, 11, 12, 19, 20, 21, 177] [(1, .slice a1' more_1.length c1'), (5, .slice a17 x15.length c18), (6, .int .i64 (wI64 (1 + x27))), (7, .int .i64 x36.1), (11, .slice a59 x57.1.length c60), (12, .int .i64 x57.2), (19, .int .i64 (imin st202.1 st184.2)), (20, .int .i64 st184.2), (21, .int .i64 st202.2), (177, .bool (decide (st202.2 < x297)))] (by kernel_rfl) ?_
    refine QL.case (decide (st202.2 < x297)) [177] ⟨rfl, trivial⟩ (fun hc299 => ?_) (fun hc299 => ?_)
    · have hm := iteT hm hc299
      refine QL.step1v 178 undef rfl (fun _ => by kernel_rfl) ?_
      refine QL.step1v 179 undef rfl (fun _ => by kernel_rfl) ?_
      refine QL.step1v 180 undef rfl (fun _ => by kernel_rfl) ?_
      refine QL.step1v 181 undef rfl (fun _ => by kernel_rfl) ?_
      refine QL.step1v 182 undef rfl (fun _ => by kernel_rfl) ?_
      refine QL.step1v 183 undef rfl (fun _ => by kernel_rfl) ?_
      refine QL.step1v 184 undef rfl (fun _ => by kernel_rfl) ?_
      refine QL.step1v 185 undef rfl (fun _ => by kernel_rfl) ?_
      refine QL.step1v 186 undef rfl (fun _ => by kernel_rfl) ?_
      refine QL.step1v 187 (.bool true) rfl (fun _ => by kernel_rfl) ?_
      refine QL.subk [1, 5, 6, 7, 11, 12, 19, 20, 21, 187] [(1, .slice a1' more_1.length c1'), (5, .slice a17 x15.length c18), (6, .int .i64 (wI64 (1 + x27))), (7, .int .i64 x36.1), (11, .slice a59 x57.1.length c60), (12, .int .i64 x57.2), (19, .int .i64 (imin st202.1 st184.2)), (20, .int .i64 st184.2), (21, .int .i64 st202.2), (187, .bool true)] (by kernel_rfl) ?_
      refine QL.nil ?_
      intro w300 hE301
      have hb302 : Ext w w300 := Ext.trans hb204 hE301
      have hL303 : w.heap.size ≤ w300.heap.size := Nat.le_trans hL205 hE301.size
      have hS304 : SH w300 w.heap.size [aOwn fInt 2 a144 c145 x142.1, aOwn fStr 9 a71 c72 x69.1, aOwn fInt 2 a59 c60 x57.1, aOwn fInt 2 a47 c48 x45.1, aOwn fStr 9 a17 c18 x15] := SH.ext hS206 hE301
      obtain rfl := Option.some.inj hm
      exact WQ.post' ⟨rfl, hb302, hL303, hS304⟩ ⟨rfl, rfl, rfl, rfl, rfl, rfl, rfl, rfl, rfl, rfl, trivial⟩
    have hm := iteF hm hc299
    refine QL.step1v 178 (.int .i64 st202.2) rfl (fun _ => by kernel_rfl) ?_
    refine QL.step1v 179 (.slice a59 x57.1.length c60) rfl (fun _ => by kernel_rfl) ?_
    refine QL.subk [1, 5, 6, 7, 11, 12, 19, 20, 21, 177, 178, 179] [(1, .slice a1' more_1.length c1'), (5, .slice a17 x15.length c18), (6, .int .i64 (wI64 (1 + x27))), (7, .int .i64 x36.1), (11, .slice a59 x57.1.length c60), (12, .int .i64 x57.2), (19, .int .i64 (imin st202.1 st184.2)), (20, .int .i64 st184.2), (21, .int .i64 st202.2), (177, .bool false), (178, .int .i64 st202.2), (179, .slice a59 x57.1.length c60)] (by kernel_rfl) ?_
    obtain ⟨x305, hx306, hm⟩ := bindE hm
    refine QL.st (.pointer (some (at_ a59 (Int.toNat 1 * 1)))) (ST.index (T := fInt.ty) (xs := x57.1) (SH.rd (SH.front 2 hS206)) hx306 rfl rfl rfl Try.underlying40 (info2).1 (info2).2.1) rfl rfl rfl ?_
    refine QL.st (.int .i64 x305) (ST.load (cell_ext (Rd.flat (F := fInt) (SH.rd (SH.front 2 hS206)) hx306 0 rfl)) rfl rfl Try.underlying2 rfl) rfl rfl rfl ?_
    refine QL.step1v 182 (.slice a59 x57.1.length c60) rfl (fun _ => by kernel_rfl) ?_
    refine QL.subk [1, 5, 6, 7, 11, 12, 19, 20, 21, 177, 178, 181, 182] [(1, .slice a1' more_1.length c1'), (5, .slice a17 x15.length c18), (6, .int .i64 (wI64 (1 + x27))), (7, .int .i64 x36.1), (11, .slice a59 x57.1.length c60), (12, .int .i64 x57.2), (19, .int .i64 (imin st202.1 st184.2)), (20, .int .i64 st184.2), (21, .int .i64 st202.2), (177, .bool false), (178, .int .i64 st202.2), (181, .int .i64 x305), (182, .slice a59 x57.1.length c60)] (by kernel_rfl) ?_
    obtain ⟨x307, hx308, hm⟩ := bindE hm
    refine QL.st (.pointer (some (at_ a59 (Int.toNat 3 * 1)))) (ST.index (T := fInt.ty) (xs := x57.1) (SH.rd (SH.front 2 hS206)) hx308 rfl rfl rfl Try.underlying40 (info2).1 (info2).2.1) rfl rfl rfl ?_
    refine QL.st (.int .i64 x307) (ST.load (cell_ext (Rd.flat (F := fInt) (SH.rd (SH.front 2 hS206)) hx308 0 rfl)) rfl rfl Try.underlying2 rfl) rfl rfl rfl ?_
    refine QL.step1v 185 (.int .i64 (wI64 (x305 + x307))) rfl (fun _ => by kernel_rfl) ?_
    refine QL.step1v 186 (.bool (decide (st202.2 ≥ (wI64 (x305 + x307))))) rfl (fun _ => by kernel_rfl) ?_
    refine QL.step1v 187 (.bool (decide (st202.2 ≥ (wI64 (x305 + x307))))) rfl (fun _ => by kernel_rfl) ?_
    refine QL.subk [1, 5, 6, 7, 11, 12, 19, 20, 21, 187] [(1, .slice a1' more_1.length c1'), (5, .slice a17 x15.length c18), (6, .int .i64 (wI64 (1 + x27))), (7, .int .i64 x36.1), (11, .slice a59 x57.1.length c60), (12, .int .i64 x57.2), (19, .int .i64 (imin st202.1 st184.2)), (20, .int .i64 st184.2), (21, .int .i64 st202.2), (187, .bool (decide (st202.2 ≥ (wI64 (x305 + x307)))))] (by kernel_rfl) ?_
    refine QL.nil ?_
    intro w309 hE310
    have hb311 : Ext w w309 := Ext.trans hb204 hE310
    have hL312 : w.heap.size ≤ w309.heap.size := Nat.le_trans hL205 hE310.size
    have hS313 : SH w309 w.heap.size [aOwn fInt 2 a144 c145 x142.1, aOwn fStr 9 a71 c72 x69.1, aOwn fInt 2 a59 c60 x57.1, aOwn fInt 2 a47 c48 x45.1, aOwn fStr 9 a17 c18 x15] := SH.ext hS206 hE310
    obtain rfl := Option.some.inj hm
    exact WQ.post' ⟨rfl, hb311, hL312, hS313⟩ ⟨rfl, rfl, rfl, rfl, rfl, rfl, rfl, rfl, rfl, rfl, trivial⟩
  have hm := iteF hm hc199
  refine WP.exit ?_
  refine WQ.then_exit ?_
  refine WQ.then_exit ?_
  refine WQ.block_here ?_
  obtain rfl := Option.some.inj hm
  obtain rfl := afterN_done hl189
  have hm := hmo190
  refine WQ.then_normal (hK182 _ _ _ ?_)
  refine WP.seq (fun K321 hK321 => ?_)
  refine WP.seq (fun K322 hK322 => ?_)
  obtain ⟨x346, hx347, hm⟩ := bindE hm
  refine WP.cut (fun env' w' => env' = [(1, .slice a1' more_1.length c1'), (5, .slice a17 x15.length c18), (207, .bool x346)] ∧ Ext w w' ∧ w.heap.size ≤ w'.heap.size ∧ SH w' w.heap.size [aOwn fInt 2 a144 c145 x142.1, aOwn fStr 9 a71 c72 x69.1, aOwn fInt 2 a59 c60 x57.1, aOwn fInt 2 a47 c48 x45.1, aOwn fStr 9 a17 c18 x15]) ?_ ?_
  · have hm := hx347; clear hx347
    refine WP.quiet (by kernel_rfl) (by kernel_rfl) ?_
    refine QL.step1v 188 (.int .i64 x57.2) rfl (fun _ => by kernel_rfl) ?_
    refine QL.step1v 189 (.bool (x57.2 == 0)) rfl (fun _ => by kernel_rfl) ?_
    refine QL.step1v 190 (.bool (x57.2 == 0)) rfl (fun _ => by kernel_rfl) ?_
    refine QL.subk [1, 5, 7, 11, 19, 190] [(1, .slice a1' more_1.length c1'), (5, .slice a17 x15.length c18), (7, .int .i64 x36.1), (11, .slice a59 x57.1.length c60), (19, .int .i64 st184.1), (190, .bool (x57.2 == 0))] (by kernel_rfl) ?_
    refine QL.case (x57.2 == 0) [190] ⟨rfl, trivial⟩ (fun hc348 => ?_) (fun hc348 => ?_)
    rotate_left
    · have hm := iteF hm hc348
      refine QL.step1v 191 undef rfl (fun _ => by kernel_rfl) ?_
      refine QL.step1v 192 undef rfl (fun _ => by kernel_rfl) ?_
      refine QL.step1v 193 undef rfl (fun _ => by kernel_rfl) ?_
      refine QL.step1v 194 undef rfl (fun _ => by kernel_rfl) ?_
      refine QL.step1v 195 undef rfl (fun _ => by kernel_rfl) ?_
      refine QL.step1v 196 undef rfl (fun _ => by kernel_rfl) ?_
      refine QL.step1v 197 undef rfl (fun _ => by kernel_rfl) ?_
      refine QL.step1v 198 undef rfl (fun _ => by kernel_rfl) ?_
      refine QL.step1v 199 undef rfl (fun _ => by kernel_rfl) ?_
      refine QL.step1v 200 undef rfl (fun _ => by kernel_rfl) ?_
      refine QL.step1v 201 undef rfl (fun _ => by kernel_rfl) ?_
      refine QL.step1v 202 undef rfl (fun _ => by kernel_rfl) ?_
      refine QL.step1v 203 undef rfl (fun _ => by kernel_rfl) ?_
      refine QL.step1v 204 undef rfl (fun _ => by kernel_rfl) ?_
      refine QL.step1v 205 undef rfl (fun _ => by kernel_rfl) ?_
      refine QL.step1v 206 undef rfl (fun _ => by kernel_rfl) ?_
      refine QL.step1v 207 (.bool false) rfl (fun _ => by kernel_rfl) ?_
      refine QL.subk [1, 5, 207] [(1, .slice a1' more_1.length c1'), (5, .slice a17 x15.length c18), (207, .bool false)] (by kernel_rfl) ?_
      refine QL.nil ?_
      intro w366 hE367
      have hb368 : Ext w w366 := Ext.trans hb186 hE367
      have hL369 : w.heap.size ≤ w366.heap.size := Nat.le_trans hL187 hE367.size
      have hS370 : SH w366 w.heap.size [aOwn fInt 2 a144 c145 x142.1, aOwn fStr 9 a71 c72 x69.1, aOwn fInt 2 a59 c60 x57.1, aOwn fInt 2 a47 c48 x45.1, aOwn fStr 9 a17 c18 x15] := SH.ext hS188 hE367
      obtain rfl := Option.some.inj hm
      exact WQ.post' ⟨rfl, hb368, hL369, hS370⟩ ⟨rfl, rfl, rfl, trivial⟩
    have hm := iteT hm hc348
    refine QL.step1v 191 (.slice a59 x57.1.length c60) rfl (fun _ => by kernel_rfl) ?_
    refine QL.subk [1, 5, 7, 11, 19, 190, 191] [(1, .slice a1' more_1.length c1'), (5, .slice a17 x15.length c18), (7, .int .i64 x36.1), (11, .slice a59 x57.1.length c60), (19, .int .i64 st184.1), (190, .bool true), (191, .slice a59 x57.1.length c60)] (by kernel_rfl) ?_
    obtain ⟨x349, hx350, hm⟩ := bindE hm
    refine QL.st (.pointer (some (at_ a59 (Int.toNat 0 * 1)))) (ST.index (T := fInt.ty) (xs := x57.1) (SH.rd (SH.front 2 hS188)) hx350 rfl rfl rfl Try.underlying40 (info2).1 (info2).2.1) rfl rfl rfl ?_
    refine QL.st (.int .i64 x349) (ST.load (cell_ext (Rd.flat (F := fInt) (SH.rd (SH.front 2 hS188)) hx350 0 rfl)) rfl rfl Try.underlying2 rfl) rfl rfl rfl ?_
    refine QL.step1v 194 (.int .i64 st184.1) rfl (fun _ => by kernel_rfl) ?_
    refine QL.step1v 195 (.bool (x349 != st184.1)) rfl (fun _ => by kernel_rfl) ?_
    refine QL.step1v 196 (.bool (x349 != st184.1)) rfl (fun _ => by kernel_rfl) ?_
    refine QL.subk [1, 5, 7, 11, 190, 196] [(1, .slice a1' more_1.length c1'), (5, .slice a17 x15.length c18), (7, .int .i64 x36.1), (11, .slice a59 x57.1.length c60), (190, .bool true), (196, .bool (x349 != st184.1))] (by kernel_rfl) ?_
    refine QL.case (x349 != st184.1) [196] ⟨rfl, trivial⟩ (fun hc351 => ?_) (fun hc351 => ?_)
    · have hm := iteT hm hc351
      refine QL.step1v 197 undef rfl (fun _ => by kernel_rfl) ?_
      refine QL.step1v 198 undef rfl (fun _ => by kernel_rfl) ?_
      refine QL.step1v 199 undef rfl (fun _ => by kernel_rfl) ?_
      refine QL.step1v 200 undef rfl (fun _ => by kernel_rfl) ?_
      refine QL.step1v 201 undef rfl (fun _ => by kernel_rfl) ?_
      refine QL.step1v 202 undef rfl (fun _ => by kernel_rfl) ?_
      refine QL.step1v 203 undef rfl (fun _ => by kernel_rfl) ?_
      refine QL.step1v 204 undef rfl (fun _ => by kernel_rfl) ?_
      refine QL.step1v 205 undef rfl (fun _ => by kernel_rfl) ?_
      refine QL.step1v 206 (.bool true) rfl (fun _ => by kernel_rfl) ?_
      refine QL.step1v 207 (.bool true) rfl (fun _ => by kernel_rfl) ?_
      refine QL.subk [1, 5, 207] [(1, .slice a1' more_1.length c1'), (5, .slice a17 x15.length c18), (207, .bool true)] (by kernel_rfl) ?_
      refine QL.nil ?_
      intro w352 hE353
      have hb354 : Ext w w352 := Ext.trans hb186 hE353
      have hL355 : w.heap.size ≤ w352.heap.size := Nat.le_trans hL187 hE353.size
      have hS356 : SH w352 w.heap.size [aOwn fInt 2 a144 c145 x142.1, aOwn fStr 9 a71 c72 x69.1, aOwn fInt 2 a59 c60 x57.1, aOwn fInt 2 a47 c48 x45.1, aOwn fStr 9 a17 c18 x15] := SH.ext hS188 hE353
      obtain rfl := Option.some.inj hm
      exact WQ.post' ⟨rfl, hb354, hL355, hS356⟩ ⟨rfl, rfl, rfl, trivial⟩
    have hm := iteF hm hc351
    refine QL.step1v 197 (.slice a59 x57.1.length c60) rfl (fun _ => by kernel_rfl) ?_
    refine QL.subk [1, 5, 7, 11, 190, 196, 197] [(1, .slice a1' more_1.length c1'), (5, .slice a17 x15.length c18), (7, .int .i64 x36.1), (11, .slice a59 x57.1.length c60), (190, .bool true), (196, .bool false), (197, .slice a59 x57.1.length c60)] (by kernel_rfl) ?_
    obtain ⟨x357, hx358, hm⟩ := bindE hm
    refine QL.st (.pointer (some (at_ a59 (Int.toNat 2 * 1)))) (ST.index (T := fInt.ty) (xs := x57.1) (SH.rd (SH.front 2 hS188)) hx358 rfl rfl rfl Try.underlying40 (info2).1 (info2).2.1) rfl rfl rfl ?_
    refine QL.st (.int .i64 x357) (ST.load (cell_ext (Rd.flat (F := fInt) (SH.rd (SH.front 2 hS188)) hx358 0 rfl)) rfl rfl Try.underlying2 rfl) rfl rfl rfl ?_
    refine QL.step1v 200 (.slice a59 x57.1.length c60) rfl (fun _ => by kernel_rfl) ?_
    refine QL.subk [1, 5, 7, 190, 196, 199, 200] [(1, .slice a1' more_1.length c1'), (5, .slice a17 x15.length c18), (7, .int .i64 x36.1), (190, .bool true), (196, .bool false), (199, .int .i64 x357), (200, .slice a59 x57.1.length c60)] (by kernel_rfl) ?_
    obtain ⟨x359, hx360, hm⟩ := bindE hm
    refine QL.st (.pointer (some (at_ a59 (Int.toNat 3 * 1)))) (ST.index (T := fInt.ty) (xs := x57.1) (SH.rd (SH.front 2 hS188)) hx360 rfl rfl rfl Try.underlying40 (info2).1 (info2).2.1) rfl rfl rfl ?_
    refine QL.st (.int .i64 x359) (ST.load (cell_ext (Rd.flat (F := fInt) (SH.rd (SH.front 2 hS188)) hx360 0 rfl)) rfl rfl Try.underlying2 rfl) rfl rfl rfl ?_
    refine QL.step1v 203 (.int .i64 (wI64 (x357 * x359))) rfl (fun _ => by kernel_rfl) ?_
    refine QL.step1v 204 (.int .i64 x36.1) rfl (fun _ => by kernel_rfl) ?_
    refine QL.step1v 205 (.bool (decide ((wI64 (x357 * x359)) < x36.1))) rfl (fun _ => by kernel_rfl) ?_
    refine QL.step1v 206 (.bool (decide ((wI64 (x357 * x359)) < x36.1))) rfl (fun _ => by kernel_rfl) ?_
    refine QL.step1v 207 (.bool (decide ((wI64 (x357 * x359)) < x36.1))) rfl (fun _ => by kernel_rfl) ?_
    refine QL.subk [1, 5, 207] [(1, .slice a1' more_1.length c1'), (5, .slice a17 x15.length c18), (207, .bool (decide ((wI64 (x357 * x359)) < x36.1)))] (by kernel_rfl) ?_
    refine QL.nil ?_
    intro w361 hE362
    have hb363 : Ext w w361 := Ext.trans hb186 hE362
    have hL364 : w.heap.size ≤ w361.heap.size := Nat.le_trans hL187 hE362.size
    have hS365 : SH w361 w.heap.size [aOwn fInt 2 a144 c145 x142.1, aOwn fStr 9 a71 c72 x69.1, aOwn fInt 2 a59 c60 x57.1, aOwn fInt 2 a47 c48 x45.1, aOwn fStr 9 a17 c18 x15] := SH.ext hS188 hE362
    obtain rfl := Option.some.inj hm
    exact WQ.post' ⟨rfl, hb363, hL364, hS365⟩ ⟨rfl, rfl, rfl, trivial⟩
  clear hx347
  rintro _ w371 ⟨rfl, hb372, hL373, hS374⟩
  refine WQ.then_normal (hK322 _ _ _ ?_)
  refine WP.cond x346 rfl rfl (fun hc375 => ?_) (fun hc375 => ?_)
  · have hm := iteT hm hc375
    refine WP.seq (fun K376 hK376 => ?_)
    refine WP.region ?_
    refine WL.runk 1 [4] [(4, .bool false)] (by kernel_rfl) ?_
    refine WL.nil ?_
    refine WQ.then_normal (hK376 _ _ _ ?_)
    refine WP.ret ?_
    refine WQ.then_ret ?_
    obtain rfl := Option.some.inj hm
    exact WQ.ret1 _ rfl rfl ⟨rfl, hb372⟩
  have hm := iteF hm hc375
  refine WP.skip ?_
  refine WQ.then_normal (hK321 _ _ _ ?_)
  refine WP.seq (fun K377 hK377 => ?_)
  refine WP.region ?_
  refine WL.runk 2 [5, 208, 209] [(5, .slice a17 x15.length c18), (208, .slice a1' more_1.length c1'), (209, .slice a17 x15.length c18)] (by kernel_rfl) ?_
  obtain ⟨x378, hx379, hm⟩ := bindE hm
  refine WL.call 48 #[.slice a1' more_1.length c1', .slice a17 x15.length c18] rfl rfl (by kernel_rfl) (c_48 n more_1 a1' c1' x15 a17 c18 w371 hx379 (Rd.below h1 hb372) hle1 (SH.rd (SH.front 4 hS374)) (SH.le (SH.front 4 hS374)).1) ?_
  rintro _ w383 ⟨a380, c381, rfl, hE384, hR385⟩
  refine ⟨_, rfl, ?_⟩
  have hb386 : Ext w w383 := Ext.trans hb372 hE384
  have hL387 : w.heap.size ≤ w383.heap.size := Nat.le_trans hL373 hE384.size
  have hS388 : SH w383 w.heap.size [aOwn fStr 9 a380 c381 x378, aOwn fInt 2 a144 c145 x142.1, aOwn fStr 9 a71 c72 x69.1, aOwn fInt 2 a59 c60 x57.1, aOwn fInt 2 a47 c48 x45.1, aOwn fStr 9 a17 c18 x15] := SH.add hS374 hE384 hL373 hR385
  refine WL.runk 1 [5, 22] [(5, .slice a17 x15.length c18), (22, .slice a380 x378.length c381)] (by kernel_rfl) ?_
  refine WL.nil ?_
  refine WQ.then_normal (hK377 _ _ _ ?_)
  refine WP.seq (fun K389 hK389 => ?_)
  refine WP.region ?_
  refine WL.runk 2 [5, 22, 212, 213] [(5, .slice a17 x15.length c18), (22, .slice a380 x378.length c381), (212, .slice a17 x15.length c18), (213, .slice a380 x378.length c381)] (by kernel_rfl) ?_
  obtain ⟨x390, hx391, hm⟩ := bindE hm
  refine WL.call 27 #[.slice a17 x15.length c18, .slice a380 x378.length c381] rfl rfl (by kernel_rfl) (c_27 n x15 a17 c18 x378 a380 c381 w383 hx391 (SH.rd (SH.front 5 hS388)) (SH.le (SH.front 5 hS388)).1 (SH.rd (SH.front 0 hS388)) (SH.le (SH.front 0 hS388)).1) ?_
  rintro _ w395 ⟨a392, c393, rfl, hE396, hR397⟩
  refine ⟨_, rfl, ?_⟩
  have hb398 : Ext w w395 := Ext.trans hb386 hE396
  have hL399 : w.heap.size ≤ w395.heap.size := Nat.le_trans hL387 hE396.size
  have hS400 : SH w395 w.heap.size [aOwn fStr 9 a392 c393 x390.1, aOwn fStr 9 a380 c381 x378, aOwn fInt 2 a144 c145 x142.1, aOwn fStr 9 a71 c72 x69.1, aOwn fInt 2 a59 c60 x57.1, aOwn fInt 2 a47 c48 x45.1, aOwn fStr 9 a17 c18 x15] := SH.add hS388 hE396 hL387 hR397
  refine WL.runk 5 [5, 22, 23, 24] [(5, .slice a17 x15.length c18), (22, .slice a380 x378.length c381), (23, .slice a392 x390.1.length c393), (24, .int .i64 x390.2)] (by kernel_rfl) ?_
  refine WL.nil ?_
  refine WQ.then_normal (hK389 _ _ _ ?_)
  refine WP.seq (fun K401 hK401 => ?_)
  refine WP.seq (fun K402 hK402 => ?_)
  obtain ⟨x404, hx405, hm⟩ := bindE hm
  refine WP.cut (fun env' w' => env' = [(5, .slice a17 x15.length c18), (22, .slice a380 x378.length c381), (23, .slice a392 x390.1.length c393), (225, .bool x404)] ∧ Ext w w' ∧ w.heap.size ≤ w'.heap.size ∧ SH w' w.heap.size [aOwn fStr 9 a392 c393 x390.1, aOwn fStr 9 a380 c381 x378, aOwn fInt 2 a144 c145 x142.1, aOwn fStr 9 a71 c72 x69.1, aOwn fInt 2 a59 c60 x57.1, aOwn fInt 2 a47 c48 x45.1, aOwn fStr 9 a17 c18 x15]) ?_ ?_
  · have hm := hx405; clear hx405
    refine WP.region ?_
    refine WL.runk 3 [5, 22, 23, 219] [(5, .slice a17 x15.length c18), (22, .slice a380 x378.length c381), (23, .slice a392 x390.1.length c393), (219, .bool (x390.2 != 0))] (by kernel_rfl) ?_
    refine WL.case (x390.2 != 0) [219] ⟨rfl, trivial⟩ (fun hc406 => ?_) (fun hc406 => ?_)
    · have hm := iteT hm hc406
      refine WL.runk 6 [5, 22, 23, 225] [(5, .slice a17 x15.length c18), (22, .slice a380 x378.length c381), (23, .slice a392 x390.1.length c393), (225, .bool true)] (by kernel_rfl) ?_
      refine WL.nil ?_
      obtain rfl := Option.some.inj hm
      exact WQ.post' ⟨rfl, hb398, hL399, hS400⟩ ⟨rfl, rfl, rfl, rfl, trivial⟩
    have hm := iteF hm hc406
    refine WL.runk 6 [5, 22, 23, 225] [(5, .slice a17 x15.length c18), (22, .slice a380 x378.length c381), (23, .slice a392 x390.1.length c393), (225, .bool ((x390.1.length : Int) != (x15.length : Int)))] (by kernel_rfl) ?_
    refine WL.nil ?_
    obtain rfl := Option.some.inj hm
    exact WQ.post' ⟨rfl, hb398, hL399, hS400⟩ ⟨rfl, rfl, rfl, rfl, trivial⟩
  clear hx405
  rintro _ w407 ⟨rfl, hb408, hL409, hS410⟩
  refine WQ.then_normal (hK402 _ _ _ ?_)
  refine WP.cond x404 rfl rfl (fun hc411 => ?_) (fun hc411 => ?_)
  · have hm := iteT hm hc411
    refine WP.seq (fun K412 hK412 => ?_)
    refine WP.region ?_
    refine WL.runk 1 [4] [(4, .bool false)] (by kernel_rfl) ?_
    refine WL.nil ?_
    refine WQ.then_normal (hK412 _ _ _ ?_)
    refine WP.ret ?_
    refine WQ.then_ret ?_
    obtain rfl := Option.some.inj hm
    exact WQ.ret1 _ rfl rfl ⟨rfl, hb408⟩
  have hm := iteF hm hc411
  refine WP.skip ?_
  refine WQ.then_normal (hK401 _ _ _ ?_)
  refine WP.seq (fun K413 hK413 => ?_)
  refine WP.seq (fun K414 hK414 => ?_)
  refine WP.region ?_
  refine WL.runk 1 [5, 22, 23, 25] [(5, .slice a17 x15.length c18), (22, .slice a380 x378.length c381), (23, .slice a392 x390.1.length c393), (25, .int .i64 0)] (by kernel_rfl) ?_
  refine WL.nil ?_
  refine WQ.then_normal (hK414 _ _ _ ?_)
  refine WP.block ?_
  obtain ⟨t426, ht427, hm⟩ := bindE hm
  have hmo421 := hm; clear hm
  refine WP.sub [(5, .slice a17 x15.length c18), (22, .slice a380 x378.length c381), (23, .slice a392 x390.1.length c393), (25, .int .i64 0)] ⟨rfl, rfl, rfl, rfl, trivial⟩ ?_
  refine WP.loop (fun n' env' w' => ∃ (st415 : Int) , env' = [(5, .slice a17 x15.length c18), (22, .slice a380 x378.length c381), (23, .slice a392 x390.1.length c393), (25, .int .i64 st415)] ∧ Ext w w' ∧ w.heap.size ≤ w'.heap.size ∧ SH w' w.heap.size [aOwn fStr 9 a392 c393 x390.1, aOwn fStr 9 a380 c381 x378, aOwn fInt 2 a144 c145 x142.1, aOwn fStr 9 a71 c72 x69.1, aOwn fInt 2 a59 c60 x57.1, aOwn fInt 2 a47 c48 x45.1, aOwn fStr 9 a17 c18 x15] ∧ loopN (m_laws_FnWearAreas_l3 n x15 x378 x390) n' st415 = some t426) n ⟨0, rfl, hb408, hL409, hS410, ht427⟩ ?_
  rintro n423 _ w416 ⟨st415, rfl, hb417, hL418, hS419, hl420⟩ K422 hK422
  obtain ⟨n424, s425, rfl, hm, hl420⟩ := loopN_some hl420
  unfold m_laws_FnWearAreas_l3 at hm
  refine WP.seq (fun K428 hK428 => ?_)
  refine WP.seq (fun K429 hK429 => ?_)
  refine WP.region ?_
  refine WL.runk 4 [5, 22, 23, 25, 229] [(5, .slice a17 x15.length c18), (22, .slice a380 x378.length c381), (23, .slice a392 x390.1.length c393), (25, .int .i64 st415), (229, .bool (decide (st415 < (x15.length : Int))))] (by kernel_rfl) ?_
  refine WL.nil ?_
  refine WQ.then_normal (hK429 _ _ _ ?_)
  refine WP.cond (decide (st415 < (x15.length : Int))) rfl rfl (fun hc430 => ?_) (fun hc430 => ?_)
  rotate_left
  · have hm := iteF hm hc430
    refine WP.exit ?_
    refine WQ.then_exit ?_
    refine WQ.then_exit ?_
    refine WQ.block_here ?_
    obtain rfl := Option.some.inj hm
    obtain rfl := afterN_done hl420
    have hm := hmo421
    refine WQ.then_normal (hK413 _ _ _ ?_)
    refine WP.seq (fun K486 hK486 => ?_)
    refine WP.region ?_
    refine WL.runk 1 [4] [(4, .bool true)] (by kernel_rfl) ?_
    refine WL.nil ?_
    refine WQ.then_normal (hK486 _ _ _ ?_)
    refine WP.ret ?_
    obtain rfl := Option.some.inj hm
    exact WQ.ret1 _ rfl rfl ⟨rfl, hb417⟩
  have hm := iteT hm hc430
  refine WP.skip ?_
  refine WQ.then_normal (hK428 _ _ _ ?_)
  refine WP.seq (fun K431 hK431 => ?_)
  refine WP.block ?_
  refine WP.seq (fun K432 hK432 => ?_)
  refine WP.seq (fun K433 hK433 => ?_)
  refine WP.quiet (by kernel_rfl) (by kernel_rfl) ?_
  refine QL.step1v 232 (.slice a392 x390.1.length c393) rfl (fun _ => by kernel_rfl) ?_
  refine QL.step1v 233 (.int .i64 st415) rfl (fun _ => by kernel_rfl) ?_
  refine QL.subk [5, 22, 23, 25, 232, 233] [(5, .slice a17 x15.length c18), (22, .slice a380 x378.length c381), (23, .slice a392 x390.1.length c393), (25, .int .i64 st415), (232, .slice a392 x390.1.length c393), (233, .int .i64 st415)] (by kernel_rfl) ?_
  obtain ⟨x434, hx435, hm⟩ := bindE hm
  refine QL.st (.pointer (some (at_ a392 (Int.toNat st415 * 1)))) (ST.index (T := fStr.ty) (xs := x390.1) (SH.rd (SH.front 0 hS419)) hx435 rfl rfl rfl Try.underlying22 (info9).1 (info9).2.1) rfl rfl rfl ?_
  refine QL.st (.string (bs x434)) (ST.load (cell_ext (Rd.flat (F := fStr) (SH.rd (SH.front 0 hS419)) hx435 0 rfl)) rfl rfl Try.underlying9 rfl) rfl rfl rfl ?_
  refine QL.step1v 236 (.int .i64 (x434.length : Int)) rfl (fun _ => by kernel_rfl) ?_
  refine QL.step1v 237 (.slice a17 x15.length c18) rfl (fun _ => by kernel_rfl) ?_
  refine QL.step1v 238 (.int .i64 st415) rfl (fun _ => by kernel_rfl) ?_
  refine QL.subk [5, 22, 23, 25, 236, 237, 238] [(5, .slice a17 x15.length c18), (22, .slice a380 x378.length c381), (23, .slice a392 x390.1.length c393), (25, .int .i64 st415), (236, .int .i64 (x434.length : Int)), (237, .slice a17 x15.length c18), (238, .int .i64 st415)] (by kernel_rfl) ?_
  obtain ⟨x436, hx437, hm⟩ := bindE hm
  refine QL.st (.pointer (some (at_ a17 (Int.toNat st415 * 1)))) (ST.index (T := fStr.ty) (xs := x15) (SH.rd (SH.front 6 hS419)) hx437 rfl rfl rfl Try.underlying22 (info9).1 (info9).2.1) rfl rfl rfl ?_
  refine QL.st (.string (bs x436)) (ST.load (cell_ext (Rd.flat (F := fStr) (SH.rd (SH.front 6 hS419)) hx437 0 rfl)) rfl rfl Try.underlying9 rfl) rfl rfl rfl ?_
  refine QL.step1v 241 (.int .i64 (x436.length : Int)) rfl (fun _ => by kernel_rfl) ?_
  refine QL.step1v 242 (.bool ((x434.length : Int) != (x436.length : Int))) rfl (fun _ => by kernel_rfl) ?_
  refine QL.subk [5, 22, 23, 25, 242] [(5, .slice a17 x15.length c18), (22, .slice a380 x378.length c381), (23, .slice a392 x390.1.length c393), (25, .int .i64 st415), (242, .bool ((x434.length : Int) != (x436.length : Int)))] (by kernel_rfl) ?_
  refine QL.nil ?_
  intro w438 hE439
  have hb440 : Ext w w438 := Ext.trans hb417 hE439
  have hL441 : w.heap.size ≤ w438.heap.size := Nat.le_trans hL418 hE439.size
  have hS442 : SH w438 w.heap.size [aOwn fStr 9 a392 c393 x390.1, aOwn fStr 9 a380 c381 x378, aOwn fInt 2 a144 c145 x142.1, aOwn fStr 9 a71 c72 x69.1, aOwn fInt 2 a59 c60 x57.1, aOwn fInt 2 a47 c48 x45.1, aOwn fStr 9 a17 c18 x15] := SH.ext hS419 hE439
  refine WQ.then_normal (hK433 _ _ _ ?_)
  refine WP.cond ((x434.length : Int) != (x436.length : Int)) rfl rfl (fun hc443 => ?_) (fun hc443 => ?_)
  · have hm := iteT hm hc443
    refine WP.seq (fun K444 hK444 => ?_)
    refine WP.region ?_
    refine WL.runk 1 [4] [(4, .bool false)] (by kernel_rfl) ?_
    refine WL.nil ?_
    refine WQ.then_normal (hK444 _ _ _ ?_)
    refine WP.ret ?_
    refine WQ.then_ret ?_
    refine WQ.block_ret ?_
    refine WQ.then_ret ?_
    refine WQ.then_ret ?_
    refine WQ.block_ret ?_
    refine WQ.then_ret ?_
    obtain rfl := Option.some.inj hm
    obtain rfl := afterN_done hl420
    have hm := hmo421
    obtain rfl := Option.some.inj hm
    exact WQ.ret1 _ rfl rfl ⟨rfl, hb440⟩
  have hm := iteF hm hc443
  refine WP.skip ?_
  refine WQ.then_normal (hK432 _ _ _ ?_)
  refine WP.seq (fun K445 hK445 => ?_)
  refine WP.region ?_
  refine WL.runk 1 [5, 22, 23, 25, 26] [(5, .slice a17 x15.length c18), (22, .slice a380 x378.length c381), (23, .slice a392 x390.1.length c393), (25, .int .i64 st415), (26, .int .i64 0)] (by kernel_rfl) ?_
  refine WL.nil ?_
  refine WQ.then_normal (hK445 _ _ _ ?_)
  refine WP.block ?_
  obtain ⟨t457, ht458, hm⟩ := bindE hm
  have hmo452 := hm; clear hm
  refine WP.sub [(5, .slice a17 x15.length c18), (22, .slice a380 x378.length c381), (23, .slice a392 x390.1.length c393), (25, .int .i64 st415), (26, .int .i64 0)] ⟨rfl, rfl, rfl, rfl, rfl, trivial⟩ ?_
  refine WP.loop (fun n' env' w' => ∃ (st446 : Int) , env' = [(5, .slice a17 x15.length c18), (22, .slice a380 x378.length c381), (23, .slice a392 x390.1.length c393), (25, .int .i64 st415), (26, .int .i64 st446)] ∧ Ext w w' ∧ w.heap.size ≤ w'.heap.size ∧ SH w' w.heap.size [aOwn fStr 9 a392 c393 x390.1, aOwn fStr 9 a380 c381 x378, aOwn fInt 2 a144 c145 x142.1, aOwn fStr 9 a71 c72 x69.1, aOwn fInt 2 a59 c60 x57.1, aOwn fInt 2 a47 c48 x45.1, aOwn fStr 9 a17 c18 x15] ∧ loopN (m_laws_FnWearAreas_l4 n x15 x378 x390 st415) n' st446 = some t457) n ⟨0, rfl, hb440, hL441, hS442, ht458⟩ ?_
  rintro n454 _ w447 ⟨st446, rfl, hb448, hL449, hS450, hl451⟩ K453 hK453
  obtain ⟨n455, s456, rfl, hm, hl451⟩ := loopN_some hl451
  unfold m_laws_FnWearAreas_l4 at hm
  refine WP.seq (fun K459 hK459 => ?_)
  refine WP.seq (fun K460 hK460 => ?_)
  refine WP.region ?_
  refine WL.runk 3 [5, 22, 23, 25, 26, 243, 244, 245] [(5, .slice a17 x15.length c18), (22, .slice a380 x378.length c381), (23, .slice a392 x390.1.length c393), (25, .int .i64 st415), (26, .int .i64 st446), (243, .int .i64 st446), (244, .slice a17 x15.length c18), (245, .int .i64 st415)] (by kernel_rfl) ?_
  obtain ⟨x461, hx462, hm⟩ := bindE hm
  refine WL.st (.pointer (some (at_ a17 (Int.toNat st415 * 1)))) (ST.index (T := fStr.ty) (xs := x15) (SH.rd (SH.front 6 hS450)) hx462 rfl rfl rfl Try.underlying22 (info9).1 (info9).2.1) rfl rfl rfl ?_
  refine WL.st (.string (bs x461)) (ST.load (cell_ext (Rd.flat (F := fStr) (SH.rd (SH.front 6 hS450)) hx462 0 rfl)) rfl rfl Try.underlying9 rfl) rfl rfl rfl ?_
  refine WL.runk 2 [5, 22, 23, 25, 26, 249] [(5, .slice a17 x15.length c18), (22, .slice a380 x378.length c381), (23, .slice a392 x390.1.length c393), (25, .int .i64 st415), (26, .int .i64 st446), (249, .bool (decide (st446 < (x461.length : Int))))] (by kernel_rfl) ?_
  refine WL.nil ?_
  refine WQ.then_normal (hK460 _ _ _ ?_)
  refine WP.cond (decide (st446 < (x461.length : Int))) rfl rfl (fun hc463 => ?_) (fun hc463 => ?_)
  rotate_left
  · have hm := iteF hm hc463
    refine WP.exit ?_
    refine WQ.then_exit ?_
    refine WQ.then_exit ?_
    refine WQ.block_here ?_
    obtain rfl := Option.some.inj hm
    obtain rfl := afterN_done hl451
    have hm := hmo452
    refine WQ.block_normal ?_
    refine WQ.then_normal (hK431 _ _ _ ?_)
    refine WP.region ?_
    refine WL.runk 3 [5, 22, 23, 25] [(5, .slice a17 x15.length c18), (22, .slice a380 x378.length c381), (23, .slice a392 x390.1.length c393), (25, .int .i64 (wI64 (st415 + 1)))] (by kernel_rfl) ?_
    refine WL.nil ?_
    obtain rfl := Option.some.inj hm
    exact WQ.round hK422 ⟨(wI64 (st415 + 1)), rfl, hb448, hL449, hS450, hl420⟩ (Nat.lt_succ_self _) ⟨rfl, rfl, rfl, rfl, trivial⟩
  have hm := iteT hm hc463
  refine WP.skip ?_
  refine WQ.then_normal (hK459 _ _ _ ?_)
  refine WP.seq (fun K464 hK464 => ?_)
  refine WP.block ?_
  refine WP.seq (fun K465 hK465 => ?_)
  refine WP.quiet (by kernel_rfl) (by kernel_rfl) ?_
  refine QL.step1v 252 (.slice a392 x390.1.length c393) rfl (fun _ => by kernel_rfl) ?_
  refine QL.step1v 253 (.int .i64 st415) rfl (fun _ => by kernel_rfl) ?_
  refine QL.subk [5, 22, 23, 25, 26, 252, 253] [(5, .slice a17 x15.length c18), (22, .slice a380 x378.length c381), (23, .slice a392 x390.1.length c393), (25, .int .i64 st415), (26, .int .i64 st446), (252, .slice a392 x390.1.length c393), (253, .int .i64 st415)] (by kernel_rfl) ?_
  obtain ⟨x466, hx467, hm⟩ := bindE hm
  refine QL.st (.pointer (some (at_ a392 (Int.toNat st415 * 1)))) (ST.index (T := fStr.ty) (xs := x390.1) (SH.rd (SH.front 0 hS450)) hx467 rfl rfl rfl Try.underlying22 (info9).1 (info9).2.1) rfl rfl rfl ?_
  refine QL.st (.string (bs x466)) (ST.load (cell_ext (Rd.flat (F := fStr) (SH.rd (SH.front 0 hS450)) hx467 0 rfl)) rfl rfl Try.underlying9 rfl) rfl rfl rfl ?_
  refine QL.step1v 256 (.int .i64 st446) rfl (fun _ => by kernel_rfl) ?_
  refine QL.subk [5, 22, 23, 25, 26, 255, 256] [(5, .slice a17 x15.length c18), (22, .slice a380 x378.length c381), (23, .slice a392 x390.1.length c393), (25, .int .i64 st415), (26, .int .i64 st446), (255, .string (bs x466)), (256, .int .i64 st446)] (by kernel_rfl) ?_
  obtain ⟨x468, hx469, hm⟩ := bindE hm
  refine QL.st (.int .u8 (x468.toNat : Int)) (ST.sindex hx469 rfl rfl rfl Try.underlying9) rfl rfl rfl ?_
  refine QL.step1v 258 (.int .u8 (IntKind.u8.wrap ((x468.toNat : Int) - 48))) rfl (fun _ => by kernel_rfl) ?_
  refine QL.step1v 259 (.int .i64 (wI64 (IntKind.u8.wrap ((x468.toNat : Int) - 48)))) rfl (fun _ => by kernel_rfl) ?_
  refine QL.step1v 260 (.slice a17 x15.length c18) rfl (fun _ => by kernel_rfl) ?_
  refine QL.step1v 261 (.int .i64 st415) rfl (fun _ => by kernel_rfl) ?_
  refine QL.subk [5, 22, 23, 25, 26, 259, 260, 261] [(5, .slice a17 x15.length c18), (22, .slice a380 x378.length c381), (23, .slice a392 x390.1.length c393), (25, .int .i64 st415), (26, .int .i64 st446), (259, .int .i64 (wI64 (IntKind.u8.wrap ((x468.toNat : Int) - 48)))), (260, .slice a17 x15.length c18), (261, .int .i64 st415)] (by kernel_rfl) ?_
  obtain ⟨x470, hx471, hm⟩ := bindE hm
  refine QL.st (.pointer (some (at_ a17 (Int.toNat st415 * 1)))) (ST.index (T := fStr.ty) (xs := x15) (SH.rd (SH.front 6 hS450)) hx471 rfl rfl rfl Try.underlying22 (info9).1 (info9).2.1) rfl rfl rfl ?_
  refine QL.st (.string (bs x470)) (ST.load (cell_ext (Rd.flat (F := fStr) (SH.rd (SH.front 6 hS450)) hx471 0 rfl)) rfl rfl Try.underlying9 rfl) rfl rfl rfl ?_
  refine QL.step1v 264 (.int .i64 st446) rfl (fun _ => by kernel_rfl) ?_
  refine QL.subk [5, 22, 23, 25, 26, 259, 263, 264] [(5, .slice a17 x15.length c18), (22, .slice a380 x378.length c381), (23, .slice a392 x390.1.length c393), (25, .int .i64 st415), (26, .int .i64 st446), (259, .int .i64 (wI64 (IntKind.u8.wrap ((x468.toNat : Int) - 48)))), (263, .string (bs x470)), (264, .int .i64 st446)] (by kernel_rfl) ?_
  obtain ⟨x472, hx473, hm⟩ := bindE hm
  refine QL.st (.int .u8 (x472.toNat : Int)) (ST.sindex hx473 rfl rfl rfl Try.underlying9) rfl rfl rfl ?_
  refine QL.step1v 266 (.int .u8 (IntKind.u8.wrap ((x472.toNat : Int) - 48))) rfl (fun _ => by kernel_rfl) ?_
  refine QL.step1v 267 (.int .i64 (wI64 (IntKind.u8.wrap ((x472.toNat : Int) - 48)))) rfl (fun _ => by kernel_rfl) ?_
  refine QL.step1v 268 (.slice a380 x378.length c381) rfl (fun _ => by kernel_rfl) ?_
  refine QL.step1v 269 (.int .i64 st415) rfl (fun _ => by kernel_rfl) ?_
  refine QL.subk [5, 22, 23, 25, 26, 259, 267, 268, 269] [(5, .slice a17 x15.length c18), (22, .slice a380 x378.length c381), (23, .slice a392 x390.1.length c393), (25, .int .i64 st415), (26, .int .i64 st446), (259, .int .i64 (wI64 (IntKind.u8.wrap ((x468.toNat : Int) - 48)))), (267, .int .i64 (wI64 (IntKind.u8.wrap ((x472.toNat : Int) - 48)))), (268, .slice a380 x378.length c381), (269, .int .i64 st415)] (by kernel_rfl) ?_
  obtain ⟨x474, hx475, hm⟩ := bindE hm
  refine QL.st (.pointer (some (at_ a380 (Int.toNat st415 * 1)))) (ST.index (T := fStr.ty) (xs := x378) (SH.rd (SH.front 1 hS450)) hx475 rfl rfl rfl Try.underlying22 (info9).1 (info9).2.1) rfl rfl rfl ?_
  refine QL.st (.string (bs x474)) (ST.load (cell_ext (Rd.flat (F := fStr) (SH.rd (SH.front 1 hS450)) hx475 0 rfl)) rfl rfl Try.underlying9 rfl) rfl rfl rfl ?_
  refine QL.step1v 272 (.int .i64 st446) rfl (fun _ => by kernel_rfl) ?_
  refine QL.subk [5, 22, 23, 25, 26, 259, 267, 271, 272] [(5, .slice a17 x15.length c18), (22, .slice a380 x378.length c381), (23, .slice a392 x390.1.length c393), (25, .int .i64 st415), (26, .int .i64 st446), (259, .int .i64 (wI64 (IntKind.u8.wrap ((x468.toNat : Int) - 48)))), (267, .int .i64 (wI64 (IntKind.u8.wrap ((x472.toNat : Int) - 48)))), (271, .string (bs x474)), (272, .int .i64 st446)] (by kernel_rfl) ?_
  obtain ⟨x476, hx477, hm⟩ := bindE hm
  refine QL.st (.int .u8 (x476.toNat : Int)) (ST.sindex hx477 rfl rfl rfl Try.underlying9) rfl rfl rfl ?_
  refine QL.step1v 274 (.int .u8 (IntKind.u8.wrap ((x476.toNat : Int) - 48))) rfl (fun _ => by kernel_rfl) ?_
  refine QL.step1v 275 (.int .i64 (wI64 (IntKind.u8.wrap ((x476.toNat : Int) - 48)))) rfl (fun _ => by kernel_rfl) ?_
  refine QL.step1v 276 (.int .i64 (wI64 ((wI64 (IntKind.u8.wrap ((x472.toNat : Int) - 48))) + (wI64 (IntKind.u8.wrap ((x476.toNat : Int) - 48)))))) rfl (fun _ => by kernel_rfl) ?_
  refine QL.step1v 277 (.int .i64 (imin 9 (wI64 ((wI64 (IntKind.u8.wrap ((x472.toNat : Int) - 48))) + (wI64 (IntKind.u8.wrap ((x476.toNat : Int) - 48))))))) rfl (fun _ => by kernel_rfl) ?_
  refine QL.step1v 278 (.bool ((wI64 (IntKind.u8.wrap ((x468.toNat : Int) - 48))) != (imin 9 (wI64 ((wI64 (IntKind.u8.wrap ((x472.toNat : Int) - 48))) + (wI64 (IntKind.u8.wrap ((x476.toNat : Int) - 48)))))))) rfl (fun _ => by kernel_rfl) ?_
  refine QL.subk [5, 22, 23, 25, 26, 278] [(5, .slice a17 x15.length c18), (22, .slice a380 x378.length c381), (23, .slice a392 x390.1.length c393), (25, .int .i64 st415), (26, .int .i64 st446), (278, .bool ((wI64 (IntKind.u8.wrap ((x468.toNat : Int) - 48))) != (imin 9 (wI64 ((wI64 (IntKind.u8.wrap ((x472.toNat : Int) - 48))) + (wI64 (IntKind.u8.wrap ((x476.toNat : Int) - 48))))))))] (by kernel_rfl) ?_
  refine QL.nil ?_
  intro w478 hE479
  have hb480 : Ext w w478 := Ext.trans hb448 hE479
  have hL481 : w.heap.size ≤ w478.heap.size := Nat.le_trans hL449 hE479.size
  have hS482 : SH w478 w.heap.size [aOwn fStr 9 a392 c393 x390.1, aOwn fStr 9 a380 c381 x378, aOwn fInt 2 a144 c145 x142.1, aOwn fStr 9 a71 c72 x69.1, aOwn fInt 2 a59 c60 x57.1, aOwn fInt 2 a47 c48 x45.1, aOwn fStr 9 a17 c18 x15] := SH.ext hS450 hE479
  refine WQ.then_normal (hK465 _ _ _ ?_)
  refine WP.cond ((wI64 (IntKind.u8.wrap ((x468.toNat : Int) - 48))) != (imin 9 (wI64 ((wI64 (IntKind.u8.wrap ((x472.toNat : Int) - 48))) + (wI64 (IntKind.u8.wrap ((x476.toNat : Int) - 48))))))) rfl rfl (fun hc483 => ?_) (fun hc483 => ?_)
  rotate_left
  · have hm := iteF hm hc483
    refine WP.skip ?_
    refine WQ.block_normal ?_
    refine WQ.then_normal (hK464 _ _ _ ?_)
    refine WP.region ?_
    refine WL.runk 3 [5, 22, 23, 25, 26] [(5, .slice a17 x15.length c18), (22, .slice a380 x378.length c381), (23, .slice a392 x390.1.length c393), (25, .int .i64 st415), (26, .int .i64 (wI64 (st446 + 1)))] (by kernel_rfl) ?_
    refine WL.nil ?_
    obtain rfl := Option.some.inj hm
    exact WQ.round hK453 ⟨(wI64 (st446 + 1)), rfl, hb480, hL481, hS482, hl451⟩ (Nat.lt_succ_self _) ⟨rfl, rfl, rfl, rfl, rfl, trivial⟩
  have hm := iteT hm hc483
  refine WP.seq (fun K484 hK484 => ?_)
  refine WP.region ?_
  refine WL.runk 1 [4] [(4, .bool false)] (by kernel_rfl) ?_
  refine WL.nil ?_
  refine WQ.then_normal (hK484 _ _ _ ?_)
  refine WP.ret ?_
  refine WQ.block_ret ?_
  refine WQ.then_ret ?_
  refine WQ.then_ret ?_
  refine WQ.block_ret ?_
  refine WQ.block_ret ?_
  refine WQ.then_ret ?_
  refine WQ.then_ret ?_
  refine WQ.block_ret ?_
  refine WQ.then_ret ?_
  obtain rfl := Option.some.inj hm
  obtain rfl := afterN_done hl451
  have hm := hmo452
  obtain rfl := Option.some.inj hm
  obtain rfl := afterN_done hl420
  have hm := hmo421
  obtain rfl := Option.some.inj hm
  exact WQ.ret1 _ rfl rfl ⟨rfl, hb480⟩

end Go.Proofs.Ytoljnpoiclklpaa
