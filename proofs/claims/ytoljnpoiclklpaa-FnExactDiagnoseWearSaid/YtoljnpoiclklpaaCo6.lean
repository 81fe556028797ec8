/- Each call does what its Lean function says. -/
import Derived.Test.YtoljnpoiclklpaaCo5
set_option maxRecDepth 20000
set_option maxHeartbeats 4000000
namespace Go.Proofs.Ytoljnpoiclklpaa
open Go Go.Gv Go.RowKit

theorem c_7 (n : Nat) (aRows_0 : List (List UInt8)) (a0' : Option Addr) (c0' : Nat) (w : World) {r : Bool} (hm : m_laws_FnExactCentreOfWear n aRows_0 = some r) (h0 : Rd fStr.ty w a0' aRows_0) (hle0 : aRows_0.length ≤ c0') :
    CallV Try.prog 7 #[.slice a0' aRows_0.length c0'] w (fun v w' => v = .bool r ∧ Ext w w') := by
  unfold m_laws_FnExactCentreOfWear at hm
  refine CallV.enter Try.func7 rfl (by kernel_rfl) Try.ntmps7 (env := [(0, .slice a0' aRows_0.length c0')]) ⟨rfl, trivial⟩ ?_
  refine WP.seq (fun K1 hK1 => ?_)
  refine WP.region ?_
  refine WL.runk 1 [0] [(0, .slice a0' aRows_0.length c0')] (by kernel_rfl) ?_
  refine WL.nil ?_
  refine WQ.then_normal (hK1 _ _ _ ?_)
  refine WP.seq (fun K2 hK2 => ?_)
  refine WP.region ?_
  refine WL.runk 1 [0, 3] [(0, .slice a0' aRows_0.length c0'), (3, .int .i64 1048576)] (by kernel_rfl) ?_
  refine WL.nil ?_
  refine WQ.then_normal (hK2 _ _ _ ?_)
  refine WP.seq (fun K3 hK3 => ?_)
  refine WP.region ?_
  refine WL.runk 2 [0, 11, 12] [(0, .slice a0' aRows_0.length c0'), (11, .slice a0' aRows_0.length c0'), (12, .int .i64 1048576)] (by kernel_rfl) ?_
  obtain ⟨x4, hx5, hm⟩ := bindE hm
  refine WL.call 15 #[.slice a0' aRows_0.length c0', .int .i64 1048576] rfl rfl (by kernel_rfl) (c_15 n aRows_0 a0' c0' 1048576 w hx5 (Rd.below h0 (Ext.refl w)) hle0) ?_
  rintro _ w6 ⟨rfl, hE7⟩
  refine ⟨_, rfl, ?_⟩
  have hb9 : Ext w w6 := Ext.trans (Ext.refl w) hE7
  have hL10 : w.heap.size ≤ w6.heap.size := Nat.le_trans (Nat.le_refl _) hE7.size
  have hS11 : SH w6 w.heap.size [] := SH.ext (SH.nil _ _) hE7
  refine WL.runk 1 [0, 3] [(0, .slice a0' aRows_0.length c0'), (3, .int .i64 x4)] (by kernel_rfl) ?_
  refine WL.nil ?_
  refine WQ.then_normal (hK3 _ _ _ ?_)
  refine WP.seq (fun K12 hK12 => ?_)
  refine WP.seq (fun K13 hK13 => ?_)
  refine WP.region ?_
  refine WL.runk 2 [0, 15] [(0, .slice a0' aRows_0.length c0'), (15, .bool (decide (x4 < 0)))] (by kernel_rfl) ?_
  refine WL.nil ?_
  refine WQ.then_normal (hK13 _ _ _ ?_)
  refine WP.cond (decide (x4 < 0)) rfl rfl (fun hc14 => ?_) (fun hc14 => ?_)
  · have hm := iteT hm hc14
    refine WP.seq (fun K15 hK15 => ?_)
    refine WP.region ?_
    refine WL.runk 1 [2] [(2, .bool true)] (by kernel_rfl) ?_
    refine WL.nil ?_
    refine WQ.then_normal (hK15 _ _ _ ?_)
    refine WP.ret ?_
    refine WQ.then_ret ?_
    obtain rfl := Option.some.inj hm
    exact WQ.ret1 _ rfl rfl ⟨rfl, hb9⟩
  · have hm := iteF hm hc14
    refine WP.skip ?_
    refine WQ.then_normal (hK12 _ _ _ ?_)
    refine WP.seq (fun K16 hK16 => ?_)
    refine WP.region ?_
    refine WL.runk 1 [0, 17] [(0, .slice a0' aRows_0.length c0'), (17, .slice a0' aRows_0.length c0')] (by kernel_rfl) ?_
    obtain ⟨x17, hx18, hm⟩ := bindE hm
    refine WL.call 17 #[.slice a0' aRows_0.length c0'] rfl rfl (by kernel_rfl) (c_17 n aRows_0 a0' c0' w6 hx18 (Rd.below h0 hb9) hle0) ?_
    rintro _ w22 ⟨a19, c20, rfl, hE23, hR24⟩
    refine ⟨_, rfl, ?_⟩
    have hb25 : Ext w w22 := Ext.trans hb9 hE23
    have hL26 : w.heap.size ≤ w22.heap.size := Nat.le_trans hL10 hE23.size
    have hS27 : SH w22 w.heap.size [aOwn fStr 9 a19 c20 x17] := SH.add hS11 hE23 hL10 hR24
    obtain ⟨x28, hx29, hm⟩ := bindE hm
    refine WL.call 28 #[.slice a19 x17.length c20] rfl rfl (by kernel_rfl) (c_28 n x17 a19 c20 w22 hx29 (SH.rd (SH.front 0 hS27)) (SH.le (SH.front 0 hS27)).1) ?_
    rintro _ w30 ⟨rfl, hE31⟩
    refine ⟨_, rfl, ?_⟩
    have hb33 : Ext w w30 := Ext.trans hb25 hE31
    have hL34 : w.heap.size ≤ w30.heap.size := Nat.le_trans hL26 hE31.size
    have hS35 : SH w30 w.heap.size [aOwn fStr 9 a19 c20 x17] := SH.ext hS27 hE31
    refine WL.runk 4 [0, 20, 21, 22] [(0, .slice a0' aRows_0.length c0'), (20, .agg #[.int .i64 x28.1.Num, .int .i64 x28.1.Den]), (21, .agg #[.int .i64 x28.2.1.Num, .int .i64 x28.2.1.Den]), (22, .int .i64 x28.2.2)] (by kernel_rfl) ?_
    refine WL.box 34 [.int .i64 0, .int .i64 0] 4 (by kernel_rfl) rfl rfl rfl rfl ?_
    intro b36 w37 hE38 hR39
    have hb41 : Ext w w37 := Ext.trans hb33 hE38
    have hL42 : w.heap.size ≤ w37.heap.size := Nat.le_trans hL34 hE38.size
    have hS43 : SH w37 w.heap.size [aBox 34 b36 [.int .i64 0, .int .i64 0], aOwn fStr 9 a19 c20 x17] := SH.add hS35 hE38 hL34 hR39
    refine WL.box 34 [.int .i64 0, .int .i64 0] 5 (by kernel_rfl) rfl rfl rfl rfl ?_
    intro b44 w45 hE46 hR47
    have hb49 : Ext w w45 := Ext.trans hb41 hE46
    have hL50 : w.heap.size ≤ w45.heap.size := Nat.le_trans hL42 hE46.size
    have hS51 : SH w45 w.heap.size [aBox 34 b44 [.int .i64 0, .int .i64 0], aBox 34 b36 [.int .i64 0, .int .i64 0], aOwn fStr 9 a19 c20 x17] := SH.add hS43 hE46 hL42 hR47
    refine WL.boxStore 0 [.int .i64 x28.1.Num, .int .i64 x28.1.Den] [.int .i64 x28.1.Num, .int .i64 x28.1.Den] (SH.front 1 hS51) hL50 rfl rfl rfl rfl rfl rfl rfl (info34).1 (info34).2.1 rfl rfl rfl ?_
    intro w52 hB53 hS54
    have hb55 : Ext w w52 := Below.trans hb49 hB53
    have hL56 : w.heap.size ≤ w52.heap.size := Nat.le_trans hL50 hB53.size
    refine WL.boxStore 0 [.int .i64 x28.2.1.Num, .int .i64 x28.2.1.Den] [.int .i64 x28.2.1.Num, .int .i64 x28.2.1.Den] (SH.front 1 hS54) hL56 rfl rfl rfl rfl rfl rfl rfl (info34).1 (info34).2.1 rfl rfl rfl ?_
    intro w57 hB58 hS59
    have hb60 : Ext w w57 := Below.trans hb55 hB58
    have hL61 : w.heap.size ≤ w57.heap.size := Nat.le_trans hL56 hB58.size
    refine WL.runk 1 [0, 4, 5, 6] [(0, .slice a0' aRows_0.length c0'), (4, .pointer (some ⟨b36, 0, none⟩)), (5, .pointer (some ⟨b44, 0, none⟩)), (6, .int .i64 x28.2.2)] (by kernel_rfl) ?_
    refine WL.nil ?_
    refine WQ.then_normal (hK16 _ _ _ ?_)
    refine WP.seq (fun K62 hK62 => ?_)
    refine WP.region ?_
    refine WL.runk 1 [0, 4, 5, 6, 23] [(0, .slice a0' aRows_0.length c0'), (4, .pointer (some ⟨b36, 0, none⟩)), (5, .pointer (some ⟨b44, 0, none⟩)), (6, .int .i64 x28.2.2), (23, .slice a0' aRows_0.length c0')] (by kernel_rfl) ?_
    obtain ⟨x63, hx64, hm⟩ := bindE hm
    refine WL.call 17 #[.slice a0' aRows_0.length c0'] rfl rfl (by kernel_rfl) (c_17 n aRows_0 a0' c0' w57 hx64 (Rd.below h0 hb60) hle0) ?_
    rintro _ w68 ⟨a65, c66, rfl, hE69, hR70⟩
    refine ⟨_, rfl, ?_⟩
    have hb71 : Ext w w68 := Ext.trans hb60 hE69
    have hL72 : w.heap.size ≤ w68.heap.size := Nat.le_trans hL61 hE69.size
    have hS73 : SH w68 w.heap.size [aOwn fStr 9 a65 c66 x63, aBox 34 b44 [.int .i64 x28.2.1.Num, .int .i64 x28.2.1.Den], aBox 34 b36 [.int .i64 x28.1.Num, .int .i64 x28.1.Den], aOwn fStr 9 a19 c20 x17] := SH.add hS59 hE69 hL61 hR70
    refine WL.runk 1 [0, 4, 5, 6, 7] [(0, .slice a0' aRows_0.length c0'), (4, .pointer (some ⟨b36, 0, none⟩)), (5, .pointer (some ⟨b44, 0, none⟩)), (6, .int .i64 x28.2.2), (7, .slice a65 x63.length c66)] (by kernel_rfl) ?_
    refine WL.nil ?_
    refine WQ.then_normal (hK62 _ _ _ ?_)
    refine WP.seq (fun K74 hK74 => ?_)
    refine WP.region ?_
    refine WL.runk 1 [0, 4, 5, 6, 7, 26] [(0, .slice a0' aRows_0.length c0'), (4, .pointer (some ⟨b36, 0, none⟩)), (5, .pointer (some ⟨b44, 0, none⟩)), (6, .int .i64 x28.2.2), (7, .slice a65 x63.length c66), (26, .slice a65 x63.length c66)] (by kernel_rfl) ?_
    obtain ⟨x75, hx76, hm⟩ := bindE hm
    refine WL.call 29 #[.slice a65 x63.length c66] rfl rfl (by kernel_rfl) (c_29 n x63 a65 c66 w68 hx76 (SH.rd (SH.front 0 hS73)) (SH.le (SH.front 0 hS73)).1) ?_
    rintro _ w77 ⟨rfl, hE78⟩
    refine ⟨_, rfl, ?_⟩
    have hb80 : Ext w w77 := Ext.trans hb71 hE78
    have hL81 : w.heap.size ≤ w77.heap.size := Nat.le_trans hL72 hE78.size
    have hS82 : SH w77 w.heap.size [aOwn fStr 9 a65 c66 x63, aBox 34 b44 [.int .i64 x28.2.1.Num, .int .i64 x28.2.1.Den], aBox 34 b36 [.int .i64 x28.1.Num, .int .i64 x28.1.Den], aOwn fStr 9 a19 c20 x17] := SH.ext hS73 hE78
    refine WL.runk 4 [0, 4, 5, 6, 7, 28, 29, 30] [(0, .slice a0' aRows_0.length c0'), (4, .pointer (some ⟨b36, 0, none⟩)), (5, .pointer (some ⟨b44, 0, none⟩)), (6, .int .i64 x28.2.2), (7, .slice a65 x63.length c66), (28, .agg #[.int .i64 x75.1.Num, .int .i64 x75.1.Den]), (29, .agg #[.int .i64 x75.2.1.Num, .int .i64 x75.2.1.Den]), (30, .int .i64 x75.2.2)] (by kernel_rfl) ?_
    refine WL.box 34 [.int .i64 0, .int .i64 0] 8 (by kernel_rfl) rfl rfl rfl rfl ?_
    intro b83 w84 hE85 hR86
    have hb88 : Ext w w84 := Ext.trans hb80 hE85
    have hL89 : w.heap.size ≤ w84.heap.size := Nat.le_trans hL81 hE85.size
    have hS90 : SH w84 w.heap.size [aBox 34 b83 [.int .i64 0, .int .i64 0], aOwn fStr 9 a65 c66 x63, aBox 34 b44 [.int .i64 x28.2.1.Num, .int .i64 x28.2.1.Den], aBox 34 b36 [.int .i64 x28.1.Num, .int .i64 x28.1.Den], aOwn fStr 9 a19 c20 x17] := SH.add hS82 hE85 hL81 hR86
    refine WL.box 34 [.int .i64 0, .int .i64 0] 9 (by kernel_rfl) rfl rfl rfl rfl ?_
    intro b91 w92 hE93 hR94
    have hb96 : Ext w w92 := Ext.trans hb88 hE93
    have hL97 : w.heap.size ≤ w92.heap.size := Nat.le_trans hL89 hE93.size
    have hS98 : SH w92 w.heap.size [aBox 34 b91 [.int .i64 0, .int .i64 0], aBox 34 b83 [.int .i64 0, .int .i64 0], aOwn fStr 9 a65 c66 x63, aBox 34 b44 [.int .i64 x28.2.1.Num, .int .i64 x28.2.1.Den], aBox 34 b36 [.int .i64 x28.1.Num, .int .i64 x28.1.Den], aOwn fStr 9 a19 c20 x17] := SH.add hS90 hE93 hL89 hR94
    refine WL.boxStore 0 [.int .i64 x75.1.Num, .int .i64 x75.1.Den] [.int .i64 x75.1.Num, .int .i64 x75.1.Den] (SH.front 1 hS98) hL97 rfl rfl rfl rfl rfl rfl rfl (info34).1 (info34).2.1 rfl rfl rfl ?_
    intro w99 hB100 hS101
    have hb102 : Ext w w99 := Below.trans hb96 hB100
    have hL103 : w.heap.size ≤ w99.heap.size := Nat.le_trans hL97 hB100.size
    refine WL.boxStore 0 [.int .i64 x75.2.1.Num, .int .i64 x75.2.1.Den] [.int .i64 x75.2.1.Num, .int .i64 x75.2.1.Den] (SH.front 1 hS101) hL103 rfl rfl rfl rfl rfl rfl rfl (info34).1 (info34).2.1 rfl rfl rfl ?_
    intro w104 hB105 hS106
    have hb107 : Ext w w104 := Below.trans hb102 hB105
    have hL108 : w.heap.size ≤ w104.heap.size := Nat.le_trans hL103 hB105.size
    refine WL.runk 1 [0, 4, 5, 6, 7, 8, 9, 10] [(0, .slice a0' aRows_0.length c0'), (4, .pointer (some ⟨b36, 0, none⟩)), (5, .pointer (some ⟨b44, 0, none⟩)), (6, .int .i64 x28.2.2), (7, .slice a65 x63.length c66), (8, .pointer (some ⟨b83, 0, none⟩)), (9, .pointer (some ⟨b91, 0, none⟩)), (10, .int .i64 x75.2.2)] (by kernel_rfl) ?_
    refine WL.nil ?_
    refine WQ.then_normal (hK74 _ _ _ ?_)
    refine WP.seq (fun K109 hK109 => ?_)
    refine WP.seq (fun K110 hK110 => ?_)
    obtain ⟨x129, hx130, hm⟩ := bindE hm
    refine WP.cut (fun env' w' => env' = [(0, .slice a0' aRows_0.length c0'), (7, .slice a65 x63.length c66), (45, .bool x129)] ∧ Ext w w' ∧ w.heap.size ≤ w'.heap.size ∧ SH w' w.heap.size [aBox 34 b91 [.int .i64 x75.2.1.Num, .int .i64 x75.2.1.Den], aBox 34 b83 [.int .i64 x75.1.Num, .int .i64 x75.1.Den], aOwn fStr 9 a65 c66 x63, aBox 34 b44 [.int .i64 x28.2.1.Num, .int .i64 x28.2.1.Den], aBox 34 b36 [.int .i64 x28.1.Num, .int .i64 x28.1.Den], aOwn fStr 9 a19 c20 x17]) ?_ ?_
    · have hm := hx130; clear hx130
      refine WP.region ?_
      refine WL.st (.agg #[.int .i64 x75.1.Num, .int .i64 x75.1.Den]) (ST.loadAgg (vs := [.int .i64 x75.1.Num, .int .i64 x75.1.Den]) (fun j v hv => SH.boxPart (us := [.int .i64 x75.1.Num, .int .i64 x75.1.Den]) (SH.front 1 hS106) 0 rfl j v hv) rfl rfl rfl Try.underlying34 rfl (info34).1 (info34).2.1) rfl rfl rfl ?_
      refine WL.st (.agg #[.int .i64 x28.1.Num, .int .i64 x28.1.Den]) (ST.loadAgg (vs := [.int .i64 x28.1.Num, .int .i64 x28.1.Den]) (fun j v hv => SH.boxPart (us := [.int .i64 x28.1.Num, .int .i64 x28.1.Den]) (SH.front 4 hS106) 0 rfl j v hv) rfl rfl rfl Try.underlying34 rfl (info34).1 (info34).2.1) rfl rfl rfl ?_
      obtain ⟨x131, hx132, hm⟩ := bindE hm
      refine WL.call 30 #[.agg #[.int .i64 x75.1.Num, .int .i64 x75.1.Den], .agg #[.int .i64 x28.1.Num, .int .i64 x28.1.Den]] rfl rfl (by kernel_rfl) (c_30 n x75.1 x28.1 w104 hx132 ) ?_
      rintro _ w133 ⟨rfl, hE134⟩
      refine ⟨_, rfl, ?_⟩
      have hb136 : Ext w w133 := Ext.trans hb107 hE134
      have hL137 : w.heap.size ≤ w133.heap.size := Nat.le_trans hL108 hE134.size
      have hS138 : SH w133 w.heap.size [aBox 34 b91 [.int .i64 x75.2.1.Num, .int .i64 x75.2.1.Den], aBox 34 b83 [.int .i64 x75.1.Num, .int .i64 x75.1.Den], aOwn fStr 9 a65 c66 x63, aBox 34 b44 [.int .i64 x28.2.1.Num, .int .i64 x28.2.1.Den], aBox 34 b36 [.int .i64 x28.1.Num, .int .i64 x28.1.Den], aOwn fStr 9 a19 c20 x17] := SH.ext hS106 hE134
      refine WL.runk 2 [0, 5, 6, 7, 9, 10, 35] [(0, .slice a0' aRows_0.length c0'), (5, .pointer (some ⟨b44, 0, none⟩)), (6, .int .i64 x28.2.2), (7, .slice a65 x63.length c66), (9, .pointer (some ⟨b91, 0, none⟩)), (10, .int .i64 x75.2.2), (35, .bool (!x131))] (by kernel_rfl) ?_
      refine WL.case (!x131) [35] ⟨rfl, trivial⟩ (fun hc139 => ?_) (fun hc139 => ?_)
      · have hm := iteT hm hc139
        refine WL.runk 10 [0, 7, 45] [(0, .slice a0' aRows_0.length c0'), (7, .slice a65 x63.length c66), (45, .bool true)] (by kernel_rfl) ?_
        refine WL.nil ?_
        obtain rfl := Option.some.inj hm
        exact WQ.post' ⟨rfl, hb136, hL137, hS138⟩ ⟨rfl, rfl, rfl, trivial⟩
      · have hm := iteF hm hc139
        refine WL.st (.agg #[.int .i64 x75.2.1.Num, .int .i64 x75.2.1.Den]) (ST.loadAgg (vs := [.int .i64 x75.2.1.Num, .int .i64 x75.2.1.Den]) (fun j v hv => SH.boxPart (us := [.int .i64 x75.2.1.Num, .int .i64 x75.2.1.Den]) (SH.front 0 hS138) 0 rfl j v hv) rfl rfl rfl Try.underlying34 rfl (info34).1 (info34).2.1) rfl rfl rfl ?_
        refine WL.st (.agg #[.int .i64 x28.2.1.Num, .int .i64 x28.2.1.Den]) (ST.loadAgg (vs := [.int .i64 x28.2.1.Num, .int .i64 x28.2.1.Den]) (fun j v hv => SH.boxPart (us := [.int .i64 x28.2.1.Num, .int .i64 x28.2.1.Den]) (SH.front 3 hS138) 0 rfl j v hv) rfl rfl rfl Try.underlying34 rfl (info34).1 (info34).2.1) rfl rfl rfl ?_
        obtain ⟨x140, hx141, hm⟩ := bindE hm
        refine WL.call 30 #[.agg #[.int .i64 x75.2.1.Num, .int .i64 x75.2.1.Den], .agg #[.int .i64 x28.2.1.Num, .int .i64 x28.2.1.Den]] rfl rfl (by kernel_rfl) (c_30 n x75.2.1 x28.2.1 w133 hx141 ) ?_
        rintro _ w142 ⟨rfl, hE143⟩
        refine ⟨_, rfl, ?_⟩
        have hb145 : Ext w w142 := Ext.trans hb136 hE143
        have hL146 : w.heap.size ≤ w142.heap.size := Nat.le_trans hL137 hE143.size
        have hS147 : SH w142 w.heap.size [aBox 34 b91 [.int .i64 x75.2.1.Num, .int .i64 x75.2.1.Den], aBox 34 b83 [.int .i64 x75.1.Num, .int .i64 x75.1.Den], aOwn fStr 9 a65 c66 x63, aBox 34 b44 [.int .i64 x28.2.1.Num, .int .i64 x28.2.1.Den], aBox 34 b36 [.int .i64 x28.1.Num, .int .i64 x28.1.Den], aOwn fStr 9 a19 c20 x17] := SH.ext hS138 hE143
        refine WL.runk 3 [0, 6, 7, 10, 41] [(0, .slice a0' aRows_0.length c0'), (6, .int .i64 x28.2.2), (7, .slice a65 x63.length c66), (10, .int .i64 x75.2.2), (41, .bool (!x140))] (by kernel_rfl) ?_
        refine WL.case (!x140) [41] ⟨rfl, trivial⟩ (fun hc148 => ?_) (fun hc148 => ?_)
        · have hm := iteT hm hc148
          refine WL.runk 4 [0, 7, 45] [(0, .slice a0' aRows_0.length c0'), (7, .slice a65 x63.length c66), (45, .bool true)] (by kernel_rfl) ?_
          refine WL.nil ?_
          obtain rfl := Option.some.inj hm
          exact WQ.post' ⟨rfl, hb145, hL146, hS147⟩ ⟨rfl, rfl, rfl, trivial⟩
        · have hm := iteF hm hc148
          refine WL.runk 4 [0, 7, 45] [(0, .slice a0' aRows_0.length c0'), (7, .slice a65 x63.length c66), (45, .bool (x75.2.2 != x28.2.2))] (by kernel_rfl) ?_
          refine WL.nil ?_
          obtain rfl := Option.some.inj hm
          exact WQ.post' ⟨rfl, hb145, hL146, hS147⟩ ⟨rfl, rfl, rfl, trivial⟩
    · clear hx130
      rintro _ w149 ⟨rfl, hb150, hL151, hS152⟩
      refine WQ.then_normal (hK110 _ _ _ ?_)
      refine WP.cond x129 rfl rfl (fun hc153 => ?_) (fun hc153 => ?_)
      · have hm := iteT hm hc153
        refine WP.seq (fun K154 hK154 => ?_)
        refine WP.region ?_
        refine WL.runk 1 [2] [(2, .bool false)] (by kernel_rfl) ?_
        refine WL.nil ?_
        refine WQ.then_normal (hK154 _ _ _ ?_)
        refine WP.ret ?_
        refine WQ.then_ret ?_
        obtain rfl := Option.some.inj hm
        exact WQ.ret1 _ rfl rfl ⟨rfl, hb150⟩
      · have hm := iteF hm hc153
        refine WP.skip ?_
        refine WQ.then_normal (hK109 _ _ _ ?_)
        refine WP.seq (fun K155 hK155 => ?_)
        refine WP.seq (fun K156 hK156 => ?_)
        refine WP.region ?_
        refine WL.runk 2 [46, 47] [(46, .slice a65 x63.length c66), (47, .slice a0' aRows_0.length c0')] (by kernel_rfl) ?_
        obtain ⟨x157, hx158, hm⟩ := bindE hm
        refine WL.call 17 #[.slice a0' aRows_0.length c0'] rfl rfl (by kernel_rfl) (c_17 n aRows_0 a0' c0' w149 hx158 (Rd.below h0 hb150) hle0) ?_
        rintro _ w162 ⟨a159, c160, rfl, hE163, hR164⟩
        refine ⟨_, rfl, ?_⟩
        have hb165 : Ext w w162 := Ext.trans hb150 hE163
        have hL166 : w.heap.size ≤ w162.heap.size := Nat.le_trans hL151 hE163.size
        have hS167 : SH w162 w.heap.size [aOwn fStr 9 a159 c160 x157, aBox 34 b91 [.int .i64 x75.2.1.Num, .int .i64 x75.2.1.Den], aBox 34 b83 [.int .i64 x75.1.Num, .int .i64 x75.1.Den], aOwn fStr 9 a65 c66 x63, aBox 34 b44 [.int .i64 x28.2.1.Num, .int .i64 x28.2.1.Den], aBox 34 b36 [.int .i64 x28.1.Num, .int .i64 x28.1.Den], aOwn fStr 9 a19 c20 x17] := SH.add hS152 hE163 hL151 hR164
        obtain ⟨x168, hx169, hm⟩ := bindE hm
        refine WL.call 19 #[.slice a65 x63.length c66, .slice a159 x157.length c160] rfl rfl (by kernel_rfl) (c_19 n x63 a65 c66 x157 a159 c160 w162 hx169 (SH.rd (SH.front 3 hS167)) (SH.le (SH.front 3 hS167)).1 (SH.rd (SH.front 0 hS167)) (SH.le (SH.front 0 hS167)).1) ?_
        rintro _ w170 ⟨rfl, hE171⟩
        refine ⟨_, rfl, ?_⟩
        have hb173 : Ext w w170 := Ext.trans hb165 hE171
        have hL174 : w.heap.size ≤ w170.heap.size := Nat.le_trans hL166 hE171.size
        have hS175 : SH w170 w.heap.size [aOwn fStr 9 a159 c160 x157, aBox 34 b91 [.int .i64 x75.2.1.Num, .int .i64 x75.2.1.Den], aBox 34 b83 [.int .i64 x75.1.Num, .int .i64 x75.1.Den], aOwn fStr 9 a65 c66 x63, aBox 34 b44 [.int .i64 x28.2.1.Num, .int .i64 x28.2.1.Den], aBox 34 b36 [.int .i64 x28.1.Num, .int .i64 x28.1.Den], aOwn fStr 9 a19 c20 x17] := SH.ext hS167 hE171
        refine WL.runk 1 [50] [(50, .bool (!x168))] (by kernel_rfl) ?_
        refine WL.nil ?_
        refine WQ.then_normal (hK156 _ _ _ ?_)
        refine WP.cond (!x168) rfl rfl (fun hc176 => ?_) (fun hc176 => ?_)
        · have hm := iteT hm hc176
          refine WP.seq (fun K177 hK177 => ?_)
          refine WP.region ?_
          refine WL.runk 1 [2] [(2, .bool false)] (by kernel_rfl) ?_
          refine WL.nil ?_
          refine WQ.then_normal (hK177 _ _ _ ?_)
          refine WP.ret ?_
          refine WQ.then_ret ?_
          obtain rfl := Option.some.inj hm
          exact WQ.ret1 _ rfl rfl ⟨rfl, hb173⟩
        · have hm := iteF hm hc176
          refine WP.skip ?_
          refine WQ.then_normal (hK155 _ _ _ ?_)
          refine WP.seq (fun K178 hK178 => ?_)
          refine WP.region ?_
          refine WL.runk 1 [2] [(2, .bool true)] (by kernel_rfl) ?_
          refine WL.nil ?_
          refine WQ.then_normal (hK178 _ _ _ ?_)
          refine WP.ret ?_
          obtain rfl := Option.some.inj hm
          exact WQ.ret1 _ rfl rfl ⟨rfl, hb173⟩

theorem c_80 (n : Nat) (at_0 : Int) (n_1 : Int) (w : World) {r : Int} (hm : m_spec_l20Half n at_0 n_1 = some r)  :
    CallV Try.prog 80 #[.int .i64 at_0, .int .i64 n_1] w (fun v w' => v = .int .i64 r ∧ Ext w w') := by
  unfold m_spec_l20Half at hm
  refine CallV.enter Try.func80 rfl (by kernel_rfl) Try.ntmps80 (env := [(0, .int .i64 at_0), (1, .int .i64 n_1)]) ⟨rfl, rfl, trivial⟩ ?_
  refine WP.seq (fun K1 hK1 => ?_)
  refine WP.region ?_
  refine WL.runk 1 [0, 1] [(0, .int .i64 at_0), (1, .int .i64 n_1)] (by kernel_rfl) ?_
  refine WL.nil ?_
  refine WQ.then_normal (hK1 _ _ _ ?_)
  refine WP.seq (fun K2 hK2 => ?_)
  refine WP.seq (fun K3 hK3 => ?_)
  refine WP.region ?_
  refine WL.runk 4 [0, 1, 8] [(0, .int .i64 at_0), (1, .int .i64 n_1), (8, .bool (decide (at_0 < (wI64 (Int.tdiv n_1 2)))))] (by kernel_rfl) ?_
  refine WL.nil ?_
  refine WQ.then_normal (hK3 _ _ _ ?_)
  refine WP.cond (decide (at_0 < (wI64 (Int.tdiv n_1 2)))) rfl rfl (fun hc4 => ?_) (fun hc4 => ?_)
  · have hm := iteT hm hc4
    refine WP.seq (fun K5 hK5 => ?_)
    refine WP.region ?_
    refine WL.runk 1 [4] [(4, .int .i64 0)] (by kernel_rfl) ?_
    refine WL.nil ?_
    refine WQ.then_normal (hK5 _ _ _ ?_)
    refine WP.ret ?_
    refine WQ.then_ret ?_
    obtain rfl := Option.some.inj hm
    exact WQ.ret1 _ rfl rfl ⟨rfl, (Ext.refl w)⟩
  · have hm := iteF hm hc4
    refine WP.skip ?_
    refine WQ.then_normal (hK2 _ _ _ ?_)
    refine WP.seq (fun K6 hK6 => ?_)
    refine WP.seq (fun K7 hK7 => ?_)
    refine WP.region ?_
    refine WL.runk 6 [14] [(14, .bool (decide (at_0 ≥ (wI64 (n_1 - (wI64 (Int.tdiv n_1 2)))))))] (by kernel_rfl) ?_
    refine WL.nil ?_
    refine WQ.then_normal (hK7 _ _ _ ?_)
    refine WP.cond (decide (at_0 ≥ (wI64 (n_1 - (wI64 (Int.tdiv n_1 2)))))) rfl rfl (fun hc8 => ?_) (fun hc8 => ?_)
    · have hm := iteT hm hc8
      refine WP.seq (fun K9 hK9 => ?_)
      refine WP.region ?_
      refine WL.runk 1 [4] [(4, .int .i64 1)] (by kernel_rfl) ?_
      refine WL.nil ?_
      refine WQ.then_normal (hK9 _ _ _ ?_)
      refine WP.ret ?_
      refine WQ.then_ret ?_
      obtain rfl := Option.some.inj hm
      exact WQ.ret1 _ rfl rfl ⟨rfl, (Ext.refl w)⟩
    · have hm := iteF hm hc8
      refine WP.skip ?_
      refine WQ.then_normal (hK6 _ _ _ ?_)
      refine WP.seq (fun K10 hK10 => ?_)
      refine WP.region ?_
      refine WL.runk 1 [4] [(4, .int .i64 (-1))] (by kernel_rfl) ?_
      refine WL.nil ?_
      refine WQ.then_normal (hK10 _ _ _ ?_)
      refine WP.ret ?_
      obtain rfl := Option.some.inj hm
      exact WQ.ret1 _ rfl rfl ⟨rfl, (Ext.refl w)⟩

theorem c_63 (n : Nat) (rows_0 : List (List UInt8)) (a0' : Option Addr) (c0' : Nat) (w : World) {r : List Int} (hm : m_spec_l20Quarters n rows_0 = some r) (h0 : Rd fStr.ty w a0' rows_0) (hle0 : rows_0.length ≤ c0') :
    CallV Try.prog 63 #[.slice a0' rows_0.length c0'] w (fun v w' => ∃ (ra0 : Option Addr) (rc0 : Nat), v = .slice ra0 r.length rc0 ∧ Ext w w' ∧ SH w' w.heap.size [aOwn fInt 2 ra0 rc0 r]) := by
  unfold m_spec_l20Quarters at hm
  refine CallV.enter Try.func63 rfl (by kernel_rfl) Try.ntmps63 (env := [(0, .slice a0' rows_0.length c0')]) ⟨rfl, trivial⟩ ?_
  refine WP.seq (fun K1 hK1 => ?_)
  refine WP.region ?_
  refine WL.runk 1 [0] [(0, .slice a0' rows_0.length c0')] (by kernel_rfl) ?_
  refine WL.nil ?_
  refine WQ.then_normal (hK1 _ _ _ ?_)
  refine WP.seq (fun K2 hK2 => ?_)
  refine WP.region ?_
  obtain ⟨x3, hx4, hm⟩ := bindE hm
  refine WL.make fInt 8 hx4 rfl rfl rfl Try.underlying40 (info2).1 (info2).2.2.1 (info2).2.1 (info2).2.2.2 rfl rfl rfl rfl rfl ?_
  intro a5 c6 w7 hE8 hR9
  have hb11 : Ext w w7 := Ext.trans (Ext.refl w) hE8
  have hL12 : w.heap.size ≤ w7.heap.size := Nat.le_trans (Nat.le_refl _) hE8.size
  have hS13 : SH w7 w.heap.size [aOwn fInt 2 a5 c6 x3] := SH.add (SH.nil _ _) hE8 (Nat.le_refl _) hR9
  refine WL.runk 1 [0, 3] [(0, .slice a0' rows_0.length c0'), (3, .slice a5 x3.length c6)] (by kernel_rfl) ?_
  refine WL.nil ?_
  refine WQ.then_normal (hK2 _ _ _ ?_)
  refine WP.seq (fun K14 hK14 => ?_)
  refine WP.seq (fun K15 hK15 => ?_)
  refine WP.region ?_
  refine WL.runk 1 [0, 3, 4] [(0, .slice a0' rows_0.length c0'), (3, .slice a5 x3.length c6), (4, .int .i64 0)] (by kernel_rfl) ?_
  refine WL.nil ?_
  refine WQ.then_normal (hK15 _ _ _ ?_)
  refine WP.block ?_
  obtain ⟨t345, ht346, hm⟩ := bindE hm
  have hmo340 := hm; clear hm
  refine WP.sub [(0, .slice a0' rows_0.length c0'), (3, .slice a5 x3.length c6), (4, .int .i64 0)] ⟨rfl, rfl, rfl, trivial⟩ ?_
  refine WP.loop (fun n' env' w' => ∃ (st334 : Int × List Int) , env' = [(0, .slice a0' rows_0.length c0'), (3, .slice a5 st334.2.length c6), (4, .int .i64 st334.1)] ∧ Ext w w' ∧ w.heap.size ≤ w'.heap.size ∧ SH w' w.heap.size [aOwn fInt 2 a5 c6 st334.2] ∧ loopN (m_spec_l20Quarters_l1 n rows_0) n' st334 = some t345) n ⟨(0, x3), rfl, hb11, hL12, hS13, ht346⟩ ?_
  rintro n342 _ w335 ⟨st334, rfl, hb336, hL337, hS338, hl339⟩ K341 hK341
  obtain ⟨n343, s344, rfl, hm, hl339⟩ := loopN_some hl339
  unfold m_spec_l20Quarters_l1 at hm
  refine WP.seq (fun K347 hK347 => ?_)
  refine WP.seq (fun K348 hK348 => ?_)
  refine WP.region ?_
  refine WL.runk 4 [0, 3, 4, 12] [(0, .slice a0' rows_0.length c0'), (3, .slice a5 st334.2.length c6), (4, .int .i64 st334.1), (12, .bool (decide (st334.1 < (rows_0.length : Int))))] (by kernel_rfl) ?_
  refine WL.nil ?_
  refine WQ.then_normal (hK348 _ _ _ ?_)
  refine WP.cond (decide (st334.1 < (rows_0.length : Int))) rfl rfl (fun hc349 => ?_) (fun hc349 => ?_)
  · have hm := iteT hm hc349
    refine WP.skip ?_
    refine WQ.then_normal (hK347 _ _ _ ?_)
    refine WP.seq (fun K350 hK350 => ?_)
    refine WP.block ?_
    refine WP.seq (fun K351 hK351 => ?_)
    refine WP.region ?_
    refine WL.runk 1 [0, 3, 4, 5] [(0, .slice a0' rows_0.length c0'), (3, .slice a5 st334.2.length c6), (4, .int .i64 st334.1), (5, .int .i64 0)] (by kernel_rfl) ?_
    refine WL.nil ?_
    refine WQ.then_normal (hK351 _ _ _ ?_)
    refine WP.block ?_
    obtain ⟨t512, ht513, hm⟩ := bindE hm
    have hmo507 := hm; clear hm
    refine WP.sub [(0, .slice a0' rows_0.length c0'), (3, .slice a5 st334.2.length c6), (4, .int .i64 st334.1), (5, .int .i64 0)] ⟨rfl, rfl, rfl, rfl, trivial⟩ ?_
    refine WP.loop (fun n' env' w' => ∃ (st501 : Int × List Int) , env' = [(0, .slice a0' rows_0.length c0'), (3, .slice a5 st501.2.length c6), (4, .int .i64 st334.1), (5, .int .i64 st501.1)] ∧ Ext w w' ∧ w.heap.size ≤ w'.heap.size ∧ SH w' w.heap.size [aOwn fInt 2 a5 c6 st501.2] ∧ loopN (m_spec_l20Quarters_l3 n rows_0 st334) n' st501 = some t512) n ⟨(0, st334.2), rfl, hb336, hL337, hS338, ht513⟩ ?_
    rintro n509 _ w502 ⟨st501, rfl, hb503, hL504, hS505, hl506⟩ K508 hK508
    obtain ⟨n510, s511, rfl, hm, hl506⟩ := loopN_some hl506
    unfold m_spec_l20Quarters_l3 at hm
    refine WP.seq (fun K514 hK514 => ?_)
    refine WP.seq (fun K515 hK515 => ?_)
    refine WP.region ?_
    refine WL.runk 3 [0, 3, 4, 5, 15, 16, 17] [(0, .slice a0' rows_0.length c0'), (3, .slice a5 st501.2.length c6), (4, .int .i64 st334.1), (5, .int .i64 st501.1), (15, .int .i64 st501.1), (16, .slice a0' rows_0.length c0'), (17, .int .i64 st334.1)] (by kernel_rfl) ?_
    obtain ⟨x516, hx517, hm⟩ := bindE hm
    refine WL.st (.pointer (some (at_ a0' (Int.toNat st334.1 * 1)))) (ST.index (T := fStr.ty) (xs := rows_0) (Rd.below h0 hb503) hx517 rfl rfl rfl Try.underlying22 (info9).1 (info9).2.1) rfl rfl rfl ?_
    refine WL.st (.string (bs x516)) (ST.load (cell_ext (Rd.flat (F := fStr) (Rd.below h0 hb503) hx517 0 rfl)) rfl rfl Try.underlying9 rfl) rfl rfl rfl ?_
    refine WL.runk 2 [0, 3, 4, 5, 21] [(0, .slice a0' rows_0.length c0'), (3, .slice a5 st501.2.length c6), (4, .int .i64 st334.1), (5, .int .i64 st501.1), (21, .bool (decide (st501.1 < (x516.length : Int))))] (by kernel_rfl) ?_
    refine WL.nil ?_
    refine WQ.then_normal (hK515 _ _ _ ?_)
    refine WP.cond (decide (st501.1 < (x516.length : Int))) rfl rfl (fun hc518 => ?_) (fun hc518 => ?_)
    · have hm := iteT hm hc518
      refine WP.skip ?_
      refine WQ.then_normal (hK514 _ _ _ ?_)
      refine WP.seq (fun K519 hK519 => ?_)
      refine WP.block ?_
      refine WP.seq (fun K520 hK520 => ?_)
      refine WP.region ?_
      refine WL.runk 3 [0, 3, 4, 5, 24, 26] [(0, .slice a0' rows_0.length c0'), (3, .slice a5 st501.2.length c6), (4, .int .i64 st334.1), (5, .int .i64 st501.1), (24, .int .i64 st334.1), (26, .int .i64 (rows_0.length : Int))] (by kernel_rfl) ?_
      obtain ⟨x521, hx522, hm⟩ := bindE hm
      refine WL.call 80 #[.int .i64 st334.1, .int .i64 (rows_0.length : Int)] rfl rfl (by kernel_rfl) (c_80 n st334.1 (rows_0.length : Int) w502 hx522 ) ?_
      rintro _ w523 ⟨rfl, hE524⟩
      refine ⟨_, rfl, ?_⟩
      have hb526 : Ext w w523 := Ext.trans hb503 hE524
      have hL527 : w.heap.size ≤ w523.heap.size := Nat.le_trans hL504 hE524.size
      have hS528 : SH w523 w.heap.size [aOwn fInt 2 a5 c6 st501.2] := SH.ext hS505 hE524
      refine WL.runk 1 [0, 3, 4, 5, 6] [(0, .slice a0' rows_0.length c0'), (3, .slice a5 st501.2.length c6), (4, .int .i64 st334.1), (5, .int .i64 st501.1), (6, .int .i64 x521)] (by kernel_rfl) ?_
      refine WL.nil ?_
      refine WQ.then_normal (hK520 _ _ _ ?_)
      refine WP.seq (fun K529 hK529 => ?_)
      refine WP.region ?_
      refine WL.runk 3 [0, 3, 4, 5, 6, 28, 29, 30] [(0, .slice a0' rows_0.length c0'), (3, .slice a5 st501.2.length c6), (4, .int .i64 st334.1), (5, .int .i64 st501.1), (6, .int .i64 x521), (28, .int .i64 st501.1), (29, .slice a0' rows_0.length c0'), (30, .int .i64 st334.1)] (by kernel_rfl) ?_
      obtain ⟨x530, hx531, hm⟩ := bindE hm
      refine WL.st (.pointer (some (at_ a0' (Int.toNat st334.1 * 1)))) (ST.index (T := fStr.ty) (xs := rows_0) (Rd.below h0 hb526) hx531 rfl rfl rfl Try.underlying22 (info9).1 (info9).2.1) rfl rfl rfl ?_
      refine WL.st (.string (bs x530)) (ST.load (cell_ext (Rd.flat (F := fStr) (Rd.below h0 hb526) hx531 0 rfl)) rfl rfl Try.underlying9 rfl) rfl rfl rfl ?_
      refine WL.runk 1 [0, 3, 4, 5, 6, 28, 33] [(0, .slice a0' rows_0.length c0'), (3, .slice a5 st501.2.length c6), (4, .int .i64 st334.1), (5, .int .i64 st501.1), (6, .int .i64 x521), (28, .int .i64 st501.1), (33, .int .i64 (x530.length : Int))] (by kernel_rfl) ?_
      obtain ⟨x532, hx533, hm⟩ := bindE hm
      refine WL.call 80 #[.int .i64 st501.1, .int .i64 (x530.length : Int)] rfl rfl (by kernel_rfl) (c_80 n st501.1 (x530.length : Int) w523 hx533 ) ?_
      rintro _ w534 ⟨rfl, hE535⟩
      refine ⟨_, rfl, ?_⟩
      have hb537 : Ext w w534 := Ext.trans hb526 hE535
      have hL538 : w.heap.size ≤ w534.heap.size := Nat.le_trans hL527 hE535.size
      have hS539 : SH w534 w.heap.size [aOwn fInt 2 a5 c6 st501.2] := SH.ext hS528 hE535
      refine WL.runk 1 [0, 3, 4, 5, 6, 7] [(0, .slice a0' rows_0.length c0'), (3, .slice a5 st501.2.length c6), (4, .int .i64 st334.1), (5, .int .i64 st501.1), (6, .int .i64 x521), (7, .int .i64 x532)] (by kernel_rfl) ?_
      refine WL.nil ?_
      refine WQ.then_normal (hK529 _ _ _ ?_)
      refine WP.seq (fun K540 hK540 => ?_)
      obtain ⟨x542, hx543, hm⟩ := bindE hm
      refine WP.cut (fun env' w' => env' = [(0, .slice a0' rows_0.length c0'), (3, .slice a5 st501.2.length c6), (4, .int .i64 st334.1), (5, .int .i64 st501.1), (6, .int .i64 x521), (7, .int .i64 x532), (40, .bool x542)] ∧ Ext w w' ∧ w.heap.size ≤ w'.heap.size ∧ SH w' w.heap.size [aOwn fInt 2 a5 c6 st501.2]) ?_ ?_
      · have hm := hx543; clear hx543
        refine WP.region ?_
        refine WL.runk 3 [0, 3, 4, 5, 6, 7, 37] [(0, .slice a0' rows_0.length c0'), (3, .slice a5 st501.2.length c6), (4, .int .i64 st334.1), (5, .int .i64 st501.1), (6, .int .i64 x521), (7, .int .i64 x532), (37, .bool (decide (x521 ≥ 0)))] (by kernel_rfl) ?_
        refine WL.case (decide (x521 ≥ 0)) [37] ⟨rfl, trivial⟩ (fun hc544 => ?_) (fun hc544 => ?_)
        · have hm := iteT hm hc544
          refine WL.runk 3 [0, 3, 4, 5, 6, 7, 40] [(0, .slice a0' rows_0.length c0'), (3, .slice a5 st501.2.length c6), (4, .int .i64 st334.1), (5, .int .i64 st501.1), (6, .int .i64 x521), (7, .int .i64 x532), (40, .bool (decide (x532 ≥ 0)))] (by kernel_rfl) ?_
          refine WL.nil ?_
          obtain rfl := Option.some.inj hm
          exact WQ.post' ⟨rfl, hb537, hL538, hS539⟩ ⟨rfl, rfl, rfl, rfl, rfl, rfl, rfl, trivial⟩
        · have hm := iteF hm hc544
          refine WL.runk 3 [0, 3, 4, 5, 6, 7, 40] [(0, .slice a0' rows_0.length c0'), (3, .slice a5 st501.2.length c6), (4, .int .i64 st334.1), (5, .int .i64 st501.1), (6, .int .i64 x521), (7, .int .i64 x532), (40, .bool false)] (by kernel_rfl) ?_
          refine WL.nil ?_
          obtain rfl := Option.some.inj hm
          exact WQ.post' ⟨rfl, hb537, hL538, hS539⟩ ⟨rfl, rfl, rfl, rfl, rfl, rfl, rfl, trivial⟩
      · clear hx543
        rintro _ w545 ⟨rfl, hb546, hL547, hS548⟩
        refine WQ.then_normal (hK540 _ _ _ ?_)
        obtain ⟨x621, hx622, hm⟩ := bindE hm
        refine WP.cut (fun env' w' => env' = [(0, .slice a0' rows_0.length c0'), (3, .slice a5 x621.length c6), (4, .int .i64 st334.1), (5, .int .i64 st501.1)] ∧ Ext w w' ∧ w.heap.size ≤ w'.heap.size ∧ SH w' w.heap.size [aOwn fInt 2 a5 c6 x621]) ?_ ?_
        · have hm := hx622; clear hx622
          refine WP.cond x542 rfl rfl (fun hc549 => ?_) (fun hc549 => ?_)
          · have hm := iteT hm hc549
            refine WP.open (n := 14) (by kernel_rfl) rfl (fun w623 hE624 => ?_)
            have hb625 : Ext w w623 := Ext.trans hb546 hE624
            have hL626 : w.heap.size ≤ w623.heap.size := Nat.le_trans hL547 hE624.size
            have hS627 : SH w623 w.heap.size [aOwn fInt 2 a5 c6 st501.2] := SH.ext hS548 hE624
            refine WA.quiet (f' := 1) (D' := [0, 1, 2, 3, 4, 5, 6, 7, 8, 9, 10, 11, 12]) [0, 1, 2, 3, 4, 5, 6, 7, 8, 9, 10, 11, 12] rfl rfl (by kernel_rfl) ?_
            refine QL.step1 rfl (env' := [(0, .slice a0' rows_0.length c0'), (3, .slice a5 st501.2.length c6), (4, .int .i64 st334.1), (5, .int .i64 st501.1), (6, .int .i64 x521), (7, .int .i64 x532), (40, .bool x542), (41, .slice a5 st501.2.length c6)]) (fun _ => by kernel_rfl) ?_
            refine QL.sub [(0, .slice a0' rows_0.length c0'), (3, .slice a5 st501.2.length c6), (4, .int .i64 st334.1), (5, .int .i64 st501.1), (6, .int .i64 x521), (7, .int .i64 x532), (41, .slice a5 st501.2.length c6)] ⟨rfl, rfl, rfl, rfl, rfl, rfl, rfl, trivial⟩ ?_
            refine QL.step1 rfl (env' := [(0, .slice a0' rows_0.length c0'), (3, .slice a5 st501.2.length c6), (4, .int .i64 st334.1), (5, .int .i64 st501.1), (6, .int .i64 x521), (7, .int .i64 x532), (41, .slice a5 st501.2.length c6), (42, .int .i64 x521)]) (fun _ => by kernel_rfl) ?_
            refine QL.sub [(0, .slice a0' rows_0.length c0'), (3, .slice a5 st501.2.length c6), (4, .int .i64 st334.1), (5, .int .i64 st501.1), (7, .int .i64 x532), (41, .slice a5 st501.2.length c6), (42, .int .i64 x521)] ⟨rfl, rfl, rfl, rfl, rfl, rfl, rfl, trivial⟩ ?_
            refine QL.step1 rfl (env' := [(0, .slice a0' rows_0.length c0'), (3, .slice a5 st501.2.length c6), (4, .int .i64 st334.1), (5, .int .i64 st501.1), (7, .int .i64 x532), (41, .slice a5 st501.2.length c6), (42, .int .i64 x521), (43, .int .i64 (wI64 (2 * x521)))]) (fun _ => by kernel_rfl) ?_
            refine QL.sub [(0, .slice a0' rows_0.length c0'), (3, .slice a5 st501.2.length c6), (4, .int .i64 st334.1), (5, .int .i64 st501.1), (7, .int .i64 x532), (41, .slice a5 st501.2.length c6), (43, .int .i64 (wI64 (2 * x521)))] ⟨rfl, rfl, rfl, rfl, rfl, rfl, rfl, trivial⟩ ?_
            refine QL.step1 rfl (env' := [(0, .slice a0' rows_0.length c0'), (3, .slice a5 st501.2.length c6), (4, .int .i64 st334.1), (5, .int .i64 st501.1), (7, .int .i64 x532), (41, .slice a5 st501.2.length c6), (43, .int .i64 (wI64 (2 * x521))), (44, .int .i64 x532)]) (fun _ => by kernel_rfl) ?_
            refine QL.sub [(0, .slice a0' rows_0.length c0'), (3, .slice a5 st501.2.length c6), (4, .int .i64 st334.1), (5, .int .i64 st501.1), (41, .slice a5 st501.2.length c6), (43, .int .i64 (wI64 (2 * x521))), (44, .int .i64 x532)] ⟨rfl, rfl, rfl, rfl, rfl, rfl, rfl, trivial⟩ ?_
            refine QL.step1 rfl (env' := [(0, .slice a0' rows_0.length c0'), (3, .slice a5 st501.2.length c6), (4, .int .i64 st334.1), (5, .int .i64 st501.1), (41, .slice a5 st501.2.length c6), (43, .int .i64 (wI64 (2 * x521))), (44, .int .i64 x532), (45, .int .i64 (wI64 ((wI64 (2 * x521)) + x532)))]) (fun _ => by kernel_rfl) ?_
            refine QL.sub [(0, .slice a0' rows_0.length c0'), (3, .slice a5 st501.2.length c6), (4, .int .i64 st334.1), (5, .int .i64 st501.1), (41, .slice a5 st501.2.length c6), (45, .int .i64 (wI64 ((wI64 (2 * x521)) + x532)))] ⟨rfl, rfl, rfl, rfl, rfl, rfl, trivial⟩ ?_
            obtain ⟨x628, hx629, hm⟩ := bindE hm
            refine QL.st (.pointer (some (at_ a5 (Int.toNat (wI64 ((wI64 (2 * x521)) + x532)) * 1)))) (ST.index (T := fInt.ty) (xs := st501.2) (SH.rd (SH.front 0 hS627)) hx629 rfl rfl rfl Try.underlying40 (info2).1 (info2).2.1) rfl rfl rfl ?_
            refine QL.st (.int .i64 x628) (ST.load (cell_ext (Rd.flat (F := fInt) (SH.rd (SH.front 0 hS627)) hx629 0 rfl)) rfl rfl Try.underlying2 rfl) rfl rfl rfl ?_
            refine QL.step1 rfl (env' := [(0, .slice a0' rows_0.length c0'), (3, .slice a5 st501.2.length c6), (4, .int .i64 st334.1), (5, .int .i64 st501.1), (41, .slice a5 st501.2.length c6), (45, .int .i64 (wI64 ((wI64 (2 * x521)) + x532))), (46, .pointer (some (at_ a5 (Int.toNat (wI64 ((wI64 (2 * x521)) + x532)) * 1)))), (47, .int .i64 x628), (48, .slice a0' rows_0.length c0')]) (fun _ => by kernel_rfl) ?_
            refine QL.sub [(0, .slice a0' rows_0.length c0'), (3, .slice a5 st501.2.length c6), (4, .int .i64 st334.1), (5, .int .i64 st501.1), (41, .slice a5 st501.2.length c6), (45, .int .i64 (wI64 ((wI64 (2 * x521)) + x532))), (47, .int .i64 x628), (48, .slice a0' rows_0.length c0')] ⟨rfl, rfl, rfl, rfl, rfl, rfl, rfl, rfl, trivial⟩ ?_
            refine QL.step1 rfl (env' := [(0, .slice a0' rows_0.length c0'), (3, .slice a5 st501.2.length c6), (4, .int .i64 st334.1), (5, .int .i64 st501.1), (41, .slice a5 st501.2.length c6), (45, .int .i64 (wI64 ((wI64 (2 * x521)) + x532))), (47, .int .i64 x628), (48, .slice a0' rows_0.length c0'), (49, .int .i64 st334.1)]) (fun _ => by kernel_rfl) ?_
            refine QL.step1 rfl (env' := [(0, .slice a0' rows_0.length c0'), (3, .slice a5 st501.2.length c6), (4, .int .i64 st334.1), (5, .int .i64 st501.1), (41, .slice a5 st501.2.length c6), (45, .int .i64 (wI64 ((wI64 (2 * x521)) + x532))), (47, .int .i64 x628), (48, .slice a0' rows_0.length c0'), (49, .int .i64 st334.1), (50, .int .i64 st501.1)]) (fun _ => by kernel_rfl) ?_
            obtain ⟨x630, hx631, hm⟩ := bindE hm
            refine QL.call 52 #[.slice a0' rows_0.length c0', .int .i64 st334.1, .int .i64 st501.1] (.int .i64 x630) (fun _ => by kernel_rfl) (fun w632 hE633 => c_52 n rows_0 a0' c0' st334.1 st501.1 w632 hx631 (Rd.below (Rd.below h0 hb625) hE633) hle0) rfl rfl rfl ?_
            refine QL.step1 rfl (env' := [(0, .slice a0' rows_0.length c0'), (3, .slice a5 st501.2.length c6), (4, .int .i64 st334.1), (5, .int .i64 st501.1), (41, .slice a5 st501.2.length c6), (45, .int .i64 (wI64 ((wI64 (2 * x521)) + x532))), (47, .int .i64 x628), (48, .slice a0' rows_0.length c0'), (49, .int .i64 st334.1), (50, .int .i64 st501.1), (51, .int .i64 x630), (52, .int .i64 (wI64 (x628 + x630)))]) (fun _ => by kernel_rfl) ?_
            refine QL.sub [(0, .slice a0' rows_0.length c0'), (3, .slice a5 st501.2.length c6), (4, .int .i64 st334.1), (5, .int .i64 st501.1), (41, .slice a5 st501.2.length c6), (45, .int .i64 (wI64 ((wI64 (2 * x521)) + x532))), (52, .int .i64 (wI64 (x628 + x630)))] ⟨rfl, rfl, rfl, rfl, rfl, rfl, rfl, trivial⟩ ?_
            obtain ⟨x634, hx635, hm⟩ := bindE hm
            refine QL.st (.pointer (some (at_ a5 (Int.toNat (wI64 ((wI64 (2 * x521)) + x532)) * 1)))) (ST.index (T := fInt.ty) (xs := st501.2) (SH.rd (SH.front 0 hS627)) hx635 rfl rfl rfl Try.underlying40 (info2).1 (info2).2.1) rfl rfl rfl ?_
            refine QL.sub [(0, .slice a0' rows_0.length c0'), (3, .slice a5 st501.2.length c6), (4, .int .i64 st334.1), (5, .int .i64 st501.1), (52, .int .i64 (wI64 (x628 + x630))), (53, .pointer (some (at_ a5 (Int.toNat (wI64 ((wI64 (2 * x521)) + x532)) * 1))))] ⟨rfl, rfl, rfl, rfl, rfl, rfl, trivial⟩ ?_
            refine QL.nil ?_
            intro w636 hE637
            have hb638 : Ext w w636 := Ext.trans hb625 hE637
            have hL639 : w.heap.size ≤ w636.heap.size := Nat.le_trans hL626 hE637.size
            have hS640 : SH w636 w.heap.size [aOwn fInt 2 a5 c6 st501.2] := SH.ext hS627 hE637
            refine WA.one (i := 13) (D' := [0, 1, 2, 3, 4, 5, 6, 7, 8, 9, 10, 11, 12, 13]) rfl rfl (by kernel_rfl) ?_
            refine WL.store (F := fInt) (wI64 (x628 + x630)) 0 [.int .i64 (wI64 (x628 + x630))] (SH.front 0 hS640) hL639 hx635 rfl rfl rfl rfl rfl rfl rfl (info2).1 (info2).2.1 rfl rfl rfl ?_
            intro w641 hB642 hS643
            have hb644 : Ext w w641 := Below.trans hb638 hB642
            have hL645 : w.heap.size ≤ w641.heap.size := Nat.le_trans hL639 hB642.size
            refine WL.sub [(0, .slice a0' rows_0.length c0'), (3, .slice a5 ((st501.2.set (Int.toNat (wI64 ((wI64 (2 * x521)) + x532))) (wI64 (x628 + x630))).length) c6), (4, .int .i64 st334.1), (5, .int .i64 st501.1), (52, .int .i64 (wI64 (x628 + x630)))] ⟨rfl, by first | (simp only [List.length_set]; done) | (simp only [List.length_set]; rfl), rfl, rfl, rfl, trivial⟩ ?_
            refine WL.sub [(0, .slice a0' rows_0.length c0'), (3, .slice a5 ((st501.2.set (Int.toNat (wI64 ((wI64 (2 * x521)) + x532))) (wI64 (x628 + x630))).length) c6), (4, .int .i64 st334.1), (5, .int .i64 st501.1)] ⟨rfl, rfl, rfl, rfl, trivial⟩ ?_
            refine WL.nil ?_
            refine WA.done (by kernel_rfl) ?_
            obtain rfl := Option.some.inj hm
            exact WQ.post' ⟨rfl, hb644, hL645, hS643⟩ ⟨rfl, rfl, rfl, rfl, trivial⟩
          · have hm := iteF hm hc549
            refine WP.skip ?_
            obtain rfl := Option.some.inj hm
            exact WQ.post' ⟨rfl, hb546, hL547, hS548⟩ ⟨rfl, rfl, rfl, rfl, trivial⟩
        · clear hx622
          rintro _ w646 ⟨rfl, hb647, hL648, hS649⟩
          refine WQ.block_normal ?_
          refine WQ.then_normal (hK519 _ _ _ ?_)
          refine WP.region ?_
          refine WL.runk 3 [0, 3, 4, 5] [(0, .slice a0' rows_0.length c0'), (3, .slice a5 x621.length c6), (4, .int .i64 st334.1), (5, .int .i64 (wI64 (st501.1 + 1)))] (by kernel_rfl) ?_
          refine WL.nil ?_
          obtain rfl := Option.some.inj hm
          exact WQ.round hK508 ⟨((wI64 (st501.1 + 1)), x621), rfl, hb647, hL648, hS649, hl506⟩ (Nat.lt_succ_self _) ⟨rfl, rfl, rfl, rfl, trivial⟩
    · have hm := iteF hm hc518
      refine WP.exit ?_
      refine WQ.then_exit ?_
      refine WQ.then_exit ?_
      refine WQ.block_here ?_
      obtain rfl := Option.some.inj hm
      obtain rfl := afterN_done hl506
      have hm := hmo507
      refine WQ.block_normal ?_
      refine WQ.then_normal (hK350 _ _ _ ?_)
      refine WP.region ?_
      refine WL.runk 3 [0, 3, 4] [(0, .slice a0' rows_0.length c0'), (3, .slice a5 st501.2.length c6), (4, .int .i64 (wI64 (st334.1 + 1)))] (by kernel_rfl) ?_
      refine WL.nil ?_
      obtain rfl := Option.some.inj hm
      exact WQ.round hK341 ⟨((wI64 (st334.1 + 1)), st501.2), rfl, hb503, hL504, hS505, hl339⟩ (Nat.lt_succ_self _) ⟨rfl, rfl, rfl, trivial⟩
  · have hm := iteF hm hc349
    refine WP.exit ?_
    refine WQ.then_exit ?_
    refine WQ.then_exit ?_
    refine WQ.block_here ?_
    obtain rfl := Option.some.inj hm
    obtain rfl := afterN_done hl339
    have hm := hmo340
    refine WQ.then_normal (hK14 _ _ _ ?_)
    refine WP.seq (fun K651 hK651 => ?_)
    refine WP.region ?_
    refine WL.runk 2 [2] [(2, .slice a5 st334.2.length c6)] (by kernel_rfl) ?_
    refine WL.nil ?_
    refine WQ.then_normal (hK651 _ _ _ ?_)
    refine WP.ret ?_
    obtain rfl := Option.some.inj hm
    exact WQ.ret1 _ rfl rfl ⟨_, _, rfl, hb336, hS338⟩

theorem c_64 (n : Nat) (list_0 : List Int) (a0' : Option Addr) (c0' : Nat) (w : World) {r : Int} (hm : m_spec_l02Sum n list_0 = some r) (h0 : Rd fInt.ty w a0' list_0) (hle0 : list_0.length ≤ c0') :
    CallV Try.prog 64 #[.slice a0' list_0.length c0'] w (fun v w' => v = .int .i64 r ∧ Ext w w') := by
  unfold m_spec_l02Sum at hm
  refine CallV.enter Try.func64 rfl (by kernel_rfl) Try.ntmps64 (env := [(0, .slice a0' list_0.length c0')]) ⟨rfl, trivial⟩ ?_
  refine WP.seq (fun K1 hK1 => ?_)
  refine WP.region ?_
  refine WL.runk 1 [0] [(0, .slice a0' list_0.length c0')] (by kernel_rfl) ?_
  refine WL.nil ?_
  refine WQ.then_normal (hK1 _ _ _ ?_)
  refine WP.seq (fun K2 hK2 => ?_)
  refine WP.region ?_
  refine WL.runk 1 [0, 3] [(0, .slice a0' list_0.length c0'), (3, .int .i64 0)] (by kernel_rfl) ?_
  refine WL.nil ?_
  refine WQ.then_normal (hK2 _ _ _ ?_)
  refine WP.seq (fun K3 hK3 => ?_)
  refine WP.seq (fun K4 hK4 => ?_)
  refine WP.region ?_
  refine WL.runk 1 [0, 3, 4] [(0, .slice a0' list_0.length c0'), (3, .int .i64 0), (4, .int .i64 0)] (by kernel_rfl) ?_
  refine WL.nil ?_
  refine WQ.then_normal (hK4 _ _ _ ?_)
  refine WP.block ?_
  obtain ⟨t16, ht17, hm⟩ := bindE hm
  have hmo11 := hm; clear hm
  refine WP.sub [(0, .slice a0' list_0.length c0'), (3, .int .i64 0), (4, .int .i64 0)] ⟨rfl, rfl, rfl, trivial⟩ ?_
  refine WP.loop (fun n' env' w' => ∃ (st5 : Int × Int) , env' = [(0, .slice a0' list_0.length c0'), (3, .int .i64 st5.1), (4, .int .i64 st5.2)] ∧ Ext w w' ∧ w.heap.size ≤ w'.heap.size ∧ SH w' w.heap.size [] ∧ loopN (m_spec_l02Sum_l1 n list_0) n' st5 = some t16) n ⟨(0, 0), rfl, (Ext.refl w), (Nat.le_refl _), (SH.nil _ _), ht17⟩ ?_
  rintro n13 _ w6 ⟨st5, rfl, hb7, hL8, hS9, hl10⟩ K12 hK12
  obtain ⟨n14, s15, rfl, hm, hl10⟩ := loopN_some hl10
  unfold m_spec_l02Sum_l1 at hm
  refine WP.seq (fun K18 hK18 => ?_)
  refine WP.seq (fun K19 hK19 => ?_)
  refine WP.region ?_
  refine WL.runk 4 [0, 3, 4, 8] [(0, .slice a0' list_0.length c0'), (3, .int .i64 st5.1), (4, .int .i64 st5.2), (8, .bool (decide (st5.2 < (list_0.length : Int))))] (by kernel_rfl) ?_
  refine WL.nil ?_
  refine WQ.then_normal (hK19 _ _ _ ?_)
  refine WP.cond (decide (st5.2 < (list_0.length : Int))) rfl rfl (fun hc20 => ?_) (fun hc20 => ?_)
  · have hm := iteT hm hc20
    refine WP.skip ?_
    refine WQ.then_normal (hK18 _ _ _ ?_)
    refine WP.seq (fun K21 hK21 => ?_)
    refine WP.block ?_
    refine WP.region ?_
    refine WL.runk 3 [0, 4, 11, 12, 13] [(0, .slice a0' list_0.length c0'), (4, .int .i64 st5.2), (11, .int .i64 st5.1), (12, .slice a0' list_0.length c0'), (13, .int .i64 st5.2)] (by kernel_rfl) ?_
    obtain ⟨x22, hx23, hm⟩ := bindE hm
    refine WL.st (.pointer (some (at_ a0' (Int.toNat st5.2 * 1)))) (ST.index (T := fInt.ty) (xs := list_0) (Rd.below h0 hb7) hx23 rfl rfl rfl Try.underlying40 (info2).1 (info2).2.1) rfl rfl rfl ?_
    refine WL.st (.int .i64 x22) (ST.load (cell_ext (Rd.flat (F := fInt) (Rd.below h0 hb7) hx23 0 rfl)) rfl rfl Try.underlying2 rfl) rfl rfl rfl ?_
    refine WL.runk 2 [0, 3, 4] [(0, .slice a0' list_0.length c0'), (4, .int .i64 st5.2), (3, .int .i64 (wI64 (st5.1 + x22)))] (by kernel_rfl) ?_
    refine WL.nil ?_
    refine WQ.block_normal ?_
    refine WQ.then_normal (hK21 _ _ _ ?_)
    refine WP.region ?_
    refine WL.runk 3 [0, 3, 4] [(0, .slice a0' list_0.length c0'), (4, .int .i64 (wI64 (st5.2 + 1))), (3, .int .i64 (wI64 (st5.1 + x22)))] (by kernel_rfl) ?_
    refine WL.nil ?_
    obtain rfl := Option.some.inj hm
    exact WQ.round hK12 ⟨((wI64 (st5.1 + x22)), (wI64 (st5.2 + 1))), rfl, hb7, hL8, hS9, hl10⟩ (Nat.lt_succ_self _) ⟨rfl, rfl, rfl, trivial⟩
  · have hm := iteF hm hc20
    refine WP.exit ?_
    refine WQ.then_exit ?_
    refine WQ.then_exit ?_
    refine WQ.block_here ?_
    obtain rfl := Option.some.inj hm
    obtain rfl := afterN_done hl10
    have hm := hmo11
    refine WQ.then_normal (hK3 _ _ _ ?_)
    refine WP.seq (fun K24 hK24 => ?_)
    refine WP.region ?_
    refine WL.runk 2 [2] [(2, .int .i64 st5.1)] (by kernel_rfl) ?_
    refine WL.nil ?_
    refine WQ.then_normal (hK24 _ _ _ ?_)
    refine WP.ret ?_
    obtain rfl := Option.some.inj hm
    exact WQ.ret1 _ rfl rfl ⟨rfl, hb7⟩

theorem c_31 (n : Nat) (rows_0 : List (List UInt8)) (a0' : Option Addr) (c0' : Nat) (w : World) {r : List UInt8 × Int} (hm : m_spec_DiagnoseWear n rows_0 = some r) (h0 : Rd fStr.ty w a0' rows_0) (hle0 : rows_0.length ≤ c0') :
    CallV Try.prog 31 #[.slice a0' rows_0.length c0'] w (fun v w' => v = .tuple #[.string (bs r.1), .int .i64 r.2] ∧ Ext w w') := by
  unfold m_spec_DiagnoseWear at hm
  refine CallV.enter Try.func31 rfl (by kernel_rfl) Try.ntmps31 (env := [(0, .slice a0' rows_0.length c0')]) ⟨rfl, trivial⟩ ?_
  refine WP.seq (fun K1 hK1 => ?_)
  refine WP.region ?_
  refine WL.runk 2 [0] [(0, .slice a0' rows_0.length c0')] (by kernel_rfl) ?_
  refine WL.nil ?_
  refine WQ.then_normal (hK1 _ _ _ ?_)
  refine WP.seq (fun K2 hK2 => ?_)
  refine WP.seq (fun K3 hK3 => ?_)
  refine WP.region ?_
  refine WL.runk 1 [0, 8] [(0, .slice a0' rows_0.length c0'), (8, .slice a0' rows_0.length c0')] (by kernel_rfl) ?_
  obtain ⟨x4, hx5, hm⟩ := bindE hm
  refine WL.call 49 #[.slice a0' rows_0.length c0'] rfl rfl (by kernel_rfl) (c_49 n rows_0 a0' c0' w hx5 (Rd.below h0 (Ext.refl w)) hle0) ?_
  rintro _ w6 ⟨rfl, hE7⟩
  refine ⟨_, rfl, ?_⟩
  have hb9 : Ext w w6 := Ext.trans (Ext.refl w) hE7
  have hL10 : w.heap.size ≤ w6.heap.size := Nat.le_trans (Nat.le_refl _) hE7.size
  have hS11 : SH w6 w.heap.size [] := SH.ext (SH.nil _ _) hE7
  refine WL.runk 1 [0, 10] [(0, .slice a0' rows_0.length c0'), (10, .bool (!x4))] (by kernel_rfl) ?_
  refine WL.nil ?_
  refine WQ.then_normal (hK3 _ _ _ ?_)
  refine WP.cond (!x4) rfl rfl (fun hc12 => ?_) (fun hc12 => ?_)
  · have hm := iteT hm hc12
    refine WP.seq (fun K13 hK13 => ?_)
    refine WP.region ?_
    refine WL.runk 2 [2, 3] [(2, .string (bs [])), (3, .int .i64 1)] (by kernel_rfl) ?_
    refine WL.nil ?_
    refine WQ.then_normal (hK13 _ _ _ ?_)
    refine WP.ret ?_
    refine WQ.then_ret ?_
    obtain rfl := Option.some.inj hm
    exact WQ.ret2 _ _ rfl rfl rfl ⟨rfl, hb9⟩
  · have hm := iteF hm hc12
    refine WP.skip ?_
    refine WQ.then_normal (hK2 _ _ _ ?_)
    refine WP.seq (fun K14 hK14 => ?_)
    refine WP.region ?_
    refine WL.row fStr 9 ([[105, 110, 110, 101, 114, 45, 116, 111, 101], [111, 117, 116, 101, 114, 45, 116, 111, 101], [105, 110, 110, 101, 114, 45, 104, 101, 101, 108], [111, 117, 116, 101, 114, 45, 104, 101, 101, 108]] : List (List UInt8)) 4 #[.string (bs [105, 110, 110, 101, 114, 45, 116, 111, 101]), .string (bs [111, 117, 116, 101, 114, 45, 116, 111, 101]), .string (bs [105, 110, 110, 101, 114, 45, 104, 101, 101, 108]), .string (bs [111, 117, 116, 101, 114, 45, 104, 101, 101, 108])] 11 (by kernel_rfl) rfl rfl rfl rfl rfl rfl rfl ?_
    intro a15 c16 w17 hE18 hR19
    have hb21 : Ext w w17 := Ext.trans hb9 hE18
    have hL22 : w.heap.size ≤ w17.heap.size := Nat.le_trans hL10 hE18.size
    have hS23 : SH w17 w.heap.size [aOwn fStr 9 a15 c16 ([[105, 110, 110, 101, 114, 45, 116, 111, 101], [111, 117, 116, 101, 114, 45, 116, 111, 101], [105, 110, 110, 101, 114, 45, 104, 101, 101, 108], [111, 117, 116, 101, 114, 45, 104, 101, 101, 108]] : List (List UInt8))] := SH.add hS11 hE18 hL10 hR19
    refine WL.runk 1 [0, 4] [(0, .slice a0' rows_0.length c0'), (4, .slice a15 (([[105, 110, 110, 101, 114, 45, 116, 111, 101], [111, 117, 116, 101, 114, 45, 116, 111, 101], [105, 110, 110, 101, 114, 45, 104, 101, 101, 108], [111, 117, 116, 101, 114, 45, 104, 101, 101, 108]] : List (List UInt8)).length) c16)] (by kernel_rfl) ?_
    refine WL.nil ?_
    refine WQ.then_normal (hK14 _ _ _ ?_)
    refine WP.seq (fun K24 hK24 => ?_)
    refine WP.region ?_
    refine WL.runk 1 [4, 12] [(4, .slice a15 (([[105, 110, 110, 101, 114, 45, 116, 111, 101], [111, 117, 116, 101, 114, 45, 116, 111, 101], [105, 110, 110, 101, 114, 45, 104, 101, 101, 108], [111, 117, 116, 101, 114, 45, 104, 101, 101, 108]] : List (List UInt8)).length) c16), (12, .slice a0' rows_0.length c0')] (by kernel_rfl) ?_
    obtain ⟨x25, hx26, hm⟩ := bindE hm
    refine WL.call 63 #[.slice a0' rows_0.length c0'] rfl rfl (by kernel_rfl) (c_63 n rows_0 a0' c0' w17 hx26 (Rd.below h0 hb21) hle0) ?_
    rintro _ w30 ⟨a27, c28, rfl, hE31, hR32⟩
    refine ⟨_, rfl, ?_⟩
    have hb33 : Ext w w30 := Ext.trans hb21 hE31
    have hL34 : w.heap.size ≤ w30.heap.size := Nat.le_trans hL22 hE31.size
    have hS35 : SH w30 w.heap.size [aOwn fInt 2 a27 c28 x25, aOwn fStr 9 a15 c16 ([[105, 110, 110, 101, 114, 45, 116, 111, 101], [111, 117, 116, 101, 114, 45, 116, 111, 101], [105, 110, 110, 101, 114, 45, 104, 101, 101, 108], [111, 117, 116, 101, 114, 45, 104, 101, 101, 108]] : List (List UInt8))] := SH.add hS23 hE31 hL22 hR32
    refine WL.runk 1 [4, 5] [(4, .slice a15 (([[105, 110, 110, 101, 114, 45, 116, 111, 101], [111, 117, 116, 101, 114, 45, 116, 111, 101], [105, 110, 110, 101, 114, 45, 104, 101, 101, 108], [111, 117, 116, 101, 114, 45, 104, 101, 101, 108]] : List (List UInt8)).length) c16), (5, .slice a27 x25.length c28)] (by kernel_rfl) ?_
    refine WL.nil ?_
    refine WQ.then_normal (hK24 _ _ _ ?_)
    refine WP.seq (fun K36 hK36 => ?_)
    refine WP.region ?_
    refine WL.runk 1 [4, 5, 14] [(4, .slice a15 (([[105, 110, 110, 101, 114, 45, 116, 111, 101], [111, 117, 116, 101, 114, 45, 116, 111, 101], [105, 110, 110, 101, 114, 45, 104, 101, 101, 108], [111, 117, 116, 101, 114, 45, 104, 101, 101, 108]] : List (List UInt8)).length) c16), (5, .slice a27 x25.length c28), (14, .slice a27 x25.length c28)] (by kernel_rfl) ?_
    obtain ⟨x37, hx38, hm⟩ := bindE hm
    refine WL.call 64 #[.slice a27 x25.length c28] rfl rfl (by kernel_rfl) (c_64 n x25 a27 c28 w30 hx38 (SH.rd (SH.front 0 hS35)) (SH.le (SH.front 0 hS35)).1) ?_
    rintro _ w39 ⟨rfl, hE40⟩
    refine ⟨_, rfl, ?_⟩
    have hb42 : Ext w w39 := Ext.trans hb33 hE40
    have hL43 : w.heap.size ≤ w39.heap.size := Nat.le_trans hL34 hE40.size
    have hS44 : SH w39 w.heap.size [aOwn fInt 2 a27 c28 x25, aOwn fStr 9 a15 c16 ([[105, 110, 110, 101, 114, 45, 116, 111, 101], [111, 117, 116, 101, 114, 45, 116, 111, 101], [105, 110, 110, 101, 114, 45, 104, 101, 101, 108], [111, 117, 116, 101, 114, 45, 104, 101, 101, 108]] : List (List UInt8))] := SH.ext hS35 hE40
    refine WL.runk 1 [4, 5, 6] [(4, .slice a15 (([[105, 110, 110, 101, 114, 45, 116, 111, 101], [111, 117, 116, 101, 114, 45, 116, 111, 101], [105, 110, 110, 101, 114, 45, 104, 101, 101, 108], [111, 117, 116, 101, 114, 45, 104, 101, 101, 108]] : List (List UInt8)).length) c16), (5, .slice a27 x25.length c28), (6, .int .i64 x37)] (by kernel_rfl) ?_
    refine WL.nil ?_
    refine WQ.then_normal (hK36 _ _ _ ?_)
    refine WP.seq (fun K45 hK45 => ?_)
    refine WP.seq (fun K46 hK46 => ?_)
    refine WP.region ?_
    refine WL.runk 1 [4, 5, 6, 7] [(4, .slice a15 (([[105, 110, 110, 101, 114, 45, 116, 111, 101], [111, 117, 116, 101, 114, 45, 116, 111, 101], [105, 110, 110, 101, 114, 45, 104, 101, 101, 108], [111, 117, 116, 101, 114, 45, 104, 101, 101, 108]] : List (List UInt8)).length) c16), (5, .slice a27 x25.length c28), (6, .int .i64 x37), (7, .int .i64 0)] (by kernel_rfl) ?_
    refine WL.nil ?_
    refine WQ.then_normal (hK46 _ _ _ ?_)
    refine WP.block ?_
    obtain ⟨t58, ht59, hm⟩ := bindE hm
    have hmo53 := hm; clear hm
    refine WP.sub [(4, .slice a15 (([[105, 110, 110, 101, 114, 45, 116, 111, 101], [111, 117, 116, 101, 114, 45, 116, 111, 101], [105, 110, 110, 101, 114, 45, 104, 101, 101, 108], [111, 117, 116, 101, 114, 45, 104, 101, 101, 108]] : List (List UInt8)).length) c16), (5, .slice a27 x25.length c28), (6, .int .i64 x37), (7, .int .i64 0)] ⟨rfl, rfl, rfl, rfl, trivial⟩ ?_
    refine WP.loop (fun n' env' w' => ∃ (st47 : Int) , env' = [(4, .slice a15 (([[105, 110, 110, 101, 114, 45, 116, 111, 101], [111, 117, 116, 101, 114, 45, 116, 111, 101], [105, 110, 110, 101, 114, 45, 104, 101, 101, 108], [111, 117, 116, 101, 114, 45, 104, 101, 101, 108]] : List (List UInt8)).length) c16), (5, .slice a27 x25.length c28), (6, .int .i64 x37), (7, .int .i64 st47)] ∧ Ext w w' ∧ w.heap.size ≤ w'.heap.size ∧ SH w' w.heap.size [aOwn fInt 2 a27 c28 x25, aOwn fStr 9 a15 c16 ([[105, 110, 110, 101, 114, 45, 116, 111, 101], [111, 117, 116, 101, 114, 45, 116, 111, 101], [105, 110, 110, 101, 114, 45, 104, 101, 101, 108], [111, 117, 116, 101, 114, 45, 104, 101, 101, 108]] : List (List UInt8))] ∧ loopN (m_spec_DiagnoseWear_l1 n x25 x37) n' st47 = some t58) n ⟨0, rfl, hb42, hL43, hS44, ht59⟩ ?_
    rintro n55 _ w48 ⟨st47, rfl, hb49, hL50, hS51, hl52⟩ K54 hK54
    obtain ⟨n56, s57, rfl, hm, hl52⟩ := loopN_some hl52
    unfold m_spec_DiagnoseWear_l1 at hm
    refine WP.seq (fun K60 hK60 => ?_)
    refine WP.seq (fun K61 hK61 => ?_)
    refine WP.region ?_
    refine WL.runk 4 [4, 5, 6, 7, 19] [(4, .slice a15 (([[105, 110, 110, 101, 114, 45, 116, 111, 101], [111, 117, 116, 101, 114, 45, 116, 111, 101], [105, 110, 110, 101, 114, 45, 104, 101, 101, 108], [111, 117, 116, 101, 114, 45, 104, 101, 101, 108]] : List (List UInt8)).length) c16), (5, .slice a27 x25.length c28), (6, .int .i64 x37), (7, .int .i64 st47), (19, .bool (decide (st47 < (x25.length : Int))))] (by kernel_rfl) ?_
    refine WL.nil ?_
    refine WQ.then_normal (hK61 _ _ _ ?_)
    refine WP.cond (decide (st47 < (x25.length : Int))) rfl rfl (fun hc62 => ?_) (fun hc62 => ?_)
    · have hm := iteT hm hc62
      refine WP.skip ?_
      refine WQ.then_normal (hK60 _ _ _ ?_)
      refine WP.seq (fun K63 hK63 => ?_)
      refine WP.block ?_
      refine WP.seq (fun K64 hK64 => ?_)
      refine WP.region ?_
      refine WL.runk 2 [4, 5, 6, 7, 22, 23] [(4, .slice a15 (([[105, 110, 110, 101, 114, 45, 116, 111, 101], [111, 117, 116, 101, 114, 45, 116, 111, 101], [105, 110, 110, 101, 114, 45, 104, 101, 101, 108], [111, 117, 116, 101, 114, 45, 104, 101, 101, 108]] : List (List UInt8)).length) c16), (5, .slice a27 x25.length c28), (6, .int .i64 x37), (7, .int .i64 st47), (22, .slice a27 x25.length c28), (23, .int .i64 st47)] (by kernel_rfl) ?_
      obtain ⟨x65, hx66, hm⟩ := bindE hm
      refine WL.st (.pointer (some (at_ a27 (Int.toNat st47 * 1)))) (ST.index (T := fInt.ty) (xs := x25) (SH.rd (SH.front 0 hS51)) hx66 rfl rfl rfl Try.underlying40 (info2).1 (info2).2.1) rfl rfl rfl ?_
      refine WL.st (.int .i64 x65) (ST.load (cell_ext (Rd.flat (F := fInt) (SH.rd (SH.front 0 hS51)) hx66 0 rfl)) rfl rfl Try.underlying2 rfl) rfl rfl rfl ?_
      refine WL.runk 3 [4, 5, 6, 7, 28] [(4, .slice a15 (([[105, 110, 110, 101, 114, 45, 116, 111, 101], [111, 117, 116, 101, 114, 45, 116, 111, 101], [105, 110, 110, 101, 114, 45, 104, 101, 101, 108], [111, 117, 116, 101, 114, 45, 104, 101, 101, 108]] : List (List UInt8)).length) c16), (5, .slice a27 x25.length c28), (6, .int .i64 x37), (7, .int .i64 st47), (28, .bool (decide ((wI64 (2 * x65)) > x37)))] (by kernel_rfl) ?_
      refine WL.nil ?_
      refine WQ.then_normal (hK64 _ _ _ ?_)
      refine WP.cond (decide ((wI64 (2 * x65)) > x37)) rfl rfl (fun hc67 => ?_) (fun hc67 => ?_)
      · have hm := iteT hm hc67
        refine WP.seq (fun K68 hK68 => ?_)
        refine WP.region ?_
        refine WL.runk 2 [29, 30] [(29, .slice a15 (([[105, 110, 110, 101, 114, 45, 116, 111, 101], [111, 117, 116, 101, 114, 45, 116, 111, 101], [105, 110, 110, 101, 114, 45, 104, 101, 101, 108], [111, 117, 116, 101, 114, 45, 104, 101, 101, 108]] : List (List UInt8)).length) c16), (30, .int .i64 st47)] (by kernel_rfl) ?_
        obtain ⟨x69, hx70, hm⟩ := bindE hm
        refine WL.st (.pointer (some (at_ a15 (Int.toNat st47 * 1)))) (ST.index (T := fStr.ty) (xs := ([[105, 110, 110, 101, 114, 45, 116, 111, 101], [111, 117, 116, 101, 114, 45, 116, 111, 101], [105, 110, 110, 101, 114, 45, 104, 101, 101, 108], [111, 117, 116, 101, 114, 45, 104, 101, 101, 108]] : List (List UInt8))) (SH.rd (SH.front 1 hS51)) hx70 rfl rfl rfl Try.underlying22 (info9).1 (info9).2.1) rfl rfl rfl ?_
        refine WL.st (.string (bs x69)) (ST.load (cell_ext (Rd.flat (F := fStr) (SH.rd (SH.front 1 hS51)) hx70 0 rfl)) rfl rfl Try.underlying9 rfl) rfl rfl rfl ?_
        refine WL.runk 2 [2, 3] [(2, .string (bs x69)), (3, .int .i64 0)] (by kernel_rfl) ?_
        refine WL.nil ?_
        refine WQ.then_normal (hK68 _ _ _ ?_)
        refine WP.ret ?_
        refine WQ.block_ret ?_
        refine WQ.then_ret ?_
        refine WQ.then_ret ?_
        refine WQ.block_ret ?_
        refine WQ.then_ret ?_
        obtain rfl := Option.some.inj hm
        obtain rfl := afterN_done hl52
        have hm := hmo53
        obtain rfl := Option.some.inj hm
        exact WQ.ret2 _ _ rfl rfl rfl ⟨rfl, hb49⟩
      · have hm := iteF hm hc67
        refine WP.skip ?_
        refine WQ.block_normal ?_
        refine WQ.then_normal (hK63 _ _ _ ?_)
        refine WP.region ?_
        refine WL.runk 3 [4, 5, 6, 7] [(4, .slice a15 (([[105, 110, 110, 101, 114, 45, 116, 111, 101], [111, 117, 116, 101, 114, 45, 116, 111, 101], [105, 110, 110, 101, 114, 45, 104, 101, 101, 108], [111, 117, 116, 101, 114, 45, 104, 101, 101, 108]] : List (List UInt8)).length) c16), (5, .slice a27 x25.length c28), (6, .int .i64 x37), (7, .int .i64 (wI64 (st47 + 1)))] (by kernel_rfl) ?_
        refine WL.nil ?_
        obtain rfl := Option.some.inj hm
        exact WQ.round hK54 ⟨(wI64 (st47 + 1)), rfl, hb49, hL50, hS51, hl52⟩ (Nat.lt_succ_self _) ⟨rfl, rfl, rfl, rfl, trivial⟩
    · have hm := iteF hm hc62
      refine WP.exit ?_
      refine WQ.then_exit ?_
      refine WQ.then_exit ?_
      refine WQ.block_here ?_
      obtain rfl := Option.some.inj hm
      obtain rfl := afterN_done hl52
      have hm := hmo53
      refine WQ.then_normal (hK45 _ _ _ ?_)
      refine WP.seq (fun K71 hK71 => ?_)
      refine WP.region ?_
      refine WL.runk 2 [2, 3] [(2, .string (bs [101, 118, 101, 110])), (3, .int .i64 0)] (by kernel_rfl) ?_
      refine WL.nil ?_
      refine WQ.then_normal (hK71 _ _ _ ?_)
      refine WP.ret ?_
      obtain rfl := Option.some.inj hm
      exact WQ.ret2 _ _ rfl rfl rfl ⟨rfl, hb49⟩

theorem c_81 (n : Nat) (place_0 : Int) (count_1 : Int) (w : World) {r : Int} (hm : m_impl_half n place_0 count_1 = some r)  :
    CallV Try.prog 81 #[.int .i64 place_0, .int .i64 count_1] w (fun v w' => v = .int .i64 r ∧ Ext w w') := by
  unfold m_impl_half at hm
  refine CallV.enter Try.func81 rfl (by kernel_rfl) Try.ntmps81 (env := [(0, .int .i64 place_0), (1, .int .i64 count_1)]) ⟨rfl, rfl, trivial⟩ ?_
  refine WP.seq (fun K1 hK1 => ?_)
  refine WP.region ?_
  refine WL.runk 1 [0, 1] [(0, .int .i64 place_0), (1, .int .i64 count_1)] (by kernel_rfl) ?_
  refine WL.nil ?_
  refine WQ.then_normal (hK1 _ _ _ ?_)
  refine WP.seq (fun K2 hK2 => ?_)
  refine WP.block ?_
  refine WP.seq (fun K3 hK3 => ?_)
  refine WP.region ?_
  refine WL.runk 5 [0, 1, 5] [(0, .int .i64 place_0), (1, .int .i64 count_1), (5, .bool (decide (place_0 < (wI64 (Int.tdiv count_1 2)))))] (by kernel_rfl) ?_
  refine WL.nil ?_
  refine WQ.then_normal (hK3 _ _ _ ?_)
  refine WP.cond (decide (place_0 < (wI64 (Int.tdiv count_1 2)))) rfl rfl (fun hc4 => ?_) (fun hc4 => ?_)
  · have hm := iteT hm hc4
    refine WP.seq (fun K5 hK5 => ?_)
    refine WP.region ?_
    refine WL.runk 1 [4] [(4, .int .i64 0)] (by kernel_rfl) ?_
    refine WL.nil ?_
    refine WQ.then_normal (hK5 _ _ _ ?_)
    refine WP.ret ?_
    refine WQ.block_ret ?_
    refine WQ.then_ret ?_
    obtain rfl := Option.some.inj hm
    exact WQ.ret1 _ rfl rfl ⟨rfl, (Ext.refl w)⟩
  · have hm := iteF hm hc4
    refine WP.seq (fun K6 hK6 => ?_)
    refine WP.region ?_
    refine WL.runk 7 [10] [(10, .bool (decide (place_0 ≥ (wI64 (count_1 - (wI64 (Int.tdiv count_1 2)))))))] (by kernel_rfl) ?_
    refine WL.nil ?_
    refine WQ.then_normal (hK6 _ _ _ ?_)
    refine WP.cond (decide (place_0 ≥ (wI64 (count_1 - (wI64 (Int.tdiv count_1 2)))))) rfl rfl (fun hc7 => ?_) (fun hc7 => ?_)
    · have hm := iteT hm hc7
      refine WP.seq (fun K8 hK8 => ?_)
      refine WP.region ?_
      refine WL.runk 1 [4] [(4, .int .i64 1)] (by kernel_rfl) ?_
      refine WL.nil ?_
      refine WQ.then_normal (hK8 _ _ _ ?_)
      refine WP.ret ?_
      refine WQ.block_ret ?_
      refine WQ.then_ret ?_
      obtain rfl := Option.some.inj hm
      exact WQ.ret1 _ rfl rfl ⟨rfl, (Ext.refl w)⟩
    · have hm := iteF hm hc7
      refine WP.skip ?_
      refine WQ.block_normal ?_
      refine WQ.then_normal (hK2 _ _ _ ?_)
      refine WP.seq (fun K9 hK9 => ?_)
      refine WP.region ?_
      refine WL.runk 1 [4] [(4, .int .i64 (-1))] (by kernel_rfl) ?_
      refine WL.nil ?_
      refine WQ.then_normal (hK9 _ _ _ ?_)
      refine WP.ret ?_
      obtain rfl := Option.some.inj hm
      exact WQ.ret1 _ rfl rfl ⟨rfl, (Ext.refl w)⟩

theorem c_65 (n : Nat) (rows_0 : List (List UInt8)) (a0' : Option Addr) (c0' : Nat) (w : World) {r : List Int} (hm : m_impl_quarterSums n rows_0 = some r) (h0 : Rd fStr.ty w a0' rows_0) (hle0 : rows_0.length ≤ c0') :
    CallV Try.prog 65 #[.slice a0' rows_0.length c0'] w (fun v w' => ∃ (ra0 : Option Addr) (rc0 : Nat), v = .slice ra0 r.length rc0 ∧ Ext w w' ∧ SH w' w.heap.size [aOwn fInt 2 ra0 rc0 r]) := by
  unfold m_impl_quarterSums at hm
  refine CallV.enter Try.func65 rfl (by kernel_rfl) Try.ntmps65 (env := [(0, .slice a0' rows_0.length c0')]) ⟨rfl, trivial⟩ ?_
  refine WP.seq (fun K1 hK1 => ?_)
  refine WP.region ?_
  refine WL.runk 1 [0] [(0, .slice a0' rows_0.length c0')] (by kernel_rfl) ?_
  refine WL.nil ?_
  refine WQ.then_normal (hK1 _ _ _ ?_)
  refine WP.seq (fun K2 hK2 => ?_)
  refine WP.open (n := 7) (by kernel_rfl) rfl (fun w3 hE4 => ?_)
  have hb5 : Ext w w3 := Ext.trans (Ext.refl w) hE4
  have hL6 : w.heap.size ≤ w3.heap.size := Nat.le_trans (Nat.le_refl _) hE4.size
  have hS7 : SH w3 w.heap.size [] := SH.ext (SH.nil _ _) hE4
  obtain ⟨x13, hx14, hm⟩ := bindE hm
  refine WA.float (Φ := fun v w' => ∃ (a15 : Option Addr) (c16 : Nat), v = .slice a15 x13.length c16 ∧ SH w' w3.heap.size [aOwn fInt 2 a15 c16 x13]) (f := 0) (f' := 2) (D1 := [1, 2, 3, 4]) (D' := [1, 2, 3, 4, 0]) [1, 2, 3, 4] [5] (fun _ _ _ ⟨a15, c16, e, h⟩ hE => ⟨a15, c16, e, SH.ext h hE⟩) rfl rfl rfl rfl (by kernel_rfl) ?_
  refine QL.step1 rfl (env' := [(0, .slice a0' rows_0.length c0'), (10, .slice a0' rows_0.length c0')]) (fun _ => by kernel_rfl) ?_
  obtain ⟨x25, hx26, hm⟩ := bindE hm
  refine QL.st (.pointer (some (at_ a0' (Int.toNat 0 * 1)))) (ST.index (T := fStr.ty) (xs := rows_0) (Rd.below h0 hb5) hx26 rfl rfl rfl Try.underlying22 (info9).1 (info9).2.1) rfl rfl rfl ?_
  refine QL.st (.string (bs x25)) (ST.load (cell_ext (Rd.flat (F := fStr) (Rd.below h0 hb5) hx26 0 rfl)) rfl rfl Try.underlying9 rfl) rfl rfl rfl ?_
  refine QL.step1 rfl (env' := [(0, .slice a0' rows_0.length c0'), (10, .slice a0' rows_0.length c0'), (11, .pointer (some (at_ a0' (Int.toNat 0 * 1)))), (12, .string (bs x25)), (13, .int .i64 (x25.length : Int))]) (fun _ => by kernel_rfl) ?_
  refine QL.sub [(0, .slice a0' rows_0.length c0'), (13, .int .i64 (x25.length : Int))] ⟨rfl, rfl, trivial⟩ ?_
  refine QL.sub [(0, .slice a0' rows_0.length c0'), (13, .int .i64 (x25.length : Int))] ⟨rfl, rfl, trivial⟩ ?_
  refine QL.nil ?_
  intro w27 hE28
  refine QF.make (f' := 1) (hs := [1, 2, 3, 4]) (D' := [1, 2, 3, 4, 0]) (ex := [5]) (pre := [0]) (D'' := [1, 2, 3, 4, 0, 5]) 9 (fun w8 hE9 => ?_) (fun v29 => ⟨[(0, .slice a0' rows_0.length c0'), (13, .int .i64 (x25.length : Int)), (9, v29), (3, v29)], (runP_cons [(0, .slice a0' rows_0.length c0'), (13, .int .i64 (x25.length : Int)), (9, v29), (3, v29)] rfl (fun _ => by kernel_rfl) rfl runP_nil), fun w30 hE31 hR32 => ?_⟩) rfl rfl rfl rfl rfl (by kernel_rfl)
  · have hb10 : Ext w w8 := Ext.trans hb5 hE9
    have hL11 : w.heap.size ≤ w8.heap.size := Nat.le_trans hL6 hE9.size
    have hS12 : SH w8 w.heap.size [] := SH.ext hS7 hE9
    refine WL.make fInt 9 hx14 rfl rfl rfl Try.underlying40 (info2).1 (info2).2.2.1 (info2).2.1 (info2).2.2.2 rfl rfl rfl rfl rfl ?_
    intro a15 c16 w17 hE18 hR19
    have hb21 : Ext w w17 := Ext.trans hb10 hE18
    have hL22 : w.heap.size ≤ w17.heap.size := Nat.le_trans hL11 hE18.size
    have hS23 : SH w17 w.heap.size [aOwn fInt 2 a15 c16 x13] := SH.add hS12 hE18 hL11 hR19
    have hx24 := hE18
    refine WL.nil ?_
    exact QΦ.intro (v := .slice a15 x13.length c16) rfl hx24 ⟨a15, c16, rfl, SH.low hR19 hE9.size⟩
  · obtain ⟨a15, c16, rfl, hR32⟩ := hR32
    have hb33 : Ext w w30 := Ext.trans hb5 hE31
    have hL34 : w.heap.size ≤ w30.heap.size := Nat.le_trans hL6 hE31.size
    have hS35 : SH w30 w.heap.size [aOwn fInt 2 a15 c16 x13] := SH.add hS7 hE31 hL6 hR32
    refine WA.one (i := 6) (D' := [1, 2, 3, 4, 0, 5, 6]) rfl rfl (by kernel_rfl) ?_
    refine WL.runk 1 [0, 3, 4] [(0, .slice a0' rows_0.length c0'), (3, .slice a15 x13.length c16), (4, .int .i64 (x25.length : Int))] (by kernel_rfl) ?_
    refine WL.nil ?_
    refine WA.done (by kernel_rfl) ?_
    refine WQ.then_normal (hK2 _ _ _ ?_)
    refine WP.seq (fun K36 hK36 => ?_)
    refine WP.seq (fun K37 hK37 => ?_)
    refine WP.region ?_
    refine WL.runk 1 [0, 3, 4, 14] [(0, .slice a0' rows_0.length c0'), (3, .slice a15 x13.length c16), (4, .int .i64 (x25.length : Int)), (14, .slice a0' rows_0.length c0')] (by kernel_rfl) ?_
    obtain ⟨x38, hx39, hm⟩ := bindE hm
    refine WL.call 54 #[.slice a0' rows_0.length c0'] rfl rfl (by kernel_rfl) (c_54 n rows_0 a0' c0' w30 hx39 (Rd.below h0 hb33) hle0) ?_
    rintro _ w43 ⟨a40, c41, rfl, hE44, hR45⟩
    refine ⟨_, rfl, ?_⟩
    have hb46 : Ext w w43 := Ext.trans hb33 hE44
    have hL47 : w.heap.size ≤ w43.heap.size := Nat.le_trans hL34 hE44.size
    have hS48 : SH w43 w.heap.size [aOwn fInt 2 a40 c41 x38, aOwn fInt 2 a15 c16 x13] := SH.add hS35 hE44 hL34 hR45
    refine WL.runk 2 [0, 3, 4, 15, 16, 17] [(0, .slice a0' rows_0.length c0'), (3, .slice a15 x13.length c16), (4, .int .i64 (x25.length : Int)), (15, .slice a40 x38.length c41), (16, .int .i64 (x38.length : Int)), (17, .int .i64 0)] (by kernel_rfl) ?_
    refine WL.nil ?_
    refine WQ.then_normal (hK37 _ _ _ ?_)
    refine WP.block ?_
    obtain ⟨t153, ht154, hm⟩ := bindE hm
    have hmo148 := hm; clear hm
    refine WP.sub [(0, .slice a0' rows_0.length c0'), (3, .slice a15 x13.length c16), (4, .int .i64 (x25.length : Int)), (15, .slice a40 x38.length c41), (16, .int .i64 (x38.length : Int)), (17, .int .i64 0)] ⟨rfl, rfl, rfl, rfl, rfl, rfl, trivial⟩ ?_
    refine WP.loop (fun n' env' w' => ∃ (st142 : Int × List Int) , env' = [(0, .slice a0' rows_0.length c0'), (3, .slice a15 st142.2.length c16), (4, .int .i64 (x25.length : Int)), (15, .slice a40 x38.length c41), (16, .int .i64 (x38.length : Int)), (17, .int .i64 st142.1)] ∧ Ext w w' ∧ w.heap.size ≤ w'.heap.size ∧ SH w' w.heap.size [aOwn fInt 2 a40 c41 x38, aOwn fInt 2 a15 c16 st142.2] ∧ loopN (m_impl_quarterSums_l1 n rows_0 x25 x38) n' st142 = some t153) n ⟨(0, x13), rfl, hb46, hL47, hS48, ht154⟩ ?_
    rintro n150 _ w143 ⟨st142, rfl, hb144, hL145, hS146, hl147⟩ K149 hK149
    obtain ⟨n151, s152, rfl, hm, hl147⟩ := loopN_some hl147
    unfold m_impl_quarterSums_l1 at hm
    refine WP.seq (fun K155 hK155 => ?_)
    refine WP.region ?_
    refine WL.runk 1 [0, 3, 4, 15, 16, 17, 18] [(0, .slice a0' rows_0.length c0'), (3, .slice a15 st142.2.length c16), (4, .int .i64 (x25.length : Int)), (15, .slice a40 x38.length c41), (16, .int .i64 (x38.length : Int)), (17, .int .i64 st142.1), (18, .bool (decide (st142.1 < (x38.length : Int))))] (by kernel_rfl) ?_
    refine WL.nil ?_
    refine WQ.then_normal (hK155 _ _ _ ?_)
    refine WP.seq (fun K156 hK156 => ?_)
    refine WP.cond (decide (st142.1 < (x38.length : Int))) rfl rfl (fun hc157 => ?_) (fun hc157 => ?_)
    · have hm := iteT hm hc157
      refine WP.skip ?_
      refine WQ.then_normal (hK156 _ _ _ ?_)
      refine WP.seq (fun K158 hK158 => ?_)
      refine WP.block ?_
      refine WP.seq (fun K159 hK159 => ?_)
      refine WP.region ?_
      refine WL.runk 1 [0, 3, 4, 15, 16, 17, 19] [(0, .slice a0' rows_0.length c0'), (3, .slice a15 st142.2.length c16), (4, .int .i64 (x25.length : Int)), (15, .slice a40 x38.length c41), (16, .int .i64 (x38.length : Int)), (17, .int .i64 st142.1), (19, .int .i64 st142.1)] (by kernel_rfl) ?_
      obtain ⟨x160, hx161, hm⟩ := bindE hm
      refine WL.st (.pointer (some (at_ a40 (Int.toNat st142.1 * 1)))) (ST.index (T := fInt.ty) (xs := x38) (SH.rd (SH.front 0 hS146)) hx161 rfl rfl rfl Try.underlying40 (info2).1 (info2).2.1) rfl rfl rfl ?_
      refine WL.st (.int .i64 x160) (ST.load (cell_ext (Rd.flat (F := fInt) (SH.rd (SH.front 0 hS146)) hx161 0 rfl)) rfl rfl Try.underlying2 rfl) rfl rfl rfl ?_
      refine WL.runk 2 [0, 3, 4, 5, 6, 15, 16, 17] [(0, .slice a0' rows_0.length c0'), (3, .slice a15 st142.2.length c16), (4, .int .i64 (x25.length : Int)), (15, .slice a40 x38.length c41), (16, .int .i64 (x38.length : Int)), (17, .int .i64 st142.1), (5, .int .i64 st142.1), (6, .int .i64 x160)] (by kernel_rfl) ?_
      refine WL.nil ?_
      refine WQ.then_normal (hK159 _ _ _ ?_)
      refine WP.seq (fun K162 hK162 => ?_)
      refine WP.quiet (by kernel_rfl) (by kernel_rfl) ?_
      refine QL.step1 rfl (env' := [(0, .slice a0' rows_0.length c0'), (3, .slice a15 st142.2.length c16), (4, .int .i64 (x25.length : Int)), (15, .slice a40 x38.length c41), (16, .int .i64 (x38.length : Int)), (17, .int .i64 st142.1), (5, .int .i64 st142.1), (6, .int .i64 x160), (22, .int .i64 st142.1)]) (fun _ => by kernel_rfl) ?_
      refine QL.step1 rfl (env' := [(0, .slice a0' rows_0.length c0'), (3, .slice a15 st142.2.length c16), (4, .int .i64 (x25.length : Int)), (15, .slice a40 x38.length c41), (16, .int .i64 (x38.length : Int)), (17, .int .i64 st142.1), (5, .int .i64 st142.1), (6, .int .i64 x160), (22, .int .i64 st142.1), (23, .int .i64 (x25.length : Int))]) (fun _ => by kernel_rfl) ?_
      obtain ⟨x163, hx164, hm⟩ := bindE hm
      refine QL.st (.int .i64 x163) (ST.quo (k := .i64) hx164 rfl rfl rfl) rfl rfl rfl ?_
      refine QL.step1 rfl (env' := [(0, .slice a0' rows_0.length c0'), (3, .slice a15 st142.2.length c16), (4, .int .i64 (x25.length : Int)), (15, .slice a40 x38.length c41), (16, .int .i64 (x38.length : Int)), (17, .int .i64 st142.1), (5, .int .i64 st142.1), (6, .int .i64 x160), (22, .int .i64 st142.1), (23, .int .i64 (x25.length : Int)), (24, .int .i64 x163), (25, .slice a0' rows_0.length c0')]) (fun _ => by kernel_rfl) ?_
      refine QL.sub [(0, .slice a0' rows_0.length c0'), (3, .slice a15 st142.2.length c16), (4, .int .i64 (x25.length : Int)), (15, .slice a40 x38.length c41), (16, .int .i64 (x38.length : Int)), (17, .int .i64 st142.1), (5, .int .i64 st142.1), (6, .int .i64 x160), (24, .int .i64 x163), (25, .slice a0' rows_0.length c0')] ⟨rfl, rfl, rfl, rfl, rfl, rfl, rfl, rfl, rfl, rfl, trivial⟩ ?_
      refine QL.step1 rfl (env' := [(0, .slice a0' rows_0.length c0'), (3, .slice a15 st142.2.length c16), (4, .int .i64 (x25.length : Int)), (15, .slice a40 x38.length c41), (16, .int .i64 (x38.length : Int)), (17, .int .i64 st142.1), (5, .int .i64 st142.1), (6, .int .i64 x160), (24, .int .i64 x163), (25, .slice a0' rows_0.length c0'), (26, .int .i64 (rows_0.length : Int))]) (fun _ => by kernel_rfl) ?_
      refine QL.sub [(0, .slice a0' rows_0.length c0'), (3, .slice a15 st142.2.length c16), (4, .int .i64 (x25.length : Int)), (15, .slice a40 x38.length c41), (16, .int .i64 (x38.length : Int)), (17, .int .i64 st142.1), (5, .int .i64 st142.1), (6, .int .i64 x160), (24, .int .i64 x163), (26, .int .i64 (rows_0.length : Int))] ⟨rfl, rfl, rfl, rfl, rfl, rfl, rfl, rfl, rfl, rfl, trivial⟩ ?_
      obtain ⟨x165, hx166, hm⟩ := bindE hm
      refine QL.call 81 #[.int .i64 x163, .int .i64 (rows_0.length : Int)] (.int .i64 x165) (fun _ => by kernel_rfl) (fun w167 hE168 => c_81 n x163 (rows_0.length : Int) w167 hx166 ) rfl rfl rfl ?_
      refine QL.step1 rfl (env' := [(0, .slice a0' rows_0.length c0'), (3, .slice a15 st142.2.length c16), (4, .int .i64 (x25.length : Int)), (15, .slice a40 x38.length c41), (16, .int .i64 (x38.length : Int)), (17, .int .i64 st142.1), (5, .int .i64 st142.1), (6, .int .i64 x160), (24, .int .i64 x163), (26, .int .i64 (rows_0.length : Int)), (27, .int .i64 x165), (28, .int .i64 st142.1)]) (fun _ => by kernel_rfl) ?_
      refine QL.sub [(0, .slice a0' rows_0.length c0'), (3, .slice a15 st142.2.length c16), (4, .int .i64 (x25.length : Int)), (15, .slice a40 x38.length c41), (16, .int .i64 (x38.length : Int)), (17, .int .i64 st142.1), (6, .int .i64 x160), (27, .int .i64 x165), (28, .int .i64 st142.1)] ⟨rfl, rfl, rfl, rfl, rfl, rfl, rfl, rfl, rfl, trivial⟩ ?_
      refine QL.step1 rfl (env' := [(0, .slice a0' rows_0.length c0'), (3, .slice a15 st142.2.length c16), (4, .int .i64 (x25.length : Int)), (15, .slice a40 x38.length c41), (16, .int .i64 (x38.length : Int)), (17, .int .i64 st142.1), (6, .int .i64 x160), (27, .int .i64 x165), (28, .int .i64 st142.1), (29, .int .i64 (x25.length : Int))]) (fun _ => by kernel_rfl) ?_
      obtain ⟨x169, hx170, hm⟩ := bindE hm
      refine QL.st (.int .i64 x169) (ST.rem (k := .i64) hx170 rfl rfl rfl) rfl rfl rfl ?_
      refine QL.step1 rfl (env' := [(0, .slice a0' rows_0.length c0'), (3, .slice a15 st142.2.length c16), (4, .int .i64 (x25.length : Int)), (15, .slice a40 x38.length c41), (16, .int .i64 (x38.length : Int)), (17, .int .i64 st142.1), (6, .int .i64 x160), (27, .int .i64 x165), (28, .int .i64 st142.1), (29, .int .i64 (x25.length : Int)), (30, .int .i64 x169), (31, .int .i64 (x25.length : Int))]) (fun _ => by kernel_rfl) ?_
      refine QL.sub [(0, .slice a0' rows_0.length c0'), (3, .slice a15 st142.2.length c16), (4, .int .i64 (x25.length : Int)), (15, .slice a40 x38.length c41), (16, .int .i64 (x38.length : Int)), (17, .int .i64 st142.1), (6, .int .i64 x160), (27, .int .i64 x165), (30, .int .i64 x169), (31, .int .i64 (x25.length : Int))] ⟨rfl, rfl, rfl, rfl, rfl, rfl, rfl, rfl, rfl, rfl, trivial⟩ ?_
      obtain ⟨x171, hx172, hm⟩ := bindE hm
      refine QL.call 81 #[.int .i64 x169, .int .i64 (x25.length : Int)] (.int .i64 x171) (fun _ => by kernel_rfl) (fun w173 hE174 => c_81 n x169 (x25.length : Int) w173 hx172 ) rfl rfl rfl ?_
      refine QL.step1 rfl (env' := [(0, .slice a0' rows_0.length c0'), (3, .slice a15 st142.2.length c16), (4, .int .i64 (x25.length : Int)), (15, .slice a40 x38.length c41), (16, .int .i64 (x38.length : Int)), (17, .int .i64 st142.1), (6, .int .i64 x160), (27, .int .i64 x165), (30, .int .i64 x169), (31, .int .i64 (x25.length : Int)), (32, .int .i64 x171), (7, .int .i64 x165)]) (fun _ => by kernel_rfl) ?_
      refine QL.sub [(0, .slice a0' rows_0.length c0'), (3, .slice a15 st142.2.length c16), (4, .int .i64 (x25.length : Int)), (15, .slice a40 x38.length c41), (16, .int .i64 (x38.length : Int)), (17, .int .i64 st142.1), (6, .int .i64 x160), (32, .int .i64 x171), (7, .int .i64 x165)] ⟨rfl, rfl, rfl, rfl, rfl, rfl, rfl, rfl, rfl, trivial⟩ ?_
      refine QL.step1 rfl (env' := [(0, .slice a0' rows_0.length c0'), (3, .slice a15 st142.2.length c16), (4, .int .i64 (x25.length : Int)), (15, .slice a40 x38.length c41), (16, .int .i64 (x38.length : Int)), (17, .int .i64 st142.1), (6, .int .i64 x160), (32, .int .i64 x171), (7, .int .i64 x165), (8, .int .i64 x171)]) (fun _ => by kernel_rfl) ?_
      refine QL.sub [(0, .slice a0' rows_0.length c0'), (3, .slice a15 st142.2.length c16), (4, .int .i64 (x25.length : Int)), (15, .slice a40 x38.length c41), (16, .int .i64 (x38.length : Int)), (17, .int .i64 st142.1), (6, .int .i64 x160), (7, .int .i64 x165), (8, .int .i64 x171)] ⟨rfl, rfl, rfl, rfl, rfl, rfl, rfl, rfl, rfl, trivial⟩ ?_
      refine QL.sub [(0, .slice a0' rows_0.length c0'), (3, .slice a15 st142.2.length c16), (4, .int .i64 (x25.length : Int)), (15, .slice a40 x38.length c41), (16, .int .i64 (x38.length : Int)), (17, .int .i64 st142.1), (6, .int .i64 x160), (7, .int .i64 x165), (8, .int .i64 x171)] ⟨rfl, rfl, rfl, rfl, rfl, rfl, rfl, rfl, rfl, trivial⟩ ?_
      refine QL.nil ?_
      intro w175 hE176
      have hb177 : Ext w w175 := Ext.trans hb144 hE176
      have hL178 : w.heap.size ≤ w175.heap.size := Nat.le_trans hL145 hE176.size
      have hS179 : SH w175 w.heap.size [aOwn fInt 2 a40 c41 x38, aOwn fInt 2 a15 c16 st142.2] := SH.ext hS146 hE176
      refine WQ.then_normal (hK162 _ _ _ ?_)
      refine WP.seq (fun K180 hK180 => ?_)
      obtain ⟨x182, hx183, hm⟩ := bindE hm
      refine WP.cut (fun env' w' => env' = [(0, .slice a0' rows_0.length c0'), (3, .slice a15 st142.2.length c16), (4, .int .i64 (x25.length : Int)), (15, .slice a40 x38.length c41), (16, .int .i64 (x38.length : Int)), (17, .int .i64 st142.1), (6, .int .i64 x160), (7, .int .i64 x165), (8, .int .i64 x171), (38, .bool x182)] ∧ Ext w w' ∧ w.heap.size ≤ w'.heap.size ∧ SH w' w.heap.size [aOwn fInt 2 a40 c41 x38, aOwn fInt 2 a15 c16 st142.2]) ?_ ?_
      · have hm := hx183; clear hx183
        refine WP.region ?_
        refine WL.runk 3 [0, 3, 4, 6, 7, 8, 15, 16, 17, 35] [(0, .slice a0' rows_0.length c0'), (3, .slice a15 st142.2.length c16), (4, .int .i64 (x25.length : Int)), (15, .slice a40 x38.length c41), (16, .int .i64 (x38.length : Int)), (17, .int .i64 st142.1), (6, .int .i64 x160), (7, .int .i64 x165), (8, .int .i64 x171), (35, .bool (decide (x165 ≥ 0)))] (by kernel_rfl) ?_
        refine WL.case (decide (x165 ≥ 0)) [35] ⟨rfl, trivial⟩ (fun hc184 => ?_) (fun hc184 => ?_)
        · have hm := iteT hm hc184
          refine WL.runk 3 [0, 3, 4, 6, 7, 8, 15, 16, 17, 38] [(0, .slice a0' rows_0.length c0'), (3, .slice a15 st142.2.length c16), (4, .int .i64 (x25.length : Int)), (15, .slice a40 x38.length c41), (16, .int .i64 (x38.length : Int)), (17, .int .i64 st142.1), (6, .int .i64 x160), (7, .int .i64 x165), (8, .int .i64 x171), (38, .bool (decide (x171 ≥ 0)))] (by kernel_rfl) ?_
          refine WL.nil ?_
          obtain rfl := Option.some.inj hm
          exact WQ.post' ⟨rfl, hb177, hL178, hS179⟩ ⟨rfl, rfl, rfl, rfl, rfl, rfl, rfl, rfl, rfl, rfl, trivial⟩
        · have hm := iteF hm hc184
          refine WL.runk 3 [0, 3, 4, 6, 7, 8, 15, 16, 17, 38] [(0, .slice a0' rows_0.length c0'), (3, .slice a15 st142.2.length c16), (4, .int .i64 (x25.length : Int)), (15, .slice a40 x38.length c41), (16, .int .i64 (x38.length : Int)), (17, .int .i64 st142.1), (6, .int .i64 x160), (7, .int .i64 x165), (8, .int .i64 x171), (38, .bool false)] (by kernel_rfl) ?_
          refine WL.nil ?_
          obtain rfl := Option.some.inj hm
          exact WQ.post' ⟨rfl, hb177, hL178, hS179⟩ ⟨rfl, rfl, rfl, rfl, rfl, rfl, rfl, rfl, rfl, rfl, trivial⟩
      · clear hx183
        rintro _ w185 ⟨rfl, hb186, hL187, hS188⟩
        refine WQ.then_normal (hK180 _ _ _ ?_)
        obtain ⟨x219, hx220, hm⟩ := bindE hm
        refine WP.cut (fun env' w' => env' = [(0, .slice a0' rows_0.length c0'), (3, .slice a15 x219.length c16), (4, .int .i64 (x25.length : Int)), (15, .slice a40 x38.length c41), (16, .int .i64 (x38.length : Int)), (17, .int .i64 st142.1)] ∧ Ext w w' ∧ w.heap.size ≤ w'.heap.size ∧ SH w' w.heap.size [aOwn fInt 2 a40 c41 x38, aOwn fInt 2 a15 c16 x219]) ?_ ?_
        · have hm := hx220; clear hx220
          refine WP.cond x182 rfl rfl (fun hc189 => ?_) (fun hc189 => ?_)
          · have hm := iteT hm hc189
            refine WP.region ?_
            refine WL.runk 5 [0, 3, 4, 6, 15, 16, 17, 39, 43] [(0, .slice a0' rows_0.length c0'), (3, .slice a15 st142.2.length c16), (4, .int .i64 (x25.length : Int)), (15, .slice a40 x38.length c41), (16, .int .i64 (x38.length : Int)), (17, .int .i64 st142.1), (6, .int .i64 x160), (39, .slice a15 st142.2.length c16), (43, .int .i64 (wI64 ((wI64 (2 * x165)) + x171)))] (by kernel_rfl) ?_
            obtain ⟨x221, hx222, hm⟩ := bindE hm
            refine WL.st (.pointer (some (at_ a15 (Int.toNat (wI64 ((wI64 (2 * x165)) + x171)) * 1)))) (ST.index (T := fInt.ty) (xs := st142.2) (SH.rd (SH.front 1 hS188)) hx222 rfl rfl rfl Try.underlying40 (info2).1 (info2).2.1) rfl rfl rfl ?_
            refine WL.st (.int .i64 x221) (ST.load (cell_ext (Rd.flat (F := fInt) (SH.rd (SH.front 1 hS188)) hx222 0 rfl)) rfl rfl Try.underlying2 rfl) rfl rfl rfl ?_
            refine WL.runk 2 [0, 3, 4, 15, 16, 17, 39, 43, 47] [(0, .slice a0' rows_0.length c0'), (3, .slice a15 st142.2.length c16), (4, .int .i64 (x25.length : Int)), (15, .slice a40 x38.length c41), (16, .int .i64 (x38.length : Int)), (17, .int .i64 st142.1), (39, .slice a15 st142.2.length c16), (43, .int .i64 (wI64 ((wI64 (2 * x165)) + x171))), (47, .int .i64 (wI64 (x221 + x160)))] (by kernel_rfl) ?_
            obtain ⟨x223, hx224, hm⟩ := bindE hm
            refine WL.st (.pointer (some (at_ a15 (Int.toNat (wI64 ((wI64 (2 * x165)) + x171)) * 1)))) (ST.index (T := fInt.ty) (xs := st142.2) (SH.rd (SH.front 1 hS188)) hx224 rfl rfl rfl Try.underlying40 (info2).1 (info2).2.1) rfl rfl rfl ?_
            refine WL.store (F := fInt) (wI64 (x221 + x160)) 0 [.int .i64 (wI64 (x221 + x160))] (SH.front 1 hS188) hL187 hx224 rfl rfl rfl rfl rfl rfl rfl (info2).1 (info2).2.1 rfl rfl rfl ?_
            intro w225 hB226 hS227
            have hb228 : Ext w w225 := Below.trans hb186 hB226
            have hL229 : w.heap.size ≤ w225.heap.size := Nat.le_trans hL187 hB226.size
            refine WL.sub [(0, .slice a0' rows_0.length c0'), (3, .slice a15 ((st142.2.set (Int.toNat (wI64 ((wI64 (2 * x165)) + x171))) (wI64 (x221 + x160))).length) c16), (4, .int .i64 (x25.length : Int)), (15, .slice a40 x38.length c41), (16, .int .i64 (x38.length : Int)), (17, .int .i64 st142.1), (39, .slice a15 ((st142.2.set (Int.toNat (wI64 ((wI64 (2 * x165)) + x171))) (wI64 (x221 + x160))).length) c16), (43, .int .i64 (wI64 ((wI64 (2 * x165)) + x171))), (47, .int .i64 (wI64 (x221 + x160)))] ⟨rfl, by first | (simp only [List.length_set]; done) | (simp only [List.length_set]; rfl), rfl, rfl, rfl, rfl, by first | (simp only [List.length_set]; done) | (simp only [List.length_set]; rfl), rfl, rfl, trivial⟩ ?_
            refine WL.sub [(0, .slice a0' rows_0.length c0'), (3, .slice a15 ((st142.2.set (Int.toNat (wI64 ((wI64 (2 * x165)) + x171))) (wI64 (x221 + x160))).length) c16), (4, .int .i64 (x25.length : Int)), (15, .slice a40 x38.length c41), (16, .int .i64 (x38.length : Int)), (17, .int .i64 st142.1)] ⟨rfl, rfl, rfl, rfl, rfl, rfl, trivial⟩ ?_
            refine WL.nil ?_
            obtain rfl := Option.some.inj hm
            exact WQ.post' ⟨rfl, hb228, hL229, (SH.front 1 hS227)⟩ ⟨rfl, rfl, rfl, rfl, rfl, rfl, trivial⟩
          · have hm := iteF hm hc189
            refine WP.skip ?_
            obtain rfl := Option.some.inj hm
            exact WQ.post' ⟨rfl, hb186, hL187, hS188⟩ ⟨rfl, rfl, rfl, rfl, rfl, rfl, trivial⟩
        · clear hx220
          rintro _ w230 ⟨rfl, hb231, hL232, hS233⟩
          refine WQ.block_normal ?_
          refine WQ.then_normal (hK158 _ _ _ ?_)
          refine WP.region ?_
          refine WL.runk 2 [0, 3, 4, 15, 16, 17] [(0, .slice a0' rows_0.length c0'), (3, .slice a15 x219.length c16), (4, .int .i64 (x25.length : Int)), (15, .slice a40 x38.length c41), (16, .int .i64 (x38.length : Int)), (17, .int .i64 (wI64 (st142.1 + 1)))] (by kernel_rfl) ?_
          refine WL.nil ?_
          obtain rfl := Option.some.inj hm
          exact WQ.round hK149 ⟨((wI64 (st142.1 + 1)), x219), rfl, hb231, hL232, hS233, hl147⟩ (Nat.lt_succ_self _) ⟨rfl, rfl, rfl, rfl, rfl, rfl, trivial⟩
    · have hm := iteF hm hc157
      refine WP.exit ?_
      refine WQ.then_exit ?_
      refine WQ.then_exit ?_
      refine WQ.block_here ?_
      obtain rfl := Option.some.inj hm
      obtain rfl := afterN_done hl147
      have hm := hmo148
      refine WQ.then_normal (hK36 _ _ _ ?_)
      refine WP.seq (fun K234 hK234 => ?_)
      refine WP.region ?_
      refine WL.runk 2 [2] [(2, .slice a15 st142.2.length c16)] (by kernel_rfl) ?_
      refine WL.nil ?_
      refine WQ.then_normal (hK234 _ _ _ ?_)
      refine WP.ret ?_
      obtain rfl := Option.some.inj hm
      exact WQ.ret1 _ rfl rfl ⟨_, _, rfl, hb144, (SH.take 1 (SH.front 1 hS146))⟩

theorem c_66 (n : Nat) (list_0 : List Int) (a0' : Option Addr) (c0' : Nat) (w : World) {r : Int} (hm : m_impl_sumOf n list_0 = some r) (h0 : Rd fInt.ty w a0' list_0) (hle0 : list_0.length ≤ c0') :
    CallV Try.prog 66 #[.slice a0' list_0.length c0'] w (fun v w' => v = .int .i64 r ∧ Ext w w') := by
  unfold m_impl_sumOf at hm
  refine CallV.enter Try.func66 rfl (by kernel_rfl) Try.ntmps66 (env := [(0, .slice a0' list_0.length c0')]) ⟨rfl, trivial⟩ ?_
  refine WP.seq (fun K1 hK1 => ?_)
  refine WP.region ?_
  refine WL.runk 1 [0] [(0, .slice a0' list_0.length c0')] (by kernel_rfl) ?_
  refine WL.nil ?_
  refine WQ.then_normal (hK1 _ _ _ ?_)
  refine WP.seq (fun K2 hK2 => ?_)
  refine WP.region ?_
  refine WL.runk 1 [0, 3] [(0, .slice a0' list_0.length c0'), (3, .int .i64 0)] (by kernel_rfl) ?_
  refine WL.nil ?_
  refine WQ.then_normal (hK2 _ _ _ ?_)
  refine WP.seq (fun K3 hK3 => ?_)
  refine WP.seq (fun K4 hK4 => ?_)
  refine WP.region ?_
  refine WL.runk 3 [3, 6, 7, 8] [(3, .int .i64 0), (6, .slice a0' list_0.length c0'), (7, .int .i64 (list_0.length : Int)), (8, .int .i64 0)] (by kernel_rfl) ?_
  refine WL.nil ?_
  refine WQ.then_normal (hK4 _ _ _ ?_)
  refine WP.block ?_
  obtain ⟨t16, ht17, hm⟩ := bindE hm
  have hmo11 := hm; clear hm
  refine WP.sub [(3, .int .i64 0), (6, .slice a0' list_0.length c0'), (7, .int .i64 (list_0.length : Int)), (8, .int .i64 0)] ⟨rfl, rfl, rfl, rfl, trivial⟩ ?_
  refine WP.loop (fun n' env' w' => ∃ (st5 : Int × Int) , env' = [(3, .int .i64 st5.1), (6, .slice a0' list_0.length c0'), (7, .int .i64 (list_0.length : Int)), (8, .int .i64 st5.2)] ∧ Ext w w' ∧ w.heap.size ≤ w'.heap.size ∧ SH w' w.heap.size [] ∧ loopN (m_impl_sumOf_l1 n list_0) n' st5 = some t16) n ⟨(0, 0), rfl, (Ext.refl w), (Nat.le_refl _), (SH.nil _ _), ht17⟩ ?_
  rintro n13 _ w6 ⟨st5, rfl, hb7, hL8, hS9, hl10⟩ K12 hK12
  obtain ⟨n14, s15, rfl, hm, hl10⟩ := loopN_some hl10
  unfold m_impl_sumOf_l1 at hm
  refine WP.seq (fun K18 hK18 => ?_)
  refine WP.region ?_
  refine WL.runk 1 [3, 6, 7, 8, 9] [(3, .int .i64 st5.1), (6, .slice a0' list_0.length c0'), (7, .int .i64 (list_0.length : Int)), (8, .int .i64 st5.2), (9, .bool (decide (st5.2 < (list_0.length : Int))))] (by kernel_rfl) ?_
  refine WL.nil ?_
  refine WQ.then_normal (hK18 _ _ _ ?_)
  refine WP.seq (fun K19 hK19 => ?_)
  refine WP.cond (decide (st5.2 < (list_0.length : Int))) rfl rfl (fun hc20 => ?_) (fun hc20 => ?_)
  · have hm := iteT hm hc20
    refine WP.skip ?_
    refine WQ.then_normal (hK19 _ _ _ ?_)
    refine WP.seq (fun K21 hK21 => ?_)
    refine WP.block ?_
    refine WP.seq (fun K22 hK22 => ?_)
    refine WP.region ?_
    obtain ⟨x23, hx24, hm⟩ := bindE hm
    refine WL.st (.pointer (some (at_ a0' (Int.toNat st5.2 * 1)))) (ST.index (T := fInt.ty) (xs := list_0) (Rd.below h0 hb7) hx24 rfl rfl rfl Try.underlying40 (info2).1 (info2).2.1) rfl rfl rfl ?_
    refine WL.st (.int .i64 x23) (ST.load (cell_ext (Rd.flat (F := fInt) (Rd.below h0 hb7) hx24 0 rfl)) rfl rfl Try.underlying2 rfl) rfl rfl rfl ?_
    refine WL.runk 1 [3, 5, 6, 7, 8] [(3, .int .i64 st5.1), (6, .slice a0' list_0.length c0'), (7, .int .i64 (list_0.length : Int)), (8, .int .i64 st5.2), (5, .int .i64 x23)] (by kernel_rfl) ?_
    refine WL.nil ?_
    refine WQ.then_normal (hK22 _ _ _ ?_)
    refine WP.region ?_
    refine WL.runk 4 [3, 6, 7, 8] [(3, .int .i64 (wI64 (st5.1 + x23))), (6, .slice a0' list_0.length c0'), (7, .int .i64 (list_0.length : Int)), (8, .int .i64 st5.2)] (by kernel_rfl) ?_
    refine WL.nil ?_
    refine WQ.block_normal ?_
    refine WQ.then_normal (hK21 _ _ _ ?_)
    refine WP.region ?_
    refine WL.runk 2 [3, 6, 7, 8] [(3, .int .i64 (wI64 (st5.1 + x23))), (6, .slice a0' list_0.length c0'), (7, .int .i64 (list_0.length : Int)), (8, .int .i64 (wI64 (st5.2 + 1)))] (by kernel_rfl) ?_
    refine WL.nil ?_
    obtain rfl := Option.some.inj hm
    exact WQ.round hK12 ⟨((wI64 (st5.1 + x23)), (wI64 (st5.2 + 1))), rfl, hb7, hL8, hS9, hl10⟩ (Nat.lt_succ_self _) ⟨rfl, rfl, rfl, rfl, trivial⟩
  · have hm := iteF hm hc20
    refine WP.exit ?_
    refine WQ.then_exit ?_
    refine WQ.then_exit ?_
    refine WQ.block_here ?_
    obtain rfl := Option.some.inj hm
    obtain rfl := afterN_done hl10
    have hm := hmo11
    refine WQ.then_normal (hK3 _ _ _ ?_)
    refine WP.seq (fun K25 hK25 => ?_)
    refine WP.region ?_
    refine WL.runk 2 [2] [(2, .int .i64 st5.1)] (by kernel_rfl) ?_
    refine WL.nil ?_
    refine WQ.then_normal (hK25 _ _ _ ?_)
    refine WP.ret ?_
    obtain rfl := Option.some.inj hm
    exact WQ.ret1 _ rfl rfl ⟨rfl, hb7⟩

end Go.Proofs.Ytoljnpoiclklpaa
