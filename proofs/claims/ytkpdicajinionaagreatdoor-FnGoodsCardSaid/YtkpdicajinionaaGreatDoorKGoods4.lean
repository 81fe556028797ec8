/- Each call does what its Lean function says. -/
import Derived.Test.YtkpdicajinionaaGreatDoorKGoods3
set_option maxRecDepth 20000
set_option maxHeartbeats 40000000
namespace Go.Proofs.YtkpdicajinionaaGreatDoor
open Go Go.Gv Go.RowKit

theorem c_3 (n : Nat) (code_0 : List Int) (a0' : Option Addr) (c0' : Nat) (w : World) {r : Bool} (hm : m_laws_FnGoods n code_0 = some r) (hG : GL 4 w) (h0 : Rd fU8.ty w a0' code_0) (hle0 : code_0.length ≤ c0') :
    CallV Tryz.prog 3 #[.slice a0' code_0.length c0'] w (fun v w' => v = .bool r ∧ Ext w w') := by
  unfold m_laws_FnGoods at hm
  refine CallV.enter Tryz.func3 rfl (by kernel_rfl) Tryz.ntmps3 (env := [(0, .slice a0' code_0.length c0')]) ⟨rfl, trivial⟩ ?_
  refine WP.seq (fun K1 hK1 => ?_)
  refine WP.region ?_
  refine WL.runk 1 [0] [(0, .slice a0' code_0.length c0')] (by kernel_rfl) ?_
  refine WL.nil ?_
  refine WQ.then_normal (hK1 _ _ _ ?_)
  refine WP.seq (fun K2 hK2 => ?_)
  refine WP.seq (fun K3 hK3 => ?_)
  refine WP.region ?_
  refine WL.runk 1 [0, 39] [(0, .slice a0' code_0.length c0'), (39, .slice a0' code_0.length c0')] (by kernel_rfl) ?_
  obtain ⟨x4, hx5, hm⟩ := bindE hm
  refine WL.call 4 #[.slice a0' code_0.length c0'] rfl rfl (by kernel_rfl) (c_4 n code_0 a0' c0' w hx5 (Rd.below h0 (Ext.refl w)) hle0) ?_
  rintro _ w6 ⟨rfl, hE7⟩
  refine ⟨_, rfl, ?_⟩
  have hb9 : Ext w w6 := Ext.trans (Ext.refl w) hE7
  have hL10 : w.heap.size ≤ w6.heap.size := Nat.le_trans (Nat.le_refl _) hE7.size
  have hS11 : SH w6 w.heap.size [] := SH.ext (SH.nil _ _) hE7
  refine WL.sub [(0, .slice a0' code_0.length c0'), (40, .bool x4)] ⟨rfl, rfl, trivial⟩ ?_
  refine WL.nil ?_
  refine WQ.then_normal (hK3 _ _ _ ?_)
  refine WP.cond x4 rfl rfl (fun hc12 => ?_) (fun hc12 => ?_)
  · have hm := iteT hm hc12
    refine WP.seq (fun K13 hK13 => ?_)
    refine WP.region ?_
    refine WL.runk 1 [2] [(2, .bool true)] (by kernel_rfl) ?_
    refine WL.nil ?_
    refine WQ.then_normal (hK13 _ _ _ ?_)
    refine WP.ret ?_
    refine WQ.then_ret ?_
    obtain rfl := Option.some.inj hm
    exact WQ.ret1 _ rfl rfl ⟨rfl, hb9⟩
  have hm := iteF hm hc12
  refine WP.skip ?_
  refine WQ.then_normal (hK2 _ _ _ ?_)
  refine WP.seq (fun K14 hK14 => ?_)
  refine WP.region ?_
  refine WL.runk 1 [0, 42] [(0, .slice a0' code_0.length c0'), (42, .slice a0' code_0.length c0')] (by kernel_rfl) ?_
  obtain ⟨x15, hx16, hm⟩ := bindE hm
  refine WL.call 5 #[.slice a0' code_0.length c0'] rfl rfl (by kernel_rfl) (c_5 n code_0 a0' c0' w6 hx16 (Rd.below h0 hb9) hle0) ?_
  rintro _ w23 ⟨a17, c18, a20, c21, rfl, hE24, hR25⟩
  refine ⟨_, rfl, ?_⟩
  have hb26 : Ext w w23 := Ext.trans hb9 hE24
  have hL27 : w.heap.size ≤ w23.heap.size := Nat.le_trans hL10 hE24.size
  have hS28 : SH w23 w.heap.size [aOwn fGood 31 a17 c18 x15.1, aOwn fTake 37 a20 c21 x15.2] := SH.add hS11 hE24 hL10 hR25
  refine WL.runk 5 [0, 3, 4] [(0, .slice a0' code_0.length c0'), (3, .slice a17 x15.1.length c18), (4, .slice a20 x15.2.length c21)] (by kernel_rfl) ?_
  refine WL.nil ?_
  refine WQ.then_normal (hK14 _ _ _ ?_)
  refine WP.seq (fun K29 hK29 => ?_)
  refine WP.region ?_
  refine WL.runk 2 [0, 3, 4, 47, 48] [(0, .slice a0' code_0.length c0'), (3, .slice a17 x15.1.length c18), (4, .slice a20 x15.2.length c21), (47, .slice a17 x15.1.length c18), (48, .slice a20 x15.2.length c21)] (by kernel_rfl) ?_
  obtain ⟨x30, hx31, hm⟩ := bindE hm
  refine WL.call 6 #[.slice a17 x15.1.length c18, .slice a20 x15.2.length c21] rfl rfl (by kernel_rfl) (c_6 n x15.1 a17 c18 x15.2 a20 c21 w23 hx31 (SH.rd (SH.front 0 hS28)) (SH.le (SH.front 0 hS28)).1 (SH.rd (SH.front 1 hS28)) (SH.le (SH.front 1 hS28)).1) ?_
  rintro _ w35 ⟨a32, c33, rfl, hE36, hR37⟩
  refine ⟨_, rfl, ?_⟩
  have hb38 : Ext w w35 := Ext.trans hb26 hE36
  have hL39 : w.heap.size ≤ w35.heap.size := Nat.le_trans hL27 hE36.size
  have hS40 : SH w35 w.heap.size [aOwn fGood 31 a32 c33 x30.1, aOwn fGood 31 a17 c18 x15.1, aOwn fTake 37 a20 c21 x15.2] := SH.add hS28 hE36 hL27 hR37
  refine WL.runk 7 [0, 3, 4, 5, 6, 7] [(0, .slice a0' code_0.length c0'), (3, .slice a17 x15.1.length c18), (4, .slice a20 x15.2.length c21), (5, .slice a32 x30.1.length c33), (6, .int .i64 x30.2.1), (7, .int .i64 x30.2.2)] (by kernel_rfl) ?_
  refine WL.nil ?_
  refine WQ.then_normal (hK29 _ _ _ ?_)
  refine WP.seq (fun K41 hK41 => ?_)
  refine WP.region ?_
  refine WL.runk 2 [0, 3, 4, 5, 6, 7, 54, 55] [(0, .slice a0' code_0.length c0'), (3, .slice a17 x15.1.length c18), (4, .slice a20 x15.2.length c21), (5, .slice a32 x30.1.length c33), (6, .int .i64 x30.2.1), (7, .int .i64 x30.2.2), (54, .slice a17 x15.1.length c18), (55, .slice a20 x15.2.length c21)] (by kernel_rfl) ?_
  obtain ⟨x42, hx43, hm⟩ := bindE hm
  refine WL.call 7 #[.slice a17 x15.1.length c18, .slice a20 x15.2.length c21] rfl rfl (by kernel_rfl) (c_7 n x15.1 a17 c18 x15.2 a20 c21 w35 hx43 (SH.rd (SH.front 1 hS40)) (SH.le (SH.front 1 hS40)).1 (SH.rd (SH.front 2 hS40)) (SH.le (SH.front 2 hS40)).1) ?_
  rintro _ w47 ⟨a44, c45, rfl, hE48, hR49⟩
  refine ⟨_, rfl, ?_⟩
  have hb50 : Ext w w47 := Ext.trans hb38 hE48
  have hL51 : w.heap.size ≤ w47.heap.size := Nat.le_trans hL39 hE48.size
  have hS52 : SH w47 w.heap.size [aOwn fGood 31 a44 c45 x42.1, aOwn fGood 31 a32 c33 x30.1, aOwn fGood 31 a17 c18 x15.1, aOwn fTake 37 a20 c21 x15.2] := SH.add hS40 hE48 hL39 hR49
  refine WL.runk 7 [0, 3, 4, 5, 6, 7, 8, 9, 10] [(0, .slice a0' code_0.length c0'), (3, .slice a17 x15.1.length c18), (4, .slice a20 x15.2.length c21), (5, .slice a32 x30.1.length c33), (6, .int .i64 x30.2.1), (7, .int .i64 x30.2.2), (8, .slice a44 x42.1.length c45), (9, .int .i64 x42.2.1), (10, .int .i64 x42.2.2)] (by kernel_rfl) ?_
  refine WL.nil ?_
  refine WQ.then_normal (hK41 _ _ _ ?_)
  refine WP.seq (fun K53 hK53 => ?_)
  refine WP.region ?_
  refine WL.runk 1 [0, 3, 4, 5, 6, 7, 8, 9, 10, 61] [(0, .slice a0' code_0.length c0'), (3, .slice a17 x15.1.length c18), (4, .slice a20 x15.2.length c21), (5, .slice a32 x30.1.length c33), (6, .int .i64 x30.2.1), (7, .int .i64 x30.2.2), (8, .slice a44 x42.1.length c45), (9, .int .i64 x42.2.1), (10, .int .i64 x42.2.2), (61, .slice a0' code_0.length c0')] (by kernel_rfl) ?_
  obtain ⟨x54, hx55, hm⟩ := bindE hm
  refine WL.call 8 #[.slice a0' code_0.length c0'] rfl rfl (by kernel_rfl) (c_8 n code_0 a0' c0' w47 hx55 (Rd.below h0 hb50) hle0) ?_
  rintro _ w59 ⟨a56, c57, rfl, hE60, hR61⟩
  refine ⟨_, rfl, ?_⟩
  have hb62 : Ext w w59 := Ext.trans hb50 hE60
  have hL63 : w.heap.size ≤ w59.heap.size := Nat.le_trans hL51 hE60.size
  have hS64 : SH w59 w.heap.size [aOwn fGood 31 a56 c57 x54.1, aOwn fGood 31 a44 c45 x42.1, aOwn fGood 31 a32 c33 x30.1, aOwn fGood 31 a17 c18 x15.1, aOwn fTake 37 a20 c21 x15.2] := SH.add hS52 hE60 hL51 hR61
  refine WL.runk 3 [0, 3, 4, 5, 6, 7, 8, 9, 10, 63, 64] [(0, .slice a0' code_0.length c0'), (3, .slice a17 x15.1.length c18), (4, .slice a20 x15.2.length c21), (5, .slice a32 x30.1.length c33), (6, .int .i64 x30.2.1), (7, .int .i64 x30.2.2), (8, .slice a44 x42.1.length c45), (9, .int .i64 x42.2.1), (10, .int .i64 x42.2.2), (63, .slice a56 x54.1.length c57), (64, .agg #[.string (bs x54.2.Name), .int .i64 x54.2.OnHand, .int .i64 x54.2.Reserved, .int .i64 x54.2.Least])] (by kernel_rfl) ?_
  refine WL.box 31 [.string (bs []), .int .i64 0, .int .i64 0, .int .i64 0] 12 (by kernel_rfl) rfl rfl rfl rfl ?_
  intro b65 w66 hE67 hR68
  have hb70 : Ext w w66 := Ext.trans hb62 hE67
  have hL71 : w.heap.size ≤ w66.heap.size := Nat.le_trans hL63 hE67.size
  have hS72 : SH w66 w.heap.size [aBox 31 b65 [.string (bs []), .int .i64 0, .int .i64 0, .int .i64 0], aOwn fGood 31 a56 c57 x54.1, aOwn fGood 31 a44 c45 x42.1, aOwn fGood 31 a32 c33 x30.1, aOwn fGood 31 a17 c18 x15.1, aOwn fTake 37 a20 c21 x15.2] := SH.add hS64 hE67 hL63 hR68
  refine WL.runk 1 [0, 3, 4, 5, 6, 7, 8, 9, 10, 11, 12, 64] [(0, .slice a0' code_0.length c0'), (3, .slice a17 x15.1.length c18), (4, .slice a20 x15.2.length c21), (5, .slice a32 x30.1.length c33), (6, .int .i64 x30.2.1), (7, .int .i64 x30.2.2), (8, .slice a44 x42.1.length c45), (9, .int .i64 x42.2.1), (10, .int .i64 x42.2.2), (64, .agg #[.string (bs x54.2.Name), .int .i64 x54.2.OnHand, .int .i64 x54.2.Reserved, .int .i64 x54.2.Least]), (12, .pointer (some ⟨b65, 0, none⟩)), (11, .slice a56 x54.1.length c57)] (by kernel_rfl) ?_
  refine WL.boxStore 0 [.string (bs x54.2.Name), .int .i64 x54.2.OnHand, .int .i64 x54.2.Reserved, .int .i64 x54.2.Least] [.string (bs x54.2.Name), .int .i64 x54.2.OnHand, .int .i64 x54.2.Reserved, .int .i64 x54.2.Least] (SH.front 0 hS72) hL71 rfl rfl rfl rfl rfl rfl rfl (info31).1 (info31).2.1 rfl rfl rfl ?_
  intro w73 hB74 hS75
  have hb76 : Ext w w73 := Below.trans hb70 hB74
  have hL77 : w.heap.size ≤ w73.heap.size := Nat.le_trans hL71 hB74.size
  refine WL.sub [(0, .slice a0' code_0.length c0'), (3, .slice a17 x15.1.length c18), (4, .slice a20 x15.2.length c21), (5, .slice a32 x30.1.length c33), (6, .int .i64 x30.2.1), (7, .int .i64 x30.2.2), (8, .slice a44 x42.1.length c45), (9, .int .i64 x42.2.1), (10, .int .i64 x42.2.2), (12, .pointer (some ⟨b65, 0, none⟩)), (11, .slice a56 x54.1.length c57)] ⟨rfl, rfl, rfl, rfl, rfl, rfl, rfl, rfl, rfl, rfl, rfl, trivial⟩ ?_
  refine WL.nil ?_
  refine WQ.then_normal (hK53 _ _ _ ?_)
  refine WP.seq (fun K78 hK78 => ?_)
  refine WP.region ?_
  refine WL.runk 1 [0, 3, 4, 5, 6, 7, 8, 9, 10, 11, 12, 66] [(0, .slice a0' code_0.length c0'), (3, .slice a17 x15.1.length c18), (4, .slice a20 x15.2.length c21), (5, .slice a32 x30.1.length c33), (6, .int .i64 x30.2.1), (7, .int .i64 x30.2.2), (8, .slice a44 x42.1.length c45), (9, .int .i64 x42.2.1), (10, .int .i64 x42.2.2), (12, .pointer (some ⟨b65, 0, none⟩)), (11, .slice a56 x54.1.length c57), (66, .slice a56 x54.1.length c57)] (by kernel_rfl) ?_
  refine WL.st (.agg #[.string (bs x54.2.Name), .int .i64 x54.2.OnHand, .int .i64 x54.2.Reserved, .int .i64 x54.2.Least]) (ST.loadAgg (vs := [.string (bs x54.2.Name), .int .i64 x54.2.OnHand, .int .i64 x54.2.Reserved, .int .i64 x54.2.Least]) (fun j v hv => SH.boxPart (us := [.string (bs x54.2.Name), .int .i64 x54.2.OnHand, .int .i64 x54.2.Reserved, .int .i64 x54.2.Least]) (SH.front 0 hS75) 0 rfl j v hv) rfl rfl rfl Tryz.underlying31 rfl (info31).1 (info31).2.1) rfl rfl rfl ?_
  obtain ⟨x79, hx80, hm⟩ := bindE hm
  refine WL.call 9 #[.slice a56 x54.1.length c57, .agg #[.string (bs x54.2.Name), .int .i64 x54.2.OnHand, .int .i64 x54.2.Reserved, .int .i64 x54.2.Least]] rfl rfl (by kernel_rfl) (c_9 n x54.1 a56 c57 x54.2 w73 hx80 (SH.rd (SH.front 1 hS75)) (SH.le (SH.front 1 hS75)).1) ?_
  rintro _ w84 ⟨a81, c82, rfl, hE85, hR86⟩
  refine ⟨_, rfl, ?_⟩
  have hb87 : Ext w w84 := Ext.trans hb76 hE85
  have hL88 : w.heap.size ≤ w84.heap.size := Nat.le_trans hL77 hE85.size
  have hS89 : SH w84 w.heap.size [aOwn fGood 31 a81 c82 x79.1, aBox 31 b65 [.string (bs x54.2.Name), .int .i64 x54.2.OnHand, .int .i64 x54.2.Reserved, .int .i64 x54.2.Least], aOwn fGood 31 a56 c57 x54.1, aOwn fGood 31 a44 c45 x42.1, aOwn fGood 31 a32 c33 x30.1, aOwn fGood 31 a17 c18 x15.1, aOwn fTake 37 a20 c21 x15.2] := SH.add hS75 hE85 hL77 hR86
  refine WL.runk 5 [0, 3, 4, 5, 6, 7, 8, 9, 10, 11, 12, 13, 14] [(0, .slice a0' code_0.length c0'), (3, .slice a17 x15.1.length c18), (4, .slice a20 x15.2.length c21), (5, .slice a32 x30.1.length c33), (6, .int .i64 x30.2.1), (7, .int .i64 x30.2.2), (8, .slice a44 x42.1.length c45), (9, .int .i64 x42.2.1), (10, .int .i64 x42.2.2), (12, .pointer (some ⟨b65, 0, none⟩)), (11, .slice a56 x54.1.length c57), (13, .slice a81 x79.1.length c82), (14, .int .i64 x79.2)] (by kernel_rfl) ?_
  refine WL.nil ?_
  refine WQ.then_normal (hK78 _ _ _ ?_)
  refine WP.seq (fun K90 hK90 => ?_)
  refine WP.region ?_
  refine WL.runk 1 [0, 3, 4, 5, 6, 7, 8, 9, 10, 11, 12, 13, 14, 72] [(0, .slice a0' code_0.length c0'), (3, .slice a17 x15.1.length c18), (4, .slice a20 x15.2.length c21), (5, .slice a32 x30.1.length c33), (6, .int .i64 x30.2.1), (7, .int .i64 x30.2.2), (8, .slice a44 x42.1.length c45), (9, .int .i64 x42.2.1), (10, .int .i64 x42.2.2), (12, .pointer (some ⟨b65, 0, none⟩)), (11, .slice a56 x54.1.length c57), (13, .slice a81 x79.1.length c82), (14, .int .i64 x79.2), (72, .slice a56 x54.1.length c57)] (by kernel_rfl) ?_
  refine WL.st (.agg #[.string (bs x54.2.Name), .int .i64 x54.2.OnHand, .int .i64 x54.2.Reserved, .int .i64 x54.2.Least]) (ST.loadAgg (vs := [.string (bs x54.2.Name), .int .i64 x54.2.OnHand, .int .i64 x54.2.Reserved, .int .i64 x54.2.Least]) (fun j v hv => SH.boxPart (us := [.string (bs x54.2.Name), .int .i64 x54.2.OnHand, .int .i64 x54.2.Reserved, .int .i64 x54.2.Least]) (SH.front 1 hS89) 0 rfl j v hv) rfl rfl rfl Tryz.underlying31 rfl (info31).1 (info31).2.1) rfl rfl rfl ?_
  obtain ⟨x91, hx92, hm⟩ := bindE hm
  refine WL.call 10 #[.slice a56 x54.1.length c57, .agg #[.string (bs x54.2.Name), .int .i64 x54.2.OnHand, .int .i64 x54.2.Reserved, .int .i64 x54.2.Least]] rfl rfl (by kernel_rfl) (c_10 n x54.1 a56 c57 x54.2 w84 hx92 (SH.rd (SH.front 2 hS89)) (SH.le (SH.front 2 hS89)).1) ?_
  rintro _ w96 ⟨a93, c94, rfl, hE97, hR98⟩
  refine ⟨_, rfl, ?_⟩
  have hb99 : Ext w w96 := Ext.trans hb87 hE97
  have hL100 : w.heap.size ≤ w96.heap.size := Nat.le_trans hL88 hE97.size
  have hS101 : SH w96 w.heap.size [aOwn fGood 31 a93 c94 x91.1, aOwn fGood 31 a81 c82 x79.1, aBox 31 b65 [.string (bs x54.2.Name), .int .i64 x54.2.OnHand, .int .i64 x54.2.Reserved, .int .i64 x54.2.Least], aOwn fGood 31 a56 c57 x54.1, aOwn fGood 31 a44 c45 x42.1, aOwn fGood 31 a32 c33 x30.1, aOwn fGood 31 a17 c18 x15.1, aOwn fTake 37 a20 c21 x15.2] := SH.add hS89 hE97 hL88 hR98
  refine WL.runk 5 [0, 3, 4, 5, 6, 7, 8, 9, 10, 11, 13, 14, 15, 16] [(0, .slice a0' code_0.length c0'), (3, .slice a17 x15.1.length c18), (4, .slice a20 x15.2.length c21), (5, .slice a32 x30.1.length c33), (6, .int .i64 x30.2.1), (7, .int .i64 x30.2.2), (8, .slice a44 x42.1.length c45), (9, .int .i64 x42.2.1), (10, .int .i64 x42.2.2), (11, .slice a56 x54.1.length c57), (13, .slice a81 x79.1.length c82), (14, .int .i64 x79.2), (15, .slice a93 x91.1.length c94), (16, .int .i64 x91.2)] (by kernel_rfl) ?_
  refine WL.nil ?_
  refine WQ.then_normal (hK90 _ _ _ ?_)
  refine WP.seq (fun K102 hK102 => ?_)
  refine WP.region ?_
  refine WL.runk 1 [0, 3, 4, 5, 6, 7, 8, 9, 10, 11, 13, 14, 15, 16, 78] [(0, .slice a0' code_0.length c0'), (3, .slice a17 x15.1.length c18), (4, .slice a20 x15.2.length c21), (5, .slice a32 x30.1.length c33), (6, .int .i64 x30.2.1), (7, .int .i64 x30.2.2), (8, .slice a44 x42.1.length c45), (9, .int .i64 x42.2.1), (10, .int .i64 x42.2.2), (11, .slice a56 x54.1.length c57), (13, .slice a81 x79.1.length c82), (14, .int .i64 x79.2), (15, .slice a93 x91.1.length c94), (16, .int .i64 x91.2), (78, .slice a0' code_0.length c0')] (by kernel_rfl) ?_
  obtain ⟨x103, hx104, hm⟩ := bindE hm
  refine WL.call 11 #[.slice a0' code_0.length c0'] rfl rfl (by kernel_rfl) (c_11 n code_0 a0' c0' w96 hx104 (Rd.below h0 hb99) hle0) ?_
  rintro _ w108 ⟨a105, c106, rfl, hE109, hR110⟩
  refine ⟨_, rfl, ?_⟩
  have hb111 : Ext w w108 := Ext.trans hb99 hE109
  have hL112 : w.heap.size ≤ w108.heap.size := Nat.le_trans hL100 hE109.size
  have hS113 : SH w108 w.heap.size [aOwn fGood 31 a105 c106 x103.1, aOwn fGood 31 a93 c94 x91.1, aOwn fGood 31 a81 c82 x79.1, aBox 31 b65 [.string (bs x54.2.Name), .int .i64 x54.2.OnHand, .int .i64 x54.2.Reserved, .int .i64 x54.2.Least], aOwn fGood 31 a56 c57 x54.1, aOwn fGood 31 a44 c45 x42.1, aOwn fGood 31 a32 c33 x30.1, aOwn fGood 31 a17 c18 x15.1, aOwn fTake 37 a20 c21 x15.2] := SH.add hS101 hE109 hL100 hR110
  refine WL.runk 3 [0, 3, 4, 5, 6, 7, 8, 9, 10, 11, 13, 14, 15, 16, 80, 81] [(0, .slice a0' code_0.length c0'), (3, .slice a17 x15.1.length c18), (4, .slice a20 x15.2.length c21), (5, .slice a32 x30.1.length c33), (6, .int .i64 x30.2.1), (7, .int .i64 x30.2.2), (8, .slice a44 x42.1.length c45), (9, .int .i64 x42.2.1), (10, .int .i64 x42.2.2), (11, .slice a56 x54.1.length c57), (13, .slice a81 x79.1.length c82), (14, .int .i64 x79.2), (15, .slice a93 x91.1.length c94), (16, .int .i64 x91.2), (80, .slice a105 x103.1.length c106), (81, .agg #[.string (bs x103.2.Name), .int .i64 x103.2.Many])] (by kernel_rfl) ?_
  refine WL.box 37 [.string (bs []), .int .i64 0] 18 (by kernel_rfl) rfl rfl rfl rfl ?_
  intro b114 w115 hE116 hR117
  have hb119 : Ext w w115 := Ext.trans hb111 hE116
  have hL120 : w.heap.size ≤ w115.heap.size := Nat.le_trans hL112 hE116.size
  have hS121 : SH w115 w.heap.size [aBox 37 b114 [.string (bs []), .int .i64 0], aOwn fGood 31 a105 c106 x103.1, aOwn fGood 31 a93 c94 x91.1, aOwn fGood 31 a81 c82 x79.1, aBox 31 b65 [.string (bs x54.2.Name), .int .i64 x54.2.OnHand, .int .i64 x54.2.Reserved, .int .i64 x54.2.Least], aOwn fGood 31 a56 c57 x54.1, aOwn fGood 31 a44 c45 x42.1, aOwn fGood 31 a32 c33 x30.1, aOwn fGood 31 a17 c18 x15.1, aOwn fTake 37 a20 c21 x15.2] := SH.add hS113 hE116 hL112 hR117
  refine WL.runk 1 [0, 3, 4, 5, 6, 7, 8, 9, 10, 11, 13, 14, 15, 16, 17, 18, 81] [(0, .slice a0' code_0.length c0'), (3, .slice a17 x15.1.length c18), (4, .slice a20 x15.2.length c21), (5, .slice a32 x30.1.length c33), (6, .int .i64 x30.2.1), (7, .int .i64 x30.2.2), (8, .slice a44 x42.1.length c45), (9, .int .i64 x42.2.1), (10, .int .i64 x42.2.2), (11, .slice a56 x54.1.length c57), (13, .slice a81 x79.1.length c82), (14, .int .i64 x79.2), (15, .slice a93 x91.1.length c94), (16, .int .i64 x91.2), (81, .agg #[.string (bs x103.2.Name), .int .i64 x103.2.Many]), (18, .pointer (some ⟨b114, 0, none⟩)), (17, .slice a105 x103.1.length c106)] (by kernel_rfl) ?_
  refine WL.boxStore 0 [.string (bs x103.2.Name), .int .i64 x103.2.Many] [.string (bs x103.2.Name), .int .i64 x103.2.Many] (SH.front 0 hS121) hL120 rfl rfl rfl rfl rfl rfl rfl (info37).1 (info37).2.1 rfl rfl rfl ?_
  intro w122 hB123 hS124
  have hb125 : Ext w w122 := Below.trans hb119 hB123
  have hL126 : w.heap.size ≤ w122.heap.size := Nat.le_trans hL120 hB123.size
  refine WL.sub [(0, .slice a0' code_0.length c0'), (3, .slice a17 x15.1.length c18), (4, .slice a20 x15.2.length c21), (5, .slice a32 x30.1.length c33), (6, .int .i64 x30.2.1), (7, .int .i64 x30.2.2), (8, .slice a44 x42.1.length c45), (9, .int .i64 x42.2.1), (10, .int .i64 x42.2.2), (11, .slice a56 x54.1.length c57), (13, .slice a81 x79.1.length c82), (14, .int .i64 x79.2), (15, .slice a93 x91.1.length c94), (16, .int .i64 x91.2), (18, .pointer (some ⟨b114, 0, none⟩)), (17, .slice a105 x103.1.length c106)] ⟨rfl, rfl, rfl, rfl, rfl, rfl, rfl, rfl, rfl, rfl, rfl, rfl, rfl, rfl, rfl, rfl, trivial⟩ ?_
  refine WL.nil ?_
  refine WQ.then_normal (hK102 _ _ _ ?_)
  refine WP.seq (fun K127 hK127 => ?_)
  refine WP.region ?_
  refine WL.runk 1 [0, 3, 4, 5, 6, 7, 8, 9, 10, 11, 13, 14, 15, 16, 17, 18, 83] [(0, .slice a0' code_0.length c0'), (3, .slice a17 x15.1.length c18), (4, .slice a20 x15.2.length c21), (5, .slice a32 x30.1.length c33), (6, .int .i64 x30.2.1), (7, .int .i64 x30.2.2), (8, .slice a44 x42.1.length c45), (9, .int .i64 x42.2.1), (10, .int .i64 x42.2.2), (11, .slice a56 x54.1.length c57), (13, .slice a81 x79.1.length c82), (14, .int .i64 x79.2), (15, .slice a93 x91.1.length c94), (16, .int .i64 x91.2), (18, .pointer (some ⟨b114, 0, none⟩)), (17, .slice a105 x103.1.length c106), (83, .slice a105 x103.1.length c106)] (by kernel_rfl) ?_
  refine WL.st (.agg #[.string (bs x103.2.Name), .int .i64 x103.2.Many]) (ST.loadAgg (vs := [.string (bs x103.2.Name), .int .i64 x103.2.Many]) (fun j v hv => SH.boxPart (us := [.string (bs x103.2.Name), .int .i64 x103.2.Many]) (SH.front 0 hS124) 0 rfl j v hv) rfl rfl rfl Tryz.underlying37 rfl (info37).1 (info37).2.1) rfl rfl rfl ?_
  obtain ⟨x128, hx129, hm⟩ := bindE hm
  refine WL.call 12 #[.slice a105 x103.1.length c106, .agg #[.string (bs x103.2.Name), .int .i64 x103.2.Many]] rfl rfl (by kernel_rfl) (c_12 n x103.1 a105 c106 x103.2 w122 hx129 (SH.rd (SH.front 1 hS124)) (SH.le (SH.front 1 hS124)).1) ?_
  rintro _ w133 ⟨a130, c131, rfl, hE134, hR135⟩
  refine ⟨_, rfl, ?_⟩
  have hb136 : Ext w w133 := Ext.trans hb125 hE134
  have hL137 : w.heap.size ≤ w133.heap.size := Nat.le_trans hL126 hE134.size
  have hS138 : SH w133 w.heap.size [aOwn fGood 31 a130 c131 x128.1, aBox 37 b114 [.string (bs x103.2.Name), .int .i64 x103.2.Many], aOwn fGood 31 a105 c106 x103.1, aOwn fGood 31 a93 c94 x91.1, aOwn fGood 31 a81 c82 x79.1, aBox 31 b65 [.string (bs x54.2.Name), .int .i64 x54.2.OnHand, .int .i64 x54.2.Reserved, .int .i64 x54.2.Least], aOwn fGood 31 a56 c57 x54.1, aOwn fGood 31 a44 c45 x42.1, aOwn fGood 31 a32 c33 x30.1, aOwn fGood 31 a17 c18 x15.1, aOwn fTake 37 a20 c21 x15.2] := SH.add hS124 hE134 hL126 hR135
  refine WL.runk 5 [0, 3, 4, 5, 6, 7, 8, 9, 10, 11, 13, 14, 15, 16, 17, 18, 19, 20] [(0, .slice a0' code_0.length c0'), (3, .slice a17 x15.1.length c18), (4, .slice a20 x15.2.length c21), (5, .slice a32 x30.1.length c33), (6, .int .i64 x30.2.1), (7, .int .i64 x30.2.2), (8, .slice a44 x42.1.length c45), (9, .int .i64 x42.2.1), (10, .int .i64 x42.2.2), (11, .slice a56 x54.1.length c57), (13, .slice a81 x79.1.length c82), (14, .int .i64 x79.2), (15, .slice a93 x91.1.length c94), (16, .int .i64 x91.2), (18, .pointer (some ⟨b114, 0, none⟩)), (17, .slice a105 x103.1.length c106), (19, .slice a130 x128.1.length c131), (20, .int .i64 x128.2)] (by kernel_rfl) ?_
  refine WL.nil ?_
  refine WQ.then_normal (hK127 _ _ _ ?_)
  refine WP.seq (fun K139 hK139 => ?_)
  refine WP.region ?_
  refine WL.runk 1 [0, 3, 4, 5, 6, 7, 8, 9, 10, 11, 13, 14, 15, 16, 17, 18, 19, 20, 89] [(0, .slice a0' code_0.length c0'), (3, .slice a17 x15.1.length c18), (4, .slice a20 x15.2.length c21), (5, .slice a32 x30.1.length c33), (6, .int .i64 x30.2.1), (7, .int .i64 x30.2.2), (8, .slice a44 x42.1.length c45), (9, .int .i64 x42.2.1), (10, .int .i64 x42.2.2), (11, .slice a56 x54.1.length c57), (13, .slice a81 x79.1.length c82), (14, .int .i64 x79.2), (15, .slice a93 x91.1.length c94), (16, .int .i64 x91.2), (18, .pointer (some ⟨b114, 0, none⟩)), (17, .slice a105 x103.1.length c106), (19, .slice a130 x128.1.length c131), (20, .int .i64 x128.2), (89, .slice a105 x103.1.length c106)] (by kernel_rfl) ?_
  refine WL.st (.agg #[.string (bs x103.2.Name), .int .i64 x103.2.Many]) (ST.loadAgg (vs := [.string (bs x103.2.Name), .int .i64 x103.2.Many]) (fun j v hv => SH.boxPart (us := [.string (bs x103.2.Name), .int .i64 x103.2.Many]) (SH.front 1 hS138) 0 rfl j v hv) rfl rfl rfl Tryz.underlying37 rfl (info37).1 (info37).2.1) rfl rfl rfl ?_
  obtain ⟨x140, hx141, hm⟩ := bindE hm
  refine WL.call 13 #[.slice a105 x103.1.length c106, .agg #[.string (bs x103.2.Name), .int .i64 x103.2.Many]] rfl rfl (by kernel_rfl) (c_13 n x103.1 a105 c106 x103.2 w133 hx141 (SH.rd (SH.front 2 hS138)) (SH.le (SH.front 2 hS138)).1) ?_
  rintro _ w145 ⟨a142, c143, rfl, hE146, hR147⟩
  refine ⟨_, rfl, ?_⟩
  have hb148 : Ext w w145 := Ext.trans hb136 hE146
  have hL149 : w.heap.size ≤ w145.heap.size := Nat.le_trans hL137 hE146.size
  have hS150 : SH w145 w.heap.size [aOwn fGood 31 a142 c143 x140.1, aOwn fGood 31 a130 c131 x128.1, aBox 37 b114 [.string (bs x103.2.Name), .int .i64 x103.2.Many], aOwn fGood 31 a105 c106 x103.1, aOwn fGood 31 a93 c94 x91.1, aOwn fGood 31 a81 c82 x79.1, aBox 31 b65 [.string (bs x54.2.Name), .int .i64 x54.2.OnHand, .int .i64 x54.2.Reserved, .int .i64 x54.2.Least], aOwn fGood 31 a56 c57 x54.1, aOwn fGood 31 a44 c45 x42.1, aOwn fGood 31 a32 c33 x30.1, aOwn fGood 31 a17 c18 x15.1, aOwn fTake 37 a20 c21 x15.2] := SH.add hS138 hE146 hL137 hR147
  refine WL.runk 5 [0, 3, 4, 5, 6, 7, 8, 9, 10, 11, 13, 14, 15, 16, 17, 18, 19, 20, 21, 22] [(0, .slice a0' code_0.length c0'), (3, .slice a17 x15.1.length c18), (4, .slice a20 x15.2.length c21), (5, .slice a32 x30.1.length c33), (6, .int .i64 x30.2.1), (7, .int .i64 x30.2.2), (8, .slice a44 x42.1.length c45), (9, .int .i64 x42.2.1), (10, .int .i64 x42.2.2), (11, .slice a56 x54.1.length c57), (13, .slice a81 x79.1.length c82), (14, .int .i64 x79.2), (15, .slice a93 x91.1.length c94), (16, .int .i64 x91.2), (18, .pointer (some ⟨b114, 0, none⟩)), (17, .slice a105 x103.1.length c106), (19, .slice a130 x128.1.length c131), (20, .int .i64 x128.2), (21, .slice a142 x140.1.length c143), (22, .int .i64 x140.2)] (by kernel_rfl) ?_
  refine WL.nil ?_
  refine WQ.then_normal (hK139 _ _ _ ?_)
  refine WP.seq (fun K151 hK151 => ?_)
  refine WP.region ?_
  refine WL.runk 1 [0, 3, 4, 5, 6, 7, 8, 9, 10, 11, 13, 14, 15, 16, 17, 18, 19, 20, 21, 22, 94] [(0, .slice a0' code_0.length c0'), (3, .slice a17 x15.1.length c18), (4, .slice a20 x15.2.length c21), (5, .slice a32 x30.1.length c33), (6, .int .i64 x30.2.1), (7, .int .i64 x30.2.2), (8, .slice a44 x42.1.length c45), (9, .int .i64 x42.2.1), (10, .int .i64 x42.2.2), (11, .slice a56 x54.1.length c57), (13, .slice a81 x79.1.length c82), (14, .int .i64 x79.2), (15, .slice a93 x91.1.length c94), (16, .int .i64 x91.2), (18, .pointer (some ⟨b114, 0, none⟩)), (17, .slice a105 x103.1.length c106), (19, .slice a130 x128.1.length c131), (20, .int .i64 x128.2), (21, .slice a142 x140.1.length c143), (22, .int .i64 x140.2), (94, .slice a0' code_0.length c0')] (by kernel_rfl) ?_
  obtain ⟨x152, hx153, hm⟩ := bindE hm
  refine WL.call 14 #[.slice a0' code_0.length c0'] rfl rfl (by kernel_rfl) (c_14 n code_0 a0' c0' w145 hx153 (Rd.below h0 hb148) hle0) ?_
  rintro _ w154 ⟨rfl, hE155⟩
  refine ⟨_, rfl, ?_⟩
  have hb157 : Ext w w154 := Ext.trans hb148 hE155
  have hL158 : w.heap.size ≤ w154.heap.size := Nat.le_trans hL149 hE155.size
  have hS159 : SH w154 w.heap.size [aOwn fGood 31 a142 c143 x140.1, aOwn fGood 31 a130 c131 x128.1, aBox 37 b114 [.string (bs x103.2.Name), .int .i64 x103.2.Many], aOwn fGood 31 a105 c106 x103.1, aOwn fGood 31 a93 c94 x91.1, aOwn fGood 31 a81 c82 x79.1, aBox 31 b65 [.string (bs x54.2.Name), .int .i64 x54.2.OnHand, .int .i64 x54.2.Reserved, .int .i64 x54.2.Least], aOwn fGood 31 a56 c57 x54.1, aOwn fGood 31 a44 c45 x42.1, aOwn fGood 31 a32 c33 x30.1, aOwn fGood 31 a17 c18 x15.1, aOwn fTake 37 a20 c21 x15.2] := SH.ext hS150 hE155
  refine WL.box 31 [.string (bs []), .int .i64 0, .int .i64 0, .int .i64 0] 23 (by kernel_rfl) rfl rfl rfl rfl ?_
  intro b160 w161 hE162 hR163
  have hb165 : Ext w w161 := Ext.trans hb157 hE162
  have hL166 : w.heap.size ≤ w161.heap.size := Nat.le_trans hL158 hE162.size
  have hS167 : SH w161 w.heap.size [aBox 31 b160 [.string (bs []), .int .i64 0, .int .i64 0, .int .i64 0], aOwn fGood 31 a142 c143 x140.1, aOwn fGood 31 a130 c131 x128.1, aBox 37 b114 [.string (bs x103.2.Name), .int .i64 x103.2.Many], aOwn fGood 31 a105 c106 x103.1, aOwn fGood 31 a93 c94 x91.1, aOwn fGood 31 a81 c82 x79.1, aBox 31 b65 [.string (bs x54.2.Name), .int .i64 x54.2.OnHand, .int .i64 x54.2.Reserved, .int .i64 x54.2.Least], aOwn fGood 31 a56 c57 x54.1, aOwn fGood 31 a44 c45 x42.1, aOwn fGood 31 a32 c33 x30.1, aOwn fGood 31 a17 c18 x15.1, aOwn fTake 37 a20 c21 x15.2] := SH.add hS159 hE162 hL158 hR163
  refine WL.boxStore 0 [.string (bs x152.Name), .int .i64 x152.OnHand, .int .i64 x152.Reserved, .int .i64 x152.Least] [.string (bs x152.Name), .int .i64 x152.OnHand, .int .i64 x152.Reserved, .int .i64 x152.Least] (SH.front 0 hS167) hL166 rfl rfl rfl rfl rfl rfl rfl (info31).1 (info31).2.1 rfl rfl rfl ?_
  intro w168 hB169 hS170
  have hb171 : Ext w w168 := Below.trans hb165 hB169
  have hL172 : w.heap.size ≤ w168.heap.size := Nat.le_trans hL166 hB169.size
  refine WL.sub [(0, .slice a0' code_0.length c0'), (3, .slice a17 x15.1.length c18), (4, .slice a20 x15.2.length c21), (5, .slice a32 x30.1.length c33), (6, .int .i64 x30.2.1), (7, .int .i64 x30.2.2), (8, .slice a44 x42.1.length c45), (9, .int .i64 x42.2.1), (10, .int .i64 x42.2.2), (11, .slice a56 x54.1.length c57), (13, .slice a81 x79.1.length c82), (14, .int .i64 x79.2), (15, .slice a93 x91.1.length c94), (16, .int .i64 x91.2), (18, .pointer (some ⟨b114, 0, none⟩)), (17, .slice a105 x103.1.length c106), (19, .slice a130 x128.1.length c131), (20, .int .i64 x128.2), (21, .slice a142 x140.1.length c143), (22, .int .i64 x140.2), (23, .pointer (some ⟨b160, 0, none⟩))] ⟨rfl, rfl, rfl, rfl, rfl, rfl, rfl, rfl, rfl, rfl, rfl, rfl, rfl, rfl, rfl, rfl, rfl, rfl, rfl, rfl, rfl, trivial⟩ ?_
  refine WL.nil ?_
  refine WQ.then_normal (hK151 _ _ _ ?_)
  refine WP.seq (fun K173 hK173 => ?_)
  refine WP.region ?_
  refine WL.st (.agg #[.string (bs x152.Name), .int .i64 x152.OnHand, .int .i64 x152.Reserved, .int .i64 x152.Least]) (ST.loadAgg (vs := [.string (bs x152.Name), .int .i64 x152.OnHand, .int .i64 x152.Reserved, .int .i64 x152.Least]) (fun j v hv => SH.boxPart (us := [.string (bs x152.Name), .int .i64 x152.OnHand, .int .i64 x152.Reserved, .int .i64 x152.Least]) (SH.front 0 hS170) 0 rfl j v hv) rfl rfl rfl Tryz.underlying31 rfl (info31).1 (info31).2.1) rfl rfl rfl ?_
  obtain ⟨x174, hx175, hm⟩ := bindE hm
  refine WL.call 15 #[.agg #[.string (bs x152.Name), .int .i64 x152.OnHand, .int .i64 x152.Reserved, .int .i64 x152.Least]] rfl rfl (by kernel_rfl) (c_15 n x152 w168 hx175 (GL.below (GL.low (j := 2) hG rfl) hb171)) ?_
  rintro _ w176 ⟨rfl, hE177⟩
  refine ⟨_, rfl, ?_⟩
  have hb179 : Ext w w176 := Ext.trans hb171 hE177
  have hL180 : w.heap.size ≤ w176.heap.size := Nat.le_trans hL172 hE177.size
  have hS181 : SH w176 w.heap.size [aBox 31 b160 [.string (bs x152.Name), .int .i64 x152.OnHand, .int .i64 x152.Reserved, .int .i64 x152.Least], aOwn fGood 31 a142 c143 x140.1, aOwn fGood 31 a130 c131 x128.1, aBox 37 b114 [.string (bs x103.2.Name), .int .i64 x103.2.Many], aOwn fGood 31 a105 c106 x103.1, aOwn fGood 31 a93 c94 x91.1, aOwn fGood 31 a81 c82 x79.1, aBox 31 b65 [.string (bs x54.2.Name), .int .i64 x54.2.OnHand, .int .i64 x54.2.Reserved, .int .i64 x54.2.Least], aOwn fGood 31 a56 c57 x54.1, aOwn fGood 31 a44 c45 x42.1, aOwn fGood 31 a32 c33 x30.1, aOwn fGood 31 a17 c18 x15.1, aOwn fTake 37 a20 c21 x15.2] := SH.ext hS170 hE177
  refine WL.runk 1 [0, 3, 4, 5, 6, 7, 8, 9, 10, 11, 13, 14, 15, 16, 17, 18, 19, 20, 21, 22, 23, 24] [(0, .slice a0' code_0.length c0'), (3, .slice a17 x15.1.length c18), (4, .slice a20 x15.2.length c21), (5, .slice a32 x30.1.length c33), (6, .int .i64 x30.2.1), (7, .int .i64 x30.2.2), (8, .slice a44 x42.1.length c45), (9, .int .i64 x42.2.1), (10, .int .i64 x42.2.2), (11, .slice a56 x54.1.length c57), (13, .slice a81 x79.1.length c82), (14, .int .i64 x79.2), (15, .slice a93 x91.1.length c94), (16, .int .i64 x91.2), (18, .pointer (some ⟨b114, 0, none⟩)), (17, .slice a105 x103.1.length c106), (19, .slice a130 x128.1.length c131), (20, .int .i64 x128.2), (21, .slice a142 x140.1.length c143), (22, .int .i64 x140.2), (23, .pointer (some ⟨b160, 0, none⟩)), (24, .string (bs x174))] (by kernel_rfl) ?_
  refine WL.nil ?_
  refine WQ.then_normal (hK173 _ _ _ ?_)
  refine WP.seq (fun K182 hK182 => ?_)
  refine WP.region ?_
  refine WL.runk 1 [0, 3, 4, 5, 6, 7, 8, 9, 10, 11, 13, 14, 15, 16, 17, 18, 19, 20, 21, 22, 23, 24, 99] [(0, .slice a0' code_0.length c0'), (3, .slice a17 x15.1.length c18), (4, .slice a20 x15.2.length c21), (5, .slice a32 x30.1.length c33), (6, .int .i64 x30.2.1), (7, .int .i64 x30.2.2), (8, .slice a44 x42.1.length c45), (9, .int .i64 x42.2.1), (10, .int .i64 x42.2.2), (11, .slice a56 x54.1.length c57), (13, .slice a81 x79.1.length c82), (14, .int .i64 x79.2), (15, .slice a93 x91.1.length c94), (16, .int .i64 x91.2), (18, .pointer (some ⟨b114, 0, none⟩)), (17, .slice a105 x103.1.length c106), (19, .slice a130 x128.1.length c131), (20, .int .i64 x128.2), (21, .slice a142 x140.1.length c143), (22, .int .i64 x140.2), (23, .pointer (some ⟨b160, 0, none⟩)), (24, .string (bs x174)), (99, .string (bs x174))] (by kernel_rfl) ?_
  obtain ⟨x183, hx184, hm⟩ := bindE hm
  refine WL.call 16 #[.string (bs x174)] rfl rfl (by kernel_rfl) (c_16 n x174 w176 hx184 (GL.below hG hb179)) ?_
  rintro _ w185 ⟨rfl, hE186⟩
  refine ⟨_, rfl, ?_⟩
  have hb188 : Ext w w185 := Ext.trans hb179 hE186
  have hL189 : w.heap.size ≤ w185.heap.size := Nat.le_trans hL180 hE186.size
  have hS190 : SH w185 w.heap.size [aBox 31 b160 [.string (bs x152.Name), .int .i64 x152.OnHand, .int .i64 x152.Reserved, .int .i64 x152.Least], aOwn fGood 31 a142 c143 x140.1, aOwn fGood 31 a130 c131 x128.1, aBox 37 b114 [.string (bs x103.2.Name), .int .i64 x103.2.Many], aOwn fGood 31 a105 c106 x103.1, aOwn fGood 31 a93 c94 x91.1, aOwn fGood 31 a81 c82 x79.1, aBox 31 b65 [.string (bs x54.2.Name), .int .i64 x54.2.OnHand, .int .i64 x54.2.Reserved, .int .i64 x54.2.Least], aOwn fGood 31 a56 c57 x54.1, aOwn fGood 31 a44 c45 x42.1, aOwn fGood 31 a32 c33 x30.1, aOwn fGood 31 a17 c18 x15.1, aOwn fTake 37 a20 c21 x15.2] := SH.ext hS181 hE186
  refine WL.runk 3 [0, 3, 4, 5, 6, 7, 8, 9, 10, 11, 13, 14, 15, 16, 17, 18, 19, 20, 21, 22, 23, 24, 101, 102] [(0, .slice a0' code_0.length c0'), (3, .slice a17 x15.1.length c18), (4, .slice a20 x15.2.length c21), (5, .slice a32 x30.1.length c33), (6, .int .i64 x30.2.1), (7, .int .i64 x30.2.2), (8, .slice a44 x42.1.length c45), (9, .int .i64 x42.2.1), (10, .int .i64 x42.2.2), (11, .slice a56 x54.1.length c57), (13, .slice a81 x79.1.length c82), (14, .int .i64 x79.2), (15, .slice a93 x91.1.length c94), (16, .int .i64 x91.2), (18, .pointer (some ⟨b114, 0, none⟩)), (17, .slice a105 x103.1.length c106), (19, .slice a130 x128.1.length c131), (20, .int .i64 x128.2), (21, .slice a142 x140.1.length c143), (22, .int .i64 x140.2), (23, .pointer (some ⟨b160, 0, none⟩)), (24, .string (bs x174)), (101, .agg #[.string (bs x183.1.Name), .int .i64 x183.1.OnHand, .int .i64 x183.1.Reserved, .int .i64 x183.1.Least]), (102, .bool x183.2)] (by kernel_rfl) ?_
  refine WL.box 31 [.string (bs []), .int .i64 0, .int .i64 0, .int .i64 0] 25 (by kernel_rfl) rfl rfl rfl rfl ?_
  intro b191 w192 hE193 hR194
  have hb196 : Ext w w192 := Ext.trans hb188 hE193
  have hL197 : w.heap.size ≤ w192.heap.size := Nat.le_trans hL189 hE193.size
  have hS198 : SH w192 w.heap.size [aBox 31 b191 [.string (bs []), .int .i64 0, .int .i64 0, .int .i64 0], aBox 31 b160 [.string (bs x152.Name), .int .i64 x152.OnHand, .int .i64 x152.Reserved, .int .i64 x152.Least], aOwn fGood 31 a142 c143 x140.1, aOwn fGood 31 a130 c131 x128.1, aBox 37 b114 [.string (bs x103.2.Name), .int .i64 x103.2.Many], aOwn fGood 31 a105 c106 x103.1, aOwn fGood 31 a93 c94 x91.1, aOwn fGood 31 a81 c82 x79.1, aBox 31 b65 [.string (bs x54.2.Name), .int .i64 x54.2.OnHand, .int .i64 x54.2.Reserved, .int .i64 x54.2.Least], aOwn fGood 31 a56 c57 x54.1, aOwn fGood 31 a44 c45 x42.1, aOwn fGood 31 a32 c33 x30.1, aOwn fGood 31 a17 c18 x15.1, aOwn fTake 37 a20 c21 x15.2] := SH.add hS190 hE193 hL189 hR194
  refine WL.boxStore 0 [.string (bs x183.1.Name), .int .i64 x183.1.OnHand, .int .i64 x183.1.Reserved, .int .i64 x183.1.Least] [.string (bs x183.1.Name), .int .i64 x183.1.OnHand, .int .i64 x183.1.Reserved, .int .i64 x183.1.Least] (SH.front 0 hS198) hL197 rfl rfl rfl rfl rfl rfl rfl (info31).1 (info31).2.1 rfl rfl rfl ?_
  intro w199 hB200 hS201
  have hb202 : Ext w w199 := Below.trans hb196 hB200
  have hL203 : w.heap.size ≤ w199.heap.size := Nat.le_trans hL197 hB200.size
  refine WL.runk 1 [0, 3, 4, 5, 6, 7, 8, 9, 10, 11, 13, 14, 15, 16, 17, 18, 19, 20, 21, 22, 23, 24, 25, 26] [(0, .slice a0' code_0.length c0'), (3, .slice a17 x15.1.length c18), (4, .slice a20 x15.2.length c21), (5, .slice a32 x30.1.length c33), (6, .int .i64 x30.2.1), (7, .int .i64 x30.2.2), (8, .slice a44 x42.1.length c45), (9, .int .i64 x42.2.1), (10, .int .i64 x42.2.2), (11, .slice a56 x54.1.length c57), (13, .slice a81 x79.1.length c82), (14, .int .i64 x79.2), (15, .slice a93 x91.1.length c94), (16, .int .i64 x91.2), (18, .pointer (some ⟨b114, 0, none⟩)), (17, .slice a105 x103.1.length c106), (19, .slice a130 x128.1.length c131), (20, .int .i64 x128.2), (21, .slice a142 x140.1.length c143), (22, .int .i64 x140.2), (23, .pointer (some ⟨b160, 0, none⟩)), (24, .string (bs x174)), (25, .pointer (some ⟨b191, 0, none⟩)), (26, .bool x183.2)] (by kernel_rfl) ?_
  refine WL.nil ?_
  refine WQ.then_normal (hK182 _ _ _ ?_)
  refine WP.seq (fun K204 hK204 => ?_)
  refine WP.region ?_
  refine WL.runk 1 [0, 3, 4, 5, 6, 7, 8, 9, 10, 11, 13, 14, 15, 16, 17, 18, 19, 20, 21, 22, 23, 24, 25, 26, 103] [(0, .slice a0' code_0.length c0'), (3, .slice a17 x15.1.length c18), (4, .slice a20 x15.2.length c21), (5, .slice a32 x30.1.length c33), (6, .int .i64 x30.2.1), (7, .int .i64 x30.2.2), (8, .slice a44 x42.1.length c45), (9, .int .i64 x42.2.1), (10, .int .i64 x42.2.2), (11, .slice a56 x54.1.length c57), (13, .slice a81 x79.1.length c82), (14, .int .i64 x79.2), (15, .slice a93 x91.1.length c94), (16, .int .i64 x91.2), (18, .pointer (some ⟨b114, 0, none⟩)), (17, .slice a105 x103.1.length c106), (19, .slice a130 x128.1.length c131), (20, .int .i64 x128.2), (21, .slice a142 x140.1.length c143), (22, .int .i64 x140.2), (23, .pointer (some ⟨b160, 0, none⟩)), (24, .string (bs x174)), (25, .pointer (some ⟨b191, 0, none⟩)), (26, .bool x183.2), (103, .slice a0' code_0.length c0')] (by kernel_rfl) ?_
  obtain ⟨x205, hx206, hm⟩ := bindE hm
  refine WL.call 17 #[.slice a0' code_0.length c0'] rfl rfl (by kernel_rfl) (c_17 n code_0 a0' c0' w199 hx206 (Rd.below h0 hb202) hle0) ?_
  rintro _ w207 ⟨rfl, hE208⟩
  refine ⟨_, rfl, ?_⟩
  have hb210 : Ext w w207 := Ext.trans hb202 hE208
  have hL211 : w.heap.size ≤ w207.heap.size := Nat.le_trans hL203 hE208.size
  have hS212 : SH w207 w.heap.size [aBox 31 b191 [.string (bs x183.1.Name), .int .i64 x183.1.OnHand, .int .i64 x183.1.Reserved, .int .i64 x183.1.Least], aBox 31 b160 [.string (bs x152.Name), .int .i64 x152.OnHand, .int .i64 x152.Reserved, .int .i64 x152.Least], aOwn fGood 31 a142 c143 x140.1, aOwn fGood 31 a130 c131 x128.1, aBox 37 b114 [.string (bs x103.2.Name), .int .i64 x103.2.Many], aOwn fGood 31 a105 c106 x103.1, aOwn fGood 31 a93 c94 x91.1, aOwn fGood 31 a81 c82 x79.1, aBox 31 b65 [.string (bs x54.2.Name), .int .i64 x54.2.OnHand, .int .i64 x54.2.Reserved, .int .i64 x54.2.Least], aOwn fGood 31 a56 c57 x54.1, aOwn fGood 31 a44 c45 x42.1, aOwn fGood 31 a32 c33 x30.1, aOwn fGood 31 a17 c18 x15.1, aOwn fTake 37 a20 c21 x15.2] := SH.ext hS201 hE208
  refine WL.runk 1 [0, 3, 4, 5, 6, 7, 8, 9, 10, 11, 13, 14, 15, 16, 17, 18, 19, 20, 21, 22, 23, 24, 25, 26, 27] [(0, .slice a0' code_0.length c0'), (3, .slice a17 x15.1.length c18), (4, .slice a20 x15.2.length c21), (5, .slice a32 x30.1.length c33), (6, .int .i64 x30.2.1), (7, .int .i64 x30.2.2), (8, .slice a44 x42.1.length c45), (9, .int .i64 x42.2.1), (10, .int .i64 x42.2.2), (11, .slice a56 x54.1.length c57), (13, .slice a81 x79.1.length c82), (14, .int .i64 x79.2), (15, .slice a93 x91.1.length c94), (16, .int .i64 x91.2), (18, .pointer (some ⟨b114, 0, none⟩)), (17, .slice a105 x103.1.length c106), (19, .slice a130 x128.1.length c131), (20, .int .i64 x128.2), (21, .slice a142 x140.1.length c143), (22, .int .i64 x140.2), (23, .pointer (some ⟨b160, 0, none⟩)), (24, .string (bs x174)), (25, .pointer (some ⟨b191, 0, none⟩)), (26, .bool x183.2), (27, .string (bs x205))] (by kernel_rfl) ?_
  refine WL.nil ?_
  refine WQ.then_normal (hK204 _ _ _ ?_)
  refine WP.seq (fun K213 hK213 => ?_)
  refine WP.region ?_
  refine WL.runk 1 [0, 3, 4, 5, 6, 7, 8, 9, 10, 11, 13, 14, 15, 16, 17, 18, 19, 20, 21, 22, 23, 24, 25, 26, 27, 106] [(0, .slice a0' code_0.length c0'), (3, .slice a17 x15.1.length c18), (4, .slice a20 x15.2.length c21), (5, .slice a32 x30.1.length c33), (6, .int .i64 x30.2.1), (7, .int .i64 x30.2.2), (8, .slice a44 x42.1.length c45), (9, .int .i64 x42.2.1), (10, .int .i64 x42.2.2), (11, .slice a56 x54.1.length c57), (13, .slice a81 x79.1.length c82), (14, .int .i64 x79.2), (15, .slice a93 x91.1.length c94), (16, .int .i64 x91.2), (18, .pointer (some ⟨b114, 0, none⟩)), (17, .slice a105 x103.1.length c106), (19, .slice a130 x128.1.length c131), (20, .int .i64 x128.2), (21, .slice a142 x140.1.length c143), (22, .int .i64 x140.2), (23, .pointer (some ⟨b160, 0, none⟩)), (24, .string (bs x174)), (25, .pointer (some ⟨b191, 0, none⟩)), (26, .bool x183.2), (27, .string (bs x205)), (106, .string (bs x205))] (by kernel_rfl) ?_
  obtain ⟨x214, hx215, hm⟩ := bindE hm
  refine WL.call 16 #[.string (bs x205)] rfl rfl (by kernel_rfl) (c_16 n x205 w207 hx215 (GL.below hG hb210)) ?_
  rintro _ w216 ⟨rfl, hE217⟩
  refine ⟨_, rfl, ?_⟩
  have hb219 : Ext w w216 := Ext.trans hb210 hE217
  have hL220 : w.heap.size ≤ w216.heap.size := Nat.le_trans hL211 hE217.size
  have hS221 : SH w216 w.heap.size [aBox 31 b191 [.string (bs x183.1.Name), .int .i64 x183.1.OnHand, .int .i64 x183.1.Reserved, .int .i64 x183.1.Least], aBox 31 b160 [.string (bs x152.Name), .int .i64 x152.OnHand, .int .i64 x152.Reserved, .int .i64 x152.Least], aOwn fGood 31 a142 c143 x140.1, aOwn fGood 31 a130 c131 x128.1, aBox 37 b114 [.string (bs x103.2.Name), .int .i64 x103.2.Many], aOwn fGood 31 a105 c106 x103.1, aOwn fGood 31 a93 c94 x91.1, aOwn fGood 31 a81 c82 x79.1, aBox 31 b65 [.string (bs x54.2.Name), .int .i64 x54.2.OnHand, .int .i64 x54.2.Reserved, .int .i64 x54.2.Least], aOwn fGood 31 a56 c57 x54.1, aOwn fGood 31 a44 c45 x42.1, aOwn fGood 31 a32 c33 x30.1, aOwn fGood 31 a17 c18 x15.1, aOwn fTake 37 a20 c21 x15.2] := SH.ext hS212 hE217
  refine WL.runk 3 [0, 3, 4, 5, 6, 7, 8, 9, 10, 11, 13, 14, 15, 16, 17, 18, 19, 20, 21, 22, 23, 24, 25, 26, 27, 108, 109] [(0, .slice a0' code_0.length c0'), (3, .slice a17 x15.1.length c18), (4, .slice a20 x15.2.length c21), (5, .slice a32 x30.1.length c33), (6, .int .i64 x30.2.1), (7, .int .i64 x30.2.2), (8, .slice a44 x42.1.length c45), (9, .int .i64 x42.2.1), (10, .int .i64 x42.2.2), (11, .slice a56 x54.1.length c57), (13, .slice a81 x79.1.length c82), (14, .int .i64 x79.2), (15, .slice a93 x91.1.length c94), (16, .int .i64 x91.2), (18, .pointer (some ⟨b114, 0, none⟩)), (17, .slice a105 x103.1.length c106), (19, .slice a130 x128.1.length c131), (20, .int .i64 x128.2), (21, .slice a142 x140.1.length c143), (22, .int .i64 x140.2), (23, .pointer (some ⟨b160, 0, none⟩)), (24, .string (bs x174)), (25, .pointer (some ⟨b191, 0, none⟩)), (26, .bool x183.2), (27, .string (bs x205)), (108, .agg #[.string (bs x214.1.Name), .int .i64 x214.1.OnHand, .int .i64 x214.1.Reserved, .int .i64 x214.1.Least]), (109, .bool x214.2)] (by kernel_rfl) ?_
  refine WL.box 31 [.string (bs []), .int .i64 0, .int .i64 0, .int .i64 0] 28 (by kernel_rfl) rfl rfl rfl rfl ?_
  intro b222 w223 hE224 hR225
  have hb227 : Ext w w223 := Ext.trans hb219 hE224
  have hL228 : w.heap.size ≤ w223.heap.size := Nat.le_trans hL220 hE224.size
  have hS229 : SH w223 w.heap.size [aBox 31 b222 [.string (bs []), .int .i64 0, .int .i64 0, .int .i64 0], aBox 31 b191 [.string (bs x183.1.Name), .int .i64 x183.1.OnHand, .int .i64 x183.1.Reserved, .int .i64 x183.1.Least], aBox 31 b160 [.string (bs x152.Name), .int .i64 x152.OnHand, .int .i64 x152.Reserved, .int .i64 x152.Least], aOwn fGood 31 a142 c143 x140.1, aOwn fGood 31 a130 c131 x128.1, aBox 37 b114 [.string (bs x103.2.Name), .int .i64 x103.2.Many], aOwn fGood 31 a105 c106 x103.1, aOwn fGood 31 a93 c94 x91.1, aOwn fGood 31 a81 c82 x79.1, aBox 31 b65 [.string (bs x54.2.Name), .int .i64 x54.2.OnHand, .int .i64 x54.2.Reserved, .int .i64 x54.2.Least], aOwn fGood 31 a56 c57 x54.1, aOwn fGood 31 a44 c45 x42.1, aOwn fGood 31 a32 c33 x30.1, aOwn fGood 31 a17 c18 x15.1, aOwn fTake 37 a20 c21 x15.2] := SH.add hS221 hE224 hL220 hR225
  refine WL.boxStore 0 [.string (bs x214.1.Name), .int .i64 x214.1.OnHand, .int .i64 x214.1.Reserved, .int .i64 x214.1.Least] [.string (bs x214.1.Name), .int .i64 x214.1.OnHand, .int .i64 x214.1.Reserved, .int .i64 x214.1.Least] (SH.front 0 hS229) hL228 rfl rfl rfl rfl rfl rfl rfl (info31).1 (info31).2.1 rfl rfl rfl ?_
  intro w230 hB231 hS232
  have hb233 : Ext w w230 := Below.trans hb227 hB231
  have hL234 : w.heap.size ≤ w230.heap.size := Nat.le_trans hL228 hB231.size
  refine WL.runk 1 [0, 3, 4, 5, 6, 7, 8, 9, 10, 11, 13, 14, 15, 16, 17, 18, 19, 20, 21, 22, 23, 24, 25, 26, 27, 28, 29] [(0, .slice a0' code_0.length c0'), (3, .slice a17 x15.1.length c18), (4, .slice a20 x15.2.length c21), (5, .slice a32 x30.1.length c33), (6, .int .i64 x30.2.1), (7, .int .i64 x30.2.2), (8, .slice a44 x42.1.length c45), (9, .int .i64 x42.2.1), (10, .int .i64 x42.2.2), (11, .slice a56 x54.1.length c57), (13, .slice a81 x79.1.length c82), (14, .int .i64 x79.2), (15, .slice a93 x91.1.length c94), (16, .int .i64 x91.2), (18, .pointer (some ⟨b114, 0, none⟩)), (17, .slice a105 x103.1.length c106), (19, .slice a130 x128.1.length c131), (20, .int .i64 x128.2), (21, .slice a142 x140.1.length c143), (22, .int .i64 x140.2), (23, .pointer (some ⟨b160, 0, none⟩)), (24, .string (bs x174)), (25, .pointer (some ⟨b191, 0, none⟩)), (26, .bool x183.2), (27, .string (bs x205)), (28, .pointer (some ⟨b222, 0, none⟩)), (29, .bool x214.2)] (by kernel_rfl) ?_
  refine WL.nil ?_
  refine WQ.then_normal (hK213 _ _ _ ?_)
  refine WP.seq (fun K235 hK235 => ?_)
  refine WP.region ?_
  refine WL.runk 1 [0, 3, 4, 5, 6, 7, 8, 9, 10, 11, 13, 14, 15, 16, 17, 18, 19, 20, 21, 22, 23, 24, 25, 26, 28, 29, 111] [(0, .slice a0' code_0.length c0'), (3, .slice a17 x15.1.length c18), (4, .slice a20 x15.2.length c21), (5, .slice a32 x30.1.length c33), (6, .int .i64 x30.2.1), (7, .int .i64 x30.2.2), (8, .slice a44 x42.1.length c45), (9, .int .i64 x42.2.1), (10, .int .i64 x42.2.2), (11, .slice a56 x54.1.length c57), (13, .slice a81 x79.1.length c82), (14, .int .i64 x79.2), (15, .slice a93 x91.1.length c94), (16, .int .i64 x91.2), (18, .pointer (some ⟨b114, 0, none⟩)), (17, .slice a105 x103.1.length c106), (19, .slice a130 x128.1.length c131), (20, .int .i64 x128.2), (21, .slice a142 x140.1.length c143), (22, .int .i64 x140.2), (23, .pointer (some ⟨b160, 0, none⟩)), (24, .string (bs x174)), (25, .pointer (some ⟨b191, 0, none⟩)), (26, .bool x183.2), (28, .pointer (some ⟨b222, 0, none⟩)), (29, .bool x214.2), (111, .string (bs x205))] (by kernel_rfl) ?_
  obtain ⟨x236, hx237, hm⟩ := bindE hm
  refine WL.call 18 #[.string (bs x205)] rfl rfl (by kernel_rfl) (c_18 n x205 w230 hx237 ) ?_
  rintro _ w238 ⟨rfl, hE239⟩
  refine ⟨_, rfl, ?_⟩
  have hb241 : Ext w w238 := Ext.trans hb233 hE239
  have hL242 : w.heap.size ≤ w238.heap.size := Nat.le_trans hL234 hE239.size
  have hS243 : SH w238 w.heap.size [aBox 31 b222 [.string (bs x214.1.Name), .int .i64 x214.1.OnHand, .int .i64 x214.1.Reserved, .int .i64 x214.1.Least], aBox 31 b191 [.string (bs x183.1.Name), .int .i64 x183.1.OnHand, .int .i64 x183.1.Reserved, .int .i64 x183.1.Least], aBox 31 b160 [.string (bs x152.Name), .int .i64 x152.OnHand, .int .i64 x152.Reserved, .int .i64 x152.Least], aOwn fGood 31 a142 c143 x140.1, aOwn fGood 31 a130 c131 x128.1, aBox 37 b114 [.string (bs x103.2.Name), .int .i64 x103.2.Many], aOwn fGood 31 a105 c106 x103.1, aOwn fGood 31 a93 c94 x91.1, aOwn fGood 31 a81 c82 x79.1, aBox 31 b65 [.string (bs x54.2.Name), .int .i64 x54.2.OnHand, .int .i64 x54.2.Reserved, .int .i64 x54.2.Least], aOwn fGood 31 a56 c57 x54.1, aOwn fGood 31 a44 c45 x42.1, aOwn fGood 31 a32 c33 x30.1, aOwn fGood 31 a17 c18 x15.1, aOwn fTake 37 a20 c21 x15.2] := SH.ext hS232 hE239
  refine WL.runk 3 [0, 3, 4, 5, 6, 7, 8, 9, 10, 11, 13, 14, 15, 16, 17, 18, 19, 20, 21, 22, 23, 24, 25, 26, 28, 29, 113, 114] [(0, .slice a0' code_0.length c0'), (3, .slice a17 x15.1.length c18), (4, .slice a20 x15.2.length c21), (5, .slice a32 x30.1.length c33), (6, .int .i64 x30.2.1), (7, .int .i64 x30.2.2), (8, .slice a44 x42.1.length c45), (9, .int .i64 x42.2.1), (10, .int .i64 x42.2.2), (11, .slice a56 x54.1.length c57), (13, .slice a81 x79.1.length c82), (14, .int .i64 x79.2), (15, .slice a93 x91.1.length c94), (16, .int .i64 x91.2), (18, .pointer (some ⟨b114, 0, none⟩)), (17, .slice a105 x103.1.length c106), (19, .slice a130 x128.1.length c131), (20, .int .i64 x128.2), (21, .slice a142 x140.1.length c143), (22, .int .i64 x140.2), (23, .pointer (some ⟨b160, 0, none⟩)), (24, .string (bs x174)), (25, .pointer (some ⟨b191, 0, none⟩)), (26, .bool x183.2), (28, .pointer (some ⟨b222, 0, none⟩)), (29, .bool x214.2), (113, .agg #[.string (bs x236.1.Name), .int .i64 x236.1.OnHand, .int .i64 x236.1.Reserved, .int .i64 x236.1.Least]), (114, .bool x236.2)] (by kernel_rfl) ?_
  refine WL.box 31 [.string (bs []), .int .i64 0, .int .i64 0, .int .i64 0] 30 (by kernel_rfl) rfl rfl rfl rfl ?_
  intro b244 w245 hE246 hR247
  have hb249 : Ext w w245 := Ext.trans hb241 hE246
  have hL250 : w.heap.size ≤ w245.heap.size := Nat.le_trans hL242 hE246.size
  have hS251 : SH w245 w.heap.size [aBox 31 b244 [.string (bs []), .int .i64 0, .int .i64 0, .int .i64 0], aBox 31 b222 [.string (bs x214.1.Name), .int .i64 x214.1.OnHand, .int .i64 x214.1.Reserved, .int .i64 x214.1.Least], aBox 31 b191 [.string (bs x183.1.Name), .int .i64 x183.1.OnHand, .int .i64 x183.1.Reserved, .int .i64 x183.1.Least], aBox 31 b160 [.string (bs x152.Name), .int .i64 x152.OnHand, .int .i64 x152.Reserved, .int .i64 x152.Least], aOwn fGood 31 a142 c143 x140.1, aOwn fGood 31 a130 c131 x128.1, aBox 37 b114 [.string (bs x103.2.Name), .int .i64 x103.2.Many], aOwn fGood 31 a105 c106 x103.1, aOwn fGood 31 a93 c94 x91.1, aOwn fGood 31 a81 c82 x79.1, aBox 31 b65 [.string (bs x54.2.Name), .int .i64 x54.2.OnHand, .int .i64 x54.2.Reserved, .int .i64 x54.2.Least], aOwn fGood 31 a56 c57 x54.1, aOwn fGood 31 a44 c45 x42.1, aOwn fGood 31 a32 c33 x30.1, aOwn fGood 31 a17 c18 x15.1, aOwn fTake 37 a20 c21 x15.2] := SH.add hS243 hE246 hL242 hR247
  refine WL.boxStore 0 [.string (bs x236.1.Name), .int .i64 x236.1.OnHand, .int .i64 x236.1.Reserved, .int .i64 x236.1.Least] [.string (bs x236.1.Name), .int .i64 x236.1.OnHand, .int .i64 x236.1.Reserved, .int .i64 x236.1.Least] (SH.front 0 hS251) hL250 rfl rfl rfl rfl rfl rfl rfl (info31).1 (info31).2.1 rfl rfl rfl ?_
  intro w252 hB253 hS254
  have hb255 : Ext w w252 := Below.trans hb249 hB253
  have hL256 : w.heap.size ≤ w252.heap.size := Nat.le_trans hL250 hB253.size
  refine WL.runk 1 [0, 3, 4, 5, 6, 7, 8, 9, 10, 11, 13, 14, 15, 16, 17, 18, 19, 20, 21, 22, 23, 24, 25, 26, 28, 29, 30, 31] [(0, .slice a0' code_0.length c0'), (3, .slice a17 x15.1.length c18), (4, .slice a20 x15.2.length c21), (5, .slice a32 x30.1.length c33), (6, .int .i64 x30.2.1), (7, .int .i64 x30.2.2), (8, .slice a44 x42.1.length c45), (9, .int .i64 x42.2.1), (10, .int .i64 x42.2.2), (11, .slice a56 x54.1.length c57), (13, .slice a81 x79.1.length c82), (14, .int .i64 x79.2), (15, .slice a93 x91.1.length c94), (16, .int .i64 x91.2), (18, .pointer (some ⟨b114, 0, none⟩)), (17, .slice a105 x103.1.length c106), (19, .slice a130 x128.1.length c131), (20, .int .i64 x128.2), (21, .slice a142 x140.1.length c143), (22, .int .i64 x140.2), (23, .pointer (some ⟨b160, 0, none⟩)), (24, .string (bs x174)), (25, .pointer (some ⟨b191, 0, none⟩)), (26, .bool x183.2), (28, .pointer (some ⟨b222, 0, none⟩)), (29, .bool x214.2), (30, .pointer (some ⟨b244, 0, none⟩)), (31, .bool x236.2)] (by kernel_rfl) ?_
  refine WL.nil ?_
  refine WQ.then_normal (hK235 _ _ _ ?_)
  refine WP.seq (fun K257 hK257 => ?_)
  refine WP.region ?_
  refine WL.runk 1 [3, 4, 5, 6, 7, 8, 9, 10, 11, 13, 14, 15, 16, 17, 18, 19, 20, 21, 22, 23, 24, 25, 26, 28, 29, 30, 31, 116] [(3, .slice a17 x15.1.length c18), (4, .slice a20 x15.2.length c21), (5, .slice a32 x30.1.length c33), (6, .int .i64 x30.2.1), (7, .int .i64 x30.2.2), (8, .slice a44 x42.1.length c45), (9, .int .i64 x42.2.1), (10, .int .i64 x42.2.2), (11, .slice a56 x54.1.length c57), (13, .slice a81 x79.1.length c82), (14, .int .i64 x79.2), (15, .slice a93 x91.1.length c94), (16, .int .i64 x91.2), (18, .pointer (some ⟨b114, 0, none⟩)), (17, .slice a105 x103.1.length c106), (19, .slice a130 x128.1.length c131), (20, .int .i64 x128.2), (21, .slice a142 x140.1.length c143), (22, .int .i64 x140.2), (23, .pointer (some ⟨b160, 0, none⟩)), (24, .string (bs x174)), (25, .pointer (some ⟨b191, 0, none⟩)), (26, .bool x183.2), (28, .pointer (some ⟨b222, 0, none⟩)), (29, .bool x214.2), (30, .pointer (some ⟨b244, 0, none⟩)), (31, .bool x236.2), (116, .slice a0' code_0.length c0')] (by kernel_rfl) ?_
  obtain ⟨x258, hx259, hm⟩ := bindE hm
  refine WL.call 19 #[.slice a0' code_0.length c0'] rfl rfl (by kernel_rfl) (c_19 n code_0 a0' c0' w252 hx259 (Rd.below h0 hb255) hle0) ?_
  rintro _ w266 ⟨a260, c261, a263, c264, rfl, hE267, hR268⟩
  refine ⟨_, rfl, ?_⟩
  have hb269 : Ext w w266 := Ext.trans hb255 hE267
  have hL270 : w.heap.size ≤ w266.heap.size := Nat.le_trans hL256 hE267.size
  have hS271 : SH w266 w.heap.size [aOwn fGood 31 a260 c261 x258.1, aOwn fGood 31 a263 c264 x258.2, aBox 31 b244 [.string (bs x236.1.Name), .int .i64 x236.1.OnHand, .int .i64 x236.1.Reserved, .int .i64 x236.1.Least], aBox 31 b222 [.string (bs x214.1.Name), .int .i64 x214.1.OnHand, .int .i64 x214.1.Reserved, .int .i64 x214.1.Least], aBox 31 b191 [.string (bs x183.1.Name), .int .i64 x183.1.OnHand, .int .i64 x183.1.Reserved, .int .i64 x183.1.Least], aBox 31 b160 [.string (bs x152.Name), .int .i64 x152.OnHand, .int .i64 x152.Reserved, .int .i64 x152.Least], aOwn fGood 31 a142 c143 x140.1, aOwn fGood 31 a130 c131 x128.1, aBox 37 b114 [.string (bs x103.2.Name), .int .i64 x103.2.Many], aOwn fGood 31 a105 c106 x103.1, aOwn fGood 31 a93 c94 x91.1, aOwn fGood 31 a81 c82 x79.1, aBox 31 b65 [.string (bs x54.2.Name), .int .i64 x54.2.OnHand, .int .i64 x54.2.Reserved, .int .i64 x54.2.Least], aOwn fGood 31 a56 c57 x54.1, aOwn fGood 31 a44 c45 x42.1, aOwn fGood 31 a32 c33 x30.1, aOwn fGood 31 a17 c18 x15.1, aOwn fTake 37 a20 c21 x15.2] := SH.add hS254 hE267 hL256 hR268
  refine WL.runk 5 [3, 4, 5, 6, 7, 8, 9, 10, 11, 13, 14, 15, 16, 17, 18, 19, 20, 21, 22, 23, 24, 25, 26, 28, 29, 30, 31, 32, 33] [(3, .slice a17 x15.1.length c18), (4, .slice a20 x15.2.length c21), (5, .slice a32 x30.1.length c33), (6, .int .i64 x30.2.1), (7, .int .i64 x30.2.2), (8, .slice a44 x42.1.length c45), (9, .int .i64 x42.2.1), (10, .int .i64 x42.2.2), (11, .slice a56 x54.1.length c57), (13, .slice a81 x79.1.length c82), (14, .int .i64 x79.2), (15, .slice a93 x91.1.length c94), (16, .int .i64 x91.2), (18, .pointer (some ⟨b114, 0, none⟩)), (17, .slice a105 x103.1.length c106), (19, .slice a130 x128.1.length c131), (20, .int .i64 x128.2), (21, .slice a142 x140.1.length c143), (22, .int .i64 x140.2), (23, .pointer (some ⟨b160, 0, none⟩)), (24, .string (bs x174)), (25, .pointer (some ⟨b191, 0, none⟩)), (26, .bool x183.2), (28, .pointer (some ⟨b222, 0, none⟩)), (29, .bool x214.2), (30, .pointer (some ⟨b244, 0, none⟩)), (31, .bool x236.2), (32, .slice a260 x258.1.length c261), (33, .slice a263 x258.2.length c264)] (by kernel_rfl) ?_
  refine WL.nil ?_
  refine WQ.then_normal (hK257 _ _ _ ?_)
  refine WP.seq (fun K272 hK272 => ?_)
  refine WP.seq (fun K273 hK273 => ?_)
  obtain ⟨x387, hx388, hm⟩ := bindE hm
  refine WP.cut (fun env' w' => env' = [(3, .slice a17 x15.1.length c18), (4, .slice a20 x15.2.length c21), (5, .slice a32 x30.1.length c33), (7, .int .i64 x30.2.2), (8, .slice a44 x42.1.length c45), (9, .int .i64 x42.2.1), (11, .slice a56 x54.1.length c57), (13, .slice a81 x79.1.length c82), (14, .int .i64 x79.2), (15, .slice a93 x91.1.length c94), (18, .pointer (some ⟨b114, 0, none⟩)), (17, .slice a105 x103.1.length c106), (19, .slice a130 x128.1.length c131), (20, .int .i64 x128.2), (201, .bool x387)] ∧ Ext w w' ∧ w.heap.size ≤ w'.heap.size ∧ SH w' w.heap.size [aBox 31 b244 [.string (bs x236.1.Name), .int .i64 x236.1.OnHand, .int .i64 x236.1.Reserved, .int .i64 x236.1.Least], aBox 31 b222 [.string (bs x214.1.Name), .int .i64 x214.1.OnHand, .int .i64 x214.1.Reserved, .int .i64 x214.1.Least], aBox 31 b191 [.string (bs x183.1.Name), .int .i64 x183.1.OnHand, .int .i64 x183.1.Reserved, .int .i64 x183.1.Least], aBox 31 b160 [.string (bs x152.Name), .int .i64 x152.OnHand, .int .i64 x152.Reserved, .int .i64 x152.Least], aOwn fGood 31 a130 c131 x128.1, aBox 37 b114 [.string (bs x103.2.Name), .int .i64 x103.2.Many], aOwn fGood 31 a105 c106 x103.1, aOwn fGood 31 a93 c94 x91.1, aOwn fGood 31 a81 c82 x79.1, aBox 31 b65 [.string (bs x54.2.Name), .int .i64 x54.2.OnHand, .int .i64 x54.2.Reserved, .int .i64 x54.2.Least], aOwn fGood 31 a56 c57 x54.1, aOwn fGood 31 a44 c45 x42.1, aOwn fGood 31 a32 c33 x30.1, aOwn fGood 31 a17 c18 x15.1, aOwn fTake 37 a20 c21 x15.2]) ?_ ?_
  · have hm := hx388; clear hx388
    refine WP.region ?_
    refine WL.runk 4 [3, 4, 5, 6, 7, 8, 9, 11, 13, 14, 15, 16, 17, 18, 19, 20, 21, 22, 23, 24, 25, 26, 28, 29, 30, 31, 32, 33, 123] [(3, .slice a17 x15.1.length c18), (4, .slice a20 x15.2.length c21), (5, .slice a32 x30.1.length c33), (6, .int .i64 x30.2.1), (7, .int .i64 x30.2.2), (8, .slice a44 x42.1.length c45), (9, .int .i64 x42.2.1), (11, .slice a56 x54.1.length c57), (13, .slice a81 x79.1.length c82), (14, .int .i64 x79.2), (15, .slice a93 x91.1.length c94), (16, .int .i64 x91.2), (18, .pointer (some ⟨b114, 0, none⟩)), (17, .slice a105 x103.1.length c106), (19, .slice a130 x128.1.length c131), (20, .int .i64 x128.2), (21, .slice a142 x140.1.length c143), (22, .int .i64 x140.2), (23, .pointer (some ⟨b160, 0, none⟩)), (24, .string (bs x174)), (25, .pointer (some ⟨b191, 0, none⟩)), (26, .bool x183.2), (28, .pointer (some ⟨b222, 0, none⟩)), (29, .bool x214.2), (30, .pointer (some ⟨b244, 0, none⟩)), (31, .bool x236.2), (32, .slice a260 x258.1.length c261), (33, .slice a263 x258.2.length c264), (123, .bool (x30.2.2 != x42.2.2))] (by kernel_rfl) ?_
    refine WL.case (x30.2.2 != x42.2.2) [123] ⟨rfl, trivial⟩ (fun hc389 => ?_) (fun hc389 => ?_)
    · have hm := iteT hm hc389
      refine WL.runk 78 [3, 4, 5, 7, 8, 9, 11, 13, 14, 15, 17, 18, 19, 20, 201] [(3, .slice a17 x15.1.length c18), (4, .slice a20 x15.2.length c21), (5, .slice a32 x30.1.length c33), (7, .int .i64 x30.2.2), (8, .slice a44 x42.1.length c45), (9, .int .i64 x42.2.1), (11, .slice a56 x54.1.length c57), (13, .slice a81 x79.1.length c82), (14, .int .i64 x79.2), (15, .slice a93 x91.1.length c94), (18, .pointer (some ⟨b114, 0, none⟩)), (17, .slice a105 x103.1.length c106), (19, .slice a130 x128.1.length c131), (20, .int .i64 x128.2), (201, .bool true)] (by kernel_rfl) ?_
      refine WL.nil ?_
      obtain rfl := Option.some.inj hm
      exact WQ.post' ⟨rfl, hb269, hL270, (SH.cutOut 0 2 (SH.cutOut 6 1 hS271))⟩ ⟨rfl, rfl, rfl, rfl, rfl, rfl, rfl, rfl, rfl, rfl, rfl, rfl, rfl, rfl, rfl, trivial⟩
    have hm := iteF hm hc389
    refine WL.runk 5 [3, 4, 5, 7, 8, 9, 11, 13, 14, 15, 16, 17, 18, 19, 20, 21, 22, 23, 24, 25, 26, 28, 29, 30, 31, 32, 33, 128] [(3, .slice a17 x15.1.length c18), (4, .slice a20 x15.2.length c21), (5, .slice a32 x30.1.length c33), (7, .int .i64 x30.2.2), (8, .slice a44 x42.1.length c45), (9, .int .i64 x42.2.1), (11, .slice a56 x54.1.length c57), (13, .slice a81 x79.1.length c82), (14, .int .i64 x79.2), (15, .slice a93 x91.1.length c94), (16, .int .i64 x91.2), (18, .pointer (some ⟨b114, 0, none⟩)), (17, .slice a105 x103.1.length c106), (19, .slice a130 x128.1.length c131), (20, .int .i64 x128.2), (21, .slice a142 x140.1.length c143), (22, .int .i64 x140.2), (23, .pointer (some ⟨b160, 0, none⟩)), (24, .string (bs x174)), (25, .pointer (some ⟨b191, 0, none⟩)), (26, .bool x183.2), (28, .pointer (some ⟨b222, 0, none⟩)), (29, .bool x214.2), (30, .pointer (some ⟨b244, 0, none⟩)), (31, .bool x236.2), (32, .slice a260 x258.1.length c261), (33, .slice a263 x258.2.length c264), (128, .bool (x30.2.1 != x42.2.1))] (by kernel_rfl) ?_
    refine WL.case (x30.2.1 != x42.2.1) [128] ⟨rfl, trivial⟩ (fun hc390 => ?_) (fun hc390 => ?_)
    · have hm := iteT hm hc390
      refine WL.runk 73 [3, 4, 5, 7, 8, 9, 11, 13, 14, 15, 17, 18, 19, 20, 201] [(3, .slice a17 x15.1.length c18), (4, .slice a20 x15.2.length c21), (5, .slice a32 x30.1.length c33), (7, .int .i64 x30.2.2), (8, .slice a44 x42.1.length c45), (9, .int .i64 x42.2.1), (11, .slice a56 x54.1.length c57), (13, .slice a81 x79.1.length c82), (14, .int .i64 x79.2), (15, .slice a93 x91.1.length c94), (18, .pointer (some ⟨b114, 0, none⟩)), (17, .slice a105 x103.1.length c106), (19, .slice a130 x128.1.length c131), (20, .int .i64 x128.2), (201, .bool true)] (by kernel_rfl) ?_
      refine WL.nil ?_
      obtain rfl := Option.some.inj hm
      exact WQ.post' ⟨rfl, hb269, hL270, (SH.cutOut 0 2 (SH.cutOut 6 1 hS271))⟩ ⟨rfl, rfl, rfl, rfl, rfl, rfl, rfl, rfl, rfl, rfl, rfl, rfl, rfl, rfl, rfl, trivial⟩
    have hm := iteF hm hc390
    refine WL.runk 2 [3, 4, 5, 7, 8, 9, 11, 13, 14, 15, 16, 17, 18, 19, 20, 21, 22, 23, 24, 25, 26, 28, 29, 30, 31, 32, 33, 128, 129, 130] [(3, .slice a17 x15.1.length c18), (4, .slice a20 x15.2.length c21), (5, .slice a32 x30.1.length c33), (7, .int .i64 x30.2.2), (8, .slice a44 x42.1.length c45), (9, .int .i64 x42.2.1), (11, .slice a56 x54.1.length c57), (13, .slice a81 x79.1.length c82), (14, .int .i64 x79.2), (15, .slice a93 x91.1.length c94), (16, .int .i64 x91.2), (18, .pointer (some ⟨b114, 0, none⟩)), (17, .slice a105 x103.1.length c106), (19, .slice a130 x128.1.length c131), (20, .int .i64 x128.2), (21, .slice a142 x140.1.length c143), (22, .int .i64 x140.2), (23, .pointer (some ⟨b160, 0, none⟩)), (24, .string (bs x174)), (25, .pointer (some ⟨b191, 0, none⟩)), (26, .bool x183.2), (28, .pointer (some ⟨b222, 0, none⟩)), (29, .bool x214.2), (30, .pointer (some ⟨b244, 0, none⟩)), (31, .bool x236.2), (32, .slice a260 x258.1.length c261), (33, .slice a263 x258.2.length c264), (128, .bool false), (129, .slice a32 x30.1.length c33), (130, .slice a44 x42.1.length c45)] (by kernel_rfl) ?_
    obtain ⟨x391, hx392, hm⟩ := bindE hm
    refine WL.call 20 #[.slice a32 x30.1.length c33, .slice a44 x42.1.length c45] rfl rfl (by kernel_rfl) (c_20 n x30.1 a32 c33 x42.1 a44 c45 w266 hx392 (SH.rd (SH.front 15 hS271)) (SH.le (SH.front 15 hS271)).1 (SH.rd (SH.front 14 hS271)) (SH.le (SH.front 14 hS271)).1) ?_
    rintro _ w393 ⟨rfl, hE394⟩
    refine ⟨_, rfl, ?_⟩
    have hb396 : Ext w w393 := Ext.trans hb269 hE394
    have hL397 : w.heap.size ≤ w393.heap.size := Nat.le_trans hL270 hE394.size
    have hS398 : SH w393 w.heap.size [aOwn fGood 31 a260 c261 x258.1, aOwn fGood 31 a263 c264 x258.2, aBox 31 b244 [.string (bs x236.1.Name), .int .i64 x236.1.OnHand, .int .i64 x236.1.Reserved, .int .i64 x236.1.Least], aBox 31 b222 [.string (bs x214.1.Name), .int .i64 x214.1.OnHand, .int .i64 x214.1.Reserved, .int .i64 x214.1.Least], aBox 31 b191 [.string (bs x183.1.Name), .int .i64 x183.1.OnHand, .int .i64 x183.1.Reserved, .int .i64 x183.1.Least], aBox 31 b160 [.string (bs x152.Name), .int .i64 x152.OnHand, .int .i64 x152.Reserved, .int .i64 x152.Least], aOwn fGood 31 a142 c143 x140.1, aOwn fGood 31 a130 c131 x128.1, aBox 37 b114 [.string (bs x103.2.Name), .int .i64 x103.2.Many], aOwn fGood 31 a105 c106 x103.1, aOwn fGood 31 a93 c94 x91.1, aOwn fGood 31 a81 c82 x79.1, aBox 31 b65 [.string (bs x54.2.Name), .int .i64 x54.2.OnHand, .int .i64 x54.2.Reserved, .int .i64 x54.2.Least], aOwn fGood 31 a56 c57 x54.1, aOwn fGood 31 a44 c45 x42.1, aOwn fGood 31 a32 c33 x30.1, aOwn fGood 31 a17 c18 x15.1, aOwn fTake 37 a20 c21 x15.2] := SH.ext hS271 hE394
    refine WL.runk 3 [3, 4, 5, 7, 8, 9, 11, 13, 14, 15, 16, 17, 18, 19, 20, 21, 22, 23, 24, 25, 26, 28, 29, 30, 31, 32, 33, 134] [(3, .slice a17 x15.1.length c18), (4, .slice a20 x15.2.length c21), (5, .slice a32 x30.1.length c33), (7, .int .i64 x30.2.2), (8, .slice a44 x42.1.length c45), (9, .int .i64 x42.2.1), (11, .slice a56 x54.1.length c57), (13, .slice a81 x79.1.length c82), (14, .int .i64 x79.2), (15, .slice a93 x91.1.length c94), (16, .int .i64 x91.2), (18, .pointer (some ⟨b114, 0, none⟩)), (17, .slice a105 x103.1.length c106), (19, .slice a130 x128.1.length c131), (20, .int .i64 x128.2), (21, .slice a142 x140.1.length c143), (22, .int .i64 x140.2), (23, .pointer (some ⟨b160, 0, none⟩)), (24, .string (bs x174)), (25, .pointer (some ⟨b191, 0, none⟩)), (26, .bool x183.2), (28, .pointer (some ⟨b222, 0, none⟩)), (29, .bool x214.2), (30, .pointer (some ⟨b244, 0, none⟩)), (31, .bool x236.2), (32, .slice a260 x258.1.length c261), (33, .slice a263 x258.2.length c264), (134, .bool (!x391))] (by kernel_rfl) ?_
    refine WL.case (!x391) [134] ⟨rfl, trivial⟩ (fun hc399 => ?_) (fun hc399 => ?_)
    · have hm := iteT hm hc399
      refine WL.runk 67 [3, 4, 5, 7, 8, 9, 11, 13, 14, 15, 17, 18, 19, 20, 201] [(3, .slice a17 x15.1.length c18), (4, .slice a20 x15.2.length c21), (5, .slice a32 x30.1.length c33), (7, .int .i64 x30.2.2), (8, .slice a44 x42.1.length c45), (9, .int .i64 x42.2.1), (11, .slice a56 x54.1.length c57), (13, .slice a81 x79.1.length c82), (14, .int .i64 x79.2), (15, .slice a93 x91.1.length c94), (18, .pointer (some ⟨b114, 0, none⟩)), (17, .slice a105 x103.1.length c106), (19, .slice a130 x128.1.length c131), (20, .int .i64 x128.2), (201, .bool true)] (by kernel_rfl) ?_
      refine WL.nil ?_
      obtain rfl := Option.some.inj hm
      exact WQ.post' ⟨rfl, hb396, hL397, (SH.cutOut 0 2 (SH.cutOut 6 1 hS398))⟩ ⟨rfl, rfl, rfl, rfl, rfl, rfl, rfl, rfl, rfl, rfl, rfl, rfl, rfl, rfl, rfl, trivial⟩
    have hm := iteF hm hc399
    refine WL.runk 5 [3, 4, 5, 7, 8, 9, 11, 13, 14, 15, 17, 18, 19, 20, 21, 22, 23, 24, 25, 26, 28, 29, 30, 31, 32, 33, 139] [(3, .slice a17 x15.1.length c18), (4, .slice a20 x15.2.length c21), (5, .slice a32 x30.1.length c33), (7, .int .i64 x30.2.2), (8, .slice a44 x42.1.length c45), (9, .int .i64 x42.2.1), (11, .slice a56 x54.1.length c57), (13, .slice a81 x79.1.length c82), (14, .int .i64 x79.2), (15, .slice a93 x91.1.length c94), (18, .pointer (some ⟨b114, 0, none⟩)), (17, .slice a105 x103.1.length c106), (19, .slice a130 x128.1.length c131), (20, .int .i64 x128.2), (21, .slice a142 x140.1.length c143), (22, .int .i64 x140.2), (23, .pointer (some ⟨b160, 0, none⟩)), (24, .string (bs x174)), (25, .pointer (some ⟨b191, 0, none⟩)), (26, .bool x183.2), (28, .pointer (some ⟨b222, 0, none⟩)), (29, .bool x214.2), (30, .pointer (some ⟨b244, 0, none⟩)), (31, .bool x236.2), (32, .slice a260 x258.1.length c261), (33, .slice a263 x258.2.length c264), (139, .bool (x79.2 != x91.2))] (by kernel_rfl) ?_
    refine WL.case (x79.2 != x91.2) [139] ⟨rfl, trivial⟩ (fun hc400 => ?_) (fun hc400 => ?_)
    · have hm := iteT hm hc400
      refine WL.runk 62 [3, 4, 5, 7, 8, 9, 11, 13, 14, 15, 17, 18, 19, 20, 201] [(3, .slice a17 x15.1.length c18), (4, .slice a20 x15.2.length c21), (5, .slice a32 x30.1.length c33), (7, .int .i64 x30.2.2), (8, .slice a44 x42.1.length c45), (9, .int .i64 x42.2.1), (11, .slice a56 x54.1.length c57), (13, .slice a81 x79.1.length c82), (14, .int .i64 x79.2), (15, .slice a93 x91.1.length c94), (18, .pointer (some ⟨b114, 0, none⟩)), (17, .slice a105 x103.1.length c106), (19, .slice a130 x128.1.length c131), (20, .int .i64 x128.2), (201, .bool true)] (by kernel_rfl) ?_
      refine WL.nil ?_
      obtain rfl := Option.some.inj hm
      exact WQ.post' ⟨rfl, hb396, hL397, (SH.cutOut 0 2 (SH.cutOut 6 1 hS398))⟩ ⟨rfl, rfl, rfl, rfl, rfl, rfl, rfl, rfl, rfl, rfl, rfl, rfl, rfl, rfl, rfl, trivial⟩
    have hm := iteF hm hc400
    refine WL.runk 2 [3, 4, 5, 7, 8, 9, 11, 13, 14, 15, 17, 18, 19, 20, 21, 22, 23, 24, 25, 26, 28, 29, 30, 31, 32, 33, 139, 140, 141] [(3, .slice a17 x15.1.length c18), (4, .slice a20 x15.2.length c21), (5, .slice a32 x30.1.length c33), (7, .int .i64 x30.2.2), (8, .slice a44 x42.1.length c45), (9, .int .i64 x42.2.1), (11, .slice a56 x54.1.length c57), (13, .slice a81 x79.1.length c82), (14, .int .i64 x79.2), (15, .slice a93 x91.1.length c94), (18, .pointer (some ⟨b114, 0, none⟩)), (17, .slice a105 x103.1.length c106), (19, .slice a130 x128.1.length c131), (20, .int .i64 x128.2), (21, .slice a142 x140.1.length c143), (22, .int .i64 x140.2), (23, .pointer (some ⟨b160, 0, none⟩)), (24, .string (bs x174)), (25, .pointer (some ⟨b191, 0, none⟩)), (26, .bool x183.2), (28, .pointer (some ⟨b222, 0, none⟩)), (29, .bool x214.2), (30, .pointer (some ⟨b244, 0, none⟩)), (31, .bool x236.2), (32, .slice a260 x258.1.length c261), (33, .slice a263 x258.2.length c264), (139, .bool false), (140, .slice a81 x79.1.length c82), (141, .slice a93 x91.1.length c94)] (by kernel_rfl) ?_
    obtain ⟨x401, hx402, hm⟩ := bindE hm
    refine WL.call 20 #[.slice a81 x79.1.length c82, .slice a93 x91.1.length c94] rfl rfl (by kernel_rfl) (c_20 n x79.1 a81 c82 x91.1 a93 c94 w393 hx402 (SH.rd (SH.front 11 hS398)) (SH.le (SH.front 11 hS398)).1 (SH.rd (SH.front 10 hS398)) (SH.le (SH.front 10 hS398)).1) ?_
    rintro _ w403 ⟨rfl, hE404⟩
    refine ⟨_, rfl, ?_⟩
    have hb406 : Ext w w403 := Ext.trans hb396 hE404
    have hL407 : w.heap.size ≤ w403.heap.size := Nat.le_trans hL397 hE404.size
    have hS408 : SH w403 w.heap.size [aOwn fGood 31 a260 c261 x258.1, aOwn fGood 31 a263 c264 x258.2, aBox 31 b244 [.string (bs x236.1.Name), .int .i64 x236.1.OnHand, .int .i64 x236.1.Reserved, .int .i64 x236.1.Least], aBox 31 b222 [.string (bs x214.1.Name), .int .i64 x214.1.OnHand, .int .i64 x214.1.Reserved, .int .i64 x214.1.Least], aBox 31 b191 [.string (bs x183.1.Name), .int .i64 x183.1.OnHand, .int .i64 x183.1.Reserved, .int .i64 x183.1.Least], aBox 31 b160 [.string (bs x152.Name), .int .i64 x152.OnHand, .int .i64 x152.Reserved, .int .i64 x152.Least], aOwn fGood 31 a142 c143 x140.1, aOwn fGood 31 a130 c131 x128.1, aBox 37 b114 [.string (bs x103.2.Name), .int .i64 x103.2.Many], aOwn fGood 31 a105 c106 x103.1, aOwn fGood 31 a93 c94 x91.1, aOwn fGood 31 a81 c82 x79.1, aBox 31 b65 [.string (bs x54.2.Name), .int .i64 x54.2.OnHand, .int .i64 x54.2.Reserved, .int .i64 x54.2.Least], aOwn fGood 31 a56 c57 x54.1, aOwn fGood 31 a44 c45 x42.1, aOwn fGood 31 a32 c33 x30.1, aOwn fGood 31 a17 c18 x15.1, aOwn fTake 37 a20 c21 x15.2] := SH.ext hS398 hE404
    refine WL.runk 3 [3, 4, 5, 7, 8, 9, 11, 13, 14, 15, 17, 18, 19, 20, 21, 22, 23, 24, 25, 26, 28, 29, 30, 31, 32, 33, 145] [(3, .slice a17 x15.1.length c18), (4, .slice a20 x15.2.length c21), (5, .slice a32 x30.1.length c33), (7, .int .i64 x30.2.2), (8, .slice a44 x42.1.length c45), (9, .int .i64 x42.2.1), (11, .slice a56 x54.1.length c57), (13, .slice a81 x79.1.length c82), (14, .int .i64 x79.2), (15, .slice a93 x91.1.length c94), (18, .pointer (some ⟨b114, 0, none⟩)), (17, .slice a105 x103.1.length c106), (19, .slice a130 x128.1.length c131), (20, .int .i64 x128.2), (21, .slice a142 x140.1.length c143), (22, .int .i64 x140.2), (23, .pointer (some ⟨b160, 0, none⟩)), (24, .string (bs x174)), (25, .pointer (some ⟨b191, 0, none⟩)), (26, .bool x183.2), (28, .pointer (some ⟨b222, 0, none⟩)), (29, .bool x214.2), (30, .pointer (some ⟨b244, 0, none⟩)), (31, .bool x236.2), (32, .slice a260 x258.1.length c261), (33, .slice a263 x258.2.length c264), (145, .bool (!x401))] (by kernel_rfl) ?_
    refine WL.case (!x401) [145] ⟨rfl, trivial⟩ (fun hc409 => ?_) (fun hc409 => ?_)
    · have hm := iteT hm hc409
      refine WL.runk 56 [3, 4, 5, 7, 8, 9, 11, 13, 14, 15, 17, 18, 19, 20, 201] [(3, .slice a17 x15.1.length c18), (4, .slice a20 x15.2.length c21), (5, .slice a32 x30.1.length c33), (7, .int .i64 x30.2.2), (8, .slice a44 x42.1.length c45), (9, .int .i64 x42.2.1), (11, .slice a56 x54.1.length c57), (13, .slice a81 x79.1.length c82), (14, .int .i64 x79.2), (15, .slice a93 x91.1.length c94), (18, .pointer (some ⟨b114, 0, none⟩)), (17, .slice a105 x103.1.length c106), (19, .slice a130 x128.1.length c131), (20, .int .i64 x128.2), (201, .bool true)] (by kernel_rfl) ?_
      refine WL.nil ?_
      obtain rfl := Option.some.inj hm
      exact WQ.post' ⟨rfl, hb406, hL407, (SH.cutOut 0 2 (SH.cutOut 6 1 hS408))⟩ ⟨rfl, rfl, rfl, rfl, rfl, rfl, rfl, rfl, rfl, rfl, rfl, rfl, rfl, rfl, rfl, trivial⟩
    have hm := iteF hm hc409
    refine WL.runk 5 [3, 4, 5, 7, 8, 9, 11, 13, 14, 15, 17, 18, 19, 20, 21, 23, 24, 25, 26, 28, 29, 30, 31, 32, 33, 150] [(3, .slice a17 x15.1.length c18), (4, .slice a20 x15.2.length c21), (5, .slice a32 x30.1.length c33), (7, .int .i64 x30.2.2), (8, .slice a44 x42.1.length c45), (9, .int .i64 x42.2.1), (11, .slice a56 x54.1.length c57), (13, .slice a81 x79.1.length c82), (14, .int .i64 x79.2), (15, .slice a93 x91.1.length c94), (18, .pointer (some ⟨b114, 0, none⟩)), (17, .slice a105 x103.1.length c106), (19, .slice a130 x128.1.length c131), (20, .int .i64 x128.2), (21, .slice a142 x140.1.length c143), (23, .pointer (some ⟨b160, 0, none⟩)), (24, .string (bs x174)), (25, .pointer (some ⟨b191, 0, none⟩)), (26, .bool x183.2), (28, .pointer (some ⟨b222, 0, none⟩)), (29, .bool x214.2), (30, .pointer (some ⟨b244, 0, none⟩)), (31, .bool x236.2), (32, .slice a260 x258.1.length c261), (33, .slice a263 x258.2.length c264), (150, .bool (x128.2 != x140.2))] (by kernel_rfl) ?_
    refine WL.case (x128.2 != x140.2) [150] ⟨rfl, trivial⟩ (fun hc410 => ?_) (fun hc410 => ?_)
    · have hm := iteT hm hc410
      refine WL.runk 51 [3, 4, 5, 7, 8, 9, 11, 13, 14, 15, 17, 18, 19, 20, 201] [(3, .slice a17 x15.1.length c18), (4, .slice a20 x15.2.length c21), (5, .slice a32 x30.1.length c33), (7, .int .i64 x30.2.2), (8, .slice a44 x42.1.length c45), (9, .int .i64 x42.2.1), (11, .slice a56 x54.1.length c57), (13, .slice a81 x79.1.length c82), (14, .int .i64 x79.2), (15, .slice a93 x91.1.length c94), (18, .pointer (some ⟨b114, 0, none⟩)), (17, .slice a105 x103.1.length c106), (19, .slice a130 x128.1.length c131), (20, .int .i64 x128.2), (201, .bool true)] (by kernel_rfl) ?_
      refine WL.nil ?_
      obtain rfl := Option.some.inj hm
      exact WQ.post' ⟨rfl, hb406, hL407, (SH.cutOut 0 2 (SH.cutOut 6 1 hS408))⟩ ⟨rfl, rfl, rfl, rfl, rfl, rfl, rfl, rfl, rfl, rfl, rfl, rfl, rfl, rfl, rfl, trivial⟩
    have hm := iteF hm hc410
    refine WL.runk 2 [3, 4, 5, 7, 8, 9, 11, 13, 14, 15, 17, 18, 19, 20, 23, 24, 25, 26, 28, 29, 30, 31, 32, 33, 150, 151, 152] [(3, .slice a17 x15.1.length c18), (4, .slice a20 x15.2.length c21), (5, .slice a32 x30.1.length c33), (7, .int .i64 x30.2.2), (8, .slice a44 x42.1.length c45), (9, .int .i64 x42.2.1), (11, .slice a56 x54.1.length c57), (13, .slice a81 x79.1.length c82), (14, .int .i64 x79.2), (15, .slice a93 x91.1.length c94), (18, .pointer (some ⟨b114, 0, none⟩)), (17, .slice a105 x103.1.length c106), (19, .slice a130 x128.1.length c131), (20, .int .i64 x128.2), (23, .pointer (some ⟨b160, 0, none⟩)), (24, .string (bs x174)), (25, .pointer (some ⟨b191, 0, none⟩)), (26, .bool x183.2), (28, .pointer (some ⟨b222, 0, none⟩)), (29, .bool x214.2), (30, .pointer (some ⟨b244, 0, none⟩)), (31, .bool x236.2), (32, .slice a260 x258.1.length c261), (33, .slice a263 x258.2.length c264), (150, .bool false), (151, .slice a130 x128.1.length c131), (152, .slice a142 x140.1.length c143)] (by kernel_rfl) ?_
    obtain ⟨x411, hx412, hm⟩ := bindE hm
    refine WL.call 20 #[.slice a130 x128.1.length c131, .slice a142 x140.1.length c143] rfl rfl (by kernel_rfl) (c_20 n x128.1 a130 c131 x140.1 a142 c143 w403 hx412 (SH.rd (SH.front 7 hS408)) (SH.le (SH.front 7 hS408)).1 (SH.rd (SH.front 6 hS408)) (SH.le (SH.front 6 hS408)).1) ?_
    rintro _ w413 ⟨rfl, hE414⟩
    refine ⟨_, rfl, ?_⟩
    have hb416 : Ext w w413 := Ext.trans hb406 hE414
    have hL417 : w.heap.size ≤ w413.heap.size := Nat.le_trans hL407 hE414.size
    have hS418 : SH w413 w.heap.size [aOwn fGood 31 a260 c261 x258.1, aOwn fGood 31 a263 c264 x258.2, aBox 31 b244 [.string (bs x236.1.Name), .int .i64 x236.1.OnHand, .int .i64 x236.1.Reserved, .int .i64 x236.1.Least], aBox 31 b222 [.string (bs x214.1.Name), .int .i64 x214.1.OnHand, .int .i64 x214.1.Reserved, .int .i64 x214.1.Least], aBox 31 b191 [.string (bs x183.1.Name), .int .i64 x183.1.OnHand, .int .i64 x183.1.Reserved, .int .i64 x183.1.Least], aBox 31 b160 [.string (bs x152.Name), .int .i64 x152.OnHand, .int .i64 x152.Reserved, .int .i64 x152.Least], aOwn fGood 31 a142 c143 x140.1, aOwn fGood 31 a130 c131 x128.1, aBox 37 b114 [.string (bs x103.2.Name), .int .i64 x103.2.Many], aOwn fGood 31 a105 c106 x103.1, aOwn fGood 31 a93 c94 x91.1, aOwn fGood 31 a81 c82 x79.1, aBox 31 b65 [.string (bs x54.2.Name), .int .i64 x54.2.OnHand, .int .i64 x54.2.Reserved, .int .i64 x54.2.Least], aOwn fGood 31 a56 c57 x54.1, aOwn fGood 31 a44 c45 x42.1, aOwn fGood 31 a32 c33 x30.1, aOwn fGood 31 a17 c18 x15.1, aOwn fTake 37 a20 c21 x15.2] := SH.ext hS408 hE414
    refine WL.runk 3 [3, 4, 5, 7, 8, 9, 11, 13, 14, 15, 17, 18, 19, 20, 23, 24, 25, 26, 28, 29, 30, 31, 32, 33, 156] [(3, .slice a17 x15.1.length c18), (4, .slice a20 x15.2.length c21), (5, .slice a32 x30.1.length c33), (7, .int .i64 x30.2.2), (8, .slice a44 x42.1.length c45), (9, .int .i64 x42.2.1), (11, .slice a56 x54.1.length c57), (13, .slice a81 x79.1.length c82), (14, .int .i64 x79.2), (15, .slice a93 x91.1.length c94), (18, .pointer (some ⟨b114, 0, none⟩)), (17, .slice a105 x103.1.length c106), (19, .slice a130 x128.1.length c131), (20, .int .i64 x128.2), (23, .pointer (some ⟨b160, 0, none⟩)), (24, .string (bs x174)), (25, .pointer (some ⟨b191, 0, none⟩)), (26, .bool x183.2), (28, .pointer (some ⟨b222, 0, none⟩)), (29, .bool x214.2), (30, .pointer (some ⟨b244, 0, none⟩)), (31, .bool x236.2), (32, .slice a260 x258.1.length c261), (33, .slice a263 x258.2.length c264), (156, .bool (!x411))] (by kernel_rfl) ?_
    refine WL.case (!x411) [156] ⟨rfl, trivial⟩ (fun hc419 => ?_) (fun hc419 => ?_)
    · have hm := iteT hm hc419
      refine WL.runk 45 [3, 4, 5, 7, 8, 9, 11, 13, 14, 15, 17, 18, 19, 20, 201] [(3, .slice a17 x15.1.length c18), (4, .slice a20 x15.2.length c21), (5, .slice a32 x30.1.length c33), (7, .int .i64 x30.2.2), (8, .slice a44 x42.1.length c45), (9, .int .i64 x42.2.1), (11, .slice a56 x54.1.length c57), (13, .slice a81 x79.1.length c82), (14, .int .i64 x79.2), (15, .slice a93 x91.1.length c94), (18, .pointer (some ⟨b114, 0, none⟩)), (17, .slice a105 x103.1.length c106), (19, .slice a130 x128.1.length c131), (20, .int .i64 x128.2), (201, .bool true)] (by kernel_rfl) ?_
      refine WL.nil ?_
      obtain rfl := Option.some.inj hm
      exact WQ.post' ⟨rfl, hb416, hL417, (SH.cutOut 0 2 (SH.cutOut 6 1 hS418))⟩ ⟨rfl, rfl, rfl, rfl, rfl, rfl, rfl, rfl, rfl, rfl, rfl, rfl, rfl, rfl, rfl, trivial⟩
    have hm := iteF hm hc419
    refine WL.runk 1 [3, 4, 5, 7, 8, 9, 11, 13, 14, 15, 17, 18, 19, 20, 23, 24, 25, 26, 28, 29, 30, 31, 32, 33, 156, 157] [(3, .slice a17 x15.1.length c18), (4, .slice a20 x15.2.length c21), (5, .slice a32 x30.1.length c33), (7, .int .i64 x30.2.2), (8, .slice a44 x42.1.length c45), (9, .int .i64 x42.2.1), (11, .slice a56 x54.1.length c57), (13, .slice a81 x79.1.length c82), (14, .int .i64 x79.2), (15, .slice a93 x91.1.length c94), (18, .pointer (some ⟨b114, 0, none⟩)), (17, .slice a105 x103.1.length c106), (19, .slice a130 x128.1.length c131), (20, .int .i64 x128.2), (23, .pointer (some ⟨b160, 0, none⟩)), (24, .string (bs x174)), (25, .pointer (some ⟨b191, 0, none⟩)), (26, .bool x183.2), (28, .pointer (some ⟨b222, 0, none⟩)), (29, .bool x214.2), (30, .pointer (some ⟨b244, 0, none⟩)), (31, .bool x236.2), (32, .slice a260 x258.1.length c261), (33, .slice a263 x258.2.length c264), (156, .bool false), (157, .string (bs x174))] (by kernel_rfl) ?_
    refine WL.st (.agg #[.string (bs x152.Name), .int .i64 x152.OnHand, .int .i64 x152.Reserved, .int .i64 x152.Least]) (ST.loadAgg (vs := [.string (bs x152.Name), .int .i64 x152.OnHand, .int .i64 x152.Reserved, .int .i64 x152.Least]) (fun j v hv => SH.boxPart (us := [.string (bs x152.Name), .int .i64 x152.OnHand, .int .i64 x152.Reserved, .int .i64 x152.Least]) (SH.front 5 hS418) 0 rfl j v hv) rfl rfl rfl Tryz.underlying31 rfl (info31).1 (info31).2.1) rfl rfl rfl ?_
    obtain ⟨x420, hx421, hm⟩ := bindE hm
    refine WL.call 21 #[.agg #[.string (bs x152.Name), .int .i64 x152.OnHand, .int .i64 x152.Reserved, .int .i64 x152.Least]] rfl rfl (by kernel_rfl) (c_21 n x152 w413 hx421 ) ?_
    rintro _ w422 ⟨rfl, hE423⟩
    refine ⟨_, rfl, ?_⟩
    have hb425 : Ext w w422 := Ext.trans hb416 hE423
    have hL426 : w.heap.size ≤ w422.heap.size := Nat.le_trans hL417 hE423.size
    have hS427 : SH w422 w.heap.size [aOwn fGood 31 a260 c261 x258.1, aOwn fGood 31 a263 c264 x258.2, aBox 31 b244 [.string (bs x236.1.Name), .int .i64 x236.1.OnHand, .int .i64 x236.1.Reserved, .int .i64 x236.1.Least], aBox 31 b222 [.string (bs x214.1.Name), .int .i64 x214.1.OnHand, .int .i64 x214.1.Reserved, .int .i64 x214.1.Least], aBox 31 b191 [.string (bs x183.1.Name), .int .i64 x183.1.OnHand, .int .i64 x183.1.Reserved, .int .i64 x183.1.Least], aBox 31 b160 [.string (bs x152.Name), .int .i64 x152.OnHand, .int .i64 x152.Reserved, .int .i64 x152.Least], aOwn fGood 31 a142 c143 x140.1, aOwn fGood 31 a130 c131 x128.1, aBox 37 b114 [.string (bs x103.2.Name), .int .i64 x103.2.Many], aOwn fGood 31 a105 c106 x103.1, aOwn fGood 31 a93 c94 x91.1, aOwn fGood 31 a81 c82 x79.1, aBox 31 b65 [.string (bs x54.2.Name), .int .i64 x54.2.OnHand, .int .i64 x54.2.Reserved, .int .i64 x54.2.Least], aOwn fGood 31 a56 c57 x54.1, aOwn fGood 31 a44 c45 x42.1, aOwn fGood 31 a32 c33 x30.1, aOwn fGood 31 a17 c18 x15.1, aOwn fTake 37 a20 c21 x15.2] := SH.ext hS418 hE423
    refine WL.st (.bool (!(x174 == x420))) (ST.strne (x := x174) (y := x420) rfl rfl rfl) rfl rfl rfl ?_
    refine WL.runk 2 [3, 4, 5, 7, 8, 9, 11, 13, 14, 15, 17, 18, 19, 20, 23, 24, 25, 26, 28, 29, 30, 31, 32, 33, 162] [(3, .slice a17 x15.1.length c18), (4, .slice a20 x15.2.length c21), (5, .slice a32 x30.1.length c33), (7, .int .i64 x30.2.2), (8, .slice a44 x42.1.length c45), (9, .int .i64 x42.2.1), (11, .slice a56 x54.1.length c57), (13, .slice a81 x79.1.length c82), (14, .int .i64 x79.2), (15, .slice a93 x91.1.length c94), (18, .pointer (some ⟨b114, 0, none⟩)), (17, .slice a105 x103.1.length c106), (19, .slice a130 x128.1.length c131), (20, .int .i64 x128.2), (23, .pointer (some ⟨b160, 0, none⟩)), (24, .string (bs x174)), (25, .pointer (some ⟨b191, 0, none⟩)), (26, .bool x183.2), (28, .pointer (some ⟨b222, 0, none⟩)), (29, .bool x214.2), (30, .pointer (some ⟨b244, 0, none⟩)), (31, .bool x236.2), (32, .slice a260 x258.1.length c261), (33, .slice a263 x258.2.length c264), (162, .bool (!(x174 == x420)))] (by kernel_rfl) ?_
    refine WL.case (!(x174 == x420)) [162] ⟨rfl, trivial⟩ (fun hc428 => ?_) (fun hc428 => ?_)
    · have hm := iteT hm hc428
      refine WL.runk 39 [3, 4, 5, 7, 8, 9, 11, 13, 14, 15, 17, 18, 19, 20, 201] [(3, .slice a17 x15.1.length c18), (4, .slice a20 x15.2.length c21), (5, .slice a32 x30.1.length c33), (7, .int .i64 x30.2.2), (8, .slice a44 x42.1.length c45), (9, .int .i64 x42.2.1), (11, .slice a56 x54.1.length c57), (13, .slice a81 x79.1.length c82), (14, .int .i64 x79.2), (15, .slice a93 x91.1.length c94), (18, .pointer (some ⟨b114, 0, none⟩)), (17, .slice a105 x103.1.length c106), (19, .slice a130 x128.1.length c131), (20, .int .i64 x128.2), (201, .bool true)] (by kernel_rfl) ?_
      refine WL.nil ?_
      obtain rfl := Option.some.inj hm
      exact WQ.post' ⟨rfl, hb425, hL426, (SH.cutOut 0 2 (SH.cutOut 6 1 hS427))⟩ ⟨rfl, rfl, rfl, rfl, rfl, rfl, rfl, rfl, rfl, rfl, rfl, rfl, rfl, rfl, rfl, trivial⟩
    have hm := iteF hm hc428
    refine WL.runk 2 [3, 4, 5, 7, 8, 9, 11, 13, 14, 15, 17, 18, 19, 20, 23, 25, 26, 28, 29, 30, 31, 32, 33, 162, 163, 164] [(3, .slice a17 x15.1.length c18), (4, .slice a20 x15.2.length c21), (5, .slice a32 x30.1.length c33), (7, .int .i64 x30.2.2), (8, .slice a44 x42.1.length c45), (9, .int .i64 x42.2.1), (11, .slice a56 x54.1.length c57), (13, .slice a81 x79.1.length c82), (14, .int .i64 x79.2), (15, .slice a93 x91.1.length c94), (18, .pointer (some ⟨b114, 0, none⟩)), (17, .slice a105 x103.1.length c106), (19, .slice a130 x128.1.length c131), (20, .int .i64 x128.2), (23, .pointer (some ⟨b160, 0, none⟩)), (25, .pointer (some ⟨b191, 0, none⟩)), (26, .bool x183.2), (28, .pointer (some ⟨b222, 0, none⟩)), (29, .bool x214.2), (30, .pointer (some ⟨b244, 0, none⟩)), (31, .bool x236.2), (32, .slice a260 x258.1.length c261), (33, .slice a263 x258.2.length c264), (162, .bool false), (163, .bool x183.2), (164, .string (bs x174))] (by kernel_rfl) ?_
    refine WL.st (.bool (!(x174 == []))) (ST.strne (x := x174) (y := []) rfl rfl rfl) rfl rfl rfl ?_
    refine WL.runk 3 [3, 4, 5, 7, 8, 9, 11, 13, 14, 15, 17, 18, 19, 20, 23, 25, 26, 28, 29, 30, 31, 32, 33, 168] [(3, .slice a17 x15.1.length c18), (4, .slice a20 x15.2.length c21), (5, .slice a32 x30.1.length c33), (7, .int .i64 x30.2.2), (8, .slice a44 x42.1.length c45), (9, .int .i64 x42.2.1), (11, .slice a56 x54.1.length c57), (13, .slice a81 x79.1.length c82), (14, .int .i64 x79.2), (15, .slice a93 x91.1.length c94), (18, .pointer (some ⟨b114, 0, none⟩)), (17, .slice a105 x103.1.length c106), (19, .slice a130 x128.1.length c131), (20, .int .i64 x128.2), (23, .pointer (some ⟨b160, 0, none⟩)), (25, .pointer (some ⟨b191, 0, none⟩)), (26, .bool x183.2), (28, .pointer (some ⟨b222, 0, none⟩)), (29, .bool x214.2), (30, .pointer (some ⟨b244, 0, none⟩)), (31, .bool x236.2), (32, .slice a260 x258.1.length c261), (33, .slice a263 x258.2.length c264), (168, .bool (!(x183.2 == (!(x174 == [])))))] (by kernel_rfl) ?_
    refine WL.case (!(x183.2 == (!(x174 == [])))) [168] ⟨rfl, trivial⟩ (fun hc429 => ?_) (fun hc429 => ?_)
    · have hm := iteT hm hc429
      refine WL.runk 33 [3, 4, 5, 7, 8, 9, 11, 13, 14, 15, 17, 18, 19, 20, 201] [(3, .slice a17 x15.1.length c18), (4, .slice a20 x15.2.length c21), (5, .slice a32 x30.1.length c33), (7, .int .i64 x30.2.2), (8, .slice a44 x42.1.length c45), (9, .int .i64 x42.2.1), (11, .slice a56 x54.1.length c57), (13, .slice a81 x79.1.length c82), (14, .int .i64 x79.2), (15, .slice a93 x91.1.length c94), (18, .pointer (some ⟨b114, 0, none⟩)), (17, .slice a105 x103.1.length c106), (19, .slice a130 x128.1.length c131), (20, .int .i64 x128.2), (201, .bool true)] (by kernel_rfl) ?_
      refine WL.nil ?_
      obtain rfl := Option.some.inj hm
      exact WQ.post' ⟨rfl, hb425, hL426, (SH.cutOut 0 2 (SH.cutOut 6 1 hS427))⟩ ⟨rfl, rfl, rfl, rfl, rfl, rfl, rfl, rfl, rfl, rfl, rfl, rfl, rfl, rfl, rfl, trivial⟩
    have hm := iteF hm hc429
    refine WL.runk 2 [3, 4, 5, 7, 8, 9, 11, 13, 14, 15, 17, 18, 19, 20, 23, 25, 28, 29, 30, 31, 32, 33, 168, 170] [(3, .slice a17 x15.1.length c18), (4, .slice a20 x15.2.length c21), (5, .slice a32 x30.1.length c33), (7, .int .i64 x30.2.2), (8, .slice a44 x42.1.length c45), (9, .int .i64 x42.2.1), (11, .slice a56 x54.1.length c57), (13, .slice a81 x79.1.length c82), (14, .int .i64 x79.2), (15, .slice a93 x91.1.length c94), (18, .pointer (some ⟨b114, 0, none⟩)), (17, .slice a105 x103.1.length c106), (19, .slice a130 x128.1.length c131), (20, .int .i64 x128.2), (23, .pointer (some ⟨b160, 0, none⟩)), (25, .pointer (some ⟨b191, 0, none⟩)), (28, .pointer (some ⟨b222, 0, none⟩)), (29, .bool x214.2), (30, .pointer (some ⟨b244, 0, none⟩)), (31, .bool x236.2), (32, .slice a260 x258.1.length c261), (33, .slice a263 x258.2.length c264), (168, .bool false), (170, .bool x183.2)] (by kernel_rfl) ?_
    refine WL.case x183.2 [170] ⟨rfl, trivial⟩ (fun hc430 => ?_) (fun hc430 => ?_)
    rotate_left
    · have hm := iteF hm hc430
      refine WL.runk 11 [3, 4, 5, 7, 8, 9, 11, 13, 14, 15, 17, 18, 19, 20, 28, 30, 32, 33, 181] [(3, .slice a17 x15.1.length c18), (4, .slice a20 x15.2.length c21), (5, .slice a32 x30.1.length c33), (7, .int .i64 x30.2.2), (8, .slice a44 x42.1.length c45), (9, .int .i64 x42.2.1), (11, .slice a56 x54.1.length c57), (13, .slice a81 x79.1.length c82), (14, .int .i64 x79.2), (15, .slice a93 x91.1.length c94), (18, .pointer (some ⟨b114, 0, none⟩)), (17, .slice a105 x103.1.length c106), (19, .slice a130 x128.1.length c131), (20, .int .i64 x128.2), (28, .pointer (some ⟨b222, 0, none⟩)), (30, .pointer (some ⟨b244, 0, none⟩)), (32, .slice a260 x258.1.length c261), (33, .slice a263 x258.2.length c264), (181, .bool (!(x214.2 == x236.2)))] (by kernel_rfl) ?_
      refine WL.case (!(x214.2 == x236.2)) [181] ⟨rfl, trivial⟩ (fun hc467 => ?_) (fun hc467 => ?_)
      · have hm := iteT hm hc467
        refine WL.runk 20 [3, 4, 5, 7, 8, 9, 11, 13, 14, 15, 17, 18, 19, 20, 201] [(3, .slice a17 x15.1.length c18), (4, .slice a20 x15.2.length c21), (5, .slice a32 x30.1.length c33), (7, .int .i64 x30.2.2), (8, .slice a44 x42.1.length c45), (9, .int .i64 x42.2.1), (11, .slice a56 x54.1.length c57), (13, .slice a81 x79.1.length c82), (14, .int .i64 x79.2), (15, .slice a93 x91.1.length c94), (18, .pointer (some ⟨b114, 0, none⟩)), (17, .slice a105 x103.1.length c106), (19, .slice a130 x128.1.length c131), (20, .int .i64 x128.2), (201, .bool true)] (by kernel_rfl) ?_
        refine WL.nil ?_
        obtain rfl := Option.some.inj hm
        exact WQ.post' ⟨rfl, hb425, hL426, (SH.cutOut 0 2 (SH.cutOut 6 1 hS427))⟩ ⟨rfl, rfl, rfl, rfl, rfl, rfl, rfl, rfl, rfl, rfl, rfl, rfl, rfl, rfl, rfl, trivial⟩
      have hm := iteF hm hc467
      refine WL.st (.agg #[.string (bs x214.1.Name), .int .i64 x214.1.OnHand, .int .i64 x214.1.Reserved, .int .i64 x214.1.Least]) (ST.loadAgg (vs := [.string (bs x214.1.Name), .int .i64 x214.1.OnHand, .int .i64 x214.1.Reserved, .int .i64 x214.1.Least]) (fun j v hv => SH.boxPart (us := [.string (bs x214.1.Name), .int .i64 x214.1.OnHand, .int .i64 x214.1.Reserved, .int .i64 x214.1.Least]) (SH.front 3 hS427) 0 rfl j v hv) rfl rfl rfl Tryz.underlying31 rfl (info31).1 (info31).2.1) rfl rfl rfl ?_
      refine WL.st (.agg #[.string (bs x236.1.Name), .int .i64 x236.1.OnHand, .int .i64 x236.1.Reserved, .int .i64 x236.1.Least]) (ST.loadAgg (vs := [.string (bs x236.1.Name), .int .i64 x236.1.OnHand, .int .i64 x236.1.Reserved, .int .i64 x236.1.Least]) (fun j v hv => SH.boxPart (us := [.string (bs x236.1.Name), .int .i64 x236.1.OnHand, .int .i64 x236.1.Reserved, .int .i64 x236.1.Least]) (SH.front 2 hS427) 0 rfl j v hv) rfl rfl rfl Tryz.underlying31 rfl (info31).1 (info31).2.1) rfl rfl rfl ?_
      refine WL.st (.bool (!(decide (x214.1 = x236.1)))) (ST.aggne (F := fGood) (x := x214.1) (y := x236.1) (eqs_31 x214.1 x236.1) (by kernel_rfl) rfl rfl rfl) rfl rfl rfl ?_
      refine WL.runk 2 [3, 4, 5, 7, 8, 9, 11, 13, 14, 15, 17, 18, 19, 20, 32, 33, 186] [(3, .slice a17 x15.1.length c18), (4, .slice a20 x15.2.length c21), (5, .slice a32 x30.1.length c33), (7, .int .i64 x30.2.2), (8, .slice a44 x42.1.length c45), (9, .int .i64 x42.2.1), (11, .slice a56 x54.1.length c57), (13, .slice a81 x79.1.length c82), (14, .int .i64 x79.2), (15, .slice a93 x91.1.length c94), (18, .pointer (some ⟨b114, 0, none⟩)), (17, .slice a105 x103.1.length c106), (19, .slice a130 x128.1.length c131), (20, .int .i64 x128.2), (32, .slice a260 x258.1.length c261), (33, .slice a263 x258.2.length c264), (186, .bool (!(decide (x214.1 = x236.1))))] (by kernel_rfl) ?_
      refine WL.case (!(decide (x214.1 = x236.1))) [186] ⟨rfl, trivial⟩ (fun hc468 => ?_) (fun hc468 => ?_)
      · have hm := iteT hm hc468
        refine WL.runk 15 [3, 4, 5, 7, 8, 9, 11, 13, 14, 15, 17, 18, 19, 20, 201] [(3, .slice a17 x15.1.length c18), (4, .slice a20 x15.2.length c21), (5, .slice a32 x30.1.length c33), (7, .int .i64 x30.2.2), (8, .slice a44 x42.1.length c45), (9, .int .i64 x42.2.1), (11, .slice a56 x54.1.length c57), (13, .slice a81 x79.1.length c82), (14, .int .i64 x79.2), (15, .slice a93 x91.1.length c94), (18, .pointer (some ⟨b114, 0, none⟩)), (17, .slice a105 x103.1.length c106), (19, .slice a130 x128.1.length c131), (20, .int .i64 x128.2), (201, .bool true)] (by kernel_rfl) ?_
        refine WL.nil ?_
        obtain rfl := Option.some.inj hm
        exact WQ.post' ⟨rfl, hb425, hL426, (SH.cutOut 0 2 (SH.cutOut 6 1 hS427))⟩ ⟨rfl, rfl, rfl, rfl, rfl, rfl, rfl, rfl, rfl, rfl, rfl, rfl, rfl, rfl, rfl, trivial⟩
      have hm := iteF hm hc468
      refine WL.runk 2 [3, 4, 5, 7, 8, 9, 11, 13, 14, 15, 17, 18, 19, 20, 32, 33, 186, 187, 188] [(3, .slice a17 x15.1.length c18), (4, .slice a20 x15.2.length c21), (5, .slice a32 x30.1.length c33), (7, .int .i64 x30.2.2), (8, .slice a44 x42.1.length c45), (9, .int .i64 x42.2.1), (11, .slice a56 x54.1.length c57), (13, .slice a81 x79.1.length c82), (14, .int .i64 x79.2), (15, .slice a93 x91.1.length c94), (18, .pointer (some ⟨b114, 0, none⟩)), (17, .slice a105 x103.1.length c106), (19, .slice a130 x128.1.length c131), (20, .int .i64 x128.2), (32, .slice a260 x258.1.length c261), (33, .slice a263 x258.2.length c264), (186, .bool false), (187, .slice a260 x258.1.length c261), (188, .slice a263 x258.2.length c264)] (by kernel_rfl) ?_
      obtain ⟨x469, hx470, hm⟩ := bindE hm
      refine WL.call 22 #[.slice a260 x258.1.length c261, .slice a263 x258.2.length c264] rfl rfl (by kernel_rfl) (c_22 n x258.1 a260 c261 x258.2 a263 c264 w422 hx470 (SH.rd (SH.front 0 hS427)) (SH.le (SH.front 0 hS427)).1 (SH.rd (SH.front 1 hS427)) (SH.le (SH.front 1 hS427)).1) ?_
      rintro _ w471 ⟨rfl, hE472⟩
      refine ⟨_, rfl, ?_⟩
      have hb474 : Ext w w471 := Ext.trans hb425 hE472
      have hL475 : w.heap.size ≤ w471.heap.size := Nat.le_trans hL426 hE472.size
      have hS476 : SH w471 w.heap.size [aOwn fGood 31 a260 c261 x258.1, aOwn fGood 31 a263 c264 x258.2, aBox 31 b244 [.string (bs x236.1.Name), .int .i64 x236.1.OnHand, .int .i64 x236.1.Reserved, .int .i64 x236.1.Least], aBox 31 b222 [.string (bs x214.1.Name), .int .i64 x214.1.OnHand, .int .i64 x214.1.Reserved, .int .i64 x214.1.Least], aBox 31 b191 [.string (bs x183.1.Name), .int .i64 x183.1.OnHand, .int .i64 x183.1.Reserved, .int .i64 x183.1.Least], aBox 31 b160 [.string (bs x152.Name), .int .i64 x152.OnHand, .int .i64 x152.Reserved, .int .i64 x152.Least], aOwn fGood 31 a142 c143 x140.1, aOwn fGood 31 a130 c131 x128.1, aBox 37 b114 [.string (bs x103.2.Name), .int .i64 x103.2.Many], aOwn fGood 31 a105 c106 x103.1, aOwn fGood 31 a93 c94 x91.1, aOwn fGood 31 a81 c82 x79.1, aBox 31 b65 [.string (bs x54.2.Name), .int .i64 x54.2.OnHand, .int .i64 x54.2.Reserved, .int .i64 x54.2.Least], aOwn fGood 31 a56 c57 x54.1, aOwn fGood 31 a44 c45 x42.1, aOwn fGood 31 a32 c33 x30.1, aOwn fGood 31 a17 c18 x15.1, aOwn fTake 37 a20 c21 x15.2] := SH.ext hS427 hE472
      refine WL.runk 2 [3, 4, 5, 7, 8, 9, 11, 13, 14, 15, 17, 18, 19, 20, 186, 189, 190, 191] [(3, .slice a17 x15.1.length c18), (4, .slice a20 x15.2.length c21), (5, .slice a32 x30.1.length c33), (7, .int .i64 x30.2.2), (8, .slice a44 x42.1.length c45), (9, .int .i64 x42.2.1), (11, .slice a56 x54.1.length c57), (13, .slice a81 x79.1.length c82), (14, .int .i64 x79.2), (15, .slice a93 x91.1.length c94), (18, .pointer (some ⟨b114, 0, none⟩)), (17, .slice a105 x103.1.length c106), (19, .slice a130 x128.1.length c131), (20, .int .i64 x128.2), (186, .bool false), (189, .bool x469), (190, .slice a260 x258.1.length c261), (191, .slice a263 x258.2.length c264)] (by kernel_rfl) ?_
      obtain ⟨x477, hx478, hm⟩ := bindE hm
      refine WL.call 20 #[.slice a260 x258.1.length c261, .slice a263 x258.2.length c264] rfl rfl (by kernel_rfl) (c_20 n x258.1 a260 c261 x258.2 a263 c264 w471 hx478 (SH.rd (SH.front 0 hS476)) (SH.le (SH.front 0 hS476)).1 (SH.rd (SH.front 1 hS476)) (SH.le (SH.front 1 hS476)).1) ?_
      rintro _ w479 ⟨rfl, hE480⟩
      refine ⟨_, rfl, ?_⟩
      have hb482 : Ext w w479 := Ext.trans hb474 hE480
      have hL483 : w.heap.size ≤ w479.heap.size := Nat.le_trans hL475 hE480.size
      have hS484 : SH w479 w.heap.size [aOwn fGood 31 a260 c261 x258.1, aOwn fGood 31 a263 c264 x258.2, aBox 31 b244 [.string (bs x236.1.Name), .int .i64 x236.1.OnHand, .int .i64 x236.1.Reserved, .int .i64 x236.1.Least], aBox 31 b222 [.string (bs x214.1.Name), .int .i64 x214.1.OnHand, .int .i64 x214.1.Reserved, .int .i64 x214.1.Least], aBox 31 b191 [.string (bs x183.1.Name), .int .i64 x183.1.OnHand, .int .i64 x183.1.Reserved, .int .i64 x183.1.Least], aBox 31 b160 [.string (bs x152.Name), .int .i64 x152.OnHand, .int .i64 x152.Reserved, .int .i64 x152.Least], aOwn fGood 31 a142 c143 x140.1, aOwn fGood 31 a130 c131 x128.1, aBox 37 b114 [.string (bs x103.2.Name), .int .i64 x103.2.Many], aOwn fGood 31 a105 c106 x103.1, aOwn fGood 31 a93 c94 x91.1, aOwn fGood 31 a81 c82 x79.1, aBox 31 b65 [.string (bs x54.2.Name), .int .i64 x54.2.OnHand, .int .i64 x54.2.Reserved, .int .i64 x54.2.Least], aOwn fGood 31 a56 c57 x54.1, aOwn fGood 31 a44 c45 x42.1, aOwn fGood 31 a32 c33 x30.1, aOwn fGood 31 a17 c18 x15.1, aOwn fTake 37 a20 c21 x15.2] := SH.ext hS476 hE480
      refine WL.runk 3 [3, 4, 5, 7, 8, 9, 11, 13, 14, 15, 17, 18, 19, 20, 195] [(3, .slice a17 x15.1.length c18), (4, .slice a20 x15.2.length c21), (5, .slice a32 x30.1.length c33), (7, .int .i64 x30.2.2), (8, .slice a44 x42.1.length c45), (9, .int .i64 x42.2.1), (11, .slice a56 x54.1.length c57), (13, .slice a81 x79.1.length c82), (14, .int .i64 x79.2), (15, .slice a93 x91.1.length c94), (18, .pointer (some ⟨b114, 0, none⟩)), (17, .slice a105 x103.1.length c106), (19, .slice a130 x128.1.length c131), (20, .int .i64 x128.2), (195, .bool (!(x469 == x477)))] (by kernel_rfl) ?_
      refine WL.case (!(x469 == x477)) [195] ⟨rfl, trivial⟩ (fun hc485 => ?_) (fun hc485 => ?_)
      · have hm := iteT hm hc485
        refine WL.runk 6 [3, 4, 5, 7, 8, 9, 11, 13, 14, 15, 17, 18, 19, 20, 201] [(3, .slice a17 x15.1.length c18), (4, .slice a20 x15.2.length c21), (5, .slice a32 x30.1.length c33), (7, .int .i64 x30.2.2), (8, .slice a44 x42.1.length c45), (9, .int .i64 x42.2.1), (11, .slice a56 x54.1.length c57), (13, .slice a81 x79.1.length c82), (14, .int .i64 x79.2), (15, .slice a93 x91.1.length c94), (18, .pointer (some ⟨b114, 0, none⟩)), (17, .slice a105 x103.1.length c106), (19, .slice a130 x128.1.length c131), (20, .int .i64 x128.2), (201, .bool true)] (by kernel_rfl) ?_
        refine WL.nil ?_
        obtain rfl := Option.some.inj hm
        exact WQ.post' ⟨rfl, hb482, hL483, (SH.cutOut 0 2 (SH.cutOut 6 1 hS484))⟩ ⟨rfl, rfl, rfl, rfl, rfl, rfl, rfl, rfl, rfl, rfl, rfl, rfl, rfl, rfl, rfl, trivial⟩
      have hm := iteF hm hc485
      refine WL.runk 1 [3, 4, 5, 7, 8, 9, 11, 13, 14, 15, 17, 18, 19, 20, 195, 196] [(3, .slice a17 x15.1.length c18), (4, .slice a20 x15.2.length c21), (5, .slice a32 x30.1.length c33), (7, .int .i64 x30.2.2), (8, .slice a44 x42.1.length c45), (9, .int .i64 x42.2.1), (11, .slice a56 x54.1.length c57), (13, .slice a81 x79.1.length c82), (14, .int .i64 x79.2), (15, .slice a93 x91.1.length c94), (18, .pointer (some ⟨b114, 0, none⟩)), (17, .slice a105 x103.1.length c106), (19, .slice a130 x128.1.length c131), (20, .int .i64 x128.2), (195, .bool false), (196, .slice a17 x15.1.length c18)] (by kernel_rfl) ?_
      obtain ⟨x486, hx487, hm⟩ := bindE hm
      refine WL.call 23 #[.slice a17 x15.1.length c18] rfl rfl (by kernel_rfl) (c_23 n x15.1 a17 c18 w479 hx487 (SH.rd (SH.front 16 hS484)) (SH.le (SH.front 16 hS484)).1) ?_
      rintro _ w488 ⟨rfl, hE489⟩
      refine ⟨_, rfl, ?_⟩
      have hb491 : Ext w w488 := Ext.trans hb482 hE489
      have hL492 : w.heap.size ≤ w488.heap.size := Nat.le_trans hL483 hE489.size
      have hS493 : SH w488 w.heap.size [aOwn fGood 31 a260 c261 x258.1, aOwn fGood 31 a263 c264 x258.2, aBox 31 b244 [.string (bs x236.1.Name), .int .i64 x236.1.OnHand, .int .i64 x236.1.Reserved, .int .i64 x236.1.Least], aBox 31 b222 [.string (bs x214.1.Name), .int .i64 x214.1.OnHand, .int .i64 x214.1.Reserved, .int .i64 x214.1.Least], aBox 31 b191 [.string (bs x183.1.Name), .int .i64 x183.1.OnHand, .int .i64 x183.1.Reserved, .int .i64 x183.1.Least], aBox 31 b160 [.string (bs x152.Name), .int .i64 x152.OnHand, .int .i64 x152.Reserved, .int .i64 x152.Least], aOwn fGood 31 a142 c143 x140.1, aOwn fGood 31 a130 c131 x128.1, aBox 37 b114 [.string (bs x103.2.Name), .int .i64 x103.2.Many], aOwn fGood 31 a105 c106 x103.1, aOwn fGood 31 a93 c94 x91.1, aOwn fGood 31 a81 c82 x79.1, aBox 31 b65 [.string (bs x54.2.Name), .int .i64 x54.2.OnHand, .int .i64 x54.2.Reserved, .int .i64 x54.2.Least], aOwn fGood 31 a56 c57 x54.1, aOwn fGood 31 a44 c45 x42.1, aOwn fGood 31 a32 c33 x30.1, aOwn fGood 31 a17 c18 x15.1, aOwn fTake 37 a20 c21 x15.2] := SH.ext hS484 hE489
      refine WL.runk 1 [3, 4, 5, 7, 8, 9, 11, 13, 14, 15, 17, 18, 19, 20, 195, 197, 198] [(3, .slice a17 x15.1.length c18), (4, .slice a20 x15.2.length c21), (5, .slice a32 x30.1.length c33), (7, .int .i64 x30.2.2), (8, .slice a44 x42.1.length c45), (9, .int .i64 x42.2.1), (11, .slice a56 x54.1.length c57), (13, .slice a81 x79.1.length c82), (14, .int .i64 x79.2), (15, .slice a93 x91.1.length c94), (18, .pointer (some ⟨b114, 0, none⟩)), (17, .slice a105 x103.1.length c106), (19, .slice a130 x128.1.length c131), (20, .int .i64 x128.2), (195, .bool false), (197, .bool x486), (198, .slice a17 x15.1.length c18)] (by kernel_rfl) ?_
      obtain ⟨x494, hx495, hm⟩ := bindE hm
      refine WL.call 24 #[.slice a17 x15.1.length c18] rfl rfl (by kernel_rfl) (c_24 n x15.1 a17 c18 w488 hx495 (SH.rd (SH.front 16 hS493)) (SH.le (SH.front 16 hS493)).1) ?_
      rintro _ w496 ⟨rfl, hE497⟩
      refine ⟨_, rfl, ?_⟩
      have hb499 : Ext w w496 := Ext.trans hb491 hE497
      have hL500 : w.heap.size ≤ w496.heap.size := Nat.le_trans hL492 hE497.size
      have hS501 : SH w496 w.heap.size [aOwn fGood 31 a260 c261 x258.1, aOwn fGood 31 a263 c264 x258.2, aBox 31 b244 [.string (bs x236.1.Name), .int .i64 x236.1.OnHand, .int .i64 x236.1.Reserved, .int .i64 x236.1.Least], aBox 31 b222 [.string (bs x214.1.Name), .int .i64 x214.1.OnHand, .int .i64 x214.1.Reserved, .int .i64 x214.1.Least], aBox 31 b191 [.string (bs x183.1.Name), .int .i64 x183.1.OnHand, .int .i64 x183.1.Reserved, .int .i64 x183.1.Least], aBox 31 b160 [.string (bs x152.Name), .int .i64 x152.OnHand, .int .i64 x152.Reserved, .int .i64 x152.Least], aOwn fGood 31 a142 c143 x140.1, aOwn fGood 31 a130 c131 x128.1, aBox 37 b114 [.string (bs x103.2.Name), .int .i64 x103.2.Many], aOwn fGood 31 a105 c106 x103.1, aOwn fGood 31 a93 c94 x91.1, aOwn fGood 31 a81 c82 x79.1, aBox 31 b65 [.string (bs x54.2.Name), .int .i64 x54.2.OnHand, .int .i64 x54.2.Reserved, .int .i64 x54.2.Least], aOwn fGood 31 a56 c57 x54.1, aOwn fGood 31 a44 c45 x42.1, aOwn fGood 31 a32 c33 x30.1, aOwn fGood 31 a17 c18 x15.1, aOwn fTake 37 a20 c21 x15.2] := SH.ext hS493 hE497
      refine WL.runk 2 [3, 4, 5, 7, 8, 9, 11, 13, 14, 15, 17, 18, 19, 20, 201] [(3, .slice a17 x15.1.length c18), (4, .slice a20 x15.2.length c21), (5, .slice a32 x30.1.length c33), (7, .int .i64 x30.2.2), (8, .slice a44 x42.1.length c45), (9, .int .i64 x42.2.1), (11, .slice a56 x54.1.length c57), (13, .slice a81 x79.1.length c82), (14, .int .i64 x79.2), (15, .slice a93 x91.1.length c94), (18, .pointer (some ⟨b114, 0, none⟩)), (17, .slice a105 x103.1.length c106), (19, .slice a130 x128.1.length c131), (20, .int .i64 x128.2), (201, .bool (!(x486 == x494)))] (by kernel_rfl) ?_
      refine WL.nil ?_
      obtain rfl := Option.some.inj hm
      exact WQ.post' ⟨rfl, hb499, hL500, (SH.cutOut 0 2 (SH.cutOut 6 1 hS501))⟩ ⟨rfl, rfl, rfl, rfl, rfl, rfl, rfl, rfl, rfl, rfl, rfl, rfl, rfl, rfl, rfl, trivial⟩
    have hm := iteT hm hc430
    refine WL.st (.agg #[.string (bs x183.1.Name), .int .i64 x183.1.OnHand, .int .i64 x183.1.Reserved, .int .i64 x183.1.Least]) (ST.loadAgg (vs := [.string (bs x183.1.Name), .int .i64 x183.1.OnHand, .int .i64 x183.1.Reserved, .int .i64 x183.1.Least]) (fun j v hv => SH.boxPart (us := [.string (bs x183.1.Name), .int .i64 x183.1.OnHand, .int .i64 x183.1.Reserved, .int .i64 x183.1.Least]) (SH.front 4 hS427) 0 rfl j v hv) rfl rfl rfl Tryz.underlying31 rfl (info31).1 (info31).2.1) rfl rfl rfl ?_
    refine WL.st (.agg #[.string (bs x152.Name), .int .i64 x152.OnHand, .int .i64 x152.Reserved, .int .i64 x152.Least]) (ST.loadAgg (vs := [.string (bs x152.Name), .int .i64 x152.OnHand, .int .i64 x152.Reserved, .int .i64 x152.Least]) (fun j v hv => SH.boxPart (us := [.string (bs x152.Name), .int .i64 x152.OnHand, .int .i64 x152.Reserved, .int .i64 x152.Least]) (SH.front 5 hS427) 0 rfl j v hv) rfl rfl rfl Tryz.underlying31 rfl (info31).1 (info31).2.1) rfl rfl rfl ?_
    refine WL.st (.bool (!(decide (x183.1 = x152)))) (ST.aggne (F := fGood) (x := x183.1) (y := x152) (eqs_31 x183.1 x152) (by kernel_rfl) rfl rfl rfl) rfl rfl rfl ?_
    refine WL.runk 3 [3, 4, 5, 7, 8, 9, 11, 13, 14, 15, 17, 18, 19, 20, 28, 29, 30, 31, 32, 33, 176] [(3, .slice a17 x15.1.length c18), (4, .slice a20 x15.2.length c21), (5, .slice a32 x30.1.length c33), (7, .int .i64 x30.2.2), (8, .slice a44 x42.1.length c45), (9, .int .i64 x42.2.1), (11, .slice a56 x54.1.length c57), (13, .slice a81 x79.1.length c82), (14, .int .i64 x79.2), (15, .slice a93 x91.1.length c94), (18, .pointer (some ⟨b114, 0, none⟩)), (17, .slice a105 x103.1.length c106), (19, .slice a130 x128.1.length c131), (20, .int .i64 x128.2), (28, .pointer (some ⟨b222, 0, none⟩)), (29, .bool x214.2), (30, .pointer (some ⟨b244, 0, none⟩)), (31, .bool x236.2), (32, .slice a260 x258.1.length c261), (33, .slice a263 x258.2.length c264), (176, .bool (!(decide (x183.1 = x152))))] (by kernel_rfl) ?_
    refine WL.case (!(decide (x183.1 = x152))) [176] ⟨rfl, trivial⟩ (fun hc431 => ?_) (fun hc431 => ?_)
    · have hm := iteT hm hc431
      refine WL.runk 25 [3, 4, 5, 7, 8, 9, 11, 13, 14, 15, 17, 18, 19, 20, 201] [(3, .slice a17 x15.1.length c18), (4, .slice a20 x15.2.length c21), (5, .slice a32 x30.1.length c33), (7, .int .i64 x30.2.2), (8, .slice a44 x42.1.length c45), (9, .int .i64 x42.2.1), (11, .slice a56 x54.1.length c57), (13, .slice a81 x79.1.length c82), (14, .int .i64 x79.2), (15, .slice a93 x91.1.length c94), (18, .pointer (some ⟨b114, 0, none⟩)), (17, .slice a105 x103.1.length c106), (19, .slice a130 x128.1.length c131), (20, .int .i64 x128.2), (201, .bool true)] (by kernel_rfl) ?_
      refine WL.nil ?_
      obtain rfl := Option.some.inj hm
      exact WQ.post' ⟨rfl, hb425, hL426, (SH.cutOut 0 2 (SH.cutOut 6 1 hS427))⟩ ⟨rfl, rfl, rfl, rfl, rfl, rfl, rfl, rfl, rfl, rfl, rfl, rfl, rfl, rfl, rfl, trivial⟩
    have hm := iteF hm hc431
    refine WL.runk 5 [3, 4, 5, 7, 8, 9, 11, 13, 14, 15, 17, 18, 19, 20, 28, 30, 32, 33, 181] [(3, .slice a17 x15.1.length c18), (4, .slice a20 x15.2.length c21), (5, .slice a32 x30.1.length c33), (7, .int .i64 x30.2.2), (8, .slice a44 x42.1.length c45), (9, .int .i64 x42.2.1), (11, .slice a56 x54.1.length c57), (13, .slice a81 x79.1.length c82), (14, .int .i64 x79.2), (15, .slice a93 x91.1.length c94), (18, .pointer (some ⟨b114, 0, none⟩)), (17, .slice a105 x103.1.length c106), (19, .slice a130 x128.1.length c131), (20, .int .i64 x128.2), (28, .pointer (some ⟨b222, 0, none⟩)), (30, .pointer (some ⟨b244, 0, none⟩)), (32, .slice a260 x258.1.length c261), (33, .slice a263 x258.2.length c264), (181, .bool (!(x214.2 == x236.2)))] (by kernel_rfl) ?_
    refine WL.case (!(x214.2 == x236.2)) [181] ⟨rfl, trivial⟩ (fun hc432 => ?_) (fun hc432 => ?_)
    · have hm := iteT hm hc432
      refine WL.runk 20 [3, 4, 5, 7, 8, 9, 11, 13, 14, 15, 17, 18, 19, 20, 201] [(3, .slice a17 x15.1.length c18), (4, .slice a20 x15.2.length c21), (5, .slice a32 x30.1.length c33), (7, .int .i64 x30.2.2), (8, .slice a44 x42.1.length c45), (9, .int .i64 x42.2.1), (11, .slice a56 x54.1.length c57), (13, .slice a81 x79.1.length c82), (14, .int .i64 x79.2), (15, .slice a93 x91.1.length c94), (18, .pointer (some ⟨b114, 0, none⟩)), (17, .slice a105 x103.1.length c106), (19, .slice a130 x128.1.length c131), (20, .int .i64 x128.2), (201, .bool true)] (by kernel_rfl) ?_
      refine WL.nil ?_
      obtain rfl := Option.some.inj hm
      exact WQ.post' ⟨rfl, hb425, hL426, (SH.cutOut 0 2 (SH.cutOut 6 1 hS427))⟩ ⟨rfl, rfl, rfl, rfl, rfl, rfl, rfl, rfl, rfl, rfl, rfl, rfl, rfl, rfl, rfl, trivial⟩
    have hm := iteF hm hc432
    refine WL.st (.agg #[.string (bs x214.1.Name), .int .i64 x214.1.OnHand, .int .i64 x214.1.Reserved, .int .i64 x214.1.Least]) (ST.loadAgg (vs := [.string (bs x214.1.Name), .int .i64 x214.1.OnHand, .int .i64 x214.1.Reserved, .int .i64 x214.1.Least]) (fun j v hv => SH.boxPart (us := [.string (bs x214.1.Name), .int .i64 x214.1.OnHand, .int .i64 x214.1.Reserved, .int .i64 x214.1.Least]) (SH.front 3 hS427) 0 rfl j v hv) rfl rfl rfl Tryz.underlying31 rfl (info31).1 (info31).2.1) rfl rfl rfl ?_
    refine WL.st (.agg #[.string (bs x236.1.Name), .int .i64 x236.1.OnHand, .int .i64 x236.1.Reserved, .int .i64 x236.1.Least]) (ST.loadAgg (vs := [.string (bs x236.1.Name), .int .i64 x236.1.OnHand, .int .i64 x236.1.Reserved, .int .i64 x236.1.Least]) (fun j v hv => SH.boxPart (us := [.string (bs x236.1.Name), .int .i64 x236.1.OnHand, .int .i64 x236.1.Reserved, .int .i64 x236.1.Least]) (SH.front 2 hS427) 0 rfl j v hv) rfl rfl rfl Tryz.underlying31 rfl (info31).1 (info31).2.1) rfl rfl rfl ?_
    refine WL.st (.bool (!(decide (x214.1 = x236.1)))) (ST.aggne (F := fGood) (x := x214.1) (y := x236.1) (eqs_31 x214.1 x236.1) (by kernel_rfl) rfl rfl rfl) rfl rfl rfl ?_
    refine WL.runk 2 [3, 4, 5, 7, 8, 9, 11, 13, 14, 15, 17, 18, 19, 20, 32, 33, 186] [(3, .slice a17 x15.1.length c18), (4, .slice a20 x15.2.length c21), (5, .slice a32 x30.1.length c33), (7, .int .i64 x30.2.2), (8, .slice a44 x42.1.length c45), (9, .int .i64 x42.2.1), (11, .slice a56 x54.1.length c57), (13, .slice a81 x79.1.length c82), (14, .int .i64 x79.2), (15, .slice a93 x91.1.length c94), (18, .pointer (some ⟨b114, 0, none⟩)), (17, .slice a105 x103.1.length c106), (19, .slice a130 x128.1.length c131), (20, .int .i64 x128.2), (32, .slice a260 x258.1.length c261), (33, .slice a263 x258.2.length c264), (186, .bool (!(decide (x214.1 = x236.1))))] (by kernel_rfl) ?_
    refine WL.case (!(decide (x214.1 = x236.1))) [186] ⟨rfl, trivial⟩ (fun hc433 => ?_) (fun hc433 => ?_)
    · have hm := iteT hm hc433
      refine WL.runk 15 [3, 4, 5, 7, 8, 9, 11, 13, 14, 15, 17, 18, 19, 20, 201] [(3, .slice a17 x15.1.length c18), (4, .slice a20 x15.2.length c21), (5, .slice a32 x30.1.length c33), (7, .int .i64 x30.2.2), (8, .slice a44 x42.1.length c45), (9, .int .i64 x42.2.1), (11, .slice a56 x54.1.length c57), (13, .slice a81 x79.1.length c82), (14, .int .i64 x79.2), (15, .slice a93 x91.1.length c94), (18, .pointer (some ⟨b114, 0, none⟩)), (17, .slice a105 x103.1.length c106), (19, .slice a130 x128.1.length c131), (20, .int .i64 x128.2), (201, .bool true)] (by kernel_rfl) ?_
      refine WL.nil ?_
      obtain rfl := Option.some.inj hm
      exact WQ.post' ⟨rfl, hb425, hL426, (SH.cutOut 0 2 (SH.cutOut 6 1 hS427))⟩ ⟨rfl, rfl, rfl, rfl, rfl, rfl, rfl, rfl, rfl, rfl, rfl, rfl, rfl, rfl, rfl, trivial⟩
    have hm := iteF hm hc433
    refine WL.runk 2 [3, 4, 5, 7, 8, 9, 11, 13, 14, 15, 17, 18, 19, 20, 32, 33, 186, 187, 188] [(3, .slice a17 x15.1.length c18), (4, .slice a20 x15.2.length c21), (5, .slice a32 x30.1.length c33), (7, .int .i64 x30.2.2), (8, .slice a44 x42.1.length c45), (9, .int .i64 x42.2.1), (11, .slice a56 x54.1.length c57), (13, .slice a81 x79.1.length c82), (14, .int .i64 x79.2), (15, .slice a93 x91.1.length c94), (18, .pointer (some ⟨b114, 0, none⟩)), (17, .slice a105 x103.1.length c106), (19, .slice a130 x128.1.length c131), (20, .int .i64 x128.2), (32, .slice a260 x258.1.length c261), (33, .slice a263 x258.2.length c264), (186, .bool false), (187, .slice a260 x258.1.length c261), (188, .slice a263 x258.2.length c264)] (by kernel_rfl) ?_
    obtain ⟨x434, hx435, hm⟩ := bindE hm
    refine WL.call 22 #[.slice a260 x258.1.length c261, .slice a263 x258.2.length c264] rfl rfl (by kernel_rfl) (c_22 n x258.1 a260 c261 x258.2 a263 c264 w422 hx435 (SH.rd (SH.front 0 hS427)) (SH.le (SH.front 0 hS427)).1 (SH.rd (SH.front 1 hS427)) (SH.le (SH.front 1 hS427)).1) ?_
    rintro _ w436 ⟨rfl, hE437⟩
    refine ⟨_, rfl, ?_⟩
    have hb439 : Ext w w436 := Ext.trans hb425 hE437
    have hL440 : w.heap.size ≤ w436.heap.size := Nat.le_trans hL426 hE437.size
    have hS441 : SH w436 w.heap.size [aOwn fGood 31 a260 c261 x258.1, aOwn fGood 31 a263 c264 x258.2, aBox 31 b244 [.string (bs x236.1.Name), .int .i64 x236.1.OnHand, .int .i64 x236.1.Reserved, .int .i64 x236.1.Least], aBox 31 b222 [.string (bs x214.1.Name), .int .i64 x214.1.OnHand, .int .i64 x214.1.Reserved, .int .i64 x214.1.Least], aBox 31 b191 [.string (bs x183.1.Name), .int .i64 x183.1.OnHand, .int .i64 x183.1.Reserved, .int .i64 x183.1.Least], aBox 31 b160 [.string (bs x152.Name), .int .i64 x152.OnHand, .int .i64 x152.Reserved, .int .i64 x152.Least], aOwn fGood 31 a142 c143 x140.1, aOwn fGood 31 a130 c131 x128.1, aBox 37 b114 [.string (bs x103.2.Name), .int .i64 x103.2.Many], aOwn fGood 31 a105 c106 x103.1, aOwn fGood 31 a93 c94 x91.1, aOwn fGood 31 a81 c82 x79.1, aBox 31 b65 [.string (bs x54.2.Name), .int .i64 x54.2.OnHand, .int .i64 x54.2.Reserved, .int .i64 x54.2.Least], aOwn fGood 31 a56 c57 x54.1, aOwn fGood 31 a44 c45 x42.1, aOwn fGood 31 a32 c33 x30.1, aOwn fGood 31 a17 c18 x15.1, aOwn fTake 37 a20 c21 x15.2] := SH.ext hS427 hE437
    refine WL.runk 2 [3, 4, 5, 7, 8, 9, 11, 13, 14, 15, 17, 18, 19, 20, 186, 189, 190, 191] [(3, .slice a17 x15.1.length c18), (4, .slice a20 x15.2.length c21), (5, .slice a32 x30.1.length c33), (7, .int .i64 x30.2.2), (8, .slice a44 x42.1.length c45), (9, .int .i64 x42.2.1), (11, .slice a56 x54.1.length c57), (13, .slice a81 x79.1.length c82), (14, .int .i64 x79.2), (15, .slice a93 x91.1.length c94), (18, .pointer (some ⟨b114, 0, none⟩)), (17, .slice a105 x103.1.length c106), (19, .slice a130 x128.1.length c131), (20, .int .i64 x128.2), (186, .bool false), (189, .bool x434), (190, .slice a260 x258.1.length c261), (191, .slice a263 x258.2.length c264)] (by kernel_rfl) ?_
    obtain ⟨x442, hx443, hm⟩ := bindE hm
    refine WL.call 20 #[.slice a260 x258.1.length c261, .slice a263 x258.2.length c264] rfl rfl (by kernel_rfl) (c_20 n x258.1 a260 c261 x258.2 a263 c264 w436 hx443 (SH.rd (SH.front 0 hS441)) (SH.le (SH.front 0 hS441)).1 (SH.rd (SH.front 1 hS441)) (SH.le (SH.front 1 hS441)).1) ?_
    rintro _ w444 ⟨rfl, hE445⟩
    refine ⟨_, rfl, ?_⟩
    have hb447 : Ext w w444 := Ext.trans hb439 hE445
    have hL448 : w.heap.size ≤ w444.heap.size := Nat.le_trans hL440 hE445.size
    have hS449 : SH w444 w.heap.size [aOwn fGood 31 a260 c261 x258.1, aOwn fGood 31 a263 c264 x258.2, aBox 31 b244 [.string (bs x236.1.Name), .int .i64 x236.1.OnHand, .int .i64 x236.1.Reserved, .int .i64 x236.1.Least], aBox 31 b222 [.string (bs x214.1.Name), .int .i64 x214.1.OnHand, .int .i64 x214.1.Reserved, .int .i64 x214.1.Least], aBox 31 b191 [.string (bs x183.1.Name), .int .i64 x183.1.OnHand, .int .i64 x183.1.Reserved, .int .i64 x183.1.Least], aBox 31 b160 [.string (bs x152.Name), .int .i64 x152.OnHand, .int .i64 x152.Reserved, .int .i64 x152.Least], aOwn fGood 31 a142 c143 x140.1, aOwn fGood 31 a130 c131 x128.1, aBox 37 b114 [.string (bs x103.2.Name), .int .i64 x103.2.Many], aOwn fGood 31 a105 c106 x103.1, aOwn fGood 31 a93 c94 x91.1, aOwn fGood 31 a81 c82 x79.1, aBox 31 b65 [.string (bs x54.2.Name), .int .i64 x54.2.OnHand, .int .i64 x54.2.Reserved, .int .i64 x54.2.Least], aOwn fGood 31 a56 c57 x54.1, aOwn fGood 31 a44 c45 x42.1, aOwn fGood 31 a32 c33 x30.1, aOwn fGood 31 a17 c18 x15.1, aOwn fTake 37 a20 c21 x15.2] := SH.ext hS441 hE445
    refine WL.runk 3 [3, 4, 5, 7, 8, 9, 11, 13, 14, 15, 17, 18, 19, 20, 195] [(3, .slice a17 x15.1.length c18), (4, .slice a20 x15.2.length c21), (5, .slice a32 x30.1.length c33), (7, .int .i64 x30.2.2), (8, .slice a44 x42.1.length c45), (9, .int .i64 x42.2.1), (11, .slice a56 x54.1.length c57), (13, .slice a81 x79.1.length c82), (14, .int .i64 x79.2), (15, .slice a93 x91.1.length c94), (18, .pointer (some ⟨b114, 0, none⟩)), (17, .slice a105 x103.1.length c106), (19, .slice a130 x128.1.length c131), (20, .int .i64 x128.2), (195, .bool (!(x434 == x442)))] (by kernel_rfl) ?_
    refine WL.case (!(x434 == x442)) [195] ⟨rfl, trivial⟩ (fun hc450 => ?_) (fun hc450 => ?_)
    · have hm := iteT hm hc450
      refine WL.runk 6 [3, 4, 5, 7, 8, 9, 11, 13, 14, 15, 17, 18, 19, 20, 201] [(3, .slice a17 x15.1.length c18), (4, .slice a20 x15.2.length c21), (5, .slice a32 x30.1.length c33), (7, .int .i64 x30.2.2), (8, .slice a44 x42.1.length c45), (9, .int .i64 x42.2.1), (11, .slice a56 x54.1.length c57), (13, .slice a81 x79.1.length c82), (14, .int .i64 x79.2), (15, .slice a93 x91.1.length c94), (18, .pointer (some ⟨b114, 0, none⟩)), (17, .slice a105 x103.1.length c106), (19, .slice a130 x128.1.length c131), (20, .int .i64 x128.2), (201, .bool true)] (by kernel_rfl) ?_
      refine WL.nil ?_
      obtain rfl := Option.some.inj hm
      exact WQ.post' ⟨rfl, hb447, hL448, (SH.cutOut 0 2 (SH.cutOut 6 1 hS449))⟩ ⟨rfl, rfl, rfl, rfl, rfl, rfl, rfl, rfl, rfl, rfl, rfl, rfl, rfl, rfl, rfl, trivial⟩
    have hm := iteF hm hc450
    refine WL.runk 1 [3, 4, 5, 7, 8, 9, 11, 13, 14, 15, 17, 18, 19, 20, 195, 196] [(3, .slice a17 x15.1.length c18), (4, .slice a20 x15.2.length c21), (5, .slice a32 x30.1.length c33), (7, .int .i64 x30.2.2), (8, .slice a44 x42.1.length c45), (9, .int .i64 x42.2.1), (11, .slice a56 x54.1.length c57), (13, .slice a81 x79.1.length c82), (14, .int .i64 x79.2), (15, .slice a93 x91.1.length c94), (18, .pointer (some ⟨b114, 0, none⟩)), (17, .slice a105 x103.1.length c106), (19, .slice a130 x128.1.length c131), (20, .int .i64 x128.2), (195, .bool false), (196, .slice a17 x15.1.length c18)] (by kernel_rfl) ?_
    obtain ⟨x451, hx452, hm⟩ := bindE hm
    refine WL.call 23 #[.slice a17 x15.1.length c18] rfl rfl (by kernel_rfl) (c_23 n x15.1 a17 c18 w444 hx452 (SH.rd (SH.front 16 hS449)) (SH.le (SH.front 16 hS449)).1) ?_
    rintro _ w453 ⟨rfl, hE454⟩
    refine ⟨_, rfl, ?_⟩
    have hb456 : Ext w w453 := Ext.trans hb447 hE454
    have hL457 : w.heap.size ≤ w453.heap.size := Nat.le_trans hL448 hE454.size
    have hS458 : SH w453 w.heap.size [aOwn fGood 31 a260 c261 x258.1, aOwn fGood 31 a263 c264 x258.2, aBox 31 b244 [.string (bs x236.1.Name), .int .i64 x236.1.OnHand, .int .i64 x236.1.Reserved, .int .i64 x236.1.Least], aBox 31 b222 [.string (bs x214.1.Name), .int .i64 x214.1.OnHand, .int .i64 x214.1.Reserved, .int .i64 x214.1.Least], aBox 31 b191 [.string (bs x183.1.Name), .int .i64 x183.1.OnHand, .int .i64 x183.1.Reserved, .int .i64 x183.1.Least], aBox 31 b160 [.string (bs x152.Name), .int .i64 x152.OnHand, .int .i64 x152.Reserved, .int .i64 x152.Least], aOwn fGood 31 a142 c143 x140.1, aOwn fGood 31 a130 c131 x128.1, aBox 37 b114 [.string (bs x103.2.Name), .int .i64 x103.2.Many], aOwn fGood 31 a105 c106 x103.1, aOwn fGood 31 a93 c94 x91.1, aOwn fGood 31 a81 c82 x79.1, aBox 31 b65 [.string (bs x54.2.Name), .int .i64 x54.2.OnHand, .int .i64 x54.2.Reserved, .int .i64 x54.2.Least], aOwn fGood 31 a56 c57 x54.1, aOwn fGood 31 a44 c45 x42.1, aOwn fGood 31 a32 c33 x30.1, aOwn fGood 31 a17 c18 x15.1, aOwn fTake 37 a20 c21 x15.2] := SH.ext hS449 hE454
    refine WL.runk 1 [3, 4, 5, 7, 8, 9, 11, 13, 14, 15, 17, 18, 19, 20, 195, 197, 198] [(3, .slice a17 x15.1.length c18), (4, .slice a20 x15.2.length c21), (5, .slice a32 x30.1.length c33), (7, .int .i64 x30.2.2), (8, .slice a44 x42.1.length c45), (9, .int .i64 x42.2.1), (11, .slice a56 x54.1.length c57), (13, .slice a81 x79.1.length c82), (14, .int .i64 x79.2), (15, .slice a93 x91.1.length c94), (18, .pointer (some ⟨b114, 0, none⟩)), (17, .slice a105 x103.1.length c106), (19, .slice a130 x128.1.length c131), (20, .int .i64 x128.2), (195, .bool false), (197, .bool x451), (198, .slice a17 x15.1.length c18)] (by kernel_rfl) ?_
    obtain ⟨x459, hx460, hm⟩ := bindE hm
    refine WL.call 24 #[.slice a17 x15.1.length c18] rfl rfl (by kernel_rfl) (c_24 n x15.1 a17 c18 w453 hx460 (SH.rd (SH.front 16 hS458)) (SH.le (SH.front 16 hS458)).1) ?_
    rintro _ w461 ⟨rfl, hE462⟩
    refine ⟨_, rfl, ?_⟩
    have hb464 : Ext w w461 := Ext.trans hb456 hE462
    have hL465 : w.heap.size ≤ w461.heap.size := Nat.le_trans hL457 hE462.size
    have hS466 : SH w461 w.heap.size [aOwn fGood 31 a260 c261 x258.1, aOwn fGood 31 a263 c264 x258.2, aBox 31 b244 [.string (bs x236.1.Name), .int .i64 x236.1.OnHand, .int .i64 x236.1.Reserved, .int .i64 x236.1.Least], aBox 31 b222 [.string (bs x214.1.Name), .int .i64 x214.1.OnHand, .int .i64 x214.1.Reserved, .int .i64 x214.1.Least], aBox 31 b191 [.string (bs x183.1.Name), .int .i64 x183.1.OnHand, .int .i64 x183.1.Reserved, .int .i64 x183.1.Least], aBox 31 b160 [.string (bs x152.Name), .int .i64 x152.OnHand, .int .i64 x152.Reserved, .int .i64 x152.Least], aOwn fGood 31 a142 c143 x140.1, aOwn fGood 31 a130 c131 x128.1, aBox 37 b114 [.string (bs x103.2.Name), .int .i64 x103.2.Many], aOwn fGood 31 a105 c106 x103.1, aOwn fGood 31 a93 c94 x91.1, aOwn fGood 31 a81 c82 x79.1, aBox 31 b65 [.string (bs x54.2.Name), .int .i64 x54.2.OnHand, .int .i64 x54.2.Reserved, .int .i64 x54.2.Least], aOwn fGood 31 a56 c57 x54.1, aOwn fGood 31 a44 c45 x42.1, aOwn fGood 31 a32 c33 x30.1, aOwn fGood 31 a17 c18 x15.1, aOwn fTake 37 a20 c21 x15.2] := SH.ext hS458 hE462
    refine WL.runk 2 [3, 4, 5, 7, 8, 9, 11, 13, 14, 15, 17, 18, 19, 20, 201] [(3, .slice a17 x15.1.length c18), (4, .slice a20 x15.2.length c21), (5, .slice a32 x30.1.length c33), (7, .int .i64 x30.2.2), (8, .slice a44 x42.1.length c45), (9, .int .i64 x42.2.1), (11, .slice a56 x54.1.length c57), (13, .slice a81 x79.1.length c82), (14, .int .i64 x79.2), (15, .slice a93 x91.1.length c94), (18, .pointer (some ⟨b114, 0, none⟩)), (17, .slice a105 x103.1.length c106), (19, .slice a130 x128.1.length c131), (20, .int .i64 x128.2), (201, .bool (!(x451 == x459)))] (by kernel_rfl) ?_
    refine WL.nil ?_
    obtain rfl := Option.some.inj hm
    exact WQ.post' ⟨rfl, hb464, hL465, (SH.cutOut 0 2 (SH.cutOut 6 1 hS466))⟩ ⟨rfl, rfl, rfl, rfl, rfl, rfl, rfl, rfl, rfl, rfl, rfl, rfl, rfl, rfl, rfl, trivial⟩
  clear hx388
  rintro _ w502 ⟨rfl, hb503, hL504, hS505⟩
  refine WQ.then_normal (hK273 _ _ _ ?_)
  refine WP.cond x387 rfl rfl (fun hc506 => ?_) (fun hc506 => ?_)
  · have hm := iteT hm hc506
    refine WP.seq (fun K507 hK507 => ?_)
    refine WP.region ?_
    refine WL.runk 1 [2] [(2, .bool false)] (by kernel_rfl) ?_
    refine WL.nil ?_
    refine WQ.then_normal (hK507 _ _ _ ?_)
    refine WP.ret ?_
    refine WQ.then_ret ?_
    obtain rfl := Option.some.inj hm
    exact WQ.ret1 _ rfl rfl ⟨rfl, hb503⟩
  have hm := iteF hm hc506
  refine WP.skip ?_
  refine WQ.then_normal (hK272 _ _ _ ?_)
  refine WP.seq (fun K508 hK508 => ?_)
  refine WP.seq (fun K509 hK509 => ?_)
  obtain ⟨x520, hx521, hm⟩ := bindE hm
  refine WP.cut (fun env' w' => env' = [(3, .slice a17 x15.1.length c18), (4, .slice a20 x15.2.length c21), (5, .slice a32 x30.1.length c33), (7, .int .i64 x30.2.2), (8, .slice a44 x42.1.length c45), (9, .int .i64 x42.2.1), (18, .pointer (some ⟨b114, 0, none⟩)), (17, .slice a105 x103.1.length c106), (19, .slice a130 x128.1.length c131), (20, .int .i64 x128.2), (216, .bool x520)] ∧ Ext w w' ∧ w.heap.size ≤ w'.heap.size ∧ SH w' w.heap.size [aBox 31 b244 [.string (bs x236.1.Name), .int .i64 x236.1.OnHand, .int .i64 x236.1.Reserved, .int .i64 x236.1.Least], aBox 31 b222 [.string (bs x214.1.Name), .int .i64 x214.1.OnHand, .int .i64 x214.1.Reserved, .int .i64 x214.1.Least], aBox 31 b191 [.string (bs x183.1.Name), .int .i64 x183.1.OnHand, .int .i64 x183.1.Reserved, .int .i64 x183.1.Least], aBox 31 b160 [.string (bs x152.Name), .int .i64 x152.OnHand, .int .i64 x152.Reserved, .int .i64 x152.Least], aOwn fGood 31 a130 c131 x128.1, aBox 37 b114 [.string (bs x103.2.Name), .int .i64 x103.2.Many], aOwn fGood 31 a105 c106 x103.1, aBox 31 b65 [.string (bs x54.2.Name), .int .i64 x54.2.OnHand, .int .i64 x54.2.Reserved, .int .i64 x54.2.Least], aOwn fGood 31 a44 c45 x42.1, aOwn fGood 31 a32 c33 x30.1, aOwn fGood 31 a17 c18 x15.1, aOwn fTake 37 a20 c21 x15.2]) ?_ ?_
  · have hm := hx521; clear hx521
    refine WP.region ?_
    refine WL.runk 3 [3, 4, 5, 7, 8, 9, 11, 13, 15, 17, 18, 19, 20, 204] [(3, .slice a17 x15.1.length c18), (4, .slice a20 x15.2.length c21), (5, .slice a32 x30.1.length c33), (7, .int .i64 x30.2.2), (8, .slice a44 x42.1.length c45), (9, .int .i64 x42.2.1), (11, .slice a56 x54.1.length c57), (13, .slice a81 x79.1.length c82), (15, .slice a93 x91.1.length c94), (18, .pointer (some ⟨b114, 0, none⟩)), (17, .slice a105 x103.1.length c106), (19, .slice a130 x128.1.length c131), (20, .int .i64 x128.2), (204, .bool (x79.2 == 0))] (by kernel_rfl) ?_
    refine WL.case (x79.2 == 0) [204] ⟨rfl, trivial⟩ (fun hc522 => ?_) (fun hc522 => ?_)
    rotate_left
    · have hm := iteF hm hc522
      refine WL.runk 12 [3, 4, 5, 7, 8, 9, 17, 18, 19, 20, 216] [(3, .slice a17 x15.1.length c18), (4, .slice a20 x15.2.length c21), (5, .slice a32 x30.1.length c33), (7, .int .i64 x30.2.2), (8, .slice a44 x42.1.length c45), (9, .int .i64 x42.2.1), (18, .pointer (some ⟨b114, 0, none⟩)), (17, .slice a105 x103.1.length c106), (19, .slice a130 x128.1.length c131), (20, .int .i64 x128.2), (216, .bool false)] (by kernel_rfl) ?_
      refine WL.nil ?_
      obtain rfl := Option.some.inj hm
      exact WQ.post' ⟨rfl, hb503, hL504, (SH.cutOut 7 2 (SH.cutOut 10 1 hS505))⟩ ⟨rfl, rfl, rfl, rfl, rfl, rfl, rfl, rfl, rfl, rfl, rfl, trivial⟩
    have hm := iteT hm hc522
    refine WL.runk 7 [3, 4, 5, 7, 8, 9, 13, 17, 18, 19, 20, 204, 211] [(3, .slice a17 x15.1.length c18), (4, .slice a20 x15.2.length c21), (5, .slice a32 x30.1.length c33), (7, .int .i64 x30.2.2), (8, .slice a44 x42.1.length c45), (9, .int .i64 x42.2.1), (13, .slice a81 x79.1.length c82), (18, .pointer (some ⟨b114, 0, none⟩)), (17, .slice a105 x103.1.length c106), (19, .slice a130 x128.1.length c131), (20, .int .i64 x128.2), (204, .bool true), (211, .bool ((x91.1.length : Int) != (wI64 ((x54.1.length : Int) + 1))))] (by kernel_rfl) ?_
    refine WL.case ((x91.1.length : Int) != (wI64 ((x54.1.length : Int) + 1))) [211] ⟨rfl, trivial⟩ (fun hc523 => ?_) (fun hc523 => ?_)
    · have hm := iteT hm hc523
      refine WL.runk 5 [3, 4, 5, 7, 8, 9, 17, 18, 19, 20, 216] [(3, .slice a17 x15.1.length c18), (4, .slice a20 x15.2.length c21), (5, .slice a32 x30.1.length c33), (7, .int .i64 x30.2.2), (8, .slice a44 x42.1.length c45), (9, .int .i64 x42.2.1), (18, .pointer (some ⟨b114, 0, none⟩)), (17, .slice a105 x103.1.length c106), (19, .slice a130 x128.1.length c131), (20, .int .i64 x128.2), (216, .bool true)] (by kernel_rfl) ?_
      refine WL.nil ?_
      obtain rfl := Option.some.inj hm
      exact WQ.post' ⟨rfl, hb503, hL504, (SH.cutOut 7 2 (SH.cutOut 10 1 hS505))⟩ ⟨rfl, rfl, rfl, rfl, rfl, rfl, rfl, rfl, rfl, rfl, rfl, trivial⟩
    have hm := iteF hm hc523
    refine WL.runk 1 [3, 4, 5, 7, 8, 9, 17, 18, 19, 20, 204, 211, 212] [(3, .slice a17 x15.1.length c18), (4, .slice a20 x15.2.length c21), (5, .slice a32 x30.1.length c33), (7, .int .i64 x30.2.2), (8, .slice a44 x42.1.length c45), (9, .int .i64 x42.2.1), (18, .pointer (some ⟨b114, 0, none⟩)), (17, .slice a105 x103.1.length c106), (19, .slice a130 x128.1.length c131), (20, .int .i64 x128.2), (204, .bool true), (211, .bool false), (212, .slice a81 x79.1.length c82)] (by kernel_rfl) ?_
    obtain ⟨x524, hx525, hm⟩ := bindE hm
    refine WL.call 23 #[.slice a81 x79.1.length c82] rfl rfl (by kernel_rfl) (c_23 n x79.1 a81 c82 w502 hx525 (SH.rd (SH.front 8 hS505)) (SH.le (SH.front 8 hS505)).1) ?_
    rintro _ w526 ⟨rfl, hE527⟩
    refine ⟨_, rfl, ?_⟩
    have hb529 : Ext w w526 := Ext.trans hb503 hE527
    have hL530 : w.heap.size ≤ w526.heap.size := Nat.le_trans hL504 hE527.size
    have hS531 : SH w526 w.heap.size [aBox 31 b244 [.string (bs x236.1.Name), .int .i64 x236.1.OnHand, .int .i64 x236.1.Reserved, .int .i64 x236.1.Least], aBox 31 b222 [.string (bs x214.1.Name), .int .i64 x214.1.OnHand, .int .i64 x214.1.Reserved, .int .i64 x214.1.Least], aBox 31 b191 [.string (bs x183.1.Name), .int .i64 x183.1.OnHand, .int .i64 x183.1.Reserved, .int .i64 x183.1.Least], aBox 31 b160 [.string (bs x152.Name), .int .i64 x152.OnHand, .int .i64 x152.Reserved, .int .i64 x152.Least], aOwn fGood 31 a130 c131 x128.1, aBox 37 b114 [.string (bs x103.2.Name), .int .i64 x103.2.Many], aOwn fGood 31 a105 c106 x103.1, aOwn fGood 31 a93 c94 x91.1, aOwn fGood 31 a81 c82 x79.1, aBox 31 b65 [.string (bs x54.2.Name), .int .i64 x54.2.OnHand, .int .i64 x54.2.Reserved, .int .i64 x54.2.Least], aOwn fGood 31 a56 c57 x54.1, aOwn fGood 31 a44 c45 x42.1, aOwn fGood 31 a32 c33 x30.1, aOwn fGood 31 a17 c18 x15.1, aOwn fTake 37 a20 c21 x15.2] := SH.ext hS505 hE527
    refine WL.runk 3 [3, 4, 5, 7, 8, 9, 17, 18, 19, 20, 216] [(3, .slice a17 x15.1.length c18), (4, .slice a20 x15.2.length c21), (5, .slice a32 x30.1.length c33), (7, .int .i64 x30.2.2), (8, .slice a44 x42.1.length c45), (9, .int .i64 x42.2.1), (18, .pointer (some ⟨b114, 0, none⟩)), (17, .slice a105 x103.1.length c106), (19, .slice a130 x128.1.length c131), (20, .int .i64 x128.2), (216, .bool (!x524))] (by kernel_rfl) ?_
    refine WL.nil ?_
    obtain rfl := Option.some.inj hm
    exact WQ.post' ⟨rfl, hb529, hL530, (SH.cutOut 7 2 (SH.cutOut 10 1 hS531))⟩ ⟨rfl, rfl, rfl, rfl, rfl, rfl, rfl, rfl, rfl, rfl, rfl, trivial⟩
  clear hx521
  rintro _ w532 ⟨rfl, hb533, hL534, hS535⟩
  refine WQ.then_normal (hK509 _ _ _ ?_)
  refine WP.cond x520 rfl rfl (fun hc536 => ?_) (fun hc536 => ?_)
  · have hm := iteT hm hc536
    refine WP.seq (fun K537 hK537 => ?_)
    refine WP.region ?_
    refine WL.runk 1 [2] [(2, .bool false)] (by kernel_rfl) ?_
    refine WL.nil ?_
    refine WQ.then_normal (hK537 _ _ _ ?_)
    refine WP.ret ?_
    refine WQ.then_ret ?_
    obtain rfl := Option.some.inj hm
    exact WQ.ret1 _ rfl rfl ⟨rfl, hb533⟩
  have hm := iteF hm hc536
  refine WP.skip ?_
  refine WQ.then_normal (hK508 _ _ _ ?_)
  refine WP.seq (fun K538 hK538 => ?_)
  refine WP.seq (fun K539 hK539 => ?_)
  refine WP.region ?_
  refine WL.runk 2 [3, 4, 5, 7, 8, 9, 17, 18, 19, 218] [(3, .slice a17 x15.1.length c18), (4, .slice a20 x15.2.length c21), (5, .slice a32 x30.1.length c33), (7, .int .i64 x30.2.2), (8, .slice a44 x42.1.length c45), (9, .int .i64 x42.2.1), (18, .pointer (some ⟨b114, 0, none⟩)), (17, .slice a105 x103.1.length c106), (19, .slice a130 x128.1.length c131), (218, .bool (x128.2 == 0))] (by kernel_rfl) ?_
  refine WL.nil ?_
  refine WQ.then_normal (hK539 _ _ _ ?_)
  refine WP.cond (x128.2 == 0) rfl rfl (fun hc540 => ?_) (fun hc540 => ?_)
  rotate_left
  · have hm := iteF hm hc540
    refine WP.skip ?_
    refine WQ.then_normal (hK538 _ _ _ ?_)
    refine WP.seq (fun K672 hK672 => ?_)
    refine WP.seq (fun K673 hK673 => ?_)
    refine WP.region ?_
    refine WL.runk 2 [3, 4, 5, 8, 9, 239] [(3, .slice a17 x15.1.length c18), (4, .slice a20 x15.2.length c21), (5, .slice a32 x30.1.length c33), (8, .slice a44 x42.1.length c45), (9, .int .i64 x42.2.1), (239, .bool (x30.2.2 != 0))] (by kernel_rfl) ?_
    refine WL.nil ?_
    refine WQ.then_normal (hK673 _ _ _ ?_)
    refine WP.cond (x30.2.2 != 0) rfl rfl (fun hc674 => ?_) (fun hc674 => ?_)
    · have hm := iteT hm hc674
      refine WP.seq (fun K675 hK675 => ?_)
      refine WP.region ?_
      refine WL.runk 1 [2] [(2, .bool true)] (by kernel_rfl) ?_
      refine WL.nil ?_
      refine WQ.then_normal (hK675 _ _ _ ?_)
      refine WP.ret ?_
      refine WQ.then_ret ?_
      obtain rfl := Option.some.inj hm
      exact WQ.ret1 _ rfl rfl ⟨rfl, hb533⟩
    have hm := iteF hm hc674
    refine WP.skip ?_
    refine WQ.then_normal (hK672 _ _ _ ?_)
    refine WP.seq (fun K676 hK676 => ?_)
    refine WP.seq (fun K677 hK677 => ?_)
    refine WP.region ?_
    refine WL.runk 2 [3, 4, 5, 8, 241] [(3, .slice a17 x15.1.length c18), (4, .slice a20 x15.2.length c21), (5, .slice a32 x30.1.length c33), (8, .slice a44 x42.1.length c45), (241, .bool (decide (x42.2.1 ≥ 0)))] (by kernel_rfl) ?_
    refine WL.nil ?_
    refine WQ.then_normal (hK677 _ _ _ ?_)
    refine WP.cond (decide (x42.2.1 ≥ 0)) rfl rfl (fun hc678 => ?_) (fun hc678 => ?_)
    · have hm := iteT hm hc678
      refine WP.seq (fun K679 hK679 => ?_)
      refine WP.region ?_
      refine WL.runk 2 [242, 243] [(242, .slice a32 x30.1.length c33), (243, .slice a17 x15.1.length c18)] (by kernel_rfl) ?_
      obtain ⟨x680, hx681, hm⟩ := bindE hm
      refine WL.call 20 #[.slice a32 x30.1.length c33, .slice a17 x15.1.length c18] rfl rfl (by kernel_rfl) (c_20 n x30.1 a32 c33 x15.1 a17 c18 w532 hx681 (SH.rd (SH.front 9 hS535)) (SH.le (SH.front 9 hS535)).1 (SH.rd (SH.front 10 hS535)) (SH.le (SH.front 10 hS535)).1) ?_
      rintro _ w682 ⟨rfl, hE683⟩
      refine ⟨_, rfl, ?_⟩
      have hb685 : Ext w w682 := Ext.trans hb533 hE683
      have hL686 : w.heap.size ≤ w682.heap.size := Nat.le_trans hL534 hE683.size
      have hS687 : SH w682 w.heap.size [aBox 31 b244 [.string (bs x236.1.Name), .int .i64 x236.1.OnHand, .int .i64 x236.1.Reserved, .int .i64 x236.1.Least], aBox 31 b222 [.string (bs x214.1.Name), .int .i64 x214.1.OnHand, .int .i64 x214.1.Reserved, .int .i64 x214.1.Least], aBox 31 b191 [.string (bs x183.1.Name), .int .i64 x183.1.OnHand, .int .i64 x183.1.Reserved, .int .i64 x183.1.Least], aBox 31 b160 [.string (bs x152.Name), .int .i64 x152.OnHand, .int .i64 x152.Reserved, .int .i64 x152.Least], aOwn fGood 31 a130 c131 x128.1, aBox 37 b114 [.string (bs x103.2.Name), .int .i64 x103.2.Many], aOwn fGood 31 a105 c106 x103.1, aBox 31 b65 [.string (bs x54.2.Name), .int .i64 x54.2.OnHand, .int .i64 x54.2.Reserved, .int .i64 x54.2.Least], aOwn fGood 31 a44 c45 x42.1, aOwn fGood 31 a32 c33 x30.1, aOwn fGood 31 a17 c18 x15.1, aOwn fTake 37 a20 c21 x15.2] := SH.ext hS535 hE683
      refine WL.runk 1 [2] [(2, .bool x680)] (by kernel_rfl) ?_
      refine WL.nil ?_
      refine WQ.then_normal (hK679 _ _ _ ?_)
      refine WP.ret ?_
      refine WQ.then_ret ?_
      obtain rfl := Option.some.inj hm
      exact WQ.ret1 _ rfl rfl ⟨rfl, hb685⟩
    have hm := iteF hm hc678
    refine WP.skip ?_
    refine WQ.then_normal (hK676 _ _ _ ?_)
    refine WP.seq (fun K688 hK688 => ?_)
    refine WP.seq (fun K689 hK689 => ?_)
    refine WP.region ?_
    refine WL.runk 1 [3, 4, 8, 36] [(3, .slice a17 x15.1.length c18), (4, .slice a20 x15.2.length c21), (8, .slice a44 x42.1.length c45), (36, .int .i64 0)] (by kernel_rfl) ?_
    refine WL.nil ?_
    refine WQ.then_normal (hK689 _ _ _ ?_)
    refine WP.block ?_
    obtain ⟨t701, ht702, hm⟩ := bindE hm
    have hmo696 := hm; clear hm
    refine WP.sub [(3, .slice a17 x15.1.length c18), (4, .slice a20 x15.2.length c21), (8, .slice a44 x42.1.length c45), (36, .int .i64 0)] ⟨rfl, rfl, rfl, rfl, trivial⟩ ?_
    refine WP.loop (fun n' env' w' => ∃ (st690 : Int) , env' = [(3, .slice a17 x15.1.length c18), (4, .slice a20 x15.2.length c21), (8, .slice a44 x42.1.length c45), (36, .int .i64 st690)] ∧ Ext w w' ∧ w.heap.size ≤ w'.heap.size ∧ SH w' w.heap.size [aBox 31 b244 [.string (bs x236.1.Name), .int .i64 x236.1.OnHand, .int .i64 x236.1.Reserved, .int .i64 x236.1.Least], aBox 31 b222 [.string (bs x214.1.Name), .int .i64 x214.1.OnHand, .int .i64 x214.1.Reserved, .int .i64 x214.1.Least], aBox 31 b191 [.string (bs x183.1.Name), .int .i64 x183.1.OnHand, .int .i64 x183.1.Reserved, .int .i64 x183.1.Least], aBox 31 b160 [.string (bs x152.Name), .int .i64 x152.OnHand, .int .i64 x152.Reserved, .int .i64 x152.Least], aBox 37 b114 [.string (bs x103.2.Name), .int .i64 x103.2.Many], aBox 31 b65 [.string (bs x54.2.Name), .int .i64 x54.2.OnHand, .int .i64 x54.2.Reserved, .int .i64 x54.2.Least], aOwn fGood 31 a44 c45 x42.1, aOwn fGood 31 a17 c18 x15.1, aOwn fTake 37 a20 c21 x15.2] ∧ loopN (m_laws_FnGoods_l3 n x15 x42) n' st690 = some t701) n ⟨0, rfl, hb533, hL534, (SH.cutOut 4 1 (SH.cutOut 6 1 (SH.cutOut 9 1 hS535))), ht702⟩ ?_
    rintro n698 _ w691 ⟨st690, rfl, hb692, hL693, hS694, hl695⟩ K697 hK697
    obtain ⟨n699, s700, rfl, hm, hl695⟩ := loopN_some hl695
    unfold m_laws_FnGoods_l3 at hm
    refine WP.seq (fun K703 hK703 => ?_)
    refine WP.seq (fun K704 hK704 => ?_)
    refine WP.region ?_
    refine WL.runk 4 [3, 4, 8, 36, 248] [(3, .slice a17 x15.1.length c18), (4, .slice a20 x15.2.length c21), (8, .slice a44 x42.1.length c45), (36, .int .i64 st690), (248, .bool (decide (st690 < (x15.1.length : Int))))] (by kernel_rfl) ?_
    refine WL.nil ?_
    refine WQ.then_normal (hK704 _ _ _ ?_)
    refine WP.cond (decide (st690 < (x15.1.length : Int))) rfl rfl (fun hc705 => ?_) (fun hc705 => ?_)
    rotate_left
    · have hm := iteF hm hc705
      refine WP.exit ?_
      refine WQ.then_exit ?_
      refine WQ.then_exit ?_
      refine WQ.block_here ?_
      obtain rfl := Option.some.inj hm
      obtain rfl := afterN_done hl695
      have hm := hmo696
      refine WQ.then_normal (hK688 _ _ _ ?_)
      refine WP.seq (fun K761 hK761 => ?_)
      refine WP.region ?_
      refine WL.runk 1 [2] [(2, .bool true)] (by kernel_rfl) ?_
      refine WL.nil ?_
      refine WQ.then_normal (hK761 _ _ _ ?_)
      refine WP.ret ?_
      obtain rfl := Option.some.inj hm
      exact WQ.ret1 _ rfl rfl ⟨rfl, hb692⟩
    have hm := iteT hm hc705
    refine WP.skip ?_
    refine WQ.then_normal (hK703 _ _ _ ?_)
    refine WP.seq (fun K706 hK706 => ?_)
    refine WP.block ?_
    refine WP.seq (fun K707 hK707 => ?_)
    refine WP.region ?_
    refine WL.runk 2 [3, 4, 8, 36, 251, 252] [(3, .slice a17 x15.1.length c18), (4, .slice a20 x15.2.length c21), (8, .slice a44 x42.1.length c45), (36, .int .i64 st690), (251, .slice a17 x15.1.length c18), (252, .int .i64 st690)] (by kernel_rfl) ?_
    obtain ⟨x708, hx709, hm⟩ := bindE hm
    refine WL.st (.pointer (some (at_ a17 (Int.toNat st690 * 4)))) (ST.index (T := fGood.ty) (xs := x15.1) (SH.rd (SH.front 7 hS694)) hx709 rfl rfl rfl Tryz.underlying24 (info31).1 (info31).2.1) rfl rfl rfl ?_
    refine WL.runk 1 [3, 4, 8, 36, 254] [(3, .slice a17 x15.1.length c18), (4, .slice a20 x15.2.length c21), (8, .slice a44 x42.1.length c45), (36, .int .i64 st690), (254, .pointer (some (at_ a17 (Int.toNat st690 * 4 + 1))))] (by kernel_rfl) ?_
    refine WL.st (.int .i64 x708.OnHand) (ST.load (cell_ext (Rd.flat (F := fGood) (SH.rd (SH.front 7 hS694)) hx709 1 rfl)) rfl rfl Tryz.underlying2 rfl) rfl rfl rfl ?_
    refine WL.runk 1 [3, 4, 8, 36, 37] [(3, .slice a17 x15.1.length c18), (4, .slice a20 x15.2.length c21), (8, .slice a44 x42.1.length c45), (36, .int .i64 st690), (37, .int .i64 x708.OnHand)] (by kernel_rfl) ?_
    refine WL.nil ?_
    refine WQ.then_normal (hK707 _ _ _ ?_)
    refine WP.seq (fun K710 hK710 => ?_)
    refine WP.seq (fun K711 hK711 => ?_)
    refine WP.region ?_
    refine WL.runk 1 [3, 4, 8, 36, 37, 38] [(3, .slice a17 x15.1.length c18), (4, .slice a20 x15.2.length c21), (8, .slice a44 x42.1.length c45), (36, .int .i64 st690), (37, .int .i64 x708.OnHand), (38, .int .i64 0)] (by kernel_rfl) ?_
    refine WL.nil ?_
    refine WQ.then_normal (hK711 _ _ _ ?_)
    refine WP.block ?_
    obtain ⟨t723, ht724, hm⟩ := bindE hm
    have hmo718 := hm; clear hm
    refine WP.sub [(3, .slice a17 x15.1.length c18), (4, .slice a20 x15.2.length c21), (8, .slice a44 x42.1.length c45), (36, .int .i64 st690), (37, .int .i64 x708.OnHand), (38, .int .i64 0)] ⟨rfl, rfl, rfl, rfl, rfl, rfl, trivial⟩ ?_
    refine WP.loop (fun n' env' w' => ∃ (st712 : Int × Int) , env' = [(3, .slice a17 x15.1.length c18), (4, .slice a20 x15.2.length c21), (8, .slice a44 x42.1.length c45), (36, .int .i64 st690), (37, .int .i64 st712.1), (38, .int .i64 st712.2)] ∧ Ext w w' ∧ w.heap.size ≤ w'.heap.size ∧ SH w' w.heap.size [aBox 31 b244 [.string (bs x236.1.Name), .int .i64 x236.1.OnHand, .int .i64 x236.1.Reserved, .int .i64 x236.1.Least], aBox 31 b222 [.string (bs x214.1.Name), .int .i64 x214.1.OnHand, .int .i64 x214.1.Reserved, .int .i64 x214.1.Least], aBox 31 b191 [.string (bs x183.1.Name), .int .i64 x183.1.OnHand, .int .i64 x183.1.Reserved, .int .i64 x183.1.Least], aBox 31 b160 [.string (bs x152.Name), .int .i64 x152.OnHand, .int .i64 x152.Reserved, .int .i64 x152.Least], aBox 37 b114 [.string (bs x103.2.Name), .int .i64 x103.2.Many], aBox 31 b65 [.string (bs x54.2.Name), .int .i64 x54.2.OnHand, .int .i64 x54.2.Reserved, .int .i64 x54.2.Least], aOwn fGood 31 a44 c45 x42.1, aOwn fGood 31 a17 c18 x15.1, aOwn fTake 37 a20 c21 x15.2] ∧ loopN (m_laws_FnGoods_l4 n x15 st690) n' st712 = some t723) n ⟨(x708.OnHand, 0), rfl, hb692, hL693, hS694, ht724⟩ ?_
    rintro n720 _ w713 ⟨st712, rfl, hb714, hL715, hS716, hl717⟩ K719 hK719
    obtain ⟨n721, s722, rfl, hm, hl717⟩ := loopN_some hl717
    unfold m_laws_FnGoods_l4 at hm
    refine WP.seq (fun K725 hK725 => ?_)
    refine WP.seq (fun K726 hK726 => ?_)
    refine WP.region ?_
    refine WL.runk 4 [3, 4, 8, 36, 37, 38, 259] [(3, .slice a17 x15.1.length c18), (4, .slice a20 x15.2.length c21), (8, .slice a44 x42.1.length c45), (36, .int .i64 st690), (37, .int .i64 st712.1), (38, .int .i64 st712.2), (259, .bool (decide (st712.2 < (x15.2.length : Int))))] (by kernel_rfl) ?_
    refine WL.nil ?_
    refine WQ.then_normal (hK726 _ _ _ ?_)
    refine WP.cond (decide (st712.2 < (x15.2.length : Int))) rfl rfl (fun hc727 => ?_) (fun hc727 => ?_)
    rotate_left
    · have hm := iteF hm hc727
      refine WP.exit ?_
      refine WQ.then_exit ?_
      refine WQ.then_exit ?_
      refine WQ.block_here ?_
      obtain rfl := Option.some.inj hm
      obtain rfl := afterN_done hl717
      have hm := hmo718
      refine WQ.then_normal (hK710 _ _ _ ?_)
      refine WP.seq (fun K750 hK750 => ?_)
      refine WP.region ?_
      refine WL.runk 2 [3, 4, 8, 36, 37, 280, 281] [(3, .slice a17 x15.1.length c18), (4, .slice a20 x15.2.length c21), (8, .slice a44 x42.1.length c45), (36, .int .i64 st690), (37, .int .i64 st712.1), (280, .slice a44 x42.1.length c45), (281, .int .i64 st690)] (by kernel_rfl) ?_
      obtain ⟨x751, hx752, hm⟩ := bindE hm
      refine WL.st (.pointer (some (at_ a44 (Int.toNat st690 * 4)))) (ST.index (T := fGood.ty) (xs := x42.1) (SH.rd (SH.front 6 hS716)) hx752 rfl rfl rfl Tryz.underlying24 (info31).1 (info31).2.1) rfl rfl rfl ?_
      refine WL.runk 1 [3, 4, 8, 36, 37, 283] [(3, .slice a17 x15.1.length c18), (4, .slice a20 x15.2.length c21), (8, .slice a44 x42.1.length c45), (36, .int .i64 st690), (37, .int .i64 st712.1), (283, .pointer (some (at_ a44 (Int.toNat st690 * 4 + 1))))] (by kernel_rfl) ?_
      refine WL.st (.int .i64 x751.OnHand) (ST.load (cell_ext (Rd.flat (F := fGood) (SH.rd (SH.front 6 hS716)) hx752 1 rfl)) rfl rfl Tryz.underlying2 rfl) rfl rfl rfl ?_
      refine WL.runk 2 [3, 4, 8, 36, 286] [(3, .slice a17 x15.1.length c18), (4, .slice a20 x15.2.length c21), (8, .slice a44 x42.1.length c45), (36, .int .i64 st690), (286, .bool (x751.OnHand != st712.1))] (by kernel_rfl) ?_
      refine WL.nil ?_
      refine WQ.then_normal (hK750 _ _ _ ?_)
      refine WP.cond (x751.OnHand != st712.1) rfl rfl (fun hc753 => ?_) (fun hc753 => ?_)
      rotate_left
      · have hm := iteF hm hc753
        refine WP.skip ?_
        refine WQ.block_normal ?_
        refine WQ.then_normal (hK706 _ _ _ ?_)
        refine WP.region ?_
        refine WL.runk 3 [3, 4, 8, 36] [(3, .slice a17 x15.1.length c18), (4, .slice a20 x15.2.length c21), (8, .slice a44 x42.1.length c45), (36, .int .i64 (wI64 (st690 + 1)))] (by kernel_rfl) ?_
        refine WL.nil ?_
        obtain rfl := Option.some.inj hm
        exact WQ.round hK697 ⟨(wI64 (st690 + 1)), rfl, hb714, hL715, hS716, hl695⟩ (Nat.lt_succ_self _) ⟨rfl, rfl, rfl, rfl, trivial⟩
      have hm := iteT hm hc753
      refine WP.seq (fun K754 hK754 => ?_)
      refine WP.region ?_
      refine WL.runk 1 [2] [(2, .bool false)] (by kernel_rfl) ?_
      refine WL.nil ?_
      refine WQ.then_normal (hK754 _ _ _ ?_)
      refine WP.ret ?_
      refine WQ.block_ret ?_
      refine WQ.then_ret ?_
      refine WQ.then_ret ?_
      refine WQ.block_ret ?_
      refine WQ.then_ret ?_
      obtain rfl := Option.some.inj hm
      obtain rfl := afterN_done hl695
      have hm := hmo696
      obtain rfl := Option.some.inj hm
      exact WQ.ret1 _ rfl rfl ⟨rfl, hb714⟩
    have hm := iteT hm hc727
    refine WP.skip ?_
    refine WQ.then_normal (hK725 _ _ _ ?_)
    refine WP.seq (fun K728 hK728 => ?_)
    refine WP.block ?_
    refine WP.seq (fun K729 hK729 => ?_)
    refine WP.quiet (by kernel_rfl) (by kernel_rfl) ?_
    refine QL.step1v 262 (.slice a20 x15.2.length c21) rfl (fun _ => by kernel_rfl) ?_
    refine QL.step1v 263 (.int .i64 st712.2) rfl (fun _ => by kernel_rfl) ?_
    refine QL.subk [3, 4, 8, 36, 37, 38, 262, 263] [(3, .slice a17 x15.1.length c18), (4, .slice a20 x15.2.length c21), (8, .slice a44 x42.1.length c45), (36, .int .i64 st690), (37, .int .i64 st712.1), (38, .int .i64 st712.2), (262, .slice a20 x15.2.length c21), (263, .int .i64 st712.2)] (by kernel_rfl) ?_
    obtain ⟨x730, hx731, hm⟩ := bindE hm
    refine QL.st (.pointer (some (at_ a20 (Int.toNat st712.2 * 2)))) (ST.index (T := fTake.ty) (xs := x15.2) (SH.rd (SH.front 8 hS716)) hx731 rfl rfl rfl Tryz.underlying25 (info37).1 (info37).2.1) rfl rfl rfl ?_
    refine QL.step1v 265 (.pointer (some (at_ a20 (Int.toNat st712.2 * 2)))) rfl (fun _ => by kernel_rfl) ?_
    refine QL.subk [3, 4, 8, 36, 37, 38, 265] [(3, .slice a17 x15.1.length c18), (4, .slice a20 x15.2.length c21), (8, .slice a44 x42.1.length c45), (36, .int .i64 st690), (37, .int .i64 st712.1), (38, .int .i64 st712.2), (265, .pointer (some (at_ a20 (Int.toNat st712.2 * 2))))] (by kernel_rfl) ?_
    refine QL.st (.string (bs x730.Name)) (ST.load (cell_ext (Rd.flat (F := fTake) (SH.rd (SH.front 8 hS716)) hx731 0 rfl)) rfl rfl Tryz.underlying9 rfl) rfl rfl rfl ?_
    refine QL.step1v 267 (.slice a17 x15.1.length c18) rfl (fun _ => by kernel_rfl) ?_
    refine QL.step1v 268 (.int .i64 st690) rfl (fun _ => by kernel_rfl) ?_
    refine QL.subk [3, 4, 8, 36, 37, 38, 266, 267, 268] [(3, .slice a17 x15.1.length c18), (4, .slice a20 x15.2.length c21), (8, .slice a44 x42.1.length c45), (36, .int .i64 st690), (37, .int .i64 st712.1), (38, .int .i64 st712.2), (266, .string (bs x730.Name)), (267, .slice a17 x15.1.length c18), (268, .int .i64 st690)] (by kernel_rfl) ?_
    obtain ⟨x732, hx733, hm⟩ := bindE hm
    refine QL.st (.pointer (some (at_ a17 (Int.toNat st690 * 4)))) (ST.index (T := fGood.ty) (xs := x15.1) (SH.rd (SH.front 7 hS716)) hx733 rfl rfl rfl Tryz.underlying24 (info31).1 (info31).2.1) rfl rfl rfl ?_
    refine QL.step1v 270 (.pointer (some (at_ a17 (Int.toNat st690 * 4)))) rfl (fun _ => by kernel_rfl) ?_
    refine QL.subk [3, 4, 8, 36, 37, 38, 266, 270] [(3, .slice a17 x15.1.length c18), (4, .slice a20 x15.2.length c21), (8, .slice a44 x42.1.length c45), (36, .int .i64 st690), (37, .int .i64 st712.1), (38, .int .i64 st712.2), (266, .string (bs x730.Name)), (270, .pointer (some (at_ a17 (Int.toNat st690 * 4))))] (by kernel_rfl) ?_
    refine QL.st (.string (bs x732.Name)) (ST.load (cell_ext (Rd.flat (F := fGood) (SH.rd (SH.front 7 hS716)) hx733 0 rfl)) rfl rfl Tryz.underlying9 rfl) rfl rfl rfl ?_
    refine QL.st (.bool (x730.Name == x732.Name)) (ST.streq (x := x730.Name) (y := x732.Name) rfl rfl rfl) rfl rfl rfl ?_
    refine QL.subk [3, 4, 8, 36, 37, 38, 272] [(3, .slice a17 x15.1.length c18), (4, .slice a20 x15.2.length c21), (8, .slice a44 x42.1.length c45), (36, .int .i64 st690), (37, .int .i64 st712.1), (38, .int .i64 st712.2), (272, .bool (x730.Name == x732.Name))] (by kernel_rfl) ?_
    refine QL.nil ?_
    intro w734 hE735
    have hb736 : Ext w w734 := Ext.trans hb714 hE735
    have hL737 : w.heap.size ≤ w734.heap.size := Nat.le_trans hL715 hE735.size
    have hS738 : SH w734 w.heap.size [aBox 31 b244 [.string (bs x236.1.Name), .int .i64 x236.1.OnHand, .int .i64 x236.1.Reserved, .int .i64 x236.1.Least], aBox 31 b222 [.string (bs x214.1.Name), .int .i64 x214.1.OnHand, .int .i64 x214.1.Reserved, .int .i64 x214.1.Least], aBox 31 b191 [.string (bs x183.1.Name), .int .i64 x183.1.OnHand, .int .i64 x183.1.Reserved, .int .i64 x183.1.Least], aBox 31 b160 [.string (bs x152.Name), .int .i64 x152.OnHand, .int .i64 x152.Reserved, .int .i64 x152.Least], aBox 37 b114 [.string (bs x103.2.Name), .int .i64 x103.2.Many], aBox 31 b65 [.string (bs x54.2.Name), .int .i64 x54.2.OnHand, .int .i64 x54.2.Reserved, .int .i64 x54.2.Least], aOwn fGood 31 a44 c45 x42.1, aOwn fGood 31 a17 c18 x15.1, aOwn fTake 37 a20 c21 x15.2] := SH.ext hS716 hE735
    refine WQ.then_normal (hK729 _ _ _ ?_)
    obtain ⟨x742, hx743, hm⟩ := bindE hm
    refine WP.cut (fun env' w' => env' = [(3, .slice a17 x15.1.length c18), (4, .slice a20 x15.2.length c21), (8, .slice a44 x42.1.length c45), (36, .int .i64 st690), (37, .int .i64 x742), (38, .int .i64 st712.2)] ∧ Ext w w' ∧ w.heap.size ≤ w'.heap.size ∧ SH w' w.heap.size [aBox 31 b244 [.string (bs x236.1.Name), .int .i64 x236.1.OnHand, .int .i64 x236.1.Reserved, .int .i64 x236.1.Least], aBox 31 b222 [.string (bs x214.1.Name), .int .i64 x214.1.OnHand, .int .i64 x214.1.Reserved, .int .i64 x214.1.Least], aBox 31 b191 [.string (bs x183.1.Name), .int .i64 x183.1.OnHand, .int .i64 x183.1.Reserved, .int .i64 x183.1.Least], aBox 31 b160 [.string (bs x152.Name), .int .i64 x152.OnHand, .int .i64 x152.Reserved, .int .i64 x152.Least], aBox 37 b114 [.string (bs x103.2.Name), .int .i64 x103.2.Many], aBox 31 b65 [.string (bs x54.2.Name), .int .i64 x54.2.OnHand, .int .i64 x54.2.Reserved, .int .i64 x54.2.Least], aOwn fGood 31 a44 c45 x42.1, aOwn fGood 31 a17 c18 x15.1, aOwn fTake 37 a20 c21 x15.2]) ?_ ?_
    rotate_left
    · clear hx743
      rintro _ w746 ⟨rfl, hb747, hL748, hS749⟩
      refine WQ.block_normal ?_
      refine WQ.then_normal (hK728 _ _ _ ?_)
      refine WP.region ?_
      refine WL.runk 3 [3, 4, 8, 36, 37, 38] [(3, .slice a17 x15.1.length c18), (4, .slice a20 x15.2.length c21), (8, .slice a44 x42.1.length c45), (36, .int .i64 st690), (37, .int .i64 x742), (38, .int .i64 (wI64 (st712.2 + 1)))] (by kernel_rfl) ?_
      refine WL.nil ?_
      obtain rfl := Option.some.inj hm
      exact WQ.round hK719 ⟨(x742, (wI64 (st712.2 + 1))), rfl, hb747, hL748, hS749, hl717⟩ (Nat.lt_succ_self _) ⟨rfl, rfl, rfl, rfl, rfl, rfl, trivial⟩
    have hm := hx743; clear hx743
    refine WP.cond (x730.Name == x732.Name) rfl rfl (fun hc739 => ?_) (fun hc739 => ?_)
    rotate_left
    · have hm := iteF hm hc739
      refine WP.skip ?_
      obtain rfl := Option.some.inj hm
      exact WQ.post' ⟨rfl, hb736, hL737, hS738⟩ ⟨rfl, rfl, rfl, rfl, rfl, rfl, trivial⟩
    have hm := iteT hm hc739
    refine WP.region ?_
    refine WL.runk 3 [3, 4, 8, 36, 38, 273, 274, 275] [(3, .slice a17 x15.1.length c18), (4, .slice a20 x15.2.length c21), (8, .slice a44 x42.1.length c45), (36, .int .i64 st690), (38, .int .i64 st712.2), (273, .int .i64 st712.1), (274, .slice a20 x15.2.length c21), (275, .int .i64 st712.2)] (by kernel_rfl) ?_
    obtain ⟨x744, hx745, hm⟩ := bindE hm
    refine WL.st (.pointer (some (at_ a20 (Int.toNat st712.2 * 2)))) (ST.index (T := fTake.ty) (xs := x15.2) (SH.rd (SH.front 8 hS738)) hx745 rfl rfl rfl Tryz.underlying25 (info37).1 (info37).2.1) rfl rfl rfl ?_
    refine WL.runk 1 [3, 4, 8, 36, 38, 273, 277] [(3, .slice a17 x15.1.length c18), (4, .slice a20 x15.2.length c21), (8, .slice a44 x42.1.length c45), (36, .int .i64 st690), (38, .int .i64 st712.2), (273, .int .i64 st712.1), (277, .pointer (some (at_ a20 (Int.toNat st712.2 * 2 + 1))))] (by kernel_rfl) ?_
    refine WL.st (.int .i64 x744.Many) (ST.load (cell_ext (Rd.flat (F := fTake) (SH.rd (SH.front 8 hS738)) hx745 1 rfl)) rfl rfl Tryz.underlying2 rfl) rfl rfl rfl ?_
    refine WL.runk 2 [3, 4, 8, 36, 37, 38] [(3, .slice a17 x15.1.length c18), (4, .slice a20 x15.2.length c21), (8, .slice a44 x42.1.length c45), (36, .int .i64 st690), (38, .int .i64 st712.2), (37, .int .i64 (wI64 (st712.1 + x744.Many)))] (by kernel_rfl) ?_
    refine WL.nil ?_
    obtain rfl := Option.some.inj hm
    exact WQ.post' ⟨rfl, hb736, hL737, hS738⟩ ⟨rfl, rfl, rfl, rfl, rfl, rfl, trivial⟩
  have hm := iteT hm hc540
  refine WP.seq (fun K541 hK541 => ?_)
  refine WP.region ?_
  refine WL.runk 2 [3, 4, 5, 7, 8, 9, 17, 18, 220, 221] [(3, .slice a17 x15.1.length c18), (4, .slice a20 x15.2.length c21), (5, .slice a32 x30.1.length c33), (7, .int .i64 x30.2.2), (8, .slice a44 x42.1.length c45), (9, .int .i64 x42.2.1), (18, .pointer (some ⟨b114, 0, none⟩)), (17, .slice a105 x103.1.length c106), (220, .slice a130 x128.1.length c131), (221, .pointer (some ⟨b114, 0, none⟩))] (by kernel_rfl) ?_
  refine WL.st (.string (bs x103.2.Name)) (ST.load (cell_ext (SH.boxAt (SH.front 5 hS535) 0 _ rfl)) rfl rfl Tryz.underlying9 rfl) rfl rfl rfl ?_
  refine WL.runk 1 [3, 4, 5, 7, 8, 9, 17, 220, 222, 223] [(3, .slice a17 x15.1.length c18), (4, .slice a20 x15.2.length c21), (5, .slice a32 x30.1.length c33), (7, .int .i64 x30.2.2), (8, .slice a44 x42.1.length c45), (9, .int .i64 x42.2.1), (17, .slice a105 x103.1.length c106), (220, .slice a130 x128.1.length c131), (222, .string (bs x103.2.Name)), (223, .pointer (some ⟨b114, 1, none⟩))] (by kernel_rfl) ?_
  refine WL.st (.int .i64 x103.2.Many) (ST.load (cell_ext (SH.boxAt (SH.front 5 hS535) 1 _ rfl)) rfl rfl Tryz.underlying2 rfl) rfl rfl rfl ?_
  refine WL.runk 2 [3, 4, 5, 7, 8, 9, 17, 220, 226] [(3, .slice a17 x15.1.length c18), (4, .slice a20 x15.2.length c21), (5, .slice a32 x30.1.length c33), (7, .int .i64 x30.2.2), (8, .slice a44 x42.1.length c45), (9, .int .i64 x42.2.1), (17, .slice a105 x103.1.length c106), (220, .slice a130 x128.1.length c131), (226, .agg #[.string (bs x103.2.Name), .int .i64 (wI64 (0 - x103.2.Many))])] (by kernel_rfl) ?_
  obtain ⟨x542, hx543, hm⟩ := bindE hm
  refine WL.call 12 #[.slice a130 x128.1.length c131, .agg #[.string (bs x103.2.Name), .int .i64 (wI64 (0 - x103.2.Many))]] rfl rfl (by kernel_rfl) (c_12 n x128.1 a130 c131 (STake.mk x103.2.Name (wI64 (0 - x103.2.Many))) w532 hx543 (SH.rd (SH.front 4 hS535)) (SH.le (SH.front 4 hS535)).1) ?_
  rintro _ w547 ⟨a544, c545, rfl, hE548, hR549⟩
  refine ⟨_, rfl, ?_⟩
  have hb550 : Ext w w547 := Ext.trans hb533 hE548
  have hL551 : w.heap.size ≤ w547.heap.size := Nat.le_trans hL534 hE548.size
  have hS552 : SH w547 w.heap.size [aOwn fGood 31 a544 c545 x542.1, aBox 31 b244 [.string (bs x236.1.Name), .int .i64 x236.1.OnHand, .int .i64 x236.1.Reserved, .int .i64 x236.1.Least], aBox 31 b222 [.string (bs x214.1.Name), .int .i64 x214.1.OnHand, .int .i64 x214.1.Reserved, .int .i64 x214.1.Least], aBox 31 b191 [.string (bs x183.1.Name), .int .i64 x183.1.OnHand, .int .i64 x183.1.Reserved, .int .i64 x183.1.Least], aBox 31 b160 [.string (bs x152.Name), .int .i64 x152.OnHand, .int .i64 x152.Reserved, .int .i64 x152.Least], aOwn fGood 31 a130 c131 x128.1, aBox 37 b114 [.string (bs x103.2.Name), .int .i64 x103.2.Many], aOwn fGood 31 a105 c106 x103.1, aBox 31 b65 [.string (bs x54.2.Name), .int .i64 x54.2.OnHand, .int .i64 x54.2.Reserved, .int .i64 x54.2.Least], aOwn fGood 31 a44 c45 x42.1, aOwn fGood 31 a32 c33 x30.1, aOwn fGood 31 a17 c18 x15.1, aOwn fTake 37 a20 c21 x15.2] := SH.add hS535 hE548 hL534 hR549
  refine WL.runk 5 [3, 4, 5, 7, 8, 9, 17, 34, 35] [(3, .slice a17 x15.1.length c18), (4, .slice a20 x15.2.length c21), (5, .slice a32 x30.1.length c33), (7, .int .i64 x30.2.2), (8, .slice a44 x42.1.length c45), (9, .int .i64 x42.2.1), (17, .slice a105 x103.1.length c106), (34, .slice a544 x542.1.length c545), (35, .int .i64 x542.2)] (by kernel_rfl) ?_
  refine WL.nil ?_
  refine WQ.then_normal (hK541 _ _ _ ?_)
  refine WP.seq (fun K553 hK553 => ?_)
  obtain ⟨x563, hx564, hm⟩ := bindE hm
  refine WP.cut (fun env' w' => env' = [(3, .slice a17 x15.1.length c18), (4, .slice a20 x15.2.length c21), (5, .slice a32 x30.1.length c33), (7, .int .i64 x30.2.2), (8, .slice a44 x42.1.length c45), (9, .int .i64 x42.2.1), (237, .bool x563)] ∧ Ext w w' ∧ w.heap.size ≤ w'.heap.size ∧ SH w' w.heap.size [aBox 31 b244 [.string (bs x236.1.Name), .int .i64 x236.1.OnHand, .int .i64 x236.1.Reserved, .int .i64 x236.1.Least], aBox 31 b222 [.string (bs x214.1.Name), .int .i64 x214.1.OnHand, .int .i64 x214.1.Reserved, .int .i64 x214.1.Least], aBox 31 b191 [.string (bs x183.1.Name), .int .i64 x183.1.OnHand, .int .i64 x183.1.Reserved, .int .i64 x183.1.Least], aBox 31 b160 [.string (bs x152.Name), .int .i64 x152.OnHand, .int .i64 x152.Reserved, .int .i64 x152.Least], aBox 37 b114 [.string (bs x103.2.Name), .int .i64 x103.2.Many], aBox 31 b65 [.string (bs x54.2.Name), .int .i64 x54.2.OnHand, .int .i64 x54.2.Reserved, .int .i64 x54.2.Least], aOwn fGood 31 a44 c45 x42.1, aOwn fGood 31 a32 c33 x30.1, aOwn fGood 31 a17 c18 x15.1, aOwn fTake 37 a20 c21 x15.2]) ?_ ?_
  · have hm := hx564; clear hx564
    refine WP.region ?_
    refine WL.runk 3 [3, 4, 5, 7, 8, 9, 17, 34, 232] [(3, .slice a17 x15.1.length c18), (4, .slice a20 x15.2.length c21), (5, .slice a32 x30.1.length c33), (7, .int .i64 x30.2.2), (8, .slice a44 x42.1.length c45), (9, .int .i64 x42.2.1), (17, .slice a105 x103.1.length c106), (34, .slice a544 x542.1.length c545), (232, .bool (x542.2 != 0))] (by kernel_rfl) ?_
    refine WL.case (x542.2 != 0) [232] ⟨rfl, trivial⟩ (fun hc565 => ?_) (fun hc565 => ?_)
    · have hm := iteT hm hc565
      refine WL.runk 5 [3, 4, 5, 7, 8, 9, 237] [(3, .slice a17 x15.1.length c18), (4, .slice a20 x15.2.length c21), (5, .slice a32 x30.1.length c33), (7, .int .i64 x30.2.2), (8, .slice a44 x42.1.length c45), (9, .int .i64 x42.2.1), (237, .bool true)] (by kernel_rfl) ?_
      refine WL.nil ?_
      obtain rfl := Option.some.inj hm
      exact WQ.post' ⟨rfl, hb550, hL551, (SH.cutOut 0 1 (SH.cutOut 5 1 (SH.cutOut 7 1 hS552)))⟩ ⟨rfl, rfl, rfl, rfl, rfl, rfl, rfl, trivial⟩
    have hm := iteF hm hc565
    refine WL.runk 2 [3, 4, 5, 7, 8, 9, 232, 233, 234] [(3, .slice a17 x15.1.length c18), (4, .slice a20 x15.2.length c21), (5, .slice a32 x30.1.length c33), (7, .int .i64 x30.2.2), (8, .slice a44 x42.1.length c45), (9, .int .i64 x42.2.1), (232, .bool false), (233, .slice a544 x542.1.length c545), (234, .slice a105 x103.1.length c106)] (by kernel_rfl) ?_
    obtain ⟨x566, hx567, hm⟩ := bindE hm
    refine WL.call 20 #[.slice a544 x542.1.length c545, .slice a105 x103.1.length c106] rfl rfl (by kernel_rfl) (c_20 n x542.1 a544 c545 x103.1 a105 c106 w547 hx567 (SH.rd (SH.front 0 hS552)) (SH.le (SH.front 0 hS552)).1 (SH.rd (SH.front 7 hS552)) (SH.le (SH.front 7 hS552)).1) ?_
    rintro _ w568 ⟨rfl, hE569⟩
    refine ⟨_, rfl, ?_⟩
    have hb571 : Ext w w568 := Ext.trans hb550 hE569
    have hL572 : w.heap.size ≤ w568.heap.size := Nat.le_trans hL551 hE569.size
    have hS573 : SH w568 w.heap.size [aOwn fGood 31 a544 c545 x542.1, aBox 31 b244 [.string (bs x236.1.Name), .int .i64 x236.1.OnHand, .int .i64 x236.1.Reserved, .int .i64 x236.1.Least], aBox 31 b222 [.string (bs x214.1.Name), .int .i64 x214.1.OnHand, .int .i64 x214.1.Reserved, .int .i64 x214.1.Least], aBox 31 b191 [.string (bs x183.1.Name), .int .i64 x183.1.OnHand, .int .i64 x183.1.Reserved, .int .i64 x183.1.Least], aBox 31 b160 [.string (bs x152.Name), .int .i64 x152.OnHand, .int .i64 x152.Reserved, .int .i64 x152.Least], aOwn fGood 31 a130 c131 x128.1, aBox 37 b114 [.string (bs x103.2.Name), .int .i64 x103.2.Many], aOwn fGood 31 a105 c106 x103.1, aBox 31 b65 [.string (bs x54.2.Name), .int .i64 x54.2.OnHand, .int .i64 x54.2.Reserved, .int .i64 x54.2.Least], aOwn fGood 31 a44 c45 x42.1, aOwn fGood 31 a32 c33 x30.1, aOwn fGood 31 a17 c18 x15.1, aOwn fTake 37 a20 c21 x15.2] := SH.ext hS552 hE569
    refine WL.runk 2 [3, 4, 5, 7, 8, 9, 237] [(3, .slice a17 x15.1.length c18), (4, .slice a20 x15.2.length c21), (5, .slice a32 x30.1.length c33), (7, .int .i64 x30.2.2), (8, .slice a44 x42.1.length c45), (9, .int .i64 x42.2.1), (237, .bool (!x566))] (by kernel_rfl) ?_
    refine WL.nil ?_
    obtain rfl := Option.some.inj hm
    exact WQ.post' ⟨rfl, hb571, hL572, (SH.cutOut 0 1 (SH.cutOut 5 1 (SH.cutOut 7 1 hS573)))⟩ ⟨rfl, rfl, rfl, rfl, rfl, rfl, rfl, trivial⟩
  clear hx564
  rintro _ w574 ⟨rfl, hb575, hL576, hS577⟩
  refine WQ.then_normal (hK553 _ _ _ ?_)
  refine WP.cond x563 rfl rfl (fun hc578 => ?_) (fun hc578 => ?_)
  · have hm := iteT hm hc578
    refine WP.seq (fun K579 hK579 => ?_)
    refine WP.region ?_
    refine WL.runk 1 [2] [(2, .bool false)] (by kernel_rfl) ?_
    refine WL.nil ?_
    refine WQ.then_normal (hK579 _ _ _ ?_)
    refine WP.ret ?_
    refine WQ.then_ret ?_
    obtain rfl := Option.some.inj hm
    exact WQ.ret1 _ rfl rfl ⟨rfl, hb575⟩
  have hm := iteF hm hc578
  refine WP.skip ?_
  refine WQ.then_normal (hK538 _ _ _ ?_)
  refine WP.seq (fun K580 hK580 => ?_)
  refine WP.seq (fun K581 hK581 => ?_)
  refine WP.region ?_
  refine WL.runk 2 [3, 4, 5, 8, 9, 239] [(3, .slice a17 x15.1.length c18), (4, .slice a20 x15.2.length c21), (5, .slice a32 x30.1.length c33), (8, .slice a44 x42.1.length c45), (9, .int .i64 x42.2.1), (239, .bool (x30.2.2 != 0))] (by kernel_rfl) ?_
  refine WL.nil ?_
  refine WQ.then_normal (hK581 _ _ _ ?_)
  refine WP.cond (x30.2.2 != 0) rfl rfl (fun hc582 => ?_) (fun hc582 => ?_)
  · have hm := iteT hm hc582
    refine WP.seq (fun K583 hK583 => ?_)
    refine WP.region ?_
    refine WL.runk 1 [2] [(2, .bool true)] (by kernel_rfl) ?_
    refine WL.nil ?_
    refine WQ.then_normal (hK583 _ _ _ ?_)
    refine WP.ret ?_
    refine WQ.then_ret ?_
    obtain rfl := Option.some.inj hm
    exact WQ.ret1 _ rfl rfl ⟨rfl, hb575⟩
  have hm := iteF hm hc582
  refine WP.skip ?_
  refine WQ.then_normal (hK580 _ _ _ ?_)
  refine WP.seq (fun K584 hK584 => ?_)
  refine WP.seq (fun K585 hK585 => ?_)
  refine WP.region ?_
  refine WL.runk 2 [3, 4, 5, 8, 241] [(3, .slice a17 x15.1.length c18), (4, .slice a20 x15.2.length c21), (5, .slice a32 x30.1.length c33), (8, .slice a44 x42.1.length c45), (241, .bool (decide (x42.2.1 ≥ 0)))] (by kernel_rfl) ?_
  refine WL.nil ?_
  refine WQ.then_normal (hK585 _ _ _ ?_)
  refine WP.cond (decide (x42.2.1 ≥ 0)) rfl rfl (fun hc586 => ?_) (fun hc586 => ?_)
  · have hm := iteT hm hc586
    refine WP.seq (fun K587 hK587 => ?_)
    refine WP.region ?_
    refine WL.runk 2 [242, 243] [(242, .slice a32 x30.1.length c33), (243, .slice a17 x15.1.length c18)] (by kernel_rfl) ?_
    obtain ⟨x588, hx589, hm⟩ := bindE hm
    refine WL.call 20 #[.slice a32 x30.1.length c33, .slice a17 x15.1.length c18] rfl rfl (by kernel_rfl) (c_20 n x30.1 a32 c33 x15.1 a17 c18 w574 hx589 (SH.rd (SH.front 7 hS577)) (SH.le (SH.front 7 hS577)).1 (SH.rd (SH.front 8 hS577)) (SH.le (SH.front 8 hS577)).1) ?_
    rintro _ w590 ⟨rfl, hE591⟩
    refine ⟨_, rfl, ?_⟩
    have hb593 : Ext w w590 := Ext.trans hb575 hE591
    have hL594 : w.heap.size ≤ w590.heap.size := Nat.le_trans hL576 hE591.size
    have hS595 : SH w590 w.heap.size [aBox 31 b244 [.string (bs x236.1.Name), .int .i64 x236.1.OnHand, .int .i64 x236.1.Reserved, .int .i64 x236.1.Least], aBox 31 b222 [.string (bs x214.1.Name), .int .i64 x214.1.OnHand, .int .i64 x214.1.Reserved, .int .i64 x214.1.Least], aBox 31 b191 [.string (bs x183.1.Name), .int .i64 x183.1.OnHand, .int .i64 x183.1.Reserved, .int .i64 x183.1.Least], aBox 31 b160 [.string (bs x152.Name), .int .i64 x152.OnHand, .int .i64 x152.Reserved, .int .i64 x152.Least], aBox 37 b114 [.string (bs x103.2.Name), .int .i64 x103.2.Many], aBox 31 b65 [.string (bs x54.2.Name), .int .i64 x54.2.OnHand, .int .i64 x54.2.Reserved, .int .i64 x54.2.Least], aOwn fGood 31 a44 c45 x42.1, aOwn fGood 31 a32 c33 x30.1, aOwn fGood 31 a17 c18 x15.1, aOwn fTake 37 a20 c21 x15.2] := SH.ext hS577 hE591
    refine WL.runk 1 [2] [(2, .bool x588)] (by kernel_rfl) ?_
    refine WL.nil ?_
    refine WQ.then_normal (hK587 _ _ _ ?_)
    refine WP.ret ?_
    refine WQ.then_ret ?_
    obtain rfl := Option.some.inj hm
    exact WQ.ret1 _ rfl rfl ⟨rfl, hb593⟩
  have hm := iteF hm hc586
  refine WP.skip ?_
  refine WQ.then_normal (hK584 _ _ _ ?_)
  refine WP.seq (fun K596 hK596 => ?_)
  refine WP.seq (fun K597 hK597 => ?_)
  refine WP.region ?_
  refine WL.runk 1 [3, 4, 8, 36] [(3, .slice a17 x15.1.length c18), (4, .slice a20 x15.2.length c21), (8, .slice a44 x42.1.length c45), (36, .int .i64 0)] (by kernel_rfl) ?_
  refine WL.nil ?_
  refine WQ.then_normal (hK597 _ _ _ ?_)
  refine WP.block ?_
  obtain ⟨t609, ht610, hm⟩ := bindE hm
  have hmo604 := hm; clear hm
  refine WP.sub [(3, .slice a17 x15.1.length c18), (4, .slice a20 x15.2.length c21), (8, .slice a44 x42.1.length c45), (36, .int .i64 0)] ⟨rfl, rfl, rfl, rfl, trivial⟩ ?_
  refine WP.loop (fun n' env' w' => ∃ (st598 : Int) , env' = [(3, .slice a17 x15.1.length c18), (4, .slice a20 x15.2.length c21), (8, .slice a44 x42.1.length c45), (36, .int .i64 st598)] ∧ Ext w w' ∧ w.heap.size ≤ w'.heap.size ∧ SH w' w.heap.size [aBox 31 b244 [.string (bs x236.1.Name), .int .i64 x236.1.OnHand, .int .i64 x236.1.Reserved, .int .i64 x236.1.Least], aBox 31 b222 [.string (bs x214.1.Name), .int .i64 x214.1.OnHand, .int .i64 x214.1.Reserved, .int .i64 x214.1.Least], aBox 31 b191 [.string (bs x183.1.Name), .int .i64 x183.1.OnHand, .int .i64 x183.1.Reserved, .int .i64 x183.1.Least], aBox 31 b160 [.string (bs x152.Name), .int .i64 x152.OnHand, .int .i64 x152.Reserved, .int .i64 x152.Least], aBox 37 b114 [.string (bs x103.2.Name), .int .i64 x103.2.Many], aBox 31 b65 [.string (bs x54.2.Name), .int .i64 x54.2.OnHand, .int .i64 x54.2.Reserved, .int .i64 x54.2.Least], aOwn fGood 31 a44 c45 x42.1, aOwn fGood 31 a17 c18 x15.1, aOwn fTake 37 a20 c21 x15.2] ∧ loopN (m_laws_FnGoods_l1 n x15 x42) n' st598 = some t609) n ⟨0, rfl, hb575, hL576, (SH.cutOut 7 1 hS577), ht610⟩ ?_
  rintro n606 _ w599 ⟨st598, rfl, hb600, hL601, hS602, hl603⟩ K605 hK605
  obtain ⟨n607, s608, rfl, hm, hl603⟩ := loopN_some hl603
  unfold m_laws_FnGoods_l1 at hm
  refine WP.seq (fun K611 hK611 => ?_)
  refine WP.seq (fun K612 hK612 => ?_)
  refine WP.region ?_
  refine WL.runk 4 [3, 4, 8, 36, 248] [(3, .slice a17 x15.1.length c18), (4, .slice a20 x15.2.length c21), (8, .slice a44 x42.1.length c45), (36, .int .i64 st598), (248, .bool (decide (st598 < (x15.1.length : Int))))] (by kernel_rfl) ?_
  refine WL.nil ?_
  refine WQ.then_normal (hK612 _ _ _ ?_)
  refine WP.cond (decide (st598 < (x15.1.length : Int))) rfl rfl (fun hc613 => ?_) (fun hc613 => ?_)
  rotate_left
  · have hm := iteF hm hc613
    refine WP.exit ?_
    refine WQ.then_exit ?_
    refine WQ.then_exit ?_
    refine WQ.block_here ?_
    obtain rfl := Option.some.inj hm
    obtain rfl := afterN_done hl603
    have hm := hmo604
    refine WQ.then_normal (hK596 _ _ _ ?_)
    refine WP.seq (fun K669 hK669 => ?_)
    refine WP.region ?_
    refine WL.runk 1 [2] [(2, .bool true)] (by kernel_rfl) ?_
    refine WL.nil ?_
    refine WQ.then_normal (hK669 _ _ _ ?_)
    refine WP.ret ?_
    obtain rfl := Option.some.inj hm
    exact WQ.ret1 _ rfl rfl ⟨rfl, hb600⟩
  have hm := iteT hm hc613
  refine WP.skip ?_
  refine WQ.then_normal (hK611 _ _ _ ?_)
  refine WP.seq (fun K614 hK614 => ?_)
  refine WP.block ?_
  refine WP.seq (fun K615 hK615 => ?_)
  refine WP.region ?_
  refine WL.runk 2 [3, 4, 8, 36, 251, 252] [(3, .slice a17 x15.1.length c18), (4, .slice a20 x15.2.length c21), (8, .slice a44 x42.1.length c45), (36, .int .i64 st598), (251, .slice a17 x15.1.length c18), (252, .int .i64 st598)] (by kernel_rfl) ?_
  obtain ⟨x616, hx617, hm⟩ := bindE hm
  refine WL.st (.pointer (some (at_ a17 (Int.toNat st598 * 4)))) (ST.index (T := fGood.ty) (xs := x15.1) (SH.rd (SH.front 7 hS602)) hx617 rfl rfl rfl Tryz.underlying24 (info31).1 (info31).2.1) rfl rfl rfl ?_
  refine WL.runk 1 [3, 4, 8, 36, 254] [(3, .slice a17 x15.1.length c18), (4, .slice a20 x15.2.length c21), (8, .slice a44 x42.1.length c45), (36, .int .i64 st598), (254, .pointer (some (at_ a17 (Int.toNat st598 * 4 + 1))))] (by kernel_rfl) ?_
  refine WL.st (.int .i64 x616.OnHand) (ST.load (cell_ext (Rd.flat (F := fGood) (SH.rd (SH.front 7 hS602)) hx617 1 rfl)) rfl rfl Tryz.underlying2 rfl) rfl rfl rfl ?_
  refine WL.runk 1 [3, 4, 8, 36, 37] [(3, .slice a17 x15.1.length c18), (4, .slice a20 x15.2.length c21), (8, .slice a44 x42.1.length c45), (36, .int .i64 st598), (37, .int .i64 x616.OnHand)] (by kernel_rfl) ?_
  refine WL.nil ?_
  refine WQ.then_normal (hK615 _ _ _ ?_)
  refine WP.seq (fun K618 hK618 => ?_)
  refine WP.seq (fun K619 hK619 => ?_)
  refine WP.region ?_
  refine WL.runk 1 [3, 4, 8, 36, 37, 38] [(3, .slice a17 x15.1.length c18), (4, .slice a20 x15.2.length c21), (8, .slice a44 x42.1.length c45), (36, .int .i64 st598), (37, .int .i64 x616.OnHand), (38, .int .i64 0)] (by kernel_rfl) ?_
  refine WL.nil ?_
  refine WQ.then_normal (hK619 _ _ _ ?_)
  refine WP.block ?_
  obtain ⟨t631, ht632, hm⟩ := bindE hm
  have hmo626 := hm; clear hm
  refine WP.sub [(3, .slice a17 x15.1.length c18), (4, .slice a20 x15.2.length c21), (8, .slice a44 x42.1.length c45), (36, .int .i64 st598), (37, .int .i64 x616.OnHand), (38, .int .i64 0)] ⟨rfl, rfl, rfl, rfl, rfl, rfl, trivial⟩ ?_
  refine WP.loop (fun n' env' w' => ∃ (st620 : Int × Int) , env' = [(3, .slice a17 x15.1.length c18), (4, .slice a20 x15.2.length c21), (8, .slice a44 x42.1.length c45), (36, .int .i64 st598), (37, .int .i64 st620.1), (38, .int .i64 st620.2)] ∧ Ext w w' ∧ w.heap.size ≤ w'.heap.size ∧ SH w' w.heap.size [aBox 31 b244 [.string (bs x236.1.Name), .int .i64 x236.1.OnHand, .int .i64 x236.1.Reserved, .int .i64 x236.1.Least], aBox 31 b222 [.string (bs x214.1.Name), .int .i64 x214.1.OnHand, .int .i64 x214.1.Reserved, .int .i64 x214.1.Least], aBox 31 b191 [.string (bs x183.1.Name), .int .i64 x183.1.OnHand, .int .i64 x183.1.Reserved, .int .i64 x183.1.Least], aBox 31 b160 [.string (bs x152.Name), .int .i64 x152.OnHand, .int .i64 x152.Reserved, .int .i64 x152.Least], aBox 37 b114 [.string (bs x103.2.Name), .int .i64 x103.2.Many], aBox 31 b65 [.string (bs x54.2.Name), .int .i64 x54.2.OnHand, .int .i64 x54.2.Reserved, .int .i64 x54.2.Least], aOwn fGood 31 a44 c45 x42.1, aOwn fGood 31 a17 c18 x15.1, aOwn fTake 37 a20 c21 x15.2] ∧ loopN (m_laws_FnGoods_l2 n x15 st598) n' st620 = some t631) n ⟨(x616.OnHand, 0), rfl, hb600, hL601, hS602, ht632⟩ ?_
  rintro n628 _ w621 ⟨st620, rfl, hb622, hL623, hS624, hl625⟩ K627 hK627
  obtain ⟨n629, s630, rfl, hm, hl625⟩ := loopN_some hl625
  unfold m_laws_FnGoods_l2 at hm
  refine WP.seq (fun K633 hK633 => ?_)
  refine WP.seq (fun K634 hK634 => ?_)
  refine WP.region ?_
  refine WL.runk 4 [3, 4, 8, 36, 37, 38, 259] [(3, .slice a17 x15.1.length c18), (4, .slice a20 x15.2.length c21), (8, .slice a44 x42.1.length c45), (36, .int .i64 st598), (37, .int .i64 st620.1), (38, .int .i64 st620.2), (259, .bool (decide (st620.2 < (x15.2.length : Int))))] (by kernel_rfl) ?_
  refine WL.nil ?_
  refine WQ.then_normal (hK634 _ _ _ ?_)
  refine WP.cond (decide (st620.2 < (x15.2.length : Int))) rfl rfl (fun hc635 => ?_) (fun hc635 => ?_)
  rotate_left
  · have hm := iteF hm hc635
    refine WP.exit ?_
    refine WQ.then_exit ?_
    refine WQ.then_exit ?_
    refine WQ.block_here ?_
    obtain rfl := Option.some.inj hm
    obtain rfl := afterN_done hl625
    have hm := hmo626
    refine WQ.then_normal (hK618 _ _ _ ?_)
    refine WP.seq (fun K658 hK658 => ?_)
    refine WP.region ?_
    refine WL.runk 2 [3, 4, 8, 36, 37, 280, 281] [(3, .slice a17 x15.1.length c18), (4, .slice a20 x15.2.length c21), (8, .slice a44 x42.1.length c45), (36, .int .i64 st598), (37, .int .i64 st620.1), (280, .slice a44 x42.1.length c45), (281, .int .i64 st598)] (by kernel_rfl) ?_
    obtain ⟨x659, hx660, hm⟩ := bindE hm
    refine WL.st (.pointer (some (at_ a44 (Int.toNat st598 * 4)))) (ST.index (T := fGood.ty) (xs := x42.1) (SH.rd (SH.front 6 hS624)) hx660 rfl rfl rfl Tryz.underlying24 (info31).1 (info31).2.1) rfl rfl rfl ?_
    refine WL.runk 1 [3, 4, 8, 36, 37, 283] [(3, .slice a17 x15.1.length c18), (4, .slice a20 x15.2.length c21), (8, .slice a44 x42.1.length c45), (36, .int .i64 st598), (37, .int .i64 st620.1), (283, .pointer (some (at_ a44 (Int.toNat st598 * 4 + 1))))] (by kernel_rfl) ?_
    refine WL.st (.int .i64 x659.OnHand) (ST.load (cell_ext (Rd.flat (F := fGood) (SH.rd (SH.front 6 hS624)) hx660 1 rfl)) rfl rfl Tryz.underlying2 rfl) rfl rfl rfl ?_
    refine WL.runk 2 [3, 4, 8, 36, 286] [(3, .slice a17 x15.1.length c18), (4, .slice a20 x15.2.length c21), (8, .slice a44 x42.1.length c45), (36, .int .i64 st598), (286, .bool (x659.OnHand != st620.1))] (by kernel_rfl) ?_
    refine WL.nil ?_
    refine WQ.then_normal (hK658 _ _ _ ?_)
    refine WP.cond (x659.OnHand != st620.1) rfl rfl (fun hc661 => ?_) (fun hc661 => ?_)
    rotate_left
    · have hm := iteF hm hc661
      refine WP.skip ?_
      refine WQ.block_normal ?_
      refine WQ.then_normal (hK614 _ _ _ ?_)
      refine WP.region ?_
      refine WL.runk 3 [3, 4, 8, 36] [(3, .slice a17 x15.1.length c18), (4, .slice a20 x15.2.length c21), (8, .slice a44 x42.1.length c45), (36, .int .i64 (wI64 (st598 + 1)))] (by kernel_rfl) ?_
      refine WL.nil ?_
      obtain rfl := Option.some.inj hm
      exact WQ.round hK605 ⟨(wI64 (st598 + 1)), rfl, hb622, hL623, hS624, hl603⟩ (Nat.lt_succ_self _) ⟨rfl, rfl, rfl, rfl, trivial⟩
    have hm := iteT hm hc661
    refine WP.seq (fun K662 hK662 => ?_)
    refine WP.region ?_
    refine WL.runk 1 [2] [(2, .bool false)] (by kernel_rfl) ?_
    refine WL.nil ?_
    refine WQ.then_normal (hK662 _ _ _ ?_)
    refine WP.ret ?_
    refine WQ.block_ret ?_
    refine WQ.then_ret ?_
    refine WQ.then_ret ?_
    refine WQ.block_ret ?_
    refine WQ.then_ret ?_
    obtain rfl := Option.some.inj hm
    obtain rfl := afterN_done hl603
    have hm := hmo604
    obtain rfl := Option.some.inj hm
    exact WQ.ret1 _ rfl rfl ⟨rfl, hb622⟩
  have hm := iteT hm hc635
  refine WP.skip ?_
  refine WQ.then_normal (hK633 _ _ _ ?_)
  refine WP.seq (fun K636 hK636 => ?_)
  refine WP.block ?_
  refine WP.seq (fun K637 hK637 => ?_)
  refine WP.quiet (by kernel_rfl) (by kernel_rfl) ?_
  refine QL.step1v 262 (.slice a20 x15.2.length c21) rfl (fun _ => by kernel_rfl) ?_
  refine QL.step1v 263 (.int .i64 st620.2) rfl (fun _ => by kernel_rfl) ?_
  refine QL.subk [3, 4, 8, 36, 37, 38, 262, 263] [(3, .slice a17 x15.1.length c18), (4, .slice a20 x15.2.length c21), (8, .slice a44 x42.1.length c45), (36, .int .i64 st598), (37, .int .i64 st620.1), (38, .int .i64 st620.2), (262, .slice a20 x15.2.length c21), (263, .int .i64 st620.2)] (by kernel_rfl) ?_
  obtain ⟨x638, hx639, hm⟩ := bindE hm
  refine QL.st (.pointer (some (at_ a20 (Int.toNat st620.2 * 2)))) (ST.index (T := fTake.ty) (xs := x15.2) (SH.rd (SH.front 8 hS624)) hx639 rfl rfl rfl Tryz.underlying25 (info37).1 (info37).2.1) rfl rfl rfl ?_
  refine QL.step1v 265 (.pointer (some (at_ a20 (Int.toNat st620.2 * 2)))) rfl (fun _ => by kernel_rfl) ?_
  refine QL.subk [3, 4, 8, 36, 37, 38, 265] [(3, .slice a17 x15.1.length c18), (4, .slice a20 x15.2.length c21), (8, .slice a44 x42.1.length c45), (36, .int .i64 st598), (37, .int .i64 st620.1), (38, .int .i64 st620.2), (265, .pointer (some (at_ a20 (Int.toNat st620.2 * 2))))] (by kernel_rfl) ?_
  refine QL.st (.string (bs x638.Name)) (ST.load (cell_ext (Rd.flat (F := fTake) (SH.rd (SH.front 8 hS624)) hx639 0 rfl)) rfl rfl Tryz.underlying9 rfl) rfl rfl rfl ?_
  refine QL.step1v 267 (.slice a17 x15.1.length c18) rfl (fun _ => by kernel_rfl) ?_
  refine QL.step1v 268 (.int .i64 st598) rfl (fun _ => by kernel_rfl) ?_
  refine QL.subk [3, 4, 8, 36, 37, 38, 266, 267, 268] [(3, .slice a17 x15.1.length c18), (4, .slice a20 x15.2.length c21), (8, .slice a44 x42.1.length c45), (36, .int .i64 st598), (37, .int .i64 st620.1), (38, .int .i64 st620.2), (266, .string (bs x638.Name)), (267, .slice a17 x15.1.length c18), (268, .int .i64 st598)] (by kernel_rfl) ?_
  obtain ⟨x640, hx641, hm⟩ := bindE hm
  refine QL.st (.pointer (some (at_ a17 (Int.toNat st598 * 4)))) (ST.index (T := fGood.ty) (xs := x15.1) (SH.rd (SH.front 7 hS624)) hx641 rfl rfl rfl Tryz.underlying24 (info31).1 (info31).2.1) rfl rfl rfl ?_
  refine QL.step1v 270 (.pointer (some (at_ a17 (Int.toNat st598 * 4)))) rfl (fun _ => by kernel_rfl) ?_
  refine QL.subk [3, 4, 8, 36, 37, 38, 266, 270] [(3, .slice a17 x15.1.length c18), (4, .slice a20 x15.2.length c21), (8, .slice a44 x42.1.length c45), (36, .int .i64 st598), (37, .int .i64 st620.1), (38, .int .i64 st620.2), (266, .string (bs x638.Name)), (270, .pointer (some (at_ a17 (Int.toNat st598 * 4))))] (by kernel_rfl) ?_
  refine QL.st (.string (bs x640.Name)) (ST.load (cell_ext (Rd.flat (F := fGood) (SH.rd (SH.front 7 hS624)) hx641 0 rfl)) rfl rfl Tryz.underlying9 rfl) rfl rfl rfl ?_
  refine QL.st (.bool (x638.Name == x640.Name)) (ST.streq (x := x638.Name) (y := x640.Name) rfl rfl rfl) rfl rfl rfl ?_
  refine QL.subk [3, 4, 8, 36, 37, 38, 272] [(3, .slice a17 x15.1.length c18), (4, .slice a20 x15.2.length c21), (8, .slice a44 x42.1.length c45), (36, .int .i64 st598), (37, .int .i64 st620.1), (38, .int .i64 st620.2), (272, .bool (x638.Name == x640.Name))] (by kernel_rfl) ?_
  refine QL.nil ?_
  intro w642 hE643
  have hb644 : Ext w w642 := Ext.trans hb622 hE643
  have hL645 : w.heap.size ≤ w642.heap.size := Nat.le_trans hL623 hE643.size
  have hS646 : SH w642 w.heap.size [aBox 31 b244 [.string (bs x236.1.Name), .int .i64 x236.1.OnHand, .int .i64 x236.1.Reserved, .int .i64 x236.1.Least], aBox 31 b222 [.string (bs x214.1.Name), .int .i64 x214.1.OnHand, .int .i64 x214.1.Reserved, .int .i64 x214.1.Least], aBox 31 b191 [.string (bs x183.1.Name), .int .i64 x183.1.OnHand, .int .i64 x183.1.Reserved, .int .i64 x183.1.Least], aBox 31 b160 [.string (bs x152.Name), .int .i64 x152.OnHand, .int .i64 x152.Reserved, .int .i64 x152.Least], aBox 37 b114 [.string (bs x103.2.Name), .int .i64 x103.2.Many], aBox 31 b65 [.string (bs x54.2.Name), .int .i64 x54.2.OnHand, .int .i64 x54.2.Reserved, .int .i64 x54.2.Least], aOwn fGood 31 a44 c45 x42.1, aOwn fGood 31 a17 c18 x15.1, aOwn fTake 37 a20 c21 x15.2] := SH.ext hS624 hE643
  refine WQ.then_normal (hK637 _ _ _ ?_)
  obtain ⟨x650, hx651, hm⟩ := bindE hm
  refine WP.cut (fun env' w' => env' = [(3, .slice a17 x15.1.length c18), (4, .slice a20 x15.2.length c21), (8, .slice a44 x42.1.length c45), (36, .int .i64 st598), (37, .int .i64 x650), (38, .int .i64 st620.2)] ∧ Ext w w' ∧ w.heap.size ≤ w'.heap.size ∧ SH w' w.heap.size [aBox 31 b244 [.string (bs x236.1.Name), .int .i64 x236.1.OnHand, .int .i64 x236.1.Reserved, .int .i64 x236.1.Least], aBox 31 b222 [.string (bs x214.1.Name), .int .i64 x214.1.OnHand, .int .i64 x214.1.Reserved, .int .i64 x214.1.Least], aBox 31 b191 [.string (bs x183.1.Name), .int .i64 x183.1.OnHand, .int .i64 x183.1.Reserved, .int .i64 x183.1.Least], aBox 31 b160 [.string (bs x152.Name), .int .i64 x152.OnHand, .int .i64 x152.Reserved, .int .i64 x152.Least], aBox 37 b114 [.string (bs x103.2.Name), .int .i64 x103.2.Many], aBox 31 b65 [.string (bs x54.2.Name), .int .i64 x54.2.OnHand, .int .i64 x54.2.Reserved, .int .i64 x54.2.Least], aOwn fGood 31 a44 c45 x42.1, aOwn fGood 31 a17 c18 x15.1, aOwn fTake 37 a20 c21 x15.2]) ?_ ?_
  rotate_left
  · clear hx651
    rintro _ w654 ⟨rfl, hb655, hL656, hS657⟩
    refine WQ.block_normal ?_
    refine WQ.then_normal (hK636 _ _ _ ?_)
    refine WP.region ?_
    refine WL.runk 3 [3, 4, 8, 36, 37, 38] [(3, .slice a17 x15.1.length c18), (4, .slice a20 x15.2.length c21), (8, .slice a44 x42.1.length c45), (36, .int .i64 st598), (37, .int .i64 x650), (38, .int .i64 (wI64 (st620.2 + 1)))] (by kernel_rfl) ?_
    refine WL.nil ?_
    obtain rfl := Option.some.inj hm
    exact WQ.round hK627 ⟨(x650, (wI64 (st620.2 + 1))), rfl, hb655, hL656, hS657, hl625⟩ (Nat.lt_succ_self _) ⟨rfl, rfl, rfl, rfl, rfl, rfl, trivial⟩
  have hm := hx651; clear hx651
  refine WP.cond (x638.Name == x640.Name) rfl rfl (fun hc647 => ?_) (fun hc647 => ?_)
  rotate_left
  · have hm := iteF hm hc647
    refine WP.skip ?_
    obtain rfl := Option.some.inj hm
    exact WQ.post' ⟨rfl, hb644, hL645, hS646⟩ ⟨rfl, rfl, rfl, rfl, rfl, rfl, trivial⟩
  have hm := iteT hm hc647
  refine WP.region ?_
  refine WL.runk 3 [3, 4, 8, 36, 38, 273, 274, 275] [(3, .slice a17 x15.1.length c18), (4, .slice a20 x15.2.length c21), (8, .slice a44 x42.1.length c45), (36, .int .i64 st598), (38, .int .i64 st620.2), (273, .int .i64 st620.1), (274, .slice a20 x15.2.length c21), (275, .int .i64 st620.2)] (by kernel_rfl) ?_
  obtain ⟨x652, hx653, hm⟩ := bindE hm
  refine WL.st (.pointer (some (at_ a20 (Int.toNat st620.2 * 2)))) (ST.index (T := fTake.ty) (xs := x15.2) (SH.rd (SH.front 8 hS646)) hx653 rfl rfl rfl Tryz.underlying25 (info37).1 (info37).2.1) rfl rfl rfl ?_
  refine WL.runk 1 [3, 4, 8, 36, 38, 273, 277] [(3, .slice a17 x15.1.length c18), (4, .slice a20 x15.2.length c21), (8, .slice a44 x42.1.length c45), (36, .int .i64 st598), (38, .int .i64 st620.2), (273, .int .i64 st620.1), (277, .pointer (some (at_ a20 (Int.toNat st620.2 * 2 + 1))))] (by kernel_rfl) ?_
  refine WL.st (.int .i64 x652.Many) (ST.load (cell_ext (Rd.flat (F := fTake) (SH.rd (SH.front 8 hS646)) hx653 1 rfl)) rfl rfl Tryz.underlying2 rfl) rfl rfl rfl ?_
  refine WL.runk 2 [3, 4, 8, 36, 37, 38] [(3, .slice a17 x15.1.length c18), (4, .slice a20 x15.2.length c21), (8, .slice a44 x42.1.length c45), (36, .int .i64 st598), (38, .int .i64 st620.2), (37, .int .i64 (wI64 (st620.1 + x652.Many)))] (by kernel_rfl) ?_
  refine WL.nil ?_
  obtain rfl := Option.some.inj hm
  exact WQ.post' ⟨rfl, hb644, hL645, hS646⟩ ⟨rfl, rfl, rfl, rfl, rfl, rfl, trivial⟩

end Go.Proofs.YtkpdicajinionaaGreatDoor
