/- Each call does what its Lean function says. -/
import Derived.Test.YtkpdicajinionaaKReserves2
set_option maxRecDepth 20000
set_option maxHeartbeats 40000000
namespace Go.Proofs.Ytkpdicajinionaa
open Go Go.Gv Go.RowKit

theorem c_12 (n : Nat) (code_0 : List Int) (a0' : Option Addr) (c0' : Nat) (w : World) {r : Bool} (hm : m_laws_FnReserves n code_0 = some r) (h0 : Rd fU8.ty w a0' code_0) (hle0 : code_0.length ≤ c0') :
    CallV Try.prog 12 #[.slice a0' code_0.length c0'] w (fun v w' => v = .bool r ∧ Ext w w') := by
  unfold m_laws_FnReserves at hm
  refine CallV.enter Try.func12 rfl (by kernel_rfl) Try.ntmps12 (env := [(0, .slice a0' code_0.length c0')]) ⟨rfl, trivial⟩ ?_
  refine WP.seq (fun K1 hK1 => ?_)
  refine WP.region ?_
  refine WL.runk 1 [0] [(0, .slice a0' code_0.length c0')] (by kernel_rfl) ?_
  refine WL.nil ?_
  refine WQ.then_normal (hK1 _ _ _ ?_)
  refine WP.seq (fun K2 hK2 => ?_)
  refine WP.seq (fun K3 hK3 => ?_)
  refine WP.region ?_
  refine WL.runk 1 [0, 46] [(0, .slice a0' code_0.length c0'), (46, .slice a0' code_0.length c0')] (by kernel_rfl) ?_
  obtain ⟨x4, hx5, hm⟩ := bindE hm
  refine WL.call 45 #[.slice a0' code_0.length c0'] rfl rfl (by kernel_rfl) (c_45 n code_0 a0' c0' w hx5 (Rd.below h0 (Ext.refl w)) hle0) ?_
  rintro _ w6 ⟨rfl, hE7⟩
  refine ⟨_, rfl, ?_⟩
  have hb9 : Ext w w6 := Ext.trans (Ext.refl w) hE7
  have hL10 : w.heap.size ≤ w6.heap.size := Nat.le_trans (Nat.le_refl _) hE7.size
  have hS11 : SH w6 w.heap.size [] := SH.ext (SH.nil _ _) hE7
  refine WL.sub [(0, .slice a0' code_0.length c0'), (47, .bool x4)] ⟨rfl, rfl, trivial⟩ ?_
  refine WL.nil ?_
  refine WQ.then_normal (hK3 _ _ _ ?_)
  refine WP.cond x4 rfl rfl (fun hc12 => ?_) (fun hc12 => ?_)
  · have hm := iteT hm hc12
    refine WP.seq (fun K13 hK13 => ?_)
    refine WP.region ?_
    refine WL.runk 1 [2] [(2, .bool true)] (by kernel_rfl) ?_
    refine WL.nil ?_
    refine WQ.then_normal (hK13 _ _ _ ?_)
    refine WP.ret ?_
    refine WQ.then_ret ?_
    obtain rfl := Option.some.inj hm
    exact WQ.ret1 _ rfl rfl ⟨rfl, hb9⟩
  have hm := iteF hm hc12
  refine WP.skip ?_
  refine WQ.then_normal (hK2 _ _ _ ?_)
  refine WP.seq (fun K14 hK14 => ?_)
  refine WP.region ?_
  refine WL.runk 1 [0, 49] [(0, .slice a0' code_0.length c0'), (49, .slice a0' code_0.length c0')] (by kernel_rfl) ?_
  obtain ⟨x15, hx16, hm⟩ := bindE hm
  refine WL.call 46 #[.slice a0' code_0.length c0'] rfl rfl (by kernel_rfl) (c_46 n code_0 a0' c0' w6 hx16 (Rd.below h0 hb9) hle0) ?_
  rintro _ w20 ⟨a17, c18, rfl, hE21, hR22⟩
  refine ⟨_, rfl, ?_⟩
  have hb23 : Ext w w20 := Ext.trans hb9 hE21
  have hL24 : w.heap.size ≤ w20.heap.size := Nat.le_trans hL10 hE21.size
  have hS25 : SH w20 w.heap.size [aOwn fGood 56 a17 c18 x15.1] := SH.add hS11 hE21 hL10 hR22
  refine WL.runk 7 [0, 3, 4, 5] [(0, .slice a0' code_0.length c0'), (3, .slice a17 x15.1.length c18), (4, .string (bs x15.2.1)), (5, .int .i64 x15.2.2)] (by kernel_rfl) ?_
  refine WL.nil ?_
  refine WQ.then_normal (hK14 _ _ _ ?_)
  refine WP.seq (fun K26 hK26 => ?_)
  refine WP.region ?_
  refine WL.runk 3 [0, 3, 4, 5, 55, 56, 57] [(0, .slice a0' code_0.length c0'), (3, .slice a17 x15.1.length c18), (4, .string (bs x15.2.1)), (5, .int .i64 x15.2.2), (55, .slice a17 x15.1.length c18), (56, .string (bs x15.2.1)), (57, .int .i64 x15.2.2)] (by kernel_rfl) ?_
  obtain ⟨x27, hx28, hm⟩ := bindE hm
  refine WL.call 27 #[.slice a17 x15.1.length c18, .string (bs x15.2.1), .int .i64 x15.2.2] rfl rfl (by kernel_rfl) (c_27 n x15.1 a17 c18 x15.2.1 x15.2.2 w20 hx28 (SH.rd (SH.front 0 hS25)) (SH.le (SH.front 0 hS25)).1) ?_
  rintro _ w32 ⟨a29, c30, rfl, hE33, hR34⟩
  refine ⟨_, rfl, ?_⟩
  have hb35 : Ext w w32 := Ext.trans hb23 hE33
  have hL36 : w.heap.size ≤ w32.heap.size := Nat.le_trans hL24 hE33.size
  have hS37 : SH w32 w.heap.size [aOwn fGood 56 a29 c30 x27.1, aOwn fGood 56 a17 c18 x15.1] := SH.add hS25 hE33 hL24 hR34
  refine WL.runk 5 [0, 3, 4, 5, 6, 7] [(0, .slice a0' code_0.length c0'), (3, .slice a17 x15.1.length c18), (4, .string (bs x15.2.1)), (5, .int .i64 x15.2.2), (6, .slice a29 x27.1.length c30), (7, .int .i64 x27.2)] (by kernel_rfl) ?_
  refine WL.nil ?_
  refine WQ.then_normal (hK26 _ _ _ ?_)
  refine WP.seq (fun K38 hK38 => ?_)
  refine WP.region ?_
  refine WL.runk 3 [0, 3, 4, 5, 6, 7, 62, 63, 64] [(0, .slice a0' code_0.length c0'), (3, .slice a17 x15.1.length c18), (4, .string (bs x15.2.1)), (5, .int .i64 x15.2.2), (6, .slice a29 x27.1.length c30), (7, .int .i64 x27.2), (62, .slice a17 x15.1.length c18), (63, .string (bs x15.2.1)), (64, .int .i64 x15.2.2)] (by kernel_rfl) ?_
  obtain ⟨x39, hx40, hm⟩ := bindE hm
  refine WL.call 26 #[.slice a17 x15.1.length c18, .string (bs x15.2.1), .int .i64 x15.2.2] rfl rfl (by kernel_rfl) (c_26 n x15.1 a17 c18 x15.2.1 x15.2.2 w32 hx40 (SH.rd (SH.front 1 hS37)) (SH.le (SH.front 1 hS37)).1) ?_
  rintro _ w44 ⟨a41, c42, rfl, hE45, hR46⟩
  refine ⟨_, rfl, ?_⟩
  have hb47 : Ext w w44 := Ext.trans hb35 hE45
  have hL48 : w.heap.size ≤ w44.heap.size := Nat.le_trans hL36 hE45.size
  have hS49 : SH w44 w.heap.size [aOwn fGood 56 a41 c42 x39.1, aOwn fGood 56 a29 c30 x27.1, aOwn fGood 56 a17 c18 x15.1] := SH.add hS37 hE45 hL36 hR46
  refine WL.runk 5 [0, 3, 4, 5, 6, 7, 8, 9] [(0, .slice a0' code_0.length c0'), (3, .slice a17 x15.1.length c18), (4, .string (bs x15.2.1)), (5, .int .i64 x15.2.2), (6, .slice a29 x27.1.length c30), (7, .int .i64 x27.2), (8, .slice a41 x39.1.length c42), (9, .int .i64 x39.2)] (by kernel_rfl) ?_
  refine WL.nil ?_
  refine WQ.then_normal (hK38 _ _ _ ?_)
  refine WP.seq (fun K50 hK50 => ?_)
  refine WP.region ?_
  refine WL.runk 1 [0, 3, 4, 5, 6, 7, 8, 9, 69] [(0, .slice a0' code_0.length c0'), (3, .slice a17 x15.1.length c18), (4, .string (bs x15.2.1)), (5, .int .i64 x15.2.2), (6, .slice a29 x27.1.length c30), (7, .int .i64 x27.2), (8, .slice a41 x39.1.length c42), (9, .int .i64 x39.2), (69, .slice a0' code_0.length c0')] (by kernel_rfl) ?_
  obtain ⟨x51, hx52, hm⟩ := bindE hm
  refine WL.call 47 #[.slice a0' code_0.length c0'] rfl rfl (by kernel_rfl) (c_47 n code_0 a0' c0' w44 hx52 (Rd.below h0 hb47) hle0) ?_
  rintro _ w56 ⟨a53, c54, rfl, hE57, hR58⟩
  refine ⟨_, rfl, ?_⟩
  have hb59 : Ext w w56 := Ext.trans hb47 hE57
  have hL60 : w.heap.size ≤ w56.heap.size := Nat.le_trans hL48 hE57.size
  have hS61 : SH w56 w.heap.size [aOwn fGood 56 a53 c54 x51.1, aOwn fGood 56 a41 c42 x39.1, aOwn fGood 56 a29 c30 x27.1, aOwn fGood 56 a17 c18 x15.1] := SH.add hS49 hE57 hL48 hR58
  refine WL.runk 7 [0, 3, 4, 5, 6, 7, 8, 9, 10, 11, 12] [(0, .slice a0' code_0.length c0'), (3, .slice a17 x15.1.length c18), (4, .string (bs x15.2.1)), (5, .int .i64 x15.2.2), (6, .slice a29 x27.1.length c30), (7, .int .i64 x27.2), (8, .slice a41 x39.1.length c42), (9, .int .i64 x39.2), (10, .slice a53 x51.1.length c54), (11, .string (bs x51.2.1)), (12, .int .i64 x51.2.2)] (by kernel_rfl) ?_
  refine WL.nil ?_
  refine WQ.then_normal (hK50 _ _ _ ?_)
  refine WP.seq (fun K62 hK62 => ?_)
  refine WP.region ?_
  refine WL.runk 3 [0, 3, 4, 5, 6, 7, 8, 9, 10, 11, 12, 75, 76, 77] [(0, .slice a0' code_0.length c0'), (3, .slice a17 x15.1.length c18), (4, .string (bs x15.2.1)), (5, .int .i64 x15.2.2), (6, .slice a29 x27.1.length c30), (7, .int .i64 x27.2), (8, .slice a41 x39.1.length c42), (9, .int .i64 x39.2), (10, .slice a53 x51.1.length c54), (11, .string (bs x51.2.1)), (12, .int .i64 x51.2.2), (75, .slice a53 x51.1.length c54), (76, .string (bs x51.2.1)), (77, .int .i64 x51.2.2)] (by kernel_rfl) ?_
  obtain ⟨x63, hx64, hm⟩ := bindE hm
  refine WL.call 30 #[.slice a53 x51.1.length c54, .string (bs x51.2.1), .int .i64 x51.2.2] rfl rfl (by kernel_rfl) (c_30 n x51.1 a53 c54 x51.2.1 x51.2.2 w56 hx64 (SH.rd (SH.front 0 hS61)) (SH.le (SH.front 0 hS61)).1) ?_
  rintro _ w68 ⟨a65, c66, rfl, hE69, hR70⟩
  refine ⟨_, rfl, ?_⟩
  have hb71 : Ext w w68 := Ext.trans hb59 hE69
  have hL72 : w.heap.size ≤ w68.heap.size := Nat.le_trans hL60 hE69.size
  have hS73 : SH w68 w.heap.size [aOwn fGood 56 a65 c66 x63.1, aOwn fGood 56 a53 c54 x51.1, aOwn fGood 56 a41 c42 x39.1, aOwn fGood 56 a29 c30 x27.1, aOwn fGood 56 a17 c18 x15.1] := SH.add hS61 hE69 hL60 hR70
  refine WL.runk 5 [0, 3, 4, 5, 6, 7, 8, 9, 10, 11, 12, 13, 14] [(0, .slice a0' code_0.length c0'), (3, .slice a17 x15.1.length c18), (4, .string (bs x15.2.1)), (5, .int .i64 x15.2.2), (6, .slice a29 x27.1.length c30), (7, .int .i64 x27.2), (8, .slice a41 x39.1.length c42), (9, .int .i64 x39.2), (10, .slice a53 x51.1.length c54), (11, .string (bs x51.2.1)), (12, .int .i64 x51.2.2), (13, .slice a65 x63.1.length c66), (14, .int .i64 x63.2)] (by kernel_rfl) ?_
  refine WL.nil ?_
  refine WQ.then_normal (hK62 _ _ _ ?_)
  refine WP.seq (fun K74 hK74 => ?_)
  refine WP.region ?_
  refine WL.runk 3 [0, 3, 4, 5, 6, 7, 8, 9, 13, 14, 82, 83, 84] [(0, .slice a0' code_0.length c0'), (3, .slice a17 x15.1.length c18), (4, .string (bs x15.2.1)), (5, .int .i64 x15.2.2), (6, .slice a29 x27.1.length c30), (7, .int .i64 x27.2), (8, .slice a41 x39.1.length c42), (9, .int .i64 x39.2), (13, .slice a65 x63.1.length c66), (14, .int .i64 x63.2), (82, .slice a53 x51.1.length c54), (83, .string (bs x51.2.1)), (84, .int .i64 x51.2.2)] (by kernel_rfl) ?_
  obtain ⟨x75, hx76, hm⟩ := bindE hm
  refine WL.call 29 #[.slice a53 x51.1.length c54, .string (bs x51.2.1), .int .i64 x51.2.2] rfl rfl (by kernel_rfl) (c_29 n x51.1 a53 c54 x51.2.1 x51.2.2 w68 hx76 (SH.rd (SH.front 1 hS73)) (SH.le (SH.front 1 hS73)).1) ?_
  rintro _ w80 ⟨a77, c78, rfl, hE81, hR82⟩
  refine ⟨_, rfl, ?_⟩
  have hb83 : Ext w w80 := Ext.trans hb71 hE81
  have hL84 : w.heap.size ≤ w80.heap.size := Nat.le_trans hL72 hE81.size
  have hS85 : SH w80 w.heap.size [aOwn fGood 56 a77 c78 x75.1, aOwn fGood 56 a65 c66 x63.1, aOwn fGood 56 a53 c54 x51.1, aOwn fGood 56 a41 c42 x39.1, aOwn fGood 56 a29 c30 x27.1, aOwn fGood 56 a17 c18 x15.1] := SH.add hS73 hE81 hL72 hR82
  refine WL.runk 5 [0, 3, 4, 5, 6, 7, 8, 9, 13, 14, 15, 16] [(0, .slice a0' code_0.length c0'), (3, .slice a17 x15.1.length c18), (4, .string (bs x15.2.1)), (5, .int .i64 x15.2.2), (6, .slice a29 x27.1.length c30), (7, .int .i64 x27.2), (8, .slice a41 x39.1.length c42), (9, .int .i64 x39.2), (13, .slice a65 x63.1.length c66), (14, .int .i64 x63.2), (15, .slice a77 x75.1.length c78), (16, .int .i64 x75.2)] (by kernel_rfl) ?_
  refine WL.nil ?_
  refine WQ.then_normal (hK74 _ _ _ ?_)
  refine WP.seq (fun K86 hK86 => ?_)
  refine WP.region ?_
  refine WL.runk 1 [0, 3, 4, 5, 6, 7, 8, 9, 13, 14, 15, 16, 88] [(0, .slice a0' code_0.length c0'), (3, .slice a17 x15.1.length c18), (4, .string (bs x15.2.1)), (5, .int .i64 x15.2.2), (6, .slice a29 x27.1.length c30), (7, .int .i64 x27.2), (8, .slice a41 x39.1.length c42), (9, .int .i64 x39.2), (13, .slice a65 x63.1.length c66), (14, .int .i64 x63.2), (15, .slice a77 x75.1.length c78), (16, .int .i64 x75.2), (88, .slice a0' code_0.length c0')] (by kernel_rfl) ?_
  obtain ⟨x87, hx88, hm⟩ := bindE hm
  refine WL.call 48 #[.slice a0' code_0.length c0'] rfl rfl (by kernel_rfl) (c_48 n code_0 a0' c0' w80 hx88 (Rd.below h0 hb83) hle0) ?_
  rintro _ w92 ⟨a89, c90, rfl, hE93, hR94⟩
  refine ⟨_, rfl, ?_⟩
  have hb95 : Ext w w92 := Ext.trans hb83 hE93
  have hL96 : w.heap.size ≤ w92.heap.size := Nat.le_trans hL84 hE93.size
  have hS97 : SH w92 w.heap.size [aOwn fGood 56 a89 c90 x87, aOwn fGood 56 a77 c78 x75.1, aOwn fGood 56 a65 c66 x63.1, aOwn fGood 56 a53 c54 x51.1, aOwn fGood 56 a41 c42 x39.1, aOwn fGood 56 a29 c30 x27.1, aOwn fGood 56 a17 c18 x15.1] := SH.add hS85 hE93 hL84 hR94
  refine WL.runk 1 [0, 3, 4, 5, 6, 7, 8, 9, 13, 14, 15, 16, 17] [(0, .slice a0' code_0.length c0'), (3, .slice a17 x15.1.length c18), (4, .string (bs x15.2.1)), (5, .int .i64 x15.2.2), (6, .slice a29 x27.1.length c30), (7, .int .i64 x27.2), (8, .slice a41 x39.1.length c42), (9, .int .i64 x39.2), (13, .slice a65 x63.1.length c66), (14, .int .i64 x63.2), (15, .slice a77 x75.1.length c78), (16, .int .i64 x75.2), (17, .slice a89 x87.length c90)] (by kernel_rfl) ?_
  refine WL.nil ?_
  refine WQ.then_normal (hK86 _ _ _ ?_)
  refine WP.seq (fun K98 hK98 => ?_)
  refine WP.region ?_
  refine WL.runk 1 [0, 3, 4, 5, 6, 7, 8, 9, 13, 14, 15, 16, 17, 91] [(0, .slice a0' code_0.length c0'), (3, .slice a17 x15.1.length c18), (4, .string (bs x15.2.1)), (5, .int .i64 x15.2.2), (6, .slice a29 x27.1.length c30), (7, .int .i64 x27.2), (8, .slice a41 x39.1.length c42), (9, .int .i64 x39.2), (13, .slice a65 x63.1.length c66), (14, .int .i64 x63.2), (15, .slice a77 x75.1.length c78), (16, .int .i64 x75.2), (17, .slice a89 x87.length c90), (91, .slice a89 x87.length c90)] (by kernel_rfl) ?_
  obtain ⟨x99, hx100, hm⟩ := bindE hm
  refine WL.call 21 #[.slice a89 x87.length c90] rfl rfl (by kernel_rfl) (c_21 n x87 a89 c90 w92 hx100 (SH.rd (SH.front 0 hS97)) (SH.le (SH.front 0 hS97)).1) ?_
  rintro _ w104 ⟨a101, c102, rfl, hE105, hR106⟩
  refine ⟨_, rfl, ?_⟩
  have hb107 : Ext w w104 := Ext.trans hb95 hE105
  have hL108 : w.heap.size ≤ w104.heap.size := Nat.le_trans hL96 hE105.size
  have hS109 : SH w104 w.heap.size [aOwn fTake 43 a101 c102 x99.1, aOwn fGood 56 a89 c90 x87, aOwn fGood 56 a77 c78 x75.1, aOwn fGood 56 a65 c66 x63.1, aOwn fGood 56 a53 c54 x51.1, aOwn fGood 56 a41 c42 x39.1, aOwn fGood 56 a29 c30 x27.1, aOwn fGood 56 a17 c18 x15.1] := SH.add hS97 hE105 hL96 hR106
  refine WL.runk 5 [0, 3, 4, 5, 6, 7, 8, 9, 13, 14, 15, 16, 17, 18, 19] [(0, .slice a0' code_0.length c0'), (3, .slice a17 x15.1.length c18), (4, .string (bs x15.2.1)), (5, .int .i64 x15.2.2), (6, .slice a29 x27.1.length c30), (7, .int .i64 x27.2), (8, .slice a41 x39.1.length c42), (9, .int .i64 x39.2), (13, .slice a65 x63.1.length c66), (14, .int .i64 x63.2), (15, .slice a77 x75.1.length c78), (16, .int .i64 x75.2), (17, .slice a89 x87.length c90), (18, .slice a101 x99.1.length c102), (19, .int .i64 x99.2)] (by kernel_rfl) ?_
  refine WL.nil ?_
  refine WQ.then_normal (hK98 _ _ _ ?_)
  refine WP.seq (fun K110 hK110 => ?_)
  refine WP.region ?_
  refine WL.runk 1 [0, 3, 4, 5, 6, 7, 8, 9, 13, 14, 15, 16, 17, 18, 19, 96] [(0, .slice a0' code_0.length c0'), (3, .slice a17 x15.1.length c18), (4, .string (bs x15.2.1)), (5, .int .i64 x15.2.2), (6, .slice a29 x27.1.length c30), (7, .int .i64 x27.2), (8, .slice a41 x39.1.length c42), (9, .int .i64 x39.2), (13, .slice a65 x63.1.length c66), (14, .int .i64 x63.2), (15, .slice a77 x75.1.length c78), (16, .int .i64 x75.2), (17, .slice a89 x87.length c90), (18, .slice a101 x99.1.length c102), (19, .int .i64 x99.2), (96, .slice a89 x87.length c90)] (by kernel_rfl) ?_
  obtain ⟨x111, hx112, hm⟩ := bindE hm
  refine WL.call 20 #[.slice a89 x87.length c90] rfl rfl (by kernel_rfl) (c_20 n x87 a89 c90 w104 hx112 (SH.rd (SH.front 1 hS109)) (SH.le (SH.front 1 hS109)).1) ?_
  rintro _ w116 ⟨a113, c114, rfl, hE117, hR118⟩
  refine ⟨_, rfl, ?_⟩
  have hb119 : Ext w w116 := Ext.trans hb107 hE117
  have hL120 : w.heap.size ≤ w116.heap.size := Nat.le_trans hL108 hE117.size
  have hS121 : SH w116 w.heap.size [aOwn fTake 43 a113 c114 x111.1, aOwn fTake 43 a101 c102 x99.1, aOwn fGood 56 a89 c90 x87, aOwn fGood 56 a77 c78 x75.1, aOwn fGood 56 a65 c66 x63.1, aOwn fGood 56 a53 c54 x51.1, aOwn fGood 56 a41 c42 x39.1, aOwn fGood 56 a29 c30 x27.1, aOwn fGood 56 a17 c18 x15.1] := SH.add hS109 hE117 hL108 hR118
  refine WL.runk 5 [0, 3, 4, 5, 6, 7, 8, 9, 13, 14, 15, 16, 17, 18, 19, 20, 21] [(0, .slice a0' code_0.length c0'), (3, .slice a17 x15.1.length c18), (4, .string (bs x15.2.1)), (5, .int .i64 x15.2.2), (6, .slice a29 x27.1.length c30), (7, .int .i64 x27.2), (8, .slice a41 x39.1.length c42), (9, .int .i64 x39.2), (13, .slice a65 x63.1.length c66), (14, .int .i64 x63.2), (15, .slice a77 x75.1.length c78), (16, .int .i64 x75.2), (17, .slice a89 x87.length c90), (18, .slice a101 x99.1.length c102), (19, .int .i64 x99.2), (20, .slice a113 x111.1.length c114), (21, .int .i64 x111.2)] (by kernel_rfl) ?_
  refine WL.nil ?_
  refine WQ.then_normal (hK110 _ _ _ ?_)
  refine WP.seq (fun K122 hK122 => ?_)
  refine WP.region ?_
  refine WL.runk 1 [3, 4, 5, 6, 7, 8, 9, 13, 14, 15, 16, 17, 18, 19, 20, 21, 101] [(3, .slice a17 x15.1.length c18), (4, .string (bs x15.2.1)), (5, .int .i64 x15.2.2), (6, .slice a29 x27.1.length c30), (7, .int .i64 x27.2), (8, .slice a41 x39.1.length c42), (9, .int .i64 x39.2), (13, .slice a65 x63.1.length c66), (14, .int .i64 x63.2), (15, .slice a77 x75.1.length c78), (16, .int .i64 x75.2), (17, .slice a89 x87.length c90), (18, .slice a101 x99.1.length c102), (19, .int .i64 x99.2), (20, .slice a113 x111.1.length c114), (21, .int .i64 x111.2), (101, .slice a0' code_0.length c0')] (by kernel_rfl) ?_
  obtain ⟨x123, hx124, hm⟩ := bindE hm
  refine WL.call 49 #[.slice a0' code_0.length c0'] rfl rfl (by kernel_rfl) (c_49 n code_0 a0' c0' w116 hx124 (Rd.below h0 hb119) hle0) ?_
  rintro _ w131 ⟨a125, c126, a128, c129, rfl, hE132, hR133⟩
  refine ⟨_, rfl, ?_⟩
  have hb134 : Ext w w131 := Ext.trans hb119 hE132
  have hL135 : w.heap.size ≤ w131.heap.size := Nat.le_trans hL120 hE132.size
  have hS136 : SH w131 w.heap.size [aOwn fGood 56 a125 c126 x123.1, aOwn fTake 43 a128 c129 x123.2, aOwn fTake 43 a113 c114 x111.1, aOwn fTake 43 a101 c102 x99.1, aOwn fGood 56 a89 c90 x87, aOwn fGood 56 a77 c78 x75.1, aOwn fGood 56 a65 c66 x63.1, aOwn fGood 56 a53 c54 x51.1, aOwn fGood 56 a41 c42 x39.1, aOwn fGood 56 a29 c30 x27.1, aOwn fGood 56 a17 c18 x15.1] := SH.add hS121 hE132 hL120 hR133
  refine WL.runk 5 [3, 4, 5, 6, 7, 8, 9, 13, 14, 15, 16, 17, 18, 19, 20, 21, 22, 23] [(3, .slice a17 x15.1.length c18), (4, .string (bs x15.2.1)), (5, .int .i64 x15.2.2), (6, .slice a29 x27.1.length c30), (7, .int .i64 x27.2), (8, .slice a41 x39.1.length c42), (9, .int .i64 x39.2), (13, .slice a65 x63.1.length c66), (14, .int .i64 x63.2), (15, .slice a77 x75.1.length c78), (16, .int .i64 x75.2), (17, .slice a89 x87.length c90), (18, .slice a101 x99.1.length c102), (19, .int .i64 x99.2), (20, .slice a113 x111.1.length c114), (21, .int .i64 x111.2), (22, .slice a125 x123.1.length c126), (23, .slice a128 x123.2.length c129)] (by kernel_rfl) ?_
  refine WL.nil ?_
  refine WQ.then_normal (hK122 _ _ _ ?_)
  refine WP.seq (fun K137 hK137 => ?_)
  refine WP.region ?_
  refine WL.runk 2 [3, 4, 5, 6, 7, 8, 9, 13, 14, 15, 16, 17, 18, 19, 20, 21, 22, 23, 106, 107] [(3, .slice a17 x15.1.length c18), (4, .string (bs x15.2.1)), (5, .int .i64 x15.2.2), (6, .slice a29 x27.1.length c30), (7, .int .i64 x27.2), (8, .slice a41 x39.1.length c42), (9, .int .i64 x39.2), (13, .slice a65 x63.1.length c66), (14, .int .i64 x63.2), (15, .slice a77 x75.1.length c78), (16, .int .i64 x75.2), (17, .slice a89 x87.length c90), (18, .slice a101 x99.1.length c102), (19, .int .i64 x99.2), (20, .slice a113 x111.1.length c114), (21, .int .i64 x111.2), (22, .slice a125 x123.1.length c126), (23, .slice a128 x123.2.length c129), (106, .slice a125 x123.1.length c126), (107, .slice a128 x123.2.length c129)] (by kernel_rfl) ?_
  obtain ⟨x138, hx139, hm⟩ := bindE hm
  refine WL.call 38 #[.slice a125 x123.1.length c126, .slice a128 x123.2.length c129] rfl rfl (by kernel_rfl) (c_38 n x123.1 a125 c126 x123.2 a128 c129 w131 hx139 (SH.rd (SH.front 0 hS136)) (SH.le (SH.front 0 hS136)).1 (SH.rd (SH.front 1 hS136)) (SH.le (SH.front 1 hS136)).1) ?_
  rintro _ w140 ⟨rfl, hE141⟩
  refine ⟨_, rfl, ?_⟩
  have hb143 : Ext w w140 := Ext.trans hb134 hE141
  have hL144 : w.heap.size ≤ w140.heap.size := Nat.le_trans hL135 hE141.size
  have hS145 : SH w140 w.heap.size [aOwn fGood 56 a125 c126 x123.1, aOwn fTake 43 a128 c129 x123.2, aOwn fTake 43 a113 c114 x111.1, aOwn fTake 43 a101 c102 x99.1, aOwn fGood 56 a89 c90 x87, aOwn fGood 56 a77 c78 x75.1, aOwn fGood 56 a65 c66 x63.1, aOwn fGood 56 a53 c54 x51.1, aOwn fGood 56 a41 c42 x39.1, aOwn fGood 56 a29 c30 x27.1, aOwn fGood 56 a17 c18 x15.1] := SH.ext hS136 hE141
  refine WL.runk 5 [3, 4, 5, 6, 7, 8, 9, 13, 14, 15, 16, 17, 18, 19, 20, 21, 22, 23, 24, 25] [(3, .slice a17 x15.1.length c18), (4, .string (bs x15.2.1)), (5, .int .i64 x15.2.2), (6, .slice a29 x27.1.length c30), (7, .int .i64 x27.2), (8, .slice a41 x39.1.length c42), (9, .int .i64 x39.2), (13, .slice a65 x63.1.length c66), (14, .int .i64 x63.2), (15, .slice a77 x75.1.length c78), (16, .int .i64 x75.2), (17, .slice a89 x87.length c90), (18, .slice a101 x99.1.length c102), (19, .int .i64 x99.2), (20, .slice a113 x111.1.length c114), (21, .int .i64 x111.2), (22, .slice a125 x123.1.length c126), (23, .slice a128 x123.2.length c129), (24, .int .i64 x138.1), (25, .int .i64 x138.2)] (by kernel_rfl) ?_
  refine WL.nil ?_
  refine WQ.then_normal (hK137 _ _ _ ?_)
  refine WP.seq (fun K146 hK146 => ?_)
  refine WP.region ?_
  refine WL.runk 2 [3, 4, 5, 6, 7, 8, 9, 13, 14, 15, 16, 17, 18, 19, 20, 21, 22, 23, 24, 25, 112, 113] [(3, .slice a17 x15.1.length c18), (4, .string (bs x15.2.1)), (5, .int .i64 x15.2.2), (6, .slice a29 x27.1.length c30), (7, .int .i64 x27.2), (8, .slice a41 x39.1.length c42), (9, .int .i64 x39.2), (13, .slice a65 x63.1.length c66), (14, .int .i64 x63.2), (15, .slice a77 x75.1.length c78), (16, .int .i64 x75.2), (17, .slice a89 x87.length c90), (18, .slice a101 x99.1.length c102), (19, .int .i64 x99.2), (20, .slice a113 x111.1.length c114), (21, .int .i64 x111.2), (22, .slice a125 x123.1.length c126), (23, .slice a128 x123.2.length c129), (24, .int .i64 x138.1), (25, .int .i64 x138.2), (112, .slice a125 x123.1.length c126), (113, .slice a128 x123.2.length c129)] (by kernel_rfl) ?_
  obtain ⟨x147, hx148, hm⟩ := bindE hm
  refine WL.call 36 #[.slice a125 x123.1.length c126, .slice a128 x123.2.length c129] rfl rfl (by kernel_rfl) (c_36 n x123.1 a125 c126 x123.2 a128 c129 w140 hx148 (SH.rd (SH.front 0 hS145)) (SH.le (SH.front 0 hS145)).1 (SH.rd (SH.front 1 hS145)) (SH.le (SH.front 1 hS145)).1) ?_
  rintro _ w149 ⟨rfl, hE150⟩
  refine ⟨_, rfl, ?_⟩
  have hb152 : Ext w w149 := Ext.trans hb143 hE150
  have hL153 : w.heap.size ≤ w149.heap.size := Nat.le_trans hL144 hE150.size
  have hS154 : SH w149 w.heap.size [aOwn fGood 56 a125 c126 x123.1, aOwn fTake 43 a128 c129 x123.2, aOwn fTake 43 a113 c114 x111.1, aOwn fTake 43 a101 c102 x99.1, aOwn fGood 56 a89 c90 x87, aOwn fGood 56 a77 c78 x75.1, aOwn fGood 56 a65 c66 x63.1, aOwn fGood 56 a53 c54 x51.1, aOwn fGood 56 a41 c42 x39.1, aOwn fGood 56 a29 c30 x27.1, aOwn fGood 56 a17 c18 x15.1] := SH.ext hS145 hE150
  refine WL.runk 5 [3, 4, 5, 6, 7, 8, 9, 13, 14, 15, 16, 17, 18, 19, 20, 21, 22, 23, 24, 25, 26, 27] [(3, .slice a17 x15.1.length c18), (4, .string (bs x15.2.1)), (5, .int .i64 x15.2.2), (6, .slice a29 x27.1.length c30), (7, .int .i64 x27.2), (8, .slice a41 x39.1.length c42), (9, .int .i64 x39.2), (13, .slice a65 x63.1.length c66), (14, .int .i64 x63.2), (15, .slice a77 x75.1.length c78), (16, .int .i64 x75.2), (17, .slice a89 x87.length c90), (18, .slice a101 x99.1.length c102), (19, .int .i64 x99.2), (20, .slice a113 x111.1.length c114), (21, .int .i64 x111.2), (22, .slice a125 x123.1.length c126), (23, .slice a128 x123.2.length c129), (24, .int .i64 x138.1), (25, .int .i64 x138.2), (26, .int .i64 x147.1), (27, .int .i64 x147.2)] (by kernel_rfl) ?_
  refine WL.nil ?_
  refine WQ.then_normal (hK146 _ _ _ ?_)
  refine WP.seq (fun K155 hK155 => ?_)
  refine WP.seq (fun K156 hK156 => ?_)
  obtain ⟨x180, hx181, hm⟩ := bindE hm
  refine WP.cut (fun env' w' => env' = [(3, .slice a17 x15.1.length c18), (4, .string (bs x15.2.1)), (5, .int .i64 x15.2.2), (6, .slice a29 x27.1.length c30), (7, .int .i64 x27.2), (17, .slice a89 x87.length c90), (18, .slice a101 x99.1.length c102), (19, .int .i64 x99.2), (20, .slice a113 x111.1.length c114), (22, .slice a125 x123.1.length c126), (23, .slice a128 x123.2.length c129), (25, .int .i64 x138.2), (26, .int .i64 x147.1), (158, .bool x180)] ∧ Ext w w' ∧ w.heap.size ≤ w'.heap.size ∧ SH w' w.heap.size [aOwn fGood 56 a125 c126 x123.1, aOwn fTake 43 a128 c129 x123.2, aOwn fTake 43 a113 c114 x111.1, aOwn fTake 43 a101 c102 x99.1, aOwn fGood 56 a89 c90 x87, aOwn fGood 56 a29 c30 x27.1, aOwn fGood 56 a17 c18 x15.1]) ?_ ?_
  · have hm := hx181; clear hx181
    refine WP.region ?_
    refine WL.runk 4 [3, 4, 5, 6, 7, 8, 13, 14, 15, 16, 17, 18, 19, 20, 21, 22, 23, 24, 25, 26, 27, 120] [(3, .slice a17 x15.1.length c18), (4, .string (bs x15.2.1)), (5, .int .i64 x15.2.2), (6, .slice a29 x27.1.length c30), (7, .int .i64 x27.2), (8, .slice a41 x39.1.length c42), (13, .slice a65 x63.1.length c66), (14, .int .i64 x63.2), (15, .slice a77 x75.1.length c78), (16, .int .i64 x75.2), (17, .slice a89 x87.length c90), (18, .slice a101 x99.1.length c102), (19, .int .i64 x99.2), (20, .slice a113 x111.1.length c114), (21, .int .i64 x111.2), (22, .slice a125 x123.1.length c126), (23, .slice a128 x123.2.length c129), (24, .int .i64 x138.1), (25, .int .i64 x138.2), (26, .int .i64 x147.1), (27, .int .i64 x147.2), (120, .bool (x27.2 != x39.2))] (by kernel_rfl) ?_
    refine WL.case (x27.2 != x39.2) [120] ⟨rfl, trivial⟩ (fun hc182 => ?_) (fun hc182 => ?_)
    · have hm := iteT hm hc182
      refine WL.runk 38 [3, 4, 5, 6, 7, 17, 18, 19, 20, 22, 23, 25, 26, 158] [(3, .slice a17 x15.1.length c18), (4, .string (bs x15.2.1)), (5, .int .i64 x15.2.2), (6, .slice a29 x27.1.length c30), (7, .int .i64 x27.2), (17, .slice a89 x87.length c90), (18, .slice a101 x99.1.length c102), (19, .int .i64 x99.2), (20, .slice a113 x111.1.length c114), (22, .slice a125 x123.1.length c126), (23, .slice a128 x123.2.length c129), (25, .int .i64 x138.2), (26, .int .i64 x147.1), (158, .bool true)] (by kernel_rfl) ?_
      refine WL.nil ?_
      obtain rfl := Option.some.inj hm
      exact WQ.post' ⟨rfl, hb152, hL153, (SH.take 7 (SH.front 6 (SH.front 6 (SH.front 6 (SH.front 6 (SH.front 6 (SH.front 10 (SH.front 10 hS154))))))))⟩ ⟨rfl, rfl, rfl, rfl, rfl, rfl, rfl, rfl, rfl, rfl, rfl, rfl, rfl, rfl, trivial⟩
    have hm := iteF hm hc182
    refine WL.runk 2 [3, 4, 5, 6, 7, 13, 14, 15, 16, 17, 18, 19, 20, 21, 22, 23, 24, 25, 26, 27, 120, 121, 122] [(3, .slice a17 x15.1.length c18), (4, .string (bs x15.2.1)), (5, .int .i64 x15.2.2), (6, .slice a29 x27.1.length c30), (7, .int .i64 x27.2), (13, .slice a65 x63.1.length c66), (14, .int .i64 x63.2), (15, .slice a77 x75.1.length c78), (16, .int .i64 x75.2), (17, .slice a89 x87.length c90), (18, .slice a101 x99.1.length c102), (19, .int .i64 x99.2), (20, .slice a113 x111.1.length c114), (21, .int .i64 x111.2), (22, .slice a125 x123.1.length c126), (23, .slice a128 x123.2.length c129), (24, .int .i64 x138.1), (25, .int .i64 x138.2), (26, .int .i64 x147.1), (27, .int .i64 x147.2), (120, .bool false), (121, .slice a29 x27.1.length c30), (122, .slice a41 x39.1.length c42)] (by kernel_rfl) ?_
    obtain ⟨x183, hx184, hm⟩ := bindE hm
    refine WL.call 14 #[.slice a29 x27.1.length c30, .slice a41 x39.1.length c42] rfl rfl (by kernel_rfl) (c_14 n x27.1 a29 c30 x39.1 a41 c42 w149 hx184 (SH.rd (SH.front 9 hS154)) (SH.le (SH.front 9 hS154)).1 (SH.rd (SH.front 8 hS154)) (SH.le (SH.front 8 hS154)).1) ?_
    rintro _ w185 ⟨rfl, hE186⟩
    refine ⟨_, rfl, ?_⟩
    have hb188 : Ext w w185 := Ext.trans hb152 hE186
    have hL189 : w.heap.size ≤ w185.heap.size := Nat.le_trans hL153 hE186.size
    have hS190 : SH w185 w.heap.size [aOwn fGood 56 a125 c126 x123.1, aOwn fTake 43 a128 c129 x123.2, aOwn fTake 43 a113 c114 x111.1, aOwn fTake 43 a101 c102 x99.1, aOwn fGood 56 a89 c90 x87, aOwn fGood 56 a77 c78 x75.1, aOwn fGood 56 a65 c66 x63.1, aOwn fGood 56 a53 c54 x51.1, aOwn fGood 56 a41 c42 x39.1, aOwn fGood 56 a29 c30 x27.1, aOwn fGood 56 a17 c18 x15.1] := SH.ext hS154 hE186
    refine WL.runk 3 [3, 4, 5, 6, 7, 13, 14, 15, 16, 17, 18, 19, 20, 21, 22, 23, 24, 25, 26, 27, 126] [(3, .slice a17 x15.1.length c18), (4, .string (bs x15.2.1)), (5, .int .i64 x15.2.2), (6, .slice a29 x27.1.length c30), (7, .int .i64 x27.2), (13, .slice a65 x63.1.length c66), (14, .int .i64 x63.2), (15, .slice a77 x75.1.length c78), (16, .int .i64 x75.2), (17, .slice a89 x87.length c90), (18, .slice a101 x99.1.length c102), (19, .int .i64 x99.2), (20, .slice a113 x111.1.length c114), (21, .int .i64 x111.2), (22, .slice a125 x123.1.length c126), (23, .slice a128 x123.2.length c129), (24, .int .i64 x138.1), (25, .int .i64 x138.2), (26, .int .i64 x147.1), (27, .int .i64 x147.2), (126, .bool (!x183))] (by kernel_rfl) ?_
    refine WL.case (!x183) [126] ⟨rfl, trivial⟩ (fun hc191 => ?_) (fun hc191 => ?_)
    · have hm := iteT hm hc191
      refine WL.runk 32 [3, 4, 5, 6, 7, 17, 18, 19, 20, 22, 23, 25, 26, 158] [(3, .slice a17 x15.1.length c18), (4, .string (bs x15.2.1)), (5, .int .i64 x15.2.2), (6, .slice a29 x27.1.length c30), (7, .int .i64 x27.2), (17, .slice a89 x87.length c90), (18, .slice a101 x99.1.length c102), (19, .int .i64 x99.2), (20, .slice a113 x111.1.length c114), (22, .slice a125 x123.1.length c126), (23, .slice a128 x123.2.length c129), (25, .int .i64 x138.2), (26, .int .i64 x147.1), (158, .bool true)] (by kernel_rfl) ?_
      refine WL.nil ?_
      obtain rfl := Option.some.inj hm
      exact WQ.post' ⟨rfl, hb188, hL189, (SH.take 7 (SH.front 6 (SH.front 6 (SH.front 6 (SH.front 6 (SH.front 6 (SH.front 10 (SH.front 10 hS190))))))))⟩ ⟨rfl, rfl, rfl, rfl, rfl, rfl, rfl, rfl, rfl, rfl, rfl, rfl, rfl, rfl, trivial⟩
    have hm := iteF hm hc191
    refine WL.runk 5 [3, 4, 5, 6, 7, 13, 15, 17, 18, 19, 20, 21, 22, 23, 24, 25, 26, 27, 131] [(3, .slice a17 x15.1.length c18), (4, .string (bs x15.2.1)), (5, .int .i64 x15.2.2), (6, .slice a29 x27.1.length c30), (7, .int .i64 x27.2), (13, .slice a65 x63.1.length c66), (15, .slice a77 x75.1.length c78), (17, .slice a89 x87.length c90), (18, .slice a101 x99.1.length c102), (19, .int .i64 x99.2), (20, .slice a113 x111.1.length c114), (21, .int .i64 x111.2), (22, .slice a125 x123.1.length c126), (23, .slice a128 x123.2.length c129), (24, .int .i64 x138.1), (25, .int .i64 x138.2), (26, .int .i64 x147.1), (27, .int .i64 x147.2), (131, .bool (x63.2 != x75.2))] (by kernel_rfl) ?_
    refine WL.case (x63.2 != x75.2) [131] ⟨rfl, trivial⟩ (fun hc192 => ?_) (fun hc192 => ?_)
    · have hm := iteT hm hc192
      refine WL.runk 27 [3, 4, 5, 6, 7, 17, 18, 19, 20, 22, 23, 25, 26, 158] [(3, .slice a17 x15.1.length c18), (4, .string (bs x15.2.1)), (5, .int .i64 x15.2.2), (6, .slice a29 x27.1.length c30), (7, .int .i64 x27.2), (17, .slice a89 x87.length c90), (18, .slice a101 x99.1.length c102), (19, .int .i64 x99.2), (20, .slice a113 x111.1.length c114), (22, .slice a125 x123.1.length c126), (23, .slice a128 x123.2.length c129), (25, .int .i64 x138.2), (26, .int .i64 x147.1), (158, .bool true)] (by kernel_rfl) ?_
      refine WL.nil ?_
      obtain rfl := Option.some.inj hm
      exact WQ.post' ⟨rfl, hb188, hL189, (SH.take 7 (SH.front 6 (SH.front 6 (SH.front 6 (SH.front 6 (SH.front 6 (SH.front 10 (SH.front 10 hS190))))))))⟩ ⟨rfl, rfl, rfl, rfl, rfl, rfl, rfl, rfl, rfl, rfl, rfl, rfl, rfl, rfl, trivial⟩
    have hm := iteF hm hc192
    refine WL.runk 2 [3, 4, 5, 6, 7, 17, 18, 19, 20, 21, 22, 23, 24, 25, 26, 27, 131, 132, 133] [(3, .slice a17 x15.1.length c18), (4, .string (bs x15.2.1)), (5, .int .i64 x15.2.2), (6, .slice a29 x27.1.length c30), (7, .int .i64 x27.2), (17, .slice a89 x87.length c90), (18, .slice a101 x99.1.length c102), (19, .int .i64 x99.2), (20, .slice a113 x111.1.length c114), (21, .int .i64 x111.2), (22, .slice a125 x123.1.length c126), (23, .slice a128 x123.2.length c129), (24, .int .i64 x138.1), (25, .int .i64 x138.2), (26, .int .i64 x147.1), (27, .int .i64 x147.2), (131, .bool false), (132, .slice a65 x63.1.length c66), (133, .slice a77 x75.1.length c78)] (by kernel_rfl) ?_
    obtain ⟨x193, hx194, hm⟩ := bindE hm
    refine WL.call 14 #[.slice a65 x63.1.length c66, .slice a77 x75.1.length c78] rfl rfl (by kernel_rfl) (c_14 n x63.1 a65 c66 x75.1 a77 c78 w185 hx194 (SH.rd (SH.front 6 hS190)) (SH.le (SH.front 6 hS190)).1 (SH.rd (SH.front 5 hS190)) (SH.le (SH.front 5 hS190)).1) ?_
    rintro _ w195 ⟨rfl, hE196⟩
    refine ⟨_, rfl, ?_⟩
    have hb198 : Ext w w195 := Ext.trans hb188 hE196
    have hL199 : w.heap.size ≤ w195.heap.size := Nat.le_trans hL189 hE196.size
    have hS200 : SH w195 w.heap.size [aOwn fGood 56 a125 c126 x123.1, aOwn fTake 43 a128 c129 x123.2, aOwn fTake 43 a113 c114 x111.1, aOwn fTake 43 a101 c102 x99.1, aOwn fGood 56 a89 c90 x87, aOwn fGood 56 a77 c78 x75.1, aOwn fGood 56 a65 c66 x63.1, aOwn fGood 56 a53 c54 x51.1, aOwn fGood 56 a41 c42 x39.1, aOwn fGood 56 a29 c30 x27.1, aOwn fGood 56 a17 c18 x15.1] := SH.ext hS190 hE196
    refine WL.runk 3 [3, 4, 5, 6, 7, 17, 18, 19, 20, 21, 22, 23, 24, 25, 26, 27, 137] [(3, .slice a17 x15.1.length c18), (4, .string (bs x15.2.1)), (5, .int .i64 x15.2.2), (6, .slice a29 x27.1.length c30), (7, .int .i64 x27.2), (17, .slice a89 x87.length c90), (18, .slice a101 x99.1.length c102), (19, .int .i64 x99.2), (20, .slice a113 x111.1.length c114), (21, .int .i64 x111.2), (22, .slice a125 x123.1.length c126), (23, .slice a128 x123.2.length c129), (24, .int .i64 x138.1), (25, .int .i64 x138.2), (26, .int .i64 x147.1), (27, .int .i64 x147.2), (137, .bool (!x193))] (by kernel_rfl) ?_
    refine WL.case (!x193) [137] ⟨rfl, trivial⟩ (fun hc201 => ?_) (fun hc201 => ?_)
    · have hm := iteT hm hc201
      refine WL.runk 21 [3, 4, 5, 6, 7, 17, 18, 19, 20, 22, 23, 25, 26, 158] [(3, .slice a17 x15.1.length c18), (4, .string (bs x15.2.1)), (5, .int .i64 x15.2.2), (6, .slice a29 x27.1.length c30), (7, .int .i64 x27.2), (17, .slice a89 x87.length c90), (18, .slice a101 x99.1.length c102), (19, .int .i64 x99.2), (20, .slice a113 x111.1.length c114), (22, .slice a125 x123.1.length c126), (23, .slice a128 x123.2.length c129), (25, .int .i64 x138.2), (26, .int .i64 x147.1), (158, .bool true)] (by kernel_rfl) ?_
      refine WL.nil ?_
      obtain rfl := Option.some.inj hm
      exact WQ.post' ⟨rfl, hb198, hL199, (SH.take 7 (SH.front 6 (SH.front 6 (SH.front 6 (SH.front 6 (SH.front 6 (SH.front 10 (SH.front 10 hS200))))))))⟩ ⟨rfl, rfl, rfl, rfl, rfl, rfl, rfl, rfl, rfl, rfl, rfl, rfl, rfl, rfl, trivial⟩
    have hm := iteF hm hc201
    refine WL.runk 5 [3, 4, 5, 6, 7, 17, 18, 19, 20, 22, 23, 24, 25, 26, 27, 142] [(3, .slice a17 x15.1.length c18), (4, .string (bs x15.2.1)), (5, .int .i64 x15.2.2), (6, .slice a29 x27.1.length c30), (7, .int .i64 x27.2), (17, .slice a89 x87.length c90), (18, .slice a101 x99.1.length c102), (19, .int .i64 x99.2), (20, .slice a113 x111.1.length c114), (22, .slice a125 x123.1.length c126), (23, .slice a128 x123.2.length c129), (24, .int .i64 x138.1), (25, .int .i64 x138.2), (26, .int .i64 x147.1), (27, .int .i64 x147.2), (142, .bool (x99.2 != x111.2))] (by kernel_rfl) ?_
    refine WL.case (x99.2 != x111.2) [142] ⟨rfl, trivial⟩ (fun hc202 => ?_) (fun hc202 => ?_)
    · have hm := iteT hm hc202
      refine WL.runk 16 [3, 4, 5, 6, 7, 17, 18, 19, 20, 22, 23, 25, 26, 158] [(3, .slice a17 x15.1.length c18), (4, .string (bs x15.2.1)), (5, .int .i64 x15.2.2), (6, .slice a29 x27.1.length c30), (7, .int .i64 x27.2), (17, .slice a89 x87.length c90), (18, .slice a101 x99.1.length c102), (19, .int .i64 x99.2), (20, .slice a113 x111.1.length c114), (22, .slice a125 x123.1.length c126), (23, .slice a128 x123.2.length c129), (25, .int .i64 x138.2), (26, .int .i64 x147.1), (158, .bool true)] (by kernel_rfl) ?_
      refine WL.nil ?_
      obtain rfl := Option.some.inj hm
      exact WQ.post' ⟨rfl, hb198, hL199, (SH.take 7 (SH.front 6 (SH.front 6 (SH.front 6 (SH.front 6 (SH.front 6 (SH.front 10 (SH.front 10 hS200))))))))⟩ ⟨rfl, rfl, rfl, rfl, rfl, rfl, rfl, rfl, rfl, rfl, rfl, rfl, rfl, rfl, trivial⟩
    have hm := iteF hm hc202
    refine WL.runk 7 [3, 4, 5, 6, 7, 17, 18, 19, 20, 22, 23, 24, 25, 26, 27, 149] [(3, .slice a17 x15.1.length c18), (4, .string (bs x15.2.1)), (5, .int .i64 x15.2.2), (6, .slice a29 x27.1.length c30), (7, .int .i64 x27.2), (17, .slice a89 x87.length c90), (18, .slice a101 x99.1.length c102), (19, .int .i64 x99.2), (20, .slice a113 x111.1.length c114), (22, .slice a125 x123.1.length c126), (23, .slice a128 x123.2.length c129), (24, .int .i64 x138.1), (25, .int .i64 x138.2), (26, .int .i64 x147.1), (27, .int .i64 x147.2), (149, .bool ((x99.1.length : Int) != (x111.1.length : Int)))] (by kernel_rfl) ?_
    refine WL.case ((x99.1.length : Int) != (x111.1.length : Int)) [149] ⟨rfl, trivial⟩ (fun hc203 => ?_) (fun hc203 => ?_)
    · have hm := iteT hm hc203
      refine WL.runk 9 [3, 4, 5, 6, 7, 17, 18, 19, 20, 22, 23, 25, 26, 158] [(3, .slice a17 x15.1.length c18), (4, .string (bs x15.2.1)), (5, .int .i64 x15.2.2), (6, .slice a29 x27.1.length c30), (7, .int .i64 x27.2), (17, .slice a89 x87.length c90), (18, .slice a101 x99.1.length c102), (19, .int .i64 x99.2), (20, .slice a113 x111.1.length c114), (22, .slice a125 x123.1.length c126), (23, .slice a128 x123.2.length c129), (25, .int .i64 x138.2), (26, .int .i64 x147.1), (158, .bool true)] (by kernel_rfl) ?_
      refine WL.nil ?_
      obtain rfl := Option.some.inj hm
      exact WQ.post' ⟨rfl, hb198, hL199, (SH.take 7 (SH.front 6 (SH.front 6 (SH.front 6 (SH.front 6 (SH.front 6 (SH.front 10 (SH.front 10 hS200))))))))⟩ ⟨rfl, rfl, rfl, rfl, rfl, rfl, rfl, rfl, rfl, rfl, rfl, rfl, rfl, rfl, trivial⟩
    have hm := iteF hm hc203
    refine WL.runk 5 [3, 4, 5, 6, 7, 17, 18, 19, 20, 22, 23, 24, 25, 26, 154] [(3, .slice a17 x15.1.length c18), (4, .string (bs x15.2.1)), (5, .int .i64 x15.2.2), (6, .slice a29 x27.1.length c30), (7, .int .i64 x27.2), (17, .slice a89 x87.length c90), (18, .slice a101 x99.1.length c102), (19, .int .i64 x99.2), (20, .slice a113 x111.1.length c114), (22, .slice a125 x123.1.length c126), (23, .slice a128 x123.2.length c129), (24, .int .i64 x138.1), (25, .int .i64 x138.2), (26, .int .i64 x147.1), (154, .bool (x138.2 != x147.2))] (by kernel_rfl) ?_
    refine WL.case (x138.2 != x147.2) [154] ⟨rfl, trivial⟩ (fun hc204 => ?_) (fun hc204 => ?_)
    · have hm := iteT hm hc204
      refine WL.runk 4 [3, 4, 5, 6, 7, 17, 18, 19, 20, 22, 23, 25, 26, 158] [(3, .slice a17 x15.1.length c18), (4, .string (bs x15.2.1)), (5, .int .i64 x15.2.2), (6, .slice a29 x27.1.length c30), (7, .int .i64 x27.2), (17, .slice a89 x87.length c90), (18, .slice a101 x99.1.length c102), (19, .int .i64 x99.2), (20, .slice a113 x111.1.length c114), (22, .slice a125 x123.1.length c126), (23, .slice a128 x123.2.length c129), (25, .int .i64 x138.2), (26, .int .i64 x147.1), (158, .bool true)] (by kernel_rfl) ?_
      refine WL.nil ?_
      obtain rfl := Option.some.inj hm
      exact WQ.post' ⟨rfl, hb198, hL199, (SH.take 7 (SH.front 6 (SH.front 6 (SH.front 6 (SH.front 6 (SH.front 6 (SH.front 10 (SH.front 10 hS200))))))))⟩ ⟨rfl, rfl, rfl, rfl, rfl, rfl, rfl, rfl, rfl, rfl, rfl, rfl, rfl, rfl, trivial⟩
    have hm := iteF hm hc204
    refine WL.runk 4 [3, 4, 5, 6, 7, 17, 18, 19, 20, 22, 23, 25, 26, 158] [(3, .slice a17 x15.1.length c18), (4, .string (bs x15.2.1)), (5, .int .i64 x15.2.2), (6, .slice a29 x27.1.length c30), (7, .int .i64 x27.2), (17, .slice a89 x87.length c90), (18, .slice a101 x99.1.length c102), (19, .int .i64 x99.2), (20, .slice a113 x111.1.length c114), (22, .slice a125 x123.1.length c126), (23, .slice a128 x123.2.length c129), (25, .int .i64 x138.2), (26, .int .i64 x147.1), (158, .bool (x138.1 != x147.1))] (by kernel_rfl) ?_
    refine WL.nil ?_
    obtain rfl := Option.some.inj hm
    exact WQ.post' ⟨rfl, hb198, hL199, (SH.take 7 (SH.front 6 (SH.front 6 (SH.front 6 (SH.front 6 (SH.front 6 (SH.front 10 (SH.front 10 hS200))))))))⟩ ⟨rfl, rfl, rfl, rfl, rfl, rfl, rfl, rfl, rfl, rfl, rfl, rfl, rfl, rfl, trivial⟩
  clear hx181
  rintro _ w205 ⟨rfl, hb206, hL207, hS208⟩
  refine WQ.then_normal (hK156 _ _ _ ?_)
  refine WP.cond x180 rfl rfl (fun hc209 => ?_) (fun hc209 => ?_)
  · have hm := iteT hm hc209
    refine WP.seq (fun K210 hK210 => ?_)
    refine WP.region ?_
    refine WL.runk 1 [2] [(2, .bool false)] (by kernel_rfl) ?_
    refine WL.nil ?_
    refine WQ.then_normal (hK210 _ _ _ ?_)
    refine WP.ret ?_
    refine WQ.then_ret ?_
    obtain rfl := Option.some.inj hm
    exact WQ.ret1 _ rfl rfl ⟨rfl, hb206⟩
  have hm := iteF hm hc209
  refine WP.skip ?_
  refine WQ.then_normal (hK155 _ _ _ ?_)
  refine WP.seq (fun K211 hK211 => ?_)
  refine WP.seq (fun K212 hK212 => ?_)
  refine WP.region ?_
  refine WL.runk 1 [3, 4, 5, 6, 7, 17, 18, 19, 20, 22, 23, 25, 26, 28] [(3, .slice a17 x15.1.length c18), (4, .string (bs x15.2.1)), (5, .int .i64 x15.2.2), (6, .slice a29 x27.1.length c30), (7, .int .i64 x27.2), (17, .slice a89 x87.length c90), (18, .slice a101 x99.1.length c102), (19, .int .i64 x99.2), (20, .slice a113 x111.1.length c114), (22, .slice a125 x123.1.length c126), (23, .slice a128 x123.2.length c129), (25, .int .i64 x138.2), (26, .int .i64 x147.1), (28, .int .i64 0)] (by kernel_rfl) ?_
  refine WL.nil ?_
  refine WQ.then_normal (hK212 _ _ _ ?_)
  refine WP.block ?_
  obtain ⟨t224, ht225, hm⟩ := bindE hm
  have hmo219 := hm; clear hm
  refine WP.sub [(3, .slice a17 x15.1.length c18), (4, .string (bs x15.2.1)), (5, .int .i64 x15.2.2), (6, .slice a29 x27.1.length c30), (7, .int .i64 x27.2), (17, .slice a89 x87.length c90), (18, .slice a101 x99.1.length c102), (19, .int .i64 x99.2), (20, .slice a113 x111.1.length c114), (22, .slice a125 x123.1.length c126), (23, .slice a128 x123.2.length c129), (25, .int .i64 x138.2), (26, .int .i64 x147.1), (28, .int .i64 0)] ⟨rfl, rfl, rfl, rfl, rfl, rfl, rfl, rfl, rfl, rfl, rfl, rfl, rfl, rfl, trivial⟩ ?_
  refine WP.loop (fun n' env' w' => ∃ (st213 : Int) , env' = [(3, .slice a17 x15.1.length c18), (4, .string (bs x15.2.1)), (5, .int .i64 x15.2.2), (6, .slice a29 x27.1.length c30), (7, .int .i64 x27.2), (17, .slice a89 x87.length c90), (18, .slice a101 x99.1.length c102), (19, .int .i64 x99.2), (20, .slice a113 x111.1.length c114), (22, .slice a125 x123.1.length c126), (23, .slice a128 x123.2.length c129), (25, .int .i64 x138.2), (26, .int .i64 x147.1), (28, .int .i64 st213)] ∧ Ext w w' ∧ w.heap.size ≤ w'.heap.size ∧ SH w' w.heap.size [aOwn fGood 56 a125 c126 x123.1, aOwn fTake 43 a128 c129 x123.2, aOwn fTake 43 a113 c114 x111.1, aOwn fTake 43 a101 c102 x99.1, aOwn fGood 56 a89 c90 x87, aOwn fGood 56 a29 c30 x27.1, aOwn fGood 56 a17 c18 x15.1] ∧ loopN (m_laws_FnReserves_l1 n x99 x111) n' st213 = some t224) n ⟨0, rfl, hb206, hL207, hS208, ht225⟩ ?_
  rintro n221 _ w214 ⟨st213, rfl, hb215, hL216, hS217, hl218⟩ K220 hK220
  obtain ⟨n222, s223, rfl, hm, hl218⟩ := loopN_some hl218
  unfold m_laws_FnReserves_l1 at hm
  refine WP.seq (fun K226 hK226 => ?_)
  refine WP.seq (fun K227 hK227 => ?_)
  refine WP.region ?_
  refine WL.runk 4 [3, 4, 5, 6, 7, 17, 18, 19, 20, 22, 23, 25, 26, 28, 162] [(3, .slice a17 x15.1.length c18), (4, .string (bs x15.2.1)), (5, .int .i64 x15.2.2), (6, .slice a29 x27.1.length c30), (7, .int .i64 x27.2), (17, .slice a89 x87.length c90), (18, .slice a101 x99.1.length c102), (19, .int .i64 x99.2), (20, .slice a113 x111.1.length c114), (22, .slice a125 x123.1.length c126), (23, .slice a128 x123.2.length c129), (25, .int .i64 x138.2), (26, .int .i64 x147.1), (28, .int .i64 st213), (162, .bool (decide (st213 < (x111.1.length : Int))))] (by kernel_rfl) ?_
  refine WL.nil ?_
  refine WQ.then_normal (hK227 _ _ _ ?_)
  refine WP.cond (decide (st213 < (x111.1.length : Int))) rfl rfl (fun hc228 => ?_) (fun hc228 => ?_)
  · have hm := iteT hm hc228
    refine WP.skip ?_
    refine WQ.then_normal (hK226 _ _ _ ?_)
    refine WP.seq (fun K229 hK229 => ?_)
    refine WP.block ?_
    refine WP.seq (fun K230 hK230 => ?_)
    obtain ⟨x248, hx249, hm⟩ := bindE hm
    refine WP.cut (fun env' w' => env' = [(3, .slice a17 x15.1.length c18), (4, .string (bs x15.2.1)), (5, .int .i64 x15.2.2), (6, .slice a29 x27.1.length c30), (7, .int .i64 x27.2), (17, .slice a89 x87.length c90), (18, .slice a101 x99.1.length c102), (19, .int .i64 x99.2), (20, .slice a113 x111.1.length c114), (22, .slice a125 x123.1.length c126), (23, .slice a128 x123.2.length c129), (25, .int .i64 x138.2), (26, .int .i64 x147.1), (28, .int .i64 st213), (181, .bool x248)] ∧ Ext w w' ∧ w.heap.size ≤ w'.heap.size ∧ SH w' w.heap.size [aOwn fGood 56 a125 c126 x123.1, aOwn fTake 43 a128 c129 x123.2, aOwn fTake 43 a113 c114 x111.1, aOwn fTake 43 a101 c102 x99.1, aOwn fGood 56 a89 c90 x87, aOwn fGood 56 a29 c30 x27.1, aOwn fGood 56 a17 c18 x15.1]) ?_ ?_
    rotate_left
    · clear hx249
      rintro _ w267 ⟨rfl, hb268, hL269, hS270⟩
      refine WQ.then_normal (hK230 _ _ _ ?_)
      refine WP.cond x248 rfl rfl (fun hc271 => ?_) (fun hc271 => ?_)
      rotate_left
      · have hm := iteF hm hc271
        refine WP.skip ?_
        refine WQ.block_normal ?_
        refine WQ.then_normal (hK229 _ _ _ ?_)
        refine WP.region ?_
        refine WL.runk 3 [3, 4, 5, 6, 7, 17, 18, 19, 20, 22, 23, 25, 26, 28] [(3, .slice a17 x15.1.length c18), (4, .string (bs x15.2.1)), (5, .int .i64 x15.2.2), (6, .slice a29 x27.1.length c30), (7, .int .i64 x27.2), (17, .slice a89 x87.length c90), (18, .slice a101 x99.1.length c102), (19, .int .i64 x99.2), (20, .slice a113 x111.1.length c114), (22, .slice a125 x123.1.length c126), (23, .slice a128 x123.2.length c129), (25, .int .i64 x138.2), (26, .int .i64 x147.1), (28, .int .i64 (wI64 (st213 + 1)))] (by kernel_rfl) ?_
        refine WL.nil ?_
        obtain rfl := Option.some.inj hm
        exact WQ.round hK220 ⟨(wI64 (st213 + 1)), rfl, hb268, hL269, hS270, hl218⟩ (Nat.lt_succ_self _) ⟨rfl, rfl, rfl, rfl, rfl, rfl, rfl, rfl, rfl, rfl, rfl, rfl, rfl, rfl, trivial⟩
      have hm := iteT hm hc271
      refine WP.seq (fun K272 hK272 => ?_)
      refine WP.region ?_
      refine WL.runk 1 [2] [(2, .bool false)] (by kernel_rfl) ?_
      refine WL.nil ?_
      refine WQ.then_normal (hK272 _ _ _ ?_)
      refine WP.ret ?_
      refine WQ.block_ret ?_
      refine WQ.then_ret ?_
      refine WQ.then_ret ?_
      refine WQ.block_ret ?_
      refine WQ.then_ret ?_
      obtain rfl := Option.some.inj hm
      obtain rfl := afterN_done hl218
      have hm := hmo219
      obtain rfl := Option.some.inj hm
      exact WQ.ret1 _ rfl rfl ⟨rfl, hb268⟩
    have hm := hx249; clear hx249
    refine WP.quiet (by kernel_rfl) (by kernel_rfl) ?_
    refine QL.step1v 165 (.slice a101 x99.1.length c102) rfl (fun _ => by kernel_rfl) ?_
    refine QL.step1v 166 (.int .i64 st213) rfl (fun _ => by kernel_rfl) ?_
    refine QL.subk [3, 4, 5, 6, 7, 17, 18, 19, 20, 22, 23, 25, 26, 28, 165, 166] [(3, .slice a17 x15.1.length c18), (4, .string (bs x15.2.1)), (5, .int .i64 x15.2.2), (6, .slice a29 x27.1.length c30), (7, .int .i64 x27.2), (17, .slice a89 x87.length c90), (18, .slice a101 x99.1.length c102), (19, .int .i64 x99.2), (20, .slice a113 x111.1.length c114), (22, .slice a125 x123.1.length c126), (23, .slice a128 x123.2.length c129), (25, .int .i64 x138.2), (26, .int .i64 x147.1), (28, .int .i64 st213), (165, .slice a101 x99.1.length c102), (166, .int .i64 st213)] (by kernel_rfl) ?_
    obtain ⟨x250, hx251, hm⟩ := bindE hm
    refine QL.st (.pointer (some (at_ a101 (Int.toNat st213 * 2)))) (ST.index (T := fTake.ty) (xs := x99.1) (SH.rd (SH.front 3 hS217)) hx251 rfl rfl rfl Try.underlying30 (info43).1 (info43).2.1) rfl rfl rfl ?_
    refine QL.st (.agg #[.string (bs x250.Name), .int .i64 x250.Many]) (ST.loadAgg (vs := fTake.leaf x250) (fun j v hv => Rd.flatA (F := fTake) (SH.rd (SH.front 3 hS217)) hx251 j hv) rfl rfl rfl Try.underlying43 rfl (info43).1 (info43).2.1) rfl rfl rfl ?_
    refine QL.step1v 169 (.slice a113 x111.1.length c114) rfl (fun _ => by kernel_rfl) ?_
    refine QL.step1v 170 (.int .i64 st213) rfl (fun _ => by kernel_rfl) ?_
    refine QL.subk [3, 4, 5, 6, 7, 17, 18, 19, 20, 22, 23, 25, 26, 28, 168, 169, 170] [(3, .slice a17 x15.1.length c18), (4, .string (bs x15.2.1)), (5, .int .i64 x15.2.2), (6, .slice a29 x27.1.length c30), (7, .int .i64 x27.2), (17, .slice a89 x87.length c90), (18, .slice a101 x99.1.length c102), (19, .int .i64 x99.2), (20, .slice a113 x111.1.length c114), (22, .slice a125 x123.1.length c126), (23, .slice a128 x123.2.length c129), (25, .int .i64 x138.2), (26, .int .i64 x147.1), (28, .int .i64 st213), (168, .agg #[.string (bs x250.Name), .int .i64 x250.Many]), (169, .slice a113 x111.1.length c114), (170, .int .i64 st213)] (by kernel_rfl) ?_
    obtain ⟨x252, hx253, hm⟩ := bindE hm
    refine QL.st (.pointer (some (at_ a113 (Int.toNat st213 * 2)))) (ST.index (T := fTake.ty) (xs := x111.1) (SH.rd (SH.front 2 hS217)) hx253 rfl rfl rfl Try.underlying30 (info43).1 (info43).2.1) rfl rfl rfl ?_
    refine QL.st (.agg #[.string (bs x252.Name), .int .i64 x252.Many]) (ST.loadAgg (vs := fTake.leaf x252) (fun j v hv => Rd.flatA (F := fTake) (SH.rd (SH.front 2 hS217)) hx253 j hv) rfl rfl rfl Try.underlying43 rfl (info43).1 (info43).2.1) rfl rfl rfl ?_
    refine QL.st (.bool (!(decide (x250 = x252)))) (ST.aggne (F := fTake) (x := x250) (y := x252) (eqs_43 x250 x252) (by kernel_rfl) rfl rfl rfl) rfl rfl rfl ?_
    refine QL.step1v 174 (.bool (!(decide (x250 = x252)))) rfl (fun _ => by kernel_rfl) ?_
    refine QL.subk [3, 4, 5, 6, 7, 17, 18, 19, 20, 22, 23, 25, 26, 28, 174] [(3, .slice a17 x15.1.length c18), (4, .string (bs x15.2.1)), (5, .int .i64 x15.2.2), (6, .slice a29 x27.1.length c30), (7, .int .i64 x27.2), (17, .slice a89 x87.length c90), (18, .slice a101 x99.1.length c102), (19, .int .i64 x99.2), (20, .slice a113 x111.1.length c114), (22, .slice a125 x123.1.length c126), (23, .slice a128 x123.2.length c129), (25, .int .i64 x138.2), (26, .int .i64 x147.1), (28, .int .i64 st213), (174, .bool (!(decide (x250 = x252))))] (by kernel_rfl) ?_
    refine QL.case (!(decide (x250 = x252))) [174] ⟨rfl, trivial⟩ (fun hc254 => ?_) (fun hc254 => ?_)
    · have hm := iteT hm hc254
      refine QL.step1v 175 undef rfl (fun _ => by kernel_rfl) ?_
      refine QL.step1v 176 undef rfl (fun _ => by kernel_rfl) ?_
      refine QL.step1v 177 undef rfl (fun _ => by kernel_rfl) ?_
      refine QL.step1v 178 undef rfl (fun _ => by kernel_rfl) ?_
      refine QL.step1v 179 undef rfl (fun _ => by kernel_rfl) ?_
      refine QL.step1v 180 undef rfl (fun _ => by kernel_rfl) ?_
      refine QL.step1v 181 (.bool true) rfl (fun _ => by kernel_rfl) ?_
      refine QL.subk [3, 4, 5, 6, 7, 17, 18, 19, 20, 22, 23, 25, 26, 28, 181] [(3, .slice a17 x15.1.length c18), (4, .string (bs x15.2.1)), (5, .int .i64 x15.2.2), (6, .slice a29 x27.1.length c30), (7, .int .i64 x27.2), (17, .slice a89 x87.length c90), (18, .slice a101 x99.1.length c102), (19, .int .i64 x99.2), (20, .slice a113 x111.1.length c114), (22, .slice a125 x123.1.length c126), (23, .slice a128 x123.2.length c129), (25, .int .i64 x138.2), (26, .int .i64 x147.1), (28, .int .i64 st213), (181, .bool true)] (by kernel_rfl) ?_
      refine QL.nil ?_
      intro w255 hE256
      have hb257 : Ext w w255 := Ext.trans hb215 hE256
      have hL258 : w.heap.size ≤ w255.heap.size := Nat.le_trans hL216 hE256.size
      have hS259 : SH w255 w.heap.size [aOwn fGood 56 a125 c126 x123.1, aOwn fTake 43 a128 c129 x123.2, aOwn fTake 43 a113 c114 x111.1, aOwn fTake 43 a101 c102 x99.1, aOwn fGood 56 a89 c90 x87, aOwn fGood 56 a29 c30 x27.1, aOwn fGood 56 a17 c18 x15.1] := SH.ext hS217 hE256
      obtain rfl := Option.some.inj hm
      exact WQ.post' ⟨rfl, hb257, hL258, hS259⟩ ⟨rfl, rfl, rfl, rfl, rfl, rfl, rfl, rfl, rfl, rfl, rfl, rfl, rfl, rfl, rfl, trivial⟩
    have hm := iteF hm hc254
    refine QL.step1v 175 (.slice a113 x111.1.length c114) rfl (fun _ => by kernel_rfl) ?_
    refine QL.step1v 176 (.int .i64 st213) rfl (fun _ => by kernel_rfl) ?_
    refine QL.subk [3, 4, 5, 6, 7, 17, 18, 19, 20, 22, 23, 25, 26, 28, 174, 175, 176] [(3, .slice a17 x15.1.length c18), (4, .string (bs x15.2.1)), (5, .int .i64 x15.2.2), (6, .slice a29 x27.1.length c30), (7, .int .i64 x27.2), (17, .slice a89 x87.length c90), (18, .slice a101 x99.1.length c102), (19, .int .i64 x99.2), (20, .slice a113 x111.1.length c114), (22, .slice a125 x123.1.length c126), (23, .slice a128 x123.2.length c129), (25, .int .i64 x138.2), (26, .int .i64 x147.1), (28, .int .i64 st213), (174, .bool false), (175, .slice a113 x111.1.length c114), (176, .int .i64 st213)] (by kernel_rfl) ?_
    obtain ⟨x260, hx261, hm⟩ := bindE hm
    refine QL.st (.pointer (some (at_ a113 (Int.toNat st213 * 2)))) (ST.index (T := fTake.ty) (xs := x111.1) (SH.rd (SH.front 2 hS217)) hx261 rfl rfl rfl Try.underlying30 (info43).1 (info43).2.1) rfl rfl rfl ?_
    refine QL.step1v 178 (.pointer (some (at_ a113 (Int.toNat st213 * 2 + 1)))) rfl (fun _ => by kernel_rfl) ?_
    refine QL.subk [3, 4, 5, 6, 7, 17, 18, 19, 20, 22, 23, 25, 26, 28, 174, 178] [(3, .slice a17 x15.1.length c18), (4, .string (bs x15.2.1)), (5, .int .i64 x15.2.2), (6, .slice a29 x27.1.length c30), (7, .int .i64 x27.2), (17, .slice a89 x87.length c90), (18, .slice a101 x99.1.length c102), (19, .int .i64 x99.2), (20, .slice a113 x111.1.length c114), (22, .slice a125 x123.1.length c126), (23, .slice a128 x123.2.length c129), (25, .int .i64 x138.2), (26, .int .i64 x147.1), (28, .int .i64 st213), (174, .bool false), (178, .pointer (some (at_ a113 (Int.toNat st213 * 2 + 1))))] (by kernel_rfl) ?_
    refine QL.st (.int .i64 x260.Many) (ST.load (cell_ext (Rd.flat (F := fTake) (SH.rd (SH.front 2 hS217)) hx261 1 rfl)) rfl rfl Try.underlying2 rfl) rfl rfl rfl ?_
    refine QL.step1v 180 (.bool (decide (x260.Many < 1))) rfl (fun _ => by kernel_rfl) ?_
    refine QL.step1v 181 (.bool (decide (x260.Many < 1))) rfl (fun _ => by kernel_rfl) ?_
    refine QL.subk [3, 4, 5, 6, 7, 17, 18, 19, 20, 22, 23, 25, 26, 28, 181] [(3, .slice a17 x15.1.length c18), (4, .string (bs x15.2.1)), (5, .int .i64 x15.2.2), (6, .slice a29 x27.1.length c30), (7, .int .i64 x27.2), (17, .slice a89 x87.length c90), (18, .slice a101 x99.1.length c102), (19, .int .i64 x99.2), (20, .slice a113 x111.1.length c114), (22, .slice a125 x123.1.length c126), (23, .slice a128 x123.2.length c129), (25, .int .i64 x138.2), (26, .int .i64 x147.1), (28, .int .i64 st213), (181, .bool (decide (x260.Many < 1)))] (by kernel_rfl) ?_
    refine QL.nil ?_
    intro w262 hE263
    have hb264 : Ext w w262 := Ext.trans hb215 hE263
    have hL265 : w.heap.size ≤ w262.heap.size := Nat.le_trans hL216 hE263.size
    have hS266 : SH w262 w.heap.size [aOwn fGood 56 a125 c126 x123.1, aOwn fTake 43 a128 c129 x123.2, aOwn fTake 43 a113 c114 x111.1, aOwn fTake 43 a101 c102 x99.1, aOwn fGood 56 a89 c90 x87, aOwn fGood 56 a29 c30 x27.1, aOwn fGood 56 a17 c18 x15.1] := SH.ext hS217 hE263
    obtain rfl := Option.some.inj hm
    exact WQ.post' ⟨rfl, hb264, hL265, hS266⟩ ⟨rfl, rfl, rfl, rfl, rfl, rfl, rfl, rfl, rfl, rfl, rfl, rfl, rfl, rfl, rfl, trivial⟩
  have hm := iteF hm hc228
  refine WP.exit ?_
  refine WQ.then_exit ?_
  refine WQ.then_exit ?_
  refine WQ.block_here ?_
  obtain rfl := Option.some.inj hm
  obtain rfl := afterN_done hl218
  have hm := hmo219
  refine WQ.then_normal (hK211 _ _ _ ?_)
  refine WP.seq (fun K273 hK273 => ?_)
  refine WP.seq (fun K274 hK274 => ?_)
  refine WP.region ?_
  refine WL.runk 2 [3, 4, 5, 6, 7, 17, 20, 22, 23, 25, 26, 183] [(3, .slice a17 x15.1.length c18), (4, .string (bs x15.2.1)), (5, .int .i64 x15.2.2), (6, .slice a29 x27.1.length c30), (7, .int .i64 x27.2), (17, .slice a89 x87.length c90), (20, .slice a113 x111.1.length c114), (22, .slice a125 x123.1.length c126), (23, .slice a128 x123.2.length c129), (25, .int .i64 x138.2), (26, .int .i64 x147.1), (183, .bool (x99.2 == 0))] (by kernel_rfl) ?_
  refine WL.nil ?_
  refine WQ.then_normal (hK274 _ _ _ ?_)
  refine WP.cond (x99.2 == 0) rfl rfl (fun hc275 => ?_) (fun hc275 => ?_)
  rotate_left
  · have hm := iteF hm hc275
    refine WP.skip ?_
    refine WQ.then_normal (hK273 _ _ _ ?_)
    refine WP.seq (fun K1020 hK1020 => ?_)
    refine WP.seq (fun K1021 hK1021 => ?_)
    obtain ⟨x1025, hx1026, hm⟩ := bindE hm
    refine WP.cut (fun env' w' => env' = [(3, .slice a17 x15.1.length c18), (4, .string (bs x15.2.1)), (5, .int .i64 x15.2.2), (6, .slice a29 x27.1.length c30), (7, .int .i64 x27.2), (22, .slice a125 x123.1.length c126), (23, .slice a128 x123.2.length c129), (26, .int .i64 x147.1), (224, .bool x1025)] ∧ Ext w w' ∧ w.heap.size ≤ w'.heap.size ∧ SH w' w.heap.size [aOwn fGood 56 a125 c126 x123.1, aOwn fTake 43 a128 c129 x123.2, aOwn fGood 56 a29 c30 x27.1, aOwn fGood 56 a17 c18 x15.1]) ?_ ?_
    · have hm := hx1026; clear hx1026
      refine WP.region ?_
      refine WL.runk 3 [3, 4, 5, 6, 7, 22, 23, 26, 212] [(3, .slice a17 x15.1.length c18), (4, .string (bs x15.2.1)), (5, .int .i64 x15.2.2), (6, .slice a29 x27.1.length c30), (7, .int .i64 x27.2), (22, .slice a125 x123.1.length c126), (23, .slice a128 x123.2.length c129), (26, .int .i64 x147.1), (212, .bool (x138.2 == 0))] (by kernel_rfl) ?_
      refine WL.case (x138.2 == 0) [212] ⟨rfl, trivial⟩ (fun hc1027 => ?_) (fun hc1027 => ?_)
      rotate_left
      · have hm := iteF hm hc1027
        refine WL.runk 12 [3, 4, 5, 6, 7, 22, 23, 26, 224] [(3, .slice a17 x15.1.length c18), (4, .string (bs x15.2.1)), (5, .int .i64 x15.2.2), (6, .slice a29 x27.1.length c30), (7, .int .i64 x27.2), (22, .slice a125 x123.1.length c126), (23, .slice a128 x123.2.length c129), (26, .int .i64 x147.1), (224, .bool false)] (by kernel_rfl) ?_
        refine WL.nil ?_
        obtain rfl := Option.some.inj hm
        exact WQ.post' ⟨rfl, hb215, hL216, (SH.take 4 (SH.front 3 (SH.front 3 (SH.front 6 (SH.front 6 hS217)))))⟩ ⟨rfl, rfl, rfl, rfl, rfl, rfl, rfl, rfl, rfl, trivial⟩
      have hm := iteT hm hc1027
      refine WL.runk 4 [3, 4, 5, 6, 7, 22, 23, 26, 216] [(3, .slice a17 x15.1.length c18), (4, .string (bs x15.2.1)), (5, .int .i64 x15.2.2), (6, .slice a29 x27.1.length c30), (7, .int .i64 x27.2), (22, .slice a125 x123.1.length c126), (23, .slice a128 x123.2.length c129), (26, .int .i64 x147.1), (216, .bool (decide (x147.1 > 0)))] (by kernel_rfl) ?_
      refine WL.case (decide (x147.1 > 0)) [216] ⟨rfl, trivial⟩ (fun hc1028 => ?_) (fun hc1028 => ?_)
      rotate_left
      · have hm := iteF hm hc1028
        refine WL.runk 8 [3, 4, 5, 6, 7, 22, 23, 26, 224] [(3, .slice a17 x15.1.length c18), (4, .string (bs x15.2.1)), (5, .int .i64 x15.2.2), (6, .slice a29 x27.1.length c30), (7, .int .i64 x27.2), (22, .slice a125 x123.1.length c126), (23, .slice a128 x123.2.length c129), (26, .int .i64 x147.1), (224, .bool false)] (by kernel_rfl) ?_
        refine WL.nil ?_
        obtain rfl := Option.some.inj hm
        exact WQ.post' ⟨rfl, hb215, hL216, (SH.take 4 (SH.front 3 (SH.front 3 (SH.front 6 (SH.front 6 hS217)))))⟩ ⟨rfl, rfl, rfl, rfl, rfl, rfl, rfl, rfl, rfl, trivial⟩
      have hm := iteT hm hc1028
      refine WL.runk 4 [3, 4, 5, 6, 7, 22, 23, 26, 220] [(3, .slice a17 x15.1.length c18), (4, .string (bs x15.2.1)), (5, .int .i64 x15.2.2), (6, .slice a29 x27.1.length c30), (7, .int .i64 x27.2), (22, .slice a125 x123.1.length c126), (23, .slice a128 x123.2.length c129), (26, .int .i64 x147.1), (220, .bool (decide (x147.1 < 1000)))] (by kernel_rfl) ?_
      refine WL.case (decide (x147.1 < 1000)) [220] ⟨rfl, trivial⟩ (fun hc1029 => ?_) (fun hc1029 => ?_)
      · have hm := iteT hm hc1029
        refine WL.runk 4 [3, 4, 5, 6, 7, 22, 23, 26, 224] [(3, .slice a17 x15.1.length c18), (4, .string (bs x15.2.1)), (5, .int .i64 x15.2.2), (6, .slice a29 x27.1.length c30), (7, .int .i64 x27.2), (22, .slice a125 x123.1.length c126), (23, .slice a128 x123.2.length c129), (26, .int .i64 x147.1), (224, .bool (decide ((x123.2.length : Int) < 20)))] (by kernel_rfl) ?_
        refine WL.nil ?_
        obtain rfl := Option.some.inj hm
        exact WQ.post' ⟨rfl, hb215, hL216, (SH.take 4 (SH.front 3 (SH.front 3 (SH.front 6 (SH.front 6 hS217)))))⟩ ⟨rfl, rfl, rfl, rfl, rfl, rfl, rfl, rfl, rfl, trivial⟩
      have hm := iteF hm hc1029
      refine WL.runk 4 [3, 4, 5, 6, 7, 22, 23, 26, 224] [(3, .slice a17 x15.1.length c18), (4, .string (bs x15.2.1)), (5, .int .i64 x15.2.2), (6, .slice a29 x27.1.length c30), (7, .int .i64 x27.2), (22, .slice a125 x123.1.length c126), (23, .slice a128 x123.2.length c129), (26, .int .i64 x147.1), (224, .bool false)] (by kernel_rfl) ?_
      refine WL.nil ?_
      obtain rfl := Option.some.inj hm
      exact WQ.post' ⟨rfl, hb215, hL216, (SH.take 4 (SH.front 3 (SH.front 3 (SH.front 6 (SH.front 6 hS217)))))⟩ ⟨rfl, rfl, rfl, rfl, rfl, rfl, rfl, rfl, rfl, trivial⟩
    clear hx1026
    rintro _ w1030 ⟨rfl, hb1031, hL1032, hS1033⟩
    refine WQ.then_normal (hK1021 _ _ _ ?_)
    refine WP.cond x1025 rfl rfl (fun hc1034 => ?_) (fun hc1034 => ?_)
    rotate_left
    · have hm := iteF hm hc1034
      refine WP.skip ?_
      refine WQ.then_normal (hK1020 _ _ _ ?_)
      refine WP.seq (fun K1307 hK1307 => ?_)
      refine WP.seq (fun K1308 hK1308 => ?_)
      refine WP.region ?_
      refine WL.runk 2 [3, 4, 5, 6, 281] [(3, .slice a17 x15.1.length c18), (4, .string (bs x15.2.1)), (5, .int .i64 x15.2.2), (6, .slice a29 x27.1.length c30), (281, .bool (x27.2 != 0))] (by kernel_rfl) ?_
      refine WL.nil ?_
      refine WQ.then_normal (hK1308 _ _ _ ?_)
      refine WP.cond (x27.2 != 0) rfl rfl (fun hc1309 => ?_) (fun hc1309 => ?_)
      · have hm := iteT hm hc1309
        refine WP.seq (fun K1310 hK1310 => ?_)
        refine WP.region ?_
        refine WL.runk 1 [2] [(2, .bool true)] (by kernel_rfl) ?_
        refine WL.nil ?_
        refine WQ.then_normal (hK1310 _ _ _ ?_)
        refine WP.ret ?_
        refine WQ.then_ret ?_
        obtain rfl := Option.some.inj hm
        exact WQ.ret1 _ rfl rfl ⟨rfl, hb1031⟩
      have hm := iteF hm hc1309
      refine WP.skip ?_
      refine WQ.then_normal (hK1307 _ _ _ ?_)
      refine WP.seq (fun K1311 hK1311 => ?_)
      refine WP.region ?_
      refine WL.runk 3 [3, 4, 5, 283, 284, 285] [(3, .slice a17 x15.1.length c18), (4, .string (bs x15.2.1)), (5, .int .i64 x15.2.2), (283, .slice a29 x27.1.length c30), (284, .string (bs x15.2.1)), (285, .int .i64 x15.2.2)] (by kernel_rfl) ?_
      obtain ⟨x1312, hx1313, hm⟩ := bindE hm
      refine WL.call 30 #[.slice a29 x27.1.length c30, .string (bs x15.2.1), .int .i64 x15.2.2] rfl rfl (by kernel_rfl) (c_30 n x27.1 a29 c30 x15.2.1 x15.2.2 w1030 hx1313 (SH.rd (SH.front 2 hS1033)) (SH.le (SH.front 2 hS1033)).1) ?_
      rintro _ w1317 ⟨a1314, c1315, rfl, hE1318, hR1319⟩
      refine ⟨_, rfl, ?_⟩
      have hb1320 : Ext w w1317 := Ext.trans hb1031 hE1318
      have hL1321 : w.heap.size ≤ w1317.heap.size := Nat.le_trans hL1032 hE1318.size
      have hS1322 : SH w1317 w.heap.size [aOwn fGood 56 a1314 c1315 x1312.1, aOwn fGood 56 a125 c126 x123.1, aOwn fTake 43 a128 c129 x123.2, aOwn fGood 56 a29 c30 x27.1, aOwn fGood 56 a17 c18 x15.1] := SH.add hS1033 hE1318 hL1032 hR1319
      refine WL.runk 5 [3, 4, 5, 42, 43] [(3, .slice a17 x15.1.length c18), (4, .string (bs x15.2.1)), (5, .int .i64 x15.2.2), (42, .slice a1314 x1312.1.length c1315), (43, .int .i64 x1312.2)] (by kernel_rfl) ?_
      refine WL.nil ?_
      refine WQ.then_normal (hK1311 _ _ _ ?_)
      refine WP.seq (fun K1323 hK1323 => ?_)
      refine WP.region ?_
      refine WL.runk 5 [42, 43, 290, 294] [(42, .slice a1314 x1312.1.length c1315), (43, .int .i64 x1312.2), (290, .slice a17 x15.1.length c18), (294, .agg #[.string (bs x15.2.1), .int .i64 (wI64 (0 - x15.2.2))])] (by kernel_rfl) ?_
      obtain ⟨x1324, hx1325, hm⟩ := bindE hm
      refine WL.call 32 #[.slice a17 x15.1.length c18, .agg #[.string (bs x15.2.1), .int .i64 (wI64 (0 - x15.2.2))]] rfl rfl (by kernel_rfl) (c_32 n x15.1 a17 c18 (STake.mk x15.2.1 (wI64 (0 - x15.2.2))) w1317 hx1325 (SH.rd (SH.front 4 hS1322)) (SH.le (SH.front 4 hS1322)).1) ?_
      rintro _ w1329 ⟨a1326, c1327, rfl, hE1330, hR1331⟩
      refine ⟨_, rfl, ?_⟩
      have hb1332 : Ext w w1329 := Ext.trans hb1320 hE1330
      have hL1333 : w.heap.size ≤ w1329.heap.size := Nat.le_trans hL1321 hE1330.size
      have hS1334 : SH w1329 w.heap.size [aOwn fGood 56 a1326 c1327 x1324.1, aOwn fGood 56 a1314 c1315 x1312.1, aOwn fGood 56 a125 c126 x123.1, aOwn fTake 43 a128 c129 x123.2, aOwn fGood 56 a29 c30 x27.1, aOwn fGood 56 a17 c18 x15.1] := SH.add hS1322 hE1330 hL1321 hR1331
      refine WL.runk 5 [42, 43, 44, 45] [(42, .slice a1314 x1312.1.length c1315), (43, .int .i64 x1312.2), (44, .slice a1326 x1324.1.length c1327), (45, .int .i64 x1324.2)] (by kernel_rfl) ?_
      refine WL.nil ?_
      refine WQ.then_normal (hK1323 _ _ _ ?_)
      refine WP.seq (fun K1335 hK1335 => ?_)
      obtain ⟨x1346, hx1347, hm⟩ := bindE hm
      refine WP.cut (fun env' w' => env' = [(2, .bool x1346)] ∧ Ext w w' ∧ w.heap.size ≤ w'.heap.size ∧ SH w' w.heap.size []) ?_ ?_
      rotate_left
      · clear hx1347
        rintro _ w1358 ⟨rfl, hb1359, hL1360, hS1361⟩
        refine WQ.then_normal (hK1335 _ _ _ ?_)
        refine WP.ret ?_
        obtain rfl := Option.some.inj hm
        exact WQ.ret1 _ rfl rfl ⟨rfl, hb1359⟩
      have hm := hx1347; clear hx1347
      refine WP.region ?_
      refine WL.runk 3 [42, 44, 45, 300] [(42, .slice a1314 x1312.1.length c1315), (44, .slice a1326 x1324.1.length c1327), (45, .int .i64 x1324.2), (300, .bool (x1312.2 == 0))] (by kernel_rfl) ?_
      refine WL.case (x1312.2 == 0) [300] ⟨rfl, trivial⟩ (fun hc1348 => ?_) (fun hc1348 => ?_)
      rotate_left
      · have hm := iteF hm hc1348
        refine WL.runk 9 [2] [(2, .bool false)] (by kernel_rfl) ?_
        refine WL.nil ?_
        obtain rfl := Option.some.inj hm
        exact WQ.post' ⟨rfl, hb1332, hL1333, (SH.take 0 hS1334)⟩ ⟨rfl, trivial⟩
      have hm := iteT hm hc1348
      refine WL.runk 4 [42, 44, 304] [(42, .slice a1314 x1312.1.length c1315), (44, .slice a1326 x1324.1.length c1327), (304, .bool (x1324.2 == 0))] (by kernel_rfl) ?_
      refine WL.case (x1324.2 == 0) [304] ⟨rfl, trivial⟩ (fun hc1349 => ?_) (fun hc1349 => ?_)
      rotate_left
      · have hm := iteF hm hc1349
        refine WL.runk 5 [2] [(2, .bool false)] (by kernel_rfl) ?_
        refine WL.nil ?_
        obtain rfl := Option.some.inj hm
        exact WQ.post' ⟨rfl, hb1332, hL1333, (SH.take 0 hS1334)⟩ ⟨rfl, trivial⟩
      have hm := iteT hm hc1349
      refine WL.runk 2 [304, 305, 306] [(304, .bool true), (305, .slice a1314 x1312.1.length c1315), (306, .slice a1326 x1324.1.length c1327)] (by kernel_rfl) ?_
      obtain ⟨x1350, hx1351, hm⟩ := bindE hm
      refine WL.call 14 #[.slice a1314 x1312.1.length c1315, .slice a1326 x1324.1.length c1327] rfl rfl (by kernel_rfl) (c_14 n x1312.1 a1314 c1315 x1324.1 a1326 c1327 w1329 hx1351 (SH.rd (SH.front 1 hS1334)) (SH.le (SH.front 1 hS1334)).1 (SH.rd (SH.front 0 hS1334)) (SH.le (SH.front 0 hS1334)).1) ?_
      rintro _ w1352 ⟨rfl, hE1353⟩
      refine ⟨_, rfl, ?_⟩
      have hb1355 : Ext w w1352 := Ext.trans hb1332 hE1353
      have hL1356 : w.heap.size ≤ w1352.heap.size := Nat.le_trans hL1333 hE1353.size
      have hS1357 : SH w1352 w.heap.size [aOwn fGood 56 a1326 c1327 x1324.1, aOwn fGood 56 a1314 c1315 x1312.1, aOwn fGood 56 a125 c126 x123.1, aOwn fTake 43 a128 c129 x123.2, aOwn fGood 56 a29 c30 x27.1, aOwn fGood 56 a17 c18 x15.1] := SH.ext hS1334 hE1353
      refine WL.runk 2 [2] [(2, .bool x1350)] (by kernel_rfl) ?_
      refine WL.nil ?_
      obtain rfl := Option.some.inj hm
      exact WQ.post' ⟨rfl, hb1355, hL1356, (SH.take 0 hS1357)⟩ ⟨rfl, trivial⟩
    have hm := iteT hm hc1034
    refine WP.seq (fun K1035 hK1035 => ?_)
    refine WP.region ?_
    refine WL.row fTake 43 ([] : List STake) 0 #[] 225 (by kernel_rfl) rfl rfl rfl rfl rfl rfl rfl ?_
    intro a1036 c1037 w1038 hE1039 hR1040
    have hb1042 : Ext w w1038 := Ext.trans hb1031 hE1039
    have hL1043 : w.heap.size ≤ w1038.heap.size := Nat.le_trans hL1032 hE1039.size
    have hS1044 : SH w1038 w.heap.size [aOwn fTake 43 a1036 c1037 ([] : List STake), aOwn fGood 56 a125 c126 x123.1, aOwn fTake 43 a128 c129 x123.2, aOwn fGood 56 a29 c30 x27.1, aOwn fGood 56 a17 c18 x15.1] := SH.add hS1033 hE1039 hL1032 hR1040
    refine WL.runk 1 [3, 4, 5, 6, 7, 22, 23, 26, 35] [(3, .slice a17 x15.1.length c18), (4, .string (bs x15.2.1)), (5, .int .i64 x15.2.2), (6, .slice a29 x27.1.length c30), (7, .int .i64 x27.2), (22, .slice a125 x123.1.length c126), (23, .slice a128 x123.2.length c129), (26, .int .i64 x147.1), (35, .slice a1036 (([] : List STake).length) c1037)] (by kernel_rfl) ?_
    refine WL.nil ?_
    refine WQ.then_normal (hK1035 _ _ _ ?_)
    refine WP.seq (fun K1045 hK1045 => ?_)
    refine WP.seq (fun K1046 hK1046 => ?_)
    refine WP.region ?_
    refine WL.runk 1 [3, 4, 5, 6, 7, 22, 23, 26, 35, 36] [(3, .slice a17 x15.1.length c18), (4, .string (bs x15.2.1)), (5, .int .i64 x15.2.2), (6, .slice a29 x27.1.length c30), (7, .int .i64 x27.2), (22, .slice a125 x123.1.length c126), (23, .slice a128 x123.2.length c129), (26, .int .i64 x147.1), (35, .slice a1036 (([] : List STake).length) c1037), (36, .int .i64 0)] (by kernel_rfl) ?_
    refine WL.nil ?_
    refine WQ.then_normal (hK1046 _ _ _ ?_)
    refine WP.block ?_
    obtain ⟨t1061, ht1062, hm⟩ := bindE hm
    have hmo1056 := hm; clear hm
    refine WP.sub [(3, .slice a17 x15.1.length c18), (4, .string (bs x15.2.1)), (5, .int .i64 x15.2.2), (6, .slice a29 x27.1.length c30), (7, .int .i64 x27.2), (22, .slice a125 x123.1.length c126), (23, .slice a128 x123.2.length c129), (26, .int .i64 x147.1), (35, .slice a1036 (([] : List STake).length) c1037), (36, .int .i64 0)] ⟨rfl, rfl, rfl, rfl, rfl, rfl, rfl, rfl, rfl, rfl, trivial⟩ ?_
    refine WP.loop (fun n' env' w' => ∃ (st1047 : List STake × Int) (a1048 : Option Addr) (c1049 : Nat), env' = [(3, .slice a17 x15.1.length c18), (4, .string (bs x15.2.1)), (5, .int .i64 x15.2.2), (6, .slice a29 x27.1.length c30), (7, .int .i64 x27.2), (22, .slice a125 x123.1.length c126), (23, .slice a128 x123.2.length c129), (26, .int .i64 x147.1), (35, .slice a1048 st1047.1.length c1049), (36, .int .i64 st1047.2)] ∧ Ext w w' ∧ w.heap.size ≤ w'.heap.size ∧ SH w' w.heap.size [aOwn fTake 43 a1048 c1049 st1047.1, aOwn fGood 56 a125 c126 x123.1, aOwn fTake 43 a128 c129 x123.2, aOwn fGood 56 a29 c30 x27.1, aOwn fGood 56 a17 c18 x15.1] ∧ loopN (m_laws_FnReserves_l4 n x123 x147) n' st1047 = some t1061) n ⟨(([] : List STake), 0), _, _, rfl, hb1042, hL1043, hS1044, ht1062⟩ ?_
    rintro n1058 _ w1051 ⟨st1047, a1048, c1049, rfl, hb1052, hL1053, hS1054, hl1055⟩ K1057 hK1057
    obtain ⟨n1059, s1060, rfl, hm, hl1055⟩ := loopN_some hl1055
    unfold m_laws_FnReserves_l4 at hm
    refine WP.seq (fun K1063 hK1063 => ?_)
    refine WP.seq (fun K1064 hK1064 => ?_)
    refine WP.region ?_
    refine WL.runk 4 [3, 4, 5, 6, 7, 22, 23, 26, 35, 36, 229] [(3, .slice a17 x15.1.length c18), (4, .string (bs x15.2.1)), (5, .int .i64 x15.2.2), (6, .slice a29 x27.1.length c30), (7, .int .i64 x27.2), (22, .slice a125 x123.1.length c126), (23, .slice a128 x123.2.length c129), (26, .int .i64 x147.1), (35, .slice a1048 st1047.1.length c1049), (36, .int .i64 st1047.2), (229, .bool (decide (st1047.2 < (x123.2.length : Int))))] (by kernel_rfl) ?_
    refine WL.nil ?_
    refine WQ.then_normal (hK1064 _ _ _ ?_)
    refine WP.cond (decide (st1047.2 < (x123.2.length : Int))) rfl rfl (fun hc1065 => ?_) (fun hc1065 => ?_)
    · have hm := iteT hm hc1065
      refine WP.skip ?_
      refine WQ.then_normal (hK1063 _ _ _ ?_)
      refine WP.seq (fun K1066 hK1066 => ?_)
      refine WP.block ?_
      refine WP.seq (fun K1067 hK1067 => ?_)
      refine WP.seq (fun K1068 hK1068 => ?_)
      refine WP.region ?_
      refine WL.runk 2 [3, 4, 5, 6, 7, 22, 23, 26, 35, 36, 232, 233] [(3, .slice a17 x15.1.length c18), (4, .string (bs x15.2.1)), (5, .int .i64 x15.2.2), (6, .slice a29 x27.1.length c30), (7, .int .i64 x27.2), (22, .slice a125 x123.1.length c126), (23, .slice a128 x123.2.length c129), (26, .int .i64 x147.1), (35, .slice a1048 st1047.1.length c1049), (36, .int .i64 st1047.2), (232, .slice a128 x123.2.length c129), (233, .int .i64 st1047.2)] (by kernel_rfl) ?_
      obtain ⟨x1069, hx1070, hm⟩ := bindE hm
      refine WL.st (.pointer (some (at_ a128 (Int.toNat st1047.2 * 2)))) (ST.index (T := fTake.ty) (xs := x123.2) (SH.rd (SH.front 2 hS1054)) hx1070 rfl rfl rfl Try.underlying30 (info43).1 (info43).2.1) rfl rfl rfl ?_
      refine WL.runk 1 [3, 4, 5, 6, 7, 22, 23, 26, 35, 36, 235] [(3, .slice a17 x15.1.length c18), (4, .string (bs x15.2.1)), (5, .int .i64 x15.2.2), (6, .slice a29 x27.1.length c30), (7, .int .i64 x27.2), (22, .slice a125 x123.1.length c126), (23, .slice a128 x123.2.length c129), (26, .int .i64 x147.1), (35, .slice a1048 st1047.1.length c1049), (36, .int .i64 st1047.2), (235, .pointer (some (at_ a128 (Int.toNat st1047.2 * 2 + 1))))] (by kernel_rfl) ?_
      refine WL.st (.int .i64 x1069.Many) (ST.load (cell_ext (Rd.flat (F := fTake) (SH.rd (SH.front 2 hS1054)) hx1070 1 rfl)) rfl rfl Try.underlying2 rfl) rfl rfl rfl ?_
      refine WL.runk 1 [3, 4, 5, 6, 7, 22, 23, 26, 35, 36, 237] [(3, .slice a17 x15.1.length c18), (4, .string (bs x15.2.1)), (5, .int .i64 x15.2.2), (6, .slice a29 x27.1.length c30), (7, .int .i64 x27.2), (22, .slice a125 x123.1.length c126), (23, .slice a128 x123.2.length c129), (26, .int .i64 x147.1), (35, .slice a1048 st1047.1.length c1049), (36, .int .i64 st1047.2), (237, .bool (decide (x1069.Many > 1000)))] (by kernel_rfl) ?_
      refine WL.nil ?_
      refine WQ.then_normal (hK1068 _ _ _ ?_)
      refine WP.cond (decide (x1069.Many > 1000)) rfl rfl (fun hc1071 => ?_) (fun hc1071 => ?_)
      · have hm := iteT hm hc1071
        refine WP.seq (fun K1072 hK1072 => ?_)
        refine WP.region ?_
        refine WL.runk 1 [2] [(2, .bool true)] (by kernel_rfl) ?_
        refine WL.nil ?_
        refine WQ.then_normal (hK1072 _ _ _ ?_)
        refine WP.ret ?_
        refine WQ.then_ret ?_
        refine WQ.block_ret ?_
        refine WQ.then_ret ?_
        refine WQ.then_ret ?_
        refine WQ.block_ret ?_
        refine WQ.then_ret ?_
        refine WQ.then_ret ?_
        obtain rfl := Option.some.inj hm
        obtain rfl := afterN_done hl1055
        have hm := hmo1056
        obtain rfl := Option.some.inj hm
        exact WQ.ret1 _ rfl rfl ⟨rfl, hb1052⟩
      have hm := iteF hm hc1071
      refine WP.skip ?_
      refine WQ.then_normal (hK1067 _ _ _ ?_)
      refine WP.open (n := 18) (by kernel_rfl) rfl (fun w1073 hE1074 => ?_)
      have hb1075 : Ext w w1073 := Ext.trans hb1052 hE1074
      have hL1076 : w.heap.size ≤ w1073.heap.size := Nat.le_trans hL1053 hE1074.size
      have hS1077 : SH w1073 w.heap.size [aOwn fTake 43 a1048 c1049 st1047.1, aOwn fGood 56 a125 c126 x123.1, aOwn fTake 43 a128 c129 x123.2, aOwn fGood 56 a29 c30 x27.1, aOwn fGood 56 a17 c18 x15.1] := SH.ext hS1054 hE1074
      refine WA.pre (i := 0) (D' := [0]) [(3, .slice a17 x15.1.length c18), (4, .string (bs x15.2.1)), (5, .int .i64 x15.2.2), (6, .slice a29 x27.1.length c30), (7, .int .i64 x27.2), (22, .slice a125 x123.1.length c126), (23, .slice a128 x123.2.length c129), (26, .int .i64 x147.1), (35, .slice a1048 st1047.1.length c1049), (36, .int .i64 st1047.2), (237, .bool (decide (x1069.Many > 1000))), (238, .slice a1048 st1047.1.length c1049)] rfl (by kernel_rfl) rfl (fun _ => by kernel_rfl) rfl ?_
      refine WA.quiet (f' := 3) (D' := [0, 1, 2, 3, 4, 5, 6, 7, 8, 9, 10, 11, 12, 13, 14]) [1, 2, 3, 4, 5, 6, 7, 8, 9, 10, 11, 12, 13, 14] rfl rfl (by kernel_rfl) ?_
      refine QL.step1v 239 (.slice a128 x123.2.length c129) rfl (fun _ => by kernel_rfl) ?_
      refine QL.step1v 240 (.int .i64 st1047.2) rfl (fun _ => by kernel_rfl) ?_
      refine QL.subk [3, 4, 5, 6, 7, 22, 23, 26, 35, 36, 238, 239, 240] [(3, .slice a17 x15.1.length c18), (4, .string (bs x15.2.1)), (5, .int .i64 x15.2.2), (6, .slice a29 x27.1.length c30), (7, .int .i64 x27.2), (22, .slice a125 x123.1.length c126), (23, .slice a128 x123.2.length c129), (26, .int .i64 x147.1), (35, .slice a1048 st1047.1.length c1049), (36, .int .i64 st1047.2), (238, .slice a1048 st1047.1.length c1049), (239, .slice a128 x123.2.length c129), (240, .int .i64 st1047.2)] (by kernel_rfl) ?_
      obtain ⟨x1078, hx1079, hm⟩ := bindE hm
      refine QL.st (.pointer (some (at_ a128 (Int.toNat st1047.2 * 2)))) (ST.index (T := fTake.ty) (xs := x123.2) (SH.rd (SH.front 2 hS1077)) hx1079 rfl rfl rfl Try.underlying30 (info43).1 (info43).2.1) rfl rfl rfl ?_
      refine QL.step1v 242 (.pointer (some (at_ a128 (Int.toNat st1047.2 * 2)))) rfl (fun _ => by kernel_rfl) ?_
      refine QL.subk [3, 4, 5, 6, 7, 22, 23, 26, 35, 36, 238, 242] [(3, .slice a17 x15.1.length c18), (4, .string (bs x15.2.1)), (5, .int .i64 x15.2.2), (6, .slice a29 x27.1.length c30), (7, .int .i64 x27.2), (22, .slice a125 x123.1.length c126), (23, .slice a128 x123.2.length c129), (26, .int .i64 x147.1), (35, .slice a1048 st1047.1.length c1049), (36, .int .i64 st1047.2), (238, .slice a1048 st1047.1.length c1049), (242, .pointer (some (at_ a128 (Int.toNat st1047.2 * 2))))] (by kernel_rfl) ?_
      refine QL.st (.string (bs x1078.Name)) (ST.load (cell_ext (Rd.flat (F := fTake) (SH.rd (SH.front 2 hS1077)) hx1079 0 rfl)) rfl rfl Try.underlying9 rfl) rfl rfl rfl ?_
      refine QL.step1v 244 (.int .i64 x147.1) rfl (fun _ => by kernel_rfl) ?_
      refine QL.step1v 245 (.int .i64 (wI64 (0 - x147.1))) rfl (fun _ => by kernel_rfl) ?_
      refine QL.step1v 246 (.slice a128 x123.2.length c129) rfl (fun _ => by kernel_rfl) ?_
      refine QL.step1v 247 (.int .i64 st1047.2) rfl (fun _ => by kernel_rfl) ?_
      refine QL.subk [3, 4, 5, 6, 7, 22, 23, 26, 35, 36, 238, 243, 245, 246, 247] [(3, .slice a17 x15.1.length c18), (4, .string (bs x15.2.1)), (5, .int .i64 x15.2.2), (6, .slice a29 x27.1.length c30), (7, .int .i64 x27.2), (22, .slice a125 x123.1.length c126), (23, .slice a128 x123.2.length c129), (26, .int .i64 x147.1), (35, .slice a1048 st1047.1.length c1049), (36, .int .i64 st1047.2), (238, .slice a1048 st1047.1.length c1049), (243, .string (bs x1078.Name)), (245, .int .i64 (wI64 (0 - x147.1))), (246, .slice a128 x123.2.length c129), (247, .int .i64 st1047.2)] (by kernel_rfl) ?_
      obtain ⟨x1080, hx1081, hm⟩ := bindE hm
      refine QL.st (.pointer (some (at_ a128 (Int.toNat st1047.2 * 2)))) (ST.index (T := fTake.ty) (xs := x123.2) (SH.rd (SH.front 2 hS1077)) hx1081 rfl rfl rfl Try.underlying30 (info43).1 (info43).2.1) rfl rfl rfl ?_
      refine QL.step1v 249 (.pointer (some (at_ a128 (Int.toNat st1047.2 * 2 + 1)))) rfl (fun _ => by kernel_rfl) ?_
      refine QL.subk [3, 4, 5, 6, 7, 22, 23, 26, 35, 36, 238, 243, 245, 249] [(3, .slice a17 x15.1.length c18), (4, .string (bs x15.2.1)), (5, .int .i64 x15.2.2), (6, .slice a29 x27.1.length c30), (7, .int .i64 x27.2), (22, .slice a125 x123.1.length c126), (23, .slice a128 x123.2.length c129), (26, .int .i64 x147.1), (35, .slice a1048 st1047.1.length c1049), (36, .int .i64 st1047.2), (238, .slice a1048 st1047.1.length c1049), (243, .string (bs x1078.Name)), (245, .int .i64 (wI64 (0 - x147.1))), (249, .pointer (some (at_ a128 (Int.toNat st1047.2 * 2 + 1))))] (by kernel_rfl) ?_
      refine QL.st (.int .i64 x1080.Many) (ST.load (cell_ext (Rd.flat (F := fTake) (SH.rd (SH.front 2 hS1077)) hx1081 1 rfl)) rfl rfl Try.underlying2 rfl) rfl rfl rfl ?_
      refine QL.step1v 251 (.int .i64 (wI64 ((wI64 (0 - x147.1)) * x1080.Many))) rfl (fun _ => by kernel_rfl) ?_
      refine QL.step1v 252 (.agg #[.string (bs x1078.Name), .int .i64 (wI64 ((wI64 (0 - x147.1)) * x1080.Many))]) rfl (fun _ => by kernel_rfl) ?_
      refine QL.subk [3, 4, 5, 6, 7, 22, 23, 26, 35, 36, 238, 252] [(3, .slice a17 x15.1.length c18), (4, .string (bs x15.2.1)), (5, .int .i64 x15.2.2), (6, .slice a29 x27.1.length c30), (7, .int .i64 x27.2), (22, .slice a125 x123.1.length c126), (23, .slice a128 x123.2.length c129), (26, .int .i64 x147.1), (35, .slice a1048 st1047.1.length c1049), (36, .int .i64 st1047.2), (238, .slice a1048 st1047.1.length c1049), (252, .agg #[.string (bs x1078.Name), .int .i64 (wI64 ((wI64 (0 - x147.1)) * x1080.Many))])] (by kernel_rfl) ?_
      refine QL.nil ?_
      intro w1082 hE1083
      have hb1084 : Ext w w1082 := Ext.trans hb1075 hE1083
      have hL1085 : w.heap.size ≤ w1082.heap.size := Nat.le_trans hL1076 hE1083.size
      have hS1086 : SH w1082 w.heap.size [aOwn fTake 43 a1048 c1049 st1047.1, aOwn fGood 56 a125 c126 x123.1, aOwn fTake 43 a128 c129 x123.2, aOwn fGood 56 a29 c30 x27.1, aOwn fGood 56 a17 c18 x15.1] := SH.ext hS1077 hE1083
      refine WA.one (i := 15) (D' := [0, 1, 2, 3, 4, 5, 6, 7, 8, 9, 10, 11, 12, 13, 14, 15]) rfl rfl (by kernel_rfl) ?_
      refine WL.row fTake 43 ([(STake.mk x1078.Name (wI64 ((wI64 (0 - x147.1)) * x1080.Many)))] : List STake) 1 #[.string (bs x1078.Name), .int .i64 (wI64 ((wI64 (0 - x147.1)) * x1080.Many))] 253 (by kernel_rfl) rfl rfl rfl rfl rfl rfl rfl ?_
      intro a1087 c1088 w1089 hE1090 hR1091
      have hb1093 : Ext w w1089 := Ext.trans hb1084 hE1090
      have hL1094 : w.heap.size ≤ w1089.heap.size := Nat.le_trans hL1085 hE1090.size
      have hS1095 : SH w1089 w.heap.size [aOwn fTake 43 a1087 c1088 ([(STake.mk x1078.Name (wI64 ((wI64 (0 - x147.1)) * x1080.Many)))] : List STake), aOwn fTake 43 a1048 c1049 st1047.1, aOwn fGood 56 a125 c126 x123.1, aOwn fTake 43 a128 c129 x123.2, aOwn fGood 56 a29 c30 x27.1, aOwn fGood 56 a17 c18 x15.1] := SH.add hS1086 hE1090 hL1085 hR1091
      refine WL.sub [(3, .slice a17 x15.1.length c18), (4, .string (bs x15.2.1)), (5, .int .i64 x15.2.2), (6, .slice a29 x27.1.length c30), (7, .int .i64 x27.2), (22, .slice a125 x123.1.length c126), (23, .slice a128 x123.2.length c129), (26, .int .i64 x147.1), (35, .slice a1048 st1047.1.length c1049), (36, .int .i64 st1047.2), (238, .slice a1048 st1047.1.length c1049), (253, .slice a1087 (([(STake.mk x1078.Name (wI64 ((wI64 (0 - x147.1)) * x1080.Many)))] : List STake).length) c1088)] ⟨rfl, rfl, rfl, rfl, rfl, rfl, rfl, rfl, rfl, rfl, rfl, rfl, trivial⟩ ?_
      refine WL.nil ?_
      refine WA.one (i := 16) (D' := [0, 1, 2, 3, 4, 5, 6, 7, 8, 9, 10, 11, 12, 13, 14, 15, 16]) rfl rfl (by kernel_rfl) ?_
      obtain ⟨x1096, hx1097, hm⟩ := bindE hm
      refine WL.append (F := fTake) (xs := st1047.1) (ys := ([(STake.mk x1078.Name (wI64 ((wI64 (0 - x147.1)) * x1080.Many)))] : List STake)) 254 (SH.front 1 hS1095) hL1094 (SH.rd (SH.front 0 hS1095)) hx1097 rfl rfl rfl Try.underlying30 (info43).1 (info43).2.2.1 (info43).2.1 (info43).2.2.2 rfl rfl rfl rfl rfl ?_
      intro a1098 c1099 w1100 hB1101 hS1102
      have hb1103 : Ext w w1100 := Below.trans hb1093 hB1101
      have hL1104 : w.heap.size ≤ w1100.heap.size := Nat.le_trans hL1094 hB1101.size
      refine WL.sub [(3, .slice a17 x15.1.length c18), (4, .string (bs x15.2.1)), (5, .int .i64 x15.2.2), (6, .slice a29 x27.1.length c30), (7, .int .i64 x27.2), (22, .slice a125 x123.1.length c126), (23, .slice a128 x123.2.length c129), (26, .int .i64 x147.1), (35, .slice a1048 st1047.1.length c1049), (36, .int .i64 st1047.2), (254, .slice a1098 x1096.length c1099)] ⟨rfl, rfl, rfl, rfl, rfl, rfl, rfl, rfl, rfl, rfl, rfl, trivial⟩ ?_
      refine WL.nil ?_
      refine WA.one (i := 17) (D' := [0, 1, 2, 3, 4, 5, 6, 7, 8, 9, 10, 11, 12, 13, 14, 15, 16, 17]) rfl rfl (by kernel_rfl) ?_
      refine WL.runk 1 [3, 4, 5, 6, 7, 22, 23, 26, 35, 36] [(3, .slice a17 x15.1.length c18), (4, .string (bs x15.2.1)), (5, .int .i64 x15.2.2), (6, .slice a29 x27.1.length c30), (7, .int .i64 x27.2), (22, .slice a125 x123.1.length c126), (23, .slice a128 x123.2.length c129), (26, .int .i64 x147.1), (35, .slice a1098 x1096.length c1099), (36, .int .i64 st1047.2)] (by kernel_rfl) ?_
      refine WL.nil ?_
      refine WA.done (by kernel_rfl) ?_
      refine WQ.block_normal ?_
      refine WQ.then_normal (hK1066 _ _ _ ?_)
      refine WP.region ?_
      refine WL.runk 3 [3, 4, 5, 6, 7, 22, 23, 26, 35, 36] [(3, .slice a17 x15.1.length c18), (4, .string (bs x15.2.1)), (5, .int .i64 x15.2.2), (6, .slice a29 x27.1.length c30), (7, .int .i64 x27.2), (22, .slice a125 x123.1.length c126), (23, .slice a128 x123.2.length c129), (26, .int .i64 x147.1), (35, .slice a1098 x1096.length c1099), (36, .int .i64 (wI64 (st1047.2 + 1)))] (by kernel_rfl) ?_
      refine WL.nil ?_
      obtain rfl := Option.some.inj hm
      exact WQ.round hK1057 ⟨(x1096, (wI64 (st1047.2 + 1))), _, _, rfl, hb1103, hL1104, (SH.take 5 (SH.front 4 (SH.front 5 (SH.front 5 (SH.front 5 (SH.front 5 hS1102)))))), hl1055⟩ (Nat.lt_succ_self _) ⟨rfl, rfl, rfl, rfl, rfl, rfl, rfl, rfl, rfl, rfl, trivial⟩
    have hm := iteF hm hc1065
    refine WP.exit ?_
    refine WQ.then_exit ?_
    refine WQ.then_exit ?_
    refine WQ.block_here ?_
    obtain rfl := Option.some.inj hm
    obtain rfl := afterN_done hl1055
    have hm := hmo1056
    refine WQ.then_normal (hK1045 _ _ _ ?_)
    refine WP.seq (fun K1105 hK1105 => ?_)
    refine WP.region ?_
    refine WL.runk 2 [3, 4, 5, 6, 7, 23, 256, 257] [(3, .slice a17 x15.1.length c18), (4, .string (bs x15.2.1)), (5, .int .i64 x15.2.2), (6, .slice a29 x27.1.length c30), (7, .int .i64 x27.2), (23, .slice a128 x123.2.length c129), (256, .slice a125 x123.1.length c126), (257, .slice a1048 st1047.1.length c1049)] (by kernel_rfl) ?_
    obtain ⟨x1106, hx1107, hm⟩ := bindE hm
    refine WL.call 44 #[.slice a125 x123.1.length c126, .slice a1048 st1047.1.length c1049] rfl rfl (by kernel_rfl) (c_44 n x123.1 a125 c126 st1047.1 a1048 c1049 w1051 hx1107 (SH.rd (SH.front 1 hS1054)) (SH.le (SH.front 1 hS1054)).1 (SH.rd (SH.front 0 hS1054)) (SH.le (SH.front 0 hS1054)).1) ?_
    rintro _ w1111 ⟨a1108, c1109, rfl, hE1112, hR1113⟩
    refine ⟨_, rfl, ?_⟩
    have hb1114 : Ext w w1111 := Ext.trans hb1052 hE1112
    have hL1115 : w.heap.size ≤ w1111.heap.size := Nat.le_trans hL1053 hE1112.size
    have hS1116 : SH w1111 w.heap.size [aOwn fGood 56 a1108 c1109 x1106.1, aOwn fTake 43 a1048 c1049 st1047.1, aOwn fGood 56 a125 c126 x123.1, aOwn fTake 43 a128 c129 x123.2, aOwn fGood 56 a29 c30 x27.1, aOwn fGood 56 a17 c18 x15.1] := SH.add hS1054 hE1112 hL1053 hR1113
    refine WL.runk 7 [3, 4, 5, 6, 7, 23, 37, 38, 39] [(3, .slice a17 x15.1.length c18), (4, .string (bs x15.2.1)), (5, .int .i64 x15.2.2), (6, .slice a29 x27.1.length c30), (7, .int .i64 x27.2), (23, .slice a128 x123.2.length c129), (37, .slice a1108 x1106.1.length c1109), (38, .int .i64 x1106.2.1), (39, .int .i64 x1106.2.2)] (by kernel_rfl) ?_
    refine WL.nil ?_
    refine WQ.then_normal (hK1105 _ _ _ ?_)
    refine WP.seq (fun K1117 hK1117 => ?_)
    refine WP.seq (fun K1118 hK1118 => ?_)
    obtain ⟨x1120, hx1121, hm⟩ := bindE hm
    refine WP.cut (fun env' w' => env' = [(3, .slice a17 x15.1.length c18), (4, .string (bs x15.2.1)), (5, .int .i64 x15.2.2), (6, .slice a29 x27.1.length c30), (7, .int .i64 x27.2), (23, .slice a128 x123.2.length c129), (37, .slice a1108 x1106.1.length c1109), (267, .bool x1120)] ∧ Ext w w' ∧ w.heap.size ≤ w'.heap.size ∧ SH w' w.heap.size [aOwn fGood 56 a1108 c1109 x1106.1, aOwn fTake 43 a128 c129 x123.2, aOwn fGood 56 a29 c30 x27.1, aOwn fGood 56 a17 c18 x15.1]) ?_ ?_
    · have hm := hx1121; clear hx1121
      refine WP.region ?_
      refine WL.runk 3 [3, 4, 5, 6, 7, 23, 37, 38, 264] [(3, .slice a17 x15.1.length c18), (4, .string (bs x15.2.1)), (5, .int .i64 x15.2.2), (6, .slice a29 x27.1.length c30), (7, .int .i64 x27.2), (23, .slice a128 x123.2.length c129), (37, .slice a1108 x1106.1.length c1109), (38, .int .i64 x1106.2.1), (264, .bool (x1106.2.2 != 0))] (by kernel_rfl) ?_
      refine WL.case (x1106.2.2 != 0) [264] ⟨rfl, trivial⟩ (fun hc1122 => ?_) (fun hc1122 => ?_)
      · have hm := iteT hm hc1122
        refine WL.runk 3 [3, 4, 5, 6, 7, 23, 37, 267] [(3, .slice a17 x15.1.length c18), (4, .string (bs x15.2.1)), (5, .int .i64 x15.2.2), (6, .slice a29 x27.1.length c30), (7, .int .i64 x27.2), (23, .slice a128 x123.2.length c129), (37, .slice a1108 x1106.1.length c1109), (267, .bool true)] (by kernel_rfl) ?_
        refine WL.nil ?_
        obtain rfl := Option.some.inj hm
        exact WQ.post' ⟨rfl, hb1114, hL1115, (SH.take 4 (SH.front 3 (SH.front 5 (SH.front 5 (SH.front 5 hS1116)))))⟩ ⟨rfl, rfl, rfl, rfl, rfl, rfl, rfl, rfl, trivial⟩
      have hm := iteF hm hc1122
      refine WL.runk 3 [3, 4, 5, 6, 7, 23, 37, 267] [(3, .slice a17 x15.1.length c18), (4, .string (bs x15.2.1)), (5, .int .i64 x15.2.2), (6, .slice a29 x27.1.length c30), (7, .int .i64 x27.2), (23, .slice a128 x123.2.length c129), (37, .slice a1108 x1106.1.length c1109), (267, .bool (x1106.2.1 != (-1)))] (by kernel_rfl) ?_
      refine WL.nil ?_
      obtain rfl := Option.some.inj hm
      exact WQ.post' ⟨rfl, hb1114, hL1115, (SH.take 4 (SH.front 3 (SH.front 5 (SH.front 5 (SH.front 5 hS1116)))))⟩ ⟨rfl, rfl, rfl, rfl, rfl, rfl, rfl, rfl, trivial⟩
    clear hx1121
    rintro _ w1123 ⟨rfl, hb1124, hL1125, hS1126⟩
    refine WQ.then_normal (hK1118 _ _ _ ?_)
    refine WP.cond x1120 rfl rfl (fun hc1127 => ?_) (fun hc1127 => ?_)
    · have hm := iteT hm hc1127
      refine WP.seq (fun K1128 hK1128 => ?_)
      refine WP.region ?_
      refine WL.runk 1 [2] [(2, .bool false)] (by kernel_rfl) ?_
      refine WL.nil ?_
      refine WQ.then_normal (hK1128 _ _ _ ?_)
      refine WP.ret ?_
      refine WQ.then_ret ?_
      refine WQ.then_ret ?_
      obtain rfl := Option.some.inj hm
      exact WQ.ret1 _ rfl rfl ⟨rfl, hb1124⟩
    have hm := iteF hm hc1127
    refine WP.skip ?_
    refine WQ.then_normal (hK1117 _ _ _ ?_)
    refine WP.seq (fun K1129 hK1129 => ?_)
    refine WP.region ?_
    refine WL.runk 2 [3, 4, 5, 6, 7, 269, 270] [(3, .slice a17 x15.1.length c18), (4, .string (bs x15.2.1)), (5, .int .i64 x15.2.2), (6, .slice a29 x27.1.length c30), (7, .int .i64 x27.2), (269, .slice a1108 x1106.1.length c1109), (270, .slice a128 x123.2.length c129)] (by kernel_rfl) ?_
    obtain ⟨x1130, hx1131, hm⟩ := bindE hm
    refine WL.call 38 #[.slice a1108 x1106.1.length c1109, .slice a128 x123.2.length c129] rfl rfl (by kernel_rfl) (c_38 n x1106.1 a1108 c1109 x123.2 a128 c129 w1123 hx1131 (SH.rd (SH.front 0 hS1126)) (SH.le (SH.front 0 hS1126)).1 (SH.rd (SH.front 1 hS1126)) (SH.le (SH.front 1 hS1126)).1) ?_
    rintro _ w1132 ⟨rfl, hE1133⟩
    refine ⟨_, rfl, ?_⟩
    have hb1135 : Ext w w1132 := Ext.trans hb1124 hE1133
    have hL1136 : w.heap.size ≤ w1132.heap.size := Nat.le_trans hL1125 hE1133.size
    have hS1137 : SH w1132 w.heap.size [aOwn fGood 56 a1108 c1109 x1106.1, aOwn fTake 43 a128 c129 x123.2, aOwn fGood 56 a29 c30 x27.1, aOwn fGood 56 a17 c18 x15.1] := SH.ext hS1126 hE1133
    refine WL.runk 5 [3, 4, 5, 6, 7, 40, 41] [(3, .slice a17 x15.1.length c18), (4, .string (bs x15.2.1)), (5, .int .i64 x15.2.2), (6, .slice a29 x27.1.length c30), (7, .int .i64 x27.2), (40, .int .i64 x1130.1), (41, .int .i64 x1130.2)] (by kernel_rfl) ?_
    refine WL.nil ?_
    refine WQ.then_normal (hK1129 _ _ _ ?_)
    refine WP.seq (fun K1138 hK1138 => ?_)
    obtain ⟨x1140, hx1141, hm⟩ := bindE hm
    refine WP.cut (fun env' w' => env' = [(3, .slice a17 x15.1.length c18), (4, .string (bs x15.2.1)), (5, .int .i64 x15.2.2), (6, .slice a29 x27.1.length c30), (7, .int .i64 x27.2), (279, .bool x1140)] ∧ Ext w w' ∧ w.heap.size ≤ w'.heap.size ∧ SH w' w.heap.size [aOwn fGood 56 a29 c30 x27.1, aOwn fGood 56 a17 c18 x15.1]) ?_ ?_
    · have hm := hx1141; clear hx1141
      refine WP.region ?_
      refine WL.runk 3 [3, 4, 5, 6, 7, 40, 276] [(3, .slice a17 x15.1.length c18), (4, .string (bs x15.2.1)), (5, .int .i64 x15.2.2), (6, .slice a29 x27.1.length c30), (7, .int .i64 x27.2), (40, .int .i64 x1130.1), (276, .bool (x1130.2 != 0))] (by kernel_rfl) ?_
      refine WL.case (x1130.2 != 0) [276] ⟨rfl, trivial⟩ (fun hc1142 => ?_) (fun hc1142 => ?_)
      · have hm := iteT hm hc1142
        refine WL.runk 3 [3, 4, 5, 6, 7, 279] [(3, .slice a17 x15.1.length c18), (4, .string (bs x15.2.1)), (5, .int .i64 x15.2.2), (6, .slice a29 x27.1.length c30), (7, .int .i64 x27.2), (279, .bool true)] (by kernel_rfl) ?_
        refine WL.nil ?_
        obtain rfl := Option.some.inj hm
        exact WQ.post' ⟨rfl, hb1135, hL1136, (SH.take 2 (SH.front 3 (SH.front 3 hS1137)))⟩ ⟨rfl, rfl, rfl, rfl, rfl, rfl, trivial⟩
      have hm := iteF hm hc1142
      refine WL.runk 3 [3, 4, 5, 6, 7, 279] [(3, .slice a17 x15.1.length c18), (4, .string (bs x15.2.1)), (5, .int .i64 x15.2.2), (6, .slice a29 x27.1.length c30), (7, .int .i64 x27.2), (279, .bool (x1130.1 != 0))] (by kernel_rfl) ?_
      refine WL.nil ?_
      obtain rfl := Option.some.inj hm
      exact WQ.post' ⟨rfl, hb1135, hL1136, (SH.take 2 (SH.front 3 (SH.front 3 hS1137)))⟩ ⟨rfl, rfl, rfl, rfl, rfl, rfl, trivial⟩
    clear hx1141
    rintro _ w1143 ⟨rfl, hb1144, hL1145, hS1146⟩
    refine WQ.then_normal (hK1138 _ _ _ ?_)
    refine WP.cond x1140 rfl rfl (fun hc1147 => ?_) (fun hc1147 => ?_)
    · have hm := iteT hm hc1147
      refine WP.seq (fun K1148 hK1148 => ?_)
      refine WP.region ?_
      refine WL.runk 1 [2] [(2, .bool false)] (by kernel_rfl) ?_
      refine WL.nil ?_
      refine WQ.then_normal (hK1148 _ _ _ ?_)
      refine WP.ret ?_
      refine WQ.then_ret ?_
      obtain rfl := Option.some.inj hm
      exact WQ.ret1 _ rfl rfl ⟨rfl, hb1144⟩
    have hm := iteF hm hc1147
    refine WP.skip ?_
    refine WQ.then_normal (hK1020 _ _ _ ?_)
    refine WP.seq (fun K1149 hK1149 => ?_)
    refine WP.seq (fun K1150 hK1150 => ?_)
    refine WP.region ?_
    refine WL.runk 2 [3, 4, 5, 6, 281] [(3, .slice a17 x15.1.length c18), (4, .string (bs x15.2.1)), (5, .int .i64 x15.2.2), (6, .slice a29 x27.1.length c30), (281, .bool (x27.2 != 0))] (by kernel_rfl) ?_
    refine WL.nil ?_
    refine WQ.then_normal (hK1150 _ _ _ ?_)
    refine WP.cond (x27.2 != 0) rfl rfl (fun hc1151 => ?_) (fun hc1151 => ?_)
    · have hm := iteT hm hc1151
      refine WP.seq (fun K1152 hK1152 => ?_)
      refine WP.region ?_
      refine WL.runk 1 [2] [(2, .bool true)] (by kernel_rfl) ?_
      refine WL.nil ?_
      refine WQ.then_normal (hK1152 _ _ _ ?_)
      refine WP.ret ?_
      refine WQ.then_ret ?_
      obtain rfl := Option.some.inj hm
      exact WQ.ret1 _ rfl rfl ⟨rfl, hb1144⟩
    have hm := iteF hm hc1151
    refine WP.skip ?_
    refine WQ.then_normal (hK1149 _ _ _ ?_)
    refine WP.seq (fun K1153 hK1153 => ?_)
    refine WP.region ?_
    refine WL.runk 3 [3, 4, 5, 283, 284, 285] [(3, .slice a17 x15.1.length c18), (4, .string (bs x15.2.1)), (5, .int .i64 x15.2.2), (283, .slice a29 x27.1.length c30), (284, .string (bs x15.2.1)), (285, .int .i64 x15.2.2)] (by kernel_rfl) ?_
    obtain ⟨x1154, hx1155, hm⟩ := bindE hm
    refine WL.call 30 #[.slice a29 x27.1.length c30, .string (bs x15.2.1), .int .i64 x15.2.2] rfl rfl (by kernel_rfl) (c_30 n x27.1 a29 c30 x15.2.1 x15.2.2 w1143 hx1155 (SH.rd (SH.front 0 hS1146)) (SH.le (SH.front 0 hS1146)).1) ?_
    rintro _ w1159 ⟨a1156, c1157, rfl, hE1160, hR1161⟩
    refine ⟨_, rfl, ?_⟩
    have hb1162 : Ext w w1159 := Ext.trans hb1144 hE1160
    have hL1163 : w.heap.size ≤ w1159.heap.size := Nat.le_trans hL1145 hE1160.size
    have hS1164 : SH w1159 w.heap.size [aOwn fGood 56 a1156 c1157 x1154.1, aOwn fGood 56 a29 c30 x27.1, aOwn fGood 56 a17 c18 x15.1] := SH.add hS1146 hE1160 hL1145 hR1161
    refine WL.runk 5 [3, 4, 5, 42, 43] [(3, .slice a17 x15.1.length c18), (4, .string (bs x15.2.1)), (5, .int .i64 x15.2.2), (42, .slice a1156 x1154.1.length c1157), (43, .int .i64 x1154.2)] (by kernel_rfl) ?_
    refine WL.nil ?_
    refine WQ.then_normal (hK1153 _ _ _ ?_)
    refine WP.seq (fun K1165 hK1165 => ?_)
    refine WP.region ?_
    refine WL.runk 5 [42, 43, 290, 294] [(42, .slice a1156 x1154.1.length c1157), (43, .int .i64 x1154.2), (290, .slice a17 x15.1.length c18), (294, .agg #[.string (bs x15.2.1), .int .i64 (wI64 (0 - x15.2.2))])] (by kernel_rfl) ?_
    obtain ⟨x1166, hx1167, hm⟩ := bindE hm
    refine WL.call 32 #[.slice a17 x15.1.length c18, .agg #[.string (bs x15.2.1), .int .i64 (wI64 (0 - x15.2.2))]] rfl rfl (by kernel_rfl) (c_32 n x15.1 a17 c18 (STake.mk x15.2.1 (wI64 (0 - x15.2.2))) w1159 hx1167 (SH.rd (SH.front 2 hS1164)) (SH.le (SH.front 2 hS1164)).1) ?_
    rintro _ w1171 ⟨a1168, c1169, rfl, hE1172, hR1173⟩
    refine ⟨_, rfl, ?_⟩
    have hb1174 : Ext w w1171 := Ext.trans hb1162 hE1172
    have hL1175 : w.heap.size ≤ w1171.heap.size := Nat.le_trans hL1163 hE1172.size
    have hS1176 : SH w1171 w.heap.size [aOwn fGood 56 a1168 c1169 x1166.1, aOwn fGood 56 a1156 c1157 x1154.1, aOwn fGood 56 a29 c30 x27.1, aOwn fGood 56 a17 c18 x15.1] := SH.add hS1164 hE1172 hL1163 hR1173
    refine WL.runk 5 [42, 43, 44, 45] [(42, .slice a1156 x1154.1.length c1157), (43, .int .i64 x1154.2), (44, .slice a1168 x1166.1.length c1169), (45, .int .i64 x1166.2)] (by kernel_rfl) ?_
    refine WL.nil ?_
    refine WQ.then_normal (hK1165 _ _ _ ?_)
    refine WP.seq (fun K1177 hK1177 => ?_)
    obtain ⟨x1188, hx1189, hm⟩ := bindE hm
    refine WP.cut (fun env' w' => env' = [(2, .bool x1188)] ∧ Ext w w' ∧ w.heap.size ≤ w'.heap.size ∧ SH w' w.heap.size []) ?_ ?_
    rotate_left
    · clear hx1189
      rintro _ w1200 ⟨rfl, hb1201, hL1202, hS1203⟩
      refine WQ.then_normal (hK1177 _ _ _ ?_)
      refine WP.ret ?_
      obtain rfl := Option.some.inj hm
      exact WQ.ret1 _ rfl rfl ⟨rfl, hb1201⟩
    have hm := hx1189; clear hx1189
    refine WP.region ?_
    refine WL.runk 3 [42, 44, 45, 300] [(42, .slice a1156 x1154.1.length c1157), (44, .slice a1168 x1166.1.length c1169), (45, .int .i64 x1166.2), (300, .bool (x1154.2 == 0))] (by kernel_rfl) ?_
    refine WL.case (x1154.2 == 0) [300] ⟨rfl, trivial⟩ (fun hc1190 => ?_) (fun hc1190 => ?_)
    rotate_left
    · have hm := iteF hm hc1190
      refine WL.runk 9 [2] [(2, .bool false)] (by kernel_rfl) ?_
      refine WL.nil ?_
      obtain rfl := Option.some.inj hm
      exact WQ.post' ⟨rfl, hb1174, hL1175, (SH.take 0 hS1176)⟩ ⟨rfl, trivial⟩
    have hm := iteT hm hc1190
    refine WL.runk 4 [42, 44, 304] [(42, .slice a1156 x1154.1.length c1157), (44, .slice a1168 x1166.1.length c1169), (304, .bool (x1166.2 == 0))] (by kernel_rfl) ?_
    refine WL.case (x1166.2 == 0) [304] ⟨rfl, trivial⟩ (fun hc1191 => ?_) (fun hc1191 => ?_)
    rotate_left
    · have hm := iteF hm hc1191
      refine WL.runk 5 [2] [(2, .bool false)] (by kernel_rfl) ?_
      refine WL.nil ?_
      obtain rfl := Option.some.inj hm
      exact WQ.post' ⟨rfl, hb1174, hL1175, (SH.take 0 hS1176)⟩ ⟨rfl, trivial⟩
    have hm := iteT hm hc1191
    refine WL.runk 2 [304, 305, 306] [(304, .bool true), (305, .slice a1156 x1154.1.length c1157), (306, .slice a1168 x1166.1.length c1169)] (by kernel_rfl) ?_
    obtain ⟨x1192, hx1193, hm⟩ := bindE hm
    refine WL.call 14 #[.slice a1156 x1154.1.length c1157, .slice a1168 x1166.1.length c1169] rfl rfl (by kernel_rfl) (c_14 n x1154.1 a1156 c1157 x1166.1 a1168 c1169 w1171 hx1193 (SH.rd (SH.front 1 hS1176)) (SH.le (SH.front 1 hS1176)).1 (SH.rd (SH.front 0 hS1176)) (SH.le (SH.front 0 hS1176)).1) ?_
    rintro _ w1194 ⟨rfl, hE1195⟩
    refine ⟨_, rfl, ?_⟩
    have hb1197 : Ext w w1194 := Ext.trans hb1174 hE1195
    have hL1198 : w.heap.size ≤ w1194.heap.size := Nat.le_trans hL1175 hE1195.size
    have hS1199 : SH w1194 w.heap.size [aOwn fGood 56 a1168 c1169 x1166.1, aOwn fGood 56 a1156 c1157 x1154.1, aOwn fGood 56 a29 c30 x27.1, aOwn fGood 56 a17 c18 x15.1] := SH.ext hS1176 hE1195
    refine WL.runk 2 [2] [(2, .bool x1192)] (by kernel_rfl) ?_
    refine WL.nil ?_
    obtain rfl := Option.some.inj hm
    exact WQ.post' ⟨rfl, hb1197, hL1198, (SH.take 0 hS1199)⟩ ⟨rfl, trivial⟩
  have hm := iteT hm hc275
  refine WP.seq (fun K276 hK276 => ?_)
  refine WP.region ?_
  refine WL.row fTake 43 ([] : List STake) 0 #[] 184 (by kernel_rfl) rfl rfl rfl rfl rfl rfl rfl ?_
  intro a277 c278 w279 hE280 hR281
  have hb283 : Ext w w279 := Ext.trans hb215 hE280
  have hL284 : w.heap.size ≤ w279.heap.size := Nat.le_trans hL216 hE280.size
  have hS285 : SH w279 w.heap.size [aOwn fTake 43 a277 c278 ([] : List STake), aOwn fGood 56 a125 c126 x123.1, aOwn fTake 43 a128 c129 x123.2, aOwn fTake 43 a113 c114 x111.1, aOwn fTake 43 a101 c102 x99.1, aOwn fGood 56 a89 c90 x87, aOwn fGood 56 a29 c30 x27.1, aOwn fGood 56 a17 c18 x15.1] := SH.add hS217 hE280 hL216 hR281
  refine WL.runk 1 [3, 4, 5, 6, 7, 17, 22, 23, 25, 26, 184, 185] [(3, .slice a17 x15.1.length c18), (4, .string (bs x15.2.1)), (5, .int .i64 x15.2.2), (6, .slice a29 x27.1.length c30), (7, .int .i64 x27.2), (17, .slice a89 x87.length c90), (22, .slice a125 x123.1.length c126), (23, .slice a128 x123.2.length c129), (25, .int .i64 x138.2), (26, .int .i64 x147.1), (184, .slice a277 (([] : List STake).length) c278), (185, .slice a113 x111.1.length c114)] (by kernel_rfl) ?_
  obtain ⟨x286, hx287, hm⟩ := bindE hm
  refine WL.append (F := fTake) (xs := ([] : List STake)) (ys := x111.1) 186 (SH.front 0 hS285) hL284 (SH.rd (SH.front 3 hS285)) hx287 rfl rfl rfl Try.underlying30 (info43).1 (info43).2.2.1 (info43).2.1 (info43).2.2.2 rfl rfl rfl rfl rfl ?_
  intro a288 c289 w290 hB291 hS292
  have hb293 : Ext w w290 := Below.trans hb283 hB291
  have hL294 : w.heap.size ≤ w290.heap.size := Nat.le_trans hL284 hB291.size
  refine WL.runk 1 [3, 4, 5, 6, 7, 17, 22, 23, 25, 26, 29] [(3, .slice a17 x15.1.length c18), (4, .string (bs x15.2.1)), (5, .int .i64 x15.2.2), (6, .slice a29 x27.1.length c30), (7, .int .i64 x27.2), (17, .slice a89 x87.length c90), (22, .slice a125 x123.1.length c126), (23, .slice a128 x123.2.length c129), (25, .int .i64 x138.2), (26, .int .i64 x147.1), (29, .slice a288 x286.length c289)] (by kernel_rfl) ?_
  refine WL.nil ?_
  refine WQ.then_normal (hK276 _ _ _ ?_)
  refine WP.seq (fun K295 hK295 => ?_)
  refine WP.region ?_
  refine WL.runk 2 [3, 4, 5, 6, 7, 22, 23, 25, 26, 188, 189] [(3, .slice a17 x15.1.length c18), (4, .string (bs x15.2.1)), (5, .int .i64 x15.2.2), (6, .slice a29 x27.1.length c30), (7, .int .i64 x27.2), (22, .slice a125 x123.1.length c126), (23, .slice a128 x123.2.length c129), (25, .int .i64 x138.2), (26, .int .i64 x147.1), (188, .slice a89 x87.length c90), (189, .slice a288 x286.length c289)] (by kernel_rfl) ?_
  obtain ⟨x296, hx297, hm⟩ := bindE hm
  refine WL.call 44 #[.slice a89 x87.length c90, .slice a288 x286.length c289] rfl rfl (by kernel_rfl) (c_44 n x87 a89 c90 x286 a288 c289 w290 hx297 (SH.rd (SH.front 5 hS292)) (SH.le (SH.front 5 hS292)).1 (SH.rd (SH.front 0 hS292)) (SH.le (SH.front 0 hS292)).1) ?_
  rintro _ w301 ⟨a298, c299, rfl, hE302, hR303⟩
  refine ⟨_, rfl, ?_⟩
  have hb304 : Ext w w301 := Ext.trans hb293 hE302
  have hL305 : w.heap.size ≤ w301.heap.size := Nat.le_trans hL294 hE302.size
  have hS306 : SH w301 w.heap.size [aOwn fGood 56 a298 c299 x296.1, aOwn fTake 43 a288 c289 x286, aOwn fGood 56 a125 c126 x123.1, aOwn fTake 43 a128 c129 x123.2, aOwn fTake 43 a113 c114 x111.1, aOwn fTake 43 a101 c102 x99.1, aOwn fGood 56 a89 c90 x87, aOwn fGood 56 a29 c30 x27.1, aOwn fGood 56 a17 c18 x15.1] := SH.add hS292 hE302 hL294 hR303
  refine WL.runk 7 [3, 4, 5, 6, 7, 22, 23, 25, 26, 30, 31, 32] [(3, .slice a17 x15.1.length c18), (4, .string (bs x15.2.1)), (5, .int .i64 x15.2.2), (6, .slice a29 x27.1.length c30), (7, .int .i64 x27.2), (22, .slice a125 x123.1.length c126), (23, .slice a128 x123.2.length c129), (25, .int .i64 x138.2), (26, .int .i64 x147.1), (30, .slice a298 x296.1.length c299), (31, .int .i64 x296.2.1), (32, .int .i64 x296.2.2)] (by kernel_rfl) ?_
  refine WL.nil ?_
  refine WQ.then_normal (hK295 _ _ _ ?_)
  refine WP.seq (fun K307 hK307 => ?_)
  refine WP.seq (fun K308 hK308 => ?_)
  refine WP.region ?_
  refine WL.runk 2 [3, 4, 5, 6, 7, 22, 23, 25, 26, 30, 31, 195] [(3, .slice a17 x15.1.length c18), (4, .string (bs x15.2.1)), (5, .int .i64 x15.2.2), (6, .slice a29 x27.1.length c30), (7, .int .i64 x27.2), (22, .slice a125 x123.1.length c126), (23, .slice a128 x123.2.length c129), (25, .int .i64 x138.2), (26, .int .i64 x147.1), (30, .slice a298 x296.1.length c299), (31, .int .i64 x296.2.1), (195, .bool (x296.2.2 != 0))] (by kernel_rfl) ?_
  refine WL.nil ?_
  refine WQ.then_normal (hK308 _ _ _ ?_)
  refine WP.cond (x296.2.2 != 0) rfl rfl (fun hc309 => ?_) (fun hc309 => ?_)
  · have hm := iteT hm hc309
    refine WP.seq (fun K310 hK310 => ?_)
    refine WP.region ?_
    refine WL.runk 1 [2] [(2, .bool false)] (by kernel_rfl) ?_
    refine WL.nil ?_
    refine WQ.then_normal (hK310 _ _ _ ?_)
    refine WP.ret ?_
    refine WQ.then_ret ?_
    refine WQ.then_ret ?_
    obtain rfl := Option.some.inj hm
    exact WQ.ret1 _ rfl rfl ⟨rfl, hb304⟩
  have hm := iteF hm hc309
  refine WP.skip ?_
  refine WQ.then_normal (hK307 _ _ _ ?_)
  refine WP.seq (fun K311 hK311 => ?_)
  refine WP.region ?_
  refine WL.runk 2 [3, 4, 5, 6, 7, 22, 23, 25, 26, 30, 197] [(3, .slice a17 x15.1.length c18), (4, .string (bs x15.2.1)), (5, .int .i64 x15.2.2), (6, .slice a29 x27.1.length c30), (7, .int .i64 x27.2), (22, .slice a125 x123.1.length c126), (23, .slice a128 x123.2.length c129), (25, .int .i64 x138.2), (26, .int .i64 x147.1), (30, .slice a298 x296.1.length c299), (197, .bool (x296.2.1 == (-1)))] (by kernel_rfl) ?_
  refine WL.nil ?_
  refine WQ.then_normal (hK311 _ _ _ ?_)
  refine WP.cond (x296.2.1 == (-1)) rfl rfl (fun hc312 => ?_) (fun hc312 => ?_)
  rotate_left
  · have hm := iteF hm hc312
    refine WP.skip ?_
    refine WQ.then_normal (hK273 _ _ _ ?_)
    refine WP.seq (fun K678 hK678 => ?_)
    refine WP.seq (fun K679 hK679 => ?_)
    obtain ⟨x683, hx684, hm⟩ := bindE hm
    refine WP.cut (fun env' w' => env' = [(3, .slice a17 x15.1.length c18), (4, .string (bs x15.2.1)), (5, .int .i64 x15.2.2), (6, .slice a29 x27.1.length c30), (7, .int .i64 x27.2), (22, .slice a125 x123.1.length c126), (23, .slice a128 x123.2.length c129), (26, .int .i64 x147.1), (224, .bool x683)] ∧ Ext w w' ∧ w.heap.size ≤ w'.heap.size ∧ SH w' w.heap.size [aOwn fGood 56 a125 c126 x123.1, aOwn fTake 43 a128 c129 x123.2, aOwn fGood 56 a29 c30 x27.1, aOwn fGood 56 a17 c18 x15.1]) ?_ ?_
    · have hm := hx684; clear hx684
      refine WP.region ?_
      refine WL.runk 3 [3, 4, 5, 6, 7, 22, 23, 26, 212] [(3, .slice a17 x15.1.length c18), (4, .string (bs x15.2.1)), (5, .int .i64 x15.2.2), (6, .slice a29 x27.1.length c30), (7, .int .i64 x27.2), (22, .slice a125 x123.1.length c126), (23, .slice a128 x123.2.length c129), (26, .int .i64 x147.1), (212, .bool (x138.2 == 0))] (by kernel_rfl) ?_
      refine WL.case (x138.2 == 0) [212] ⟨rfl, trivial⟩ (fun hc685 => ?_) (fun hc685 => ?_)
      rotate_left
      · have hm := iteF hm hc685
        refine WL.runk 12 [3, 4, 5, 6, 7, 22, 23, 26, 224] [(3, .slice a17 x15.1.length c18), (4, .string (bs x15.2.1)), (5, .int .i64 x15.2.2), (6, .slice a29 x27.1.length c30), (7, .int .i64 x27.2), (22, .slice a125 x123.1.length c126), (23, .slice a128 x123.2.length c129), (26, .int .i64 x147.1), (224, .bool false)] (by kernel_rfl) ?_
        refine WL.nil ?_
        obtain rfl := Option.some.inj hm
        exact WQ.post' ⟨rfl, hb304, hL305, (SH.take 4 (SH.front 5 (SH.front 5 (SH.front 8 (SH.front 8 hS306)))))⟩ ⟨rfl, rfl, rfl, rfl, rfl, rfl, rfl, rfl, rfl, trivial⟩
      have hm := iteT hm hc685
      refine WL.runk 4 [3, 4, 5, 6, 7, 22, 23, 26, 216] [(3, .slice a17 x15.1.length c18), (4, .string (bs x15.2.1)), (5, .int .i64 x15.2.2), (6, .slice a29 x27.1.length c30), (7, .int .i64 x27.2), (22, .slice a125 x123.1.length c126), (23, .slice a128 x123.2.length c129), (26, .int .i64 x147.1), (216, .bool (decide (x147.1 > 0)))] (by kernel_rfl) ?_
      refine WL.case (decide (x147.1 > 0)) [216] ⟨rfl, trivial⟩ (fun hc686 => ?_) (fun hc686 => ?_)
      rotate_left
      · have hm := iteF hm hc686
        refine WL.runk 8 [3, 4, 5, 6, 7, 22, 23, 26, 224] [(3, .slice a17 x15.1.length c18), (4, .string (bs x15.2.1)), (5, .int .i64 x15.2.2), (6, .slice a29 x27.1.length c30), (7, .int .i64 x27.2), (22, .slice a125 x123.1.length c126), (23, .slice a128 x123.2.length c129), (26, .int .i64 x147.1), (224, .bool false)] (by kernel_rfl) ?_
        refine WL.nil ?_
        obtain rfl := Option.some.inj hm
        exact WQ.post' ⟨rfl, hb304, hL305, (SH.take 4 (SH.front 5 (SH.front 5 (SH.front 8 (SH.front 8 hS306)))))⟩ ⟨rfl, rfl, rfl, rfl, rfl, rfl, rfl, rfl, rfl, trivial⟩
      have hm := iteT hm hc686
      refine WL.runk 4 [3, 4, 5, 6, 7, 22, 23, 26, 220] [(3, .slice a17 x15.1.length c18), (4, .string (bs x15.2.1)), (5, .int .i64 x15.2.2), (6, .slice a29 x27.1.length c30), (7, .int .i64 x27.2), (22, .slice a125 x123.1.length c126), (23, .slice a128 x123.2.length c129), (26, .int .i64 x147.1), (220, .bool (decide (x147.1 < 1000)))] (by kernel_rfl) ?_
      refine WL.case (decide (x147.1 < 1000)) [220] ⟨rfl, trivial⟩ (fun hc687 => ?_) (fun hc687 => ?_)
      · have hm := iteT hm hc687
        refine WL.runk 4 [3, 4, 5, 6, 7, 22, 23, 26, 224] [(3, .slice a17 x15.1.length c18), (4, .string (bs x15.2.1)), (5, .int .i64 x15.2.2), (6, .slice a29 x27.1.length c30), (7, .int .i64 x27.2), (22, .slice a125 x123.1.length c126), (23, .slice a128 x123.2.length c129), (26, .int .i64 x147.1), (224, .bool (decide ((x123.2.length : Int) < 20)))] (by kernel_rfl) ?_
        refine WL.nil ?_
        obtain rfl := Option.some.inj hm
        exact WQ.post' ⟨rfl, hb304, hL305, (SH.take 4 (SH.front 5 (SH.front 5 (SH.front 8 (SH.front 8 hS306)))))⟩ ⟨rfl, rfl, rfl, rfl, rfl, rfl, rfl, rfl, rfl, trivial⟩
      have hm := iteF hm hc687
      refine WL.runk 4 [3, 4, 5, 6, 7, 22, 23, 26, 224] [(3, .slice a17 x15.1.length c18), (4, .string (bs x15.2.1)), (5, .int .i64 x15.2.2), (6, .slice a29 x27.1.length c30), (7, .int .i64 x27.2), (22, .slice a125 x123.1.length c126), (23, .slice a128 x123.2.length c129), (26, .int .i64 x147.1), (224, .bool false)] (by kernel_rfl) ?_
      refine WL.nil ?_
      obtain rfl := Option.some.inj hm
      exact WQ.post' ⟨rfl, hb304, hL305, (SH.take 4 (SH.front 5 (SH.front 5 (SH.front 8 (SH.front 8 hS306)))))⟩ ⟨rfl, rfl, rfl, rfl, rfl, rfl, rfl, rfl, rfl, trivial⟩
    clear hx684
    rintro _ w688 ⟨rfl, hb689, hL690, hS691⟩
    refine WQ.then_normal (hK679 _ _ _ ?_)
    refine WP.cond x683 rfl rfl (fun hc692 => ?_) (fun hc692 => ?_)
    rotate_left
    · have hm := iteF hm hc692
      refine WP.skip ?_
      refine WQ.then_normal (hK678 _ _ _ ?_)
      refine WP.seq (fun K965 hK965 => ?_)
      refine WP.seq (fun K966 hK966 => ?_)
      refine WP.region ?_
      refine WL.runk 2 [3, 4, 5, 6, 281] [(3, .slice a17 x15.1.length c18), (4, .string (bs x15.2.1)), (5, .int .i64 x15.2.2), (6, .slice a29 x27.1.length c30), (281, .bool (x27.2 != 0))] (by kernel_rfl) ?_
      refine WL.nil ?_
      refine WQ.then_normal (hK966 _ _ _ ?_)
      refine WP.cond (x27.2 != 0) rfl rfl (fun hc967 => ?_) (fun hc967 => ?_)
      · have hm := iteT hm hc967
        refine WP.seq (fun K968 hK968 => ?_)
        refine WP.region ?_
        refine WL.runk 1 [2] [(2, .bool true)] (by kernel_rfl) ?_
        refine WL.nil ?_
        refine WQ.then_normal (hK968 _ _ _ ?_)
        refine WP.ret ?_
        refine WQ.then_ret ?_
        obtain rfl := Option.some.inj hm
        exact WQ.ret1 _ rfl rfl ⟨rfl, hb689⟩
      have hm := iteF hm hc967
      refine WP.skip ?_
      refine WQ.then_normal (hK965 _ _ _ ?_)
      refine WP.seq (fun K969 hK969 => ?_)
      refine WP.region ?_
      refine WL.runk 3 [3, 4, 5, 283, 284, 285] [(3, .slice a17 x15.1.length c18), (4, .string (bs x15.2.1)), (5, .int .i64 x15.2.2), (283, .slice a29 x27.1.length c30), (284, .string (bs x15.2.1)), (285, .int .i64 x15.2.2)] (by kernel_rfl) ?_
      obtain ⟨x970, hx971, hm⟩ := bindE hm
      refine WL.call 30 #[.slice a29 x27.1.length c30, .string (bs x15.2.1), .int .i64 x15.2.2] rfl rfl (by kernel_rfl) (c_30 n x27.1 a29 c30 x15.2.1 x15.2.2 w688 hx971 (SH.rd (SH.front 2 hS691)) (SH.le (SH.front 2 hS691)).1) ?_
      rintro _ w975 ⟨a972, c973, rfl, hE976, hR977⟩
      refine ⟨_, rfl, ?_⟩
      have hb978 : Ext w w975 := Ext.trans hb689 hE976
      have hL979 : w.heap.size ≤ w975.heap.size := Nat.le_trans hL690 hE976.size
      have hS980 : SH w975 w.heap.size [aOwn fGood 56 a972 c973 x970.1, aOwn fGood 56 a125 c126 x123.1, aOwn fTake 43 a128 c129 x123.2, aOwn fGood 56 a29 c30 x27.1, aOwn fGood 56 a17 c18 x15.1] := SH.add hS691 hE976 hL690 hR977
      refine WL.runk 5 [3, 4, 5, 42, 43] [(3, .slice a17 x15.1.length c18), (4, .string (bs x15.2.1)), (5, .int .i64 x15.2.2), (42, .slice a972 x970.1.length c973), (43, .int .i64 x970.2)] (by kernel_rfl) ?_
      refine WL.nil ?_
      refine WQ.then_normal (hK969 _ _ _ ?_)
      refine WP.seq (fun K981 hK981 => ?_)
      refine WP.region ?_
      refine WL.runk 5 [42, 43, 290, 294] [(42, .slice a972 x970.1.length c973), (43, .int .i64 x970.2), (290, .slice a17 x15.1.length c18), (294, .agg #[.string (bs x15.2.1), .int .i64 (wI64 (0 - x15.2.2))])] (by kernel_rfl) ?_
      obtain ⟨x982, hx983, hm⟩ := bindE hm
      refine WL.call 32 #[.slice a17 x15.1.length c18, .agg #[.string (bs x15.2.1), .int .i64 (wI64 (0 - x15.2.2))]] rfl rfl (by kernel_rfl) (c_32 n x15.1 a17 c18 (STake.mk x15.2.1 (wI64 (0 - x15.2.2))) w975 hx983 (SH.rd (SH.front 4 hS980)) (SH.le (SH.front 4 hS980)).1) ?_
      rintro _ w987 ⟨a984, c985, rfl, hE988, hR989⟩
      refine ⟨_, rfl, ?_⟩
      have hb990 : Ext w w987 := Ext.trans hb978 hE988
      have hL991 : w.heap.size ≤ w987.heap.size := Nat.le_trans hL979 hE988.size
      have hS992 : SH w987 w.heap.size [aOwn fGood 56 a984 c985 x982.1, aOwn fGood 56 a972 c973 x970.1, aOwn fGood 56 a125 c126 x123.1, aOwn fTake 43 a128 c129 x123.2, aOwn fGood 56 a29 c30 x27.1, aOwn fGood 56 a17 c18 x15.1] := SH.add hS980 hE988 hL979 hR989
      refine WL.runk 5 [42, 43, 44, 45] [(42, .slice a972 x970.1.length c973), (43, .int .i64 x970.2), (44, .slice a984 x982.1.length c985), (45, .int .i64 x982.2)] (by kernel_rfl) ?_
      refine WL.nil ?_
      refine WQ.then_normal (hK981 _ _ _ ?_)
      refine WP.seq (fun K993 hK993 => ?_)
      obtain ⟨x1004, hx1005, hm⟩ := bindE hm
      refine WP.cut (fun env' w' => env' = [(2, .bool x1004)] ∧ Ext w w' ∧ w.heap.size ≤ w'.heap.size ∧ SH w' w.heap.size []) ?_ ?_
      rotate_left
      · clear hx1005
        rintro _ w1016 ⟨rfl, hb1017, hL1018, hS1019⟩
        refine WQ.then_normal (hK993 _ _ _ ?_)
        refine WP.ret ?_
        obtain rfl := Option.some.inj hm
        exact WQ.ret1 _ rfl rfl ⟨rfl, hb1017⟩
      have hm := hx1005; clear hx1005
      refine WP.region ?_
      refine WL.runk 3 [42, 44, 45, 300] [(42, .slice a972 x970.1.length c973), (44, .slice a984 x982.1.length c985), (45, .int .i64 x982.2), (300, .bool (x970.2 == 0))] (by kernel_rfl) ?_
      refine WL.case (x970.2 == 0) [300] ⟨rfl, trivial⟩ (fun hc1006 => ?_) (fun hc1006 => ?_)
      rotate_left
      · have hm := iteF hm hc1006
        refine WL.runk 9 [2] [(2, .bool false)] (by kernel_rfl) ?_
        refine WL.nil ?_
        obtain rfl := Option.some.inj hm
        exact WQ.post' ⟨rfl, hb990, hL991, (SH.take 0 hS992)⟩ ⟨rfl, trivial⟩
      have hm := iteT hm hc1006
      refine WL.runk 4 [42, 44, 304] [(42, .slice a972 x970.1.length c973), (44, .slice a984 x982.1.length c985), (304, .bool (x982.2 == 0))] (by kernel_rfl) ?_
      refine WL.case (x982.2 == 0) [304] ⟨rfl, trivial⟩ (fun hc1007 => ?_) (fun hc1007 => ?_)
      rotate_left
      · have hm := iteF hm hc1007
        refine WL.runk 5 [2] [(2, .bool false)] (by kernel_rfl) ?_
        refine WL.nil ?_
        obtain rfl := Option.some.inj hm
        exact WQ.post' ⟨rfl, hb990, hL991, (SH.take 0 hS992)⟩ ⟨rfl, trivial⟩
      have hm := iteT hm hc1007
      refine WL.runk 2 [304, 305, 306] [(304, .bool true), (305, .slice a972 x970.1.length c973), (306, .slice a984 x982.1.length c985)] (by kernel_rfl) ?_
      obtain ⟨x1008, hx1009, hm⟩ := bindE hm
      refine WL.call 14 #[.slice a972 x970.1.length c973, .slice a984 x982.1.length c985] rfl rfl (by kernel_rfl) (c_14 n x970.1 a972 c973 x982.1 a984 c985 w987 hx1009 (SH.rd (SH.front 1 hS992)) (SH.le (SH.front 1 hS992)).1 (SH.rd (SH.front 0 hS992)) (SH.le (SH.front 0 hS992)).1) ?_
      rintro _ w1010 ⟨rfl, hE1011⟩
      refine ⟨_, rfl, ?_⟩
      have hb1013 : Ext w w1010 := Ext.trans hb990 hE1011
      have hL1014 : w.heap.size ≤ w1010.heap.size := Nat.le_trans hL991 hE1011.size
      have hS1015 : SH w1010 w.heap.size [aOwn fGood 56 a984 c985 x982.1, aOwn fGood 56 a972 c973 x970.1, aOwn fGood 56 a125 c126 x123.1, aOwn fTake 43 a128 c129 x123.2, aOwn fGood 56 a29 c30 x27.1, aOwn fGood 56 a17 c18 x15.1] := SH.ext hS992 hE1011
      refine WL.runk 2 [2] [(2, .bool x1008)] (by kernel_rfl) ?_
      refine WL.nil ?_
      obtain rfl := Option.some.inj hm
      exact WQ.post' ⟨rfl, hb1013, hL1014, (SH.take 0 hS1015)⟩ ⟨rfl, trivial⟩
    have hm := iteT hm hc692
    refine WP.seq (fun K693 hK693 => ?_)
    refine WP.region ?_
    refine WL.row fTake 43 ([] : List STake) 0 #[] 225 (by kernel_rfl) rfl rfl rfl rfl rfl rfl rfl ?_
    intro a694 c695 w696 hE697 hR698
    have hb700 : Ext w w696 := Ext.trans hb689 hE697
    have hL701 : w.heap.size ≤ w696.heap.size := Nat.le_trans hL690 hE697.size
    have hS702 : SH w696 w.heap.size [aOwn fTake 43 a694 c695 ([] : List STake), aOwn fGood 56 a125 c126 x123.1, aOwn fTake 43 a128 c129 x123.2, aOwn fGood 56 a29 c30 x27.1, aOwn fGood 56 a17 c18 x15.1] := SH.add hS691 hE697 hL690 hR698
    refine WL.runk 1 [3, 4, 5, 6, 7, 22, 23, 26, 35] [(3, .slice a17 x15.1.length c18), (4, .string (bs x15.2.1)), (5, .int .i64 x15.2.2), (6, .slice a29 x27.1.length c30), (7, .int .i64 x27.2), (22, .slice a125 x123.1.length c126), (23, .slice a128 x123.2.length c129), (26, .int .i64 x147.1), (35, .slice a694 (([] : List STake).length) c695)] (by kernel_rfl) ?_
    refine WL.nil ?_
    refine WQ.then_normal (hK693 _ _ _ ?_)
    refine WP.seq (fun K703 hK703 => ?_)
    refine WP.seq (fun K704 hK704 => ?_)
    refine WP.region ?_
    refine WL.runk 1 [3, 4, 5, 6, 7, 22, 23, 26, 35, 36] [(3, .slice a17 x15.1.length c18), (4, .string (bs x15.2.1)), (5, .int .i64 x15.2.2), (6, .slice a29 x27.1.length c30), (7, .int .i64 x27.2), (22, .slice a125 x123.1.length c126), (23, .slice a128 x123.2.length c129), (26, .int .i64 x147.1), (35, .slice a694 (([] : List STake).length) c695), (36, .int .i64 0)] (by kernel_rfl) ?_
    refine WL.nil ?_
    refine WQ.then_normal (hK704 _ _ _ ?_)
    refine WP.block ?_
    obtain ⟨t719, ht720, hm⟩ := bindE hm
    have hmo714 := hm; clear hm
    refine WP.sub [(3, .slice a17 x15.1.length c18), (4, .string (bs x15.2.1)), (5, .int .i64 x15.2.2), (6, .slice a29 x27.1.length c30), (7, .int .i64 x27.2), (22, .slice a125 x123.1.length c126), (23, .slice a128 x123.2.length c129), (26, .int .i64 x147.1), (35, .slice a694 (([] : List STake).length) c695), (36, .int .i64 0)] ⟨rfl, rfl, rfl, rfl, rfl, rfl, rfl, rfl, rfl, rfl, trivial⟩ ?_
    refine WP.loop (fun n' env' w' => ∃ (st705 : List STake × Int) (a706 : Option Addr) (c707 : Nat), env' = [(3, .slice a17 x15.1.length c18), (4, .string (bs x15.2.1)), (5, .int .i64 x15.2.2), (6, .slice a29 x27.1.length c30), (7, .int .i64 x27.2), (22, .slice a125 x123.1.length c126), (23, .slice a128 x123.2.length c129), (26, .int .i64 x147.1), (35, .slice a706 st705.1.length c707), (36, .int .i64 st705.2)] ∧ Ext w w' ∧ w.heap.size ≤ w'.heap.size ∧ SH w' w.heap.size [aOwn fTake 43 a706 c707 st705.1, aOwn fGood 56 a125 c126 x123.1, aOwn fTake 43 a128 c129 x123.2, aOwn fGood 56 a29 c30 x27.1, aOwn fGood 56 a17 c18 x15.1] ∧ loopN (m_laws_FnReserves_l3 n x123 x147) n' st705 = some t719) n ⟨(([] : List STake), 0), _, _, rfl, hb700, hL701, hS702, ht720⟩ ?_
    rintro n716 _ w709 ⟨st705, a706, c707, rfl, hb710, hL711, hS712, hl713⟩ K715 hK715
    obtain ⟨n717, s718, rfl, hm, hl713⟩ := loopN_some hl713
    unfold m_laws_FnReserves_l3 at hm
    refine WP.seq (fun K721 hK721 => ?_)
    refine WP.seq (fun K722 hK722 => ?_)
    refine WP.region ?_
    refine WL.runk 4 [3, 4, 5, 6, 7, 22, 23, 26, 35, 36, 229] [(3, .slice a17 x15.1.length c18), (4, .string (bs x15.2.1)), (5, .int .i64 x15.2.2), (6, .slice a29 x27.1.length c30), (7, .int .i64 x27.2), (22, .slice a125 x123.1.length c126), (23, .slice a128 x123.2.length c129), (26, .int .i64 x147.1), (35, .slice a706 st705.1.length c707), (36, .int .i64 st705.2), (229, .bool (decide (st705.2 < (x123.2.length : Int))))] (by kernel_rfl) ?_
    refine WL.nil ?_
    refine WQ.then_normal (hK722 _ _ _ ?_)
    refine WP.cond (decide (st705.2 < (x123.2.length : Int))) rfl rfl (fun hc723 => ?_) (fun hc723 => ?_)
    · have hm := iteT hm hc723
      refine WP.skip ?_
      refine WQ.then_normal (hK721 _ _ _ ?_)
      refine WP.seq (fun K724 hK724 => ?_)
      refine WP.block ?_
      refine WP.seq (fun K725 hK725 => ?_)
      refine WP.seq (fun K726 hK726 => ?_)
      refine WP.region ?_
      refine WL.runk 2 [3, 4, 5, 6, 7, 22, 23, 26, 35, 36, 232, 233] [(3, .slice a17 x15.1.length c18), (4, .string (bs x15.2.1)), (5, .int .i64 x15.2.2), (6, .slice a29 x27.1.length c30), (7, .int .i64 x27.2), (22, .slice a125 x123.1.length c126), (23, .slice a128 x123.2.length c129), (26, .int .i64 x147.1), (35, .slice a706 st705.1.length c707), (36, .int .i64 st705.2), (232, .slice a128 x123.2.length c129), (233, .int .i64 st705.2)] (by kernel_rfl) ?_
      obtain ⟨x727, hx728, hm⟩ := bindE hm
      refine WL.st (.pointer (some (at_ a128 (Int.toNat st705.2 * 2)))) (ST.index (T := fTake.ty) (xs := x123.2) (SH.rd (SH.front 2 hS712)) hx728 rfl rfl rfl Try.underlying30 (info43).1 (info43).2.1) rfl rfl rfl ?_
      refine WL.runk 1 [3, 4, 5, 6, 7, 22, 23, 26, 35, 36, 235] [(3, .slice a17 x15.1.length c18), (4, .string (bs x15.2.1)), (5, .int .i64 x15.2.2), (6, .slice a29 x27.1.length c30), (7, .int .i64 x27.2), (22, .slice a125 x123.1.length c126), (23, .slice a128 x123.2.length c129), (26, .int .i64 x147.1), (35, .slice a706 st705.1.length c707), (36, .int .i64 st705.2), (235, .pointer (some (at_ a128 (Int.toNat st705.2 * 2 + 1))))] (by kernel_rfl) ?_
      refine WL.st (.int .i64 x727.Many) (ST.load (cell_ext (Rd.flat (F := fTake) (SH.rd (SH.front 2 hS712)) hx728 1 rfl)) rfl rfl Try.underlying2 rfl) rfl rfl rfl ?_
      refine WL.runk 1 [3, 4, 5, 6, 7, 22, 23, 26, 35, 36, 237] [(3, .slice a17 x15.1.length c18), (4, .string (bs x15.2.1)), (5, .int .i64 x15.2.2), (6, .slice a29 x27.1.length c30), (7, .int .i64 x27.2), (22, .slice a125 x123.1.length c126), (23, .slice a128 x123.2.length c129), (26, .int .i64 x147.1), (35, .slice a706 st705.1.length c707), (36, .int .i64 st705.2), (237, .bool (decide (x727.Many > 1000)))] (by kernel_rfl) ?_
      refine WL.nil ?_
      refine WQ.then_normal (hK726 _ _ _ ?_)
      refine WP.cond (decide (x727.Many > 1000)) rfl rfl (fun hc729 => ?_) (fun hc729 => ?_)
      · have hm := iteT hm hc729
        refine WP.seq (fun K730 hK730 => ?_)
        refine WP.region ?_
        refine WL.runk 1 [2] [(2, .bool true)] (by kernel_rfl) ?_
        refine WL.nil ?_
        refine WQ.then_normal (hK730 _ _ _ ?_)
        refine WP.ret ?_
        refine WQ.then_ret ?_
        refine WQ.block_ret ?_
        refine WQ.then_ret ?_
        refine WQ.then_ret ?_
        refine WQ.block_ret ?_
        refine WQ.then_ret ?_
        refine WQ.then_ret ?_
        obtain rfl := Option.some.inj hm
        obtain rfl := afterN_done hl713
        have hm := hmo714
        obtain rfl := Option.some.inj hm
        exact WQ.ret1 _ rfl rfl ⟨rfl, hb710⟩
      have hm := iteF hm hc729
      refine WP.skip ?_
      refine WQ.then_normal (hK725 _ _ _ ?_)
      refine WP.open (n := 18) (by kernel_rfl) rfl (fun w731 hE732 => ?_)
      have hb733 : Ext w w731 := Ext.trans hb710 hE732
      have hL734 : w.heap.size ≤ w731.heap.size := Nat.le_trans hL711 hE732.size
      have hS735 : SH w731 w.heap.size [aOwn fTake 43 a706 c707 st705.1, aOwn fGood 56 a125 c126 x123.1, aOwn fTake 43 a128 c129 x123.2, aOwn fGood 56 a29 c30 x27.1, aOwn fGood 56 a17 c18 x15.1] := SH.ext hS712 hE732
      refine WA.pre (i := 0) (D' := [0]) [(3, .slice a17 x15.1.length c18), (4, .string (bs x15.2.1)), (5, .int .i64 x15.2.2), (6, .slice a29 x27.1.length c30), (7, .int .i64 x27.2), (22, .slice a125 x123.1.length c126), (23, .slice a128 x123.2.length c129), (26, .int .i64 x147.1), (35, .slice a706 st705.1.length c707), (36, .int .i64 st705.2), (237, .bool (decide (x727.Many > 1000))), (238, .slice a706 st705.1.length c707)] rfl (by kernel_rfl) rfl (fun _ => by kernel_rfl) rfl ?_
      refine WA.quiet (f' := 3) (D' := [0, 1, 2, 3, 4, 5, 6, 7, 8, 9, 10, 11, 12, 13, 14]) [1, 2, 3, 4, 5, 6, 7, 8, 9, 10, 11, 12, 13, 14] rfl rfl (by kernel_rfl) ?_
      refine QL.step1v 239 (.slice a128 x123.2.length c129) rfl (fun _ => by kernel_rfl) ?_
      refine QL.step1v 240 (.int .i64 st705.2) rfl (fun _ => by kernel_rfl) ?_
      refine QL.subk [3, 4, 5, 6, 7, 22, 23, 26, 35, 36, 238, 239, 240] [(3, .slice a17 x15.1.length c18), (4, .string (bs x15.2.1)), (5, .int .i64 x15.2.2), (6, .slice a29 x27.1.length c30), (7, .int .i64 x27.2), (22, .slice a125 x123.1.length c126), (23, .slice a128 x123.2.length c129), (26, .int .i64 x147.1), (35, .slice a706 st705.1.length c707), (36, .int .i64 st705.2), (238, .slice a706 st705.1.length c707), (239, .slice a128 x123.2.length c129), (240, .int .i64 st705.2)] (by kernel_rfl) ?_
      obtain ⟨x736, hx737, hm⟩ := bindE hm
      refine QL.st (.pointer (some (at_ a128 (Int.toNat st705.2 * 2)))) (ST.index (T := fTake.ty) (xs := x123.2) (SH.rd (SH.front 2 hS735)) hx737 rfl rfl rfl Try.underlying30 (info43).1 (info43).2.1) rfl rfl rfl ?_
      refine QL.step1v 242 (.pointer (some (at_ a128 (Int.toNat st705.2 * 2)))) rfl (fun _ => by kernel_rfl) ?_
      refine QL.subk [3, 4, 5, 6, 7, 22, 23, 26, 35, 36, 238, 242] [(3, .slice a17 x15.1.length c18), (4, .string (bs x15.2.1)), (5, .int .i64 x15.2.2), (6, .slice a29 x27.1.length c30), (7, .int .i64 x27.2), (22, .slice a125 x123.1.length c126), (23, .slice a128 x123.2.length c129), (26, .int .i64 x147.1), (35, .slice a706 st705.1.length c707), (36, .int .i64 st705.2), (238, .slice a706 st705.1.length c707), (242, .pointer (some (at_ a128 (Int.toNat st705.2 * 2))))] (by kernel_rfl) ?_
      refine QL.st (.string (bs x736.Name)) (ST.load (cell_ext (Rd.flat (F := fTake) (SH.rd (SH.front 2 hS735)) hx737 0 rfl)) rfl rfl Try.underlying9 rfl) rfl rfl rfl ?_
      refine QL.step1v 244 (.int .i64 x147.1) rfl (fun _ => by kernel_rfl) ?_
      refine QL.step1v 245 (.int .i64 (wI64 (0 - x147.1))) rfl (fun _ => by kernel_rfl) ?_
      refine QL.step1v 246 (.slice a128 x123.2.length c129) rfl (fun _ => by kernel_rfl) ?_
      refine QL.step1v 247 (.int .i64 st705.2) rfl (fun _ => by kernel_rfl) ?_
      refine QL.subk [3, 4, 5, 6, 7, 22, 23, 26, 35, 36, 238, 243, 245, 246, 247] [(3, .slice a17 x15.1.length c18), (4, .string (bs x15.2.1)), (5, .int .i64 x15.2.2), (6, .slice a29 x27.1.length c30), (7, .int .i64 x27.2), (22, .slice a125 x123.1.length c126), (23, .slice a128 x123.2.length c129), (26, .int .i64 x147.1), (35, .slice a706 st705.1.length c707), (36, .int .i64 st705.2), (238, .slice a706 st705.1.length c707), (243, .string (bs x736.Name)), (245, .int .i64 (wI64 (0 - x147.1))), (246, .slice a128 x123.2.length c129), (247, .int .i64 st705.2)] (by kernel_rfl) ?_
      obtain ⟨x738, hx739, hm⟩ := bindE hm
      refine QL.st (.pointer (some (at_ a128 (Int.toNat st705.2 * 2)))) (ST.index (T := fTake.ty) (xs := x123.2) (SH.rd (SH.front 2 hS735)) hx739 rfl rfl rfl Try.underlying30 (info43).1 (info43).2.1) rfl rfl rfl ?_
      refine QL.step1v 249 (.pointer (some (at_ a128 (Int.toNat st705.2 * 2 + 1)))) rfl (fun _ => by kernel_rfl) ?_
      refine QL.subk [3, 4, 5, 6, 7, 22, 23, 26, 35, 36, 238, 243, 245, 249] [(3, .slice a17 x15.1.length c18), (4, .string (bs x15.2.1)), (5, .int .i64 x15.2.2), (6, .slice a29 x27.1.length c30), (7, .int .i64 x27.2), (22, .slice a125 x123.1.length c126), (23, .slice a128 x123.2.length c129), (26, .int .i64 x147.1), (35, .slice a706 st705.1.length c707), (36, .int .i64 st705.2), (238, .slice a706 st705.1.length c707), (243, .string (bs x736.Name)), (245, .int .i64 (wI64 (0 - x147.1))), (249, .pointer (some (at_ a128 (Int.toNat st705.2 * 2 + 1))))] (by kernel_rfl) ?_
      refine QL.st (.int .i64 x738.Many) (ST.load (cell_ext (Rd.flat (F := fTake) (SH.rd (SH.front 2 hS735)) hx739 1 rfl)) rfl rfl Try.underlying2 rfl) rfl rfl rfl ?_
      refine QL.step1v 251 (.int .i64 (wI64 ((wI64 (0 - x147.1)) * x738.Many))) rfl (fun _ => by kernel_rfl) ?_
      refine QL.step1v 252 (.agg #[.string (bs x736.Name), .int .i64 (wI64 ((wI64 (0 - x147.1)) * x738.Many))]) rfl (fun _ => by kernel_rfl) ?_
      refine QL.subk [3, 4, 5, 6, 7, 22, 23, 26, 35, 36, 238, 252] [(3, .slice a17 x15.1.length c18), (4, .string (bs x15.2.1)), (5, .int .i64 x15.2.2), (6, .slice a29 x27.1.length c30), (7, .int .i64 x27.2), (22, .slice a125 x123.1.length c126), (23, .slice a128 x123.2.length c129), (26, .int .i64 x147.1), (35, .slice a706 st705.1.length c707), (36, .int .i64 st705.2), (238, .slice a706 st705.1.length c707), (252, .agg #[.string (bs x736.Name), .int .i64 (wI64 ((wI64 (0 - x147.1)) * x738.Many))])] (by kernel_rfl) ?_
      refine QL.nil ?_
      intro w740 hE741
      have hb742 : Ext w w740 := Ext.trans hb733 hE741
      have hL743 : w.heap.size ≤ w740.heap.size := Nat.le_trans hL734 hE741.size
      have hS744 : SH w740 w.heap.size [aOwn fTake 43 a706 c707 st705.1, aOwn fGood 56 a125 c126 x123.1, aOwn fTake 43 a128 c129 x123.2, aOwn fGood 56 a29 c30 x27.1, aOwn fGood 56 a17 c18 x15.1] := SH.ext hS735 hE741
      refine WA.one (i := 15) (D' := [0, 1, 2, 3, 4, 5, 6, 7, 8, 9, 10, 11, 12, 13, 14, 15]) rfl rfl (by kernel_rfl) ?_
      refine WL.row fTake 43 ([(STake.mk x736.Name (wI64 ((wI64 (0 - x147.1)) * x738.Many)))] : List STake) 1 #[.string (bs x736.Name), .int .i64 (wI64 ((wI64 (0 - x147.1)) * x738.Many))] 253 (by kernel_rfl) rfl rfl rfl rfl rfl rfl rfl ?_
      intro a745 c746 w747 hE748 hR749
      have hb751 : Ext w w747 := Ext.trans hb742 hE748
      have hL752 : w.heap.size ≤ w747.heap.size := Nat.le_trans hL743 hE748.size
      have hS753 : SH w747 w.heap.size [aOwn fTake 43 a745 c746 ([(STake.mk x736.Name (wI64 ((wI64 (0 - x147.1)) * x738.Many)))] : List STake), aOwn fTake 43 a706 c707 st705.1, aOwn fGood 56 a125 c126 x123.1, aOwn fTake 43 a128 c129 x123.2, aOwn fGood 56 a29 c30 x27.1, aOwn fGood 56 a17 c18 x15.1] := SH.add hS744 hE748 hL743 hR749
      refine WL.sub [(3, .slice a17 x15.1.length c18), (4, .string (bs x15.2.1)), (5, .int .i64 x15.2.2), (6, .slice a29 x27.1.length c30), (7, .int .i64 x27.2), (22, .slice a125 x123.1.length c126), (23, .slice a128 x123.2.length c129), (26, .int .i64 x147.1), (35, .slice a706 st705.1.length c707), (36, .int .i64 st705.2), (238, .slice a706 st705.1.length c707), (253, .slice a745 (([(STake.mk x736.Name (wI64 ((wI64 (0 - x147.1)) * x738.Many)))] : List STake).length) c746)] ⟨rfl, rfl, rfl, rfl, rfl, rfl, rfl, rfl, rfl, rfl, rfl, rfl, trivial⟩ ?_
      refine WL.nil ?_
      refine WA.one (i := 16) (D' := [0, 1, 2, 3, 4, 5, 6, 7, 8, 9, 10, 11, 12, 13, 14, 15, 16]) rfl rfl (by kernel_rfl) ?_
      obtain ⟨x754, hx755, hm⟩ := bindE hm
      refine WL.append (F := fTake) (xs := st705.1) (ys := ([(STake.mk x736.Name (wI64 ((wI64 (0 - x147.1)) * x738.Many)))] : List STake)) 254 (SH.front 1 hS753) hL752 (SH.rd (SH.front 0 hS753)) hx755 rfl rfl rfl Try.underlying30 (info43).1 (info43).2.2.1 (info43).2.1 (info43).2.2.2 rfl rfl rfl rfl rfl ?_
      intro a756 c757 w758 hB759 hS760
      have hb761 : Ext w w758 := Below.trans hb751 hB759
      have hL762 : w.heap.size ≤ w758.heap.size := Nat.le_trans hL752 hB759.size
      refine WL.sub [(3, .slice a17 x15.1.length c18), (4, .string (bs x15.2.1)), (5, .int .i64 x15.2.2), (6, .slice a29 x27.1.length c30), (7, .int .i64 x27.2), (22, .slice a125 x123.1.length c126), (23, .slice a128 x123.2.length c129), (26, .int .i64 x147.1), (35, .slice a706 st705.1.length c707), (36, .int .i64 st705.2), (254, .slice a756 x754.length c757)] ⟨rfl, rfl, rfl, rfl, rfl, rfl, rfl, rfl, rfl, rfl, rfl, trivial⟩ ?_
      refine WL.nil ?_
      refine WA.one (i := 17) (D' := [0, 1, 2, 3, 4, 5, 6, 7, 8, 9, 10, 11, 12, 13, 14, 15, 16, 17]) rfl rfl (by kernel_rfl) ?_
      refine WL.runk 1 [3, 4, 5, 6, 7, 22, 23, 26, 35, 36] [(3, .slice a17 x15.1.length c18), (4, .string (bs x15.2.1)), (5, .int .i64 x15.2.2), (6, .slice a29 x27.1.length c30), (7, .int .i64 x27.2), (22, .slice a125 x123.1.length c126), (23, .slice a128 x123.2.length c129), (26, .int .i64 x147.1), (35, .slice a756 x754.length c757), (36, .int .i64 st705.2)] (by kernel_rfl) ?_
      refine WL.nil ?_
      refine WA.done (by kernel_rfl) ?_
      refine WQ.block_normal ?_
      refine WQ.then_normal (hK724 _ _ _ ?_)
      refine WP.region ?_
      refine WL.runk 3 [3, 4, 5, 6, 7, 22, 23, 26, 35, 36] [(3, .slice a17 x15.1.length c18), (4, .string (bs x15.2.1)), (5, .int .i64 x15.2.2), (6, .slice a29 x27.1.length c30), (7, .int .i64 x27.2), (22, .slice a125 x123.1.length c126), (23, .slice a128 x123.2.length c129), (26, .int .i64 x147.1), (35, .slice a756 x754.length c757), (36, .int .i64 (wI64 (st705.2 + 1)))] (by kernel_rfl) ?_
      refine WL.nil ?_
      obtain rfl := Option.some.inj hm
      exact WQ.round hK715 ⟨(x754, (wI64 (st705.2 + 1))), _, _, rfl, hb761, hL762, (SH.take 5 (SH.front 4 (SH.front 5 (SH.front 5 (SH.front 5 (SH.front 5 hS760)))))), hl713⟩ (Nat.lt_succ_self _) ⟨rfl, rfl, rfl, rfl, rfl, rfl, rfl, rfl, rfl, rfl, trivial⟩
    have hm := iteF hm hc723
    refine WP.exit ?_
    refine WQ.then_exit ?_
    refine WQ.then_exit ?_
    refine WQ.block_here ?_
    obtain rfl := Option.some.inj hm
    obtain rfl := afterN_done hl713
    have hm := hmo714
    refine WQ.then_normal (hK703 _ _ _ ?_)
    refine WP.seq (fun K763 hK763 => ?_)
    refine WP.region ?_
    refine WL.runk 2 [3, 4, 5, 6, 7, 23, 256, 257] [(3, .slice a17 x15.1.length c18), (4, .string (bs x15.2.1)), (5, .int .i64 x15.2.2), (6, .slice a29 x27.1.length c30), (7, .int .i64 x27.2), (23, .slice a128 x123.2.length c129), (256, .slice a125 x123.1.length c126), (257, .slice a706 st705.1.length c707)] (by kernel_rfl) ?_
    obtain ⟨x764, hx765, hm⟩ := bindE hm
    refine WL.call 44 #[.slice a125 x123.1.length c126, .slice a706 st705.1.length c707] rfl rfl (by kernel_rfl) (c_44 n x123.1 a125 c126 st705.1 a706 c707 w709 hx765 (SH.rd (SH.front 1 hS712)) (SH.le (SH.front 1 hS712)).1 (SH.rd (SH.front 0 hS712)) (SH.le (SH.front 0 hS712)).1) ?_
    rintro _ w769 ⟨a766, c767, rfl, hE770, hR771⟩
    refine ⟨_, rfl, ?_⟩
    have hb772 : Ext w w769 := Ext.trans hb710 hE770
    have hL773 : w.heap.size ≤ w769.heap.size := Nat.le_trans hL711 hE770.size
    have hS774 : SH w769 w.heap.size [aOwn fGood 56 a766 c767 x764.1, aOwn fTake 43 a706 c707 st705.1, aOwn fGood 56 a125 c126 x123.1, aOwn fTake 43 a128 c129 x123.2, aOwn fGood 56 a29 c30 x27.1, aOwn fGood 56 a17 c18 x15.1] := SH.add hS712 hE770 hL711 hR771
    refine WL.runk 7 [3, 4, 5, 6, 7, 23, 37, 38, 39] [(3, .slice a17 x15.1.length c18), (4, .string (bs x15.2.1)), (5, .int .i64 x15.2.2), (6, .slice a29 x27.1.length c30), (7, .int .i64 x27.2), (23, .slice a128 x123.2.length c129), (37, .slice a766 x764.1.length c767), (38, .int .i64 x764.2.1), (39, .int .i64 x764.2.2)] (by kernel_rfl) ?_
    refine WL.nil ?_
    refine WQ.then_normal (hK763 _ _ _ ?_)
    refine WP.seq (fun K775 hK775 => ?_)
    refine WP.seq (fun K776 hK776 => ?_)
    obtain ⟨x778, hx779, hm⟩ := bindE hm
    refine WP.cut (fun env' w' => env' = [(3, .slice a17 x15.1.length c18), (4, .string (bs x15.2.1)), (5, .int .i64 x15.2.2), (6, .slice a29 x27.1.length c30), (7, .int .i64 x27.2), (23, .slice a128 x123.2.length c129), (37, .slice a766 x764.1.length c767), (267, .bool x778)] ∧ Ext w w' ∧ w.heap.size ≤ w'.heap.size ∧ SH w' w.heap.size [aOwn fGood 56 a766 c767 x764.1, aOwn fTake 43 a128 c129 x123.2, aOwn fGood 56 a29 c30 x27.1, aOwn fGood 56 a17 c18 x15.1]) ?_ ?_
    · have hm := hx779; clear hx779
      refine WP.region ?_
      refine WL.runk 3 [3, 4, 5, 6, 7, 23, 37, 38, 264] [(3, .slice a17 x15.1.length c18), (4, .string (bs x15.2.1)), (5, .int .i64 x15.2.2), (6, .slice a29 x27.1.length c30), (7, .int .i64 x27.2), (23, .slice a128 x123.2.length c129), (37, .slice a766 x764.1.length c767), (38, .int .i64 x764.2.1), (264, .bool (x764.2.2 != 0))] (by kernel_rfl) ?_
      refine WL.case (x764.2.2 != 0) [264] ⟨rfl, trivial⟩ (fun hc780 => ?_) (fun hc780 => ?_)
      · have hm := iteT hm hc780
        refine WL.runk 3 [3, 4, 5, 6, 7, 23, 37, 267] [(3, .slice a17 x15.1.length c18), (4, .string (bs x15.2.1)), (5, .int .i64 x15.2.2), (6, .slice a29 x27.1.length c30), (7, .int .i64 x27.2), (23, .slice a128 x123.2.length c129), (37, .slice a766 x764.1.length c767), (267, .bool true)] (by kernel_rfl) ?_
        refine WL.nil ?_
        obtain rfl := Option.some.inj hm
        exact WQ.post' ⟨rfl, hb772, hL773, (SH.take 4 (SH.front 3 (SH.front 5 (SH.front 5 (SH.front 5 hS774)))))⟩ ⟨rfl, rfl, rfl, rfl, rfl, rfl, rfl, rfl, trivial⟩
      have hm := iteF hm hc780
      refine WL.runk 3 [3, 4, 5, 6, 7, 23, 37, 267] [(3, .slice a17 x15.1.length c18), (4, .string (bs x15.2.1)), (5, .int .i64 x15.2.2), (6, .slice a29 x27.1.length c30), (7, .int .i64 x27.2), (23, .slice a128 x123.2.length c129), (37, .slice a766 x764.1.length c767), (267, .bool (x764.2.1 != (-1)))] (by kernel_rfl) ?_
      refine WL.nil ?_
      obtain rfl := Option.some.inj hm
      exact WQ.post' ⟨rfl, hb772, hL773, (SH.take 4 (SH.front 3 (SH.front 5 (SH.front 5 (SH.front 5 hS774)))))⟩ ⟨rfl, rfl, rfl, rfl, rfl, rfl, rfl, rfl, trivial⟩
    clear hx779
    rintro _ w781 ⟨rfl, hb782, hL783, hS784⟩
    refine WQ.then_normal (hK776 _ _ _ ?_)
    refine WP.cond x778 rfl rfl (fun hc785 => ?_) (fun hc785 => ?_)
    · have hm := iteT hm hc785
      refine WP.seq (fun K786 hK786 => ?_)
      refine WP.region ?_
      refine WL.runk 1 [2] [(2, .bool false)] (by kernel_rfl) ?_
      refine WL.nil ?_
      refine WQ.then_normal (hK786 _ _ _ ?_)
      refine WP.ret ?_
      refine WQ.then_ret ?_
      refine WQ.then_ret ?_
      obtain rfl := Option.some.inj hm
      exact WQ.ret1 _ rfl rfl ⟨rfl, hb782⟩
    have hm := iteF hm hc785
    refine WP.skip ?_
    refine WQ.then_normal (hK775 _ _ _ ?_)
    refine WP.seq (fun K787 hK787 => ?_)
    refine WP.region ?_
    refine WL.runk 2 [3, 4, 5, 6, 7, 269, 270] [(3, .slice a17 x15.1.length c18), (4, .string (bs x15.2.1)), (5, .int .i64 x15.2.2), (6, .slice a29 x27.1.length c30), (7, .int .i64 x27.2), (269, .slice a766 x764.1.length c767), (270, .slice a128 x123.2.length c129)] (by kernel_rfl) ?_
    obtain ⟨x788, hx789, hm⟩ := bindE hm
    refine WL.call 38 #[.slice a766 x764.1.length c767, .slice a128 x123.2.length c129] rfl rfl (by kernel_rfl) (c_38 n x764.1 a766 c767 x123.2 a128 c129 w781 hx789 (SH.rd (SH.front 0 hS784)) (SH.le (SH.front 0 hS784)).1 (SH.rd (SH.front 1 hS784)) (SH.le (SH.front 1 hS784)).1) ?_
    rintro _ w790 ⟨rfl, hE791⟩
    refine ⟨_, rfl, ?_⟩
    have hb793 : Ext w w790 := Ext.trans hb782 hE791
    have hL794 : w.heap.size ≤ w790.heap.size := Nat.le_trans hL783 hE791.size
    have hS795 : SH w790 w.heap.size [aOwn fGood 56 a766 c767 x764.1, aOwn fTake 43 a128 c129 x123.2, aOwn fGood 56 a29 c30 x27.1, aOwn fGood 56 a17 c18 x15.1] := SH.ext hS784 hE791
    refine WL.runk 5 [3, 4, 5, 6, 7, 40, 41] [(3, .slice a17 x15.1.length c18), (4, .string (bs x15.2.1)), (5, .int .i64 x15.2.2), (6, .slice a29 x27.1.length c30), (7, .int .i64 x27.2), (40, .int .i64 x788.1), (41, .int .i64 x788.2)] (by kernel_rfl) ?_
    refine WL.nil ?_
    refine WQ.then_normal (hK787 _ _ _ ?_)
    refine WP.seq (fun K796 hK796 => ?_)
    obtain ⟨x798, hx799, hm⟩ := bindE hm
    refine WP.cut (fun env' w' => env' = [(3, .slice a17 x15.1.length c18), (4, .string (bs x15.2.1)), (5, .int .i64 x15.2.2), (6, .slice a29 x27.1.length c30), (7, .int .i64 x27.2), (279, .bool x798)] ∧ Ext w w' ∧ w.heap.size ≤ w'.heap.size ∧ SH w' w.heap.size [aOwn fGood 56 a29 c30 x27.1, aOwn fGood 56 a17 c18 x15.1]) ?_ ?_
    · have hm := hx799; clear hx799
      refine WP.region ?_
      refine WL.runk 3 [3, 4, 5, 6, 7, 40, 276] [(3, .slice a17 x15.1.length c18), (4, .string (bs x15.2.1)), (5, .int .i64 x15.2.2), (6, .slice a29 x27.1.length c30), (7, .int .i64 x27.2), (40, .int .i64 x788.1), (276, .bool (x788.2 != 0))] (by kernel_rfl) ?_
      refine WL.case (x788.2 != 0) [276] ⟨rfl, trivial⟩ (fun hc800 => ?_) (fun hc800 => ?_)
      · have hm := iteT hm hc800
        refine WL.runk 3 [3, 4, 5, 6, 7, 279] [(3, .slice a17 x15.1.length c18), (4, .string (bs x15.2.1)), (5, .int .i64 x15.2.2), (6, .slice a29 x27.1.length c30), (7, .int .i64 x27.2), (279, .bool true)] (by kernel_rfl) ?_
        refine WL.nil ?_
        obtain rfl := Option.some.inj hm
        exact WQ.post' ⟨rfl, hb793, hL794, (SH.take 2 (SH.front 3 (SH.front 3 hS795)))⟩ ⟨rfl, rfl, rfl, rfl, rfl, rfl, trivial⟩
      have hm := iteF hm hc800
      refine WL.runk 3 [3, 4, 5, 6, 7, 279] [(3, .slice a17 x15.1.length c18), (4, .string (bs x15.2.1)), (5, .int .i64 x15.2.2), (6, .slice a29 x27.1.length c30), (7, .int .i64 x27.2), (279, .bool (x788.1 != 0))] (by kernel_rfl) ?_
      refine WL.nil ?_
      obtain rfl := Option.some.inj hm
      exact WQ.post' ⟨rfl, hb793, hL794, (SH.take 2 (SH.front 3 (SH.front 3 hS795)))⟩ ⟨rfl, rfl, rfl, rfl, rfl, rfl, trivial⟩
    clear hx799
    rintro _ w801 ⟨rfl, hb802, hL803, hS804⟩
    refine WQ.then_normal (hK796 _ _ _ ?_)
    refine WP.cond x798 rfl rfl (fun hc805 => ?_) (fun hc805 => ?_)
    · have hm := iteT hm hc805
      refine WP.seq (fun K806 hK806 => ?_)
      refine WP.region ?_
      refine WL.runk 1 [2] [(2, .bool false)] (by kernel_rfl) ?_
      refine WL.nil ?_
      refine WQ.then_normal (hK806 _ _ _ ?_)
      refine WP.ret ?_
      refine WQ.then_ret ?_
      obtain rfl := Option.some.inj hm
      exact WQ.ret1 _ rfl rfl ⟨rfl, hb802⟩
    have hm := iteF hm hc805
    refine WP.skip ?_
    refine WQ.then_normal (hK678 _ _ _ ?_)
    refine WP.seq (fun K807 hK807 => ?_)
    refine WP.seq (fun K808 hK808 => ?_)
    refine WP.region ?_
    refine WL.runk 2 [3, 4, 5, 6, 281] [(3, .slice a17 x15.1.length c18), (4, .string (bs x15.2.1)), (5, .int .i64 x15.2.2), (6, .slice a29 x27.1.length c30), (281, .bool (x27.2 != 0))] (by kernel_rfl) ?_
    refine WL.nil ?_
    refine WQ.then_normal (hK808 _ _ _ ?_)
    refine WP.cond (x27.2 != 0) rfl rfl (fun hc809 => ?_) (fun hc809 => ?_)
    · have hm := iteT hm hc809
      refine WP.seq (fun K810 hK810 => ?_)
      refine WP.region ?_
      refine WL.runk 1 [2] [(2, .bool true)] (by kernel_rfl) ?_
      refine WL.nil ?_
      refine WQ.then_normal (hK810 _ _ _ ?_)
      refine WP.ret ?_
      refine WQ.then_ret ?_
      obtain rfl := Option.some.inj hm
      exact WQ.ret1 _ rfl rfl ⟨rfl, hb802⟩
    have hm := iteF hm hc809
    refine WP.skip ?_
    refine WQ.then_normal (hK807 _ _ _ ?_)
    refine WP.seq (fun K811 hK811 => ?_)
    refine WP.region ?_
    refine WL.runk 3 [3, 4, 5, 283, 284, 285] [(3, .slice a17 x15.1.length c18), (4, .string (bs x15.2.1)), (5, .int .i64 x15.2.2), (283, .slice a29 x27.1.length c30), (284, .string (bs x15.2.1)), (285, .int .i64 x15.2.2)] (by kernel_rfl) ?_
    obtain ⟨x812, hx813, hm⟩ := bindE hm
    refine WL.call 30 #[.slice a29 x27.1.length c30, .string (bs x15.2.1), .int .i64 x15.2.2] rfl rfl (by kernel_rfl) (c_30 n x27.1 a29 c30 x15.2.1 x15.2.2 w801 hx813 (SH.rd (SH.front 0 hS804)) (SH.le (SH.front 0 hS804)).1) ?_
    rintro _ w817 ⟨a814, c815, rfl, hE818, hR819⟩
    refine ⟨_, rfl, ?_⟩
    have hb820 : Ext w w817 := Ext.trans hb802 hE818
    have hL821 : w.heap.size ≤ w817.heap.size := Nat.le_trans hL803 hE818.size
    have hS822 : SH w817 w.heap.size [aOwn fGood 56 a814 c815 x812.1, aOwn fGood 56 a29 c30 x27.1, aOwn fGood 56 a17 c18 x15.1] := SH.add hS804 hE818 hL803 hR819
    refine WL.runk 5 [3, 4, 5, 42, 43] [(3, .slice a17 x15.1.length c18), (4, .string (bs x15.2.1)), (5, .int .i64 x15.2.2), (42, .slice a814 x812.1.length c815), (43, .int .i64 x812.2)] (by kernel_rfl) ?_
    refine WL.nil ?_
    refine WQ.then_normal (hK811 _ _ _ ?_)
    refine WP.seq (fun K823 hK823 => ?_)
    refine WP.region ?_
    refine WL.runk 5 [42, 43, 290, 294] [(42, .slice a814 x812.1.length c815), (43, .int .i64 x812.2), (290, .slice a17 x15.1.length c18), (294, .agg #[.string (bs x15.2.1), .int .i64 (wI64 (0 - x15.2.2))])] (by kernel_rfl) ?_
    obtain ⟨x824, hx825, hm⟩ := bindE hm
    refine WL.call 32 #[.slice a17 x15.1.length c18, .agg #[.string (bs x15.2.1), .int .i64 (wI64 (0 - x15.2.2))]] rfl rfl (by kernel_rfl) (c_32 n x15.1 a17 c18 (STake.mk x15.2.1 (wI64 (0 - x15.2.2))) w817 hx825 (SH.rd (SH.front 2 hS822)) (SH.le (SH.front 2 hS822)).1) ?_
    rintro _ w829 ⟨a826, c827, rfl, hE830, hR831⟩
    refine ⟨_, rfl, ?_⟩
    have hb832 : Ext w w829 := Ext.trans hb820 hE830
    have hL833 : w.heap.size ≤ w829.heap.size := Nat.le_trans hL821 hE830.size
    have hS834 : SH w829 w.heap.size [aOwn fGood 56 a826 c827 x824.1, aOwn fGood 56 a814 c815 x812.1, aOwn fGood 56 a29 c30 x27.1, aOwn fGood 56 a17 c18 x15.1] := SH.add hS822 hE830 hL821 hR831
    refine WL.runk 5 [42, 43, 44, 45] [(42, .slice a814 x812.1.length c815), (43, .int .i64 x812.2), (44, .slice a826 x824.1.length c827), (45, .int .i64 x824.2)] (by kernel_rfl) ?_
    refine WL.nil ?_
    refine WQ.then_normal (hK823 _ _ _ ?_)
    refine WP.seq (fun K835 hK835 => ?_)
    obtain ⟨x846, hx847, hm⟩ := bindE hm
    refine WP.cut (fun env' w' => env' = [(2, .bool x846)] ∧ Ext w w' ∧ w.heap.size ≤ w'.heap.size ∧ SH w' w.heap.size []) ?_ ?_
    rotate_left
    · clear hx847
      rintro _ w858 ⟨rfl, hb859, hL860, hS861⟩
      refine WQ.then_normal (hK835 _ _ _ ?_)
      refine WP.ret ?_
      obtain rfl := Option.some.inj hm
      exact WQ.ret1 _ rfl rfl ⟨rfl, hb859⟩
    have hm := hx847; clear hx847
    refine WP.region ?_
    refine WL.runk 3 [42, 44, 45, 300] [(42, .slice a814 x812.1.length c815), (44, .slice a826 x824.1.length c827), (45, .int .i64 x824.2), (300, .bool (x812.2 == 0))] (by kernel_rfl) ?_
    refine WL.case (x812.2 == 0) [300] ⟨rfl, trivial⟩ (fun hc848 => ?_) (fun hc848 => ?_)
    rotate_left
    · have hm := iteF hm hc848
      refine WL.runk 9 [2] [(2, .bool false)] (by kernel_rfl) ?_
      refine WL.nil ?_
      obtain rfl := Option.some.inj hm
      exact WQ.post' ⟨rfl, hb832, hL833, (SH.take 0 hS834)⟩ ⟨rfl, trivial⟩
    have hm := iteT hm hc848
    refine WL.runk 4 [42, 44, 304] [(42, .slice a814 x812.1.length c815), (44, .slice a826 x824.1.length c827), (304, .bool (x824.2 == 0))] (by kernel_rfl) ?_
    refine WL.case (x824.2 == 0) [304] ⟨rfl, trivial⟩ (fun hc849 => ?_) (fun hc849 => ?_)
    rotate_left
    · have hm := iteF hm hc849
      refine WL.runk 5 [2] [(2, .bool false)] (by kernel_rfl) ?_
      refine WL.nil ?_
      obtain rfl := Option.some.inj hm
      exact WQ.post' ⟨rfl, hb832, hL833, (SH.take 0 hS834)⟩ ⟨rfl, trivial⟩
    have hm := iteT hm hc849
    refine WL.runk 2 [304, 305, 306] [(304, .bool true), (305, .slice a814 x812.1.length c815), (306, .slice a826 x824.1.length c827)] (by kernel_rfl) ?_
    obtain ⟨x850, hx851, hm⟩ := bindE hm
    refine WL.call 14 #[.slice a814 x812.1.length c815, .slice a826 x824.1.length c827] rfl rfl (by kernel_rfl) (c_14 n x812.1 a814 c815 x824.1 a826 c827 w829 hx851 (SH.rd (SH.front 1 hS834)) (SH.le (SH.front 1 hS834)).1 (SH.rd (SH.front 0 hS834)) (SH.le (SH.front 0 hS834)).1) ?_
    rintro _ w852 ⟨rfl, hE853⟩
    refine ⟨_, rfl, ?_⟩
    have hb855 : Ext w w852 := Ext.trans hb832 hE853
    have hL856 : w.heap.size ≤ w852.heap.size := Nat.le_trans hL833 hE853.size
    have hS857 : SH w852 w.heap.size [aOwn fGood 56 a826 c827 x824.1, aOwn fGood 56 a814 c815 x812.1, aOwn fGood 56 a29 c30 x27.1, aOwn fGood 56 a17 c18 x15.1] := SH.ext hS834 hE853
    refine WL.runk 2 [2] [(2, .bool x850)] (by kernel_rfl) ?_
    refine WL.nil ?_
    obtain rfl := Option.some.inj hm
    exact WQ.post' ⟨rfl, hb855, hL856, (SH.take 0 hS857)⟩ ⟨rfl, trivial⟩
  have hm := iteT hm hc312
  refine WP.seq (fun K313 hK313 => ?_)
  refine WP.region ?_
  refine WL.runk 1 [3, 4, 5, 6, 7, 22, 23, 25, 26, 199] [(3, .slice a17 x15.1.length c18), (4, .string (bs x15.2.1)), (5, .int .i64 x15.2.2), (6, .slice a29 x27.1.length c30), (7, .int .i64 x27.2), (22, .slice a125 x123.1.length c126), (23, .slice a128 x123.2.length c129), (25, .int .i64 x138.2), (26, .int .i64 x147.1), (199, .slice a298 x296.1.length c299)] (by kernel_rfl) ?_
  obtain ⟨x314, hx315, hm⟩ := bindE hm
  refine WL.call 21 #[.slice a298 x296.1.length c299] rfl rfl (by kernel_rfl) (c_21 n x296.1 a298 c299 w301 hx315 (SH.rd (SH.front 0 hS306)) (SH.le (SH.front 0 hS306)).1) ?_
  rintro _ w319 ⟨a316, c317, rfl, hE320, hR321⟩
  refine ⟨_, rfl, ?_⟩
  have hb322 : Ext w w319 := Ext.trans hb304 hE320
  have hL323 : w.heap.size ≤ w319.heap.size := Nat.le_trans hL305 hE320.size
  have hS324 : SH w319 w.heap.size [aOwn fTake 43 a316 c317 x314.1, aOwn fGood 56 a298 c299 x296.1, aOwn fTake 43 a288 c289 x286, aOwn fGood 56 a125 c126 x123.1, aOwn fTake 43 a128 c129 x123.2, aOwn fTake 43 a113 c114 x111.1, aOwn fTake 43 a101 c102 x99.1, aOwn fGood 56 a89 c90 x87, aOwn fGood 56 a29 c30 x27.1, aOwn fGood 56 a17 c18 x15.1] := SH.add hS306 hE320 hL305 hR321
  refine WL.runk 5 [3, 4, 5, 6, 7, 22, 23, 25, 26, 33, 34] [(3, .slice a17 x15.1.length c18), (4, .string (bs x15.2.1)), (5, .int .i64 x15.2.2), (6, .slice a29 x27.1.length c30), (7, .int .i64 x27.2), (22, .slice a125 x123.1.length c126), (23, .slice a128 x123.2.length c129), (25, .int .i64 x138.2), (26, .int .i64 x147.1), (33, .slice a316 x314.1.length c317), (34, .int .i64 x314.2)] (by kernel_rfl) ?_
  refine WL.nil ?_
  refine WQ.then_normal (hK313 _ _ _ ?_)
  refine WP.seq (fun K325 hK325 => ?_)
  obtain ⟨x327, hx328, hm⟩ := bindE hm
  refine WP.cut (fun env' w' => env' = [(3, .slice a17 x15.1.length c18), (4, .string (bs x15.2.1)), (5, .int .i64 x15.2.2), (6, .slice a29 x27.1.length c30), (7, .int .i64 x27.2), (22, .slice a125 x123.1.length c126), (23, .slice a128 x123.2.length c129), (25, .int .i64 x138.2), (26, .int .i64 x147.1), (209, .bool x327)] ∧ Ext w w' ∧ w.heap.size ≤ w'.heap.size ∧ SH w' w.heap.size [aOwn fGood 56 a125 c126 x123.1, aOwn fTake 43 a128 c129 x123.2, aOwn fGood 56 a29 c30 x27.1, aOwn fGood 56 a17 c18 x15.1]) ?_ ?_
  · have hm := hx328; clear hx328
    refine WP.region ?_
    refine WL.runk 3 [3, 4, 5, 6, 7, 22, 23, 25, 26, 33, 205] [(3, .slice a17 x15.1.length c18), (4, .string (bs x15.2.1)), (5, .int .i64 x15.2.2), (6, .slice a29 x27.1.length c30), (7, .int .i64 x27.2), (22, .slice a125 x123.1.length c126), (23, .slice a128 x123.2.length c129), (25, .int .i64 x138.2), (26, .int .i64 x147.1), (33, .slice a316 x314.1.length c317), (205, .bool (x314.2 != 0))] (by kernel_rfl) ?_
    refine WL.case (x314.2 != 0) [205] ⟨rfl, trivial⟩ (fun hc329 => ?_) (fun hc329 => ?_)
    · have hm := iteT hm hc329
      refine WL.runk 4 [3, 4, 5, 6, 7, 22, 23, 25, 26, 209] [(3, .slice a17 x15.1.length c18), (4, .string (bs x15.2.1)), (5, .int .i64 x15.2.2), (6, .slice a29 x27.1.length c30), (7, .int .i64 x27.2), (22, .slice a125 x123.1.length c126), (23, .slice a128 x123.2.length c129), (25, .int .i64 x138.2), (26, .int .i64 x147.1), (209, .bool true)] (by kernel_rfl) ?_
      refine WL.nil ?_
      obtain rfl := Option.some.inj hm
      exact WQ.post' ⟨rfl, hb322, hL323, (SH.take 4 (SH.front 6 (SH.front 6 (SH.front 9 (SH.front 9 hS324)))))⟩ ⟨rfl, rfl, rfl, rfl, rfl, rfl, rfl, rfl, rfl, rfl, trivial⟩
    have hm := iteF hm hc329
    refine WL.runk 4 [3, 4, 5, 6, 7, 22, 23, 25, 26, 209] [(3, .slice a17 x15.1.length c18), (4, .string (bs x15.2.1)), (5, .int .i64 x15.2.2), (6, .slice a29 x27.1.length c30), (7, .int .i64 x27.2), (22, .slice a125 x123.1.length c126), (23, .slice a128 x123.2.length c129), (25, .int .i64 x138.2), (26, .int .i64 x147.1), (209, .bool ((x314.1.length : Int) != 0))] (by kernel_rfl) ?_
    refine WL.nil ?_
    obtain rfl := Option.some.inj hm
    exact WQ.post' ⟨rfl, hb322, hL323, (SH.take 4 (SH.front 6 (SH.front 6 (SH.front 9 (SH.front 9 hS324)))))⟩ ⟨rfl, rfl, rfl, rfl, rfl, rfl, rfl, rfl, rfl, rfl, trivial⟩
  clear hx328
  rintro _ w330 ⟨rfl, hb331, hL332, hS333⟩
  refine WQ.then_normal (hK325 _ _ _ ?_)
  refine WP.cond x327 rfl rfl (fun hc334 => ?_) (fun hc334 => ?_)
  · have hm := iteT hm hc334
    refine WP.seq (fun K335 hK335 => ?_)
    refine WP.region ?_
    refine WL.runk 1 [2] [(2, .bool false)] (by kernel_rfl) ?_
    refine WL.nil ?_
    refine WQ.then_normal (hK335 _ _ _ ?_)
    refine WP.ret ?_
    refine WQ.then_ret ?_
    obtain rfl := Option.some.inj hm
    exact WQ.ret1 _ rfl rfl ⟨rfl, hb331⟩
  have hm := iteF hm hc334
  refine WP.skip ?_
  refine WQ.then_normal (hK273 _ _ _ ?_)
  refine WP.seq (fun K336 hK336 => ?_)
  refine WP.seq (fun K337 hK337 => ?_)
  obtain ⟨x341, hx342, hm⟩ := bindE hm
  refine WP.cut (fun env' w' => env' = [(3, .slice a17 x15.1.length c18), (4, .string (bs x15.2.1)), (5, .int .i64 x15.2.2), (6, .slice a29 x27.1.length c30), (7, .int .i64 x27.2), (22, .slice a125 x123.1.length c126), (23, .slice a128 x123.2.length c129), (26, .int .i64 x147.1), (224, .bool x341)] ∧ Ext w w' ∧ w.heap.size ≤ w'.heap.size ∧ SH w' w.heap.size [aOwn fGood 56 a125 c126 x123.1, aOwn fTake 43 a128 c129 x123.2, aOwn fGood 56 a29 c30 x27.1, aOwn fGood 56 a17 c18 x15.1]) ?_ ?_
  · have hm := hx342; clear hx342
    refine WP.region ?_
    refine WL.runk 3 [3, 4, 5, 6, 7, 22, 23, 26, 212] [(3, .slice a17 x15.1.length c18), (4, .string (bs x15.2.1)), (5, .int .i64 x15.2.2), (6, .slice a29 x27.1.length c30), (7, .int .i64 x27.2), (22, .slice a125 x123.1.length c126), (23, .slice a128 x123.2.length c129), (26, .int .i64 x147.1), (212, .bool (x138.2 == 0))] (by kernel_rfl) ?_
    refine WL.case (x138.2 == 0) [212] ⟨rfl, trivial⟩ (fun hc343 => ?_) (fun hc343 => ?_)
    rotate_left
    · have hm := iteF hm hc343
      refine WL.runk 12 [3, 4, 5, 6, 7, 22, 23, 26, 224] [(3, .slice a17 x15.1.length c18), (4, .string (bs x15.2.1)), (5, .int .i64 x15.2.2), (6, .slice a29 x27.1.length c30), (7, .int .i64 x27.2), (22, .slice a125 x123.1.length c126), (23, .slice a128 x123.2.length c129), (26, .int .i64 x147.1), (224, .bool false)] (by kernel_rfl) ?_
      refine WL.nil ?_
      obtain rfl := Option.some.inj hm
      exact WQ.post' ⟨rfl, hb331, hL332, hS333⟩ ⟨rfl, rfl, rfl, rfl, rfl, rfl, rfl, rfl, rfl, trivial⟩
    have hm := iteT hm hc343
    refine WL.runk 4 [3, 4, 5, 6, 7, 22, 23, 26, 216] [(3, .slice a17 x15.1.length c18), (4, .string (bs x15.2.1)), (5, .int .i64 x15.2.2), (6, .slice a29 x27.1.length c30), (7, .int .i64 x27.2), (22, .slice a125 x123.1.length c126), (23, .slice a128 x123.2.length c129), (26, .int .i64 x147.1), (216, .bool (decide (x147.1 > 0)))] (by kernel_rfl) ?_
    refine WL.case (decide (x147.1 > 0)) [216] ⟨rfl, trivial⟩ (fun hc344 => ?_) (fun hc344 => ?_)
    rotate_left
    · have hm := iteF hm hc344
      refine WL.runk 8 [3, 4, 5, 6, 7, 22, 23, 26, 224] [(3, .slice a17 x15.1.length c18), (4, .string (bs x15.2.1)), (5, .int .i64 x15.2.2), (6, .slice a29 x27.1.length c30), (7, .int .i64 x27.2), (22, .slice a125 x123.1.length c126), (23, .slice a128 x123.2.length c129), (26, .int .i64 x147.1), (224, .bool false)] (by kernel_rfl) ?_
      refine WL.nil ?_
      obtain rfl := Option.some.inj hm
      exact WQ.post' ⟨rfl, hb331, hL332, hS333⟩ ⟨rfl, rfl, rfl, rfl, rfl, rfl, rfl, rfl, rfl, trivial⟩
    have hm := iteT hm hc344
    refine WL.runk 4 [3, 4, 5, 6, 7, 22, 23, 26, 220] [(3, .slice a17 x15.1.length c18), (4, .string (bs x15.2.1)), (5, .int .i64 x15.2.2), (6, .slice a29 x27.1.length c30), (7, .int .i64 x27.2), (22, .slice a125 x123.1.length c126), (23, .slice a128 x123.2.length c129), (26, .int .i64 x147.1), (220, .bool (decide (x147.1 < 1000)))] (by kernel_rfl) ?_
    refine WL.case (decide (x147.1 < 1000)) [220] ⟨rfl, trivial⟩ (fun hc345 => ?_) (fun hc345 => ?_)
    · have hm := iteT hm hc345
      refine WL.runk 4 [3, 4, 5, 6, 7, 22, 23, 26, 224] [(3, .slice a17 x15.1.length c18), (4, .string (bs x15.2.1)), (5, .int .i64 x15.2.2), (6, .slice a29 x27.1.length c30), (7, .int .i64 x27.2), (22, .slice a125 x123.1.length c126), (23, .slice a128 x123.2.length c129), (26, .int .i64 x147.1), (224, .bool (decide ((x123.2.length : Int) < 20)))] (by kernel_rfl) ?_
      refine WL.nil ?_
      obtain rfl := Option.some.inj hm
      exact WQ.post' ⟨rfl, hb331, hL332, hS333⟩ ⟨rfl, rfl, rfl, rfl, rfl, rfl, rfl, rfl, rfl, trivial⟩
    have hm := iteF hm hc345
    refine WL.runk 4 [3, 4, 5, 6, 7, 22, 23, 26, 224] [(3, .slice a17 x15.1.length c18), (4, .string (bs x15.2.1)), (5, .int .i64 x15.2.2), (6, .slice a29 x27.1.length c30), (7, .int .i64 x27.2), (22, .slice a125 x123.1.length c126), (23, .slice a128 x123.2.length c129), (26, .int .i64 x147.1), (224, .bool false)] (by kernel_rfl) ?_
    refine WL.nil ?_
    obtain rfl := Option.some.inj hm
    exact WQ.post' ⟨rfl, hb331, hL332, hS333⟩ ⟨rfl, rfl, rfl, rfl, rfl, rfl, rfl, rfl, rfl, trivial⟩
  clear hx342
  rintro _ w346 ⟨rfl, hb347, hL348, hS349⟩
  refine WQ.then_normal (hK337 _ _ _ ?_)
  refine WP.cond x341 rfl rfl (fun hc350 => ?_) (fun hc350 => ?_)
  rotate_left
  · have hm := iteF hm hc350
    refine WP.skip ?_
    refine WQ.then_normal (hK336 _ _ _ ?_)
    refine WP.seq (fun K623 hK623 => ?_)
    refine WP.seq (fun K624 hK624 => ?_)
    refine WP.region ?_
    refine WL.runk 2 [3, 4, 5, 6, 281] [(3, .slice a17 x15.1.length c18), (4, .string (bs x15.2.1)), (5, .int .i64 x15.2.2), (6, .slice a29 x27.1.length c30), (281, .bool (x27.2 != 0))] (by kernel_rfl) ?_
    refine WL.nil ?_
    refine WQ.then_normal (hK624 _ _ _ ?_)
    refine WP.cond (x27.2 != 0) rfl rfl (fun hc625 => ?_) (fun hc625 => ?_)
    · have hm := iteT hm hc625
      refine WP.seq (fun K626 hK626 => ?_)
      refine WP.region ?_
      refine WL.runk 1 [2] [(2, .bool true)] (by kernel_rfl) ?_
      refine WL.nil ?_
      refine WQ.then_normal (hK626 _ _ _ ?_)
      refine WP.ret ?_
      refine WQ.then_ret ?_
      obtain rfl := Option.some.inj hm
      exact WQ.ret1 _ rfl rfl ⟨rfl, hb347⟩
    have hm := iteF hm hc625
    refine WP.skip ?_
    refine WQ.then_normal (hK623 _ _ _ ?_)
    refine WP.seq (fun K627 hK627 => ?_)
    refine WP.region ?_
    refine WL.runk 3 [3, 4, 5, 283, 284, 285] [(3, .slice a17 x15.1.length c18), (4, .string (bs x15.2.1)), (5, .int .i64 x15.2.2), (283, .slice a29 x27.1.length c30), (284, .string (bs x15.2.1)), (285, .int .i64 x15.2.2)] (by kernel_rfl) ?_
    obtain ⟨x628, hx629, hm⟩ := bindE hm
    refine WL.call 30 #[.slice a29 x27.1.length c30, .string (bs x15.2.1), .int .i64 x15.2.2] rfl rfl (by kernel_rfl) (c_30 n x27.1 a29 c30 x15.2.1 x15.2.2 w346 hx629 (SH.rd (SH.front 2 hS349)) (SH.le (SH.front 2 hS349)).1) ?_
    rintro _ w633 ⟨a630, c631, rfl, hE634, hR635⟩
    refine ⟨_, rfl, ?_⟩
    have hb636 : Ext w w633 := Ext.trans hb347 hE634
    have hL637 : w.heap.size ≤ w633.heap.size := Nat.le_trans hL348 hE634.size
    have hS638 : SH w633 w.heap.size [aOwn fGood 56 a630 c631 x628.1, aOwn fGood 56 a125 c126 x123.1, aOwn fTake 43 a128 c129 x123.2, aOwn fGood 56 a29 c30 x27.1, aOwn fGood 56 a17 c18 x15.1] := SH.add hS349 hE634 hL348 hR635
    refine WL.runk 5 [3, 4, 5, 42, 43] [(3, .slice a17 x15.1.length c18), (4, .string (bs x15.2.1)), (5, .int .i64 x15.2.2), (42, .slice a630 x628.1.length c631), (43, .int .i64 x628.2)] (by kernel_rfl) ?_
    refine WL.nil ?_
    refine WQ.then_normal (hK627 _ _ _ ?_)
    refine WP.seq (fun K639 hK639 => ?_)
    refine WP.region ?_
    refine WL.runk 5 [42, 43, 290, 294] [(42, .slice a630 x628.1.length c631), (43, .int .i64 x628.2), (290, .slice a17 x15.1.length c18), (294, .agg #[.string (bs x15.2.1), .int .i64 (wI64 (0 - x15.2.2))])] (by kernel_rfl) ?_
    obtain ⟨x640, hx641, hm⟩ := bindE hm
    refine WL.call 32 #[.slice a17 x15.1.length c18, .agg #[.string (bs x15.2.1), .int .i64 (wI64 (0 - x15.2.2))]] rfl rfl (by kernel_rfl) (c_32 n x15.1 a17 c18 (STake.mk x15.2.1 (wI64 (0 - x15.2.2))) w633 hx641 (SH.rd (SH.front 4 hS638)) (SH.le (SH.front 4 hS638)).1) ?_
    rintro _ w645 ⟨a642, c643, rfl, hE646, hR647⟩
    refine ⟨_, rfl, ?_⟩
    have hb648 : Ext w w645 := Ext.trans hb636 hE646
    have hL649 : w.heap.size ≤ w645.heap.size := Nat.le_trans hL637 hE646.size
    have hS650 : SH w645 w.heap.size [aOwn fGood 56 a642 c643 x640.1, aOwn fGood 56 a630 c631 x628.1, aOwn fGood 56 a125 c126 x123.1, aOwn fTake 43 a128 c129 x123.2, aOwn fGood 56 a29 c30 x27.1, aOwn fGood 56 a17 c18 x15.1] := SH.add hS638 hE646 hL637 hR647
    refine WL.runk 5 [42, 43, 44, 45] [(42, .slice a630 x628.1.length c631), (43, .int .i64 x628.2), (44, .slice a642 x640.1.length c643), (45, .int .i64 x640.2)] (by kernel_rfl) ?_
    refine WL.nil ?_
    refine WQ.then_normal (hK639 _ _ _ ?_)
    refine WP.seq (fun K651 hK651 => ?_)
    obtain ⟨x662, hx663, hm⟩ := bindE hm
    refine WP.cut (fun env' w' => env' = [(2, .bool x662)] ∧ Ext w w' ∧ w.heap.size ≤ w'.heap.size ∧ SH w' w.heap.size []) ?_ ?_
    rotate_left
    · clear hx663
      rintro _ w674 ⟨rfl, hb675, hL676, hS677⟩
      refine WQ.then_normal (hK651 _ _ _ ?_)
      refine WP.ret ?_
      obtain rfl := Option.some.inj hm
      exact WQ.ret1 _ rfl rfl ⟨rfl, hb675⟩
    have hm := hx663; clear hx663
    refine WP.region ?_
    refine WL.runk 3 [42, 44, 45, 300] [(42, .slice a630 x628.1.length c631), (44, .slice a642 x640.1.length c643), (45, .int .i64 x640.2), (300, .bool (x628.2 == 0))] (by kernel_rfl) ?_
    refine WL.case (x628.2 == 0) [300] ⟨rfl, trivial⟩ (fun hc664 => ?_) (fun hc664 => ?_)
    rotate_left
    · have hm := iteF hm hc664
      refine WL.runk 9 [2] [(2, .bool false)] (by kernel_rfl) ?_
      refine WL.nil ?_
      obtain rfl := Option.some.inj hm
      exact WQ.post' ⟨rfl, hb648, hL649, (SH.take 0 hS650)⟩ ⟨rfl, trivial⟩
    have hm := iteT hm hc664
    refine WL.runk 4 [42, 44, 304] [(42, .slice a630 x628.1.length c631), (44, .slice a642 x640.1.length c643), (304, .bool (x640.2 == 0))] (by kernel_rfl) ?_
    refine WL.case (x640.2 == 0) [304] ⟨rfl, trivial⟩ (fun hc665 => ?_) (fun hc665 => ?_)
    rotate_left
    · have hm := iteF hm hc665
      refine WL.runk 5 [2] [(2, .bool false)] (by kernel_rfl) ?_
      refine WL.nil ?_
      obtain rfl := Option.some.inj hm
      exact WQ.post' ⟨rfl, hb648, hL649, (SH.take 0 hS650)⟩ ⟨rfl, trivial⟩
    have hm := iteT hm hc665
    refine WL.runk 2 [304, 305, 306] [(304, .bool true), (305, .slice a630 x628.1.length c631), (306, .slice a642 x640.1.length c643)] (by kernel_rfl) ?_
    obtain ⟨x666, hx667, hm⟩ := bindE hm
    refine WL.call 14 #[.slice a630 x628.1.length c631, .slice a642 x640.1.length c643] rfl rfl (by kernel_rfl) (c_14 n x628.1 a630 c631 x640.1 a642 c643 w645 hx667 (SH.rd (SH.front 1 hS650)) (SH.le (SH.front 1 hS650)).1 (SH.rd (SH.front 0 hS650)) (SH.le (SH.front 0 hS650)).1) ?_
    rintro _ w668 ⟨rfl, hE669⟩
    refine ⟨_, rfl, ?_⟩
    have hb671 : Ext w w668 := Ext.trans hb648 hE669
    have hL672 : w.heap.size ≤ w668.heap.size := Nat.le_trans hL649 hE669.size
    have hS673 : SH w668 w.heap.size [aOwn fGood 56 a642 c643 x640.1, aOwn fGood 56 a630 c631 x628.1, aOwn fGood 56 a125 c126 x123.1, aOwn fTake 43 a128 c129 x123.2, aOwn fGood 56 a29 c30 x27.1, aOwn fGood 56 a17 c18 x15.1] := SH.ext hS650 hE669
    refine WL.runk 2 [2] [(2, .bool x666)] (by kernel_rfl) ?_
    refine WL.nil ?_
    obtain rfl := Option.some.inj hm
    exact WQ.post' ⟨rfl, hb671, hL672, (SH.take 0 hS673)⟩ ⟨rfl, trivial⟩
  have hm := iteT hm hc350
  refine WP.seq (fun K351 hK351 => ?_)
  refine WP.region ?_
  refine WL.row fTake 43 ([] : List STake) 0 #[] 225 (by kernel_rfl) rfl rfl rfl rfl rfl rfl rfl ?_
  intro a352 c353 w354 hE355 hR356
  have hb358 : Ext w w354 := Ext.trans hb347 hE355
  have hL359 : w.heap.size ≤ w354.heap.size := Nat.le_trans hL348 hE355.size
  have hS360 : SH w354 w.heap.size [aOwn fTake 43 a352 c353 ([] : List STake), aOwn fGood 56 a125 c126 x123.1, aOwn fTake 43 a128 c129 x123.2, aOwn fGood 56 a29 c30 x27.1, aOwn fGood 56 a17 c18 x15.1] := SH.add hS349 hE355 hL348 hR356
  refine WL.runk 1 [3, 4, 5, 6, 7, 22, 23, 26, 35] [(3, .slice a17 x15.1.length c18), (4, .string (bs x15.2.1)), (5, .int .i64 x15.2.2), (6, .slice a29 x27.1.length c30), (7, .int .i64 x27.2), (22, .slice a125 x123.1.length c126), (23, .slice a128 x123.2.length c129), (26, .int .i64 x147.1), (35, .slice a352 (([] : List STake).length) c353)] (by kernel_rfl) ?_
  refine WL.nil ?_
  refine WQ.then_normal (hK351 _ _ _ ?_)
  refine WP.seq (fun K361 hK361 => ?_)
  refine WP.seq (fun K362 hK362 => ?_)
  refine WP.region ?_
  refine WL.runk 1 [3, 4, 5, 6, 7, 22, 23, 26, 35, 36] [(3, .slice a17 x15.1.length c18), (4, .string (bs x15.2.1)), (5, .int .i64 x15.2.2), (6, .slice a29 x27.1.length c30), (7, .int .i64 x27.2), (22, .slice a125 x123.1.length c126), (23, .slice a128 x123.2.length c129), (26, .int .i64 x147.1), (35, .slice a352 (([] : List STake).length) c353), (36, .int .i64 0)] (by kernel_rfl) ?_
  refine WL.nil ?_
  refine WQ.then_normal (hK362 _ _ _ ?_)
  refine WP.block ?_
  obtain ⟨t377, ht378, hm⟩ := bindE hm
  have hmo372 := hm; clear hm
  refine WP.sub [(3, .slice a17 x15.1.length c18), (4, .string (bs x15.2.1)), (5, .int .i64 x15.2.2), (6, .slice a29 x27.1.length c30), (7, .int .i64 x27.2), (22, .slice a125 x123.1.length c126), (23, .slice a128 x123.2.length c129), (26, .int .i64 x147.1), (35, .slice a352 (([] : List STake).length) c353), (36, .int .i64 0)] ⟨rfl, rfl, rfl, rfl, rfl, rfl, rfl, rfl, rfl, rfl, trivial⟩ ?_
  refine WP.loop (fun n' env' w' => ∃ (st363 : List STake × Int) (a364 : Option Addr) (c365 : Nat), env' = [(3, .slice a17 x15.1.length c18), (4, .string (bs x15.2.1)), (5, .int .i64 x15.2.2), (6, .slice a29 x27.1.length c30), (7, .int .i64 x27.2), (22, .slice a125 x123.1.length c126), (23, .slice a128 x123.2.length c129), (26, .int .i64 x147.1), (35, .slice a364 st363.1.length c365), (36, .int .i64 st363.2)] ∧ Ext w w' ∧ w.heap.size ≤ w'.heap.size ∧ SH w' w.heap.size [aOwn fTake 43 a364 c365 st363.1, aOwn fGood 56 a125 c126 x123.1, aOwn fTake 43 a128 c129 x123.2, aOwn fGood 56 a29 c30 x27.1, aOwn fGood 56 a17 c18 x15.1] ∧ loopN (m_laws_FnReserves_l2 n x123 x147) n' st363 = some t377) n ⟨(([] : List STake), 0), _, _, rfl, hb358, hL359, hS360, ht378⟩ ?_
  rintro n374 _ w367 ⟨st363, a364, c365, rfl, hb368, hL369, hS370, hl371⟩ K373 hK373
  obtain ⟨n375, s376, rfl, hm, hl371⟩ := loopN_some hl371
  unfold m_laws_FnReserves_l2 at hm
  refine WP.seq (fun K379 hK379 => ?_)
  refine WP.seq (fun K380 hK380 => ?_)
  refine WP.region ?_
  refine WL.runk 4 [3, 4, 5, 6, 7, 22, 23, 26, 35, 36, 229] [(3, .slice a17 x15.1.length c18), (4, .string (bs x15.2.1)), (5, .int .i64 x15.2.2), (6, .slice a29 x27.1.length c30), (7, .int .i64 x27.2), (22, .slice a125 x123.1.length c126), (23, .slice a128 x123.2.length c129), (26, .int .i64 x147.1), (35, .slice a364 st363.1.length c365), (36, .int .i64 st363.2), (229, .bool (decide (st363.2 < (x123.2.length : Int))))] (by kernel_rfl) ?_
  refine WL.nil ?_
  refine WQ.then_normal (hK380 _ _ _ ?_)
  refine WP.cond (decide (st363.2 < (x123.2.length : Int))) rfl rfl (fun hc381 => ?_) (fun hc381 => ?_)
  · have hm := iteT hm hc381
    refine WP.skip ?_
    refine WQ.then_normal (hK379 _ _ _ ?_)
    refine WP.seq (fun K382 hK382 => ?_)
    refine WP.block ?_
    refine WP.seq (fun K383 hK383 => ?_)
    refine WP.seq (fun K384 hK384 => ?_)
    refine WP.region ?_
    refine WL.runk 2 [3, 4, 5, 6, 7, 22, 23, 26, 35, 36, 232, 233] [(3, .slice a17 x15.1.length c18), (4, .string (bs x15.2.1)), (5, .int .i64 x15.2.2), (6, .slice a29 x27.1.length c30), (7, .int .i64 x27.2), (22, .slice a125 x123.1.length c126), (23, .slice a128 x123.2.length c129), (26, .int .i64 x147.1), (35, .slice a364 st363.1.length c365), (36, .int .i64 st363.2), (232, .slice a128 x123.2.length c129), (233, .int .i64 st363.2)] (by kernel_rfl) ?_
    obtain ⟨x385, hx386, hm⟩ := bindE hm
    refine WL.st (.pointer (some (at_ a128 (Int.toNat st363.2 * 2)))) (ST.index (T := fTake.ty) (xs := x123.2) (SH.rd (SH.front 2 hS370)) hx386 rfl rfl rfl Try.underlying30 (info43).1 (info43).2.1) rfl rfl rfl ?_
    refine WL.runk 1 [3, 4, 5, 6, 7, 22, 23, 26, 35, 36, 235] [(3, .slice a17 x15.1.length c18), (4, .string (bs x15.2.1)), (5, .int .i64 x15.2.2), (6, .slice a29 x27.1.length c30), (7, .int .i64 x27.2), (22, .slice a125 x123.1.length c126), (23, .slice a128 x123.2.length c129), (26, .int .i64 x147.1), (35, .slice a364 st363.1.length c365), (36, .int .i64 st363.2), (235, .pointer (some (at_ a128 (Int.toNat st363.2 * 2 + 1))))] (by kernel_rfl) ?_
    refine WL.st (.int .i64 x385.Many) (ST.load (cell_ext (Rd.flat (F := fTake) (SH.rd (SH.front 2 hS370)) hx386 1 rfl)) rfl rfl Try.underlying2 rfl) rfl rfl rfl ?_
    refine WL.runk 1 [3, 4, 5, 6, 7, 22, 23, 26, 35, 36, 237] [(3, .slice a17 x15.1.length c18), (4, .string (bs x15.2.1)), (5, .int .i64 x15.2.2), (6, .slice a29 x27.1.length c30), (7, .int .i64 x27.2), (22, .slice a125 x123.1.length c126), (23, .slice a128 x123.2.length c129), (26, .int .i64 x147.1), (35, .slice a364 st363.1.length c365), (36, .int .i64 st363.2), (237, .bool (decide (x385.Many > 1000)))] (by kernel_rfl) ?_
    refine WL.nil ?_
    refine WQ.then_normal (hK384 _ _ _ ?_)
    refine WP.cond (decide (x385.Many > 1000)) rfl rfl (fun hc387 => ?_) (fun hc387 => ?_)
    · have hm := iteT hm hc387
      refine WP.seq (fun K388 hK388 => ?_)
      refine WP.region ?_
      refine WL.runk 1 [2] [(2, .bool true)] (by kernel_rfl) ?_
      refine WL.nil ?_
      refine WQ.then_normal (hK388 _ _ _ ?_)
      refine WP.ret ?_
      refine WQ.then_ret ?_
      refine WQ.block_ret ?_
      refine WQ.then_ret ?_
      refine WQ.then_ret ?_
      refine WQ.block_ret ?_
      refine WQ.then_ret ?_
      refine WQ.then_ret ?_
      obtain rfl := Option.some.inj hm
      obtain rfl := afterN_done hl371
      have hm := hmo372
      obtain rfl := Option.some.inj hm
      exact WQ.ret1 _ rfl rfl ⟨rfl, hb368⟩
    have hm := iteF hm hc387
    refine WP.skip ?_
    refine WQ.then_normal (hK383 _ _ _ ?_)
    refine WP.open (n := 18) (by kernel_rfl) rfl (fun w389 hE390 => ?_)
    have hb391 : Ext w w389 := Ext.trans hb368 hE390
    have hL392 : w.heap.size ≤ w389.heap.size := Nat.le_trans hL369 hE390.size
    have hS393 : SH w389 w.heap.size [aOwn fTake 43 a364 c365 st363.1, aOwn fGood 56 a125 c126 x123.1, aOwn fTake 43 a128 c129 x123.2, aOwn fGood 56 a29 c30 x27.1, aOwn fGood 56 a17 c18 x15.1] := SH.ext hS370 hE390
    refine WA.pre (i := 0) (D' := [0]) [(3, .slice a17 x15.1.length c18), (4, .string (bs x15.2.1)), (5, .int .i64 x15.2.2), (6, .slice a29 x27.1.length c30), (7, .int .i64 x27.2), (22, .slice a125 x123.1.length c126), (23, .slice a128 x123.2.length c129), (26, .int .i64 x147.1), (35, .slice a364 st363.1.length c365), (36, .int .i64 st363.2), (237, .bool (decide (x385.Many > 1000))), (238, .slice a364 st363.1.length c365)] rfl (by kernel_rfl) rfl (fun _ => by kernel_rfl) rfl ?_
    refine WA.quiet (f' := 3) (D' := [0, 1, 2, 3, 4, 5, 6, 7, 8, 9, 10, 11, 12, 13, 14]) [1, 2, 3, 4, 5, 6, 7, 8, 9, 10, 11, 12, 13, 14] rfl rfl (by kernel_rfl) ?_
    refine QL.step1v 239 (.slice a128 x123.2.length c129) rfl (fun _ => by kernel_rfl) ?_
    refine QL.step1v 240 (.int .i64 st363.2) rfl (fun _ => by kernel_rfl) ?_
    refine QL.subk [3, 4, 5, 6, 7, 22, 23, 26, 35, 36, 238, 239, 240] [(3, .slice a17 x15.1.length c18), (4, .string (bs x15.2.1)), (5, .int .i64 x15.2.2), (6, .slice a29 x27.1.length c30), (7, .int .i64 x27.2), (22, .slice a125 x123.1.length c126), (23, .slice a128 x123.2.length c129), (26, .int .i64 x147.1), (35, .slice a364 st363.1.length c365), (36, .int .i64 st363.2), (238, .slice a364 st363.1.length c365), (239, .slice a128 x123.2.length c129), (240, .int .i64 st363.2)] (by kernel_rfl) ?_
    obtain ⟨x394, hx395, hm⟩ := bindE hm
    refine QL.st (.pointer (some (at_ a128 (Int.toNat st363.2 * 2)))) (ST.index (T := fTake.ty) (xs := x123.2) (SH.rd (SH.front 2 hS393)) hx395 rfl rfl rfl Try.underlying30 (info43).1 (info43).2.1) rfl rfl rfl ?_
    refine QL.step1v 242 (.pointer (some (at_ a128 (Int.toNat st363.2 * 2)))) rfl (fun _ => by kernel_rfl) ?_
    refine QL.subk [3, 4, 5, 6, 7, 22, 23, 26, 35, 36, 238, 242] [(3, .slice a17 x15.1.length c18), (4, .string (bs x15.2.1)), (5, .int .i64 x15.2.2), (6, .slice a29 x27.1.length c30), (7, .int .i64 x27.2), (22, .slice a125 x123.1.length c126), (23, .slice a128 x123.2.length c129), (26, .int .i64 x147.1), (35, .slice a364 st363.1.length c365), (36, .int .i64 st363.2), (238, .slice a364 st363.1.length c365), (242, .pointer (some (at_ a128 (Int.toNat st363.2 * 2))))] (by kernel_rfl) ?_
    refine QL.st (.string (bs x394.Name)) (ST.load (cell_ext (Rd.flat (F := fTake) (SH.rd (SH.front 2 hS393)) hx395 0 rfl)) rfl rfl Try.underlying9 rfl) rfl rfl rfl ?_
    refine QL.step1v 244 (.int .i64 x147.1) rfl (fun _ => by kernel_rfl) ?_
    refine QL.step1v 245 (.int .i64 (wI64 (0 - x147.1))) rfl (fun _ => by kernel_rfl) ?_
    refine QL.step1v 246 (.slice a128 x123.2.length c129) rfl (fun _ => by kernel_rfl) ?_
    refine QL.step1v 247 (.int .i64 st363.2) rfl (fun _ => by kernel_rfl) ?_
    refine QL.subk [3, 4, 5, 6, 7, 22, 23, 26, 35, 36, 238, 243, 245, 246, 247] [(3, .slice a17 x15.1.length c18), (4, .string (bs x15.2.1)), (5, .int .i64 x15.2.2), (6, .slice a29 x27.1.length c30), (7, .int .i64 x27.2), (22, .slice a125 x123.1.length c126), (23, .slice a128 x123.2.length c129), (26, .int .i64 x147.1), (35, .slice a364 st363.1.length c365), (36, .int .i64 st363.2), (238, .slice a364 st363.1.length c365), (243, .string (bs x394.Name)), (245, .int .i64 (wI64 (0 - x147.1))), (246, .slice a128 x123.2.length c129), (247, .int .i64 st363.2)] (by kernel_rfl) ?_
    obtain ⟨x396, hx397, hm⟩ := bindE hm
    refine QL.st (.pointer (some (at_ a128 (Int.toNat st363.2 * 2)))) (ST.index (T := fTake.ty) (xs := x123.2) (SH.rd (SH.front 2 hS393)) hx397 rfl rfl rfl Try.underlying30 (info43).1 (info43).2.1) rfl rfl rfl ?_
    refine QL.step1v 249 (.pointer (some (at_ a128 (Int.toNat st363.2 * 2 + 1)))) rfl (fun _ => by kernel_rfl) ?_
    refine QL.subk [3, 4, 5, 6, 7, 22, 23, 26, 35, 36, 238, 243, 245, 249] [(3, .slice a17 x15.1.length c18), (4, .string (bs x15.2.1)), (5, .int .i64 x15.2.2), (6, .slice a29 x27.1.length c30), (7, .int .i64 x27.2), (22, .slice a125 x123.1.length c126), (23, .slice a128 x123.2.length c129), (26, .int .i64 x147.1), (35, .slice a364 st363.1.length c365), (36, .int .i64 st363.2), (238, .slice a364 st363.1.length c365), (243, .string (bs x394.Name)), (245, .int .i64 (wI64 (0 - x147.1))), (249, .pointer (some (at_ a128 (Int.toNat st363.2 * 2 + 1))))] (by kernel_rfl) ?_
    refine QL.st (.int .i64 x396.Many) (ST.load (cell_ext (Rd.flat (F := fTake) (SH.rd (SH.front 2 hS393)) hx397 1 rfl)) rfl rfl Try.underlying2 rfl) rfl rfl rfl ?_
    refine QL.step1v 251 (.int .i64 (wI64 ((wI64 (0 - x147.1)) * x396.Many))) rfl (fun _ => by kernel_rfl) ?_
    refine QL.step1v 252 (.agg #[.string (bs x394.Name), .int .i64 (wI64 ((wI64 (0 - x147.1)) * x396.Many))]) rfl (fun _ => by kernel_rfl) ?_
    refine QL.subk [3, 4, 5, 6, 7, 22, 23, 26, 35, 36, 238, 252] [(3, .slice a17 x15.1.length c18), (4, .string (bs x15.2.1)), (5, .int .i64 x15.2.2), (6, .slice a29 x27.1.length c30), (7, .int .i64 x27.2), (22, .slice a125 x123.1.length c126), (23, .slice a128 x123.2.length c129), (26, .int .i64 x147.1), (35, .slice a364 st363.1.length c365), (36, .int .i64 st363.2), (238, .slice a364 st363.1.length c365), (252, .agg #[.string (bs x394.Name), .int .i64 (wI64 ((wI64 (0 - x147.1)) * x396.Many))])] (by kernel_rfl) ?_
    refine QL.nil ?_
    intro w398 hE399
    have hb400 : Ext w w398 := Ext.trans hb391 hE399
    have hL401 : w.heap.size ≤ w398.heap.size := Nat.le_trans hL392 hE399.size
    have hS402 : SH w398 w.heap.size [aOwn fTake 43 a364 c365 st363.1, aOwn fGood 56 a125 c126 x123.1, aOwn fTake 43 a128 c129 x123.2, aOwn fGood 56 a29 c30 x27.1, aOwn fGood 56 a17 c18 x15.1] := SH.ext hS393 hE399
    refine WA.one (i := 15) (D' := [0, 1, 2, 3, 4, 5, 6, 7, 8, 9, 10, 11, 12, 13, 14, 15]) rfl rfl (by kernel_rfl) ?_
    refine WL.row fTake 43 ([(STake.mk x394.Name (wI64 ((wI64 (0 - x147.1)) * x396.Many)))] : List STake) 1 #[.string (bs x394.Name), .int .i64 (wI64 ((wI64 (0 - x147.1)) * x396.Many))] 253 (by kernel_rfl) rfl rfl rfl rfl rfl rfl rfl ?_
    intro a403 c404 w405 hE406 hR407
    have hb409 : Ext w w405 := Ext.trans hb400 hE406
    have hL410 : w.heap.size ≤ w405.heap.size := Nat.le_trans hL401 hE406.size
    have hS411 : SH w405 w.heap.size [aOwn fTake 43 a403 c404 ([(STake.mk x394.Name (wI64 ((wI64 (0 - x147.1)) * x396.Many)))] : List STake), aOwn fTake 43 a364 c365 st363.1, aOwn fGood 56 a125 c126 x123.1, aOwn fTake 43 a128 c129 x123.2, aOwn fGood 56 a29 c30 x27.1, aOwn fGood 56 a17 c18 x15.1] := SH.add hS402 hE406 hL401 hR407
    refine WL.sub [(3, .slice a17 x15.1.length c18), (4, .string (bs x15.2.1)), (5, .int .i64 x15.2.2), (6, .slice a29 x27.1.length c30), (7, .int .i64 x27.2), (22, .slice a125 x123.1.length c126), (23, .slice a128 x123.2.length c129), (26, .int .i64 x147.1), (35, .slice a364 st363.1.length c365), (36, .int .i64 st363.2), (238, .slice a364 st363.1.length c365), (253, .slice a403 (([(STake.mk x394.Name (wI64 ((wI64 (0 - x147.1)) * x396.Many)))] : List STake).length) c404)] ⟨rfl, rfl, rfl, rfl, rfl, rfl, rfl, rfl, rfl, rfl, rfl, rfl, trivial⟩ ?_
    refine WL.nil ?_
    refine WA.one (i := 16) (D' := [0, 1, 2, 3, 4, 5, 6, 7, 8, 9, 10, 11, 12, 13, 14, 15, 16]) rfl rfl (by kernel_rfl) ?_
    obtain ⟨x412, hx413, hm⟩ := bindE hm
    refine WL.append (F := fTake) (xs := st363.1) (ys := ([(STake.mk x394.Name (wI64 ((wI64 (0 - x147.1)) * x396.Many)))] : List STake)) 254 (SH.front 1 hS411) hL410 (SH.rd (SH.front 0 hS411)) hx413 rfl rfl rfl Try.underlying30 (info43).1 (info43).2.2.1 (info43).2.1 (info43).2.2.2 rfl rfl rfl rfl rfl ?_
    intro a414 c415 w416 hB417 hS418
    have hb419 : Ext w w416 := Below.trans hb409 hB417
    have hL420 : w.heap.size ≤ w416.heap.size := Nat.le_trans hL410 hB417.size
    refine WL.sub [(3, .slice a17 x15.1.length c18), (4, .string (bs x15.2.1)), (5, .int .i64 x15.2.2), (6, .slice a29 x27.1.length c30), (7, .int .i64 x27.2), (22, .slice a125 x123.1.length c126), (23, .slice a128 x123.2.length c129), (26, .int .i64 x147.1), (35, .slice a364 st363.1.length c365), (36, .int .i64 st363.2), (254, .slice a414 x412.length c415)] ⟨rfl, rfl, rfl, rfl, rfl, rfl, rfl, rfl, rfl, rfl, rfl, trivial⟩ ?_
    refine WL.nil ?_
    refine WA.one (i := 17) (D' := [0, 1, 2, 3, 4, 5, 6, 7, 8, 9, 10, 11, 12, 13, 14, 15, 16, 17]) rfl rfl (by kernel_rfl) ?_
    refine WL.runk 1 [3, 4, 5, 6, 7, 22, 23, 26, 35, 36] [(3, .slice a17 x15.1.length c18), (4, .string (bs x15.2.1)), (5, .int .i64 x15.2.2), (6, .slice a29 x27.1.length c30), (7, .int .i64 x27.2), (22, .slice a125 x123.1.length c126), (23, .slice a128 x123.2.length c129), (26, .int .i64 x147.1), (35, .slice a414 x412.length c415), (36, .int .i64 st363.2)] (by kernel_rfl) ?_
    refine WL.nil ?_
    refine WA.done (by kernel_rfl) ?_
    refine WQ.block_normal ?_
    refine WQ.then_normal (hK382 _ _ _ ?_)
    refine WP.region ?_
    refine WL.runk 3 [3, 4, 5, 6, 7, 22, 23, 26, 35, 36] [(3, .slice a17 x15.1.length c18), (4, .string (bs x15.2.1)), (5, .int .i64 x15.2.2), (6, .slice a29 x27.1.length c30), (7, .int .i64 x27.2), (22, .slice a125 x123.1.length c126), (23, .slice a128 x123.2.length c129), (26, .int .i64 x147.1), (35, .slice a414 x412.length c415), (36, .int .i64 (wI64 (st363.2 + 1)))] (by kernel_rfl) ?_
    refine WL.nil ?_
    obtain rfl := Option.some.inj hm
    exact WQ.round hK373 ⟨(x412, (wI64 (st363.2 + 1))), _, _, rfl, hb419, hL420, (SH.take 5 (SH.front 4 (SH.front 5 (SH.front 5 (SH.front 5 (SH.front 5 hS418)))))), hl371⟩ (Nat.lt_succ_self _) ⟨rfl, rfl, rfl, rfl, rfl, rfl, rfl, rfl, rfl, rfl, trivial⟩
  have hm := iteF hm hc381
  refine WP.exit ?_
  refine WQ.then_exit ?_
  refine WQ.then_exit ?_
  refine WQ.block_here ?_
  obtain rfl := Option.some.inj hm
  obtain rfl := afterN_done hl371
  have hm := hmo372
  refine WQ.then_normal (hK361 _ _ _ ?_)
  refine WP.seq (fun K421 hK421 => ?_)
  refine WP.region ?_
  refine WL.runk 2 [3, 4, 5, 6, 7, 23, 256, 257] [(3, .slice a17 x15.1.length c18), (4, .string (bs x15.2.1)), (5, .int .i64 x15.2.2), (6, .slice a29 x27.1.length c30), (7, .int .i64 x27.2), (23, .slice a128 x123.2.length c129), (256, .slice a125 x123.1.length c126), (257, .slice a364 st363.1.length c365)] (by kernel_rfl) ?_
  obtain ⟨x422, hx423, hm⟩ := bindE hm
  refine WL.call 44 #[.slice a125 x123.1.length c126, .slice a364 st363.1.length c365] rfl rfl (by kernel_rfl) (c_44 n x123.1 a125 c126 st363.1 a364 c365 w367 hx423 (SH.rd (SH.front 1 hS370)) (SH.le (SH.front 1 hS370)).1 (SH.rd (SH.front 0 hS370)) (SH.le (SH.front 0 hS370)).1) ?_
  rintro _ w427 ⟨a424, c425, rfl, hE428, hR429⟩
  refine ⟨_, rfl, ?_⟩
  have hb430 : Ext w w427 := Ext.trans hb368 hE428
  have hL431 : w.heap.size ≤ w427.heap.size := Nat.le_trans hL369 hE428.size
  have hS432 : SH w427 w.heap.size [aOwn fGood 56 a424 c425 x422.1, aOwn fTake 43 a364 c365 st363.1, aOwn fGood 56 a125 c126 x123.1, aOwn fTake 43 a128 c129 x123.2, aOwn fGood 56 a29 c30 x27.1, aOwn fGood 56 a17 c18 x15.1] := SH.add hS370 hE428 hL369 hR429
  refine WL.runk 7 [3, 4, 5, 6, 7, 23, 37, 38, 39] [(3, .slice a17 x15.1.length c18), (4, .string (bs x15.2.1)), (5, .int .i64 x15.2.2), (6, .slice a29 x27.1.length c30), (7, .int .i64 x27.2), (23, .slice a128 x123.2.length c129), (37, .slice a424 x422.1.length c425), (38, .int .i64 x422.2.1), (39, .int .i64 x422.2.2)] (by kernel_rfl) ?_
  refine WL.nil ?_
  refine WQ.then_normal (hK421 _ _ _ ?_)
  refine WP.seq (fun K433 hK433 => ?_)
  refine WP.seq (fun K434 hK434 => ?_)
  obtain ⟨x436, hx437, hm⟩ := bindE hm
  refine WP.cut (fun env' w' => env' = [(3, .slice a17 x15.1.length c18), (4, .string (bs x15.2.1)), (5, .int .i64 x15.2.2), (6, .slice a29 x27.1.length c30), (7, .int .i64 x27.2), (23, .slice a128 x123.2.length c129), (37, .slice a424 x422.1.length c425), (267, .bool x436)] ∧ Ext w w' ∧ w.heap.size ≤ w'.heap.size ∧ SH w' w.heap.size [aOwn fGood 56 a424 c425 x422.1, aOwn fTake 43 a128 c129 x123.2, aOwn fGood 56 a29 c30 x27.1, aOwn fGood 56 a17 c18 x15.1]) ?_ ?_
  · have hm := hx437; clear hx437
    refine WP.region ?_
    refine WL.runk 3 [3, 4, 5, 6, 7, 23, 37, 38, 264] [(3, .slice a17 x15.1.length c18), (4, .string (bs x15.2.1)), (5, .int .i64 x15.2.2), (6, .slice a29 x27.1.length c30), (7, .int .i64 x27.2), (23, .slice a128 x123.2.length c129), (37, .slice a424 x422.1.length c425), (38, .int .i64 x422.2.1), (264, .bool (x422.2.2 != 0))] (by kernel_rfl) ?_
    refine WL.case (x422.2.2 != 0) [264] ⟨rfl, trivial⟩ (fun hc438 => ?_) (fun hc438 => ?_)
    · have hm := iteT hm hc438
      refine WL.runk 3 [3, 4, 5, 6, 7, 23, 37, 267] [(3, .slice a17 x15.1.length c18), (4, .string (bs x15.2.1)), (5, .int .i64 x15.2.2), (6, .slice a29 x27.1.length c30), (7, .int .i64 x27.2), (23, .slice a128 x123.2.length c129), (37, .slice a424 x422.1.length c425), (267, .bool true)] (by kernel_rfl) ?_
      refine WL.nil ?_
      obtain rfl := Option.some.inj hm
      exact WQ.post' ⟨rfl, hb430, hL431, (SH.take 4 (SH.front 3 (SH.front 5 (SH.front 5 (SH.front 5 hS432)))))⟩ ⟨rfl, rfl, rfl, rfl, rfl, rfl, rfl, rfl, trivial⟩
    have hm := iteF hm hc438
    refine WL.runk 3 [3, 4, 5, 6, 7, 23, 37, 267] [(3, .slice a17 x15.1.length c18), (4, .string (bs x15.2.1)), (5, .int .i64 x15.2.2), (6, .slice a29 x27.1.length c30), (7, .int .i64 x27.2), (23, .slice a128 x123.2.length c129), (37, .slice a424 x422.1.length c425), (267, .bool (x422.2.1 != (-1)))] (by kernel_rfl) ?_
    refine WL.nil ?_
    obtain rfl := Option.some.inj hm
    exact WQ.post' ⟨rfl, hb430, hL431, (SH.take 4 (SH.front 3 (SH.front 5 (SH.front 5 (SH.front 5 hS432)))))⟩ ⟨rfl, rfl, rfl, rfl, rfl, rfl, rfl, rfl, trivial⟩
  clear hx437
  rintro _ w439 ⟨rfl, hb440, hL441, hS442⟩
  refine WQ.then_normal (hK434 _ _ _ ?_)
  refine WP.cond x436 rfl rfl (fun hc443 => ?_) (fun hc443 => ?_)
  · have hm := iteT hm hc443
    refine WP.seq (fun K444 hK444 => ?_)
    refine WP.region ?_
    refine WL.runk 1 [2] [(2, .bool false)] (by kernel_rfl) ?_
    refine WL.nil ?_
    refine WQ.then_normal (hK444 _ _ _ ?_)
    refine WP.ret ?_
    refine WQ.then_ret ?_
    refine WQ.then_ret ?_
    obtain rfl := Option.some.inj hm
    exact WQ.ret1 _ rfl rfl ⟨rfl, hb440⟩
  have hm := iteF hm hc443
  refine WP.skip ?_
  refine WQ.then_normal (hK433 _ _ _ ?_)
  refine WP.seq (fun K445 hK445 => ?_)
  refine WP.region ?_
  refine WL.runk 2 [3, 4, 5, 6, 7, 269, 270] [(3, .slice a17 x15.1.length c18), (4, .string (bs x15.2.1)), (5, .int .i64 x15.2.2), (6, .slice a29 x27.1.length c30), (7, .int .i64 x27.2), (269, .slice a424 x422.1.length c425), (270, .slice a128 x123.2.length c129)] (by kernel_rfl) ?_
  obtain ⟨x446, hx447, hm⟩ := bindE hm
  refine WL.call 38 #[.slice a424 x422.1.length c425, .slice a128 x123.2.length c129] rfl rfl (by kernel_rfl) (c_38 n x422.1 a424 c425 x123.2 a128 c129 w439 hx447 (SH.rd (SH.front 0 hS442)) (SH.le (SH.front 0 hS442)).1 (SH.rd (SH.front 1 hS442)) (SH.le (SH.front 1 hS442)).1) ?_
  rintro _ w448 ⟨rfl, hE449⟩
  refine ⟨_, rfl, ?_⟩
  have hb451 : Ext w w448 := Ext.trans hb440 hE449
  have hL452 : w.heap.size ≤ w448.heap.size := Nat.le_trans hL441 hE449.size
  have hS453 : SH w448 w.heap.size [aOwn fGood 56 a424 c425 x422.1, aOwn fTake 43 a128 c129 x123.2, aOwn fGood 56 a29 c30 x27.1, aOwn fGood 56 a17 c18 x15.1] := SH.ext hS442 hE449
  refine WL.runk 5 [3, 4, 5, 6, 7, 40, 41] [(3, .slice a17 x15.1.length c18), (4, .string (bs x15.2.1)), (5, .int .i64 x15.2.2), (6, .slice a29 x27.1.length c30), (7, .int .i64 x27.2), (40, .int .i64 x446.1), (41, .int .i64 x446.2)] (by kernel_rfl) ?_
  refine WL.nil ?_
  refine WQ.then_normal (hK445 _ _ _ ?_)
  refine WP.seq (fun K454 hK454 => ?_)
  obtain ⟨x456, hx457, hm⟩ := bindE hm
  refine WP.cut (fun env' w' => env' = [(3, .slice a17 x15.1.length c18), (4, .string (bs x15.2.1)), (5, .int .i64 x15.2.2), (6, .slice a29 x27.1.length c30), (7, .int .i64 x27.2), (279, .bool x456)] ∧ Ext w w' ∧ w.heap.size ≤ w'.heap.size ∧ SH w' w.heap.size [aOwn fGood 56 a29 c30 x27.1, aOwn fGood 56 a17 c18 x15.1]) ?_ ?_
  · have hm := hx457; clear hx457
    refine WP.region ?_
    refine WL.runk 3 [3, 4, 5, 6, 7, 40, 276] [(3, .slice a17 x15.1.length c18), (4, .string (bs x15.2.1)), (5, .int .i64 x15.2.2), (6, .slice a29 x27.1.length c30), (7, .int .i64 x27.2), (40, .int .i64 x446.1), (276, .bool (x446.2 != 0))] (by kernel_rfl) ?_
    refine WL.case (x446.2 != 0) [276] ⟨rfl, trivial⟩ (fun hc458 => ?_) (fun hc458 => ?_)
    · have hm := iteT hm hc458
      refine WL.runk 3 [3, 4, 5, 6, 7, 279] [(3, .slice a17 x15.1.length c18), (4, .string (bs x15.2.1)), (5, .int .i64 x15.2.2), (6, .slice a29 x27.1.length c30), (7, .int .i64 x27.2), (279, .bool true)] (by kernel_rfl) ?_
      refine WL.nil ?_
      obtain rfl := Option.some.inj hm
      exact WQ.post' ⟨rfl, hb451, hL452, (SH.take 2 (SH.front 3 (SH.front 3 hS453)))⟩ ⟨rfl, rfl, rfl, rfl, rfl, rfl, trivial⟩
    have hm := iteF hm hc458
    refine WL.runk 3 [3, 4, 5, 6, 7, 279] [(3, .slice a17 x15.1.length c18), (4, .string (bs x15.2.1)), (5, .int .i64 x15.2.2), (6, .slice a29 x27.1.length c30), (7, .int .i64 x27.2), (279, .bool (x446.1 != 0))] (by kernel_rfl) ?_
    refine WL.nil ?_
    obtain rfl := Option.some.inj hm
    exact WQ.post' ⟨rfl, hb451, hL452, (SH.take 2 (SH.front 3 (SH.front 3 hS453)))⟩ ⟨rfl, rfl, rfl, rfl, rfl, rfl, trivial⟩
  clear hx457
  rintro _ w459 ⟨rfl, hb460, hL461, hS462⟩
  refine WQ.then_normal (hK454 _ _ _ ?_)
  refine WP.cond x456 rfl rfl (fun hc463 => ?_) (fun hc463 => ?_)
  · have hm := iteT hm hc463
    refine WP.seq (fun K464 hK464 => ?_)
    refine WP.region ?_
    refine WL.runk 1 [2] [(2, .bool false)] (by kernel_rfl) ?_
    refine WL.nil ?_
    refine WQ.then_normal (hK464 _ _ _ ?_)
    refine WP.ret ?_
    refine WQ.then_ret ?_
    obtain rfl := Option.some.inj hm
    exact WQ.ret1 _ rfl rfl ⟨rfl, hb460⟩
  have hm := iteF hm hc463
  refine WP.skip ?_
  refine WQ.then_normal (hK336 _ _ _ ?_)
  refine WP.seq (fun K465 hK465 => ?_)
  refine WP.seq (fun K466 hK466 => ?_)
  refine WP.region ?_
  refine WL.runk 2 [3, 4, 5, 6, 281] [(3, .slice a17 x15.1.length c18), (4, .string (bs x15.2.1)), (5, .int .i64 x15.2.2), (6, .slice a29 x27.1.length c30), (281, .bool (x27.2 != 0))] (by kernel_rfl) ?_
  refine WL.nil ?_
  refine WQ.then_normal (hK466 _ _ _ ?_)
  refine WP.cond (x27.2 != 0) rfl rfl (fun hc467 => ?_) (fun hc467 => ?_)
  · have hm := iteT hm hc467
    refine WP.seq (fun K468 hK468 => ?_)
    refine WP.region ?_
    refine WL.runk 1 [2] [(2, .bool true)] (by kernel_rfl) ?_
    refine WL.nil ?_
    refine WQ.then_normal (hK468 _ _ _ ?_)
    refine WP.ret ?_
    refine WQ.then_ret ?_
    obtain rfl := Option.some.inj hm
    exact WQ.ret1 _ rfl rfl ⟨rfl, hb460⟩
  have hm := iteF hm hc467
  refine WP.skip ?_
  refine WQ.then_normal (hK465 _ _ _ ?_)
  refine WP.seq (fun K469 hK469 => ?_)
  refine WP.region ?_
  refine WL.runk 3 [3, 4, 5, 283, 284, 285] [(3, .slice a17 x15.1.length c18), (4, .string (bs x15.2.1)), (5, .int .i64 x15.2.2), (283, .slice a29 x27.1.length c30), (284, .string (bs x15.2.1)), (285, .int .i64 x15.2.2)] (by kernel_rfl) ?_
  obtain ⟨x470, hx471, hm⟩ := bindE hm
  refine WL.call 30 #[.slice a29 x27.1.length c30, .string (bs x15.2.1), .int .i64 x15.2.2] rfl rfl (by kernel_rfl) (c_30 n x27.1 a29 c30 x15.2.1 x15.2.2 w459 hx471 (SH.rd (SH.front 0 hS462)) (SH.le (SH.front 0 hS462)).1) ?_
  rintro _ w475 ⟨a472, c473, rfl, hE476, hR477⟩
  refine ⟨_, rfl, ?_⟩
  have hb478 : Ext w w475 := Ext.trans hb460 hE476
  have hL479 : w.heap.size ≤ w475.heap.size := Nat.le_trans hL461 hE476.size
  have hS480 : SH w475 w.heap.size [aOwn fGood 56 a472 c473 x470.1, aOwn fGood 56 a29 c30 x27.1, aOwn fGood 56 a17 c18 x15.1] := SH.add hS462 hE476 hL461 hR477
  refine WL.runk 5 [3, 4, 5, 42, 43] [(3, .slice a17 x15.1.length c18), (4, .string (bs x15.2.1)), (5, .int .i64 x15.2.2), (42, .slice a472 x470.1.length c473), (43, .int .i64 x470.2)] (by kernel_rfl) ?_
  refine WL.nil ?_
  refine WQ.then_normal (hK469 _ _ _ ?_)
  refine WP.seq (fun K481 hK481 => ?_)
  refine WP.region ?_
  refine WL.runk 5 [42, 43, 290, 294] [(42, .slice a472 x470.1.length c473), (43, .int .i64 x470.2), (290, .slice a17 x15.1.length c18), (294, .agg #[.string (bs x15.2.1), .int .i64 (wI64 (0 - x15.2.2))])] (by kernel_rfl) ?_
  obtain ⟨x482, hx483, hm⟩ := bindE hm
  refine WL.call 32 #[.slice a17 x15.1.length c18, .agg #[.string (bs x15.2.1), .int .i64 (wI64 (0 - x15.2.2))]] rfl rfl (by kernel_rfl) (c_32 n x15.1 a17 c18 (STake.mk x15.2.1 (wI64 (0 - x15.2.2))) w475 hx483 (SH.rd (SH.front 2 hS480)) (SH.le (SH.front 2 hS480)).1) ?_
  rintro _ w487 ⟨a484, c485, rfl, hE488, hR489⟩
  refine ⟨_, rfl, ?_⟩
  have hb490 : Ext w w487 := Ext.trans hb478 hE488
  have hL491 : w.heap.size ≤ w487.heap.size := Nat.le_trans hL479 hE488.size
  have hS492 : SH w487 w.heap.size [aOwn fGood 56 a484 c485 x482.1, aOwn fGood 56 a472 c473 x470.1, aOwn fGood 56 a29 c30 x27.1, aOwn fGood 56 a17 c18 x15.1] := SH.add hS480 hE488 hL479 hR489
  refine WL.runk 5 [42, 43, 44, 45] [(42, .slice a472 x470.1.length c473), (43, .int .i64 x470.2), (44, .slice a484 x482.1.length c485), (45, .int .i64 x482.2)] (by kernel_rfl) ?_
  refine WL.nil ?_
  refine WQ.then_normal (hK481 _ _ _ ?_)
  refine WP.seq (fun K493 hK493 => ?_)
  obtain ⟨x504, hx505, hm⟩ := bindE hm
  refine WP.cut (fun env' w' => env' = [(2, .bool x504)] ∧ Ext w w' ∧ w.heap.size ≤ w'.heap.size ∧ SH w' w.heap.size []) ?_ ?_
  rotate_left
  · clear hx505
    rintro _ w516 ⟨rfl, hb517, hL518, hS519⟩
    refine WQ.then_normal (hK493 _ _ _ ?_)
    refine WP.ret ?_
    obtain rfl := Option.some.inj hm
    exact WQ.ret1 _ rfl rfl ⟨rfl, hb517⟩
  have hm := hx505; clear hx505
  refine WP.region ?_
  refine WL.runk 3 [42, 44, 45, 300] [(42, .slice a472 x470.1.length c473), (44, .slice a484 x482.1.length c485), (45, .int .i64 x482.2), (300, .bool (x470.2 == 0))] (by kernel_rfl) ?_
  refine WL.case (x470.2 == 0) [300] ⟨rfl, trivial⟩ (fun hc506 => ?_) (fun hc506 => ?_)
  rotate_left
  · have hm := iteF hm hc506
    refine WL.runk 9 [2] [(2, .bool false)] (by kernel_rfl) ?_
    refine WL.nil ?_
    obtain rfl := Option.some.inj hm
    exact WQ.post' ⟨rfl, hb490, hL491, (SH.take 0 hS492)⟩ ⟨rfl, trivial⟩
  have hm := iteT hm hc506
  refine WL.runk 4 [42, 44, 304] [(42, .slice a472 x470.1.length c473), (44, .slice a484 x482.1.length c485), (304, .bool (x482.2 == 0))] (by kernel_rfl) ?_
  refine WL.case (x482.2 == 0) [304] ⟨rfl, trivial⟩ (fun hc507 => ?_) (fun hc507 => ?_)
  rotate_left
  · have hm := iteF hm hc507
    refine WL.runk 5 [2] [(2, .bool false)] (by kernel_rfl) ?_
    refine WL.nil ?_
    obtain rfl := Option.some.inj hm
    exact WQ.post' ⟨rfl, hb490, hL491, (SH.take 0 hS492)⟩ ⟨rfl, trivial⟩
  have hm := iteT hm hc507
  refine WL.runk 2 [304, 305, 306] [(304, .bool true), (305, .slice a472 x470.1.length c473), (306, .slice a484 x482.1.length c485)] (by kernel_rfl) ?_
  obtain ⟨x508, hx509, hm⟩ := bindE hm
  refine WL.call 14 #[.slice a472 x470.1.length c473, .slice a484 x482.1.length c485] rfl rfl (by kernel_rfl) (c_14 n x470.1 a472 c473 x482.1 a484 c485 w487 hx509 (SH.rd (SH.front 1 hS492)) (SH.le (SH.front 1 hS492)).1 (SH.rd (SH.front 0 hS492)) (SH.le (SH.front 0 hS492)).1) ?_
  rintro _ w510 ⟨rfl, hE511⟩
  refine ⟨_, rfl, ?_⟩
  have hb513 : Ext w w510 := Ext.trans hb490 hE511
  have hL514 : w.heap.size ≤ w510.heap.size := Nat.le_trans hL491 hE511.size
  have hS515 : SH w510 w.heap.size [aOwn fGood 56 a484 c485 x482.1, aOwn fGood 56 a472 c473 x470.1, aOwn fGood 56 a29 c30 x27.1, aOwn fGood 56 a17 c18 x15.1] := SH.ext hS492 hE511
  refine WL.runk 2 [2] [(2, .bool x508)] (by kernel_rfl) ?_
  refine WL.nil ?_
  obtain rfl := Option.some.inj hm
  exact WQ.post' ⟨rfl, hb513, hL514, (SH.take 0 hS515)⟩ ⟨rfl, trivial⟩

end Go.Proofs.Ytkpdicajinionaa
