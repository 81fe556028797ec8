/- Each call does what its Lean function says. -/
import Derived.Test.YtoljnpoiclklpaaKWearSides1
set_option maxRecDepth 20000
set_option maxHeartbeats 4000000
namespace Go.Proofs.Ytoljnpoiclklpaa
open Go Go.Gv Go.RowKit

theorem c_11 (n : Nat) (code_0 : List Int) (a0' : Option Addr) (c0' : Nat) (w : World) {r : Bool} (hm : m_laws_FnWearSides n code_0 = some r) (h0 : Rd fU8.ty w a0' code_0) (hle0 : code_0.length ≤ c0') :
    CallV Try.prog 11 #[.slice a0' code_0.length c0'] w (fun v w' => v = .bool r ∧ Ext w w') := by
  unfold m_laws_FnWearSides at hm
  refine CallV.enter Try.func11 rfl (by kernel_rfl) Try.ntmps11 (env := [(0, .slice a0' code_0.length c0')]) ⟨rfl, trivial⟩ ?_
  refine WP.seq (fun K1 hK1 => ?_)
  refine WP.region ?_
  refine WL.runk 1 [0] [(0, .slice a0' code_0.length c0')] (by kernel_rfl) ?_
  refine WL.nil ?_
  refine WQ.then_normal (hK1 _ _ _ ?_)
  refine WP.seq (fun K2 hK2 => ?_)
  refine WP.seq (fun K3 hK3 => ?_)
  refine WP.region ?_
  refine WL.runk 1 [0, 20] [(0, .slice a0' code_0.length c0'), (20, .slice a0' code_0.length c0')] (by kernel_rfl) ?_
  obtain ⟨x4, hx5, hm⟩ := bindE hm
  refine WL.call 40 #[.slice a0' code_0.length c0', .slice none 0 0] rfl rfl (by kernel_rfl) (c_40 n code_0 a0' c0' ([] : List Int) none 0 w hx5 (Rd.below h0 (Ext.refl w)) hle0 (Rd.nil _ _ _) (Nat.zero_le _)) ?_
  rintro _ w6 ⟨rfl, hE7⟩
  refine ⟨_, rfl, ?_⟩
  have hb9 : Ext w w6 := Ext.trans (Ext.refl w) hE7
  have hL10 : w.heap.size ≤ w6.heap.size := Nat.le_trans (Nat.le_refl _) hE7.size
  have hS11 : SH w6 w.heap.size [] := SH.ext (SH.nil _ _) hE7
  refine WL.sub [(0, .slice a0' code_0.length c0'), (21, .bool x4)] ⟨rfl, rfl, trivial⟩ ?_
  refine WL.nil ?_
  refine WQ.then_normal (hK3 _ _ _ ?_)
  refine WP.cond x4 rfl rfl (fun hc12 => ?_) (fun hc12 => ?_)
  · have hm := iteT hm hc12
    refine WP.seq (fun K13 hK13 => ?_)
    refine WP.region ?_
    refine WL.runk 1 [2] [(2, .bool true)] (by kernel_rfl) ?_
    refine WL.nil ?_
    refine WQ.then_normal (hK13 _ _ _ ?_)
    refine WP.ret ?_
    refine WQ.then_ret ?_
    obtain rfl := Option.some.inj hm
    exact WQ.ret1 _ rfl rfl ⟨rfl, hb9⟩
  have hm := iteF hm hc12
  refine WP.skip ?_
  refine WQ.then_normal (hK2 _ _ _ ?_)
  refine WP.seq (fun K14 hK14 => ?_)
  refine WP.region ?_
  refine WL.runk 1 [22] [(22, .slice a0' code_0.length c0')] (by kernel_rfl) ?_
  obtain ⟨x15, hx16, hm⟩ := bindE hm
  refine WL.call 41 #[.slice a0' code_0.length c0'] rfl rfl (by kernel_rfl) (c_41 n code_0 a0' c0' w6 hx16 (Rd.below h0 hb9) hle0) ?_
  rintro _ w20 ⟨a17, c18, rfl, hE21, hR22⟩
  refine ⟨_, rfl, ?_⟩
  have hb23 : Ext w w20 := Ext.trans hb9 hE21
  have hL24 : w.heap.size ≤ w20.heap.size := Nat.le_trans hL10 hE21.size
  have hS25 : SH w20 w.heap.size [aOwn fStr 9 a17 c18 x15] := SH.add hS11 hE21 hL10 hR22
  refine WL.runk 1 [3] [(3, .slice a17 x15.length c18)] (by kernel_rfl) ?_
  refine WL.nil ?_
  refine WQ.then_normal (hK14 _ _ _ ?_)
  refine WP.seq (fun K26 hK26 => ?_)
  refine WP.region ?_
  refine WL.runk 1 [3, 25] [(3, .slice a17 x15.length c18), (25, .slice a17 x15.length c18)] (by kernel_rfl) ?_
  obtain ⟨x27, hx28, hm⟩ := bindE hm
  refine WL.call 23 #[.slice a17 x15.length c18] rfl rfl (by kernel_rfl) (c_23 n x15 a17 c18 w20 hx28 (SH.rd (SH.front 0 hS25)) (SH.le (SH.front 0 hS25)).1) ?_
  rintro _ w32 ⟨a29, c30, rfl, hE33, hR34⟩
  refine ⟨_, rfl, ?_⟩
  have hb35 : Ext w w32 := Ext.trans hb23 hE33
  have hL36 : w.heap.size ≤ w32.heap.size := Nat.le_trans hL24 hE33.size
  have hS37 : SH w32 w.heap.size [aOwn fStr 9 a29 c30 x27.1, aOwn fStr 9 a17 c18 x15] := SH.add hS25 hE33 hL24 hR34
  refine WL.runk 5 [3, 4, 5] [(3, .slice a17 x15.length c18), (4, .slice a29 x27.1.length c30), (5, .int .i64 x27.2)] (by kernel_rfl) ?_
  refine WL.nil ?_
  refine WQ.then_normal (hK26 _ _ _ ?_)
  refine WP.seq (fun K38 hK38 => ?_)
  refine WP.region ?_
  refine WL.runk 1 [3, 4, 5, 30] [(3, .slice a17 x15.length c18), (4, .slice a29 x27.1.length c30), (5, .int .i64 x27.2), (30, .slice a17 x15.length c18)] (by kernel_rfl) ?_
  obtain ⟨x39, hx40, hm⟩ := bindE hm
  refine WL.call 34 #[.slice a17 x15.length c18] rfl rfl (by kernel_rfl) (c_34 n x15 a17 c18 w32 hx40 (SH.rd (SH.front 1 hS37)) (SH.le (SH.front 1 hS37)).1) ?_
  rintro _ w44 ⟨a41, c42, rfl, hE45, hR46⟩
  refine ⟨_, rfl, ?_⟩
  have hb47 : Ext w w44 := Ext.trans hb35 hE45
  have hL48 : w.heap.size ≤ w44.heap.size := Nat.le_trans hL36 hE45.size
  have hS49 : SH w44 w.heap.size [aOwn fInt 2 a41 c42 x39.1, aOwn fStr 9 a29 c30 x27.1, aOwn fStr 9 a17 c18 x15] := SH.add hS37 hE45 hL36 hR46
  refine WL.runk 5 [3, 4, 5, 6, 7] [(3, .slice a17 x15.length c18), (4, .slice a29 x27.1.length c30), (5, .int .i64 x27.2), (6, .slice a41 x39.1.length c42), (7, .int .i64 x39.2)] (by kernel_rfl) ?_
  refine WL.nil ?_
  refine WQ.then_normal (hK38 _ _ _ ?_)
  refine WP.seq (fun K50 hK50 => ?_)
  refine WP.region ?_
  refine WL.runk 1 [3, 4, 5, 6, 7, 35] [(3, .slice a17 x15.length c18), (4, .slice a29 x27.1.length c30), (5, .int .i64 x27.2), (6, .slice a41 x39.1.length c42), (7, .int .i64 x39.2), (35, .slice a29 x27.1.length c30)] (by kernel_rfl) ?_
  obtain ⟨x51, hx52, hm⟩ := bindE hm
  refine WL.call 34 #[.slice a29 x27.1.length c30] rfl rfl (by kernel_rfl) (c_34 n x27.1 a29 c30 w44 hx52 (SH.rd (SH.front 1 hS49)) (SH.le (SH.front 1 hS49)).1) ?_
  rintro _ w56 ⟨a53, c54, rfl, hE57, hR58⟩
  refine ⟨_, rfl, ?_⟩
  have hb59 : Ext w w56 := Ext.trans hb47 hE57
  have hL60 : w.heap.size ≤ w56.heap.size := Nat.le_trans hL48 hE57.size
  have hS61 : SH w56 w.heap.size [aOwn fInt 2 a53 c54 x51.1, aOwn fInt 2 a41 c42 x39.1, aOwn fStr 9 a29 c30 x27.1, aOwn fStr 9 a17 c18 x15] := SH.add hS49 hE57 hL48 hR58
  refine WL.runk 5 [3, 4, 5, 6, 7, 8, 9] [(3, .slice a17 x15.length c18), (4, .slice a29 x27.1.length c30), (5, .int .i64 x27.2), (6, .slice a41 x39.1.length c42), (7, .int .i64 x39.2), (8, .slice a53 x51.1.length c54), (9, .int .i64 x51.2)] (by kernel_rfl) ?_
  refine WL.nil ?_
  refine WQ.then_normal (hK50 _ _ _ ?_)
  refine WP.seq (fun K62 hK62 => ?_)
  refine WP.region ?_
  refine WL.runk 1 [3, 4, 5, 6, 7, 8, 9, 40] [(3, .slice a17 x15.length c18), (4, .slice a29 x27.1.length c30), (5, .int .i64 x27.2), (6, .slice a41 x39.1.length c42), (7, .int .i64 x39.2), (8, .slice a53 x51.1.length c54), (9, .int .i64 x51.2), (40, .slice a17 x15.length c18)] (by kernel_rfl) ?_
  obtain ⟨x63, hx64, hm⟩ := bindE hm
  refine WL.call 32 #[.slice a17 x15.length c18] rfl rfl (by kernel_rfl) (c_32 n x15 a17 c18 w56 hx64 (SH.rd (SH.front 3 hS61)) (SH.le (SH.front 3 hS61)).1) ?_
  rintro _ w65 ⟨rfl, hE66⟩
  refine ⟨_, rfl, ?_⟩
  have hb68 : Ext w w65 := Ext.trans hb59 hE66
  have hL69 : w.heap.size ≤ w65.heap.size := Nat.le_trans hL60 hE66.size
  have hS70 : SH w65 w.heap.size [aOwn fInt 2 a53 c54 x51.1, aOwn fInt 2 a41 c42 x39.1, aOwn fStr 9 a29 c30 x27.1, aOwn fStr 9 a17 c18 x15] := SH.ext hS61 hE66
  refine WL.runk 5 [3, 4, 5, 6, 7, 8, 9, 10, 11] [(3, .slice a17 x15.length c18), (4, .slice a29 x27.1.length c30), (5, .int .i64 x27.2), (6, .slice a41 x39.1.length c42), (7, .int .i64 x39.2), (8, .slice a53 x51.1.length c54), (9, .int .i64 x51.2), (10, .string (bs x63.1)), (11, .int .i64 x63.2)] (by kernel_rfl) ?_
  refine WL.nil ?_
  refine WQ.then_normal (hK62 _ _ _ ?_)
  refine WP.seq (fun K71 hK71 => ?_)
  refine WP.region ?_
  refine WL.runk 2 [3, 5, 6, 7, 8, 9, 10, 11, 45, 46] [(3, .slice a17 x15.length c18), (5, .int .i64 x27.2), (6, .slice a41 x39.1.length c42), (7, .int .i64 x39.2), (8, .slice a53 x51.1.length c54), (9, .int .i64 x51.2), (10, .string (bs x63.1)), (11, .int .i64 x63.2), (45, .slice a17 x15.length c18), (46, .slice a29 x27.1.length c30)] (by kernel_rfl) ?_
  obtain ⟨x72, hx73, hm⟩ := bindE hm
  refine WL.call 42 #[.slice a17 x15.length c18, .slice a29 x27.1.length c30, .int .i64 0] rfl rfl (by kernel_rfl) (c_42 n x15 a17 c18 x27.1 a29 c30 0 w65 hx73 (SH.rd (SH.front 3 hS70)) (SH.le (SH.front 3 hS70)).1 (SH.rd (SH.front 2 hS70)) (SH.le (SH.front 2 hS70)).1) ?_
  rintro _ w77 ⟨a74, c75, rfl, hE78, hR79⟩
  refine ⟨_, rfl, ?_⟩
  have hb80 : Ext w w77 := Ext.trans hb68 hE78
  have hL81 : w.heap.size ≤ w77.heap.size := Nat.le_trans hL69 hE78.size
  have hS82 : SH w77 w.heap.size [aOwn fInt 2 a74 c75 x72.1, aOwn fInt 2 a53 c54 x51.1, aOwn fInt 2 a41 c42 x39.1, aOwn fStr 9 a29 c30 x27.1, aOwn fStr 9 a17 c18 x15] := SH.add hS70 hE78 hL69 hR79
  refine WL.runk 5 [3, 5, 6, 7, 8, 9, 10, 11, 12, 13] [(3, .slice a17 x15.length c18), (5, .int .i64 x27.2), (6, .slice a41 x39.1.length c42), (7, .int .i64 x39.2), (8, .slice a53 x51.1.length c54), (9, .int .i64 x51.2), (10, .string (bs x63.1)), (11, .int .i64 x63.2), (12, .slice a74 x72.1.length c75), (13, .int .i64 x72.2)] (by kernel_rfl) ?_
  refine WL.nil ?_
  refine WQ.then_normal (hK71 _ _ _ ?_)
  refine WP.seq (fun K83 hK83 => ?_)
  refine WP.region ?_
  refine WL.runk 1 [3, 5, 6, 7, 8, 9, 10, 11, 12, 13, 51] [(3, .slice a17 x15.length c18), (5, .int .i64 x27.2), (6, .slice a41 x39.1.length c42), (7, .int .i64 x39.2), (8, .slice a53 x51.1.length c54), (9, .int .i64 x51.2), (10, .string (bs x63.1)), (11, .int .i64 x63.2), (12, .slice a74 x72.1.length c75), (13, .int .i64 x72.2), (51, .slice a17 x15.length c18)] (by kernel_rfl) ?_
  obtain ⟨x84, hx85, hm⟩ := bindE hm
  refine WL.call 29 #[.slice a17 x15.length c18] rfl rfl (by kernel_rfl) (c_29 n x15 a17 c18 w77 hx85 (SH.rd (SH.front 4 hS82)) (SH.le (SH.front 4 hS82)).1) ?_
  rintro _ w86 ⟨rfl, hE87⟩
  refine ⟨_, rfl, ?_⟩
  have hb89 : Ext w w86 := Ext.trans hb80 hE87
  have hL90 : w.heap.size ≤ w86.heap.size := Nat.le_trans hL81 hE87.size
  have hS91 : SH w86 w.heap.size [aOwn fInt 2 a74 c75 x72.1, aOwn fInt 2 a53 c54 x51.1, aOwn fInt 2 a41 c42 x39.1, aOwn fStr 9 a29 c30 x27.1, aOwn fStr 9 a17 c18 x15] := SH.ext hS82 hE87
  refine WL.runk 4 [3, 5, 6, 7, 8, 9, 10, 11, 12, 13, 53, 54, 55] [(3, .slice a17 x15.length c18), (5, .int .i64 x27.2), (6, .slice a41 x39.1.length c42), (7, .int .i64 x39.2), (8, .slice a53 x51.1.length c54), (9, .int .i64 x51.2), (10, .string (bs x63.1)), (11, .int .i64 x63.2), (12, .slice a74 x72.1.length c75), (13, .int .i64 x72.2), (53, .agg #[.int .i64 x84.1.Num, .int .i64 x84.1.Den]), (54, .agg #[.int .i64 x84.2.1.Num, .int .i64 x84.2.1.Den]), (55, .int .i64 x84.2.2)] (by kernel_rfl) ?_
  refine WL.box 34 [.int .i64 0, .int .i64 0] 14 (by kernel_rfl) rfl rfl rfl rfl ?_
  intro b92 w93 hE94 hR95
  have hb97 : Ext w w93 := Ext.trans hb89 hE94
  have hL98 : w.heap.size ≤ w93.heap.size := Nat.le_trans hL90 hE94.size
  have hS99 : SH w93 w.heap.size [aBox 34 b92 [.int .i64 0, .int .i64 0], aOwn fInt 2 a74 c75 x72.1, aOwn fInt 2 a53 c54 x51.1, aOwn fInt 2 a41 c42 x39.1, aOwn fStr 9 a29 c30 x27.1, aOwn fStr 9 a17 c18 x15] := SH.add hS91 hE94 hL90 hR95
  refine WL.box 34 [.int .i64 0, .int .i64 0] 15 (by kernel_rfl) rfl rfl rfl rfl ?_
  intro b100 w101 hE102 hR103
  have hb105 : Ext w w101 := Ext.trans hb97 hE102
  have hL106 : w.heap.size ≤ w101.heap.size := Nat.le_trans hL98 hE102.size
  have hS107 : SH w101 w.heap.size [aBox 34 b100 [.int .i64 0, .int .i64 0], aBox 34 b92 [.int .i64 0, .int .i64 0], aOwn fInt 2 a74 c75 x72.1, aOwn fInt 2 a53 c54 x51.1, aOwn fInt 2 a41 c42 x39.1, aOwn fStr 9 a29 c30 x27.1, aOwn fStr 9 a17 c18 x15] := SH.add hS99 hE102 hL98 hR103
  refine WL.boxStore 0 [.int .i64 x84.1.Num, .int .i64 x84.1.Den] [.int .i64 x84.1.Num, .int .i64 x84.1.Den] (SH.front 1 hS107) hL106 rfl rfl rfl rfl rfl rfl rfl (info34).1 (info34).2.1 rfl rfl rfl ?_
  intro w108 hB109 hS110
  have hb111 : Ext w w108 := Below.trans hb105 hB109
  have hL112 : w.heap.size ≤ w108.heap.size := Nat.le_trans hL106 hB109.size
  refine WL.boxStore 0 [.int .i64 x84.2.1.Num, .int .i64 x84.2.1.Den] [.int .i64 x84.2.1.Num, .int .i64 x84.2.1.Den] (SH.front 1 hS110) hL112 rfl rfl rfl rfl rfl rfl rfl (info34).1 (info34).2.1 rfl rfl rfl ?_
  intro w113 hB114 hS115
  have hb116 : Ext w w113 := Below.trans hb111 hB114
  have hL117 : w.heap.size ≤ w113.heap.size := Nat.le_trans hL112 hB114.size
  refine WL.runk 1 [3, 5, 6, 7, 8, 9, 10, 11, 12, 13, 14, 15, 16] [(3, .slice a17 x15.length c18), (5, .int .i64 x27.2), (6, .slice a41 x39.1.length c42), (7, .int .i64 x39.2), (8, .slice a53 x51.1.length c54), (9, .int .i64 x51.2), (10, .string (bs x63.1)), (11, .int .i64 x63.2), (12, .slice a74 x72.1.length c75), (13, .int .i64 x72.2), (14, .pointer (some ⟨b92, 0, none⟩)), (15, .pointer (some ⟨b100, 0, none⟩)), (16, .int .i64 x84.2.2)] (by kernel_rfl) ?_
  refine WL.nil ?_
  refine WQ.then_normal (hK83 _ _ _ ?_)
  refine WP.seq (fun K118 hK118 => ?_)
  refine WP.seq (fun K119 hK119 => ?_)
  obtain ⟨x207, hx208, hm⟩ := bindE hm
  refine WP.cut (fun env' w' => env' = [(3, .slice a17 x15.length c18), (6, .slice a41 x39.1.length c42), (10, .string (bs x63.1)), (14, .pointer (some ⟨b92, 0, none⟩)), (15, .pointer (some ⟨b100, 0, none⟩)), (16, .int .i64 x84.2.2), (124, .bool x207)] ∧ Ext w w' ∧ w.heap.size ≤ w'.heap.size ∧ SH w' w.heap.size [aBox 34 b100 [.int .i64 x84.2.1.Num, .int .i64 x84.2.1.Den], aBox 34 b92 [.int .i64 x84.1.Num, .int .i64 x84.1.Den], aOwn fInt 2 a74 c75 x72.1, aOwn fInt 2 a53 c54 x51.1, aOwn fInt 2 a41 c42 x39.1, aOwn fStr 9 a29 c30 x27.1, aOwn fStr 9 a17 c18 x15]) ?_ ?_
  rotate_left
  · clear hx208
    rintro _ w296 ⟨rfl, hb297, hL298, hS299⟩
    refine WQ.then_normal (hK119 _ _ _ ?_)
    refine WP.cond x207 rfl rfl (fun hc300 => ?_) (fun hc300 => ?_)
    · have hm := iteT hm hc300
      refine WP.seq (fun K301 hK301 => ?_)
      refine WP.region ?_
      refine WL.runk 1 [2] [(2, .bool false)] (by kernel_rfl) ?_
      refine WL.nil ?_
      refine WQ.then_normal (hK301 _ _ _ ?_)
      refine WP.ret ?_
      refine WQ.then_ret ?_
      obtain rfl := Option.some.inj hm
      exact WQ.ret1 _ rfl rfl ⟨rfl, hb297⟩
    have hm := iteF hm hc300
    refine WP.skip ?_
    refine WQ.then_normal (hK118 _ _ _ ?_)
    refine WP.seq (fun K302 hK302 => ?_)
    refine WP.region ?_
    refine WL.row fStr 9 ([[105, 110, 110, 101, 114, 45, 116, 111, 101], [111, 117, 116, 101, 114, 45, 116, 111, 101], [105, 110, 110, 101, 114, 45, 104, 101, 101, 108], [111, 117, 116, 101, 114, 45, 104, 101, 101, 108]] : List (List UInt8)) 4 #[.string (bs [105, 110, 110, 101, 114, 45, 116, 111, 101]), .string (bs [111, 117, 116, 101, 114, 45, 116, 111, 101]), .string (bs [105, 110, 110, 101, 114, 45, 104, 101, 101, 108]), .string (bs [111, 117, 116, 101, 114, 45, 104, 101, 101, 108])] 125 (by kernel_rfl) rfl rfl rfl rfl rfl rfl rfl ?_
    intro a303 c304 w305 hE306 hR307
    have hb309 : Ext w w305 := Ext.trans hb297 hE306
    have hL310 : w.heap.size ≤ w305.heap.size := Nat.le_trans hL298 hE306.size
    have hS311 : SH w305 w.heap.size [aOwn fStr 9 a303 c304 ([[105, 110, 110, 101, 114, 45, 116, 111, 101], [111, 117, 116, 101, 114, 45, 116, 111, 101], [105, 110, 110, 101, 114, 45, 104, 101, 101, 108], [111, 117, 116, 101, 114, 45, 104, 101, 101, 108]] : List (List UInt8)), aBox 34 b100 [.int .i64 x84.2.1.Num, .int .i64 x84.2.1.Den], aBox 34 b92 [.int .i64 x84.1.Num, .int .i64 x84.1.Den], aOwn fInt 2 a74 c75 x72.1, aOwn fInt 2 a53 c54 x51.1, aOwn fInt 2 a41 c42 x39.1, aOwn fStr 9 a29 c30 x27.1, aOwn fStr 9 a17 c18 x15] := SH.add hS299 hE306 hL298 hR307
    refine WL.runk 1 [3, 6, 10, 14, 15, 16, 17] [(3, .slice a17 x15.length c18), (6, .slice a41 x39.1.length c42), (10, .string (bs x63.1)), (14, .pointer (some ⟨b92, 0, none⟩)), (15, .pointer (some ⟨b100, 0, none⟩)), (16, .int .i64 x84.2.2), (17, .slice a303 (([[105, 110, 110, 101, 114, 45, 116, 111, 101], [111, 117, 116, 101, 114, 45, 116, 111, 101], [105, 110, 110, 101, 114, 45, 104, 101, 101, 108], [111, 117, 116, 101, 114, 45, 104, 101, 101, 108]] : List (List UInt8)).length) c304)] (by kernel_rfl) ?_
    refine WL.nil ?_
    refine WQ.then_normal (hK302 _ _ _ ?_)
    refine WP.seq (fun K312 hK312 => ?_)
    refine WP.region ?_
    refine WL.runk 1 [3, 6, 10, 14, 15, 16, 17, 18] [(3, .slice a17 x15.length c18), (6, .slice a41 x39.1.length c42), (10, .string (bs x63.1)), (14, .pointer (some ⟨b92, 0, none⟩)), (15, .pointer (some ⟨b100, 0, none⟩)), (16, .int .i64 x84.2.2), (17, .slice a303 (([[105, 110, 110, 101, 114, 45, 116, 111, 101], [111, 117, 116, 101, 114, 45, 116, 111, 101], [105, 110, 110, 101, 114, 45, 104, 101, 101, 108], [111, 117, 116, 101, 114, 45, 104, 101, 101, 108]] : List (List UInt8)).length) c304), (18, .string (bs [101, 118, 101, 110]))] (by kernel_rfl) ?_
    refine WL.nil ?_
    refine WQ.then_normal (hK312 _ _ _ ?_)
    refine WP.seq (fun K313 hK313 => ?_)
    refine WP.seq (fun K314 hK314 => ?_)
    refine WP.region ?_
    refine WL.runk 1 [3, 6, 10, 14, 15, 16, 17, 18, 19] [(3, .slice a17 x15.length c18), (6, .slice a41 x39.1.length c42), (10, .string (bs x63.1)), (14, .pointer (some ⟨b92, 0, none⟩)), (15, .pointer (some ⟨b100, 0, none⟩)), (16, .int .i64 x84.2.2), (17, .slice a303 (([[105, 110, 110, 101, 114, 45, 116, 111, 101], [111, 117, 116, 101, 114, 45, 116, 111, 101], [105, 110, 110, 101, 114, 45, 104, 101, 101, 108], [111, 117, 116, 101, 114, 45, 104, 101, 101, 108]] : List (List UInt8)).length) c304), (18, .string (bs [101, 118, 101, 110])), (19, .int .i64 0)] (by kernel_rfl) ?_
    refine WL.nil ?_
    refine WQ.then_normal (hK314 _ _ _ ?_)
    refine WP.block ?_
    obtain ⟨t326, ht327, hm⟩ := bindE hm
    have hmo321 := hm; clear hm
    refine WP.sub [(3, .slice a17 x15.length c18), (6, .slice a41 x39.1.length c42), (10, .string (bs x63.1)), (14, .pointer (some ⟨b92, 0, none⟩)), (15, .pointer (some ⟨b100, 0, none⟩)), (16, .int .i64 x84.2.2), (17, .slice a303 (([[105, 110, 110, 101, 114, 45, 116, 111, 101], [111, 117, 116, 101, 114, 45, 116, 111, 101], [105, 110, 110, 101, 114, 45, 104, 101, 101, 108], [111, 117, 116, 101, 114, 45, 104, 101, 101, 108]] : List (List UInt8)).length) c304), (18, .string (bs [101, 118, 101, 110])), (19, .int .i64 0)] ⟨rfl, rfl, rfl, rfl, rfl, rfl, rfl, rfl, rfl, trivial⟩ ?_
    refine WP.loop (fun n' env' w' => ∃ (st315 : List UInt8 × Int) , env' = [(3, .slice a17 x15.length c18), (6, .slice a41 x39.1.length c42), (10, .string (bs x63.1)), (14, .pointer (some ⟨b92, 0, none⟩)), (15, .pointer (some ⟨b100, 0, none⟩)), (16, .int .i64 x84.2.2), (17, .slice a303 (([[105, 110, 110, 101, 114, 45, 116, 111, 101], [111, 117, 116, 101, 114, 45, 116, 111, 101], [105, 110, 110, 101, 114, 45, 104, 101, 101, 108], [111, 117, 116, 101, 114, 45, 104, 101, 101, 108]] : List (List UInt8)).length) c304), (18, .string (bs st315.1)), (19, .int .i64 st315.2)] ∧ Ext w w' ∧ w.heap.size ≤ w'.heap.size ∧ SH w' w.heap.size [aOwn fStr 9 a303 c304 ([[105, 110, 110, 101, 114, 45, 116, 111, 101], [111, 117, 116, 101, 114, 45, 116, 111, 101], [105, 110, 110, 101, 114, 45, 104, 101, 101, 108], [111, 117, 116, 101, 114, 45, 104, 101, 101, 108]] : List (List UInt8)), aBox 34 b100 [.int .i64 x84.2.1.Num, .int .i64 x84.2.1.Den], aBox 34 b92 [.int .i64 x84.1.Num, .int .i64 x84.1.Den], aOwn fInt 2 a74 c75 x72.1, aOwn fInt 2 a53 c54 x51.1, aOwn fInt 2 a41 c42 x39.1, aOwn fStr 9 a29 c30 x27.1, aOwn fStr 9 a17 c18 x15] ∧ loopN (m_laws_FnWearSides_l1 n x39) n' st315 = some t326) n ⟨([101, 118, 101, 110], 0), rfl, hb309, hL310, hS311, ht327⟩ ?_
    rintro n323 _ w316 ⟨st315, rfl, hb317, hL318, hS319, hl320⟩ K322 hK322
    obtain ⟨n324, s325, rfl, hm, hl320⟩ := loopN_some hl320
    unfold m_laws_FnWearSides_l1 at hm
    refine WP.seq (fun K328 hK328 => ?_)
    refine WP.seq (fun K329 hK329 => ?_)
    refine WP.region ?_
    refine WL.runk 2 [3, 6, 10, 14, 15, 16, 17, 18, 19, 127] [(3, .slice a17 x15.length c18), (6, .slice a41 x39.1.length c42), (10, .string (bs x63.1)), (14, .pointer (some ⟨b92, 0, none⟩)), (15, .pointer (some ⟨b100, 0, none⟩)), (16, .int .i64 x84.2.2), (17, .slice a303 (([[105, 110, 110, 101, 114, 45, 116, 111, 101], [111, 117, 116, 101, 114, 45, 116, 111, 101], [105, 110, 110, 101, 114, 45, 104, 101, 101, 108], [111, 117, 116, 101, 114, 45, 104, 101, 101, 108]] : List (List UInt8)).length) c304), (18, .string (bs st315.1)), (19, .int .i64 st315.2), (127, .bool (decide (st315.2 < 4)))] (by kernel_rfl) ?_
    refine WL.nil ?_
    refine WQ.then_normal (hK329 _ _ _ ?_)
    refine WP.cond (decide (st315.2 < 4)) rfl rfl (fun hc330 => ?_) (fun hc330 => ?_)
    · have hm := iteT hm hc330
      refine WP.skip ?_
      refine WQ.then_normal (hK328 _ _ _ ?_)
      refine WP.seq (fun K331 hK331 => ?_)
      refine WP.block ?_
      refine WP.seq (fun K332 hK332 => ?_)
      refine WP.seq (fun K333 hK333 => ?_)
      refine WP.region ?_
      refine WL.runk 2 [3, 6, 10, 14, 15, 16, 17, 18, 19, 130, 131] [(3, .slice a17 x15.length c18), (6, .slice a41 x39.1.length c42), (10, .string (bs x63.1)), (14, .pointer (some ⟨b92, 0, none⟩)), (15, .pointer (some ⟨b100, 0, none⟩)), (16, .int .i64 x84.2.2), (17, .slice a303 (([[105, 110, 110, 101, 114, 45, 116, 111, 101], [111, 117, 116, 101, 114, 45, 116, 111, 101], [105, 110, 110, 101, 114, 45, 104, 101, 101, 108], [111, 117, 116, 101, 114, 45, 104, 101, 101, 108]] : List (List UInt8)).length) c304), (18, .string (bs st315.1)), (19, .int .i64 st315.2), (130, .slice a41 x39.1.length c42), (131, .int .i64 st315.2)] (by kernel_rfl) ?_
      obtain ⟨x334, hx335, hm⟩ := bindE hm
      refine WL.st (.pointer (some (at_ a41 (Int.toNat st315.2 * 1)))) (ST.index (T := fInt.ty) (xs := x39.1) (SH.rd (SH.front 5 hS319)) hx335 rfl rfl rfl Try.underlying40 (info2).1 (info2).2.1) rfl rfl rfl ?_
      refine WL.st (.int .i64 x334) (ST.load (cell_ext (Rd.flat (F := fInt) (SH.rd (SH.front 5 hS319)) hx335 0 rfl)) rfl rfl Try.underlying2 rfl) rfl rfl rfl ?_
      refine WL.runk 1 [3, 6, 10, 14, 15, 16, 17, 18, 19, 134] [(3, .slice a17 x15.length c18), (6, .slice a41 x39.1.length c42), (10, .string (bs x63.1)), (14, .pointer (some ⟨b92, 0, none⟩)), (15, .pointer (some ⟨b100, 0, none⟩)), (16, .int .i64 x84.2.2), (17, .slice a303 (([[105, 110, 110, 101, 114, 45, 116, 111, 101], [111, 117, 116, 101, 114, 45, 116, 111, 101], [105, 110, 110, 101, 114, 45, 104, 101, 101, 108], [111, 117, 116, 101, 114, 45, 104, 101, 101, 108]] : List (List UInt8)).length) c304), (18, .string (bs st315.1)), (19, .int .i64 st315.2), (134, .bool (decide (x334 < 0)))] (by kernel_rfl) ?_
      refine WL.nil ?_
      refine WQ.then_normal (hK333 _ _ _ ?_)
      refine WP.cond (decide (x334 < 0)) rfl rfl (fun hc336 => ?_) (fun hc336 => ?_)
      · have hm := iteT hm hc336
        refine WP.seq (fun K337 hK337 => ?_)
        refine WP.region ?_
        refine WL.runk 1 [2] [(2, .bool false)] (by kernel_rfl) ?_
        refine WL.nil ?_
        refine WQ.then_normal (hK337 _ _ _ ?_)
        refine WP.ret ?_
        refine WQ.then_ret ?_
        refine WQ.block_ret ?_
        refine WQ.then_ret ?_
        refine WQ.then_ret ?_
        refine WQ.block_ret ?_
        refine WQ.then_ret ?_
        obtain rfl := Option.some.inj hm
        obtain rfl := afterN_done hl320
        have hm := hmo321
        obtain rfl := Option.some.inj hm
        exact WQ.ret1 _ rfl rfl ⟨rfl, hb317⟩
      have hm := iteF hm hc336
      refine WP.skip ?_
      refine WQ.then_normal (hK332 _ _ _ ?_)
      refine WP.seq (fun K338 hK338 => ?_)
      refine WP.quiet (by kernel_rfl) (by kernel_rfl) ?_
      refine QL.step1v 135 (.slice a41 x39.1.length c42) rfl (fun _ => by kernel_rfl) ?_
      refine QL.step1v 136 (.int .i64 st315.2) rfl (fun _ => by kernel_rfl) ?_
      refine QL.subk [3, 6, 10, 14, 15, 16, 17, 18, 19, 135, 136] [(3, .slice a17 x15.length c18), (6, .slice a41 x39.1.length c42), (10, .string (bs x63.1)), (14, .pointer (some ⟨b92, 0, none⟩)), (15, .pointer (some ⟨b100, 0, none⟩)), (16, .int .i64 x84.2.2), (17, .slice a303 (([[105, 110, 110, 101, 114, 45, 116, 111, 101], [111, 117, 116, 101, 114, 45, 116, 111, 101], [105, 110, 110, 101, 114, 45, 104, 101, 101, 108], [111, 117, 116, 101, 114, 45, 104, 101, 101, 108]] : List (List UInt8)).length) c304), (18, .string (bs st315.1)), (19, .int .i64 st315.2), (135, .slice a41 x39.1.length c42), (136, .int .i64 st315.2)] (by kernel_rfl) ?_
      obtain ⟨x339, hx340, hm⟩ := bindE hm
      refine QL.st (.pointer (some (at_ a41 (Int.toNat st315.2 * 1)))) (ST.index (T := fInt.ty) (xs := x39.1) (SH.rd (SH.front 5 hS319)) hx340 rfl rfl rfl Try.underlying40 (info2).1 (info2).2.1) rfl rfl rfl ?_
      refine QL.st (.int .i64 x339) (ST.load (cell_ext (Rd.flat (F := fInt) (SH.rd (SH.front 5 hS319)) hx340 0 rfl)) rfl rfl Try.underlying2 rfl) rfl rfl rfl ?_
      refine QL.step1v 139 (.int .i64 (wI64 (2 * x339))) rfl (fun _ => by kernel_rfl) ?_
      refine QL.step1v 140 (.slice a41 x39.1.length c42) rfl (fun _ => by kernel_rfl) ?_
      refine QL.subk [3, 6, 10, 14, 15, 16, 17, 18, 19, 139, 140] [(3, .slice a17 x15.length c18), (6, .slice a41 x39.1.length c42), (10, .string (bs x63.1)), (14, .pointer (some ⟨b92, 0, none⟩)), (15, .pointer (some ⟨b100, 0, none⟩)), (16, .int .i64 x84.2.2), (17, .slice a303 (([[105, 110, 110, 101, 114, 45, 116, 111, 101], [111, 117, 116, 101, 114, 45, 116, 111, 101], [105, 110, 110, 101, 114, 45, 104, 101, 101, 108], [111, 117, 116, 101, 114, 45, 104, 101, 101, 108]] : List (List UInt8)).length) c304), (18, .string (bs st315.1)), (19, .int .i64 st315.2), (139, .int .i64 (wI64 (2 * x339))), (140, .slice a41 x39.1.length c42)] (by kernel_rfl) ?_
      obtain ⟨x341, hx342, hm⟩ := bindE hm
      refine QL.call 43 #[.slice a41 x39.1.length c42] (.int .i64 x341) (fun _ => by kernel_rfl) (fun w343 hE344 => c_43 n x39.1 a41 c42 w343 hx342 (Rd.below (SH.rd (SH.front 5 hS319)) hE344) (SH.le (SH.front 5 hS319)).1) rfl rfl rfl ?_
      refine QL.step1v 142 (.bool (decide ((wI64 (2 * x339)) > x341))) rfl (fun _ => by kernel_rfl) ?_
      refine QL.subk [3, 6, 10, 14, 15, 16, 17, 18, 19, 142] [(3, .slice a17 x15.length c18), (6, .slice a41 x39.1.length c42), (10, .string (bs x63.1)), (14, .pointer (some ⟨b92, 0, none⟩)), (15, .pointer (some ⟨b100, 0, none⟩)), (16, .int .i64 x84.2.2), (17, .slice a303 (([[105, 110, 110, 101, 114, 45, 116, 111, 101], [111, 117, 116, 101, 114, 45, 116, 111, 101], [105, 110, 110, 101, 114, 45, 104, 101, 101, 108], [111, 117, 116, 101, 114, 45, 104, 101, 101, 108]] : List (List UInt8)).length) c304), (18, .string (bs st315.1)), (19, .int .i64 st315.2), (142, .bool (decide ((wI64 (2 * x339)) > x341)))] (by kernel_rfl) ?_
      refine QL.nil ?_
      intro w345 hE346
      have hb347 : Ext w w345 := Ext.trans hb317 hE346
      have hL348 : w.heap.size ≤ w345.heap.size := Nat.le_trans hL318 hE346.size
      have hS349 : SH w345 w.heap.size [aOwn fStr 9 a303 c304 ([[105, 110, 110, 101, 114, 45, 116, 111, 101], [111, 117, 116, 101, 114, 45, 116, 111, 101], [105, 110, 110, 101, 114, 45, 104, 101, 101, 108], [111, 117, 116, 101, 114, 45, 104, 101, 101, 108]] : List (List UInt8)), aBox 34 b100 [.int .i64 x84.2.1.Num, .int .i64 x84.2.1.Den], aBox 34 b92 [.int .i64 x84.1.Num, .int .i64 x84.1.Den], aOwn fInt 2 a74 c75 x72.1, aOwn fInt 2 a53 c54 x51.1, aOwn fInt 2 a41 c42 x39.1, aOwn fStr 9 a29 c30 x27.1, aOwn fStr 9 a17 c18 x15] := SH.ext hS319 hE346
      refine WQ.then_normal (hK338 _ _ _ ?_)
      obtain ⟨x353, hx354, hm⟩ := bindE hm
      refine WP.cut (fun env' w' => env' = [(3, .slice a17 x15.length c18), (6, .slice a41 x39.1.length c42), (10, .string (bs x63.1)), (14, .pointer (some ⟨b92, 0, none⟩)), (15, .pointer (some ⟨b100, 0, none⟩)), (16, .int .i64 x84.2.2), (17, .slice a303 (([[105, 110, 110, 101, 114, 45, 116, 111, 101], [111, 117, 116, 101, 114, 45, 116, 111, 101], [105, 110, 110, 101, 114, 45, 104, 101, 101, 108], [111, 117, 116, 101, 114, 45, 104, 101, 101, 108]] : List (List UInt8)).length) c304), (18, .string (bs x353)), (19, .int .i64 st315.2)] ∧ Ext w w' ∧ w.heap.size ≤ w'.heap.size ∧ SH w' w.heap.size [aOwn fStr 9 a303 c304 ([[105, 110, 110, 101, 114, 45, 116, 111, 101], [111, 117, 116, 101, 114, 45, 116, 111, 101], [105, 110, 110, 101, 114, 45, 104, 101, 101, 108], [111, 117, 116, 101, 114, 45, 104, 101, 101, 108]] : List (List UInt8)), aBox 34 b100 [.int .i64 x84.2.1.Num, .int .i64 x84.2.1.Den], aBox 34 b92 [.int .i64 x84.1.Num, .int .i64 x84.1.Den], aOwn fInt 2 a74 c75 x72.1, aOwn fInt 2 a53 c54 x51.1, aOwn fInt 2 a41 c42 x39.1, aOwn fStr 9 a29 c30 x27.1, aOwn fStr 9 a17 c18 x15]) ?_ ?_
      rotate_left
      · clear hx354
        rintro _ w357 ⟨rfl, hb358, hL359, hS360⟩
        refine WQ.block_normal ?_
        refine WQ.then_normal (hK331 _ _ _ ?_)
        refine WP.region ?_
        refine WL.runk 3 [3, 6, 10, 14, 15, 16, 17, 18, 19] [(3, .slice a17 x15.length c18), (6, .slice a41 x39.1.length c42), (10, .string (bs x63.1)), (14, .pointer (some ⟨b92, 0, none⟩)), (15, .pointer (some ⟨b100, 0, none⟩)), (16, .int .i64 x84.2.2), (17, .slice a303 (([[105, 110, 110, 101, 114, 45, 116, 111, 101], [111, 117, 116, 101, 114, 45, 116, 111, 101], [105, 110, 110, 101, 114, 45, 104, 101, 101, 108], [111, 117, 116, 101, 114, 45, 104, 101, 101, 108]] : List (List UInt8)).length) c304), (18, .string (bs x353)), (19, .int .i64 (wI64 (st315.2 + 1)))] (by kernel_rfl) ?_
        refine WL.nil ?_
        obtain rfl := Option.some.inj hm
        exact WQ.round hK322 ⟨(x353, (wI64 (st315.2 + 1))), rfl, hb358, hL359, hS360, hl320⟩ (Nat.lt_succ_self _) ⟨rfl, rfl, rfl, rfl, rfl, rfl, rfl, rfl, rfl, trivial⟩
      have hm := hx354; clear hx354
      refine WP.cond (decide ((wI64 (2 * x339)) > x341)) rfl rfl (fun hc350 => ?_) (fun hc350 => ?_)
      rotate_left
      · have hm := iteF hm hc350
        refine WP.skip ?_
        obtain rfl := Option.some.inj hm
        exact WQ.post' ⟨rfl, hb347, hL348, hS349⟩ ⟨rfl, rfl, rfl, rfl, rfl, rfl, rfl, rfl, rfl, trivial⟩
      have hm := iteT hm hc350
      refine WP.region ?_
      refine WL.runk 2 [3, 6, 10, 14, 15, 16, 17, 19, 143, 144] [(3, .slice a17 x15.length c18), (6, .slice a41 x39.1.length c42), (10, .string (bs x63.1)), (14, .pointer (some ⟨b92, 0, none⟩)), (15, .pointer (some ⟨b100, 0, none⟩)), (16, .int .i64 x84.2.2), (17, .slice a303 (([[105, 110, 110, 101, 114, 45, 116, 111, 101], [111, 117, 116, 101, 114, 45, 116, 111, 101], [105, 110, 110, 101, 114, 45, 104, 101, 101, 108], [111, 117, 116, 101, 114, 45, 104, 101, 101, 108]] : List (List UInt8)).length) c304), (19, .int .i64 st315.2), (143, .slice a303 (([[105, 110, 110, 101, 114, 45, 116, 111, 101], [111, 117, 116, 101, 114, 45, 116, 111, 101], [105, 110, 110, 101, 114, 45, 104, 101, 101, 108], [111, 117, 116, 101, 114, 45, 104, 101, 101, 108]] : List (List UInt8)).length) c304), (144, .int .i64 st315.2)] (by kernel_rfl) ?_
      obtain ⟨x355, hx356, hm⟩ := bindE hm
      refine WL.st (.pointer (some (at_ a303 (Int.toNat st315.2 * 1)))) (ST.index (T := fStr.ty) (xs := ([[105, 110, 110, 101, 114, 45, 116, 111, 101], [111, 117, 116, 101, 114, 45, 116, 111, 101], [105, 110, 110, 101, 114, 45, 104, 101, 101, 108], [111, 117, 116, 101, 114, 45, 104, 101, 101, 108]] : List (List UInt8))) (SH.rd (SH.front 0 hS349)) hx356 rfl rfl rfl Try.underlying22 (info9).1 (info9).2.1) rfl rfl rfl ?_
      refine WL.st (.string (bs x355)) (ST.load (cell_ext (Rd.flat (F := fStr) (SH.rd (SH.front 0 hS349)) hx356 0 rfl)) rfl rfl Try.underlying9 rfl) rfl rfl rfl ?_
      refine WL.runk 1 [3, 6, 10, 14, 15, 16, 17, 18, 19] [(3, .slice a17 x15.length c18), (6, .slice a41 x39.1.length c42), (10, .string (bs x63.1)), (14, .pointer (some ⟨b92, 0, none⟩)), (15, .pointer (some ⟨b100, 0, none⟩)), (16, .int .i64 x84.2.2), (17, .slice a303 (([[105, 110, 110, 101, 114, 45, 116, 111, 101], [111, 117, 116, 101, 114, 45, 116, 111, 101], [105, 110, 110, 101, 114, 45, 104, 101, 101, 108], [111, 117, 116, 101, 114, 45, 104, 101, 101, 108]] : List (List UInt8)).length) c304), (19, .int .i64 st315.2), (18, .string (bs x355))] (by kernel_rfl) ?_
      refine WL.nil ?_
      obtain rfl := Option.some.inj hm
      exact WQ.post' ⟨rfl, hb347, hL348, hS349⟩ ⟨rfl, rfl, rfl, rfl, rfl, rfl, rfl, rfl, rfl, trivial⟩
    have hm := iteF hm hc330
    refine WP.exit ?_
    refine WQ.then_exit ?_
    refine WQ.then_exit ?_
    refine WQ.block_here ?_
    obtain rfl := Option.some.inj hm
    obtain rfl := afterN_done hl320
    have hm := hmo321
    refine WQ.then_normal (hK313 _ _ _ ?_)
    refine WP.seq (fun K361 hK361 => ?_)
    refine WP.seq (fun K362 hK362 => ?_)
    refine WP.region ?_
    refine WL.runk 2 [3, 6, 14, 15, 16, 147, 148] [(3, .slice a17 x15.length c18), (6, .slice a41 x39.1.length c42), (14, .pointer (some ⟨b92, 0, none⟩)), (15, .pointer (some ⟨b100, 0, none⟩)), (16, .int .i64 x84.2.2), (147, .string (bs x63.1)), (148, .string (bs st315.1))] (by kernel_rfl) ?_
    refine WL.st (.bool (!(x63.1 == st315.1))) (ST.strne (x := x63.1) (y := st315.1) rfl rfl rfl) rfl rfl rfl ?_
    refine WL.sub [(3, .slice a17 x15.length c18), (6, .slice a41 x39.1.length c42), (14, .pointer (some ⟨b92, 0, none⟩)), (15, .pointer (some ⟨b100, 0, none⟩)), (16, .int .i64 x84.2.2), (149, .bool (!(x63.1 == st315.1)))] ⟨rfl, rfl, rfl, rfl, rfl, rfl, trivial⟩ ?_
    refine WL.nil ?_
    refine WQ.then_normal (hK362 _ _ _ ?_)
    refine WP.cond (!(x63.1 == st315.1)) rfl rfl (fun hc363 => ?_) (fun hc363 => ?_)
    · have hm := iteT hm hc363
      refine WP.seq (fun K364 hK364 => ?_)
      refine WP.region ?_
      refine WL.runk 1 [2] [(2, .bool false)] (by kernel_rfl) ?_
      refine WL.nil ?_
      refine WQ.then_normal (hK364 _ _ _ ?_)
      refine WP.ret ?_
      refine WQ.then_ret ?_
      obtain rfl := Option.some.inj hm
      exact WQ.ret1 _ rfl rfl ⟨rfl, hb317⟩
    have hm := iteF hm hc363
    refine WP.skip ?_
    refine WQ.then_normal (hK361 _ _ _ ?_)
    refine WP.seq (fun K365 hK365 => ?_)
    refine WP.seq (fun K366 hK366 => ?_)
    refine WP.region ?_
    refine WL.runk 2 [3, 6, 14, 15, 16, 151] [(3, .slice a17 x15.length c18), (6, .slice a41 x39.1.length c42), (14, .pointer (some ⟨b92, 0, none⟩)), (15, .pointer (some ⟨b100, 0, none⟩)), (16, .int .i64 x84.2.2), (151, .bool (x84.2.2 != 0))] (by kernel_rfl) ?_
    refine WL.nil ?_
    refine WQ.then_normal (hK366 _ _ _ ?_)
    refine WP.cond (x84.2.2 != 0) rfl rfl (fun hc367 => ?_) (fun hc367 => ?_)
    · have hm := iteT hm hc367
      refine WP.seq (fun K368 hK368 => ?_)
      obtain ⟨x378, hx379, hm⟩ := bindE hm
      refine WP.cut (fun env' w' => env' = [(2, .bool x378)] ∧ Ext w w' ∧ w.heap.size ≤ w'.heap.size ∧ SH w' w.heap.size [aOwn fStr 9 a303 c304 ([[105, 110, 110, 101, 114, 45, 116, 111, 101], [111, 117, 116, 101, 114, 45, 116, 111, 101], [105, 110, 110, 101, 114, 45, 104, 101, 101, 108], [111, 117, 116, 101, 114, 45, 104, 101, 101, 108]] : List (List UInt8)), aBox 34 b100 [.int .i64 x84.2.1.Num, .int .i64 x84.2.1.Den], aBox 34 b92 [.int .i64 x84.1.Num, .int .i64 x84.1.Den], aOwn fInt 2 a74 c75 x72.1, aOwn fInt 2 a53 c54 x51.1, aOwn fInt 2 a41 c42 x39.1, aOwn fStr 9 a29 c30 x27.1, aOwn fStr 9 a17 c18 x15]) ?_ ?_
      rotate_left
      · clear hx379
        rintro _ w389 ⟨rfl, hb390, hL391, hS392⟩
        refine WQ.then_normal (hK368 _ _ _ ?_)
        refine WP.ret ?_
        refine WQ.then_ret ?_
        obtain rfl := Option.some.inj hm
        exact WQ.ret1 _ rfl rfl ⟨rfl, hb390⟩
      have hm := hx379; clear hx379
      refine WP.region ?_
      refine WL.runk 3 [6, 154] [(6, .slice a41 x39.1.length c42), (154, .bool (x84.2.2 == 3))] (by kernel_rfl) ?_
      refine WL.case (x84.2.2 == 3) [154] ⟨rfl, trivial⟩ (fun hc380 => ?_) (fun hc380 => ?_)
      rotate_left
      · have hm := iteF hm hc380
        refine WL.runk 5 [2] [(2, .bool false)] (by kernel_rfl) ?_
        refine WL.nil ?_
        obtain rfl := Option.some.inj hm
        exact WQ.post' ⟨rfl, hb317, hL318, hS319⟩ ⟨rfl, trivial⟩
      have hm := iteT hm hc380
      refine WL.runk 1 [154, 155] [(154, .bool true), (155, .slice a41 x39.1.length c42)] (by kernel_rfl) ?_
      obtain ⟨x381, hx382, hm⟩ := bindE hm
      refine WL.call 43 #[.slice a41 x39.1.length c42] rfl rfl (by kernel_rfl) (c_43 n x39.1 a41 c42 w316 hx382 (SH.rd (SH.front 5 hS319)) (SH.le (SH.front 5 hS319)).1) ?_
      rintro _ w383 ⟨rfl, hE384⟩
      refine ⟨_, rfl, ?_⟩
      have hb386 : Ext w w383 := Ext.trans hb317 hE384
      have hL387 : w.heap.size ≤ w383.heap.size := Nat.le_trans hL318 hE384.size
      have hS388 : SH w383 w.heap.size [aOwn fStr 9 a303 c304 ([[105, 110, 110, 101, 114, 45, 116, 111, 101], [111, 117, 116, 101, 114, 45, 116, 111, 101], [105, 110, 110, 101, 114, 45, 104, 101, 101, 108], [111, 117, 116, 101, 114, 45, 104, 101, 101, 108]] : List (List UInt8)), aBox 34 b100 [.int .i64 x84.2.1.Num, .int .i64 x84.2.1.Den], aBox 34 b92 [.int .i64 x84.1.Num, .int .i64 x84.1.Den], aOwn fInt 2 a74 c75 x72.1, aOwn fInt 2 a53 c54 x51.1, aOwn fInt 2 a41 c42 x39.1, aOwn fStr 9 a29 c30 x27.1, aOwn fStr 9 a17 c18 x15] := SH.ext hS319 hE384
      refine WL.runk 3 [2] [(2, .bool (x381 == 0))] (by kernel_rfl) ?_
      refine WL.nil ?_
      obtain rfl := Option.some.inj hm
      exact WQ.post' ⟨rfl, hb386, hL387, hS388⟩ ⟨rfl, trivial⟩
    have hm := iteF hm hc367
    refine WP.skip ?_
    refine WQ.then_normal (hK365 _ _ _ ?_)
    refine WP.seq (fun K393 hK393 => ?_)
    obtain ⟨x443, hx444, hm⟩ := bindE hm
    refine WP.cut (fun env' w' => env' = [(2, .bool x443)] ∧ Ext w w' ∧ w.heap.size ≤ w'.heap.size ∧ SH w' w.heap.size [aOwn fStr 9 a303 c304 ([[105, 110, 110, 101, 114, 45, 116, 111, 101], [111, 117, 116, 101, 114, 45, 116, 111, 101], [105, 110, 110, 101, 114, 45, 104, 101, 101, 108], [111, 117, 116, 101, 114, 45, 104, 101, 101, 108]] : List (List UInt8)), aBox 34 b100 [.int .i64 x84.2.1.Num, .int .i64 x84.2.1.Den], aBox 34 b92 [.int .i64 x84.1.Num, .int .i64 x84.1.Den], aOwn fInt 2 a74 c75 x72.1, aOwn fInt 2 a53 c54 x51.1, aOwn fInt 2 a41 c42 x39.1, aOwn fStr 9 a29 c30 x27.1, aOwn fStr 9 a17 c18 x15]) ?_ ?_
    rotate_left
    · clear hx444
      rintro _ w494 ⟨rfl, hb495, hL496, hS497⟩
      refine WQ.then_normal (hK393 _ _ _ ?_)
      refine WP.ret ?_
      obtain rfl := Option.some.inj hm
      exact WQ.ret1 _ rfl rfl ⟨rfl, hb495⟩
    have hm := hx444; clear hx444
    refine WP.quiet (by kernel_rfl) (by kernel_rfl) ?_
    refine QL.step1v 159 (.pointer (some ⟨b92, 1, none⟩)) rfl (fun _ => by kernel_rfl) ?_
    refine QL.subk [3, 14, 15, 159] [(3, .slice a17 x15.length c18), (14, .pointer (some ⟨b92, 0, none⟩)), (15, .pointer (some ⟨b100, 0, none⟩)), (159, .pointer (some ⟨b92, 1, none⟩))] (by kernel_rfl) ?_
    refine QL.st (.int .i64 x84.1.Den) (ST.load (cell_ext (SH.boxAt (SH.front 2 hS319) 1 _ rfl)) rfl rfl Try.underlying2 rfl) rfl rfl rfl ?_
    refine QL.step1v 161 (.bool (decide (x84.1.Den ≥ 1))) rfl (fun _ => by kernel_rfl) ?_
    refine QL.step1v 162 (.bool (decide (x84.1.Den ≥ 1))) rfl (fun _ => by kernel_rfl) ?_
    refine QL.subk [3, 14, 15, 162] [(3, .slice a17 x15.length c18), (14, .pointer (some ⟨b92, 0, none⟩)), (15, .pointer (some ⟨b100, 0, none⟩)), (162, .bool (decide (x84.1.Den ≥ 1)))] (by kernel_rfl) ?_
    refine QL.case (decide (x84.1.Den ≥ 1)) [162] ⟨rfl, trivial⟩ (fun hc445 => ?_) (fun hc445 => ?_)
    rotate_left
    · have hm := iteF hm hc445
      refine QL.step1v 163 undef rfl (fun _ => by kernel_rfl) ?_
      refine QL.step1v 164 undef rfl (fun _ => by kernel_rfl) ?_
      refine QL.step1v 165 undef rfl (fun _ => by kernel_rfl) ?_
      refine QL.step1v 166 (.bool false) rfl (fun _ => by kernel_rfl) ?_
      refine QL.step1v 167 (.bool false) rfl (fun _ => by kernel_rfl) ?_
      refine QL.step1v 168 undef rfl (fun _ => by kernel_rfl) ?_
      refine QL.step1v 169 undef rfl (fun _ => by kernel_rfl) ?_
      refine QL.step1v 170 undef rfl (fun _ => by kernel_rfl) ?_
      refine QL.step1v 171 (.bool false) rfl (fun _ => by kernel_rfl) ?_
      refine QL.step1v 172 (.bool false) rfl (fun _ => by kernel_rfl) ?_
      refine QL.step1v 173 undef rfl (fun _ => by kernel_rfl) ?_
      refine QL.step1v 174 undef rfl (fun _ => by kernel_rfl) ?_
      refine QL.step1v 175 undef rfl (fun _ => by kernel_rfl) ?_
      refine QL.step1v 176 undef rfl (fun _ => by kernel_rfl) ?_
      refine QL.step1v 177 undef rfl (fun _ => by kernel_rfl) ?_
      refine QL.step1v 178 undef rfl (fun _ => by kernel_rfl) ?_
      refine QL.step1v 179 undef rfl (fun _ => by kernel_rfl) ?_
      refine QL.step1v 180 undef rfl (fun _ => by kernel_rfl) ?_
      refine QL.step1v 181 undef rfl (fun _ => by kernel_rfl) ?_
      refine QL.step1v 182 (.bool false) rfl (fun _ => by kernel_rfl) ?_
      refine QL.step1v 183 (.bool false) rfl (fun _ => by kernel_rfl) ?_
      refine QL.step1v 184 undef rfl (fun _ => by kernel_rfl) ?_
      refine QL.step1v 185 undef rfl (fun _ => by kernel_rfl) ?_
      refine QL.step1v 186 undef rfl (fun _ => by kernel_rfl) ?_
      refine QL.step1v 187 (.bool false) rfl (fun _ => by kernel_rfl) ?_
      refine QL.step1v 188 (.bool false) rfl (fun _ => by kernel_rfl) ?_
      refine QL.step1v 189 undef rfl (fun _ => by kernel_rfl) ?_
      refine QL.step1v 190 undef rfl (fun _ => by kernel_rfl) ?_
      refine QL.step1v 191 undef rfl (fun _ => by kernel_rfl) ?_
      refine QL.step1v 192 (.bool false) rfl (fun _ => by kernel_rfl) ?_
      refine QL.step1v 193 (.bool false) rfl (fun _ => by kernel_rfl) ?_
      refine QL.step1v 194 undef rfl (fun _ => by kernel_rfl) ?_
      refine QL.step1v 195 undef rfl (fun _ => by kernel_rfl) ?_
      refine QL.step1v 196 undef rfl (fun _ => by kernel_rfl) ?_
      refine QL.step1v 197 (.bool false) rfl (fun _ => by kernel_rfl) ?_
      refine QL.step1v 198 (.bool false) rfl (fun _ => by kernel_rfl) ?_
      refine QL.step1v 199 undef rfl (fun _ => by kernel_rfl) ?_
      refine QL.step1v 200 undef rfl (fun _ => by kernel_rfl) ?_
      refine QL.step1v 201 undef rfl (fun _ => by kernel_rfl) ?_
      refine QL.step1v 202 undef rfl (fun _ => by kernel_rfl) ?_
      refine QL.step1v 203 undef rfl (fun _ => by kernel_rfl) ?_
      refine QL.step1v 204 undef rfl (fun _ => by kernel_rfl) ?_
      refine QL.step1v 205 undef rfl (fun _ => by kernel_rfl) ?_
      refine QL.step1v 206 undef rfl (fun _ => by kernel_rfl) ?_
      refine QL.step1v 207 undef rfl (fun _ => by kernel_rfl) ?_
      refine QL.step1v 208 undef rfl (fun _ => by kernel_rfl) ?_
      refine QL.step1v 209 undef rfl (fun _ => by kernel_rfl) ?_
      refine QL.step1v 210 (.bool false) rfl (fun _ => by kernel_rfl) ?_
      refine QL.step1v 2 (.bool false) rfl (fun _ => by kernel_rfl) ?_
      refine QL.subk [2] [(2, .bool false)] (by kernel_rfl) ?_
      refine QL.nil ?_
      intro w489 hE490
      have hb491 : Ext w w489 := Ext.trans hb317 hE490
      have hL492 : w.heap.size ≤ w489.heap.size := Nat.le_trans hL318 hE490.size
      have hS493 : SH w489 w.heap.size [aOwn fStr 9 a303 c304 ([[105, 110, 110, 101, 114, 45, 116, 111, 101], [111, 117, 116, 101, 114, 45, 116, 111, 101], [105, 110, 110, 101, 114, 45, 104, 101, 101, 108], [111, 117, 116, 101, 114, 45, 104, 101, 101, 108]] : List (List UInt8)), aBox 34 b100 [.int .i64 x84.2.1.Num, .int .i64 x84.2.1.Den], aBox 34 b92 [.int .i64 x84.1.Num, .int .i64 x84.1.Den], aOwn fInt 2 a74 c75 x72.1, aOwn fInt 2 a53 c54 x51.1, aOwn fInt 2 a41 c42 x39.1, aOwn fStr 9 a29 c30 x27.1, aOwn fStr 9 a17 c18 x15] := SH.ext hS319 hE490
      obtain rfl := Option.some.inj hm
      exact WQ.post' ⟨rfl, hb491, hL492, hS493⟩ ⟨rfl, trivial⟩
    have hm := iteT hm hc445
    refine QL.step1v 163 (.pointer (some ⟨b92, 1, none⟩)) rfl (fun _ => by kernel_rfl) ?_
    refine QL.subk [3, 14, 15, 162, 163] [(3, .slice a17 x15.length c18), (14, .pointer (some ⟨b92, 0, none⟩)), (15, .pointer (some ⟨b100, 0, none⟩)), (162, .bool true), (163, .pointer (some ⟨b92, 1, none⟩))] (by kernel_rfl) ?_
    refine QL.st (.int .i64 x84.1.Den) (ST.load (cell_ext (SH.boxAt (SH.front 2 hS319) 1 _ rfl)) rfl rfl Try.underlying2 rfl) rfl rfl rfl ?_
    refine QL.step1v 165 (.bool (decide (x84.1.Den ≤ 1000))) rfl (fun _ => by kernel_rfl) ?_
    refine QL.step1v 166 (.bool (decide (x84.1.Den ≤ 1000))) rfl (fun _ => by kernel_rfl) ?_
    refine QL.step1v 167 (.bool (decide (x84.1.Den ≤ 1000))) rfl (fun _ => by kernel_rfl) ?_
    refine QL.subk [3, 14, 15, 167] [(3, .slice a17 x15.length c18), (14, .pointer (some ⟨b92, 0, none⟩)), (15, .pointer (some ⟨b100, 0, none⟩)), (167, .bool (decide (x84.1.Den ≤ 1000)))] (by kernel_rfl) ?_
    refine QL.case (decide (x84.1.Den ≤ 1000)) [167] ⟨rfl, trivial⟩ (fun hc446 => ?_) (fun hc446 => ?_)
    rotate_left
    · have hm := iteF hm hc446
      refine QL.step1v 168 undef rfl (fun _ => by kernel_rfl) ?_
      refine QL.step1v 169 undef rfl (fun _ => by kernel_rfl) ?_
      refine QL.step1v 170 undef rfl (fun _ => by kernel_rfl) ?_
      refine QL.step1v 171 (.bool false) rfl (fun _ => by kernel_rfl) ?_
      refine QL.step1v 172 (.bool false) rfl (fun _ => by kernel_rfl) ?_
      refine QL.step1v 173 undef rfl (fun _ => by kernel_rfl) ?_
      refine QL.step1v 174 undef rfl (fun _ => by kernel_rfl) ?_
      refine QL.step1v 175 undef rfl (fun _ => by kernel_rfl) ?_
      refine QL.step1v 176 undef rfl (fun _ => by kernel_rfl) ?_
      refine QL.step1v 177 undef rfl (fun _ => by kernel_rfl) ?_
      refine QL.step1v 178 undef rfl (fun _ => by kernel_rfl) ?_
      refine QL.step1v 179 undef rfl (fun _ => by kernel_rfl) ?_
      refine QL.step1v 180 undef rfl (fun _ => by kernel_rfl) ?_
      refine QL.step1v 181 undef rfl (fun _ => by kernel_rfl) ?_
      refine QL.step1v 182 (.bool false) rfl (fun _ => by kernel_rfl) ?_
      refine QL.step1v 183 (.bool false) rfl (fun _ => by kernel_rfl) ?_
      refine QL.step1v 184 undef rfl (fun _ => by kernel_rfl) ?_
      refine QL.step1v 185 undef rfl (fun _ => by kernel_rfl) ?_
      refine QL.step1v 186 undef rfl (fun _ => by kernel_rfl) ?_
      refine QL.step1v 187 (.bool false) rfl (fun _ => by kernel_rfl) ?_
      refine QL.step1v 188 (.bool false) rfl (fun _ => by kernel_rfl) ?_
      refine QL.step1v 189 undef rfl (fun _ => by kernel_rfl) ?_
      refine QL.step1v 190 undef rfl (fun _ => by kernel_rfl) ?_
      refine QL.step1v 191 undef rfl (fun _ => by kernel_rfl) ?_
      refine QL.step1v 192 (.bool false) rfl (fun _ => by kernel_rfl) ?_
      refine QL.step1v 193 (.bool false) rfl (fun _ => by kernel_rfl) ?_
      refine QL.step1v 194 undef rfl (fun _ => by kernel_rfl) ?_
      refine QL.step1v 195 undef rfl (fun _ => by kernel_rfl) ?_
      refine QL.step1v 196 undef rfl (fun _ => by kernel_rfl) ?_
      refine QL.step1v 197 (.bool false) rfl (fun _ => by kernel_rfl) ?_
      refine QL.step1v 198 (.bool false) rfl (fun _ => by kernel_rfl) ?_
      refine QL.step1v 199 undef rfl (fun _ => by kernel_rfl) ?_
      refine QL.step1v 200 undef rfl (fun _ => by kernel_rfl) ?_
      refine QL.step1v 201 undef rfl (fun _ => by kernel_rfl) ?_
      refine QL.step1v 202 undef rfl (fun _ => by kernel_rfl) ?_
      refine QL.step1v 203 undef rfl (fun _ => by kernel_rfl) ?_
      refine QL.step1v 204 undef rfl (fun _ => by kernel_rfl) ?_
      refine QL.step1v 205 undef rfl (fun _ => by kernel_rfl) ?_
      refine QL.step1v 206 undef rfl (fun _ => by kernel_rfl) ?_
      refine QL.step1v 207 undef rfl (fun _ => by kernel_rfl) ?_
      refine QL.step1v 208 undef rfl (fun _ => by kernel_rfl) ?_
      refine QL.step1v 209 undef rfl (fun _ => by kernel_rfl) ?_
      refine QL.step1v 210 (.bool false) rfl (fun _ => by kernel_rfl) ?_
      refine QL.step1v 2 (.bool false) rfl (fun _ => by kernel_rfl) ?_
      refine QL.subk [2] [(2, .bool false)] (by kernel_rfl) ?_
      refine QL.nil ?_
      intro w484 hE485
      have hb486 : Ext w w484 := Ext.trans hb317 hE485
      have hL487 : w.heap.size ≤ w484.heap.size := Nat.le_trans hL318 hE485.size
      have hS488 : SH w484 w.heap.size [aOwn fStr 9 a303 c304 ([[105, 110, 110, 101, 114, 45, 116, 111, 101], [111, 117, 116, 101, 114, 45, 116, 111, 101], [105, 110, 110, 101, 114, 45, 104, 101, 101, 108], [111, 117, 116, 101, 114, 45, 104, 101, 101, 108]] : List (List UInt8)), aBox 34 b100 [.int .i64 x84.2.1.Num, .int .i64 x84.2.1.Den], aBox 34 b92 [.int .i64 x84.1.Num, .int .i64 x84.1.Den], aOwn fInt 2 a74 c75 x72.1, aOwn fInt 2 a53 c54 x51.1, aOwn fInt 2 a41 c42 x39.1, aOwn fStr 9 a29 c30 x27.1, aOwn fStr 9 a17 c18 x15] := SH.ext hS319 hE485
      obtain rfl := Option.some.inj hm
      exact WQ.post' ⟨rfl, hb486, hL487, hS488⟩ ⟨rfl, trivial⟩
    have hm := iteT hm hc446
    refine QL.step1v 168 (.pointer (some ⟨b92, 0, none⟩)) rfl (fun _ => by kernel_rfl) ?_
    refine QL.subk [3, 14, 15, 167, 168] [(3, .slice a17 x15.length c18), (14, .pointer (some ⟨b92, 0, none⟩)), (15, .pointer (some ⟨b100, 0, none⟩)), (167, .bool true), (168, .pointer (some ⟨b92, 0, none⟩))] (by kernel_rfl) ?_
    refine QL.st (.int .i64 x84.1.Num) (ST.load (cell_ext (SH.boxAt (SH.front 2 hS319) 0 _ rfl)) rfl rfl Try.underlying2 rfl) rfl rfl rfl ?_
    refine QL.step1v 170 (.bool (decide (x84.1.Num ≥ 0))) rfl (fun _ => by kernel_rfl) ?_
    refine QL.step1v 171 (.bool (decide (x84.1.Num ≥ 0))) rfl (fun _ => by kernel_rfl) ?_
    refine QL.step1v 172 (.bool (decide (x84.1.Num ≥ 0))) rfl (fun _ => by kernel_rfl) ?_
    refine QL.subk [3, 14, 15, 172] [(3, .slice a17 x15.length c18), (14, .pointer (some ⟨b92, 0, none⟩)), (15, .pointer (some ⟨b100, 0, none⟩)), (172, .bool (decide (x84.1.Num ≥ 0)))] (by kernel_rfl) ?_
    refine QL.case (decide (x84.1.Num ≥ 0)) [172] ⟨rfl, trivial⟩ (fun hc447 => ?_) (fun hc447 => ?_)
    rotate_left
    · have hm := iteF hm hc447
      refine QL.step1v 173 undef rfl (fun _ => by kernel_rfl) ?_
      refine QL.step1v 174 undef rfl (fun _ => by kernel_rfl) ?_
      refine QL.step1v 175 undef rfl (fun _ => by kernel_rfl) ?_
      refine QL.step1v 176 undef rfl (fun _ => by kernel_rfl) ?_
      refine QL.step1v 177 undef rfl (fun _ => by kernel_rfl) ?_
      refine QL.step1v 178 undef rfl (fun _ => by kernel_rfl) ?_
      refine QL.step1v 179 undef rfl (fun _ => by kernel_rfl) ?_
      refine QL.step1v 180 undef rfl (fun _ => by kernel_rfl) ?_
      refine QL.step1v 181 undef rfl (fun _ => by kernel_rfl) ?_
      refine QL.step1v 182 (.bool false) rfl (fun _ => by kernel_rfl) ?_
      refine QL.step1v 183 (.bool false) rfl (fun _ => by kernel_rfl) ?_
      refine QL.step1v 184 undef rfl (fun _ => by kernel_rfl) ?_
      refine QL.step1v 185 undef rfl (fun _ => by kernel_rfl) ?_
      refine QL.step1v 186 undef rfl (fun _ => by kernel_rfl) ?_
      refine QL.step1v 187 (.bool false) rfl (fun _ => by kernel_rfl) ?_
      refine QL.step1v 188 (.bool false) rfl (fun _ => by kernel_rfl) ?_
      refine QL.step1v 189 undef rfl (fun _ => by kernel_rfl) ?_
      refine QL.step1v 190 undef rfl (fun _ => by kernel_rfl) ?_
      refine QL.step1v 191 undef rfl (fun _ => by kernel_rfl) ?_
      refine QL.step1v 192 (.bool false) rfl (fun _ => by kernel_rfl) ?_
      refine QL.step1v 193 (.bool false) rfl (fun _ => by kernel_rfl) ?_
      refine QL.step1v 194 undef rfl (fun _ => by kernel_rfl) ?_
      refine QL.step1v 195 undef rfl (fun _ => by kernel_rfl) ?_
      refine QL.step1v 196 undef rfl (fun _ => by kernel_rfl) ?_
      refine QL.step1v 197 (.bool false) rfl (fun _ => by kernel_rfl) ?_
      refine QL.step1v 198 (.bool false) rfl (fun _ => by kernel_rfl) ?_
      refine QL.step1v 199 undef rfl (fun _ => by kernel_rfl) ?_
      refine QL.step1v 200 undef rfl (fun _ => by kernel_rfl) ?_
      refine QL.step1v 201 undef rfl (fun _ => by kernel_rfl) ?_
      refine QL.step1v 202 undef rfl (fun _ => by kernel_rfl) ?_
      refine QL.step1v 203 undef rfl (fun _ => by kernel_rfl) ?_
      refine QL.step1v 204 undef rfl (fun _ => by kernel_rfl) ?_
      refine QL.step1v 205 undef rfl (fun _ => by kernel_rfl) ?_
      refine QL.step1v 206 undef rfl (fun _ => by kernel_rfl) ?_
      refine QL.step1v 207 undef rfl (fun _ => by kernel_rfl) ?_
      refine QL.step1v 208 undef rfl (fun _ => by kernel_rfl) ?_
      refine QL.step1v 209 undef rfl (fun _ => by kernel_rfl) ?_
      refine QL.step1v 210 (.bool false) rfl (fun _ => by kernel_rfl) ?_
      refine QL.step1v 2 (.bool false) rfl (fun _ => by kernel_rfl) ?_
      refine QL.subk [2] [(2, .bool false)] (by kernel_rfl) ?_
      refine QL.nil ?_
      intro w479 hE480
      have hb481 : Ext w w479 := Ext.trans hb317 hE480
      have hL482 : w.heap.size ≤ w479.heap.size := Nat.le_trans hL318 hE480.size
      have hS483 : SH w479 w.heap.size [aOwn fStr 9 a303 c304 ([[105, 110, 110, 101, 114, 45, 116, 111, 101], [111, 117, 116, 101, 114, 45, 116, 111, 101], [105, 110, 110, 101, 114, 45, 104, 101, 101, 108], [111, 117, 116, 101, 114, 45, 104, 101, 101, 108]] : List (List UInt8)), aBox 34 b100 [.int .i64 x84.2.1.Num, .int .i64 x84.2.1.Den], aBox 34 b92 [.int .i64 x84.1.Num, .int .i64 x84.1.Den], aOwn fInt 2 a74 c75 x72.1, aOwn fInt 2 a53 c54 x51.1, aOwn fInt 2 a41 c42 x39.1, aOwn fStr 9 a29 c30 x27.1, aOwn fStr 9 a17 c18 x15] := SH.ext hS319 hE480
      obtain rfl := Option.some.inj hm
      exact WQ.post' ⟨rfl, hb481, hL482, hS483⟩ ⟨rfl, trivial⟩
    have hm := iteT hm hc447
    refine QL.step1v 173 (.pointer (some ⟨b92, 0, none⟩)) rfl (fun _ => by kernel_rfl) ?_
    refine QL.subk [3, 14, 15, 172, 173] [(3, .slice a17 x15.length c18), (14, .pointer (some ⟨b92, 0, none⟩)), (15, .pointer (some ⟨b100, 0, none⟩)), (172, .bool true), (173, .pointer (some ⟨b92, 0, none⟩))] (by kernel_rfl) ?_
    refine QL.st (.int .i64 x84.1.Num) (ST.load (cell_ext (SH.boxAt (SH.front 2 hS319) 0 _ rfl)) rfl rfl Try.underlying2 rfl) rfl rfl rfl ?_
    refine QL.step1v 175 (.slice a17 x15.length c18) rfl (fun _ => by kernel_rfl) ?_
    refine QL.step1v 176 (.int .i64 (x15.length : Int)) rfl (fun _ => by kernel_rfl) ?_
    refine QL.step1v 177 (.int .i64 (wI64 ((x15.length : Int) - 1))) rfl (fun _ => by kernel_rfl) ?_
    refine QL.step1v 178 (.pointer (some ⟨b92, 1, none⟩)) rfl (fun _ => by kernel_rfl) ?_
    refine QL.subk [3, 15, 172, 174, 177, 178] [(3, .slice a17 x15.length c18), (15, .pointer (some ⟨b100, 0, none⟩)), (172, .bool true), (174, .int .i64 x84.1.Num), (177, .int .i64 (wI64 ((x15.length : Int) - 1))), (178, .pointer (some ⟨b92, 1, none⟩))] (by kernel_rfl) ?_
    refine QL.st (.int .i64 x84.1.Den) (ST.load (cell_ext (SH.boxAt (SH.front 2 hS319) 1 _ rfl)) rfl rfl Try.underlying2 rfl) rfl rfl rfl ?_
    refine QL.step1v 180 (.int .i64 (wI64 ((wI64 ((x15.length : Int) - 1)) * x84.1.Den))) rfl (fun _ => by kernel_rfl) ?_
    refine QL.step1v 181 (.bool (decide (x84.1.Num ≤ (wI64 ((wI64 ((x15.length : Int) - 1)) * x84.1.Den))))) rfl (fun _ => by kernel_rfl) ?_
    refine QL.step1v 182 (.bool (decide (x84.1.Num ≤ (wI64 ((wI64 ((x15.length : Int) - 1)) * x84.1.Den))))) rfl (fun _ => by kernel_rfl) ?_
    refine QL.step1v 183 (.bool (decide (x84.1.Num ≤ (wI64 ((wI64 ((x15.length : Int) - 1)) * x84.1.Den))))) rfl (fun _ => by kernel_rfl) ?_
    refine QL.subk [3, 15, 183] [(3, .slice a17 x15.length c18), (15, .pointer (some ⟨b100, 0, none⟩)), (183, .bool (decide (x84.1.Num ≤ (wI64 ((wI64 ((x15.length : Int) - 1)) * x84.1.Den)))))] (by kernel_rfl) ?_
    refine QL.case (decide (x84.1.Num ≤ (wI64 ((wI64 ((x15.length : Int) - 1)) * x84.1.Den)))) [183] ⟨rfl, trivial⟩ (fun hc448 => ?_) (fun hc448 => ?_)
    rotate_left
    · have hm := iteF hm hc448
      refine QL.step1v 184 undef rfl (fun _ => by kernel_rfl) ?_
      refine QL.step1v 185 undef rfl (fun _ => by kernel_rfl) ?_
      refine QL.step1v 186 undef rfl (fun _ => by kernel_rfl) ?_
      refine QL.step1v 187 (.bool false) rfl (fun _ => by kernel_rfl) ?_
      refine QL.step1v 188 (.bool false) rfl (fun _ => by kernel_rfl) ?_
      refine QL.step1v 189 undef rfl (fun _ => by kernel_rfl) ?_
      refine QL.step1v 190 undef rfl (fun _ => by kernel_rfl) ?_
      refine QL.step1v 191 undef rfl (fun _ => by kernel_rfl) ?_
      refine QL.step1v 192 (.bool false) rfl (fun _ => by kernel_rfl) ?_
      refine QL.step1v 193 (.bool false) rfl (fun _ => by kernel_rfl) ?_
      refine QL.step1v 194 undef rfl (fun _ => by kernel_rfl) ?_
      refine QL.step1v 195 undef rfl (fun _ => by kernel_rfl) ?_
      refine QL.step1v 196 undef rfl (fun _ => by kernel_rfl) ?_
      refine QL.step1v 197 (.bool false) rfl (fun _ => by kernel_rfl) ?_
      refine QL.step1v 198 (.bool false) rfl (fun _ => by kernel_rfl) ?_
      refine QL.step1v 199 undef rfl (fun _ => by kernel_rfl) ?_
      refine QL.step1v 200 undef rfl (fun _ => by kernel_rfl) ?_
      refine QL.step1v 201 undef rfl (fun _ => by kernel_rfl) ?_
      refine QL.step1v 202 undef rfl (fun _ => by kernel_rfl) ?_
      refine QL.step1v 203 undef rfl (fun _ => by kernel_rfl) ?_
      refine QL.step1v 204 undef rfl (fun _ => by kernel_rfl) ?_
      refine QL.step1v 205 undef rfl (fun _ => by kernel_rfl) ?_
      refine QL.step1v 206 undef rfl (fun _ => by kernel_rfl) ?_
      refine QL.step1v 207 undef rfl (fun _ => by kernel_rfl) ?_
      refine QL.step1v 208 undef rfl (fun _ => by kernel_rfl) ?_
      refine QL.step1v 209 undef rfl (fun _ => by kernel_rfl) ?_
      refine QL.step1v 210 (.bool false) rfl (fun _ => by kernel_rfl) ?_
      refine QL.step1v 2 (.bool false) rfl (fun _ => by kernel_rfl) ?_
      refine QL.subk [2] [(2, .bool false)] (by kernel_rfl) ?_
      refine QL.nil ?_
      intro w474 hE475
      have hb476 : Ext w w474 := Ext.trans hb317 hE475
      have hL477 : w.heap.size ≤ w474.heap.size := Nat.le_trans hL318 hE475.size
      have hS478 : SH w474 w.heap.size [aOwn fStr 9 a303 c304 ([[105, 110, 110, 101, 114, 45, 116, 111, 101], [111, 117, 116, 101, 114, 45, 116, 111, 101], [105, 110, 110, 101, 114, 45, 104, 101, 101, 108], [111, 117, 116, 101, 114, 45, 104, 101, 101, 108]] : List (List UInt8)), aBox 34 b100 [.int .i64 x84.2.1.Num, .int .i64 x84.2.1.Den], aBox 34 b92 [.int .i64 x84.1.Num, .int .i64 x84.1.Den], aOwn fInt 2 a74 c75 x72.1, aOwn fInt 2 a53 c54 x51.1, aOwn fInt 2 a41 c42 x39.1, aOwn fStr 9 a29 c30 x27.1, aOwn fStr 9 a17 c18 x15] := SH.ext hS319 hE475
      obtain rfl := Option.some.inj hm
      exact WQ.post' ⟨rfl, hb476, hL477, hS478⟩ ⟨rfl, trivial⟩
    have hm := iteT hm hc448
    refine QL.step1v 184 (.pointer (some ⟨b100, 1, none⟩)) rfl (fun _ => by kernel_rfl) ?_
    refine QL.subk [3, 15, 183, 184] [(3, .slice a17 x15.length c18), (15, .pointer (some ⟨b100, 0, none⟩)), (183, .bool true), (184, .pointer (some ⟨b100, 1, none⟩))] (by kernel_rfl) ?_
    refine QL.st (.int .i64 x84.2.1.Den) (ST.load (cell_ext (SH.boxAt (SH.front 1 hS319) 1 _ rfl)) rfl rfl Try.underlying2 rfl) rfl rfl rfl ?_
    refine QL.step1v 186 (.bool (decide (x84.2.1.Den ≥ 1))) rfl (fun _ => by kernel_rfl) ?_
    refine QL.step1v 187 (.bool (decide (x84.2.1.Den ≥ 1))) rfl (fun _ => by kernel_rfl) ?_
    refine QL.step1v 188 (.bool (decide (x84.2.1.Den ≥ 1))) rfl (fun _ => by kernel_rfl) ?_
    refine QL.subk [3, 15, 188] [(3, .slice a17 x15.length c18), (15, .pointer (some ⟨b100, 0, none⟩)), (188, .bool (decide (x84.2.1.Den ≥ 1)))] (by kernel_rfl) ?_
    refine QL.case (decide (x84.2.1.Den ≥ 1)) [188] ⟨rfl, trivial⟩ (fun hc449 => ?_) (fun hc449 => ?_)
    rotate_left
    · have hm := iteF hm hc449
      refine QL.step1v 189 undef rfl (fun _ => by kernel_rfl) ?_
      refine QL.step1v 190 undef rfl (fun _ => by kernel_rfl) ?_
      refine QL.step1v 191 undef rfl (fun _ => by kernel_rfl) ?_
      refine QL.step1v 192 (.bool false) rfl (fun _ => by kernel_rfl) ?_
      refine QL.step1v 193 (.bool false) rfl (fun _ => by kernel_rfl) ?_
      refine QL.step1v 194 undef rfl (fun _ => by kernel_rfl) ?_
      refine QL.step1v 195 undef rfl (fun _ => by kernel_rfl) ?_
      refine QL.step1v 196 undef rfl (fun _ => by kernel_rfl) ?_
      refine QL.step1v 197 (.bool false) rfl (fun _ => by kernel_rfl) ?_
      refine QL.step1v 198 (.bool false) rfl (fun _ => by kernel_rfl) ?_
      refine QL.step1v 199 undef rfl (fun _ => by kernel_rfl) ?_
      refine QL.step1v 200 undef rfl (fun _ => by kernel_rfl) ?_
      refine QL.step1v 201 undef rfl (fun _ => by kernel_rfl) ?_
      refine QL.step1v 202 undef rfl (fun _ => by kernel_rfl) ?_
      refine QL.step1v 203 undef rfl (fun _ => by kernel_rfl) ?_
      refine QL.step1v 204 undef rfl (fun _ => by kernel_rfl) ?_
      refine QL.step1v 205 undef rfl (fun _ => by kernel_rfl) ?_
      refine QL.step1v 206 undef rfl (fun _ => by kernel_rfl) ?_
      refine QL.step1v 207 undef rfl (fun _ => by kernel_rfl) ?_
      refine QL.step1v 208 undef rfl (fun _ => by kernel_rfl) ?_
      refine QL.step1v 209 undef rfl (fun _ => by kernel_rfl) ?_
      refine QL.step1v 210 (.bool false) rfl (fun _ => by kernel_rfl) ?_
      refine QL.step1v 2 (.bool false) rfl (fun _ => by kernel_rfl) ?_
      refine QL.subk [2] [(2, .bool false)] (by kernel_rfl) ?_
      refine QL.nil ?_
      intro w469 hE470
      have hb471 : Ext w w469 := Ext.trans hb317 hE470
      have hL472 : w.heap.size ≤ w469.heap.size := Nat.le_trans hL318 hE470.size
      have hS473 : SH w469 w.heap.size [aOwn fStr 9 a303 c304 ([[105, 110, 110, 101, 114, 45, 116, 111, 101], [111, 117, 116, 101, 114, 45, 116, 111, 101], [105, 110, 110, 101, 114, 45, 104, 101, 101, 108], [111, 117, 116, 101, 114, 45, 104, 101, 101, 108]] : List (List UInt8)), aBox 34 b100 [.int .i64 x84.2.1.Num, .int .i64 x84.2.1.Den], aBox 34 b92 [.int .i64 x84.1.Num, .int .i64 x84.1.Den], aOwn fInt 2 a74 c75 x72.1, aOwn fInt 2 a53 c54 x51.1, aOwn fInt 2 a41 c42 x39.1, aOwn fStr 9 a29 c30 x27.1, aOwn fStr 9 a17 c18 x15] := SH.ext hS319 hE470
      obtain rfl := Option.some.inj hm
      exact WQ.post' ⟨rfl, hb471, hL472, hS473⟩ ⟨rfl, trivial⟩
    have hm := iteT hm hc449
    refine QL.step1v 189 (.pointer (some ⟨b100, 1, none⟩)) rfl (fun _ => by kernel_rfl) ?_
    refine QL.subk [3, 15, 188, 189] [(3, .slice a17 x15.length c18), (15, .pointer (some ⟨b100, 0, none⟩)), (188, .bool true), (189, .pointer (some ⟨b100, 1, none⟩))] (by kernel_rfl) ?_
    refine QL.st (.int .i64 x84.2.1.Den) (ST.load (cell_ext (SH.boxAt (SH.front 1 hS319) 1 _ rfl)) rfl rfl Try.underlying2 rfl) rfl rfl rfl ?_
    refine QL.step1v 191 (.bool (decide (x84.2.1.Den ≤ 1000))) rfl (fun _ => by kernel_rfl) ?_
    refine QL.step1v 192 (.bool (decide (x84.2.1.Den ≤ 1000))) rfl (fun _ => by kernel_rfl) ?_
    refine QL.step1v 193 (.bool (decide (x84.2.1.Den ≤ 1000))) rfl (fun _ => by kernel_rfl) ?_
    refine QL.subk [3, 15, 193] [(3, .slice a17 x15.length c18), (15, .pointer (some ⟨b100, 0, none⟩)), (193, .bool (decide (x84.2.1.Den ≤ 1000)))] (by kernel_rfl) ?_
    refine QL.case (decide (x84.2.1.Den ≤ 1000)) [193] ⟨rfl, trivial⟩ (fun hc450 => ?_) (fun hc450 => ?_)
    rotate_left
    · have hm := iteF hm hc450
      refine QL.step1v 194 undef rfl (fun _ => by kernel_rfl) ?_
      refine QL.step1v 195 undef rfl (fun _ => by kernel_rfl) ?_
      refine QL.step1v 196 undef rfl (fun _ => by kernel_rfl) ?_
      refine QL.step1v 197 (.bool false) rfl (fun _ => by kernel_rfl) ?_
      refine QL.step1v 198 (.bool false) rfl (fun _ => by kernel_rfl) ?_
      refine QL.step1v 199 undef rfl (fun _ => by kernel_rfl) ?_
      refine QL.step1v 200 undef rfl (fun _ => by kernel_rfl) ?_
      refine QL.step1v 201 undef rfl (fun _ => by kernel_rfl) ?_
      refine QL.step1v 202 undef rfl (fun _ => by kernel_rfl) ?_
      refine QL.step1v 203 undef rfl (fun _ => by kernel_rfl) ?_
      refine QL.step1v 204 undef rfl (fun _ => by kernel_rfl) ?_
      refine QL.step1v 205 undef rfl (fun _ => by kernel_rfl) ?_
      refine QL.step1v 206 undef rfl (fun _ => by kernel_rfl) ?_
      refine QL.step1v 207 undef rfl (fun _ => by kernel_rfl) ?_
      refine QL.step1v 208 undef rfl (fun _ => by kernel_rfl) ?_
      refine QL.step1v 209 undef rfl (fun _ => by kernel_rfl) ?_
      refine QL.step1v 210 (.bool false) rfl (fun _ => by kernel_rfl) ?_
      refine QL.step1v 2 (.bool false) rfl (fun _ => by kernel_rfl) ?_
      refine QL.subk [2] [(2, .bool false)] (by kernel_rfl) ?_
      refine QL.nil ?_
      intro w464 hE465
      have hb466 : Ext w w464 := Ext.trans hb317 hE465
      have hL467 : w.heap.size ≤ w464.heap.size := Nat.le_trans hL318 hE465.size
      have hS468 : SH w464 w.heap.size [aOwn fStr 9 a303 c304 ([[105, 110, 110, 101, 114, 45, 116, 111, 101], [111, 117, 116, 101, 114, 45, 116, 111, 101], [105, 110, 110, 101, 114, 45, 104, 101, 101, 108], [111, 117, 116, 101, 114, 45, 104, 101, 101, 108]] : List (List UInt8)), aBox 34 b100 [.int .i64 x84.2.1.Num, .int .i64 x84.2.1.Den], aBox 34 b92 [.int .i64 x84.1.Num, .int .i64 x84.1.Den], aOwn fInt 2 a74 c75 x72.1, aOwn fInt 2 a53 c54 x51.1, aOwn fInt 2 a41 c42 x39.1, aOwn fStr 9 a29 c30 x27.1, aOwn fStr 9 a17 c18 x15] := SH.ext hS319 hE465
      obtain rfl := Option.some.inj hm
      exact WQ.post' ⟨rfl, hb466, hL467, hS468⟩ ⟨rfl, trivial⟩
    have hm := iteT hm hc450
    refine QL.step1v 194 (.pointer (some ⟨b100, 0, none⟩)) rfl (fun _ => by kernel_rfl) ?_
    refine QL.subk [3, 15, 193, 194] [(3, .slice a17 x15.length c18), (15, .pointer (some ⟨b100, 0, none⟩)), (193, .bool true), (194, .pointer (some ⟨b100, 0, none⟩))] (by kernel_rfl) ?_
    refine QL.st (.int .i64 x84.2.1.Num) (ST.load (cell_ext (SH.boxAt (SH.front 1 hS319) 0 _ rfl)) rfl rfl Try.underlying2 rfl) rfl rfl rfl ?_
    refine QL.step1v 196 (.bool (decide (x84.2.1.Num ≥ 0))) rfl (fun _ => by kernel_rfl) ?_
    refine QL.step1v 197 (.bool (decide (x84.2.1.Num ≥ 0))) rfl (fun _ => by kernel_rfl) ?_
    refine QL.step1v 198 (.bool (decide (x84.2.1.Num ≥ 0))) rfl (fun _ => by kernel_rfl) ?_
    refine QL.subk [3, 15, 198] [(3, .slice a17 x15.length c18), (15, .pointer (some ⟨b100, 0, none⟩)), (198, .bool (decide (x84.2.1.Num ≥ 0)))] (by kernel_rfl) ?_
    refine QL.case (decide (x84.2.1.Num ≥ 0)) [198] ⟨rfl, trivial⟩ (fun hc451 => ?_) (fun hc451 => ?_)
    rotate_left
    · have hm := iteF hm hc451
      refine QL.step1v 199 undef rfl (fun _ => by kernel_rfl) ?_
      refine QL.step1v 200 undef rfl (fun _ => by kernel_rfl) ?_
      refine QL.step1v 201 undef rfl (fun _ => by kernel_rfl) ?_
      refine QL.step1v 202 undef rfl (fun _ => by kernel_rfl) ?_
      refine QL.step1v 203 undef rfl (fun _ => by kernel_rfl) ?_
      refine QL.step1v 204 undef rfl (fun _ => by kernel_rfl) ?_
      refine QL.step1v 205 undef rfl (fun _ => by kernel_rfl) ?_
      refine QL.step1v 206 undef rfl (fun _ => by kernel_rfl) ?_
      refine QL.step1v 207 undef rfl (fun _ => by kernel_rfl) ?_
      refine QL.step1v 208 undef rfl (fun _ => by kernel_rfl) ?_
      refine QL.step1v 209 undef rfl (fun _ => by kernel_rfl) ?_
      refine QL.step1v 210 (.bool false) rfl (fun _ => by kernel_rfl) ?_
      refine QL.step1v 2 (.bool false) rfl (fun _ => by kernel_rfl) ?_
      refine QL.subk [2] [(2, .bool false)] (by kernel_rfl) ?_
      refine QL.nil ?_
      intro w459 hE460
      have hb461 : Ext w w459 := Ext.trans hb317 hE460
      have hL462 : w.heap.size ≤ w459.heap.size := Nat.le_trans hL318 hE460.size
      have hS463 : SH w459 w.heap.size [aOwn fStr 9 a303 c304 ([[105, 110, 110, 101, 114, 45, 116, 111, 101], [111, 117, 116, 101, 114, 45, 116, 111, 101], [105, 110, 110, 101, 114, 45, 104, 101, 101, 108], [111, 117, 116, 101, 114, 45, 104, 101, 101, 108]] : List (List UInt8)), aBox 34 b100 [.int .i64 x84.2.1.Num, .int .i64 x84.2.1.Den], aBox 34 b92 [.int .i64 x84.1.Num, .int .i64 x84.1.Den], aOwn fInt 2 a74 c75 x72.1, aOwn fInt 2 a53 c54 x51.1, aOwn fInt 2 a41 c42 x39.1, aOwn fStr 9 a29 c30 x27.1, aOwn fStr 9 a17 c18 x15] := SH.ext hS319 hE460
      obtain rfl := Option.some.inj hm
      exact WQ.post' ⟨rfl, hb461, hL462, hS463⟩ ⟨rfl, trivial⟩
    have hm := iteT hm hc451
    refine QL.step1v 199 (.pointer (some ⟨b100, 0, none⟩)) rfl (fun _ => by kernel_rfl) ?_
    refine QL.subk [3, 15, 198, 199] [(3, .slice a17 x15.length c18), (15, .pointer (some ⟨b100, 0, none⟩)), (198, .bool true), (199, .pointer (some ⟨b100, 0, none⟩))] (by kernel_rfl) ?_
    refine QL.st (.int .i64 x84.2.1.Num) (ST.load (cell_ext (SH.boxAt (SH.front 1 hS319) 0 _ rfl)) rfl rfl Try.underlying2 rfl) rfl rfl rfl ?_
    refine QL.step1v 201 (.slice a17 x15.length c18) rfl (fun _ => by kernel_rfl) ?_
    refine QL.subk [15, 198, 200, 201] [(15, .pointer (some ⟨b100, 0, none⟩)), (198, .bool true), (200, .int .i64 x84.2.1.Num), (201, .slice a17 x15.length c18)] (by kernel_rfl) ?_
    obtain ⟨x452, hx453, hm⟩ := bindE hm
    refine QL.st (.pointer (some (at_ a17 (Int.toNat 0 * 1)))) (ST.index (T := fStr.ty) (xs := x15) (SH.rd (SH.front 7 hS319)) hx453 rfl rfl rfl Try.underlying22 (info9).1 (info9).2.1) rfl rfl rfl ?_
    refine QL.st (.string (bs x452)) (ST.load (cell_ext (Rd.flat (F := fStr) (SH.rd (SH.front 7 hS319)) hx453 0 rfl)) rfl rfl Try.underlying9 rfl) rfl rfl rfl ?_
    refine QL.step1v 204 (.int .i64 (x452.length : Int)) rfl (fun _ => by kernel_rfl) ?_
    refine QL.step1v 205 (.int .i64 (wI64 ((x452.length : Int) - 1))) rfl (fun _ => by kernel_rfl) ?_
    refine QL.step1v 206 (.pointer (some ⟨b100, 1, none⟩)) rfl (fun _ => by kernel_rfl) ?_
    refine QL.subk [198, 200, 205, 206] [(198, .bool true), (200, .int .i64 x84.2.1.Num), (205, .int .i64 (wI64 ((x452.length : Int) - 1))), (206, .pointer (some ⟨b100, 1, none⟩))] (by kernel_rfl) ?_
    refine QL.st (.int .i64 x84.2.1.Den) (ST.load (cell_ext (SH.boxAt (SH.front 1 hS319) 1 _ rfl)) rfl rfl Try.underlying2 rfl) rfl rfl rfl ?_
    refine QL.step1v 208 (.int .i64 (wI64 ((wI64 ((x452.length : Int) - 1)) * x84.2.1.Den))) rfl (fun _ => by kernel_rfl) ?_
    refine QL.step1v 209 (.bool (decide (x84.2.1.Num ≤ (wI64 ((wI64 ((x452.length : Int) - 1)) * x84.2.1.Den))))) rfl (fun _ => by kernel_rfl) ?_
    refine QL.step1v 210 (.bool (decide (x84.2.1.Num ≤ (wI64 ((wI64 ((x452.length : Int) - 1)) * x84.2.1.Den))))) rfl (fun _ => by kernel_rfl) ?_
    refine QL.step1v 2 (.bool (decide (x84.2.1.Num ≤ (wI64 ((wI64 ((x452.length : Int) - 1)) * x84.2.1.Den))))) rfl (fun _ => by kernel_rfl) ?_
    refine QL.subk [2] [(2, .bool (decide (x84.2.1.Num ≤ (wI64 ((wI64 ((x452.length : Int) - 1)) * x84.2.1.Den)))))] (by kernel_rfl) ?_
    refine QL.nil ?_
    intro w454 hE455
    have hb456 : Ext w w454 := Ext.trans hb317 hE455
    have hL457 : w.heap.size ≤ w454.heap.size := Nat.le_trans hL318 hE455.size
    have hS458 : SH w454 w.heap.size [aOwn fStr 9 a303 c304 ([[105, 110, 110, 101, 114, 45, 116, 111, 101], [111, 117, 116, 101, 114, 45, 116, 111, 101], [105, 110, 110, 101, 114, 45, 104, 101, 101, 108], [111, 117, 116, 101, 114, 45, 104, 101, 101, 108]] : List (List UInt8)), aBox 34 b100 [.int .i64 x84.2.1.Num, .int .i64 x84.2.1.Den], aBox 34 b92 [.int .i64 x84.1.Num, .int .i64 x84.1.Den], aOwn fInt 2 a74 c75 x72.1, aOwn fInt 2 a53 c54 x51.1, aOwn fInt 2 a41 c42 x39.1, aOwn fStr 9 a29 c30 x27.1, aOwn fStr 9 a17 c18 x15] := SH.ext hS319 hE455
    obtain rfl := Option.some.inj hm
    exact WQ.post' ⟨rfl, hb456, hL457, hS458⟩ ⟨rfl, trivial⟩
  have hm := hx208; clear hx208
  refine WP.quiet (by kernel_rfl) (by kernel_rfl) ?_
  refine QL.step1v 56 (.int .i64 x27.2) rfl (fun _ => by kernel_rfl) ?_
  refine QL.step1v 57 (.bool (x27.2 != 0)) rfl (fun _ => by kernel_rfl) ?_
  refine QL.step1v 58 (.bool (x27.2 != 0)) rfl (fun _ => by kernel_rfl) ?_
  refine QL.subk [3, 6, 7, 8, 9, 10, 11, 12, 13, 14, 15, 16, 58] [(3, .slice a17 x15.length c18), (6, .slice a41 x39.1.length c42), (7, .int .i64 x39.2), (8, .slice a53 x51.1.length c54), (9, .int .i64 x51.2), (10, .string (bs x63.1)), (11, .int .i64 x63.2), (12, .slice a74 x72.1.length c75), (13, .int .i64 x72.2), (14, .pointer (some ⟨b92, 0, none⟩)), (15, .pointer (some ⟨b100, 0, none⟩)), (16, .int .i64 x84.2.2), (58, .bool (x27.2 != 0))] (by kernel_rfl) ?_
  refine QL.case (x27.2 != 0) [58] ⟨rfl, trivial⟩ (fun hc209 => ?_) (fun hc209 => ?_)
  · have hm := iteT hm hc209
    refine QL.step1v 59 undef rfl (fun _ => by kernel_rfl) ?_
    refine QL.step1v 60 undef rfl (fun _ => by kernel_rfl) ?_
    refine QL.step1v 61 (.bool true) rfl (fun _ => by kernel_rfl) ?_
    refine QL.step1v 62 (.bool true) rfl (fun _ => by kernel_rfl) ?_
    refine QL.step1v 63 undef rfl (fun _ => by kernel_rfl) ?_
    refine QL.step1v 64 undef rfl (fun _ => by kernel_rfl) ?_
    refine QL.step1v 65 (.bool true) rfl (fun _ => by kernel_rfl) ?_
    refine QL.step1v 66 (.bool true) rfl (fun _ => by kernel_rfl) ?_
    refine QL.step1v 67 undef rfl (fun _ => by kernel_rfl) ?_
    refine QL.step1v 68 undef rfl (fun _ => by kernel_rfl) ?_
    refine QL.step1v 69 undef rfl (fun _ => by kernel_rfl) ?_
    refine QL.step1v 70 (.bool true) rfl (fun _ => by kernel_rfl) ?_
    refine QL.step1v 71 (.bool true) rfl (fun _ => by kernel_rfl) ?_
    refine QL.step1v 72 undef rfl (fun _ => by kernel_rfl) ?_
    refine QL.step1v 73 undef rfl (fun _ => by kernel_rfl) ?_
    refine QL.step1v 74 undef rfl (fun _ => by kernel_rfl) ?_
    refine QL.step1v 75 (.bool true) rfl (fun _ => by kernel_rfl) ?_
    refine QL.step1v 76 (.bool true) rfl (fun _ => by kernel_rfl) ?_
    refine QL.step1v 77 undef rfl (fun _ => by kernel_rfl) ?_
    refine QL.step1v 78 undef rfl (fun _ => by kernel_rfl) ?_
    refine QL.step1v 79 undef rfl (fun _ => by kernel_rfl) ?_
    refine QL.step1v 80 undef rfl (fun _ => by kernel_rfl) ?_
    refine QL.step1v 81 undef rfl (fun _ => by kernel_rfl) ?_
    refine QL.step1v 82 undef rfl (fun _ => by kernel_rfl) ?_
    refine QL.step1v 83 undef rfl (fun _ => by kernel_rfl) ?_
    refine QL.step1v 84 (.bool true) rfl (fun _ => by kernel_rfl) ?_
    refine QL.step1v 85 (.bool true) rfl (fun _ => by kernel_rfl) ?_
    refine QL.step1v 86 undef rfl (fun _ => by kernel_rfl) ?_
    refine QL.step1v 87 undef rfl (fun _ => by kernel_rfl) ?_
    refine QL.step1v 88 undef rfl (fun _ => by kernel_rfl) ?_
    refine QL.step1v 89 undef rfl (fun _ => by kernel_rfl) ?_
    refine QL.step1v 90 undef rfl (fun _ => by kernel_rfl) ?_
    refine QL.step1v 91 undef rfl (fun _ => by kernel_rfl) ?_
    refine QL.step1v 92 undef rfl (fun _ => by kernel_rfl) ?_
    refine QL.step1v 93 (.bool true) rfl (fun _ => by kernel_rfl) ?_
    refine QL.step1v 94 (.bool true) rfl (fun _ => by kernel_rfl) ?_
    refine QL.step1v 95 undef rfl (fun _ => by kernel_rfl) ?_
    refine QL.step1v 96 undef rfl (fun _ => by kernel_rfl) ?_
    refine QL.step1v 97 undef rfl (fun _ => by kernel_rfl) ?_
    refine QL.step1v 98 undef rfl (fun _ => by kernel_rfl) ?_
    refine QL.step1v 99 undef rfl (fun _ => by kernel_rfl) ?_
    refine QL.step1v 100 undef rfl (fun _ => by kernel_rfl) ?_
    refine QL.step1v 101 undef rfl (fun _ => by kernel_rfl) ?_
    refine QL.step1v 102 (.bool true) rfl (fun _ => by kernel_rfl) ?_
    refine QL.step1v 103 (.bool true) rfl (fun _ => by kernel_rfl) ?_
    refine QL.step1v 104 undef rfl (fun _ => by kernel_rfl) ?_
    refine QL.step1v 105 undef rfl (fun _ => by kernel_rfl) ?_
    refine QL.step1v 106 undef rfl (fun _ => by kernel_rfl) ?_
    refine QL.step1v 107 undef rfl (fun _ => by kernel_rfl) ?_
    refine QL.step1v 108 undef rfl (fun _ => by kernel_rfl) ?_
    refine QL.step1v 109 undef rfl (fun _ => by kernel_rfl) ?_
    refine QL.step1v 110 undef rfl (fun _ => by kernel_rfl) ?_
    refine QL.step1v 111 (.bool true) rfl (fun _ => by kernel_rfl) ?_
    refine QL.step1v 112 (.bool true) rfl (fun _ => by kernel_rfl) ?_
    refine QL.step1v 113 undef rfl (fun _ => by kernel_rfl) ?_
    refine QL.step1v 114 undef rfl (fun _ => by kernel_rfl) ?_
    refine QL.step1v 115 (.bool true) rfl (fun _ => by kernel_rfl) ?_
    refine QL.step1v 116 (.bool true) rfl (fun _ => by kernel_rfl) ?_
    refine QL.step1v 117 undef rfl (fun _ => by kernel_rfl) ?_
    refine QL.step1v 118 undef rfl (fun _ => by kernel_rfl) ?_
    refine QL.step1v 119 (.bool true) rfl (fun _ => by kernel_rfl) ?_
    refine QL.step1v 120 (.bool true) rfl (fun _ => by kernel_rfl) ?_
    refine QL.step1v 121 undef rfl (fun _ => by kernel_rfl) ?_
    refine QL.step1v 122 undef rfl (fun _ => by kernel_rfl) ?_
    refine QL.step1v 123 undef rfl (fun _ => by kernel_rfl) ?_
    refine QL.step1v 124 (.bool true) rfl (fun _ => by kernel_rfl) ?_
    refine QL.subk [3, 6, 10, 14, 15, 16, 124] [(3, .slice a17 x15.length c18), (6, .slice a41 x39.1.length c42), (10, .string (bs x63.1)), (14, .pointer (some ⟨b92, 0, none⟩)), (15, .pointer (some ⟨b100, 0, none⟩)), (16, .int .i64 x84.2.2), (124, .bool true)] (by kernel_rfl) ?_
    refine QL.nil ?_
    intro w210 hE211
    have hb212 : Ext w w210 := Ext.trans hb116 hE211
    have hL213 : w.heap.size ≤ w210.heap.size := Nat.le_trans hL117 hE211.size
    have hS214 : SH w210 w.heap.size [aBox 34 b100 [.int .i64 x84.2.1.Num, .int .i64 x84.2.1.Den], aBox 34 b92 [.int .i64 x84.1.Num, .int .i64 x84.1.Den], aOwn fInt 2 a74 c75 x72.1, aOwn fInt 2 a53 c54 x51.1, aOwn fInt 2 a41 c42 x39.1, aOwn fStr 9 a29 c30 x27.1, aOwn fStr 9 a17 c18 x15] := SH.ext hS115 hE211
    obtain rfl := Option.some.inj hm
    exact WQ.post' ⟨rfl, hb212, hL213, hS214⟩ ⟨rfl, rfl, rfl, rfl, rfl, rfl, rfl, trivial⟩
  have hm := iteF hm hc209
  refine QL.step1v 59 (.int .i64 x39.2) rfl (fun _ => by kernel_rfl) ?_
  refine QL.step1v 60 (.bool (x39.2 != 0)) rfl (fun _ => by kernel_rfl) ?_
  refine QL.step1v 61 (.bool (x39.2 != 0)) rfl (fun _ => by kernel_rfl) ?_
  refine QL.step1v 62 (.bool (x39.2 != 0)) rfl (fun _ => by kernel_rfl) ?_
  refine QL.subk [3, 6, 8, 9, 10, 11, 12, 13, 14, 15, 16, 62] [(3, .slice a17 x15.length c18), (6, .slice a41 x39.1.length c42), (8, .slice a53 x51.1.length c54), (9, .int .i64 x51.2), (10, .string (bs x63.1)), (11, .int .i64 x63.2), (12, .slice a74 x72.1.length c75), (13, .int .i64 x72.2), (14, .pointer (some ⟨b92, 0, none⟩)), (15, .pointer (some ⟨b100, 0, none⟩)), (16, .int .i64 x84.2.2), (62, .bool (x39.2 != 0))] (by kernel_rfl) ?_
  refine QL.case (x39.2 != 0) [62] ⟨rfl, trivial⟩ (fun hc215 => ?_) (fun hc215 => ?_)
  · have hm := iteT hm hc215
    refine QL.step1v 63 undef rfl (fun _ => by kernel_rfl) ?_
    refine QL.step1v 64 undef rfl (fun _ => by kernel_rfl) ?_
    refine QL.step1v 65 (.bool true) rfl (fun _ => by kernel_rfl) ?_
    refine QL.step1v 66 (.bool true) rfl (fun _ => by kernel_rfl) ?_
    refine QL.step1v 67 undef rfl (fun _ => by kernel_rfl) ?_
    refine QL.step1v 68 undef rfl (fun _ => by kernel_rfl) ?_
    refine QL.step1v 69 undef rfl (fun _ => by kernel_rfl) ?_
    refine QL.step1v 70 (.bool true) rfl (fun _ => by kernel_rfl) ?_
    refine QL.step1v 71 (.bool true) rfl (fun _ => by kernel_rfl) ?_
    refine QL.step1v 72 undef rfl (fun _ => by kernel_rfl) ?_
    refine QL.step1v 73 undef rfl (fun _ => by kernel_rfl) ?_
    refine QL.step1v 74 undef rfl (fun _ => by kernel_rfl) ?_
    refine QL.step1v 75 (.bool true) rfl (fun _ => by kernel_rfl) ?_
    refine QL.step1v 76 (.bool true) rfl (fun _ => by kernel_rfl) ?_
    refine QL.step1v 77 undef rfl (fun _ => by kernel_rfl) ?_
    refine QL.step1v 78 undef rfl (fun _ => by kernel_rfl) ?_
    refine QL.step1v 79 undef rfl (fun _ => by kernel_rfl) ?_
    refine QL.step1v 80 undef rfl (fun _ => by kernel_rfl) ?_
    refine QL.step1v 81 undef rfl (fun _ => by kernel_rfl) ?_
    refine QL.step1v 82 undef rfl (fun _ => by kernel_rfl) ?_
    refine QL.step1v 83 undef rfl (fun _ => by kernel_rfl) ?_
    refine QL.step1v 84 (.bool true) rfl (fun _ => by kernel_rfl) ?_
    refine QL.step1v 85 (.bool true) rfl (fun _ => by kernel_rfl) ?_
    refine QL.step1v 86 undef rfl (fun _ => by kernel_rfl) ?_
    refine QL.step1v 87 undef rfl (fun _ => by kernel_rfl) ?_
    refine QL.step1v 88 undef rfl (fun _ => by kernel_rfl) ?_
    refine QL.step1v 89 undef rfl (fun _ => by kernel_rfl) ?_
    refine QL.step1v 90 undef rfl (fun _ => by kernel_rfl) ?_
    refine QL.step1v 91 undef rfl (fun _ => by kernel_rfl) ?_
    refine QL.step1v 92 undef rfl (fun _ => by kernel_rfl) ?_
    refine QL.step1v 93 (.bool true) rfl (fun _ => by kernel_rfl) ?_
    refine QL.step1v 94 (.bool true) rfl (fun _ => by kernel_rfl) ?_
    refine QL.step1v 95 undef rfl (fun _ => by kernel_rfl) ?_
    refine QL.step1v 96 undef rfl (fun _ => by kernel_rfl) ?_
    refine QL.step1v 97 undef rfl (fun _ => by kernel_rfl) ?_
    refine QL.step1v 98 undef rfl (fun _ => by kernel_rfl) ?_
    refine QL.step1v 99 undef rfl (fun _ => by kernel_rfl) ?_
    refine QL.step1v 100 undef rfl (fun _ => by kernel_rfl) ?_
    refine QL.step1v 101 undef rfl (fun _ => by kernel_rfl) ?_
    refine QL.step1v 102 (.bool true) rfl (fun _ => by kernel_rfl) ?_
    refine QL.step1v 103 (.bool true) rfl (fun _ => by kernel_rfl) ?_
    refine QL.step1v 104 undef rfl (fun _ => by kernel_rfl) ?_
    refine QL.step1v 105 undef rfl (fun _ => by kernel_rfl) ?_
    refine QL.step1v 106 undef rfl (fun _ => by kernel_rfl) ?_
    refine QL.step1v 107 undef rfl (fun _ => by kernel_rfl) ?_
    refine QL.step1v 108 undef rfl (fun _ => by kernel_rfl) ?_
    refine QL.step1v 109 undef rfl (fun _ => by kernel_rfl) ?_
    refine QL.step1v 110 undef rfl (fun _ => by kernel_rfl) ?_
    refine QL.step1v 111 (.bool true) rfl (fun _ => by kernel_rfl) ?_
    refine QL.step1v 112 (.bool true) rfl (fun _ => by kernel_rfl) ?_
    refine QL.step1v 113 undef rfl (fun _ => by kernel_rfl) ?_
    refine QL.step1v 114 undef rfl (fun _ => by kernel_rfl) ?_
    refine QL.step1v 115 (.bool true) rfl (fun _ => by kernel_rfl) ?_
    refine QL.step1v 116 (.bool true) rfl (fun _ => by kernel_rfl) ?_
    refine QL.step1v 117 undef rfl (fun _ => by kernel_rfl) ?_
    refine QL.step1v 118 undef rfl (fun _ => by kernel_rfl) ?_
    refine QL.step1v 119 (.bool true) rfl (fun _ => by kernel_rfl) ?_
    refine QL.step1v 120 (.bool true) rfl (fun _ => by kernel_rfl) ?_
    refine QL.step1v 121 undef rfl (fun _ => by kernel_rfl) ?_
    refine QL.step1v 122 undef rfl (fun _ => by kernel_rfl) ?_
    refine QL.step1v 123 undef rfl (fun _ => by kernel_rfl) ?_
    refine QL.step1v 124 (.bool true) rfl (fun _ => by kernel_rfl) ?_
    refine QL.subk [3, 6, 10, 14, 15, 16, 124] [(3, .slice a17 x15.length c18), (6, .slice a41 x39.1.length c42), (10, .string (bs x63.1)), (14, .pointer (some ⟨b92, 0, none⟩)), (15, .pointer (some ⟨b100, 0, none⟩)), (16, .int .i64 x84.2.2), (124, .bool true)] (by kernel_rfl) ?_
    refine QL.nil ?_
    intro w216 hE217
    have hb218 : Ext w w216 := Ext.trans hb116 hE217
    have hL219 : w.heap.size ≤ w216.heap.size := Nat.le_trans hL117 hE217.size
    have hS220 : SH w216 w.heap.size [aBox 34 b100 [.int .i64 x84.2.1.Num, .int .i64 x84.2.1.Den], aBox 34 b92 [.int .i64 x84.1.Num, .int .i64 x84.1.Den], aOwn fInt 2 a74 c75 x72.1, aOwn fInt 2 a53 c54 x51.1, aOwn fInt 2 a41 c42 x39.1, aOwn fStr 9 a29 c30 x27.1, aOwn fStr 9 a17 c18 x15] := SH.ext hS115 hE217
    obtain rfl := Option.some.inj hm
    exact WQ.post' ⟨rfl, hb218, hL219, hS220⟩ ⟨rfl, rfl, rfl, rfl, rfl, rfl, rfl, trivial⟩
  have hm := iteF hm hc215
  refine QL.step1v 63 (.int .i64 x51.2) rfl (fun _ => by kernel_rfl) ?_
  refine QL.step1v 64 (.bool (x51.2 != 0)) rfl (fun _ => by kernel_rfl) ?_
  refine QL.step1v 65 (.bool (x51.2 != 0)) rfl (fun _ => by kernel_rfl) ?_
  refine QL.step1v 66 (.bool (x51.2 != 0)) rfl (fun _ => by kernel_rfl) ?_
  refine QL.subk [3, 6, 8, 10, 11, 12, 13, 14, 15, 16, 66] [(3, .slice a17 x15.length c18), (6, .slice a41 x39.1.length c42), (8, .slice a53 x51.1.length c54), (10, .string (bs x63.1)), (11, .int .i64 x63.2), (12, .slice a74 x72.1.length c75), (13, .int .i64 x72.2), (14, .pointer (some ⟨b92, 0, none⟩)), (15, .pointer (some ⟨b100, 0, none⟩)), (16, .int .i64 x84.2.2), (66, .bool (x51.2 != 0))] (by kernel_rfl) ?_
  refine QL.case (x51.2 != 0) [66] ⟨rfl, trivial⟩ (fun hc221 => ?_) (fun hc221 => ?_)
  · have hm := iteT hm hc221
    refine QL.step1v 67 undef rfl (fun _ => by kernel_rfl) ?_
    refine QL.step1v 68 undef rfl (fun _ => by kernel_rfl) ?_
    refine QL.step1v 69 undef rfl (fun _ => by kernel_rfl) ?_
    refine QL.step1v 70 (.bool true) rfl (fun _ => by kernel_rfl) ?_
    refine QL.step1v 71 (.bool true) rfl (fun _ => by kernel_rfl) ?_
    refine QL.step1v 72 undef rfl (fun _ => by kernel_rfl) ?_
    refine QL.step1v 73 undef rfl (fun _ => by kernel_rfl) ?_
    refine QL.step1v 74 undef rfl (fun _ => by kernel_rfl) ?_
    refine QL.step1v 75 (.bool true) rfl (fun _ => by kernel_rfl) ?_
    refine QL.step1v 76 (.bool true) rfl (fun _ => by kernel_rfl) ?_
    refine QL.step1v 77 undef rfl (fun _ => by kernel_rfl) ?_
    refine QL.step1v 78 undef rfl (fun _ => by kernel_rfl) ?_
    refine QL.step1v 79 undef rfl (fun _ => by kernel_rfl) ?_
    refine QL.step1v 80 undef rfl (fun _ => by kernel_rfl) ?_
    refine QL.step1v 81 undef rfl (fun _ => by kernel_rfl) ?_
    refine QL.step1v 82 undef rfl (fun _ => by kernel_rfl) ?_
    refine QL.step1v 83 undef rfl (fun _ => by kernel_rfl) ?_
    refine QL.step1v 84 (.bool true) rfl (fun _ => by kernel_rfl) ?_
    refine QL.step1v 85 (.bool true) rfl (fun _ => by kernel_rfl) ?_
    refine QL.step1v 86 undef rfl (fun _ => by kernel_rfl) ?_
    refine QL.step1v 87 undef rfl (fun _ => by kernel_rfl) ?_
    refine QL.step1v 88 undef rfl (fun _ => by kernel_rfl) ?_
    refine QL.step1v 89 undef rfl (fun _ => by kernel_rfl) ?_
    refine QL.step1v 90 undef rfl (fun _ => by kernel_rfl) ?_
    refine QL.step1v 91 undef rfl (fun _ => by kernel_rfl) ?_
    refine QL.step1v 92 undef rfl (fun _ => by kernel_rfl) ?_
    refine QL.step1v 93 (.bool true) rfl (fun _ => by kernel_rfl) ?_
    refine QL.step1v 94 (.bool true) rfl (fun _ => by kernel_rfl) ?_
    refine QL.step1v 95 undef rfl (fun _ => by kernel_rfl) ?_
    refine QL.step1v 96 undef rfl (fun _ => by kernel_rfl) ?_
    refine QL.step1v 97 undef rfl (fun _ => by kernel_rfl) ?_
    refine QL.step1v 98 undef rfl (fun _ => by kernel_rfl) ?_
    refine QL.step1v 99 undef rfl (fun _ => by kernel_rfl) ?_
    refine QL.step1v 100 undef rfl (fun _ => by kernel_rfl) ?_
    refine QL.step1v 101 undef rfl (fun _ => by kernel_rfl) ?_
    refine QL.step1v 102 (.bool true) rfl (fun _ => by kernel_rfl) ?_
    refine QL.step1v 103 (.bool true) rfl (fun _ => by kernel_rfl) ?_
    refine QL.step1v 104 undef rfl (fun _ => by kernel_rfl) ?_
    refine QL.step1v 105 undef rfl (fun _ => by kernel_rfl) ?_
    refine QL.step1v 106 undef rfl (fun _ => by kernel_rfl) ?_
    refine QL.step1v 107 undef rfl (fun _ => by kernel_rfl) ?_
    refine QL.step1v 108 undef rfl (fun _ => by kernel_rfl) ?_
    refine QL.step1v 109 undef rfl (fun _ => by kernel_rfl) ?_
    refine QL.step1v 110 undef rfl (fun _ => by kernel_rfl) ?_
    refine QL.step1v 111 (.bool true) rfl (fun _ => by kernel_rfl) ?_
    refine QL.step1v 112 (.bool true) rfl (fun _ => by kernel_rfl) ?_
    refine QL.step1v 113 undef rfl (fun _ => by kernel_rfl) ?_
    refine QL.step1v 114 undef rfl (fun _ => by kernel_rfl) ?_
    refine QL.step1v 115 (.bool true) rfl (fun _ => by kernel_rfl) ?_
    refine QL.step1v 116 (.bool true) rfl (fun _ => by kernel_rfl) ?_
    refine QL.step1v 117 undef rfl (fun _ => by kernel_rfl) ?_
    refine QL.step1v 118 undef rfl (fun _ => by kernel_rfl) ?_
    refine QL.step1v 119 (.bool true) rfl (fun _ => by kernel_rfl) ?_
    refine QL.step1v 120 (.bool true) rfl (fun _ => by kernel_rfl) ?_
    refine QL.step1v 121 undef rfl (fun _ => by kernel_rfl) ?_
    refine QL.step1v 122 undef rfl (fun _ => by kernel_rfl) ?_
    refine QL.step1v 123 undef rfl (fun _ => by kernel_rfl) ?_
    refine QL.step1v 124 (.bool true) rfl (fun _ => by kernel_rfl) ?_
    refine QL.subk [3, 6, 10, 14, 15, 16, 124] [(3, .slice a17 x15.length c18), (6, .slice a41 x39.1.length c42), (10, .string (bs x63.1)), (14, .pointer (some ⟨b92, 0, none⟩)), (15, .pointer (some ⟨b100, 0, none⟩)), (16, .int .i64 x84.2.2), (124, .bool true)] (by kernel_rfl) ?_
    refine QL.nil ?_
    intro w222 hE223
    have hb224 : Ext w w222 := Ext.trans hb116 hE223
    have hL225 : w.heap.size ≤ w222.heap.size := Nat.le_trans hL117 hE223.size
    have hS226 : SH w222 w.heap.size [aBox 34 b100 [.int .i64 x84.2.1.Num, .int .i64 x84.2.1.Den], aBox 34 b92 [.int .i64 x84.1.Num, .int .i64 x84.1.Den], aOwn fInt 2 a74 c75 x72.1, aOwn fInt 2 a53 c54 x51.1, aOwn fInt 2 a41 c42 x39.1, aOwn fStr 9 a29 c30 x27.1, aOwn fStr 9 a17 c18 x15] := SH.ext hS115 hE223
    obtain rfl := Option.some.inj hm
    exact WQ.post' ⟨rfl, hb224, hL225, hS226⟩ ⟨rfl, rfl, rfl, rfl, rfl, rfl, rfl, trivial⟩
  have hm := iteF hm hc221
  refine QL.step1v 67 (.slice a41 x39.1.length c42) rfl (fun _ => by kernel_rfl) ?_
  refine QL.step1v 68 (.int .i64 (x39.1.length : Int)) rfl (fun _ => by kernel_rfl) ?_
  refine QL.step1v 69 (.bool ((x39.1.length : Int) != 4)) rfl (fun _ => by kernel_rfl) ?_
  refine QL.step1v 70 (.bool ((x39.1.length : Int) != 4)) rfl (fun _ => by kernel_rfl) ?_
  refine QL.step1v 71 (.bool ((x39.1.length : Int) != 4)) rfl (fun _ => by kernel_rfl) ?_
  refine QL.subk [3, 6, 8, 10, 11, 12, 13, 14, 15, 16, 71] [(3, .slice a17 x15.length c18), (6, .slice a41 x39.1.length c42), (8, .slice a53 x51.1.length c54), (10, .string (bs x63.1)), (11, .int .i64 x63.2), (12, .slice a74 x72.1.length c75), (13, .int .i64 x72.2), (14, .pointer (some ⟨b92, 0, none⟩)), (15, .pointer (some ⟨b100, 0, none⟩)), (16, .int .i64 x84.2.2), (71, .bool ((x39.1.length : Int) != 4))] (by kernel_rfl) ?_
  refine QL.case ((x39.1.length : Int) != 4) [71] ⟨rfl, trivial⟩ (fun hc227 => ?_) (fun hc227 => ?_)
  · have hm := iteT hm hc227
    refine QL.step1v 72 undef rfl (fun _ => by kernel_rfl) ?_
    refine QL.step1v 73 undef rfl (fun _ => by kernel_rfl) ?_
    refine QL.step1v 74 undef rfl (fun _ => by kernel_rfl) ?_
    refine QL.step1v 75 (.bool true) rfl (fun _ => by kernel_rfl) ?_
    refine QL.step1v 76 (.bool true) rfl (fun _ => by kernel_rfl) ?_
    refine QL.step1v 77 undef rfl (fun _ => by kernel_rfl) ?_
    refine QL.step1v 78 undef rfl (fun _ => by kernel_rfl) ?_
    refine QL.step1v 79 undef rfl (fun _ => by kernel_rfl) ?_
    refine QL.step1v 80 undef rfl (fun _ => by kernel_rfl) ?_
    refine QL.step1v 81 undef rfl (fun _ => by kernel_rfl) ?_
    refine QL.step1v 82 undef rfl (fun _ => by kernel_rfl) ?_
    refine QL.step1v 83 undef rfl (fun _ => by kernel_rfl) ?_
    refine QL.step1v 84 (.bool true) rfl (fun _ => by kernel_rfl) ?_
    refine QL.step1v 85 (.bool true) rfl (fun _ => by kernel_rfl) ?_
    refine QL.step1v 86 undef rfl (fun _ => by kernel_rfl) ?_
    refine QL.step1v 87 undef rfl (fun _ => by kernel_rfl) ?_
    refine QL.step1v 88 undef rfl (fun _ => by kernel_rfl) ?_
    refine QL.step1v 89 undef rfl (fun _ => by kernel_rfl) ?_
    refine QL.step1v 90 undef rfl (fun _ => by kernel_rfl) ?_
    refine QL.step1v 91 undef rfl (fun _ => by kernel_rfl) ?_
    refine QL.step1v 92 undef rfl (fun _ => by kernel_rfl) ?_
    refine QL.step1v 93 (.bool true) rfl (fun _ => by kernel_rfl) ?_
    refine QL.step1v 94 (.bool true) rfl (fun _ => by kernel_rfl) ?_
    refine QL.step1v 95 undef rfl (fun _ => by kernel_rfl) ?_
    refine QL.step1v 96 undef rfl (fun _ => by kernel_rfl) ?_
    refine QL.step1v 97 undef rfl (fun _ => by kernel_rfl) ?_
    refine QL.step1v 98 undef rfl (fun _ => by kernel_rfl) ?_
    refine QL.step1v 99 undef rfl (fun _ => by kernel_rfl) ?_
    refine QL.step1v 100 undef rfl (fun _ => by kernel_rfl) ?_
    refine QL.step1v 101 undef rfl (fun _ => by kernel_rfl) ?_
    refine QL.step1v 102 (.bool true) rfl (fun _ => by kernel_rfl) ?_
    refine QL.step1v 103 (.bool true) rfl (fun _ => by kernel_rfl) ?_
    refine QL.step1v 104 undef rfl (fun _ => by kernel_rfl) ?_
    refine QL.step1v 105 undef rfl (fun _ => by kernel_rfl) ?_
    refine QL.step1v 106 undef rfl (fun _ => by kernel_rfl) ?_
    refine QL.step1v 107 undef rfl (fun _ => by kernel_rfl) ?_
    refine QL.step1v 108 undef rfl (fun _ => by kernel_rfl) ?_
    refine QL.step1v 109 undef rfl (fun _ => by kernel_rfl) ?_
    refine QL.step1v 110 undef rfl (fun _ => by kernel_rfl) ?_
    refine QL.step1v 111 (.bool true) rfl (fun _ => by kernel_rfl) ?_
    refine QL.step1v 112 (.bool true) rfl (fun _ => by kernel_rfl) ?_
    refine QL.step1v 113 undef rfl (fun _ => by kernel_rfl) ?_
    refine QL.step1v 114 undef rfl (fun _ => by kernel_rfl) ?_
    refine QL.step1v 115 (.bool true) rfl (fun _ => by kernel_rfl) ?_
    refine QL.step1v 116 (.bool true) rfl (fun _ => by kernel_rfl) ?_
    refine QL.step1v 117 undef rfl (fun _ => by kernel_rfl) ?_
    refine QL.step1v 118 undef rfl (fun _ => by kernel_rfl) ?_
    refine QL.step1v 119 (.bool true) rfl (fun _ => by kernel_rfl) ?_
    refine QL.step1v 120 (.bool true) rfl (fun _ => by kernel_rfl) ?_
    refine QL.step1v 121 undef rfl (fun _ => by kernel_rfl) ?_
    refine QL.step1v 122 undef rfl (fun _ => by kernel_rfl) ?_
    refine QL.step1v 123 undef rfl (fun _ => by kernel_rfl) ?_
    refine QL.step1v 124 (.bool true) rfl (fun _ => by kernel_rfl) ?_
    refine QL.subk [3, 6, 10, 14, 15, 16, 124] [(3, .slice a17 x15.length c18), (6, .slice a41 x39.1.length c42), (10, .string (bs x63.1)), (14, .pointer (some ⟨b92, 0, none⟩)), (15, .pointer (some ⟨b100, 0, none⟩)), (16, .int .i64 x84.2.2), (124, .bool true)] (by kernel_rfl) ?_
    refine QL.nil ?_
    intro w228 hE229
    have hb230 : Ext w w228 := Ext.trans hb116 hE229
    have hL231 : w.heap.size ≤ w228.heap.size := Nat.le_trans hL117 hE229.size
    have hS232 : SH w228 w.heap.size [aBox 34 b100 [.int .i64 x84.2.1.Num, .int .i64 x84.2.1.Den], aBox 34 b92 [.int .i64 x84.1.Num, .int .i64 x84.1.Den], aOwn fInt 2 a74 c75 x72.1, aOwn fInt 2 a53 c54 x51.1, aOwn fInt 2 a41 c42 x39.1, aOwn fStr 9 a29 c30 x27.1, aOwn fStr 9 a17 c18 x15] := SH.ext hS115 hE229
    obtain rfl := Option.some.inj hm
    exact WQ.post' ⟨rfl, hb230, hL231, hS232⟩ ⟨rfl, rfl, rfl, rfl, rfl, rfl, rfl, trivial⟩
  have hm := iteF hm hc227
  refine QL.step1v 72 (.slice a53 x51.1.length c54) rfl (fun _ => by kernel_rfl) ?_
  refine QL.step1v 73 (.int .i64 (x51.1.length : Int)) rfl (fun _ => by kernel_rfl) ?_
  refine QL.step1v 74 (.bool ((x51.1.length : Int) != 4)) rfl (fun _ => by kernel_rfl) ?_
  refine QL.step1v 75 (.bool ((x51.1.length : Int) != 4)) rfl (fun _ => by kernel_rfl) ?_
  refine QL.step1v 76 (.bool ((x51.1.length : Int) != 4)) rfl (fun _ => by kernel_rfl) ?_
  refine QL.subk [3, 6, 8, 10, 11, 12, 13, 14, 15, 16, 76] [(3, .slice a17 x15.length c18), (6, .slice a41 x39.1.length c42), (8, .slice a53 x51.1.length c54), (10, .string (bs x63.1)), (11, .int .i64 x63.2), (12, .slice a74 x72.1.length c75), (13, .int .i64 x72.2), (14, .pointer (some ⟨b92, 0, none⟩)), (15, .pointer (some ⟨b100, 0, none⟩)), (16, .int .i64 x84.2.2), (76, .bool ((x51.1.length : Int) != 4))] (by kernel_rfl) ?_
  refine QL.case ((x51.1.length : Int) != 4) [76] ⟨rfl, trivial⟩ (fun hc233 => ?_) (fun hc233 => ?_)
  · have hm := iteT hm hc233
    refine QL.step1v 77 undef rfl (fun _ => by kernel_rfl) ?_
    refine QL.step1v 78 undef rfl (fun _ => by kernel_rfl) ?_
    refine QL.step1v 79 undef rfl (fun _ => by kernel_rfl) ?_
    refine QL.step1v 80 undef rfl (fun _ => by kernel_rfl) ?_
    refine QL.step1v 81 undef rfl (fun _ => by kernel_rfl) ?_
    refine QL.step1v 82 undef rfl (fun _ => by kernel_rfl) ?_
    refine QL.step1v 83 undef rfl (fun _ => by kernel_rfl) ?_
    refine QL.step1v 84 (.bool true) rfl (fun _ => by kernel_rfl) ?_
    refine QL.step1v 85 (.bool true) rfl (fun _ => by kernel_rfl) ?_
    refine QL.step1v 86 undef rfl (fun _ => by kernel_rfl) ?_
    refine QL.step1v 87 undef rfl (fun _ => by kernel_rfl) ?_
    refine QL.step1v 88 undef rfl (fun _ => by kernel_rfl) ?_
    refine QL.step1v 89 undef rfl (fun _ => by kernel_rfl) ?_
    refine QL.step1v 90 undef rfl (fun _ => by kernel_rfl) ?_
    refine QL.step1v 91 undef rfl (fun _ => by kernel_rfl) ?_
    refine QL.step1v 92 undef rfl (fun _ => by kernel_rfl) ?_
    refine QL.step1v 93 (.bool true) rfl (fun _ => by kernel_rfl) ?_
    refine QL.step1v 94 (.bool true) rfl (fun _ => by kernel_rfl) ?_
    refine QL.step1v 95 undef rfl (fun _ => by kernel_rfl) ?_
    refine QL.step1v 96 undef rfl (fun _ => by kernel_rfl) ?_
    refine QL.step1v 97 undef rfl (fun _ => by kernel_rfl) ?_
    refine QL.step1v 98 undef rfl (fun _ => by kernel_rfl) ?_
    refine QL.step1v 99 undef rfl (fun _ => by kernel_rfl) ?_
    refine QL.step1v 100 undef rfl (fun _ => by kernel_rfl) ?_
    refine QL.step1v 101 undef rfl (fun _ => by kernel_rfl) ?_
    refine QL.step1v 102 (.bool true) rfl (fun _ => by kernel_rfl) ?_
    refine QL.step1v 103 (.bool true) rfl (fun _ => by kernel_rfl) ?_
    refine QL.step1v 104 undef rfl (fun _ => by kernel_rfl) ?_
    refine QL.step1v 105 undef rfl (fun _ => by kernel_rfl) ?_
    refine QL.step1v 106 undef rfl (fun _ => by kernel_rfl) ?_
    refine QL.step1v 107 undef rfl (fun _ => by kernel_rfl) ?_
    refine QL.step1v 108 undef rfl (fun _ => by kernel_rfl) ?_
    refine QL.step1v 109 undef rfl (fun _ => by kernel_rfl) ?_
    refine QL.step1v 110 undef rfl (fun _ => by kernel_rfl) ?_
    refine QL.step1v 111 (.bool true) rfl (fun _ => by kernel_rfl) ?_
    refine QL.step1v 112 (.bool true) rfl (fun _ => by kernel_rfl) ?_
    refine QL.step1v 113 undef rfl (fun _ => by kernel_rfl) ?_
    refine QL.step1v 114 undef rfl (fun _ => by kernel_rfl) ?_
    refine QL.step1v 115 (.bool true) rfl (fun _ => by kernel_rfl) ?_
    refine QL.step1v 116 (.bool true) rfl (fun _ => by kernel_rfl) ?_
    refine QL.step1v 117 undef rfl (fun _ => by kernel_rfl) ?_
    refine QL.step1v 118 undef rfl (fun _ => by kernel_rfl) ?_
    refine QL.step1v 119 (.bool true) rfl (fun _ => by kernel_rfl) ?_
    refine QL.step1v 120 (.bool true) rfl (fun _ => by kernel_rfl) ?_
    refine QL.step1v 121 undef rfl (fun _ => by kernel_rfl) ?_
    refine QL.step1v 122 undef rfl (fun _ => by kernel_rfl) ?_
    refine QL.step1v 123 undef rfl (fun _ => by kernel_rfl) ?_
    refine QL.step1v 124 (.bool true) rfl (fun _ => by kernel_rfl) ?_
    refine QL.subk [3, 6, 10, 14, 15, 16, 124] [(3, .slice a17 x15.length c18), (6, .slice a41 x39.1.length c42), (10, .string (bs x63.1)), (14, .pointer (some ⟨b92, 0, none⟩)), (15, .pointer (some ⟨b100, 0, none⟩)), (16, .int .i64 x84.2.2), (124, .bool true)] (by kernel_rfl) ?_
    refine QL.nil ?_
    intro w234 hE235
    have hb236 : Ext w w234 := Ext.trans hb116 hE235
    have hL237 : w.heap.size ≤ w234.heap.size := Nat.le_trans hL117 hE235.size
    have hS238 : SH w234 w.heap.size [aBox 34 b100 [.int .i64 x84.2.1.Num, .int .i64 x84.2.1.Den], aBox 34 b92 [.int .i64 x84.1.Num, .int .i64 x84.1.Den], aOwn fInt 2 a74 c75 x72.1, aOwn fInt 2 a53 c54 x51.1, aOwn fInt 2 a41 c42 x39.1, aOwn fStr 9 a29 c30 x27.1, aOwn fStr 9 a17 c18 x15] := SH.ext hS115 hE235
    obtain rfl := Option.some.inj hm
    exact WQ.post' ⟨rfl, hb236, hL237, hS238⟩ ⟨rfl, rfl, rfl, rfl, rfl, rfl, rfl, trivial⟩
  have hm := iteF hm hc233
  refine QL.step1v 77 (.slice a41 x39.1.length c42) rfl (fun _ => by kernel_rfl) ?_
  refine QL.subk [3, 6, 8, 10, 11, 12, 13, 14, 15, 16, 76, 77] [(3, .slice a17 x15.length c18), (6, .slice a41 x39.1.length c42), (8, .slice a53 x51.1.length c54), (10, .string (bs x63.1)), (11, .int .i64 x63.2), (12, .slice a74 x72.1.length c75), (13, .int .i64 x72.2), (14, .pointer (some ⟨b92, 0, none⟩)), (15, .pointer (some ⟨b100, 0, none⟩)), (16, .int .i64 x84.2.2), (76, .bool false), (77, .slice a41 x39.1.length c42)] (by kernel_rfl) ?_
  obtain ⟨x239, hx240, hm⟩ := bindE hm
  refine QL.st (.pointer (some (at_ a41 (Int.toNat 0 * 1)))) (ST.index (T := fInt.ty) (xs := x39.1) (SH.rd (SH.front 4 hS115)) hx240 rfl rfl rfl Try.underlying40 (info2).1 (info2).2.1) rfl rfl rfl ?_
  refine QL.st (.int .i64 x239) (ST.load (cell_ext (Rd.flat (F := fInt) (SH.rd (SH.front 4 hS115)) hx240 0 rfl)) rfl rfl Try.underlying2 rfl) rfl rfl rfl ?_
  refine QL.step1v 80 (.slice a53 x51.1.length c54) rfl (fun _ => by kernel_rfl) ?_
  refine QL.subk [3, 6, 8, 10, 11, 12, 13, 14, 15, 16, 76, 79, 80] [(3, .slice a17 x15.length c18), (6, .slice a41 x39.1.length c42), (8, .slice a53 x51.1.length c54), (10, .string (bs x63.1)), (11, .int .i64 x63.2), (12, .slice a74 x72.1.length c75), (13, .int .i64 x72.2), (14, .pointer (some ⟨b92, 0, none⟩)), (15, .pointer (some ⟨b100, 0, none⟩)), (16, .int .i64 x84.2.2), (76, .bool false), (79, .int .i64 x239), (80, .slice a53 x51.1.length c54)] (by kernel_rfl) ?_
  obtain ⟨x241, hx242, hm⟩ := bindE hm
  refine QL.st (.pointer (some (at_ a53 (Int.toNat 1 * 1)))) (ST.index (T := fInt.ty) (xs := x51.1) (SH.rd (SH.front 3 hS115)) hx242 rfl rfl rfl Try.underlying40 (info2).1 (info2).2.1) rfl rfl rfl ?_
  refine QL.st (.int .i64 x241) (ST.load (cell_ext (Rd.flat (F := fInt) (SH.rd (SH.front 3 hS115)) hx242 0 rfl)) rfl rfl Try.underlying2 rfl) rfl rfl rfl ?_
  refine QL.step1v 83 (.bool (x239 != x241)) rfl (fun _ => by kernel_rfl) ?_
  refine QL.step1v 84 (.bool (x239 != x241)) rfl (fun _ => by kernel_rfl) ?_
  refine QL.step1v 85 (.bool (x239 != x241)) rfl (fun _ => by kernel_rfl) ?_
  refine QL.subk [3, 6, 8, 10, 11, 12, 13, 14, 15, 16, 85] [(3, .slice a17 x15.length c18), (6, .slice a41 x39.1.length c42), (8, .slice a53 x51.1.length c54), (10, .string (bs x63.1)), (11, .int .i64 x63.2), (12, .slice a74 x72.1.length c75), (13, .int .i64 x72.2), (14, .pointer (some ⟨b92, 0, none⟩)), (15, .pointer (some ⟨b100, 0, none⟩)), (16, .int .i64 x84.2.2), (85, .bool (x239 != x241))] (by kernel_rfl) ?_
  refine QL.case (x239 != x241) [85] ⟨rfl, trivial⟩ (fun hc243 => ?_) (fun hc243 => ?_)
  · have hm := iteT hm hc243
    refine QL.step1v 86 undef rfl (fun _ => by kernel_rfl) ?_
    refine QL.step1v 87 undef rfl (fun _ => by kernel_rfl) ?_
    refine QL.step1v 88 undef rfl (fun _ => by kernel_rfl) ?_
    refine QL.step1v 89 undef rfl (fun _ => by kernel_rfl) ?_
    refine QL.step1v 90 undef rfl (fun _ => by kernel_rfl) ?_
    refine QL.step1v 91 undef rfl (fun _ => by kernel_rfl) ?_
    refine QL.step1v 92 undef rfl (fun _ => by kernel_rfl) ?_
    refine QL.step1v 93 (.bool true) rfl (fun _ => by kernel_rfl) ?_
    refine QL.step1v 94 (.bool true) rfl (fun _ => by kernel_rfl) ?_
    refine QL.step1v 95 undef rfl (fun _ => by kernel_rfl) ?_
    refine QL.step1v 96 undef rfl (fun _ => by kernel_rfl) ?_
    refine QL.step1v 97 undef rfl (fun _ => by kernel_rfl) ?_
    refine QL.step1v 98 undef rfl (fun _ => by kernel_rfl) ?_
    refine QL.step1v 99 undef rfl (fun _ => by kernel_rfl) ?_
    refine QL.step1v 100 undef rfl (fun _ => by kernel_rfl) ?_
    refine QL.step1v 101 undef rfl (fun _ => by kernel_rfl) ?_
    refine QL.step1v 102 (.bool true) rfl (fun _ => by kernel_rfl) ?_
    refine QL.step1v 103 (.bool true) rfl (fun _ => by kernel_rfl) ?_
    refine QL.step1v 104 undef rfl (fun _ => by kernel_rfl) ?_
    refine QL.step1v 105 undef rfl (fun _ => by kernel_rfl) ?_
    refine QL.step1v 106 undef rfl (fun _ => by kernel_rfl) ?_
    refine QL.step1v 107 undef rfl (fun _ => by kernel_rfl) ?_
    refine QL.step1v 108 undef rfl (fun _ => by kernel_rfl) ?_
    refine QL.step1v 109 undef rfl (fun _ => by kernel_rfl) ?_
    refine QL.step1v 110 undef rfl (fun _ => by kernel_rfl) ?_
    refine QL.step1v 111 (.bool true) rfl (fun _ => by kernel_rfl) ?_
    refine QL.step1v 112 (.bool true) rfl (fun _ => by kernel_rfl) ?_
    refine QL.step1v 113 undef rfl (fun _ => by kernel_rfl) ?_
    refine QL.step1v 114 undef rfl (fun _ => by kernel_rfl) ?_
    refine QL.step1v 115 (.bool true) rfl (fun _ => by kernel_rfl) ?_
    refine QL.step1v 116 (.bool true) rfl (fun _ => by kernel_rfl) ?_
    refine QL.step1v 117 undef rfl (fun _ => by kernel_rfl) ?_
    refine QL.step1v 118 undef rfl (fun _ => by kernel_rfl) ?_
    refine QL.step1v 119 (.bool true) rfl (fun _ => by kernel_rfl) ?_
    refine QL.step1v 120 (.bool true) rfl (fun _ => by kernel_rfl) ?_
    refine QL.step1v 121 undef rfl (fun _ => by kernel_rfl) ?_
    refine QL.step1v 122 undef rfl (fun _ => by kernel_rfl) ?_
    refine QL.step1v 123 undef rfl (fun _ => by kernel_rfl) ?_
    refine QL.step1v 124 (.bool true) rfl (fun _ => by kernel_rfl) ?_
    refine QL.subk [3, 6, 10, 14, 15, 16, 124] [(3, .slice a17 x15.length c18), (6, .slice a41 x39.1.length c42), (10, .string (bs x63.1)), (14, .pointer (some ⟨b92, 0, none⟩)), (15, .pointer (some ⟨b100, 0, none⟩)), (16, .int .i64 x84.2.2), (124, .bool true)] (by kernel_rfl) ?_
    refine QL.nil ?_
    intro w244 hE245
    have hb246 : Ext w w244 := Ext.trans hb116 hE245
    have hL247 : w.heap.size ≤ w244.heap.size := Nat.le_trans hL117 hE245.size
    have hS248 : SH w244 w.heap.size [aBox 34 b100 [.int .i64 x84.2.1.Num, .int .i64 x84.2.1.Den], aBox 34 b92 [.int .i64 x84.1.Num, .int .i64 x84.1.Den], aOwn fInt 2 a74 c75 x72.1, aOwn fInt 2 a53 c54 x51.1, aOwn fInt 2 a41 c42 x39.1, aOwn fStr 9 a29 c30 x27.1, aOwn fStr 9 a17 c18 x15] := SH.ext hS115 hE245
    obtain rfl := Option.some.inj hm
    exact WQ.post' ⟨rfl, hb246, hL247, hS248⟩ ⟨rfl, rfl, rfl, rfl, rfl, rfl, rfl, trivial⟩
  have hm := iteF hm hc243
  refine QL.step1v 86 (.slice a41 x39.1.length c42) rfl (fun _ => by kernel_rfl) ?_
  refine QL.subk [3, 6, 8, 10, 11, 12, 13, 14, 15, 16, 85, 86] [(3, .slice a17 x15.length c18), (6, .slice a41 x39.1.length c42), (8, .slice a53 x51.1.length c54), (10, .string (bs x63.1)), (11, .int .i64 x63.2), (12, .slice a74 x72.1.length c75), (13, .int .i64 x72.2), (14, .pointer (some ⟨b92, 0, none⟩)), (15, .pointer (some ⟨b100, 0, none⟩)), (16, .int .i64 x84.2.2), (85, .bool false), (86, .slice a41 x39.1.length c42)] (by kernel_rfl) ?_
  obtain ⟨x249, hx250, hm⟩ := bindE hm
  refine QL.st (.pointer (some (at_ a41 (Int.toNat 1 * 1)))) (ST.index (T := fInt.ty) (xs := x39.1) (SH.rd (SH.front 4 hS115)) hx250 rfl rfl rfl Try.underlying40 (info2).1 (info2).2.1) rfl rfl rfl ?_
  refine QL.st (.int .i64 x249) (ST.load (cell_ext (Rd.flat (F := fInt) (SH.rd (SH.front 4 hS115)) hx250 0 rfl)) rfl rfl Try.underlying2 rfl) rfl rfl rfl ?_
  refine QL.step1v 89 (.slice a53 x51.1.length c54) rfl (fun _ => by kernel_rfl) ?_
  refine QL.subk [3, 6, 8, 10, 11, 12, 13, 14, 15, 16, 85, 88, 89] [(3, .slice a17 x15.length c18), (6, .slice a41 x39.1.length c42), (8, .slice a53 x51.1.length c54), (10, .string (bs x63.1)), (11, .int .i64 x63.2), (12, .slice a74 x72.1.length c75), (13, .int .i64 x72.2), (14, .pointer (some ⟨b92, 0, none⟩)), (15, .pointer (some ⟨b100, 0, none⟩)), (16, .int .i64 x84.2.2), (85, .bool false), (88, .int .i64 x249), (89, .slice a53 x51.1.length c54)] (by kernel_rfl) ?_
  obtain ⟨x251, hx252, hm⟩ := bindE hm
  refine QL.st (.pointer (some (at_ a53 (Int.toNat 0 * 1)))) (ST.index (T := fInt.ty) (xs := x51.1) (SH.rd (SH.front 3 hS115)) hx252 rfl rfl rfl Try.underlying40 (info2).1 (info2).2.1) rfl rfl rfl ?_
  refine QL.st (.int .i64 x251) (ST.load (cell_ext (Rd.flat (F := fInt) (SH.rd (SH.front 3 hS115)) hx252 0 rfl)) rfl rfl Try.underlying2 rfl) rfl rfl rfl ?_
  refine QL.step1v 92 (.bool (x249 != x251)) rfl (fun _ => by kernel_rfl) ?_
  refine QL.step1v 93 (.bool (x249 != x251)) rfl (fun _ => by kernel_rfl) ?_
  refine QL.step1v 94 (.bool (x249 != x251)) rfl (fun _ => by kernel_rfl) ?_
  refine QL.subk [3, 6, 8, 10, 11, 12, 13, 14, 15, 16, 94] [(3, .slice a17 x15.length c18), (6, .slice a41 x39.1.length c42), (8, .slice a53 x51.1.length c54), (10, .string (bs x63.1)), (11, .int .i64 x63.2), (12, .slice a74 x72.1.length c75), (13, .int .i64 x72.2), (14, .pointer (some ⟨b92, 0, none⟩)), (15, .pointer (some ⟨b100, 0, none⟩)), (16, .int .i64 x84.2.2), (94, .bool (x249 != x251))] (by kernel_rfl) ?_
  refine QL.case (x249 != x251) [94] ⟨rfl, trivial⟩ (fun hc253 => ?_) (fun hc253 => ?_)
  · have hm := iteT hm hc253
    refine QL.step1v 95 undef rfl (fun _ => by kernel_rfl) ?_
    refine QL.step1v 96 undef rfl (fun _ => by kernel_rfl) ?_
    refine QL.step1v 97 undef rfl (fun _ => by kernel_rfl) ?_
    refine QL.step1v 98 undef rfl (fun _ => by kernel_rfl) ?_
    refine QL.step1v 99 undef rfl (fun _ => by kernel_rfl) ?_
    refine QL.step1v 100 undef rfl (fun _ => by kernel_rfl) ?_
    refine QL.step1v 101 undef rfl (fun _ => by kernel_rfl) ?_
    refine QL.step1v 102 (.bool true) rfl (fun _ => by kernel_rfl) ?_
    refine QL.step1v 103 (.bool true) rfl (fun _ => by kernel_rfl) ?_
    refine QL.step1v 104 undef rfl (fun _ => by kernel_rfl) ?_
    refine QL.step1v 105 undef rfl (fun _ => by kernel_rfl) ?_
    refine QL.step1v 106 undef rfl (fun _ => by kernel_rfl) ?_
    refine QL.step1v 107 undef rfl (fun _ => by kernel_rfl) ?_
    refine QL.step1v 108 undef rfl (fun _ => by kernel_rfl) ?_
    refine QL.step1v 109 undef rfl (fun _ => by kernel_rfl) ?_
    refine QL.step1v 110 undef rfl (fun _ => by kernel_rfl) ?_
    refine QL.step1v 111 (.bool true) rfl (fun _ => by kernel_rfl) ?_
    refine QL.step1v 112 (.bool true) rfl (fun _ => by kernel_rfl) ?_
    refine QL.step1v 113 undef rfl (fun _ => by kernel_rfl) ?_
    refine QL.step1v 114 undef rfl (fun _ => by kernel_rfl) ?_
    refine QL.step1v 115 (.bool true) rfl (fun _ => by kernel_rfl) ?_
    refine QL.step1v 116 (.bool true) rfl (fun _ => by kernel_rfl) ?_
    refine QL.step1v 117 undef rfl (fun _ => by kernel_rfl) ?_
    refine QL.step1v 118 undef rfl (fun _ => by kernel_rfl) ?_
    refine QL.step1v 119 (.bool true) rfl (fun _ => by kernel_rfl) ?_
    refine QL.step1v 120 (.bool true) rfl (fun _ => by kernel_rfl) ?_
    refine QL.step1v 121 undef rfl (fun _ => by kernel_rfl) ?_
    refine QL.step1v 122 undef rfl (fun _ => by kernel_rfl) ?_
    refine QL.step1v 123 undef rfl (fun _ => by kernel_rfl) ?_
    refine QL.step1v 124 (.bool true) rfl (fun _ => by kernel_rfl) ?_
    refine QL.subk [3, 6, 10, 14, 15, 16, 124] [(3, .slice a17 x15.length c18), (6, .slice a41 x39.1.length c42), (10, .string (bs x63.1)), (14, .pointer (some ⟨b92, 0, none⟩)), (15, .pointer (some ⟨b100, 0, none⟩)), (16, .int .i64 x84.2.2), (124, .bool true)] (by kernel_rfl) ?_
    refine QL.nil ?_
    intro w254 hE255
    have hb256 : Ext w w254 := Ext.trans hb116 hE255
    have hL257 : w.heap.size ≤ w254.heap.size := Nat.le_trans hL117 hE255.size
    have hS258 : SH w254 w.heap.size [aBox 34 b100 [.int .i64 x84.2.1.Num, .int .i64 x84.2.1.Den], aBox 34 b92 [.int .i64 x84.1.Num, .int .i64 x84.1.Den], aOwn fInt 2 a74 c75 x72.1, aOwn fInt 2 a53 c54 x51.1, aOwn fInt 2 a41 c42 x39.1, aOwn fStr 9 a29 c30 x27.1, aOwn fStr 9 a17 c18 x15] := SH.ext hS115 hE255
    obtain rfl := Option.some.inj hm
    exact WQ.post' ⟨rfl, hb256, hL257, hS258⟩ ⟨rfl, rfl, rfl, rfl, rfl, rfl, rfl, trivial⟩
  have hm := iteF hm hc253
  refine QL.step1v 95 (.slice a41 x39.1.length c42) rfl (fun _ => by kernel_rfl) ?_
  refine QL.subk [3, 6, 8, 10, 11, 12, 13, 14, 15, 16, 94, 95] [(3, .slice a17 x15.length c18), (6, .slice a41 x39.1.length c42), (8, .slice a53 x51.1.length c54), (10, .string (bs x63.1)), (11, .int .i64 x63.2), (12, .slice a74 x72.1.length c75), (13, .int .i64 x72.2), (14, .pointer (some ⟨b92, 0, none⟩)), (15, .pointer (some ⟨b100, 0, none⟩)), (16, .int .i64 x84.2.2), (94, .bool false), (95, .slice a41 x39.1.length c42)] (by kernel_rfl) ?_
  obtain ⟨x259, hx260, hm⟩ := bindE hm
  refine QL.st (.pointer (some (at_ a41 (Int.toNat 2 * 1)))) (ST.index (T := fInt.ty) (xs := x39.1) (SH.rd (SH.front 4 hS115)) hx260 rfl rfl rfl Try.underlying40 (info2).1 (info2).2.1) rfl rfl rfl ?_
  refine QL.st (.int .i64 x259) (ST.load (cell_ext (Rd.flat (F := fInt) (SH.rd (SH.front 4 hS115)) hx260 0 rfl)) rfl rfl Try.underlying2 rfl) rfl rfl rfl ?_
  refine QL.step1v 98 (.slice a53 x51.1.length c54) rfl (fun _ => by kernel_rfl) ?_
  refine QL.subk [3, 6, 8, 10, 11, 12, 13, 14, 15, 16, 94, 97, 98] [(3, .slice a17 x15.length c18), (6, .slice a41 x39.1.length c42), (8, .slice a53 x51.1.length c54), (10, .string (bs x63.1)), (11, .int .i64 x63.2), (12, .slice a74 x72.1.length c75), (13, .int .i64 x72.2), (14, .pointer (some ⟨b92, 0, none⟩)), (15, .pointer (some ⟨b100, 0, none⟩)), (16, .int .i64 x84.2.2), (94, .bool false), (97, .int .i64 x259), (98, .slice a53 x51.1.length c54)] (by kernel_rfl) ?_
  obtain ⟨x261, hx262, hm⟩ := bindE hm
  refine QL.st (.pointer (some (at_ a53 (Int.toNat 3 * 1)))) (ST.index (T := fInt.ty) (xs := x51.1) (SH.rd (SH.front 3 hS115)) hx262 rfl rfl rfl Try.underlying40 (info2).1 (info2).2.1) rfl rfl rfl ?_
  refine QL.st (.int .i64 x261) (ST.load (cell_ext (Rd.flat (F := fInt) (SH.rd (SH.front 3 hS115)) hx262 0 rfl)) rfl rfl Try.underlying2 rfl) rfl rfl rfl ?_
  refine QL.step1v 101 (.bool (x259 != x261)) rfl (fun _ => by kernel_rfl) ?_
  refine QL.step1v 102 (.bool (x259 != x261)) rfl (fun _ => by kernel_rfl) ?_
  refine QL.step1v 103 (.bool (x259 != x261)) rfl (fun _ => by kernel_rfl) ?_
  refine QL.subk [3, 6, 8, 10, 11, 12, 13, 14, 15, 16, 103] [(3, .slice a17 x15.length c18), (6, .slice a41 x39.1.length c42), (8, .slice a53 x51.1.length c54), (10, .string (bs x63.1)), (11, .int .i64 x63.2), (12, .slice a74 x72.1.length c75), (13, .int .i64 x72.2), (14, .pointer (some ⟨b92, 0, none⟩)), (15, .pointer (some ⟨b100, 0, none⟩)), (16, .int .i64 x84.2.2), (103, .bool (x259 != x261))] (by kernel_rfl) ?_
  refine QL.case (x259 != x261) [103] ⟨rfl, trivial⟩ (fun hc263 => ?_) (fun hc263 => ?_)
  · have hm := iteT hm hc263
    refine QL.step1v 104 undef rfl (fun _ => by kernel_rfl) ?_
    refine QL.step1v 105 undef rfl (fun _ => by kernel_rfl) ?_
    refine QL.step1v 106 undef rfl (fun _ => by kernel_rfl) ?_
    refine QL.step1v 107 undef rfl (fun _ => by kernel_rfl) ?_
    refine QL.step1v 108 undef rfl (fun _ => by kernel_rfl) ?_
    refine QL.step1v 109 undef rfl (fun _ => by kernel_rfl) ?_
    refine QL.step1v 110 undef rfl (fun _ => by kernel_rfl) ?_
    refine QL.step1v 111 (.bool true) rfl (fun _ => by kernel_rfl) ?_
    refine QL.step1v 112 (.bool true) rfl (fun _ => by kernel_rfl) ?_
    refine QL.step1v 113 undef rfl (fun _ => by kernel_rfl) ?_
    refine QL.step1v 114 undef rfl (fun _ => by kernel_rfl) ?_
    refine QL.step1v 115 (.bool true) rfl (fun _ => by kernel_rfl) ?_
    refine QL.step1v 116 (.bool true) rfl (fun _ => by kernel_rfl) ?_
    refine QL.step1v 117 undef rfl (fun _ => by kernel_rfl) ?_
    refine QL.step1v 118 undef rfl (fun _ => by kernel_rfl) ?_
    refine QL.step1v 119 (.bool true) rfl (fun _ => by kernel_rfl) ?_
    refine QL.step1v 120 (.bool true) rfl (fun _ => by kernel_rfl) ?_
    refine QL.step1v 121 undef rfl (fun _ => by kernel_rfl) ?_
    refine QL.step1v 122 undef rfl (fun _ => by kernel_rfl) ?_
    refine QL.step1v 123 undef rfl (fun _ => by kernel_rfl) ?_
    refine QL.step1v 124 (.bool true) rfl (fun _ => by kernel_rfl) ?_
    refine QL.subk [3, 6, 10, 14, 15, 16, 124] [(3, .slice a17 x15.length c18), (6, .slice a41 x39.1.length c42), (10, .string (bs x63.1)), (14, .pointer (some ⟨b92, 0, none⟩)), (15, .pointer (some ⟨b100, 0, none⟩)), (16, .int .i64 x84.2.2), (124, .bool true)] (by kernel_rfl) ?_
    refine QL.nil ?_
    intro w264 hE265
    have hb266 : Ext w w264 := Ext.trans hb116 hE265
    have hL267 : w.heap.size ≤ w264.heap.size := Nat.le_trans hL117 hE265.size
    have hS268 : SH w264 w.heap.size [aBox 34 b100 [.int .i64 x84.2.1.Num, .int .i64 x84.2.1.Den], aBox 34 b92 [.int .i64 x84.1.Num, .int .i64 x84.1.Den], aOwn fInt 2 a74 c75 x72.1, aOwn fInt 2 a53 c54 x51.1, aOwn fInt 2 a41 c42 x39.1, aOwn fStr 9 a29 c30 x27.1, aOwn fStr 9 a17 c18 x15] := SH.ext hS115 hE265
    obtain rfl := Option.some.inj hm
    exact WQ.post' ⟨rfl, hb266, hL267, hS268⟩ ⟨rfl, rfl, rfl, rfl, rfl, rfl, rfl, trivial⟩
  have hm := iteF hm hc263
  refine QL.step1v 104 (.slice a41 x39.1.length c42) rfl (fun _ => by kernel_rfl) ?_
  refine QL.subk [3, 6, 8, 10, 11, 12, 13, 14, 15, 16, 103, 104] [(3, .slice a17 x15.length c18), (6, .slice a41 x39.1.length c42), (8, .slice a53 x51.1.length c54), (10, .string (bs x63.1)), (11, .int .i64 x63.2), (12, .slice a74 x72.1.length c75), (13, .int .i64 x72.2), (14, .pointer (some ⟨b92, 0, none⟩)), (15, .pointer (some ⟨b100, 0, none⟩)), (16, .int .i64 x84.2.2), (103, .bool false), (104, .slice a41 x39.1.length c42)] (by kernel_rfl) ?_
  obtain ⟨x269, hx270, hm⟩ := bindE hm
  refine QL.st (.pointer (some (at_ a41 (Int.toNat 3 * 1)))) (ST.index (T := fInt.ty) (xs := x39.1) (SH.rd (SH.front 4 hS115)) hx270 rfl rfl rfl Try.underlying40 (info2).1 (info2).2.1) rfl rfl rfl ?_
  refine QL.st (.int .i64 x269) (ST.load (cell_ext (Rd.flat (F := fInt) (SH.rd (SH.front 4 hS115)) hx270 0 rfl)) rfl rfl Try.underlying2 rfl) rfl rfl rfl ?_
  refine QL.step1v 107 (.slice a53 x51.1.length c54) rfl (fun _ => by kernel_rfl) ?_
  refine QL.subk [3, 6, 10, 11, 12, 13, 14, 15, 16, 103, 106, 107] [(3, .slice a17 x15.length c18), (6, .slice a41 x39.1.length c42), (10, .string (bs x63.1)), (11, .int .i64 x63.2), (12, .slice a74 x72.1.length c75), (13, .int .i64 x72.2), (14, .pointer (some ⟨b92, 0, none⟩)), (15, .pointer (some ⟨b100, 0, none⟩)), (16, .int .i64 x84.2.2), (103, .bool false), (106, .int .i64 x269), (107, .slice a53 x51.1.length c54)] (by kernel_rfl) ?_
  obtain ⟨x271, hx272, hm⟩ := bindE hm
  refine QL.st (.pointer (some (at_ a53 (Int.toNat 2 * 1)))) (ST.index (T := fInt.ty) (xs := x51.1) (SH.rd (SH.front 3 hS115)) hx272 rfl rfl rfl Try.underlying40 (info2).1 (info2).2.1) rfl rfl rfl ?_
  refine QL.st (.int .i64 x271) (ST.load (cell_ext (Rd.flat (F := fInt) (SH.rd (SH.front 3 hS115)) hx272 0 rfl)) rfl rfl Try.underlying2 rfl) rfl rfl rfl ?_
  refine QL.step1v 110 (.bool (x269 != x271)) rfl (fun _ => by kernel_rfl) ?_
  refine QL.step1v 111 (.bool (x269 != x271)) rfl (fun _ => by kernel_rfl) ?_
  refine QL.step1v 112 (.bool (x269 != x271)) rfl (fun _ => by kernel_rfl) ?_
  refine QL.subk [3, 6, 10, 11, 12, 13, 14, 15, 16, 112] [(3, .slice a17 x15.length c18), (6, .slice a41 x39.1.length c42), (10, .string (bs x63.1)), (11, .int .i64 x63.2), (12, .slice a74 x72.1.length c75), (13, .int .i64 x72.2), (14, .pointer (some ⟨b92, 0, none⟩)), (15, .pointer (some ⟨b100, 0, none⟩)), (16, .int .i64 x84.2.2), (112, .bool (x269 != x271))] (by kernel_rfl) ?_
  refine QL.case (x269 != x271) [112] ⟨rfl, trivial⟩ (fun hc273 => ?_) (fun hc273 => ?_)
  · have hm := iteT hm hc273
    refine QL.step1v 113 undef rfl (fun _ => by kernel_rfl) ?_
    refine QL.step1v 114 undef rfl (fun _ => by kernel_rfl) ?_
    refine QL.step1v 115 (.bool true) rfl (fun _ => by kernel_rfl) ?_
    refine QL.step1v 116 (.bool true) rfl (fun _ => by kernel_rfl) ?_
    refine QL.step1v 117 undef rfl (fun _ => by kernel_rfl) ?_
    refine QL.step1v 118 undef rfl (fun _ => by kernel_rfl) ?_
    refine QL.step1v 119 (.bool true) rfl (fun _ => by kernel_rfl) ?_
    refine QL.step1v 120 (.bool true) rfl (fun _ => by kernel_rfl) ?_
    refine QL.step1v 121 undef rfl (fun _ => by kernel_rfl) ?_
    refine QL.step1v 122 undef rfl (fun _ => by kernel_rfl) ?_
    refine QL.step1v 123 undef rfl (fun _ => by kernel_rfl) ?_
    refine QL.step1v 124 (.bool true) rfl (fun _ => by kernel_rfl) ?_
    refine QL.subk [3, 6, 10, 14, 15, 16, 124] [(3, .slice a17 x15.length c18), (6, .slice a41 x39.1.length c42), (10, .string (bs x63.1)), (14, .pointer (some ⟨b92, 0, none⟩)), (15, .pointer (some ⟨b100, 0, none⟩)), (16, .int .i64 x84.2.2), (124, .bool true)] (by kernel_rfl) ?_
    refine QL.nil ?_
    intro w274 hE275
    have hb276 : Ext w w274 := Ext.trans hb116 hE275
    have hL277 : w.heap.size ≤ w274.heap.size := Nat.le_trans hL117 hE275.size
    have hS278 : SH w274 w.heap.size [aBox 34 b100 [.int .i64 x84.2.1.Num, .int .i64 x84.2.1.Den], aBox 34 b92 [.int .i64 x84.1.Num, .int .i64 x84.1.Den], aOwn fInt 2 a74 c75 x72.1, aOwn fInt 2 a53 c54 x51.1, aOwn fInt 2 a41 c42 x39.1, aOwn fStr 9 a29 c30 x27.1, aOwn fStr 9 a17 c18 x15] := SH.ext hS115 hE275
    obtain rfl := Option.some.inj hm
    exact WQ.post' ⟨rfl, hb276, hL277, hS278⟩ ⟨rfl, rfl, rfl, rfl, rfl, rfl, rfl, trivial⟩
  have hm := iteF hm hc273
  refine QL.step1v 113 (.int .i64 x63.2) rfl (fun _ => by kernel_rfl) ?_
  refine QL.step1v 114 (.bool (x63.2 != 0)) rfl (fun _ => by kernel_rfl) ?_
  refine QL.step1v 115 (.bool (x63.2 != 0)) rfl (fun _ => by kernel_rfl) ?_
  refine QL.step1v 116 (.bool (x63.2 != 0)) rfl (fun _ => by kernel_rfl) ?_
  refine QL.subk [3, 6, 10, 12, 13, 14, 15, 16, 116] [(3, .slice a17 x15.length c18), (6, .slice a41 x39.1.length c42), (10, .string (bs x63.1)), (12, .slice a74 x72.1.length c75), (13, .int .i64 x72.2), (14, .pointer (some ⟨b92, 0, none⟩)), (15, .pointer (some ⟨b100, 0, none⟩)), (16, .int .i64 x84.2.2), (116, .bool (x63.2 != 0))] (by kernel_rfl) ?_
  refine QL.case (x63.2 != 0) [116] ⟨rfl, trivial⟩ (fun hc279 => ?_) (fun hc279 => ?_)
  · have hm := iteT hm hc279
    refine QL.step1v 117 undef rfl (fun _ => by kernel_rfl) ?_
    refine QL.step1v 118 undef rfl (fun _ => by kernel_rfl) ?_
    refine QL.step1v 119 (.bool true) rfl (fun _ => by kernel_rfl) ?_
    refine QL.step1v 120 (.bool true) rfl (fun _ => by kernel_rfl) ?_
    refine QL.step1v 121 undef rfl (fun _ => by kernel_rfl) ?_
    refine QL.step1v 122 undef rfl (fun _ => by kernel_rfl) ?_
    refine QL.step1v 123 undef rfl (fun _ => by kernel_rfl) ?_
    refine QL.step1v 124 (.bool true) rfl (fun _ => by kernel_rfl) ?_
    refine QL.subk [3, 6, 10, 14, 15, 16, 124] [(3, .slice a17 x15.length c18), (6, .slice a41 x39.1.length c42), (10, .string (bs x63.1)), (14, .pointer (some ⟨b92, 0, none⟩)), (15, .pointer (some ⟨b100, 0, none⟩)), (16, .int .i64 x84.2.2), (124, .bool true)] (by kernel_rfl) ?_
    refine QL.nil ?_
    intro w280 hE281
    have hb282 : Ext w w280 := Ext.trans hb116 hE281
    have hL283 : w.heap.size ≤ w280.heap.size := Nat.le_trans hL117 hE281.size
    have hS284 : SH w280 w.heap.size [aBox 34 b100 [.int .i64 x84.2.1.Num, .int .i64 x84.2.1.Den], aBox 34 b92 [.int .i64 x84.1.Num, .int .i64 x84.1.Den], aOwn fInt 2 a74 c75 x72.1, aOwn fInt 2 a53 c54 x51.1, aOwn fInt 2 a41 c42 x39.1, aOwn fStr 9 a29 c30 x27.1, aOwn fStr 9 a17 c18 x15] := SH.ext hS115 hE281
    obtain rfl := Option.some.inj hm
    exact WQ.post' ⟨rfl, hb282, hL283, hS284⟩ ⟨rfl, rfl, rfl, rfl, rfl, rfl, rfl, trivial⟩
  have hm := iteF hm hc279
  refine QL.step1v 117 (.int .i64 x72.2) rfl (fun _ => by kernel_rfl) ?_
  refine QL.step1v 118 (.bool (x72.2 != 0)) rfl (fun _ => by kernel_rfl) ?_
  refine QL.step1v 119 (.bool (x72.2 != 0)) rfl (fun _ => by kernel_rfl) ?_
  refine QL.step1v 120 (.bool (x72.2 != 0)) rfl (fun _ => by kernel_rfl) ?_
  refine QL.subk [3, 6, 10, 12, 14, 15, 16, 120] [(3, .slice a17 x15.length c18), (6, .slice a41 x39.1.length c42), (10, .string (bs x63.1)), (12, .slice a74 x72.1.length c75), (14, .pointer (some ⟨b92, 0, none⟩)), (15, .pointer (some ⟨b100, 0, none⟩)), (16, .int .i64 x84.2.2), (120, .bool (x72.2 != 0))] (by kernel_rfl) ?_
  refine QL.case (x72.2 != 0) [120] ⟨rfl, trivial⟩ (fun hc285 => ?_) (fun hc285 => ?_)
  · have hm := iteT hm hc285
    refine QL.step1v 121 undef rfl (fun _ => by kernel_rfl) ?_
    refine QL.step1v 122 undef rfl (fun _ => by kernel_rfl) ?_
    refine QL.step1v 123 undef rfl (fun _ => by kernel_rfl) ?_
    refine QL.step1v 124 (.bool true) rfl (fun _ => by kernel_rfl) ?_
    refine QL.subk [3, 6, 10, 14, 15, 16, 124] [(3, .slice a17 x15.length c18), (6, .slice a41 x39.1.length c42), (10, .string (bs x63.1)), (14, .pointer (some ⟨b92, 0, none⟩)), (15, .pointer (some ⟨b100, 0, none⟩)), (16, .int .i64 x84.2.2), (124, .bool true)] (by kernel_rfl) ?_
    refine QL.nil ?_
    intro w286 hE287
    have hb288 : Ext w w286 := Ext.trans hb116 hE287
    have hL289 : w.heap.size ≤ w286.heap.size := Nat.le_trans hL117 hE287.size
    have hS290 : SH w286 w.heap.size [aBox 34 b100 [.int .i64 x84.2.1.Num, .int .i64 x84.2.1.Den], aBox 34 b92 [.int .i64 x84.1.Num, .int .i64 x84.1.Den], aOwn fInt 2 a74 c75 x72.1, aOwn fInt 2 a53 c54 x51.1, aOwn fInt 2 a41 c42 x39.1, aOwn fStr 9 a29 c30 x27.1, aOwn fStr 9 a17 c18 x15] := SH.ext hS115 hE287
    obtain rfl := Option.some.inj hm
    exact WQ.post' ⟨rfl, hb288, hL289, hS290⟩ ⟨rfl, rfl, rfl, rfl, rfl, rfl, rfl, trivial⟩
  have hm := iteF hm hc285
  refine QL.step1v 121 (.slice a74 x72.1.length c75) rfl (fun _ => by kernel_rfl) ?_
  refine QL.step1v 122 (.int .i64 (x72.1.length : Int)) rfl (fun _ => by kernel_rfl) ?_
  refine QL.step1v 123 (.bool ((x72.1.length : Int) != 0)) rfl (fun _ => by kernel_rfl) ?_
  refine QL.step1v 124 (.bool ((x72.1.length : Int) != 0)) rfl (fun _ => by kernel_rfl) ?_
  refine QL.subk [3, 6, 10, 14, 15, 16, 124] [(3, .slice a17 x15.length c18), (6, .slice a41 x39.1.length c42), (10, .string (bs x63.1)), (14, .pointer (some ⟨b92, 0, none⟩)), (15, .pointer (some ⟨b100, 0, none⟩)), (16, .int .i64 x84.2.2), (124, .bool ((x72.1.length : Int) != 0))] (by kernel_rfl) ?_
  refine QL.nil ?_
  intro w291 hE292
  have hb293 : Ext w w291 := Ext.trans hb116 hE292
  have hL294 : w.heap.size ≤ w291.heap.size := Nat.le_trans hL117 hE292.size
  have hS295 : SH w291 w.heap.size [aBox 34 b100 [.int .i64 x84.2.1.Num, .int .i64 x84.2.1.Den], aBox 34 b92 [.int .i64 x84.1.Num, .int .i64 x84.1.Den], aOwn fInt 2 a74 c75 x72.1, aOwn fInt 2 a53 c54 x51.1, aOwn fInt 2 a41 c42 x39.1, aOwn fStr 9 a29 c30 x27.1, aOwn fStr 9 a17 c18 x15] := SH.ext hS115 hE292
  obtain rfl := Option.some.inj hm
  exact WQ.post' ⟨rfl, hb293, hL294, hS295⟩ ⟨rfl, rfl, rfl, rfl, rfl, rfl, rfl, trivial⟩

end Go.Proofs.Ytoljnpoiclklpaa
