/- Each call does what its Lean function says. -/
import Derived.Test.YtoljnpoiclklpaaCo3
set_option maxRecDepth 20000
set_option maxHeartbeats 4000000
namespace Go.Proofs.Ytoljnpoiclklpaa
open Go Go.Gv Go.RowKit

theorem c_25 (n : Nat) (a_0 : List (List UInt8)) (a0' : Option Addr) (c0' : Nat) (k_1 : Int) (w : World) {r : Int} (hm : m_laws_heldStringS n a_0 k_1 = some r) (h0 : Rd fStr.ty w a0' a_0) (hle0 : a_0.length ≤ c0') :
    CallV Try.prog 25 #[.slice a0' a_0.length c0', .int .i64 k_1] w (fun v w' => v = .int .i64 r ∧ Ext w w') := by
  unfold m_laws_heldStringS at hm
  refine CallV.enter Try.func25 rfl (by kernel_rfl) Try.ntmps25 (env := [(0, .slice a0' a_0.length c0'), (1, .int .i64 k_1)]) ⟨rfl, rfl, trivial⟩ ?_
  refine WP.seq (fun K1 hK1 => ?_)
  refine WP.region ?_
  refine WL.runk 1 [0, 1] [(0, .slice a0' a_0.length c0'), (1, .int .i64 k_1)] (by kernel_rfl) ?_
  refine WL.nil ?_
  refine WQ.then_normal (hK1 _ _ _ ?_)
  refine WP.seq (fun K2 hK2 => ?_)
  refine WP.seq (fun K3 hK3 => ?_)
  refine WP.region ?_
  refine WL.runk 1 [0, 1, 5] [(0, .slice a0' a_0.length c0'), (1, .int .i64 k_1), (5, .int .i64 0)] (by kernel_rfl) ?_
  refine WL.nil ?_
  refine WQ.then_normal (hK3 _ _ _ ?_)
  refine WP.block ?_
  obtain ⟨t15, ht16, hm⟩ := bindE hm
  have hmo10 := hm; clear hm
  refine WP.sub [(0, .slice a0' a_0.length c0'), (1, .int .i64 k_1), (5, .int .i64 0)] ⟨rfl, rfl, rfl, trivial⟩ ?_
  refine WP.loop (fun n' env' w' => ∃ (st4 : Int × Int) , env' = [(0, .slice a0' a_0.length c0'), (1, .int .i64 st4.1), (5, .int .i64 st4.2)] ∧ Ext w w' ∧ w.heap.size ≤ w'.heap.size ∧ SH w' w.heap.size [] ∧ loopN (m_laws_heldStringS_l1 n a_0) n' st4 = some t15) n ⟨(k_1, 0), rfl, (Ext.refl w), (Nat.le_refl _), (SH.nil _ _), ht16⟩ ?_
  rintro n12 _ w5 ⟨st4, rfl, hb6, hL7, hS8, hl9⟩ K11 hK11
  obtain ⟨n13, s14, rfl, hm, hl9⟩ := loopN_some hl9
  unfold m_laws_heldStringS_l1 at hm
  refine WP.seq (fun K17 hK17 => ?_)
  refine WP.seq (fun K18 hK18 => ?_)
  refine WP.region ?_
  refine WL.runk 4 [0, 1, 5, 9] [(0, .slice a0' a_0.length c0'), (1, .int .i64 st4.1), (5, .int .i64 st4.2), (9, .bool (decide (st4.2 < (a_0.length : Int))))] (by kernel_rfl) ?_
  refine WL.nil ?_
  refine WQ.then_normal (hK18 _ _ _ ?_)
  refine WP.cond (decide (st4.2 < (a_0.length : Int))) rfl rfl (fun hc19 => ?_) (fun hc19 => ?_)
  · have hm := iteT hm hc19
    refine WP.skip ?_
    refine WQ.then_normal (hK17 _ _ _ ?_)
    refine WP.seq (fun K20 hK20 => ?_)
    refine WP.block ?_
    refine WP.seq (fun K21 hK21 => ?_)
    refine WP.seq (fun K22 hK22 => ?_)
    refine WP.quiet (by kernel_rfl) (by kernel_rfl) ?_
    refine QL.step1 rfl (env' := [(0, .slice a0' a_0.length c0'), (1, .int .i64 st4.1), (5, .int .i64 st4.2), (9, .bool (decide (st4.2 < (a_0.length : Int)))), (12, .slice a0' a_0.length c0')]) (fun _ => by kernel_rfl) ?_
    refine QL.sub [(0, .slice a0' a_0.length c0'), (1, .int .i64 st4.1), (5, .int .i64 st4.2), (12, .slice a0' a_0.length c0')] ⟨rfl, rfl, rfl, rfl, trivial⟩ ?_
    refine QL.step1 rfl (env' := [(0, .slice a0' a_0.length c0'), (1, .int .i64 st4.1), (5, .int .i64 st4.2), (12, .slice a0' a_0.length c0'), (13, .int .i64 st4.2)]) (fun _ => by kernel_rfl) ?_
    obtain ⟨x23, hx24, hm⟩ := bindE hm
    refine QL.st (.pointer (some (at_ a0' (Int.toNat st4.2 * 1)))) (ST.index (T := fStr.ty) (xs := a_0) (Rd.below h0 hb6) hx24 rfl rfl rfl Try.underlying22 (info9).1 (info9).2.1) rfl rfl rfl ?_
    refine QL.st (.string (bs x23)) (ST.load (cell_ext (Rd.flat (F := fStr) (Rd.below h0 hb6) hx24 0 rfl)) rfl rfl Try.underlying9 rfl) rfl rfl rfl ?_
    refine QL.step1 rfl (env' := [(0, .slice a0' a_0.length c0'), (1, .int .i64 st4.1), (5, .int .i64 st4.2), (12, .slice a0' a_0.length c0'), (13, .int .i64 st4.2), (14, .pointer (some (at_ a0' (Int.toNat st4.2 * 1)))), (15, .string (bs x23)), (16, .int .i64 st4.1)]) (fun _ => by kernel_rfl) ?_
    refine QL.sub [(0, .slice a0' a_0.length c0'), (1, .int .i64 st4.1), (5, .int .i64 st4.2), (15, .string (bs x23)), (16, .int .i64 st4.1)] ⟨rfl, rfl, rfl, rfl, rfl, trivial⟩ ?_
    obtain ⟨x25, hx26, hm⟩ := bindE hm
    refine QL.call 57 #[.int .i64 st4.1] (.string (bs x25)) (fun _ => by kernel_rfl) (fun w27 hE28 => c_57 n st4.1 w27 hx26 ) rfl rfl rfl ?_
    refine QL.st (.bool (!(x23 == x25))) (ST.strne (x := x23) (y := x25) rfl rfl rfl) rfl rfl rfl ?_
    refine QL.sub [(0, .slice a0' a_0.length c0'), (1, .int .i64 st4.1), (5, .int .i64 st4.2), (18, .bool (!(x23 == x25)))] ⟨rfl, rfl, rfl, rfl, trivial⟩ ?_
    refine QL.nil ?_
    intro w29 hE30
    have hb31 : Ext w w29 := Ext.trans hb6 hE30
    have hL32 : w.heap.size ≤ w29.heap.size := Nat.le_trans hL7 hE30.size
    have hS33 : SH w29 w.heap.size [] := SH.ext hS8 hE30
    refine WQ.then_normal (hK22 _ _ _ ?_)
    refine WP.cond (!(x23 == x25)) rfl rfl (fun hc34 => ?_) (fun hc34 => ?_)
    · have hm := iteT hm hc34
      refine WP.seq (fun K35 hK35 => ?_)
      refine WP.region ?_
      refine WL.runk 1 [4] [(4, .int .i64 (-1))] (by kernel_rfl) ?_
      refine WL.nil ?_
      refine WQ.then_normal (hK35 _ _ _ ?_)
      refine WP.ret ?_
      refine WQ.then_ret ?_
      refine WQ.block_ret ?_
      refine WQ.then_ret ?_
      refine WQ.then_ret ?_
      refine WQ.block_ret ?_
      refine WQ.then_ret ?_
      obtain rfl := Option.some.inj hm
      obtain rfl := afterN_done hl9
      have hm := hmo10
      obtain rfl := Option.some.inj hm
      exact WQ.ret1 _ rfl rfl ⟨rfl, hb31⟩
    · have hm := iteF hm hc34
      refine WP.skip ?_
      refine WQ.then_normal (hK21 _ _ _ ?_)
      refine WP.region ?_
      refine WL.runk 3 [0, 1, 5] [(0, .slice a0' a_0.length c0'), (1, .int .i64 (wI64 (st4.1 + 1))), (5, .int .i64 st4.2)] (by kernel_rfl) ?_
      refine WL.nil ?_
      refine WQ.block_normal ?_
      refine WQ.then_normal (hK20 _ _ _ ?_)
      refine WP.region ?_
      refine WL.runk 3 [0, 1, 5] [(0, .slice a0' a_0.length c0'), (1, .int .i64 (wI64 (st4.1 + 1))), (5, .int .i64 (wI64 (st4.2 + 1)))] (by kernel_rfl) ?_
      refine WL.nil ?_
      obtain rfl := Option.some.inj hm
      exact WQ.round hK11 ⟨((wI64 (st4.1 + 1)), (wI64 (st4.2 + 1))), rfl, hb31, hL32, hS33, hl9⟩ (Nat.lt_succ_self _) ⟨rfl, rfl, rfl, trivial⟩
  · have hm := iteF hm hc19
    refine WP.exit ?_
    refine WQ.then_exit ?_
    refine WQ.then_exit ?_
    refine WQ.block_here ?_
    obtain rfl := Option.some.inj hm
    obtain rfl := afterN_done hl9
    have hm := hmo10
    refine WQ.then_normal (hK2 _ _ _ ?_)
    refine WP.seq (fun K36 hK36 => ?_)
    refine WP.region ?_
    refine WL.runk 2 [4] [(4, .int .i64 st4.1)] (by kernel_rfl) ?_
    refine WL.nil ?_
    refine WQ.then_normal (hK36 _ _ _ ?_)
    refine WP.ret ?_
    obtain rfl := Option.some.inj hm
    exact WQ.ret1 _ rfl rfl ⟨rfl, hb6⟩

theorem c_5 (n : Nat) (aRows_0 : List (List UInt8)) (a0' : Option Addr) (c0' : Nat) (w : World) {r : Bool} (hm : m_laws_FnExactMirrorWear n aRows_0 = some r) (h0 : Rd fStr.ty w a0' aRows_0) (hle0 : aRows_0.length ≤ c0') :
    CallV Try.prog 5 #[.slice a0' aRows_0.length c0'] w (fun v w' => v = .bool r ∧ Ext w w') := by
  unfold m_laws_FnExactMirrorWear at hm
  refine CallV.enter Try.func5 rfl (by kernel_rfl) Try.ntmps5 (env := [(0, .slice a0' aRows_0.length c0')]) ⟨rfl, trivial⟩ ?_
  refine WP.seq (fun K1 hK1 => ?_)
  refine WP.region ?_
  refine WL.runk 1 [0] [(0, .slice a0' aRows_0.length c0')] (by kernel_rfl) ?_
  refine WL.nil ?_
  refine WQ.then_normal (hK1 _ _ _ ?_)
  refine WP.seq (fun K2 hK2 => ?_)
  refine WP.region ?_
  refine WL.runk 1 [0, 3] [(0, .slice a0' aRows_0.length c0'), (3, .int .i64 1048576)] (by kernel_rfl) ?_
  refine WL.nil ?_
  refine WQ.then_normal (hK2 _ _ _ ?_)
  refine WP.seq (fun K3 hK3 => ?_)
  refine WP.region ?_
  refine WL.runk 2 [0, 14, 15] [(0, .slice a0' aRows_0.length c0'), (14, .slice a0' aRows_0.length c0'), (15, .int .i64 1048576)] (by kernel_rfl) ?_
  obtain ⟨x4, hx5, hm⟩ := bindE hm
  refine WL.call 15 #[.slice a0' aRows_0.length c0', .int .i64 1048576] rfl rfl (by kernel_rfl) (c_15 n aRows_0 a0' c0' 1048576 w hx5 (Rd.below h0 (Ext.refl w)) hle0) ?_
  rintro _ w6 ⟨rfl, hE7⟩
  refine ⟨_, rfl, ?_⟩
  have hb9 : Ext w w6 := Ext.trans (Ext.refl w) hE7
  have hL10 : w.heap.size ≤ w6.heap.size := Nat.le_trans (Nat.le_refl _) hE7.size
  have hS11 : SH w6 w.heap.size [] := SH.ext (SH.nil _ _) hE7
  refine WL.runk 1 [0, 3] [(0, .slice a0' aRows_0.length c0'), (3, .int .i64 x4)] (by kernel_rfl) ?_
  refine WL.nil ?_
  refine WQ.then_normal (hK3 _ _ _ ?_)
  refine WP.seq (fun K12 hK12 => ?_)
  refine WP.seq (fun K13 hK13 => ?_)
  refine WP.region ?_
  refine WL.runk 2 [0, 18] [(0, .slice a0' aRows_0.length c0'), (18, .bool (decide (x4 < 0)))] (by kernel_rfl) ?_
  refine WL.nil ?_
  refine WQ.then_normal (hK13 _ _ _ ?_)
  refine WP.cond (decide (x4 < 0)) rfl rfl (fun hc14 => ?_) (fun hc14 => ?_)
  · have hm := iteT hm hc14
    refine WP.seq (fun K15 hK15 => ?_)
    refine WP.region ?_
    refine WL.runk 1 [2] [(2, .bool true)] (by kernel_rfl) ?_
    refine WL.nil ?_
    refine WQ.then_normal (hK15 _ _ _ ?_)
    refine WP.ret ?_
    refine WQ.then_ret ?_
    obtain rfl := Option.some.inj hm
    exact WQ.ret1 _ rfl rfl ⟨rfl, hb9⟩
  · have hm := iteF hm hc14
    refine WP.skip ?_
    refine WQ.then_normal (hK12 _ _ _ ?_)
    refine WP.seq (fun K16 hK16 => ?_)
    refine WP.region ?_
    refine WL.runk 1 [0, 20] [(0, .slice a0' aRows_0.length c0'), (20, .slice a0' aRows_0.length c0')] (by kernel_rfl) ?_
    obtain ⟨x17, hx18, hm⟩ := bindE hm
    refine WL.call 17 #[.slice a0' aRows_0.length c0'] rfl rfl (by kernel_rfl) (c_17 n aRows_0 a0' c0' w6 hx18 (Rd.below h0 hb9) hle0) ?_
    rintro _ w22 ⟨a19, c20, rfl, hE23, hR24⟩
    refine ⟨_, rfl, ?_⟩
    have hb25 : Ext w w22 := Ext.trans hb9 hE23
    have hL26 : w.heap.size ≤ w22.heap.size := Nat.le_trans hL10 hE23.size
    have hS27 : SH w22 w.heap.size [aOwn fStr 9 a19 c20 x17] := SH.add hS11 hE23 hL10 hR24
    obtain ⟨x28, hx29, hm⟩ := bindE hm
    refine WL.call 22 #[.slice a19 x17.length c20] rfl rfl (by kernel_rfl) (c_22 n x17 a19 c20 w22 hx29 (SH.rd (SH.front 0 hS27)) (SH.le (SH.front 0 hS27)).1) ?_
    rintro _ w33 ⟨a30, c31, rfl, hE34, hR35⟩
    refine ⟨_, rfl, ?_⟩
    have hb36 : Ext w w33 := Ext.trans hb25 hE34
    have hL37 : w.heap.size ≤ w33.heap.size := Nat.le_trans hL26 hE34.size
    have hS38 : SH w33 w.heap.size [aOwn fStr 9 a30 c31 x28.1, aOwn fStr 9 a19 c20 x17] := SH.add hS27 hE34 hL26 hR35
    refine WL.runk 5 [0, 4, 5] [(0, .slice a0' aRows_0.length c0'), (4, .slice a30 x28.1.length c31), (5, .int .i64 x28.2)] (by kernel_rfl) ?_
    refine WL.nil ?_
    refine WQ.then_normal (hK16 _ _ _ ?_)
    refine WP.seq (fun K39 hK39 => ?_)
    refine WP.region ?_
    refine WL.runk 1 [0, 4, 5, 25] [(0, .slice a0' aRows_0.length c0'), (4, .slice a30 x28.1.length c31), (5, .int .i64 x28.2), (25, .slice a0' aRows_0.length c0')] (by kernel_rfl) ?_
    obtain ⟨x40, hx41, hm⟩ := bindE hm
    refine WL.call 17 #[.slice a0' aRows_0.length c0'] rfl rfl (by kernel_rfl) (c_17 n aRows_0 a0' c0' w33 hx41 (Rd.below h0 hb36) hle0) ?_
    rintro _ w45 ⟨a42, c43, rfl, hE46, hR47⟩
    refine ⟨_, rfl, ?_⟩
    have hb48 : Ext w w45 := Ext.trans hb36 hE46
    have hL49 : w.heap.size ≤ w45.heap.size := Nat.le_trans hL37 hE46.size
    have hS50 : SH w45 w.heap.size [aOwn fStr 9 a42 c43 x40, aOwn fStr 9 a30 c31 x28.1, aOwn fStr 9 a19 c20 x17] := SH.add hS38 hE46 hL37 hR47
    refine WL.runk 1 [0, 4, 5, 6] [(0, .slice a0' aRows_0.length c0'), (4, .slice a30 x28.1.length c31), (5, .int .i64 x28.2), (6, .slice a42 x40.length c43)] (by kernel_rfl) ?_
    refine WL.nil ?_
    refine WQ.then_normal (hK39 _ _ _ ?_)
    refine WP.seq (fun K51 hK51 => ?_)
    refine WP.region ?_
    refine WL.runk 1 [0, 4, 5, 6, 28] [(0, .slice a0' aRows_0.length c0'), (4, .slice a30 x28.1.length c31), (5, .int .i64 x28.2), (6, .slice a42 x40.length c43), (28, .slice a42 x40.length c43)] (by kernel_rfl) ?_
    obtain ⟨x52, hx53, hm⟩ := bindE hm
    refine WL.call 23 #[.slice a42 x40.length c43] rfl rfl (by kernel_rfl) (c_23 n x40 a42 c43 w45 hx53 (SH.rd (SH.front 0 hS50)) (SH.le (SH.front 0 hS50)).1) ?_
    rintro _ w57 ⟨a54, c55, rfl, hE58, hR59⟩
    refine ⟨_, rfl, ?_⟩
    have hb60 : Ext w w57 := Ext.trans hb48 hE58
    have hL61 : w.heap.size ≤ w57.heap.size := Nat.le_trans hL49 hE58.size
    have hS62 : SH w57 w.heap.size [aOwn fStr 9 a54 c55 x52.1, aOwn fStr 9 a42 c43 x40, aOwn fStr 9 a30 c31 x28.1, aOwn fStr 9 a19 c20 x17] := SH.add hS50 hE58 hL49 hR59
    refine WL.runk 5 [0, 4, 5, 6, 7, 8] [(0, .slice a0' aRows_0.length c0'), (4, .slice a30 x28.1.length c31), (5, .int .i64 x28.2), (6, .slice a42 x40.length c43), (7, .slice a54 x52.1.length c55), (8, .int .i64 x52.2)] (by kernel_rfl) ?_
    refine WL.nil ?_
    refine WQ.then_normal (hK51 _ _ _ ?_)
    refine WP.seq (fun K63 hK63 => ?_)
    refine WP.seq (fun K64 hK64 => ?_)
    obtain ⟨x74, hx75, hm⟩ := bindE hm
    refine WP.cut (fun env' w' => env' = [(0, .slice a0' aRows_0.length c0'), (4, .slice a30 x28.1.length c31), (5, .int .i64 x28.2), (6, .slice a42 x40.length c43), (7, .slice a54 x52.1.length c55), (8, .int .i64 x52.2), (40, .bool x74)] ∧ Ext w w' ∧ w.heap.size ≤ w'.heap.size ∧ SH w' w.heap.size [aOwn fStr 9 a54 c55 x52.1, aOwn fStr 9 a42 c43 x40, aOwn fStr 9 a30 c31 x28.1, aOwn fStr 9 a19 c20 x17]) ?_ ?_
    · have hm := hx75; clear hx75
      refine WP.region ?_
      refine WL.runk 2 [0, 4, 5, 6, 7, 8, 32, 33] [(0, .slice a0' aRows_0.length c0'), (4, .slice a30 x28.1.length c31), (5, .int .i64 x28.2), (6, .slice a42 x40.length c43), (7, .slice a54 x52.1.length c55), (8, .int .i64 x52.2), (32, .slice a54 x52.1.length c55), (33, .slice a30 x28.1.length c31)] (by kernel_rfl) ?_
      obtain ⟨x76, hx77, hm⟩ := bindE hm
      refine WL.call 19 #[.slice a54 x52.1.length c55, .slice a30 x28.1.length c31] rfl rfl (by kernel_rfl) (c_19 n x52.1 a54 c55 x28.1 a30 c31 w57 hx77 (SH.rd (SH.front 0 hS62)) (SH.le (SH.front 0 hS62)).1 (SH.rd (SH.front 2 hS62)) (SH.le (SH.front 2 hS62)).1) ?_
      rintro _ w78 ⟨rfl, hE79⟩
      refine ⟨_, rfl, ?_⟩
      have hb81 : Ext w w78 := Ext.trans hb60 hE79
      have hL82 : w.heap.size ≤ w78.heap.size := Nat.le_trans hL61 hE79.size
      have hS83 : SH w78 w.heap.size [aOwn fStr 9 a54 c55 x52.1, aOwn fStr 9 a42 c43 x40, aOwn fStr 9 a30 c31 x28.1, aOwn fStr 9 a19 c20 x17] := SH.ext hS62 hE79
      refine WL.runk 2 [0, 4, 5, 6, 7, 8, 36] [(0, .slice a0' aRows_0.length c0'), (4, .slice a30 x28.1.length c31), (5, .int .i64 x28.2), (6, .slice a42 x40.length c43), (7, .slice a54 x52.1.length c55), (8, .int .i64 x52.2), (36, .bool (!x76))] (by kernel_rfl) ?_
      refine WL.case (!x76) [36] ⟨rfl, trivial⟩ (fun hc84 => ?_) (fun hc84 => ?_)
      · have hm := iteT hm hc84
        refine WL.runk 4 [0, 4, 5, 6, 7, 8, 40] [(0, .slice a0' aRows_0.length c0'), (4, .slice a30 x28.1.length c31), (5, .int .i64 x28.2), (6, .slice a42 x40.length c43), (7, .slice a54 x52.1.length c55), (8, .int .i64 x52.2), (40, .bool true)] (by kernel_rfl) ?_
        refine WL.nil ?_
        obtain rfl := Option.some.inj hm
        exact WQ.post' ⟨rfl, hb81, hL82, hS83⟩ ⟨rfl, rfl, rfl, rfl, rfl, rfl, rfl, trivial⟩
      · have hm := iteF hm hc84
        refine WL.runk 4 [0, 4, 5, 6, 7, 8, 40] [(0, .slice a0' aRows_0.length c0'), (4, .slice a30 x28.1.length c31), (5, .int .i64 x28.2), (6, .slice a42 x40.length c43), (7, .slice a54 x52.1.length c55), (8, .int .i64 x52.2), (40, .bool (x52.2 != x28.2))] (by kernel_rfl) ?_
        refine WL.nil ?_
        obtain rfl := Option.some.inj hm
        exact WQ.post' ⟨rfl, hb81, hL82, hS83⟩ ⟨rfl, rfl, rfl, rfl, rfl, rfl, rfl, trivial⟩
    · clear hx75
      rintro _ w85 ⟨rfl, hb86, hL87, hS88⟩
      refine WQ.then_normal (hK64 _ _ _ ?_)
      refine WP.cond x74 rfl rfl (fun hc89 => ?_) (fun hc89 => ?_)
      · have hm := iteT hm hc89
        refine WP.seq (fun K90 hK90 => ?_)
        refine WP.region ?_
        refine WL.runk 1 [2] [(2, .bool false)] (by kernel_rfl) ?_
        refine WL.nil ?_
        refine WQ.then_normal (hK90 _ _ _ ?_)
        refine WP.ret ?_
        refine WQ.then_ret ?_
        obtain rfl := Option.some.inj hm
        exact WQ.ret1 _ rfl rfl ⟨rfl, hb86⟩
      · have hm := iteF hm hc89
        refine WP.skip ?_
        refine WQ.then_normal (hK63 _ _ _ ?_)
        refine WP.seq (fun K91 hK91 => ?_)
        refine WP.seq (fun K92 hK92 => ?_)
        refine WP.region ?_
        refine WL.runk 2 [0, 4, 5, 6, 7, 8, 41, 42] [(0, .slice a0' aRows_0.length c0'), (4, .slice a30 x28.1.length c31), (5, .int .i64 x28.2), (6, .slice a42 x40.length c43), (7, .slice a54 x52.1.length c55), (8, .int .i64 x52.2), (41, .slice a42 x40.length c43), (42, .slice a0' aRows_0.length c0')] (by kernel_rfl) ?_
        obtain ⟨x93, hx94, hm⟩ := bindE hm
        refine WL.call 17 #[.slice a0' aRows_0.length c0'] rfl rfl (by kernel_rfl) (c_17 n aRows_0 a0' c0' w85 hx94 (Rd.below h0 hb86) hle0) ?_
        rintro _ w98 ⟨a95, c96, rfl, hE99, hR100⟩
        refine ⟨_, rfl, ?_⟩
        have hb101 : Ext w w98 := Ext.trans hb86 hE99
        have hL102 : w.heap.size ≤ w98.heap.size := Nat.le_trans hL87 hE99.size
        have hS103 : SH w98 w.heap.size [aOwn fStr 9 a95 c96 x93, aOwn fStr 9 a54 c55 x52.1, aOwn fStr 9 a42 c43 x40, aOwn fStr 9 a30 c31 x28.1, aOwn fStr 9 a19 c20 x17] := SH.add hS88 hE99 hL87 hR100
        obtain ⟨x104, hx105, hm⟩ := bindE hm
        refine WL.call 19 #[.slice a42 x40.length c43, .slice a95 x93.length c96] rfl rfl (by kernel_rfl) (c_19 n x40 a42 c43 x93 a95 c96 w98 hx105 (SH.rd (SH.front 2 hS103)) (SH.le (SH.front 2 hS103)).1 (SH.rd (SH.front 0 hS103)) (SH.le (SH.front 0 hS103)).1) ?_
        rintro _ w106 ⟨rfl, hE107⟩
        refine ⟨_, rfl, ?_⟩
        have hb109 : Ext w w106 := Ext.trans hb101 hE107
        have hL110 : w.heap.size ≤ w106.heap.size := Nat.le_trans hL102 hE107.size
        have hS111 : SH w106 w.heap.size [aOwn fStr 9 a95 c96 x93, aOwn fStr 9 a54 c55 x52.1, aOwn fStr 9 a42 c43 x40, aOwn fStr 9 a30 c31 x28.1, aOwn fStr 9 a19 c20 x17] := SH.ext hS103 hE107
        refine WL.runk 1 [0, 4, 5, 6, 7, 8, 45] [(0, .slice a0' aRows_0.length c0'), (4, .slice a30 x28.1.length c31), (5, .int .i64 x28.2), (6, .slice a42 x40.length c43), (7, .slice a54 x52.1.length c55), (8, .int .i64 x52.2), (45, .bool (!x104))] (by kernel_rfl) ?_
        refine WL.nil ?_
        refine WQ.then_normal (hK92 _ _ _ ?_)
        refine WP.cond (!x104) rfl rfl (fun hc112 => ?_) (fun hc112 => ?_)
        · have hm := iteT hm hc112
          refine WP.seq (fun K113 hK113 => ?_)
          refine WP.region ?_
          refine WL.runk 1 [2] [(2, .bool false)] (by kernel_rfl) ?_
          refine WL.nil ?_
          refine WQ.then_normal (hK113 _ _ _ ?_)
          refine WP.ret ?_
          refine WQ.then_ret ?_
          obtain rfl := Option.some.inj hm
          exact WQ.ret1 _ rfl rfl ⟨rfl, hb109⟩
        · have hm := iteF hm hc112
          refine WP.skip ?_
          refine WQ.then_normal (hK91 _ _ _ ?_)
          refine WP.seq (fun K114 hK114 => ?_)
          refine WP.region ?_
          refine WL.runk 1 [0, 4, 5, 6, 7, 8, 9] [(0, .slice a0' aRows_0.length c0'), (4, .slice a30 x28.1.length c31), (5, .int .i64 x28.2), (6, .slice a42 x40.length c43), (7, .slice a54 x52.1.length c55), (8, .int .i64 x52.2), (9, .int .i64 1)] (by kernel_rfl) ?_
          refine WL.nil ?_
          refine WQ.then_normal (hK114 _ _ _ ?_)
          refine WP.seq (fun K115 hK115 => ?_)
          refine WP.region ?_
          refine WL.runk 2 [0, 4, 5, 7, 8, 46, 47] [(0, .slice a0' aRows_0.length c0'), (4, .slice a30 x28.1.length c31), (5, .int .i64 x28.2), (7, .slice a54 x52.1.length c55), (8, .int .i64 x52.2), (46, .slice a42 x40.length c43), (47, .int .i64 1)] (by kernel_rfl) ?_
          obtain ⟨x116, hx117, hm⟩ := bindE hm
          refine WL.call 24 #[.slice a42 x40.length c43, .int .i64 1] rfl rfl (by kernel_rfl) (c_24 n x40 a42 c43 1 w106 w w.heap.size [aOwn fStr 9 a95 c96 x93, aOwn fStr 9 a54 c55 x52.1, aOwn fStr 9 a30 c31 x28.1, aOwn fStr 9 a19 c20 x17] hx117 hb109 (Nat.le_refl _) hL110  (SH.front 4 (SH.front 3 (SH.front 3 (SH.front 4 (SH.front 4 hS111)))))) ?_
          rintro _ w118 ⟨rfl, hB122, hS121, hlen123⟩
          refine ⟨_, rfl, ?_⟩
          have hb124 : Ext w w118 := Below.trans hb109 hB122
          have hL125 : w.heap.size ≤ w118.heap.size := Nat.le_trans hL110 hB122.size
          refine WL.sub [(0, .slice a0' aRows_0.length c0'), (4, .slice a30 x28.1.length c31), (5, .int .i64 x28.2), (7, .slice a54 x52.1.length c55), (8, .int .i64 x52.2), (46, .slice a42 x116.2.length c43), (47, .int .i64 1), (48, .int .i64 x116.1)] ⟨rfl, rfl, rfl, rfl, rfl, by rw [hlen123]; rfl, rfl, rfl, trivial⟩ ?_
          refine WL.runk 1 [0, 4, 5, 7, 8, 9] [(0, .slice a0' aRows_0.length c0'), (4, .slice a30 x28.1.length c31), (5, .int .i64 x28.2), (7, .slice a54 x52.1.length c55), (8, .int .i64 x52.2), (9, .int .i64 x116.1)] (by kernel_rfl) ?_
          refine WL.nil ?_
          refine WQ.then_normal (hK115 _ _ _ ?_)
          refine WP.seq (fun K126 hK126 => ?_)
          refine WP.seq (fun K127 hK127 => ?_)
          obtain ⟨x138, hx139, hm⟩ := bindE hm
          refine WP.cut (fun env' w' => env' = [(0, .slice a0' aRows_0.length c0'), (4, .slice a30 x28.1.length c31), (5, .int .i64 x28.2), (7, .slice a54 x52.1.length c55), (61, .bool x138)] ∧ Ext w w' ∧ w.heap.size ≤ w'.heap.size ∧ SH w' w.heap.size [aOwn fStr 9 a42 c43 x116.2, aOwn fStr 9 a95 c96 x93, aOwn fStr 9 a54 c55 x52.1, aOwn fStr 9 a30 c31 x28.1, aOwn fStr 9 a19 c20 x17]) ?_ ?_
          · have hm := hx139; clear hx139
            refine WP.region ?_
            refine WL.runk 3 [0, 4, 5, 7, 8, 51] [(0, .slice a0' aRows_0.length c0'), (4, .slice a30 x28.1.length c31), (5, .int .i64 x28.2), (7, .slice a54 x52.1.length c55), (8, .int .i64 x52.2), (51, .bool (decide (x116.1 < 0)))] (by kernel_rfl) ?_
            refine WL.case (decide (x116.1 < 0)) [51] ⟨rfl, trivial⟩ (fun hc140 => ?_) (fun hc140 => ?_)
            · have hm := iteT hm hc140
              refine WL.runk 10 [0, 4, 5, 7, 61] [(0, .slice a0' aRows_0.length c0'), (4, .slice a30 x28.1.length c31), (5, .int .i64 x28.2), (7, .slice a54 x52.1.length c55), (61, .bool true)] (by kernel_rfl) ?_
              refine WL.nil ?_
              obtain rfl := Option.some.inj hm
              exact WQ.post' ⟨rfl, hb124, hL125, hS121⟩ ⟨rfl, rfl, rfl, rfl, rfl, trivial⟩
            · have hm := iteF hm hc140
              refine WL.runk 2 [0, 4, 5, 7, 8, 51, 52, 53] [(0, .slice a0' aRows_0.length c0'), (4, .slice a30 x28.1.length c31), (5, .int .i64 x28.2), (7, .slice a54 x52.1.length c55), (8, .int .i64 x52.2), (51, .bool false), (52, .slice a54 x52.1.length c55), (53, .slice a30 x28.1.length c31)] (by kernel_rfl) ?_
              obtain ⟨x141, hx142, hm⟩ := bindE hm
              refine WL.call 19 #[.slice a54 x52.1.length c55, .slice a30 x28.1.length c31] rfl rfl (by kernel_rfl) (c_19 n x52.1 a54 c55 x28.1 a30 c31 w118 hx142 (SH.rd (SH.front 2 hS121)) (SH.le (SH.front 2 hS121)).1 (SH.rd (SH.front 3 hS121)) (SH.le (SH.front 3 hS121)).1) ?_
              rintro _ w143 ⟨rfl, hE144⟩
              refine ⟨_, rfl, ?_⟩
              have hb146 : Ext w w143 := Ext.trans hb124 hE144
              have hL147 : w.heap.size ≤ w143.heap.size := Nat.le_trans hL125 hE144.size
              have hS148 : SH w143 w.heap.size [aOwn fStr 9 a42 c43 x116.2, aOwn fStr 9 a95 c96 x93, aOwn fStr 9 a54 c55 x52.1, aOwn fStr 9 a30 c31 x28.1, aOwn fStr 9 a19 c20 x17] := SH.ext hS121 hE144
              refine WL.runk 3 [0, 4, 5, 7, 8, 57] [(0, .slice a0' aRows_0.length c0'), (4, .slice a30 x28.1.length c31), (5, .int .i64 x28.2), (7, .slice a54 x52.1.length c55), (8, .int .i64 x52.2), (57, .bool (!x141))] (by kernel_rfl) ?_
              refine WL.case (!x141) [57] ⟨rfl, trivial⟩ (fun hc149 => ?_) (fun hc149 => ?_)
              · have hm := iteT hm hc149
                refine WL.runk 4 [0, 4, 5, 7, 61] [(0, .slice a0' aRows_0.length c0'), (4, .slice a30 x28.1.length c31), (5, .int .i64 x28.2), (7, .slice a54 x52.1.length c55), (61, .bool true)] (by kernel_rfl) ?_
                refine WL.nil ?_
                obtain rfl := Option.some.inj hm
                exact WQ.post' ⟨rfl, hb146, hL147, hS148⟩ ⟨rfl, rfl, rfl, rfl, rfl, trivial⟩
              · have hm := iteF hm hc149
                refine WL.runk 4 [0, 4, 5, 7, 61] [(0, .slice a0' aRows_0.length c0'), (4, .slice a30 x28.1.length c31), (5, .int .i64 x28.2), (7, .slice a54 x52.1.length c55), (61, .bool (x52.2 != x28.2))] (by kernel_rfl) ?_
                refine WL.nil ?_
                obtain rfl := Option.some.inj hm
                exact WQ.post' ⟨rfl, hb146, hL147, hS148⟩ ⟨rfl, rfl, rfl, rfl, rfl, trivial⟩
          · clear hx139
            rintro _ w150 ⟨rfl, hb151, hL152, hS153⟩
            refine WQ.then_normal (hK127 _ _ _ ?_)
            refine WP.cond x138 rfl rfl (fun hc154 => ?_) (fun hc154 => ?_)
            · have hm := iteT hm hc154
              refine WP.seq (fun K155 hK155 => ?_)
              refine WP.region ?_
              refine WL.runk 1 [2] [(2, .bool false)] (by kernel_rfl) ?_
              refine WL.nil ?_
              refine WQ.then_normal (hK155 _ _ _ ?_)
              refine WP.ret ?_
              refine WQ.then_ret ?_
              obtain rfl := Option.some.inj hm
              exact WQ.ret1 _ rfl rfl ⟨rfl, hb151⟩
            · have hm := iteF hm hc154
              refine WP.skip ?_
              refine WQ.then_normal (hK126 _ _ _ ?_)
              refine WP.seq (fun K156 hK156 => ?_)
              refine WP.region ?_
              refine WL.runk 1 [0, 4, 5, 7, 10] [(0, .slice a0' aRows_0.length c0'), (4, .slice a30 x28.1.length c31), (5, .int .i64 x28.2), (7, .slice a54 x52.1.length c55), (10, .int .i64 1)] (by kernel_rfl) ?_
              refine WL.nil ?_
              refine WQ.then_normal (hK156 _ _ _ ?_)
              refine WP.seq (fun K157 hK157 => ?_)
              refine WP.region ?_
              refine WL.runk 2 [0, 4, 5, 7, 62, 63] [(0, .slice a0' aRows_0.length c0'), (4, .slice a30 x28.1.length c31), (5, .int .i64 x28.2), (7, .slice a54 x52.1.length c55), (62, .slice a54 x52.1.length c55), (63, .int .i64 1)] (by kernel_rfl) ?_
              obtain ⟨x158, hx159, hm⟩ := bindE hm
              refine WL.call 24 #[.slice a54 x52.1.length c55, .int .i64 1] rfl rfl (by kernel_rfl) (c_24 n x52.1 a54 c55 1 w150 w w.heap.size [aOwn fStr 9 a42 c43 x116.2, aOwn fStr 9 a95 c96 x93, aOwn fStr 9 a30 c31 x28.1, aOwn fStr 9 a19 c20 x17] hx159 hb151 (Nat.le_refl _) hL152  (SH.front 4 (SH.front 3 (SH.front 3 (SH.front 4 (SH.front 4 hS153)))))) ?_
              rintro _ w160 ⟨rfl, hB164, hS163, hlen165⟩
              refine ⟨_, rfl, ?_⟩
              have hb166 : Ext w w160 := Below.trans hb151 hB164
              have hL167 : w.heap.size ≤ w160.heap.size := Nat.le_trans hL152 hB164.size
              refine WL.sub [(0, .slice a0' aRows_0.length c0'), (4, .slice a30 x28.1.length c31), (5, .int .i64 x28.2), (7, .slice a54 x158.2.length c55), (62, .slice a54 x158.2.length c55), (63, .int .i64 1), (64, .int .i64 x158.1)] ⟨rfl, rfl, rfl, by rw [hlen165]; rfl, by rw [hlen165]; rfl, rfl, rfl, trivial⟩ ?_
              refine WL.runk 1 [0, 4, 5, 7, 10] [(0, .slice a0' aRows_0.length c0'), (4, .slice a30 x28.1.length c31), (5, .int .i64 x28.2), (7, .slice a54 x158.2.length c55), (10, .int .i64 x158.1)] (by kernel_rfl) ?_
              refine WL.nil ?_
              refine WQ.then_normal (hK157 _ _ _ ?_)
              refine WP.seq (fun K168 hK168 => ?_)
              refine WP.region ?_
              refine WL.runk 1 [0, 4, 5, 7, 10, 11] [(0, .slice a0' aRows_0.length c0'), (4, .slice a30 x28.1.length c31), (5, .int .i64 x28.2), (7, .slice a54 x158.2.length c55), (10, .int .i64 x158.1), (11, .int .i64 1)] (by kernel_rfl) ?_
              refine WL.nil ?_
              refine WQ.then_normal (hK168 _ _ _ ?_)
              refine WP.seq (fun K169 hK169 => ?_)
              refine WP.region ?_
              refine WL.runk 2 [0, 4, 5, 7, 10, 65, 66] [(0, .slice a0' aRows_0.length c0'), (4, .slice a30 x28.1.length c31), (5, .int .i64 x28.2), (7, .slice a54 x158.2.length c55), (10, .int .i64 x158.1), (65, .slice a54 x158.2.length c55), (66, .int .i64 1)] (by kernel_rfl) ?_
              obtain ⟨x170, hx171, hm⟩ := bindE hm
              refine WL.call 25 #[.slice a54 x158.2.length c55, .int .i64 1] rfl rfl (by kernel_rfl) (c_25 n x158.2 a54 c55 1 w160 hx171 (SH.rd (SH.front 0 hS163)) (SH.le (SH.front 0 hS163)).1) ?_
              rintro _ w172 ⟨rfl, hE173⟩
              refine ⟨_, rfl, ?_⟩
              have hb175 : Ext w w172 := Ext.trans hb166 hE173
              have hL176 : w.heap.size ≤ w172.heap.size := Nat.le_trans hL167 hE173.size
              have hS177 : SH w172 w.heap.size [aOwn fStr 9 a54 c55 x158.2, aOwn fStr 9 a42 c43 x116.2, aOwn fStr 9 a95 c96 x93, aOwn fStr 9 a30 c31 x28.1, aOwn fStr 9 a19 c20 x17] := SH.ext hS163 hE173
              refine WL.runk 1 [0, 4, 5, 7, 10, 11] [(0, .slice a0' aRows_0.length c0'), (4, .slice a30 x28.1.length c31), (5, .int .i64 x28.2), (7, .slice a54 x158.2.length c55), (10, .int .i64 x158.1), (11, .int .i64 x170)] (by kernel_rfl) ?_
              refine WL.nil ?_
              refine WQ.then_normal (hK169 _ _ _ ?_)
              refine WP.seq (fun K178 hK178 => ?_)
              refine WP.seq (fun K179 hK179 => ?_)
              refine WP.region ?_
              refine WL.runk 2 [0, 4, 5, 7, 10, 11, 69] [(0, .slice a0' aRows_0.length c0'), (4, .slice a30 x28.1.length c31), (5, .int .i64 x28.2), (7, .slice a54 x158.2.length c55), (10, .int .i64 x158.1), (11, .int .i64 x170), (69, .bool (decide (x170 < 0)))] (by kernel_rfl) ?_
              refine WL.nil ?_
              refine WQ.then_normal (hK179 _ _ _ ?_)
              refine WP.cond (decide (x170 < 0)) rfl rfl (fun hc180 => ?_) (fun hc180 => ?_)
              · have hm := iteT hm hc180
                refine WP.seq (fun K181 hK181 => ?_)
                refine WP.region ?_
                refine WL.runk 1 [2] [(2, .bool false)] (by kernel_rfl) ?_
                refine WL.nil ?_
                refine WQ.then_normal (hK181 _ _ _ ?_)
                refine WP.ret ?_
                refine WQ.then_ret ?_
                obtain rfl := Option.some.inj hm
                exact WQ.ret1 _ rfl rfl ⟨rfl, hb175⟩
              · have hm := iteF hm hc180
                refine WP.skip ?_
                refine WQ.then_normal (hK178 _ _ _ ?_)
                refine WP.seq (fun K182 hK182 => ?_)
                refine WP.seq (fun K183 hK183 => ?_)
                refine WP.region ?_
                refine WL.runk 3 [0, 4, 5, 7, 10, 72] [(0, .slice a0' aRows_0.length c0'), (4, .slice a30 x28.1.length c31), (5, .int .i64 x28.2), (7, .slice a54 x158.2.length c55), (10, .int .i64 x158.1), (72, .bool (x170 != x158.1))] (by kernel_rfl) ?_
                refine WL.nil ?_
                refine WQ.then_normal (hK183 _ _ _ ?_)
                refine WP.cond (x170 != x158.1) rfl rfl (fun hc184 => ?_) (fun hc184 => ?_)
                · have hm := iteT hm hc184
                  refine WP.seq (fun K185 hK185 => ?_)
                  refine WP.region ?_
                  refine WL.runk 1 [2] [(2, .bool false)] (by kernel_rfl) ?_
                  refine WL.nil ?_
                  refine WQ.then_normal (hK185 _ _ _ ?_)
                  refine WP.ret ?_
                  refine WQ.then_ret ?_
                  obtain rfl := Option.some.inj hm
                  exact WQ.ret1 _ rfl rfl ⟨rfl, hb175⟩
                · have hm := iteF hm hc184
                  refine WP.skip ?_
                  refine WQ.then_normal (hK182 _ _ _ ?_)
                  refine WP.seq (fun K186 hK186 => ?_)
                  refine WP.region ?_
                  refine WL.runk 1 [4, 5, 7, 10, 74] [(4, .slice a30 x28.1.length c31), (5, .int .i64 x28.2), (7, .slice a54 x158.2.length c55), (10, .int .i64 x158.1), (74, .slice a0' aRows_0.length c0')] (by kernel_rfl) ?_
                  obtain ⟨x187, hx188, hm⟩ := bindE hm
                  refine WL.call 17 #[.slice a0' aRows_0.length c0'] rfl rfl (by kernel_rfl) (c_17 n aRows_0 a0' c0' w172 hx188 (Rd.below h0 hb175) hle0) ?_
                  rintro _ w192 ⟨a189, c190, rfl, hE193, hR194⟩
                  refine ⟨_, rfl, ?_⟩
                  have hb195 : Ext w w192 := Ext.trans hb175 hE193
                  have hL196 : w.heap.size ≤ w192.heap.size := Nat.le_trans hL176 hE193.size
                  have hS197 : SH w192 w.heap.size [aOwn fStr 9 a189 c190 x187, aOwn fStr 9 a54 c55 x158.2, aOwn fStr 9 a42 c43 x116.2, aOwn fStr 9 a95 c96 x93, aOwn fStr 9 a30 c31 x28.1, aOwn fStr 9 a19 c20 x17] := SH.add hS177 hE193 hL176 hR194
                  obtain ⟨x198, hx199, hm⟩ := bindE hm
                  refine WL.call 23 #[.slice a189 x187.length c190] rfl rfl (by kernel_rfl) (c_23 n x187 a189 c190 w192 hx199 (SH.rd (SH.front 0 hS197)) (SH.le (SH.front 0 hS197)).1) ?_
                  rintro _ w203 ⟨a200, c201, rfl, hE204, hR205⟩
                  refine ⟨_, rfl, ?_⟩
                  have hb206 : Ext w w203 := Ext.trans hb195 hE204
                  have hL207 : w.heap.size ≤ w203.heap.size := Nat.le_trans hL196 hE204.size
                  have hS208 : SH w203 w.heap.size [aOwn fStr 9 a200 c201 x198.1, aOwn fStr 9 a189 c190 x187, aOwn fStr 9 a54 c55 x158.2, aOwn fStr 9 a42 c43 x116.2, aOwn fStr 9 a95 c96 x93, aOwn fStr 9 a30 c31 x28.1, aOwn fStr 9 a19 c20 x17] := SH.add hS197 hE204 hL196 hR205
                  refine WL.runk 5 [4, 5, 7, 10, 12, 13] [(4, .slice a30 x28.1.length c31), (5, .int .i64 x28.2), (7, .slice a54 x158.2.length c55), (10, .int .i64 x158.1), (12, .slice a200 x198.1.length c201), (13, .int .i64 x198.2)] (by kernel_rfl) ?_
                  refine WL.nil ?_
                  refine WQ.then_normal (hK186 _ _ _ ?_)
                  refine WP.seq (fun K209 hK209 => ?_)
                  refine WP.seq (fun K210 hK210 => ?_)
                  obtain ⟨x220, hx221, hm⟩ := bindE hm
                  refine WP.cut (fun env' w' => env' = [(7, .slice a54 x158.2.length c55), (10, .int .i64 x158.1), (87, .bool x220)] ∧ Ext w w' ∧ w.heap.size ≤ w'.heap.size ∧ SH w' w.heap.size [aOwn fStr 9 a200 c201 x198.1, aOwn fStr 9 a189 c190 x187, aOwn fStr 9 a54 c55 x158.2, aOwn fStr 9 a42 c43 x116.2, aOwn fStr 9 a95 c96 x93, aOwn fStr 9 a30 c31 x28.1, aOwn fStr 9 a19 c20 x17]) ?_ ?_
                  · have hm := hx221; clear hx221
                    refine WP.region ?_
                    refine WL.runk 2 [5, 7, 10, 13, 79, 80] [(5, .int .i64 x28.2), (7, .slice a54 x158.2.length c55), (10, .int .i64 x158.1), (13, .int .i64 x198.2), (79, .slice a200 x198.1.length c201), (80, .slice a30 x28.1.length c31)] (by kernel_rfl) ?_
                    obtain ⟨x222, hx223, hm⟩ := bindE hm
                    refine WL.call 19 #[.slice a200 x198.1.length c201, .slice a30 x28.1.length c31] rfl rfl (by kernel_rfl) (c_19 n x198.1 a200 c201 x28.1 a30 c31 w203 hx223 (SH.rd (SH.front 0 hS208)) (SH.le (SH.front 0 hS208)).1 (SH.rd (SH.front 5 hS208)) (SH.le (SH.front 5 hS208)).1) ?_
                    rintro _ w224 ⟨rfl, hE225⟩
                    refine ⟨_, rfl, ?_⟩
                    have hb227 : Ext w w224 := Ext.trans hb206 hE225
                    have hL228 : w.heap.size ≤ w224.heap.size := Nat.le_trans hL207 hE225.size
                    have hS229 : SH w224 w.heap.size [aOwn fStr 9 a200 c201 x198.1, aOwn fStr 9 a189 c190 x187, aOwn fStr 9 a54 c55 x158.2, aOwn fStr 9 a42 c43 x116.2, aOwn fStr 9 a95 c96 x93, aOwn fStr 9 a30 c31 x28.1, aOwn fStr 9 a19 c20 x17] := SH.ext hS208 hE225
                    refine WL.runk 2 [5, 7, 10, 13, 83] [(5, .int .i64 x28.2), (7, .slice a54 x158.2.length c55), (10, .int .i64 x158.1), (13, .int .i64 x198.2), (83, .bool (!x222))] (by kernel_rfl) ?_
                    refine WL.case (!x222) [83] ⟨rfl, trivial⟩ (fun hc230 => ?_) (fun hc230 => ?_)
                    · have hm := iteT hm hc230
                      refine WL.runk 4 [7, 10, 87] [(7, .slice a54 x158.2.length c55), (10, .int .i64 x158.1), (87, .bool true)] (by kernel_rfl) ?_
                      refine WL.nil ?_
                      obtain rfl := Option.some.inj hm
                      exact WQ.post' ⟨rfl, hb227, hL228, hS229⟩ ⟨rfl, rfl, rfl, trivial⟩
                    · have hm := iteF hm hc230
                      refine WL.runk 4 [7, 10, 87] [(7, .slice a54 x158.2.length c55), (10, .int .i64 x158.1), (87, .bool (x198.2 != x28.2))] (by kernel_rfl) ?_
                      refine WL.nil ?_
                      obtain rfl := Option.some.inj hm
                      exact WQ.post' ⟨rfl, hb227, hL228, hS229⟩ ⟨rfl, rfl, rfl, trivial⟩
                  · clear hx221
                    rintro _ w231 ⟨rfl, hb232, hL233, hS234⟩
                    refine WQ.then_normal (hK210 _ _ _ ?_)
                    refine WP.cond x220 rfl rfl (fun hc235 => ?_) (fun hc235 => ?_)
                    · have hm := iteT hm hc235
                      refine WP.seq (fun K236 hK236 => ?_)
                      refine WP.region ?_
                      refine WL.runk 1 [2] [(2, .bool false)] (by kernel_rfl) ?_
                      refine WL.nil ?_
                      refine WQ.then_normal (hK236 _ _ _ ?_)
                      refine WP.ret ?_
                      refine WQ.then_ret ?_
                      obtain rfl := Option.some.inj hm
                      exact WQ.ret1 _ rfl rfl ⟨rfl, hb232⟩
                    · have hm := iteF hm hc235
                      refine WP.skip ?_
                      refine WQ.then_normal (hK209 _ _ _ ?_)
                      refine WP.seq (fun K237 hK237 => ?_)
                      refine WP.region ?_
                      refine WL.runk 1 [7, 10, 11] [(7, .slice a54 x158.2.length c55), (10, .int .i64 x158.1), (11, .int .i64 1)] (by kernel_rfl) ?_
                      refine WL.nil ?_
                      refine WQ.then_normal (hK237 _ _ _ ?_)
                      refine WP.seq (fun K238 hK238 => ?_)
                      refine WP.region ?_
                      refine WL.runk 2 [10, 88, 89] [(10, .int .i64 x158.1), (88, .slice a54 x158.2.length c55), (89, .int .i64 1)] (by kernel_rfl) ?_
                      obtain ⟨x239, hx240, hm⟩ := bindE hm
                      refine WL.call 25 #[.slice a54 x158.2.length c55, .int .i64 1] rfl rfl (by kernel_rfl) (c_25 n x158.2 a54 c55 1 w231 hx240 (SH.rd (SH.front 2 hS234)) (SH.le (SH.front 2 hS234)).1) ?_
                      rintro _ w241 ⟨rfl, hE242⟩
                      refine ⟨_, rfl, ?_⟩
                      have hb244 : Ext w w241 := Ext.trans hb232 hE242
                      have hL245 : w.heap.size ≤ w241.heap.size := Nat.le_trans hL233 hE242.size
                      have hS246 : SH w241 w.heap.size [aOwn fStr 9 a200 c201 x198.1, aOwn fStr 9 a189 c190 x187, aOwn fStr 9 a54 c55 x158.2, aOwn fStr 9 a42 c43 x116.2, aOwn fStr 9 a95 c96 x93, aOwn fStr 9 a30 c31 x28.1, aOwn fStr 9 a19 c20 x17] := SH.ext hS234 hE242
                      refine WL.runk 1 [10, 11] [(10, .int .i64 x158.1), (11, .int .i64 x239)] (by kernel_rfl) ?_
                      refine WL.nil ?_
                      refine WQ.then_normal (hK238 _ _ _ ?_)
                      refine WP.seq (fun K247 hK247 => ?_)
                      refine WP.seq (fun K248 hK248 => ?_)
                      refine WP.region ?_
                      refine WL.runk 2 [10, 11, 92] [(10, .int .i64 x158.1), (11, .int .i64 x239), (92, .bool (decide (x239 < 0)))] (by kernel_rfl) ?_
                      refine WL.nil ?_
                      refine WQ.then_normal (hK248 _ _ _ ?_)
                      refine WP.cond (decide (x239 < 0)) rfl rfl (fun hc249 => ?_) (fun hc249 => ?_)
                      · have hm := iteT hm hc249
                        refine WP.seq (fun K250 hK250 => ?_)
                        refine WP.region ?_
                        refine WL.runk 1 [2] [(2, .bool false)] (by kernel_rfl) ?_
                        refine WL.nil ?_
                        refine WQ.then_normal (hK250 _ _ _ ?_)
                        refine WP.ret ?_
                        refine WQ.then_ret ?_
                        obtain rfl := Option.some.inj hm
                        exact WQ.ret1 _ rfl rfl ⟨rfl, hb244⟩
                      · have hm := iteF hm hc249
                        refine WP.skip ?_
                        refine WQ.then_normal (hK247 _ _ _ ?_)
                        refine WP.seq (fun K251 hK251 => ?_)
                        refine WP.seq (fun K252 hK252 => ?_)
                        refine WP.region ?_
                        refine WL.runk 3 [95] [(95, .bool (x239 != x158.1))] (by kernel_rfl) ?_
                        refine WL.nil ?_
                        refine WQ.then_normal (hK252 _ _ _ ?_)
                        refine WP.cond (x239 != x158.1) rfl rfl (fun hc253 => ?_) (fun hc253 => ?_)
                        · have hm := iteT hm hc253
                          refine WP.seq (fun K254 hK254 => ?_)
                          refine WP.region ?_
                          refine WL.runk 1 [2] [(2, .bool false)] (by kernel_rfl) ?_
                          refine WL.nil ?_
                          refine WQ.then_normal (hK254 _ _ _ ?_)
                          refine WP.ret ?_
                          refine WQ.then_ret ?_
                          obtain rfl := Option.some.inj hm
                          exact WQ.ret1 _ rfl rfl ⟨rfl, hb244⟩
                        · have hm := iteF hm hc253
                          refine WP.skip ?_
                          refine WQ.then_normal (hK251 _ _ _ ?_)
                          refine WP.seq (fun K255 hK255 => ?_)
                          refine WP.region ?_
                          refine WL.runk 1 [2] [(2, .bool true)] (by kernel_rfl) ?_
                          refine WL.nil ?_
                          refine WQ.then_normal (hK255 _ _ _ ?_)
                          refine WP.ret ?_
                          obtain rfl := Option.some.inj hm
                          exact WQ.ret1 _ rfl rfl ⟨rfl, hb244⟩

theorem c_58 (n : Nat) (a_0 : List (List UInt8)) (a0' : Option Addr) (c0' : Nat) (b_1 : List (List UInt8)) (a1' : Option Addr) (c1' : Nat) (w : World) {r : Int} (hm : m_spec_l20Two n a_0 b_1 = some r) (h0 : Rd fStr.ty w a0' a_0) (hle0 : a_0.length ≤ c0') (h1 : Rd fStr.ty w a1' b_1) (hle1 : b_1.length ≤ c1') :
    CallV Try.prog 58 #[.slice a0' a_0.length c0', .slice a1' b_1.length c1'] w (fun v w' => v = .int .i64 r ∧ Ext w w') := by
  unfold m_spec_l20Two at hm
  refine CallV.enter Try.func58 rfl (by kernel_rfl) Try.ntmps58 (env := [(0, .slice a0' a_0.length c0'), (1, .slice a1' b_1.length c1')]) ⟨rfl, rfl, trivial⟩ ?_
  refine WP.seq (fun K1 hK1 => ?_)
  refine WP.region ?_
  refine WL.runk 1 [0, 1] [(0, .slice a0' a_0.length c0'), (1, .slice a1' b_1.length c1')] (by kernel_rfl) ?_
  refine WL.nil ?_
  refine WQ.then_normal (hK1 _ _ _ ?_)
  refine WP.seq (fun K2 hK2 => ?_)
  refine WP.seq (fun K3 hK3 => ?_)
  obtain ⟨x21, hx22, hm⟩ := bindE hm
  refine WP.cut (fun env' w' => env' = [(0, .slice a0' a_0.length c0'), (1, .slice a1' b_1.length c1'), (12, .bool x21)] ∧ Ext w w' ∧ w.heap.size ≤ w'.heap.size ∧ SH w' w.heap.size []) ?_ ?_
  · have hm := hx22; clear hx22
    refine WP.region ?_
    refine WL.runk 1 [0, 1, 5] [(0, .slice a0' a_0.length c0'), (1, .slice a1' b_1.length c1'), (5, .slice a0' a_0.length c0')] (by kernel_rfl) ?_
    obtain ⟨x23, hx24, hm⟩ := bindE hm
    refine WL.call 49 #[.slice a0' a_0.length c0'] rfl rfl (by kernel_rfl) (c_49 n a_0 a0' c0' w hx24 (Rd.below h0 (Ext.refl w)) hle0) ?_
    rintro _ w25 ⟨rfl, hE26⟩
    refine ⟨_, rfl, ?_⟩
    have hb28 : Ext w w25 := Ext.trans (Ext.refl w) hE26
    have hL29 : w.heap.size ≤ w25.heap.size := Nat.le_trans (Nat.le_refl _) hE26.size
    have hS30 : SH w25 w.heap.size [] := SH.ext (SH.nil _ _) hE26
    refine WL.runk 2 [0, 1, 8] [(0, .slice a0' a_0.length c0'), (1, .slice a1' b_1.length c1'), (8, .bool (!x23))] (by kernel_rfl) ?_
    refine WL.case (!x23) [8] ⟨rfl, trivial⟩ (fun hc31 => ?_) (fun hc31 => ?_)
    · have hm := iteT hm hc31
      refine WL.runk 4 [0, 1, 12] [(0, .slice a0' a_0.length c0'), (1, .slice a1' b_1.length c1'), (12, .bool true)] (by kernel_rfl) ?_
      refine WL.nil ?_
      obtain rfl := Option.some.inj hm
      exact WQ.post' ⟨rfl, hb28, hL29, hS30⟩ ⟨rfl, rfl, rfl, trivial⟩
    · have hm := iteF hm hc31
      refine WL.runk 1 [0, 1, 8, 9] [(0, .slice a0' a_0.length c0'), (1, .slice a1' b_1.length c1'), (8, .bool false), (9, .slice a1' b_1.length c1')] (by kernel_rfl) ?_
      obtain ⟨x32, hx33, hm⟩ := bindE hm
      refine WL.call 49 #[.slice a1' b_1.length c1'] rfl rfl (by kernel_rfl) (c_49 n b_1 a1' c1' w25 hx33 (Rd.below h1 hb28) hle1) ?_
      rintro _ w34 ⟨rfl, hE35⟩
      refine ⟨_, rfl, ?_⟩
      have hb37 : Ext w w34 := Ext.trans hb28 hE35
      have hL38 : w.heap.size ≤ w34.heap.size := Nat.le_trans hL29 hE35.size
      have hS39 : SH w34 w.heap.size [] := SH.ext hS30 hE35
      refine WL.runk 2 [0, 1, 12] [(0, .slice a0' a_0.length c0'), (1, .slice a1' b_1.length c1'), (12, .bool (!x32))] (by kernel_rfl) ?_
      refine WL.nil ?_
      obtain rfl := Option.some.inj hm
      exact WQ.post' ⟨rfl, hb37, hL38, hS39⟩ ⟨rfl, rfl, rfl, trivial⟩
  · clear hx22
    rintro _ w40 ⟨rfl, hb41, hL42, hS43⟩
    refine WQ.then_normal (hK3 _ _ _ ?_)
    refine WP.cond x21 rfl rfl (fun hc44 => ?_) (fun hc44 => ?_)
    · have hm := iteT hm hc44
      refine WP.seq (fun K45 hK45 => ?_)
      refine WP.region ?_
      refine WL.runk 1 [4] [(4, .int .i64 1)] (by kernel_rfl) ?_
      refine WL.nil ?_
      refine WQ.then_normal (hK45 _ _ _ ?_)
      refine WP.ret ?_
      refine WQ.then_ret ?_
      obtain rfl := Option.some.inj hm
      exact WQ.ret1 _ rfl rfl ⟨rfl, hb41⟩
    · have hm := iteF hm hc44
      refine WP.skip ?_
      refine WQ.then_normal (hK2 _ _ _ ?_)
      refine WP.seq (fun K46 hK46 => ?_)
      refine WP.seq (fun K47 hK47 => ?_)
      obtain ⟨x63, hx64, hm⟩ := bindE hm
      refine WP.cut (fun env' w' => env' = [(28, .bool x63)] ∧ Ext w w' ∧ w.heap.size ≤ w'.heap.size ∧ SH w' w.heap.size []) ?_ ?_
      · have hm := hx64; clear hx64
        refine WP.quiet (by kernel_rfl) (by kernel_rfl) ?_
        refine QL.step1 rfl (env' := [(0, .slice a0' a_0.length c0'), (1, .slice a1' b_1.length c1'), (12, .bool x21), (13, .slice a0' a_0.length c0')]) (fun _ => by kernel_rfl) ?_
        refine QL.sub [(0, .slice a0' a_0.length c0'), (1, .slice a1' b_1.length c1'), (13, .slice a0' a_0.length c0')] ⟨rfl, rfl, rfl, trivial⟩ ?_
        refine QL.step1 rfl (env' := [(0, .slice a0' a_0.length c0'), (1, .slice a1' b_1.length c1'), (13, .slice a0' a_0.length c0'), (14, .int .i64 (a_0.length : Int))]) (fun _ => by kernel_rfl) ?_
        refine QL.sub [(0, .slice a0' a_0.length c0'), (1, .slice a1' b_1.length c1'), (14, .int .i64 (a_0.length : Int))] ⟨rfl, rfl, rfl, trivial⟩ ?_
        refine QL.step1 rfl (env' := [(0, .slice a0' a_0.length c0'), (1, .slice a1' b_1.length c1'), (14, .int .i64 (a_0.length : Int)), (15, .slice a1' b_1.length c1')]) (fun _ => by kernel_rfl) ?_
        refine QL.step1 rfl (env' := [(0, .slice a0' a_0.length c0'), (1, .slice a1' b_1.length c1'), (14, .int .i64 (a_0.length : Int)), (15, .slice a1' b_1.length c1'), (16, .int .i64 (b_1.length : Int))]) (fun _ => by kernel_rfl) ?_
        refine QL.sub [(0, .slice a0' a_0.length c0'), (1, .slice a1' b_1.length c1'), (14, .int .i64 (a_0.length : Int)), (16, .int .i64 (b_1.length : Int))] ⟨rfl, rfl, rfl, rfl, trivial⟩ ?_
        refine QL.step1 rfl (env' := [(0, .slice a0' a_0.length c0'), (1, .slice a1' b_1.length c1'), (14, .int .i64 (a_0.length : Int)), (16, .int .i64 (b_1.length : Int)), (17, .bool ((a_0.length : Int) != (b_1.length : Int)))]) (fun _ => by kernel_rfl) ?_
        refine QL.sub [(0, .slice a0' a_0.length c0'), (1, .slice a1' b_1.length c1'), (17, .bool ((a_0.length : Int) != (b_1.length : Int)))] ⟨rfl, rfl, rfl, trivial⟩ ?_
        refine QL.step1 rfl (env' := [(0, .slice a0' a_0.length c0'), (1, .slice a1' b_1.length c1'), (17, .bool ((a_0.length : Int) != (b_1.length : Int))), (18, .bool ((a_0.length : Int) != (b_1.length : Int)))]) (fun _ => by kernel_rfl) ?_
        refine QL.sub [(0, .slice a0' a_0.length c0'), (1, .slice a1' b_1.length c1'), (18, .bool ((a_0.length : Int) != (b_1.length : Int)))] ⟨rfl, rfl, rfl, trivial⟩ ?_
        refine QL.case ((a_0.length : Int) != (b_1.length : Int)) [18] ⟨rfl, trivial⟩ (fun hc65 => ?_) (fun hc65 => ?_)
        · have hm := iteT hm hc65
          refine QL.step1 rfl (env' := [(0, .slice a0' a_0.length c0'), (1, .slice a1' b_1.length c1'), (18, .bool true), (19, undef)]) (fun _ => by kernel_rfl) ?_
          refine QL.step1 rfl (env' := [(0, .slice a0' a_0.length c0'), (1, .slice a1' b_1.length c1'), (18, .bool true), (19, undef), (20, undef)]) (fun _ => by kernel_rfl) ?_
          refine QL.step1 rfl (env' := [(0, .slice a0' a_0.length c0'), (1, .slice a1' b_1.length c1'), (18, .bool true), (19, undef), (20, undef), (21, undef)]) (fun _ => by kernel_rfl) ?_
          refine QL.step1 rfl (env' := [(0, .slice a0' a_0.length c0'), (1, .slice a1' b_1.length c1'), (18, .bool true), (19, undef), (20, undef), (21, undef), (22, undef)]) (fun _ => by kernel_rfl) ?_
          refine QL.step1 rfl (env' := [(0, .slice a0' a_0.length c0'), (1, .slice a1' b_1.length c1'), (18, .bool true), (19, undef), (20, undef), (21, undef), (22, undef), (23, undef)]) (fun _ => by kernel_rfl) ?_
          refine QL.step1 rfl (env' := [(0, .slice a0' a_0.length c0'), (1, .slice a1' b_1.length c1'), (18, .bool true), (19, undef), (20, undef), (21, undef), (22, undef), (23, undef), (24, undef)]) (fun _ => by kernel_rfl) ?_
          refine QL.step1 rfl (env' := [(0, .slice a0' a_0.length c0'), (1, .slice a1' b_1.length c1'), (18, .bool true), (19, undef), (20, undef), (21, undef), (22, undef), (23, undef), (24, undef), (25, undef)]) (fun _ => by kernel_rfl) ?_
          refine QL.step1 rfl (env' := [(0, .slice a0' a_0.length c0'), (1, .slice a1' b_1.length c1'), (18, .bool true), (19, undef), (20, undef), (21, undef), (22, undef), (23, undef), (24, undef), (25, undef), (26, undef)]) (fun _ => by kernel_rfl) ?_
          refine QL.step1 rfl (env' := [(0, .slice a0' a_0.length c0'), (1, .slice a1' b_1.length c1'), (18, .bool true), (19, undef), (20, undef), (21, undef), (22, undef), (23, undef), (24, undef), (25, undef), (26, undef), (27, undef)]) (fun _ => by kernel_rfl) ?_
          refine QL.step1 rfl (env' := [(0, .slice a0' a_0.length c0'), (1, .slice a1' b_1.length c1'), (18, .bool true), (19, undef), (20, undef), (21, undef), (22, undef), (23, undef), (24, undef), (25, undef), (26, undef), (27, undef), (28, .bool true)]) (fun _ => by kernel_rfl) ?_
          refine QL.sub [(28, .bool true)] ⟨rfl, trivial⟩ ?_
          refine QL.sub [(28, .bool true)] ⟨rfl, trivial⟩ ?_
          refine QL.nil ?_
          intro w66 hE67
          have hb68 : Ext w w66 := Ext.trans hb41 hE67
          have hL69 : w.heap.size ≤ w66.heap.size := Nat.le_trans hL42 hE67.size
          have hS70 : SH w66 w.heap.size [] := SH.ext hS43 hE67
          obtain rfl := Option.some.inj hm
          exact WQ.post' ⟨rfl, hb68, hL69, hS70⟩ ⟨rfl, trivial⟩
        · have hm := iteF hm hc65
          refine QL.step1 rfl (env' := [(0, .slice a0' a_0.length c0'), (1, .slice a1' b_1.length c1'), (18, .bool false), (19, .slice a0' a_0.length c0')]) (fun _ => by kernel_rfl) ?_
          refine QL.sub [(1, .slice a1' b_1.length c1'), (18, .bool false), (19, .slice a0' a_0.length c0')] ⟨rfl, rfl, rfl, trivial⟩ ?_
          obtain ⟨x71, hx72, hm⟩ := bindE hm
          refine QL.st (.pointer (some (at_ a0' (Int.toNat 0 * 1)))) (ST.index (T := fStr.ty) (xs := a_0) (Rd.below h0 hb41) hx72 rfl rfl rfl Try.underlying22 (info9).1 (info9).2.1) rfl rfl rfl ?_
          refine QL.st (.string (bs x71)) (ST.load (cell_ext (Rd.flat (F := fStr) (Rd.below h0 hb41) hx72 0 rfl)) rfl rfl Try.underlying9 rfl) rfl rfl rfl ?_
          refine QL.step1 rfl (env' := [(1, .slice a1' b_1.length c1'), (18, .bool false), (19, .slice a0' a_0.length c0'), (20, .pointer (some (at_ a0' (Int.toNat 0 * 1)))), (21, .string (bs x71)), (22, .int .i64 (x71.length : Int))]) (fun _ => by kernel_rfl) ?_
          refine QL.sub [(1, .slice a1' b_1.length c1'), (18, .bool false), (22, .int .i64 (x71.length : Int))] ⟨rfl, rfl, rfl, trivial⟩ ?_
          refine QL.step1 rfl (env' := [(1, .slice a1' b_1.length c1'), (18, .bool false), (22, .int .i64 (x71.length : Int)), (23, .slice a1' b_1.length c1')]) (fun _ => by kernel_rfl) ?_
          refine QL.sub [(18, .bool false), (22, .int .i64 (x71.length : Int)), (23, .slice a1' b_1.length c1')] ⟨rfl, rfl, rfl, trivial⟩ ?_
          obtain ⟨x73, hx74, hm⟩ := bindE hm
          refine QL.st (.pointer (some (at_ a1' (Int.toNat 0 * 1)))) (ST.index (T := fStr.ty) (xs := b_1) (Rd.below h1 hb41) hx74 rfl rfl rfl Try.underlying22 (info9).1 (info9).2.1) rfl rfl rfl ?_
          refine QL.st (.string (bs x73)) (ST.load (cell_ext (Rd.flat (F := fStr) (Rd.below h1 hb41) hx74 0 rfl)) rfl rfl Try.underlying9 rfl) rfl rfl rfl ?_
          refine QL.step1 rfl (env' := [(18, .bool false), (22, .int .i64 (x71.length : Int)), (23, .slice a1' b_1.length c1'), (24, .pointer (some (at_ a1' (Int.toNat 0 * 1)))), (25, .string (bs x73)), (26, .int .i64 (x73.length : Int))]) (fun _ => by kernel_rfl) ?_
          refine QL.sub [(18, .bool false), (22, .int .i64 (x71.length : Int)), (26, .int .i64 (x73.length : Int))] ⟨rfl, rfl, rfl, trivial⟩ ?_
          refine QL.step1 rfl (env' := [(18, .bool false), (22, .int .i64 (x71.length : Int)), (26, .int .i64 (x73.length : Int)), (27, .bool ((x71.length : Int) != (x73.length : Int)))]) (fun _ => by kernel_rfl) ?_
          refine QL.sub [(18, .bool false), (27, .bool ((x71.length : Int) != (x73.length : Int)))] ⟨rfl, rfl, trivial⟩ ?_
          refine QL.step1 rfl (env' := [(18, .bool false), (27, .bool ((x71.length : Int) != (x73.length : Int))), (28, .bool ((x71.length : Int) != (x73.length : Int)))]) (fun _ => by kernel_rfl) ?_
          refine QL.sub [(28, .bool ((x71.length : Int) != (x73.length : Int)))] ⟨rfl, trivial⟩ ?_
          refine QL.sub [(28, .bool ((x71.length : Int) != (x73.length : Int)))] ⟨rfl, trivial⟩ ?_
          refine QL.nil ?_
          intro w75 hE76
          have hb77 : Ext w w75 := Ext.trans hb41 hE76
          have hL78 : w.heap.size ≤ w75.heap.size := Nat.le_trans hL42 hE76.size
          have hS79 : SH w75 w.heap.size [] := SH.ext hS43 hE76
          obtain rfl := Option.some.inj hm
          exact WQ.post' ⟨rfl, hb77, hL78, hS79⟩ ⟨rfl, trivial⟩
      · clear hx64
        rintro _ w80 ⟨rfl, hb81, hL82, hS83⟩
        refine WQ.then_normal (hK47 _ _ _ ?_)
        refine WP.cond x63 rfl rfl (fun hc84 => ?_) (fun hc84 => ?_)
        · have hm := iteT hm hc84
          refine WP.seq (fun K85 hK85 => ?_)
          refine WP.region ?_
          refine WL.runk 1 [4] [(4, .int .i64 9)] (by kernel_rfl) ?_
          refine WL.nil ?_
          refine WQ.then_normal (hK85 _ _ _ ?_)
          refine WP.ret ?_
          refine WQ.then_ret ?_
          obtain rfl := Option.some.inj hm
          exact WQ.ret1 _ rfl rfl ⟨rfl, hb81⟩
        · have hm := iteF hm hc84
          refine WP.skip ?_
          refine WQ.then_normal (hK46 _ _ _ ?_)
          refine WP.seq (fun K86 hK86 => ?_)
          refine WP.region ?_
          refine WL.runk 1 [4] [(4, .int .i64 0)] (by kernel_rfl) ?_
          refine WL.nil ?_
          refine WQ.then_normal (hK86 _ _ _ ?_)
          refine WP.ret ?_
          obtain rfl := Option.some.inj hm
          exact WQ.ret1 _ rfl rfl ⟨rfl, hb81⟩

theorem c_59 (n : Nat) (a_0 : Int) (b_1 : Int) (w : World) {r : Int} (hm : m_spec_l00Min n a_0 b_1 = some r)  :
    CallV Try.prog 59 #[.int .i64 a_0, .int .i64 b_1] w (fun v w' => v = .int .i64 r ∧ Ext w w') := by
  unfold m_spec_l00Min at hm
  refine CallV.enter Try.func59 rfl (by kernel_rfl) Try.ntmps59 (env := [(0, .int .i64 a_0), (1, .int .i64 b_1)]) ⟨rfl, rfl, trivial⟩ ?_
  refine WP.seq (fun K1 hK1 => ?_)
  refine WP.region ?_
  refine WL.runk 1 [0, 1] [(0, .int .i64 a_0), (1, .int .i64 b_1)] (by kernel_rfl) ?_
  refine WL.nil ?_
  refine WQ.then_normal (hK1 _ _ _ ?_)
  refine WP.seq (fun K2 hK2 => ?_)
  refine WP.seq (fun K3 hK3 => ?_)
  refine WP.region ?_
  refine WL.runk 3 [0, 1, 7] [(0, .int .i64 a_0), (1, .int .i64 b_1), (7, .bool (decide (a_0 < b_1)))] (by kernel_rfl) ?_
  refine WL.nil ?_
  refine WQ.then_normal (hK3 _ _ _ ?_)
  refine WP.cond (decide (a_0 < b_1)) rfl rfl (fun hc4 => ?_) (fun hc4 => ?_)
  · have hm := iteT hm hc4
    refine WP.seq (fun K5 hK5 => ?_)
    refine WP.region ?_
    refine WL.runk 2 [4] [(4, .int .i64 a_0)] (by kernel_rfl) ?_
    refine WL.nil ?_
    refine WQ.then_normal (hK5 _ _ _ ?_)
    refine WP.ret ?_
    refine WQ.then_ret ?_
    obtain rfl := Option.some.inj hm
    exact WQ.ret1 _ rfl rfl ⟨rfl, (Ext.refl w)⟩
  · have hm := iteF hm hc4
    refine WP.skip ?_
    refine WQ.then_normal (hK2 _ _ _ ?_)
    refine WP.seq (fun K6 hK6 => ?_)
    refine WP.region ?_
    refine WL.runk 2 [4] [(4, .int .i64 b_1)] (by kernel_rfl) ?_
    refine WL.nil ?_
    refine WQ.then_normal (hK6 _ _ _ ?_)
    refine WP.ret ?_
    obtain rfl := Option.some.inj hm
    exact WQ.ret1 _ rfl rfl ⟨rfl, (Ext.refl w)⟩

theorem c_26 (n : Nat) (a_0 : List (List UInt8)) (a0' : Option Addr) (c0' : Nat) (b_1 : List (List UInt8)) (a1' : Option Addr) (c1' : Nat) (w : World) {r : List (List UInt8) × Int} (hm : m_spec_AddWear n a_0 b_1 = some r) (h0 : Rd fStr.ty w a0' a_0) (hle0 : a_0.length ≤ c0') (h1 : Rd fStr.ty w a1' b_1) (hle1 : b_1.length ≤ c1') :
    CallV Try.prog 26 #[.slice a0' a_0.length c0', .slice a1' b_1.length c1'] w (fun v w' => ∃ (ra0 : Option Addr) (rc0 : Nat), v = .tuple #[.slice ra0 r.1.length rc0, .int .i64 r.2] ∧ Ext w w' ∧ SH w' w.heap.size [aOwn fStr 9 ra0 rc0 r.1]) := by
  unfold m_spec_AddWear at hm
  refine CallV.enter Try.func26 rfl (by kernel_rfl) Try.ntmps26 (env := [(0, .slice a0' a_0.length c0'), (1, .slice a1' b_1.length c1')]) ⟨rfl, rfl, trivial⟩ ?_
  refine WP.seq (fun K1 hK1 => ?_)
  refine WP.region ?_
  refine WL.runk 2 [0, 1] [(0, .slice a0' a_0.length c0'), (1, .slice a1' b_1.length c1')] (by kernel_rfl) ?_
  refine WL.nil ?_
  refine WQ.then_normal (hK1 _ _ _ ?_)
  refine WP.seq (fun K2 hK2 => ?_)
  refine WP.region ?_
  refine WL.runk 2 [0, 1, 11, 12] [(0, .slice a0' a_0.length c0'), (1, .slice a1' b_1.length c1'), (11, .slice a0' a_0.length c0'), (12, .slice a1' b_1.length c1')] (by kernel_rfl) ?_
  obtain ⟨x3, hx4, hm⟩ := bindE hm
  refine WL.call 58 #[.slice a0' a_0.length c0', .slice a1' b_1.length c1'] rfl rfl (by kernel_rfl) (c_58 n a_0 a0' c0' b_1 a1' c1' w hx4 (Rd.below h0 (Ext.refl w)) hle0 (Rd.below h1 (Ext.refl w)) hle1) ?_
  rintro _ w5 ⟨rfl, hE6⟩
  refine ⟨_, rfl, ?_⟩
  have hb8 : Ext w w5 := Ext.trans (Ext.refl w) hE6
  have hL9 : w.heap.size ≤ w5.heap.size := Nat.le_trans (Nat.le_refl _) hE6.size
  have hS10 : SH w5 w.heap.size [] := SH.ext (SH.nil _ _) hE6
  refine WL.runk 1 [0, 1, 6] [(0, .slice a0' a_0.length c0'), (1, .slice a1' b_1.length c1'), (6, .int .i64 x3)] (by kernel_rfl) ?_
  refine WL.nil ?_
  refine WQ.then_normal (hK2 _ _ _ ?_)
  refine WP.seq (fun K11 hK11 => ?_)
  refine WP.seq (fun K12 hK12 => ?_)
  refine WP.region ?_
  refine WL.runk 2 [0, 1, 6, 15] [(0, .slice a0' a_0.length c0'), (1, .slice a1' b_1.length c1'), (6, .int .i64 x3), (15, .bool (x3 != 0))] (by kernel_rfl) ?_
  refine WL.nil ?_
  refine WQ.then_normal (hK12 _ _ _ ?_)
  refine WP.cond (x3 != 0) rfl rfl (fun hc13 => ?_) (fun hc13 => ?_)
  · have hm := iteT hm hc13
    refine WP.seq (fun K14 hK14 => ?_)
    refine WP.region ?_
    refine WL.runk 3 [4, 5] [(4, .slice none 0 0), (5, .int .i64 x3)] (by kernel_rfl) ?_
    refine WL.nil ?_
    refine WQ.then_normal (hK14 _ _ _ ?_)
    refine WP.ret ?_
    refine WQ.then_ret ?_
    obtain rfl := Option.some.inj hm
    have hS16 : SH w5 w.heap.size [aOwn fStr 9 none 0 ([] : List (List UInt8))] := SH.nilOwn hS10
    exact WQ.ret2 _ _ rfl rfl rfl ⟨_, _, rfl, hb8, hS16⟩
  · have hm := iteF hm hc13
    refine WP.skip ?_
    refine WQ.then_normal (hK11 _ _ _ ?_)
    refine WP.seq (fun K17 hK17 => ?_)
    refine WP.region ?_
    refine WL.row fStr 9 ([] : List (List UInt8)) 0 #[] 17 (by kernel_rfl) rfl rfl rfl rfl rfl rfl rfl ?_
    intro a18 c19 w20 hE21 hR22
    have hb24 : Ext w w20 := Ext.trans hb8 hE21
    have hL25 : w.heap.size ≤ w20.heap.size := Nat.le_trans hL9 hE21.size
    have hS26 : SH w20 w.heap.size [aOwn fStr 9 a18 c19 ([] : List (List UInt8))] := SH.add hS10 hE21 hL9 hR22
    refine WL.runk 1 [0, 1, 7] [(0, .slice a0' a_0.length c0'), (1, .slice a1' b_1.length c1'), (7, .slice a18 (([] : List (List UInt8)).length) c19)] (by kernel_rfl) ?_
    refine WL.nil ?_
    refine WQ.then_normal (hK17 _ _ _ ?_)
    refine WP.seq (fun K27 hK27 => ?_)
    refine WP.seq (fun K28 hK28 => ?_)
    refine WP.region ?_
    refine WL.runk 1 [0, 1, 7, 8] [(0, .slice a0' a_0.length c0'), (1, .slice a1' b_1.length c1'), (7, .slice a18 (([] : List (List UInt8)).length) c19), (8, .int .i64 0)] (by kernel_rfl) ?_
    refine WL.nil ?_
    refine WQ.then_normal (hK28 _ _ _ ?_)
    refine WP.block ?_
    obtain ⟨t43, ht44, hm⟩ := bindE hm
    have hmo38 := hm; clear hm
    refine WP.sub [(0, .slice a0' a_0.length c0'), (1, .slice a1' b_1.length c1'), (7, .slice a18 (([] : List (List UInt8)).length) c19), (8, .int .i64 0)] ⟨rfl, rfl, rfl, rfl, trivial⟩ ?_
    refine WP.loop (fun n' env' w' => ∃ (st29 : List (List UInt8) × Int) (a30 : Option Addr) (c31 : Nat), env' = [(0, .slice a0' a_0.length c0'), (1, .slice a1' b_1.length c1'), (7, .slice a30 st29.1.length c31), (8, .int .i64 st29.2)] ∧ Ext w w' ∧ w.heap.size ≤ w'.heap.size ∧ SH w' w.heap.size [aOwn fStr 9 a30 c31 st29.1] ∧ loopN (m_spec_AddWear_l1 n a_0 b_1) n' st29 = some t43) n ⟨(([] : List (List UInt8)), 0), _, _, rfl, hb24, hL25, hS26, ht44⟩ ?_
    rintro n40 _ w33 ⟨st29, a30, c31, rfl, hb34, hL35, hS36, hl37⟩ K39 hK39
    obtain ⟨n41, s42, rfl, hm, hl37⟩ := loopN_some hl37
    unfold m_spec_AddWear_l1 at hm
    refine WP.seq (fun K45 hK45 => ?_)
    refine WP.seq (fun K46 hK46 => ?_)
    refine WP.region ?_
    refine WL.runk 4 [0, 1, 7, 8, 21] [(0, .slice a0' a_0.length c0'), (1, .slice a1' b_1.length c1'), (7, .slice a30 st29.1.length c31), (8, .int .i64 st29.2), (21, .bool (decide (st29.2 < (a_0.length : Int))))] (by kernel_rfl) ?_
    refine WL.nil ?_
    refine WQ.then_normal (hK46 _ _ _ ?_)
    refine WP.cond (decide (st29.2 < (a_0.length : Int))) rfl rfl (fun hc47 => ?_) (fun hc47 => ?_)
    · have hm := iteT hm hc47
      refine WP.skip ?_
      refine WQ.then_normal (hK45 _ _ _ ?_)
      refine WP.seq (fun K48 hK48 => ?_)
      refine WP.block ?_
      refine WP.seq (fun K49 hK49 => ?_)
      refine WP.region ?_
      refine WL.row fU8 5 ([] : List Int) 0 #[] 24 (by kernel_rfl) rfl rfl rfl rfl rfl rfl rfl ?_
      intro a50 c51 w52 hE53 hR54
      have hb56 : Ext w w52 := Ext.trans hb34 hE53
      have hL57 : w.heap.size ≤ w52.heap.size := Nat.le_trans hL35 hE53.size
      have hS58 : SH w52 w.heap.size [aOwn fU8 5 a50 c51 ([] : List Int), aOwn fStr 9 a30 c31 st29.1] := SH.add hS36 hE53 hL35 hR54
      refine WL.runk 1 [0, 1, 7, 8, 9] [(0, .slice a0' a_0.length c0'), (1, .slice a1' b_1.length c1'), (7, .slice a30 st29.1.length c31), (8, .int .i64 st29.2), (9, .slice a50 (([] : List Int).length) c51)] (by kernel_rfl) ?_
      refine WL.nil ?_
      refine WQ.then_normal (hK49 _ _ _ ?_)
      refine WP.seq (fun K59 hK59 => ?_)
      refine WP.seq (fun K60 hK60 => ?_)
      refine WP.region ?_
      refine WL.runk 1 [0, 1, 7, 8, 9, 10] [(0, .slice a0' a_0.length c0'), (1, .slice a1' b_1.length c1'), (7, .slice a30 st29.1.length c31), (8, .int .i64 st29.2), (9, .slice a50 (([] : List Int).length) c51), (10, .int .i64 0)] (by kernel_rfl) ?_
      refine WL.nil ?_
      refine WQ.then_normal (hK60 _ _ _ ?_)
      refine WP.block ?_
      obtain ⟨t75, ht76, hm⟩ := bindE hm
      have hmo70 := hm; clear hm
      refine WP.sub [(0, .slice a0' a_0.length c0'), (1, .slice a1' b_1.length c1'), (7, .slice a30 st29.1.length c31), (8, .int .i64 st29.2), (9, .slice a50 (([] : List Int).length) c51), (10, .int .i64 0)] ⟨rfl, rfl, rfl, rfl, rfl, rfl, trivial⟩ ?_
      refine WP.loop (fun n' env' w' => ∃ (st61 : List Int × Int) (a62 : Option Addr) (c63 : Nat), env' = [(0, .slice a0' a_0.length c0'), (1, .slice a1' b_1.length c1'), (7, .slice a30 st29.1.length c31), (8, .int .i64 st29.2), (9, .slice a62 st61.1.length c63), (10, .int .i64 st61.2)] ∧ Ext w w' ∧ w.heap.size ≤ w'.heap.size ∧ SH w' w.heap.size [aOwn fU8 5 a62 c63 st61.1, aOwn fStr 9 a30 c31 st29.1] ∧ loopN (m_spec_AddWear_l2 n a_0 b_1 st29) n' st61 = some t75) n ⟨(([] : List Int), 0), _, _, rfl, hb56, hL57, hS58, ht76⟩ ?_
      rintro n72 _ w65 ⟨st61, a62, c63, rfl, hb66, hL67, hS68, hl69⟩ K71 hK71
      obtain ⟨n73, s74, rfl, hm, hl69⟩ := loopN_some hl69
      unfold m_spec_AddWear_l2 at hm
      refine WP.seq (fun K77 hK77 => ?_)
      refine WP.seq (fun K78 hK78 => ?_)
      refine WP.region ?_
      refine WL.runk 3 [0, 1, 7, 8, 9, 10, 25, 26, 27] [(0, .slice a0' a_0.length c0'), (1, .slice a1' b_1.length c1'), (7, .slice a30 st29.1.length c31), (8, .int .i64 st29.2), (9, .slice a62 st61.1.length c63), (10, .int .i64 st61.2), (25, .int .i64 st61.2), (26, .slice a0' a_0.length c0'), (27, .int .i64 st29.2)] (by kernel_rfl) ?_
      obtain ⟨x79, hx80, hm⟩ := bindE hm
      refine WL.st (.pointer (some (at_ a0' (Int.toNat st29.2 * 1)))) (ST.index (T := fStr.ty) (xs := a_0) (Rd.below h0 hb66) hx80 rfl rfl rfl Try.underlying22 (info9).1 (info9).2.1) rfl rfl rfl ?_
      refine WL.st (.string (bs x79)) (ST.load (cell_ext (Rd.flat (F := fStr) (Rd.below h0 hb66) hx80 0 rfl)) rfl rfl Try.underlying9 rfl) rfl rfl rfl ?_
      refine WL.runk 2 [0, 1, 7, 8, 9, 10, 31] [(0, .slice a0' a_0.length c0'), (1, .slice a1' b_1.length c1'), (7, .slice a30 st29.1.length c31), (8, .int .i64 st29.2), (9, .slice a62 st61.1.length c63), (10, .int .i64 st61.2), (31, .bool (decide (st61.2 < (x79.length : Int))))] (by kernel_rfl) ?_
      refine WL.nil ?_
      refine WQ.then_normal (hK78 _ _ _ ?_)
      refine WP.cond (decide (st61.2 < (x79.length : Int))) rfl rfl (fun hc81 => ?_) (fun hc81 => ?_)
      · have hm := iteT hm hc81
        refine WP.skip ?_
        refine WQ.then_normal (hK77 _ _ _ ?_)
        refine WP.seq (fun K82 hK82 => ?_)
        refine WP.block ?_
        refine WP.region ?_
        refine WL.runk 4 [0, 1, 7, 8, 10, 34, 35, 36, 37] [(0, .slice a0' a_0.length c0'), (1, .slice a1' b_1.length c1'), (7, .slice a30 st29.1.length c31), (8, .int .i64 st29.2), (10, .int .i64 st61.2), (34, .slice a62 st61.1.length c63), (35, .slice a0' a_0.length c0'), (36, .int .i64 st29.2), (37, .int .i64 st61.2)] (by kernel_rfl) ?_
        obtain ⟨x83, hx84, hm⟩ := bindE hm
        refine WL.call 52 #[.slice a0' a_0.length c0', .int .i64 st29.2, .int .i64 st61.2] rfl rfl (by kernel_rfl) (c_52 n a_0 a0' c0' st29.2 st61.2 w65 hx84 (Rd.below h0 hb66) hle0) ?_
        rintro _ w85 ⟨rfl, hE86⟩
        refine ⟨_, rfl, ?_⟩
        have hb88 : Ext w w85 := Ext.trans hb66 hE86
        have hL89 : w.heap.size ≤ w85.heap.size := Nat.le_trans hL67 hE86.size
        have hS90 : SH w85 w.heap.size [aOwn fU8 5 a62 c63 st61.1, aOwn fStr 9 a30 c31 st29.1] := SH.ext hS68 hE86
        refine WL.runk 3 [0, 1, 7, 8, 10, 34, 38, 39, 40, 41] [(0, .slice a0' a_0.length c0'), (1, .slice a1' b_1.length c1'), (7, .slice a30 st29.1.length c31), (8, .int .i64 st29.2), (10, .int .i64 st61.2), (34, .slice a62 st61.1.length c63), (38, .int .i64 x83), (39, .slice a1' b_1.length c1'), (40, .int .i64 st29.2), (41, .int .i64 st61.2)] (by kernel_rfl) ?_
        obtain ⟨x91, hx92, hm⟩ := bindE hm
        refine WL.call 52 #[.slice a1' b_1.length c1', .int .i64 st29.2, .int .i64 st61.2] rfl rfl (by kernel_rfl) (c_52 n b_1 a1' c1' st29.2 st61.2 w85 hx92 (Rd.below h1 hb88) hle1) ?_
        rintro _ w93 ⟨rfl, hE94⟩
        refine ⟨_, rfl, ?_⟩
        have hb96 : Ext w w93 := Ext.trans hb88 hE94
        have hL97 : w.heap.size ≤ w93.heap.size := Nat.le_trans hL89 hE94.size
        have hS98 : SH w93 w.heap.size [aOwn fU8 5 a62 c63 st61.1, aOwn fStr 9 a30 c31 st29.1] := SH.ext hS90 hE94
        refine WL.runk 1 [0, 1, 7, 8, 10, 34, 43] [(0, .slice a0' a_0.length c0'), (1, .slice a1' b_1.length c1'), (7, .slice a30 st29.1.length c31), (8, .int .i64 st29.2), (10, .int .i64 st61.2), (34, .slice a62 st61.1.length c63), (43, .int .i64 (wI64 (x83 + x91)))] (by kernel_rfl) ?_
        obtain ⟨x99, hx100, hm⟩ := bindE hm
        refine WL.call 59 #[.int .i64 9, .int .i64 (wI64 (x83 + x91))] rfl rfl (by kernel_rfl) (c_59 n 9 (wI64 (x83 + x91)) w93 hx100 ) ?_
        rintro _ w101 ⟨rfl, hE102⟩
        refine ⟨_, rfl, ?_⟩
        have hb104 : Ext w w101 := Ext.trans hb96 hE102
        have hL105 : w.heap.size ≤ w101.heap.size := Nat.le_trans hL97 hE102.size
        have hS106 : SH w101 w.heap.size [aOwn fU8 5 a62 c63 st61.1, aOwn fStr 9 a30 c31 st29.1] := SH.ext hS98 hE102
        refine WL.runk 2 [0, 1, 7, 8, 10, 34, 46] [(0, .slice a0' a_0.length c0'), (1, .slice a1' b_1.length c1'), (7, .slice a30 st29.1.length c31), (8, .int .i64 st29.2), (10, .int .i64 st61.2), (34, .slice a62 st61.1.length c63), (46, .int .u8 (IntKind.u8.wrap (wI64 (48 + x99))))] (by kernel_rfl) ?_
        refine WL.row fU8 5 ([(IntKind.u8.wrap (wI64 (48 + x99)))] : List Int) 1 #[.int .u8 (IntKind.u8.wrap (wI64 (48 + x99)))] 47 (by kernel_rfl) rfl rfl rfl rfl rfl rfl rfl ?_
        intro a107 c108 w109 hE110 hR111
        have hb113 : Ext w w109 := Ext.trans hb104 hE110
        have hL114 : w.heap.size ≤ w109.heap.size := Nat.le_trans hL105 hE110.size
        have hS115 : SH w109 w.heap.size [aOwn fU8 5 a107 c108 ([(IntKind.u8.wrap (wI64 (48 + x99)))] : List Int), aOwn fU8 5 a62 c63 st61.1, aOwn fStr 9 a30 c31 st29.1] := SH.add hS106 hE110 hL105 hR111
        obtain ⟨x116, hx117, hm⟩ := bindE hm
        refine WL.append (F := fU8) (xs := st61.1) (ys := ([(IntKind.u8.wrap (wI64 (48 + x99)))] : List Int)) 48 (SH.front 1 hS115) hL114 (SH.rd (SH.front 0 hS115)) hx117 rfl rfl rfl Try.underlying46 (info5).1 (info5).2.2.1 (info5).2.1 (info5).2.2.2 rfl rfl rfl rfl rfl ?_
        intro a118 c119 w120 hB121 hS122
        have hb123 : Ext w w120 := Below.trans hb113 hB121
        have hL124 : w.heap.size ≤ w120.heap.size := Nat.le_trans hL114 hB121.size
        refine WL.runk 1 [0, 1, 7, 8, 9, 10] [(0, .slice a0' a_0.length c0'), (1, .slice a1' b_1.length c1'), (7, .slice a30 st29.1.length c31), (8, .int .i64 st29.2), (10, .int .i64 st61.2), (9, .slice a118 x116.length c119)] (by kernel_rfl) ?_
        refine WL.nil ?_
        refine WQ.block_normal ?_
        refine WQ.then_normal (hK82 _ _ _ ?_)
        refine WP.region ?_
        refine WL.runk 3 [0, 1, 7, 8, 9, 10] [(0, .slice a0' a_0.length c0'), (1, .slice a1' b_1.length c1'), (7, .slice a30 st29.1.length c31), (8, .int .i64 st29.2), (10, .int .i64 (wI64 (st61.2 + 1))), (9, .slice a118 x116.length c119)] (by kernel_rfl) ?_
        refine WL.nil ?_
        obtain rfl := Option.some.inj hm
        exact WQ.round hK71 ⟨(x116, (wI64 (st61.2 + 1))), _, _, rfl, hb123, hL124, (SH.take 2 (SH.front 1 (SH.front 2 hS122))), hl69⟩ (Nat.lt_succ_self _) ⟨rfl, rfl, rfl, rfl, rfl, rfl, trivial⟩
      · have hm := iteF hm hc81
        refine WP.exit ?_
        refine WQ.then_exit ?_
        refine WQ.then_exit ?_
        refine WQ.block_here ?_
        obtain rfl := Option.some.inj hm
        obtain rfl := afterN_done hl69
        have hm := hmo70
        refine WQ.then_normal (hK59 _ _ _ ?_)
        refine WP.region ?_
        refine WL.runk 2 [0, 1, 8, 49, 50] [(0, .slice a0' a_0.length c0'), (1, .slice a1' b_1.length c1'), (8, .int .i64 st29.2), (49, .slice a30 st29.1.length c31), (50, .slice a62 st61.1.length c63)] (by kernel_rfl) ?_
        refine WL.st (.string (bs (ofBytes st61.1))) (ST.b2s (SH.rd (SH.front 0 hS68)) (SH.le (SH.front 0 hS68)).2 rfl rfl Try.underlying46 Try.underlying9 Try.underlying5) rfl rfl rfl ?_
        refine WL.row fStr 9 ([(ofBytes st61.1)] : List (List UInt8)) 1 #[.string (bs (ofBytes st61.1))] 52 (by kernel_rfl) rfl rfl rfl rfl rfl rfl rfl ?_
        intro a125 c126 w127 hE128 hR129
        have hb131 : Ext w w127 := Ext.trans hb66 hE128
        have hL132 : w.heap.size ≤ w127.heap.size := Nat.le_trans hL67 hE128.size
        have hS133 : SH w127 w.heap.size [aOwn fStr 9 a125 c126 ([(ofBytes st61.1)] : List (List UInt8)), aOwn fU8 5 a62 c63 st61.1, aOwn fStr 9 a30 c31 st29.1] := SH.add hS68 hE128 hL67 hR129
        obtain ⟨x134, hx135, hm⟩ := bindE hm
        refine WL.append (F := fStr) (xs := st29.1) (ys := ([(ofBytes st61.1)] : List (List UInt8))) 53 (SH.front 2 hS133) hL132 (SH.rd (SH.front 0 hS133)) hx135 rfl rfl rfl Try.underlying22 (info9).1 (info9).2.2.1 (info9).2.1 (info9).2.2.2 rfl rfl rfl rfl rfl ?_
        intro a136 c137 w138 hB139 hS140
        have hb141 : Ext w w138 := Below.trans hb131 hB139
        have hL142 : w.heap.size ≤ w138.heap.size := Nat.le_trans hL132 hB139.size
        refine WL.runk 1 [0, 1, 7, 8] [(0, .slice a0' a_0.length c0'), (1, .slice a1' b_1.length c1'), (8, .int .i64 st29.2), (7, .slice a136 x134.length c137)] (by kernel_rfl) ?_
        refine WL.nil ?_
        refine WQ.block_normal ?_
        refine WQ.then_normal (hK48 _ _ _ ?_)
        refine WP.region ?_
        refine WL.runk 3 [0, 1, 7, 8] [(0, .slice a0' a_0.length c0'), (1, .slice a1' b_1.length c1'), (8, .int .i64 (wI64 (st29.2 + 1))), (7, .slice a136 x134.length c137)] (by kernel_rfl) ?_
        refine WL.nil ?_
        obtain rfl := Option.some.inj hm
        exact WQ.round hK39 ⟨(x134, (wI64 (st29.2 + 1))), _, _, rfl, hb141, hL142, (SH.take 1 hS140), hl37⟩ (Nat.lt_succ_self _) ⟨rfl, rfl, rfl, rfl, trivial⟩
    · have hm := iteF hm hc47
      refine WP.exit ?_
      refine WQ.then_exit ?_
      refine WQ.then_exit ?_
      refine WQ.block_here ?_
      obtain rfl := Option.some.inj hm
      obtain rfl := afterN_done hl37
      have hm := hmo38
      refine WQ.then_normal (hK27 _ _ _ ?_)
      refine WP.seq (fun K165 hK165 => ?_)
      refine WP.region ?_
      refine WL.runk 3 [4, 5] [(4, .slice a30 st29.1.length c31), (5, .int .i64 0)] (by kernel_rfl) ?_
      refine WL.nil ?_
      refine WQ.then_normal (hK165 _ _ _ ?_)
      refine WP.ret ?_
      obtain rfl := Option.some.inj hm
      exact WQ.ret2 _ _ rfl rfl rfl ⟨_, _, rfl, hb34, hS36⟩

theorem c_60 (n : Nat) (a_0 : List (List UInt8)) (a0' : Option Addr) (c0' : Nat) (b_1 : List (List UInt8)) (a1' : Option Addr) (c1' : Nat) (w : World) {r : Int} (hm : m_impl_sameWear n a_0 b_1 = some r) (h0 : Rd fStr.ty w a0' a_0) (hle0 : a_0.length ≤ c0') (h1 : Rd fStr.ty w a1' b_1) (hle1 : b_1.length ≤ c1') :
    CallV Try.prog 60 #[.slice a0' a_0.length c0', .slice a1' b_1.length c1'] w (fun v w' => v = .int .i64 r ∧ Ext w w') := by
  unfold m_impl_sameWear at hm
  refine CallV.enter Try.func60 rfl (by kernel_rfl) Try.ntmps60 (env := [(0, .slice a0' a_0.length c0'), (1, .slice a1' b_1.length c1')]) ⟨rfl, rfl, trivial⟩ ?_
  refine WP.seq (fun K1 hK1 => ?_)
  refine WP.region ?_
  refine WL.runk 1 [0, 1] [(0, .slice a0' a_0.length c0'), (1, .slice a1' b_1.length c1')] (by kernel_rfl) ?_
  refine WL.nil ?_
  refine WQ.then_normal (hK1 _ _ _ ?_)
  refine WP.seq (fun K2 hK2 => ?_)
  refine WP.block ?_
  refine WP.seq (fun K3 hK3 => ?_)
  obtain ⟨x21, hx22, hm⟩ := bindE hm
  refine WP.cut (fun env' w' => env' = [(0, .slice a0' a_0.length c0'), (1, .slice a1' b_1.length c1'), (5, .bool x21)] ∧ Ext w w' ∧ w.heap.size ≤ w'.heap.size ∧ SH w' w.heap.size []) ?_ ?_
  · have hm := hx22; clear hx22
    refine WP.region ?_
    refine WL.runk 1 [0, 1, 6] [(0, .slice a0' a_0.length c0'), (1, .slice a1' b_1.length c1'), (6, .slice a0' a_0.length c0')] (by kernel_rfl) ?_
    obtain ⟨x23, hx24, hm⟩ := bindE hm
    refine WL.call 18 #[.slice a0' a_0.length c0'] rfl rfl (by kernel_rfl) (c_18 n a_0 a0' c0' w hx24 (Rd.below h0 (Ext.refl w)) hle0) ?_
    rintro _ w25 ⟨rfl, hE26⟩
    refine ⟨_, rfl, ?_⟩
    have hb28 : Ext w w25 := Ext.trans (Ext.refl w) hE26
    have hL29 : w.heap.size ≤ w25.heap.size := Nat.le_trans (Nat.le_refl _) hE26.size
    have hS30 : SH w25 w.heap.size [] := SH.ext (SH.nil _ _) hE26
    refine WL.runk 2 [0, 1, 9] [(0, .slice a0' a_0.length c0'), (1, .slice a1' b_1.length c1'), (9, .bool (!x23))] (by kernel_rfl) ?_
    refine WL.case (!x23) [9] ⟨rfl, trivial⟩ (fun hc31 => ?_) (fun hc31 => ?_)
    · have hm := iteT hm hc31
      refine WL.runk 5 [0, 1, 5] [(0, .slice a0' a_0.length c0'), (1, .slice a1' b_1.length c1'), (5, .bool true)] (by kernel_rfl) ?_
      refine WL.nil ?_
      obtain rfl := Option.some.inj hm
      exact WQ.post' ⟨rfl, hb28, hL29, hS30⟩ ⟨rfl, rfl, rfl, trivial⟩
    · have hm := iteF hm hc31
      refine WL.runk 1 [0, 1, 9, 10] [(0, .slice a0' a_0.length c0'), (1, .slice a1' b_1.length c1'), (9, .bool false), (10, .slice a1' b_1.length c1')] (by kernel_rfl) ?_
      obtain ⟨x32, hx33, hm⟩ := bindE hm
      refine WL.call 18 #[.slice a1' b_1.length c1'] rfl rfl (by kernel_rfl) (c_18 n b_1 a1' c1' w25 hx33 (Rd.below h1 hb28) hle1) ?_
      rintro _ w34 ⟨rfl, hE35⟩
      refine ⟨_, rfl, ?_⟩
      have hb37 : Ext w w34 := Ext.trans hb28 hE35
      have hL38 : w.heap.size ≤ w34.heap.size := Nat.le_trans hL29 hE35.size
      have hS39 : SH w34 w.heap.size [] := SH.ext hS30 hE35
      refine WL.runk 3 [0, 1, 5] [(0, .slice a0' a_0.length c0'), (1, .slice a1' b_1.length c1'), (5, .bool (!x32))] (by kernel_rfl) ?_
      refine WL.nil ?_
      obtain rfl := Option.some.inj hm
      exact WQ.post' ⟨rfl, hb37, hL38, hS39⟩ ⟨rfl, rfl, rfl, trivial⟩
  · clear hx22
    rintro _ w40 ⟨rfl, hb41, hL42, hS43⟩
    refine WQ.then_normal (hK3 _ _ _ ?_)
    refine WP.cond x21 rfl rfl (fun hc44 => ?_) (fun hc44 => ?_)
    · have hm := iteT hm hc44
      refine WP.seq (fun K45 hK45 => ?_)
      refine WP.region ?_
      refine WL.runk 1 [4] [(4, .int .i64 1)] (by kernel_rfl) ?_
      refine WL.nil ?_
      refine WQ.then_normal (hK45 _ _ _ ?_)
      refine WP.ret ?_
      refine WQ.block_ret ?_
      refine WQ.then_ret ?_
      obtain rfl := Option.some.inj hm
      exact WQ.ret1 _ rfl rfl ⟨rfl, hb41⟩
    · have hm := iteF hm hc44
      refine WP.seq (fun K46 hK46 => ?_)
      obtain ⟨x62, hx63, hm⟩ := bindE hm
      refine WP.cut (fun env' w' => env' = [(14, .bool x62)] ∧ Ext w w' ∧ w.heap.size ≤ w'.heap.size ∧ SH w' w.heap.size []) ?_ ?_
      · have hm := hx63; clear hx63
        refine WP.quiet (by kernel_rfl) (by kernel_rfl) ?_
        refine QL.step1 rfl (env' := [(0, .slice a0' a_0.length c0'), (1, .slice a1' b_1.length c1'), (5, .bool x21), (15, .slice a0' a_0.length c0')]) (fun _ => by kernel_rfl) ?_
        refine QL.sub [(0, .slice a0' a_0.length c0'), (1, .slice a1' b_1.length c1'), (15, .slice a0' a_0.length c0')] ⟨rfl, rfl, rfl, trivial⟩ ?_
        refine QL.step1 rfl (env' := [(0, .slice a0' a_0.length c0'), (1, .slice a1' b_1.length c1'), (15, .slice a0' a_0.length c0'), (16, .int .i64 (a_0.length : Int))]) (fun _ => by kernel_rfl) ?_
        refine QL.sub [(0, .slice a0' a_0.length c0'), (1, .slice a1' b_1.length c1'), (16, .int .i64 (a_0.length : Int))] ⟨rfl, rfl, rfl, trivial⟩ ?_
        refine QL.step1 rfl (env' := [(0, .slice a0' a_0.length c0'), (1, .slice a1' b_1.length c1'), (16, .int .i64 (a_0.length : Int)), (17, .slice a1' b_1.length c1')]) (fun _ => by kernel_rfl) ?_
        refine QL.step1 rfl (env' := [(0, .slice a0' a_0.length c0'), (1, .slice a1' b_1.length c1'), (16, .int .i64 (a_0.length : Int)), (17, .slice a1' b_1.length c1'), (18, .int .i64 (b_1.length : Int))]) (fun _ => by kernel_rfl) ?_
        refine QL.sub [(0, .slice a0' a_0.length c0'), (1, .slice a1' b_1.length c1'), (16, .int .i64 (a_0.length : Int)), (18, .int .i64 (b_1.length : Int))] ⟨rfl, rfl, rfl, rfl, trivial⟩ ?_
        refine QL.step1 rfl (env' := [(0, .slice a0' a_0.length c0'), (1, .slice a1' b_1.length c1'), (16, .int .i64 (a_0.length : Int)), (18, .int .i64 (b_1.length : Int)), (19, .bool ((a_0.length : Int) != (b_1.length : Int)))]) (fun _ => by kernel_rfl) ?_
        refine QL.sub [(0, .slice a0' a_0.length c0'), (1, .slice a1' b_1.length c1'), (19, .bool ((a_0.length : Int) != (b_1.length : Int)))] ⟨rfl, rfl, rfl, trivial⟩ ?_
        refine QL.step1 rfl (env' := [(0, .slice a0' a_0.length c0'), (1, .slice a1' b_1.length c1'), (19, .bool ((a_0.length : Int) != (b_1.length : Int))), (20, .bool ((a_0.length : Int) != (b_1.length : Int)))]) (fun _ => by kernel_rfl) ?_
        refine QL.sub [(0, .slice a0' a_0.length c0'), (1, .slice a1' b_1.length c1'), (20, .bool ((a_0.length : Int) != (b_1.length : Int)))] ⟨rfl, rfl, rfl, trivial⟩ ?_
        refine QL.case ((a_0.length : Int) != (b_1.length : Int)) [20] ⟨rfl, trivial⟩ (fun hc64 => ?_) (fun hc64 => ?_)
        · have hm := iteT hm hc64
          refine QL.step1 rfl (env' := [(0, .slice a0' a_0.length c0'), (1, .slice a1' b_1.length c1'), (20, .bool true), (21, undef)]) (fun _ => by kernel_rfl) ?_
          refine QL.step1 rfl (env' := [(0, .slice a0' a_0.length c0'), (1, .slice a1' b_1.length c1'), (20, .bool true), (21, undef), (22, undef)]) (fun _ => by kernel_rfl) ?_
          refine QL.step1 rfl (env' := [(0, .slice a0' a_0.length c0'), (1, .slice a1' b_1.length c1'), (20, .bool true), (21, undef), (22, undef), (23, undef)]) (fun _ => by kernel_rfl) ?_
          refine QL.step1 rfl (env' := [(0, .slice a0' a_0.length c0'), (1, .slice a1' b_1.length c1'), (20, .bool true), (21, undef), (22, undef), (23, undef), (24, undef)]) (fun _ => by kernel_rfl) ?_
          refine QL.step1 rfl (env' := [(0, .slice a0' a_0.length c0'), (1, .slice a1' b_1.length c1'), (20, .bool true), (21, undef), (22, undef), (23, undef), (24, undef), (25, undef)]) (fun _ => by kernel_rfl) ?_
          refine QL.step1 rfl (env' := [(0, .slice a0' a_0.length c0'), (1, .slice a1' b_1.length c1'), (20, .bool true), (21, undef), (22, undef), (23, undef), (24, undef), (25, undef), (26, undef)]) (fun _ => by kernel_rfl) ?_
          refine QL.step1 rfl (env' := [(0, .slice a0' a_0.length c0'), (1, .slice a1' b_1.length c1'), (20, .bool true), (21, undef), (22, undef), (23, undef), (24, undef), (25, undef), (26, undef), (27, undef)]) (fun _ => by kernel_rfl) ?_
          refine QL.step1 rfl (env' := [(0, .slice a0' a_0.length c0'), (1, .slice a1' b_1.length c1'), (20, .bool true), (21, undef), (22, undef), (23, undef), (24, undef), (25, undef), (26, undef), (27, undef), (28, undef)]) (fun _ => by kernel_rfl) ?_
          refine QL.step1 rfl (env' := [(0, .slice a0' a_0.length c0'), (1, .slice a1' b_1.length c1'), (20, .bool true), (21, undef), (22, undef), (23, undef), (24, undef), (25, undef), (26, undef), (27, undef), (28, undef), (29, undef)]) (fun _ => by kernel_rfl) ?_
          refine QL.step1 rfl (env' := [(0, .slice a0' a_0.length c0'), (1, .slice a1' b_1.length c1'), (20, .bool true), (21, undef), (22, undef), (23, undef), (24, undef), (25, undef), (26, undef), (27, undef), (28, undef), (29, undef), (30, .bool true)]) (fun _ => by kernel_rfl) ?_
          refine QL.sub [(30, .bool true)] ⟨rfl, trivial⟩ ?_
          refine QL.step1 rfl (env' := [(30, .bool true), (14, .bool true)]) (fun _ => by kernel_rfl) ?_
          refine QL.sub [(14, .bool true)] ⟨rfl, trivial⟩ ?_
          refine QL.sub [(14, .bool true)] ⟨rfl, trivial⟩ ?_
          refine QL.nil ?_
          intro w65 hE66
          have hb67 : Ext w w65 := Ext.trans hb41 hE66
          have hL68 : w.heap.size ≤ w65.heap.size := Nat.le_trans hL42 hE66.size
          have hS69 : SH w65 w.heap.size [] := SH.ext hS43 hE66
          obtain rfl := Option.some.inj hm
          exact WQ.post' ⟨rfl, hb67, hL68, hS69⟩ ⟨rfl, trivial⟩
        · have hm := iteF hm hc64
          refine QL.step1 rfl (env' := [(0, .slice a0' a_0.length c0'), (1, .slice a1' b_1.length c1'), (20, .bool false), (21, .slice a0' a_0.length c0')]) (fun _ => by kernel_rfl) ?_
          refine QL.sub [(1, .slice a1' b_1.length c1'), (20, .bool false), (21, .slice a0' a_0.length c0')] ⟨rfl, rfl, rfl, trivial⟩ ?_
          obtain ⟨x70, hx71, hm⟩ := bindE hm
          refine QL.st (.pointer (some (at_ a0' (Int.toNat 0 * 1)))) (ST.index (T := fStr.ty) (xs := a_0) (Rd.below h0 hb41) hx71 rfl rfl rfl Try.underlying22 (info9).1 (info9).2.1) rfl rfl rfl ?_
          refine QL.st (.string (bs x70)) (ST.load (cell_ext (Rd.flat (F := fStr) (Rd.below h0 hb41) hx71 0 rfl)) rfl rfl Try.underlying9 rfl) rfl rfl rfl ?_
          refine QL.step1 rfl (env' := [(1, .slice a1' b_1.length c1'), (20, .bool false), (21, .slice a0' a_0.length c0'), (22, .pointer (some (at_ a0' (Int.toNat 0 * 1)))), (23, .string (bs x70)), (24, .int .i64 (x70.length : Int))]) (fun _ => by kernel_rfl) ?_
          refine QL.sub [(1, .slice a1' b_1.length c1'), (20, .bool false), (24, .int .i64 (x70.length : Int))] ⟨rfl, rfl, rfl, trivial⟩ ?_
          refine QL.step1 rfl (env' := [(1, .slice a1' b_1.length c1'), (20, .bool false), (24, .int .i64 (x70.length : Int)), (25, .slice a1' b_1.length c1')]) (fun _ => by kernel_rfl) ?_
          refine QL.sub [(20, .bool false), (24, .int .i64 (x70.length : Int)), (25, .slice a1' b_1.length c1')] ⟨rfl, rfl, rfl, trivial⟩ ?_
          obtain ⟨x72, hx73, hm⟩ := bindE hm
          refine QL.st (.pointer (some (at_ a1' (Int.toNat 0 * 1)))) (ST.index (T := fStr.ty) (xs := b_1) (Rd.below h1 hb41) hx73 rfl rfl rfl Try.underlying22 (info9).1 (info9).2.1) rfl rfl rfl ?_
          refine QL.st (.string (bs x72)) (ST.load (cell_ext (Rd.flat (F := fStr) (Rd.below h1 hb41) hx73 0 rfl)) rfl rfl Try.underlying9 rfl) rfl rfl rfl ?_
          refine QL.step1 rfl (env' := [(20, .bool false), (24, .int .i64 (x70.length : Int)), (25, .slice a1' b_1.length c1'), (26, .pointer (some (at_ a1' (Int.toNat 0 * 1)))), (27, .string (bs x72)), (28, .int .i64 (x72.length : Int))]) (fun _ => by kernel_rfl) ?_
          refine QL.sub [(20, .bool false), (24, .int .i64 (x70.length : Int)), (28, .int .i64 (x72.length : Int))] ⟨rfl, rfl, rfl, trivial⟩ ?_
          refine QL.step1 rfl (env' := [(20, .bool false), (24, .int .i64 (x70.length : Int)), (28, .int .i64 (x72.length : Int)), (29, .bool ((x70.length : Int) != (x72.length : Int)))]) (fun _ => by kernel_rfl) ?_
          refine QL.sub [(20, .bool false), (29, .bool ((x70.length : Int) != (x72.length : Int)))] ⟨rfl, rfl, trivial⟩ ?_
          refine QL.step1 rfl (env' := [(20, .bool false), (29, .bool ((x70.length : Int) != (x72.length : Int))), (30, .bool ((x70.length : Int) != (x72.length : Int)))]) (fun _ => by kernel_rfl) ?_
          refine QL.sub [(30, .bool ((x70.length : Int) != (x72.length : Int)))] ⟨rfl, trivial⟩ ?_
          refine QL.step1 rfl (env' := [(30, .bool ((x70.length : Int) != (x72.length : Int))), (14, .bool ((x70.length : Int) != (x72.length : Int)))]) (fun _ => by kernel_rfl) ?_
          refine QL.sub [(14, .bool ((x70.length : Int) != (x72.length : Int)))] ⟨rfl, trivial⟩ ?_
          refine QL.sub [(14, .bool ((x70.length : Int) != (x72.length : Int)))] ⟨rfl, trivial⟩ ?_
          refine QL.nil ?_
          intro w74 hE75
          have hb76 : Ext w w74 := Ext.trans hb41 hE75
          have hL77 : w.heap.size ≤ w74.heap.size := Nat.le_trans hL42 hE75.size
          have hS78 : SH w74 w.heap.size [] := SH.ext hS43 hE75
          obtain rfl := Option.some.inj hm
          exact WQ.post' ⟨rfl, hb76, hL77, hS78⟩ ⟨rfl, trivial⟩
      · clear hx63
        rintro _ w79 ⟨rfl, hb80, hL81, hS82⟩
        refine WQ.then_normal (hK46 _ _ _ ?_)
        refine WP.cond x62 rfl rfl (fun hc83 => ?_) (fun hc83 => ?_)
        · have hm := iteT hm hc83
          refine WP.seq (fun K84 hK84 => ?_)
          refine WP.region ?_
          refine WL.runk 1 [4] [(4, .int .i64 9)] (by kernel_rfl) ?_
          refine WL.nil ?_
          refine WQ.then_normal (hK84 _ _ _ ?_)
          refine WP.ret ?_
          refine WQ.block_ret ?_
          refine WQ.then_ret ?_
          obtain rfl := Option.some.inj hm
          exact WQ.ret1 _ rfl rfl ⟨rfl, hb80⟩
        · have hm := iteF hm hc83
          refine WP.skip ?_
          refine WQ.block_normal ?_
          refine WQ.then_normal (hK2 _ _ _ ?_)
          refine WP.seq (fun K85 hK85 => ?_)
          refine WP.region ?_
          refine WL.runk 1 [4] [(4, .int .i64 0)] (by kernel_rfl) ?_
          refine WL.nil ?_
          refine WQ.then_normal (hK85 _ _ _ ?_)
          refine WP.ret ?_
          obtain rfl := Option.some.inj hm
          exact WQ.ret1 _ rfl rfl ⟨rfl, hb80⟩

theorem c_27 (n : Nat) (a_0 : List (List UInt8)) (a0' : Option Addr) (c0' : Nat) (b_1 : List (List UInt8)) (a1' : Option Addr) (c1' : Nat) (w : World) {r : List (List UInt8) × Int} (hm : m_impl_AddWear n a_0 b_1 = some r) (h0 : Rd fStr.ty w a0' a_0) (hle0 : a_0.length ≤ c0') (h1 : Rd fStr.ty w a1' b_1) (hle1 : b_1.length ≤ c1') :
    CallV Try.prog 27 #[.slice a0' a_0.length c0', .slice a1' b_1.length c1'] w (fun v w' => ∃ (ra0 : Option Addr) (rc0 : Nat), v = .tuple #[.slice ra0 r.1.length rc0, .int .i64 r.2] ∧ Ext w w' ∧ SH w' w.heap.size [aOwn fStr 9 ra0 rc0 r.1]) := by
  unfold m_impl_AddWear at hm
  refine CallV.enter Try.func27 rfl (by kernel_rfl) Try.ntmps27 (env := [(0, .slice a0' a_0.length c0'), (1, .slice a1' b_1.length c1')]) ⟨rfl, rfl, trivial⟩ ?_
  refine WP.seq (fun K1 hK1 => ?_)
  refine WP.region ?_
  refine WL.runk 2 [0, 1] [(0, .slice a0' a_0.length c0'), (1, .slice a1' b_1.length c1')] (by kernel_rfl) ?_
  refine WL.nil ?_
  refine WQ.then_normal (hK1 _ _ _ ?_)
  refine WP.seq (fun K2 hK2 => ?_)
  refine WP.seq (fun K3 hK3 => ?_)
  refine WP.region ?_
  refine WL.runk 2 [0, 1, 11, 12] [(0, .slice a0' a_0.length c0'), (1, .slice a1' b_1.length c1'), (11, .slice a0' a_0.length c0'), (12, .slice a1' b_1.length c1')] (by kernel_rfl) ?_
  obtain ⟨x4, hx5, hm⟩ := bindE hm
  refine WL.call 60 #[.slice a0' a_0.length c0', .slice a1' b_1.length c1'] rfl rfl (by kernel_rfl) (c_60 n a_0 a0' c0' b_1 a1' c1' w hx5 (Rd.below h0 (Ext.refl w)) hle0 (Rd.below h1 (Ext.refl w)) hle1) ?_
  rintro _ w6 ⟨rfl, hE7⟩
  refine ⟨_, rfl, ?_⟩
  have hb9 : Ext w w6 := Ext.trans (Ext.refl w) hE7
  have hL10 : w.heap.size ≤ w6.heap.size := Nat.le_trans (Nat.le_refl _) hE7.size
  have hS11 : SH w6 w.heap.size [] := SH.ext (SH.nil _ _) hE7
  refine WL.runk 1 [0, 1, 6] [(0, .slice a0' a_0.length c0'), (1, .slice a1' b_1.length c1'), (6, .int .i64 x4)] (by kernel_rfl) ?_
  refine WL.nil ?_
  refine WQ.then_normal (hK3 _ _ _ ?_)
  refine WP.seq (fun K12 hK12 => ?_)
  refine WP.region ?_
  refine WL.runk 2 [0, 1, 6, 15] [(0, .slice a0' a_0.length c0'), (1, .slice a1' b_1.length c1'), (6, .int .i64 x4), (15, .bool (x4 != 0))] (by kernel_rfl) ?_
  refine WL.nil ?_
  refine WQ.then_normal (hK12 _ _ _ ?_)
  refine WP.cond (x4 != 0) rfl rfl (fun hc13 => ?_) (fun hc13 => ?_)
  · have hm := iteT hm hc13
    refine WP.seq (fun K14 hK14 => ?_)
    refine WP.region ?_
    refine WL.runk 3 [4, 5] [(4, .slice none 0 0), (5, .int .i64 x4)] (by kernel_rfl) ?_
    refine WL.nil ?_
    refine WQ.then_normal (hK14 _ _ _ ?_)
    refine WP.ret ?_
    refine WQ.then_ret ?_
    obtain rfl := Option.some.inj hm
    have hS16 : SH w6 w.heap.size [aOwn fStr 9 none 0 ([] : List (List UInt8))] := SH.nilOwn hS11
    exact WQ.ret2 _ _ rfl rfl rfl ⟨_, _, rfl, hb9, hS16⟩
  · have hm := iteF hm hc13
    refine WP.skip ?_
    refine WQ.then_normal (hK2 _ _ _ ?_)
    refine WP.seq (fun K17 hK17 => ?_)
    refine WP.region ?_
    refine WL.row fStr 9 ([] : List (List UInt8)) 0 #[] 17 (by kernel_rfl) rfl rfl rfl rfl rfl rfl rfl ?_
    intro a18 c19 w20 hE21 hR22
    have hb24 : Ext w w20 := Ext.trans hb9 hE21
    have hL25 : w.heap.size ≤ w20.heap.size := Nat.le_trans hL10 hE21.size
    have hS26 : SH w20 w.heap.size [aOwn fStr 9 a18 c19 ([] : List (List UInt8))] := SH.add hS11 hE21 hL10 hR22
    refine WL.runk 1 [0, 1, 7] [(0, .slice a0' a_0.length c0'), (1, .slice a1' b_1.length c1'), (7, .slice a18 (([] : List (List UInt8)).length) c19)] (by kernel_rfl) ?_
    refine WL.nil ?_
    refine WQ.then_normal (hK17 _ _ _ ?_)
    refine WP.seq (fun K27 hK27 => ?_)
    refine WP.seq (fun K28 hK28 => ?_)
    refine WP.region ?_
    refine WL.runk 3 [0, 1, 7, 19, 20] [(0, .slice a0' a_0.length c0'), (1, .slice a1' b_1.length c1'), (7, .slice a18 (([] : List (List UInt8)).length) c19), (19, .int .i64 (a_0.length : Int)), (20, .int .i64 0)] (by kernel_rfl) ?_
    refine WL.nil ?_
    refine WQ.then_normal (hK28 _ _ _ ?_)
    refine WP.block ?_
    obtain ⟨t43, ht44, hm⟩ := bindE hm
    have hmo38 := hm; clear hm
    refine WP.sub [(0, .slice a0' a_0.length c0'), (1, .slice a1' b_1.length c1'), (7, .slice a18 (([] : List (List UInt8)).length) c19), (19, .int .i64 (a_0.length : Int)), (20, .int .i64 0)] ⟨rfl, rfl, rfl, rfl, rfl, trivial⟩ ?_
    refine WP.loop (fun n' env' w' => ∃ (st29 : List (List UInt8) × Int) (a30 : Option Addr) (c31 : Nat), env' = [(0, .slice a0' a_0.length c0'), (1, .slice a1' b_1.length c1'), (7, .slice a30 st29.1.length c31), (19, .int .i64 (a_0.length : Int)), (20, .int .i64 st29.2)] ∧ Ext w w' ∧ w.heap.size ≤ w'.heap.size ∧ SH w' w.heap.size [aOwn fStr 9 a30 c31 st29.1] ∧ loopN (m_impl_AddWear_l1 n a_0 b_1) n' st29 = some t43) n ⟨(([] : List (List UInt8)), 0), _, _, rfl, hb24, hL25, hS26, ht44⟩ ?_
    rintro n40 _ w33 ⟨st29, a30, c31, rfl, hb34, hL35, hS36, hl37⟩ K39 hK39
    obtain ⟨n41, s42, rfl, hm, hl37⟩ := loopN_some hl37
    unfold m_impl_AddWear_l1 at hm
    refine WP.seq (fun K45 hK45 => ?_)
    refine WP.region ?_
    refine WL.runk 1 [0, 1, 7, 19, 20, 21] [(0, .slice a0' a_0.length c0'), (1, .slice a1' b_1.length c1'), (7, .slice a30 st29.1.length c31), (19, .int .i64 (a_0.length : Int)), (20, .int .i64 st29.2), (21, .bool (decide (st29.2 < (a_0.length : Int))))] (by kernel_rfl) ?_
    refine WL.nil ?_
    refine WQ.then_normal (hK45 _ _ _ ?_)
    refine WP.seq (fun K46 hK46 => ?_)
    refine WP.cond (decide (st29.2 < (a_0.length : Int))) rfl rfl (fun hc47 => ?_) (fun hc47 => ?_)
    · have hm := iteT hm hc47
      refine WP.skip ?_
      refine WQ.then_normal (hK46 _ _ _ ?_)
      refine WP.seq (fun K48 hK48 => ?_)
      refine WP.block ?_
      refine WP.seq (fun K49 hK49 => ?_)
      refine WP.region ?_
      refine WL.runk 2 [0, 1, 7, 8, 19, 20] [(0, .slice a0' a_0.length c0'), (1, .slice a1' b_1.length c1'), (7, .slice a30 st29.1.length c31), (19, .int .i64 (a_0.length : Int)), (20, .int .i64 st29.2), (8, .int .i64 st29.2)] (by kernel_rfl) ?_
      refine WL.nil ?_
      refine WQ.then_normal (hK49 _ _ _ ?_)
      refine WP.seq (fun K50 hK50 => ?_)
      refine WP.region ?_
      refine WL.row fU8 5 ([] : List Int) 0 #[] 23 (by kernel_rfl) rfl rfl rfl rfl rfl rfl rfl ?_
      intro a51 c52 w53 hE54 hR55
      have hb57 : Ext w w53 := Ext.trans hb34 hE54
      have hL58 : w.heap.size ≤ w53.heap.size := Nat.le_trans hL35 hE54.size
      have hS59 : SH w53 w.heap.size [aOwn fU8 5 a51 c52 ([] : List Int), aOwn fStr 9 a30 c31 st29.1] := SH.add hS36 hE54 hL35 hR55
      refine WL.runk 1 [0, 1, 7, 8, 9, 19, 20] [(0, .slice a0' a_0.length c0'), (1, .slice a1' b_1.length c1'), (7, .slice a30 st29.1.length c31), (19, .int .i64 (a_0.length : Int)), (20, .int .i64 st29.2), (8, .int .i64 st29.2), (9, .slice a51 (([] : List Int).length) c52)] (by kernel_rfl) ?_
      refine WL.nil ?_
      refine WQ.then_normal (hK50 _ _ _ ?_)
      refine WP.seq (fun K60 hK60 => ?_)
      refine WP.seq (fun K61 hK61 => ?_)
      refine WP.region ?_
      refine WL.runk 2 [0, 1, 7, 8, 9, 19, 20, 24, 25] [(0, .slice a0' a_0.length c0'), (1, .slice a1' b_1.length c1'), (7, .slice a30 st29.1.length c31), (19, .int .i64 (a_0.length : Int)), (20, .int .i64 st29.2), (8, .int .i64 st29.2), (9, .slice a51 (([] : List Int).length) c52), (24, .slice a0' a_0.length c0'), (25, .int .i64 st29.2)] (by kernel_rfl) ?_
      obtain ⟨x62, hx63, hm⟩ := bindE hm
      refine WL.st (.pointer (some (at_ a0' (Int.toNat st29.2 * 1)))) (ST.index (T := fStr.ty) (xs := a_0) (Rd.below h0 hb57) hx63 rfl rfl rfl Try.underlying22 (info9).1 (info9).2.1) rfl rfl rfl ?_
      refine WL.st (.string (bs x62)) (ST.load (cell_ext (Rd.flat (F := fStr) (Rd.below h0 hb57) hx63 0 rfl)) rfl rfl Try.underlying9 rfl) rfl rfl rfl ?_
      refine WL.runk 2 [0, 1, 7, 8, 9, 19, 20, 28, 29] [(0, .slice a0' a_0.length c0'), (1, .slice a1' b_1.length c1'), (7, .slice a30 st29.1.length c31), (19, .int .i64 (a_0.length : Int)), (20, .int .i64 st29.2), (8, .int .i64 st29.2), (9, .slice a51 (([] : List Int).length) c52), (28, .int .i64 (x62.length : Int)), (29, .int .i64 0)] (by kernel_rfl) ?_
      refine WL.nil ?_
      refine WQ.then_normal (hK61 _ _ _ ?_)
      refine WP.block ?_
      obtain ⟨t78, ht79, hm⟩ := bindE hm
      have hmo73 := hm; clear hm
      refine WP.sub [(0, .slice a0' a_0.length c0'), (1, .slice a1' b_1.length c1'), (7, .slice a30 st29.1.length c31), (19, .int .i64 (a_0.length : Int)), (20, .int .i64 st29.2), (8, .int .i64 st29.2), (9, .slice a51 (([] : List Int).length) c52), (28, .int .i64 (x62.length : Int)), (29, .int .i64 0)] ⟨rfl, rfl, rfl, rfl, rfl, rfl, rfl, rfl, rfl, trivial⟩ ?_
      refine WP.loop (fun n' env' w' => ∃ (st64 : List Int × Int) (a65 : Option Addr) (c66 : Nat), env' = [(0, .slice a0' a_0.length c0'), (1, .slice a1' b_1.length c1'), (7, .slice a30 st29.1.length c31), (19, .int .i64 (a_0.length : Int)), (20, .int .i64 st29.2), (8, .int .i64 st29.2), (9, .slice a65 st64.1.length c66), (28, .int .i64 (x62.length : Int)), (29, .int .i64 st64.2)] ∧ Ext w w' ∧ w.heap.size ≤ w'.heap.size ∧ SH w' w.heap.size [aOwn fU8 5 a65 c66 st64.1, aOwn fStr 9 a30 c31 st29.1] ∧ loopN (m_impl_AddWear_l2 n a_0 b_1 st29 x62) n' st64 = some t78) n ⟨(([] : List Int), 0), _, _, rfl, hb57, hL58, hS59, ht79⟩ ?_
      rintro n75 _ w68 ⟨st64, a65, c66, rfl, hb69, hL70, hS71, hl72⟩ K74 hK74
      obtain ⟨n76, s77, rfl, hm, hl72⟩ := loopN_some hl72
      unfold m_impl_AddWear_l2 at hm
      refine WP.seq (fun K80 hK80 => ?_)
      refine WP.region ?_
      refine WL.runk 1 [0, 1, 7, 8, 9, 19, 20, 28, 29, 30] [(0, .slice a0' a_0.length c0'), (1, .slice a1' b_1.length c1'), (7, .slice a30 st29.1.length c31), (19, .int .i64 (a_0.length : Int)), (20, .int .i64 st29.2), (8, .int .i64 st29.2), (9, .slice a65 st64.1.length c66), (28, .int .i64 (x62.length : Int)), (29, .int .i64 st64.2), (30, .bool (decide (st64.2 < (x62.length : Int))))] (by kernel_rfl) ?_
      refine WL.nil ?_
      refine WQ.then_normal (hK80 _ _ _ ?_)
      refine WP.seq (fun K81 hK81 => ?_)
      refine WP.cond (decide (st64.2 < (x62.length : Int))) rfl rfl (fun hc82 => ?_) (fun hc82 => ?_)
      · have hm := iteT hm hc82
        refine WP.skip ?_
        refine WQ.then_normal (hK81 _ _ _ ?_)
        refine WP.seq (fun K83 hK83 => ?_)
        refine WP.block ?_
        refine WP.seq (fun K84 hK84 => ?_)
        refine WP.region ?_
        refine WL.runk 2 [0, 1, 7, 8, 9, 10, 19, 20, 28, 29] [(0, .slice a0' a_0.length c0'), (1, .slice a1' b_1.length c1'), (7, .slice a30 st29.1.length c31), (19, .int .i64 (a_0.length : Int)), (20, .int .i64 st29.2), (8, .int .i64 st29.2), (9, .slice a65 st64.1.length c66), (28, .int .i64 (x62.length : Int)), (29, .int .i64 st64.2), (10, .int .i64 st64.2)] (by kernel_rfl) ?_
        refine WL.nil ?_
        refine WQ.then_normal (hK84 _ _ _ ?_)
        refine WP.open (n := 19) (by kernel_rfl) rfl (fun w85 hE86 => ?_)
        have hb87 : Ext w w85 := Ext.trans hb69 hE86
        have hL88 : w.heap.size ≤ w85.heap.size := Nat.le_trans hL70 hE86.size
        have hS89 : SH w85 w.heap.size [aOwn fU8 5 a65 c66 st64.1, aOwn fStr 9 a30 c31 st29.1] := SH.ext hS71 hE86
        refine WA.pre (i := 0) (D' := [0]) [(0, .slice a0' a_0.length c0'), (1, .slice a1' b_1.length c1'), (7, .slice a30 st29.1.length c31), (19, .int .i64 (a_0.length : Int)), (20, .int .i64 st29.2), (8, .int .i64 st29.2), (9, .slice a65 st64.1.length c66), (28, .int .i64 (x62.length : Int)), (29, .int .i64 st64.2), (10, .int .i64 st64.2), (32, .slice a65 st64.1.length c66)] rfl (by kernel_rfl) rfl (fun _ => by kernel_rfl) rfl ?_
        refine WA.quiet (f' := 3) (D' := [0, 1, 2, 3, 4, 5, 6, 7, 8, 9, 10, 11, 12, 13, 14, 15]) [1, 2, 3, 4, 5, 6, 7, 8, 9, 10, 11, 12, 13, 14, 15] rfl rfl (by kernel_rfl) ?_
        refine QL.step1 rfl (env' := [(0, .slice a0' a_0.length c0'), (1, .slice a1' b_1.length c1'), (7, .slice a30 st29.1.length c31), (19, .int .i64 (a_0.length : Int)), (20, .int .i64 st29.2), (8, .int .i64 st29.2), (9, .slice a65 st64.1.length c66), (28, .int .i64 (x62.length : Int)), (29, .int .i64 st64.2), (10, .int .i64 st64.2), (32, .slice a65 st64.1.length c66), (33, .slice a0' a_0.length c0')]) (fun _ => by kernel_rfl) ?_
        refine QL.step1 rfl (env' := [(0, .slice a0' a_0.length c0'), (1, .slice a1' b_1.length c1'), (7, .slice a30 st29.1.length c31), (19, .int .i64 (a_0.length : Int)), (20, .int .i64 st29.2), (8, .int .i64 st29.2), (9, .slice a65 st64.1.length c66), (28, .int .i64 (x62.length : Int)), (29, .int .i64 st64.2), (10, .int .i64 st64.2), (32, .slice a65 st64.1.length c66), (33, .slice a0' a_0.length c0'), (34, .int .i64 st29.2)]) (fun _ => by kernel_rfl) ?_
        obtain ⟨x90, hx91, hm⟩ := bindE hm
        refine QL.st (.pointer (some (at_ a0' (Int.toNat st29.2 * 1)))) (ST.index (T := fStr.ty) (xs := a_0) (Rd.below h0 hb87) hx91 rfl rfl rfl Try.underlying22 (info9).1 (info9).2.1) rfl rfl rfl ?_
        refine QL.st (.string (bs x90)) (ST.load (cell_ext (Rd.flat (F := fStr) (Rd.below h0 hb87) hx91 0 rfl)) rfl rfl Try.underlying9 rfl) rfl rfl rfl ?_
        refine QL.step1 rfl (env' := [(0, .slice a0' a_0.length c0'), (1, .slice a1' b_1.length c1'), (7, .slice a30 st29.1.length c31), (19, .int .i64 (a_0.length : Int)), (20, .int .i64 st29.2), (8, .int .i64 st29.2), (9, .slice a65 st64.1.length c66), (28, .int .i64 (x62.length : Int)), (29, .int .i64 st64.2), (10, .int .i64 st64.2), (32, .slice a65 st64.1.length c66), (33, .slice a0' a_0.length c0'), (34, .int .i64 st29.2), (35, .pointer (some (at_ a0' (Int.toNat st29.2 * 1)))), (36, .string (bs x90)), (37, .int .i64 st64.2)]) (fun _ => by kernel_rfl) ?_
        refine QL.sub [(0, .slice a0' a_0.length c0'), (1, .slice a1' b_1.length c1'), (7, .slice a30 st29.1.length c31), (19, .int .i64 (a_0.length : Int)), (20, .int .i64 st29.2), (8, .int .i64 st29.2), (9, .slice a65 st64.1.length c66), (28, .int .i64 (x62.length : Int)), (29, .int .i64 st64.2), (10, .int .i64 st64.2), (32, .slice a65 st64.1.length c66), (36, .string (bs x90)), (37, .int .i64 st64.2)] ⟨rfl, rfl, rfl, rfl, rfl, rfl, rfl, rfl, rfl, rfl, rfl, rfl, rfl, trivial⟩ ?_
        obtain ⟨x92, hx93, hm⟩ := bindE hm
        refine QL.st (.int .u8 (x92.toNat : Int)) (ST.sindex hx93 rfl rfl rfl Try.underlying9) rfl rfl rfl ?_
        refine QL.step1 rfl (env' := [(0, .slice a0' a_0.length c0'), (1, .slice a1' b_1.length c1'), (7, .slice a30 st29.1.length c31), (19, .int .i64 (a_0.length : Int)), (20, .int .i64 st29.2), (8, .int .i64 st29.2), (9, .slice a65 st64.1.length c66), (28, .int .i64 (x62.length : Int)), (29, .int .i64 st64.2), (10, .int .i64 st64.2), (32, .slice a65 st64.1.length c66), (36, .string (bs x90)), (37, .int .i64 st64.2), (38, .int .u8 (x92.toNat : Int)), (39, .slice a1' b_1.length c1')]) (fun _ => by kernel_rfl) ?_
        refine QL.sub [(0, .slice a0' a_0.length c0'), (1, .slice a1' b_1.length c1'), (7, .slice a30 st29.1.length c31), (19, .int .i64 (a_0.length : Int)), (20, .int .i64 st29.2), (8, .int .i64 st29.2), (9, .slice a65 st64.1.length c66), (28, .int .i64 (x62.length : Int)), (29, .int .i64 st64.2), (10, .int .i64 st64.2), (32, .slice a65 st64.1.length c66), (38, .int .u8 (x92.toNat : Int)), (39, .slice a1' b_1.length c1')] ⟨rfl, rfl, rfl, rfl, rfl, rfl, rfl, rfl, rfl, rfl, rfl, rfl, rfl, trivial⟩ ?_
        refine QL.step1 rfl (env' := [(0, .slice a0' a_0.length c0'), (1, .slice a1' b_1.length c1'), (7, .slice a30 st29.1.length c31), (19, .int .i64 (a_0.length : Int)), (20, .int .i64 st29.2), (8, .int .i64 st29.2), (9, .slice a65 st64.1.length c66), (28, .int .i64 (x62.length : Int)), (29, .int .i64 st64.2), (10, .int .i64 st64.2), (32, .slice a65 st64.1.length c66), (38, .int .u8 (x92.toNat : Int)), (39, .slice a1' b_1.length c1'), (40, .int .i64 st29.2)]) (fun _ => by kernel_rfl) ?_
        obtain ⟨x94, hx95, hm⟩ := bindE hm
        refine QL.st (.pointer (some (at_ a1' (Int.toNat st29.2 * 1)))) (ST.index (T := fStr.ty) (xs := b_1) (Rd.below h1 hb87) hx95 rfl rfl rfl Try.underlying22 (info9).1 (info9).2.1) rfl rfl rfl ?_
        refine QL.st (.string (bs x94)) (ST.load (cell_ext (Rd.flat (F := fStr) (Rd.below h1 hb87) hx95 0 rfl)) rfl rfl Try.underlying9 rfl) rfl rfl rfl ?_
        refine QL.step1 rfl (env' := [(0, .slice a0' a_0.length c0'), (1, .slice a1' b_1.length c1'), (7, .slice a30 st29.1.length c31), (19, .int .i64 (a_0.length : Int)), (20, .int .i64 st29.2), (8, .int .i64 st29.2), (9, .slice a65 st64.1.length c66), (28, .int .i64 (x62.length : Int)), (29, .int .i64 st64.2), (10, .int .i64 st64.2), (32, .slice a65 st64.1.length c66), (38, .int .u8 (x92.toNat : Int)), (39, .slice a1' b_1.length c1'), (40, .int .i64 st29.2), (41, .pointer (some (at_ a1' (Int.toNat st29.2 * 1)))), (42, .string (bs x94)), (43, .int .i64 st64.2)]) (fun _ => by kernel_rfl) ?_
        refine QL.sub [(0, .slice a0' a_0.length c0'), (1, .slice a1' b_1.length c1'), (7, .slice a30 st29.1.length c31), (19, .int .i64 (a_0.length : Int)), (20, .int .i64 st29.2), (8, .int .i64 st29.2), (9, .slice a65 st64.1.length c66), (28, .int .i64 (x62.length : Int)), (29, .int .i64 st64.2), (32, .slice a65 st64.1.length c66), (38, .int .u8 (x92.toNat : Int)), (42, .string (bs x94)), (43, .int .i64 st64.2)] ⟨rfl, rfl, rfl, rfl, rfl, rfl, rfl, rfl, rfl, rfl, rfl, rfl, rfl, trivial⟩ ?_
        obtain ⟨x96, hx97, hm⟩ := bindE hm
        refine QL.st (.int .u8 (x96.toNat : Int)) (ST.sindex hx97 rfl rfl rfl Try.underlying9) rfl rfl rfl ?_
        refine QL.step1 rfl (env' := [(0, .slice a0' a_0.length c0'), (1, .slice a1' b_1.length c1'), (7, .slice a30 st29.1.length c31), (19, .int .i64 (a_0.length : Int)), (20, .int .i64 st29.2), (8, .int .i64 st29.2), (9, .slice a65 st64.1.length c66), (28, .int .i64 (x62.length : Int)), (29, .int .i64 st64.2), (32, .slice a65 st64.1.length c66), (38, .int .u8 (x92.toNat : Int)), (42, .string (bs x94)), (43, .int .i64 st64.2), (44, .int .u8 (x96.toNat : Int)), (45, .int .u8 (IntKind.u8.wrap ((x96.toNat : Int) - 48)))]) (fun _ => by kernel_rfl) ?_
        refine QL.sub [(0, .slice a0' a_0.length c0'), (1, .slice a1' b_1.length c1'), (7, .slice a30 st29.1.length c31), (19, .int .i64 (a_0.length : Int)), (20, .int .i64 st29.2), (8, .int .i64 st29.2), (9, .slice a65 st64.1.length c66), (28, .int .i64 (x62.length : Int)), (29, .int .i64 st64.2), (32, .slice a65 st64.1.length c66), (38, .int .u8 (x92.toNat : Int)), (45, .int .u8 (IntKind.u8.wrap ((x96.toNat : Int) - 48)))] ⟨rfl, rfl, rfl, rfl, rfl, rfl, rfl, rfl, rfl, rfl, rfl, rfl, trivial⟩ ?_
        refine QL.step1 rfl (env' := [(0, .slice a0' a_0.length c0'), (1, .slice a1' b_1.length c1'), (7, .slice a30 st29.1.length c31), (19, .int .i64 (a_0.length : Int)), (20, .int .i64 st29.2), (8, .int .i64 st29.2), (9, .slice a65 st64.1.length c66), (28, .int .i64 (x62.length : Int)), (29, .int .i64 st64.2), (32, .slice a65 st64.1.length c66), (38, .int .u8 (x92.toNat : Int)), (45, .int .u8 (IntKind.u8.wrap ((x96.toNat : Int) - 48))), (46, .int .u8 (IntKind.u8.wrap ((x92.toNat : Int) + (IntKind.u8.wrap ((x96.toNat : Int) - 48)))))]) (fun _ => by kernel_rfl) ?_
        refine QL.sub [(0, .slice a0' a_0.length c0'), (1, .slice a1' b_1.length c1'), (7, .slice a30 st29.1.length c31), (19, .int .i64 (a_0.length : Int)), (20, .int .i64 st29.2), (8, .int .i64 st29.2), (9, .slice a65 st64.1.length c66), (28, .int .i64 (x62.length : Int)), (29, .int .i64 st64.2), (32, .slice a65 st64.1.length c66), (46, .int .u8 (IntKind.u8.wrap ((x92.toNat : Int) + (IntKind.u8.wrap ((x96.toNat : Int) - 48)))))] ⟨rfl, rfl, rfl, rfl, rfl, rfl, rfl, rfl, rfl, rfl, rfl, trivial⟩ ?_
        refine QL.step1 rfl (env' := [(0, .slice a0' a_0.length c0'), (1, .slice a1' b_1.length c1'), (7, .slice a30 st29.1.length c31), (19, .int .i64 (a_0.length : Int)), (20, .int .i64 st29.2), (8, .int .i64 st29.2), (9, .slice a65 st64.1.length c66), (28, .int .i64 (x62.length : Int)), (29, .int .i64 st64.2), (32, .slice a65 st64.1.length c66), (46, .int .u8 (IntKind.u8.wrap ((x92.toNat : Int) + (IntKind.u8.wrap ((x96.toNat : Int) - 48))))), (47, .int .u8 (imin (IntKind.u8.wrap ((x92.toNat : Int) + (IntKind.u8.wrap ((x96.toNat : Int) - 48)))) 57))]) (fun _ => by kernel_rfl) ?_
        refine QL.sub [(0, .slice a0' a_0.length c0'), (1, .slice a1' b_1.length c1'), (7, .slice a30 st29.1.length c31), (19, .int .i64 (a_0.length : Int)), (20, .int .i64 st29.2), (8, .int .i64 st29.2), (9, .slice a65 st64.1.length c66), (28, .int .i64 (x62.length : Int)), (29, .int .i64 st64.2), (32, .slice a65 st64.1.length c66), (47, .int .u8 (imin (IntKind.u8.wrap ((x92.toNat : Int) + (IntKind.u8.wrap ((x96.toNat : Int) - 48)))) 57))] ⟨rfl, rfl, rfl, rfl, rfl, rfl, rfl, rfl, rfl, rfl, rfl, trivial⟩ ?_
        refine QL.sub [(0, .slice a0' a_0.length c0'), (1, .slice a1' b_1.length c1'), (7, .slice a30 st29.1.length c31), (19, .int .i64 (a_0.length : Int)), (20, .int .i64 st29.2), (8, .int .i64 st29.2), (9, .slice a65 st64.1.length c66), (28, .int .i64 (x62.length : Int)), (29, .int .i64 st64.2), (32, .slice a65 st64.1.length c66), (47, .int .u8 (imin (IntKind.u8.wrap ((x92.toNat : Int) + (IntKind.u8.wrap ((x96.toNat : Int) - 48)))) 57))] ⟨rfl, rfl, rfl, rfl, rfl, rfl, rfl, rfl, rfl, rfl, rfl, trivial⟩ ?_
        refine QL.nil ?_
        intro w98 hE99
        have hb100 : Ext w w98 := Ext.trans hb87 hE99
        have hL101 : w.heap.size ≤ w98.heap.size := Nat.le_trans hL88 hE99.size
        have hS102 : SH w98 w.heap.size [aOwn fU8 5 a65 c66 st64.1, aOwn fStr 9 a30 c31 st29.1] := SH.ext hS89 hE99
        refine WA.one (i := 16) (D' := [0, 1, 2, 3, 4, 5, 6, 7, 8, 9, 10, 11, 12, 13, 14, 15, 16]) rfl rfl (by kernel_rfl) ?_
        refine WL.row fU8 5 ([(imin (IntKind.u8.wrap ((x92.toNat : Int) + (IntKind.u8.wrap ((x96.toNat : Int) - 48)))) 57)] : List Int) 1 #[.int .u8 (imin (IntKind.u8.wrap ((x92.toNat : Int) + (IntKind.u8.wrap ((x96.toNat : Int) - 48)))) 57)] 48 (by kernel_rfl) rfl rfl rfl rfl rfl rfl rfl ?_
        intro a103 c104 w105 hE106 hR107
        have hb109 : Ext w w105 := Ext.trans hb100 hE106
        have hL110 : w.heap.size ≤ w105.heap.size := Nat.le_trans hL101 hE106.size
        have hS111 : SH w105 w.heap.size [aOwn fU8 5 a103 c104 ([(imin (IntKind.u8.wrap ((x92.toNat : Int) + (IntKind.u8.wrap ((x96.toNat : Int) - 48)))) 57)] : List Int), aOwn fU8 5 a65 c66 st64.1, aOwn fStr 9 a30 c31 st29.1] := SH.add hS102 hE106 hL101 hR107
        refine WL.sub [(0, .slice a0' a_0.length c0'), (1, .slice a1' b_1.length c1'), (7, .slice a30 st29.1.length c31), (19, .int .i64 (a_0.length : Int)), (20, .int .i64 st29.2), (8, .int .i64 st29.2), (9, .slice a65 st64.1.length c66), (28, .int .i64 (x62.length : Int)), (29, .int .i64 st64.2), (32, .slice a65 st64.1.length c66), (48, .slice a103 (([(imin (IntKind.u8.wrap ((x92.toNat : Int) + (IntKind.u8.wrap ((x96.toNat : Int) - 48)))) 57)] : List Int).length) c104)] ⟨rfl, rfl, rfl, rfl, rfl, rfl, rfl, rfl, rfl, rfl, rfl, trivial⟩ ?_
        refine WL.nil ?_
        refine WA.one (i := 17) (D' := [0, 1, 2, 3, 4, 5, 6, 7, 8, 9, 10, 11, 12, 13, 14, 15, 16, 17]) rfl rfl (by kernel_rfl) ?_
        obtain ⟨x112, hx113, hm⟩ := bindE hm
        refine WL.append (F := fU8) (xs := st64.1) (ys := ([(imin (IntKind.u8.wrap ((x92.toNat : Int) + (IntKind.u8.wrap ((x96.toNat : Int) - 48)))) 57)] : List Int)) 49 (SH.front 1 hS111) hL110 (SH.rd (SH.front 0 hS111)) hx113 rfl rfl rfl Try.underlying46 (info5).1 (info5).2.2.1 (info5).2.1 (info5).2.2.2 rfl rfl rfl rfl rfl ?_
        intro a114 c115 w116 hB117 hS118
        have hb119 : Ext w w116 := Below.trans hb109 hB117
        have hL120 : w.heap.size ≤ w116.heap.size := Nat.le_trans hL110 hB117.size
        refine WL.sub [(0, .slice a0' a_0.length c0'), (1, .slice a1' b_1.length c1'), (7, .slice a30 st29.1.length c31), (19, .int .i64 (a_0.length : Int)), (20, .int .i64 st29.2), (8, .int .i64 st29.2), (9, .slice a65 st64.1.length c66), (28, .int .i64 (x62.length : Int)), (29, .int .i64 st64.2), (49, .slice a114 x112.length c115)] ⟨rfl, rfl, rfl, rfl, rfl, rfl, rfl, rfl, rfl, rfl, trivial⟩ ?_
        refine WL.nil ?_
        refine WA.one (i := 18) (D' := [0, 1, 2, 3, 4, 5, 6, 7, 8, 9, 10, 11, 12, 13, 14, 15, 16, 17, 18]) rfl rfl (by kernel_rfl) ?_
        refine WL.runk 1 [0, 1, 7, 8, 9, 19, 20, 28, 29] [(0, .slice a0' a_0.length c0'), (1, .slice a1' b_1.length c1'), (7, .slice a30 st29.1.length c31), (19, .int .i64 (a_0.length : Int)), (20, .int .i64 st29.2), (8, .int .i64 st29.2), (9, .slice a114 x112.length c115), (28, .int .i64 (x62.length : Int)), (29, .int .i64 st64.2)] (by kernel_rfl) ?_
        refine WL.nil ?_
        refine WA.done (by kernel_rfl) ?_
        refine WQ.block_normal ?_
        refine WQ.then_normal (hK83 _ _ _ ?_)
        refine WP.region ?_
        refine WL.runk 2 [0, 1, 7, 8, 9, 19, 20, 28, 29] [(0, .slice a0' a_0.length c0'), (1, .slice a1' b_1.length c1'), (7, .slice a30 st29.1.length c31), (19, .int .i64 (a_0.length : Int)), (20, .int .i64 st29.2), (8, .int .i64 st29.2), (9, .slice a114 x112.length c115), (28, .int .i64 (x62.length : Int)), (29, .int .i64 (wI64 (st64.2 + 1)))] (by kernel_rfl) ?_
        refine WL.nil ?_
        obtain rfl := Option.some.inj hm
        exact WQ.round hK74 ⟨(x112, (wI64 (st64.2 + 1))), _, _, rfl, hb119, hL120, (SH.take 2 (SH.front 1 (SH.front 2 hS118))), hl72⟩ (Nat.lt_succ_self _) ⟨rfl, rfl, rfl, rfl, rfl, rfl, rfl, rfl, rfl, trivial⟩
      · have hm := iteF hm hc82
        refine WP.exit ?_
        refine WQ.then_exit ?_
        refine WQ.then_exit ?_
        refine WQ.block_here ?_
        obtain rfl := Option.some.inj hm
        obtain rfl := afterN_done hl72
        have hm := hmo73
        refine WQ.then_normal (hK60 _ _ _ ?_)
        refine WP.region ?_
        refine WL.runk 2 [0, 1, 19, 20, 51, 52] [(0, .slice a0' a_0.length c0'), (1, .slice a1' b_1.length c1'), (19, .int .i64 (a_0.length : Int)), (20, .int .i64 st29.2), (51, .slice a30 st29.1.length c31), (52, .slice a65 st64.1.length c66)] (by kernel_rfl) ?_
        refine WL.st (.string (bs (ofBytes st64.1))) (ST.b2s (SH.rd (SH.front 0 hS71)) (SH.le (SH.front 0 hS71)).2 rfl rfl Try.underlying46 Try.underlying9 Try.underlying5) rfl rfl rfl ?_
        refine WL.row fStr 9 ([(ofBytes st64.1)] : List (List UInt8)) 1 #[.string (bs (ofBytes st64.1))] 54 (by kernel_rfl) rfl rfl rfl rfl rfl rfl rfl ?_
        intro a121 c122 w123 hE124 hR125
        have hb127 : Ext w w123 := Ext.trans hb69 hE124
        have hL128 : w.heap.size ≤ w123.heap.size := Nat.le_trans hL70 hE124.size
        have hS129 : SH w123 w.heap.size [aOwn fStr 9 a121 c122 ([(ofBytes st64.1)] : List (List UInt8)), aOwn fU8 5 a65 c66 st64.1, aOwn fStr 9 a30 c31 st29.1] := SH.add hS71 hE124 hL70 hR125
        obtain ⟨x130, hx131, hm⟩ := bindE hm
        refine WL.append (F := fStr) (xs := st29.1) (ys := ([(ofBytes st64.1)] : List (List UInt8))) 55 (SH.front 2 hS129) hL128 (SH.rd (SH.front 0 hS129)) hx131 rfl rfl rfl Try.underlying22 (info9).1 (info9).2.2.1 (info9).2.1 (info9).2.2.2 rfl rfl rfl rfl rfl ?_
        intro a132 c133 w134 hB135 hS136
        have hb137 : Ext w w134 := Below.trans hb127 hB135
        have hL138 : w.heap.size ≤ w134.heap.size := Nat.le_trans hL128 hB135.size
        refine WL.runk 1 [0, 1, 7, 19, 20] [(0, .slice a0' a_0.length c0'), (1, .slice a1' b_1.length c1'), (19, .int .i64 (a_0.length : Int)), (20, .int .i64 st29.2), (7, .slice a132 x130.length c133)] (by kernel_rfl) ?_
        refine WL.nil ?_
        refine WQ.block_normal ?_
        refine WQ.then_normal (hK48 _ _ _ ?_)
        refine WP.region ?_
        refine WL.runk 2 [0, 1, 7, 19, 20] [(0, .slice a0' a_0.length c0'), (1, .slice a1' b_1.length c1'), (19, .int .i64 (a_0.length : Int)), (20, .int .i64 (wI64 (st29.2 + 1))), (7, .slice a132 x130.length c133)] (by kernel_rfl) ?_
        refine WL.nil ?_
        obtain rfl := Option.some.inj hm
        exact WQ.round hK39 ⟨(x130, (wI64 (st29.2 + 1))), _, _, rfl, hb137, hL138, (SH.take 1 hS136), hl37⟩ (Nat.lt_succ_self _) ⟨rfl, rfl, rfl, rfl, rfl, trivial⟩
    · have hm := iteF hm hc47
      refine WP.exit ?_
      refine WQ.then_exit ?_
      refine WQ.then_exit ?_
      refine WQ.block_here ?_
      obtain rfl := Option.some.inj hm
      obtain rfl := afterN_done hl37
      have hm := hmo38
      refine WQ.then_normal (hK27 _ _ _ ?_)
      refine WP.seq (fun K161 hK161 => ?_)
      refine WP.region ?_
      refine WL.runk 3 [4, 5] [(4, .slice a30 st29.1.length c31), (5, .int .i64 0)] (by kernel_rfl) ?_
      refine WL.nil ?_
      refine WQ.then_normal (hK161 _ _ _ ?_)
      refine WP.ret ?_
      obtain rfl := Option.some.inj hm
      exact WQ.ret2 _ _ rfl rfl rfl ⟨_, _, rfl, hb34, hS36⟩

theorem c_6 (n : Nat) (aA_0 : List (List UInt8)) (a0' : Option Addr) (c0' : Nat) (aB_1 : List (List UInt8)) (a1' : Option Addr) (c1' : Nat) (w : World) {r : Bool} (hm : m_laws_FnExactAddWear n aA_0 aB_1 = some r) (h0 : Rd fStr.ty w a0' aA_0) (hle0 : aA_0.length ≤ c0') (h1 : Rd fStr.ty w a1' aB_1) (hle1 : aB_1.length ≤ c1') :
    CallV Try.prog 6 #[.slice a0' aA_0.length c0', .slice a1' aB_1.length c1'] w (fun v w' => v = .bool r ∧ Ext w w') := by
  unfold m_laws_FnExactAddWear at hm
  refine CallV.enter Try.func6 rfl (by kernel_rfl) Try.ntmps6 (env := [(0, .slice a0' aA_0.length c0'), (1, .slice a1' aB_1.length c1')]) ⟨rfl, rfl, trivial⟩ ?_
  refine WP.seq (fun K1 hK1 => ?_)
  refine WP.region ?_
  refine WL.runk 1 [0, 1] [(0, .slice a0' aA_0.length c0'), (1, .slice a1' aB_1.length c1')] (by kernel_rfl) ?_
  refine WL.nil ?_
  refine WQ.then_normal (hK1 _ _ _ ?_)
  refine WP.seq (fun K2 hK2 => ?_)
  refine WP.region ?_
  refine WL.runk 1 [0, 1, 5] [(0, .slice a0' aA_0.length c0'), (1, .slice a1' aB_1.length c1'), (5, .int .i64 1048576)] (by kernel_rfl) ?_
  refine WL.nil ?_
  refine WQ.then_normal (hK2 _ _ _ ?_)
  refine WP.seq (fun K3 hK3 => ?_)
  refine WP.region ?_
  refine WL.runk 2 [0, 1, 17, 18] [(0, .slice a0' aA_0.length c0'), (1, .slice a1' aB_1.length c1'), (17, .slice a0' aA_0.length c0'), (18, .int .i64 1048576)] (by kernel_rfl) ?_
  obtain ⟨x4, hx5, hm⟩ := bindE hm
  refine WL.call 15 #[.slice a0' aA_0.length c0', .int .i64 1048576] rfl rfl (by kernel_rfl) (c_15 n aA_0 a0' c0' 1048576 w hx5 (Rd.below h0 (Ext.refl w)) hle0) ?_
  rintro _ w6 ⟨rfl, hE7⟩
  refine ⟨_, rfl, ?_⟩
  have hb9 : Ext w w6 := Ext.trans (Ext.refl w) hE7
  have hL10 : w.heap.size ≤ w6.heap.size := Nat.le_trans (Nat.le_refl _) hE7.size
  have hS11 : SH w6 w.heap.size [] := SH.ext (SH.nil _ _) hE7
  refine WL.runk 1 [0, 1, 5] [(0, .slice a0' aA_0.length c0'), (1, .slice a1' aB_1.length c1'), (5, .int .i64 x4)] (by kernel_rfl) ?_
  refine WL.nil ?_
  refine WQ.then_normal (hK3 _ _ _ ?_)
  refine WP.seq (fun K12 hK12 => ?_)
  refine WP.seq (fun K13 hK13 => ?_)
  refine WP.region ?_
  refine WL.runk 2 [0, 1, 5, 21] [(0, .slice a0' aA_0.length c0'), (1, .slice a1' aB_1.length c1'), (5, .int .i64 x4), (21, .bool (decide (x4 < 0)))] (by kernel_rfl) ?_
  refine WL.nil ?_
  refine WQ.then_normal (hK13 _ _ _ ?_)
  refine WP.cond (decide (x4 < 0)) rfl rfl (fun hc14 => ?_) (fun hc14 => ?_)
  · have hm := iteT hm hc14
    refine WP.seq (fun K15 hK15 => ?_)
    refine WP.region ?_
    refine WL.runk 1 [4] [(4, .bool true)] (by kernel_rfl) ?_
    refine WL.nil ?_
    refine WQ.then_normal (hK15 _ _ _ ?_)
    refine WP.ret ?_
    refine WQ.then_ret ?_
    obtain rfl := Option.some.inj hm
    exact WQ.ret1 _ rfl rfl ⟨rfl, hb9⟩
  · have hm := iteF hm hc14
    refine WP.skip ?_
    refine WQ.then_normal (hK12 _ _ _ ?_)
    refine WP.seq (fun K16 hK16 => ?_)
    refine WP.region ?_
    refine WL.runk 2 [0, 1, 22, 23] [(0, .slice a0' aA_0.length c0'), (1, .slice a1' aB_1.length c1'), (22, .slice a1' aB_1.length c1'), (23, .int .i64 x4)] (by kernel_rfl) ?_
    obtain ⟨x17, hx18, hm⟩ := bindE hm
    refine WL.call 15 #[.slice a1' aB_1.length c1', .int .i64 x4] rfl rfl (by kernel_rfl) (c_15 n aB_1 a1' c1' x4 w6 hx18 (Rd.below h1 hb9) hle1) ?_
    rintro _ w19 ⟨rfl, hE20⟩
    refine ⟨_, rfl, ?_⟩
    have hb22 : Ext w w19 := Ext.trans hb9 hE20
    have hL23 : w.heap.size ≤ w19.heap.size := Nat.le_trans hL10 hE20.size
    have hS24 : SH w19 w.heap.size [] := SH.ext hS11 hE20
    refine WL.runk 1 [0, 1, 5] [(0, .slice a0' aA_0.length c0'), (1, .slice a1' aB_1.length c1'), (5, .int .i64 x17)] (by kernel_rfl) ?_
    refine WL.nil ?_
    refine WQ.then_normal (hK16 _ _ _ ?_)
    refine WP.seq (fun K25 hK25 => ?_)
    refine WP.seq (fun K26 hK26 => ?_)
    refine WP.region ?_
    refine WL.runk 2 [0, 1, 26] [(0, .slice a0' aA_0.length c0'), (1, .slice a1' aB_1.length c1'), (26, .bool (decide (x17 < 0)))] (by kernel_rfl) ?_
    refine WL.nil ?_
    refine WQ.then_normal (hK26 _ _ _ ?_)
    refine WP.cond (decide (x17 < 0)) rfl rfl (fun hc27 => ?_) (fun hc27 => ?_)
    · have hm := iteT hm hc27
      refine WP.seq (fun K28 hK28 => ?_)
      refine WP.region ?_
      refine WL.runk 1 [4] [(4, .bool true)] (by kernel_rfl) ?_
      refine WL.nil ?_
      refine WQ.then_normal (hK28 _ _ _ ?_)
      refine WP.ret ?_
      refine WQ.then_ret ?_
      obtain rfl := Option.some.inj hm
      exact WQ.ret1 _ rfl rfl ⟨rfl, hb22⟩
    · have hm := iteF hm hc27
      refine WP.skip ?_
      refine WQ.then_normal (hK25 _ _ _ ?_)
      refine WP.seq (fun K29 hK29 => ?_)
      refine WP.region ?_
      refine WL.runk 1 [0, 1, 28] [(0, .slice a0' aA_0.length c0'), (1, .slice a1' aB_1.length c1'), (28, .slice a0' aA_0.length c0')] (by kernel_rfl) ?_
      obtain ⟨x30, hx31, hm⟩ := bindE hm
      refine WL.call 17 #[.slice a0' aA_0.length c0'] rfl rfl (by kernel_rfl) (c_17 n aA_0 a0' c0' w19 hx31 (Rd.below h0 hb22) hle0) ?_
      rintro _ w35 ⟨a32, c33, rfl, hE36, hR37⟩
      refine ⟨_, rfl, ?_⟩
      have hb38 : Ext w w35 := Ext.trans hb22 hE36
      have hL39 : w.heap.size ≤ w35.heap.size := Nat.le_trans hL23 hE36.size
      have hS40 : SH w35 w.heap.size [aOwn fStr 9 a32 c33 x30] := SH.add hS24 hE36 hL23 hR37
      refine WL.runk 1 [0, 1, 29, 30] [(0, .slice a0' aA_0.length c0'), (1, .slice a1' aB_1.length c1'), (29, .slice a32 x30.length c33), (30, .slice a1' aB_1.length c1')] (by kernel_rfl) ?_
      obtain ⟨x41, hx42, hm⟩ := bindE hm
      refine WL.call 17 #[.slice a1' aB_1.length c1'] rfl rfl (by kernel_rfl) (c_17 n aB_1 a1' c1' w35 hx42 (Rd.below h1 hb38) hle1) ?_
      rintro _ w46 ⟨a43, c44, rfl, hE47, hR48⟩
      refine ⟨_, rfl, ?_⟩
      have hb49 : Ext w w46 := Ext.trans hb38 hE47
      have hL50 : w.heap.size ≤ w46.heap.size := Nat.le_trans hL39 hE47.size
      have hS51 : SH w46 w.heap.size [aOwn fStr 9 a43 c44 x41, aOwn fStr 9 a32 c33 x30] := SH.add hS40 hE47 hL39 hR48
      obtain ⟨x52, hx53, hm⟩ := bindE hm
      refine WL.call 26 #[.slice a32 x30.length c33, .slice a43 x41.length c44] rfl rfl (by kernel_rfl) (c_26 n x30 a32 c33 x41 a43 c44 w46 hx53 (SH.rd (SH.front 1 hS51)) (SH.le (SH.front 1 hS51)).1 (SH.rd (SH.front 0 hS51)) (SH.le (SH.front 0 hS51)).1) ?_
      rintro _ w57 ⟨a54, c55, rfl, hE58, hR59⟩
      refine ⟨_, rfl, ?_⟩
      have hb60 : Ext w w57 := Ext.trans hb49 hE58
      have hL61 : w.heap.size ≤ w57.heap.size := Nat.le_trans hL50 hE58.size
      have hS62 : SH w57 w.heap.size [aOwn fStr 9 a54 c55 x52.1, aOwn fStr 9 a43 c44 x41, aOwn fStr 9 a32 c33 x30] := SH.add hS51 hE58 hL50 hR59
      refine WL.runk 5 [0, 1, 6, 7] [(0, .slice a0' aA_0.length c0'), (1, .slice a1' aB_1.length c1'), (6, .slice a54 x52.1.length c55), (7, .int .i64 x52.2)] (by kernel_rfl) ?_
      refine WL.nil ?_
      refine WQ.then_normal (hK29 _ _ _ ?_)
      refine WP.seq (fun K63 hK63 => ?_)
      refine WP.region ?_
      refine WL.runk 1 [0, 1, 6, 7, 35] [(0, .slice a0' aA_0.length c0'), (1, .slice a1' aB_1.length c1'), (6, .slice a54 x52.1.length c55), (7, .int .i64 x52.2), (35, .slice a0' aA_0.length c0')] (by kernel_rfl) ?_
      obtain ⟨x64, hx65, hm⟩ := bindE hm
      refine WL.call 17 #[.slice a0' aA_0.length c0'] rfl rfl (by kernel_rfl) (c_17 n aA_0 a0' c0' w57 hx65 (Rd.below h0 hb60) hle0) ?_
      rintro _ w69 ⟨a66, c67, rfl, hE70, hR71⟩
      refine ⟨_, rfl, ?_⟩
      have hb72 : Ext w w69 := Ext.trans hb60 hE70
      have hL73 : w.heap.size ≤ w69.heap.size := Nat.le_trans hL61 hE70.size
      have hS74 : SH w69 w.heap.size [aOwn fStr 9 a66 c67 x64, aOwn fStr 9 a54 c55 x52.1, aOwn fStr 9 a43 c44 x41, aOwn fStr 9 a32 c33 x30] := SH.add hS62 hE70 hL61 hR71
      refine WL.runk 1 [0, 1, 6, 7, 8] [(0, .slice a0' aA_0.length c0'), (1, .slice a1' aB_1.length c1'), (6, .slice a54 x52.1.length c55), (7, .int .i64 x52.2), (8, .slice a66 x64.length c67)] (by kernel_rfl) ?_
      refine WL.nil ?_
      refine WQ.then_normal (hK63 _ _ _ ?_)
      refine WP.seq (fun K75 hK75 => ?_)
      refine WP.region ?_
      refine WL.runk 1 [0, 1, 6, 7, 8, 37] [(0, .slice a0' aA_0.length c0'), (1, .slice a1' aB_1.length c1'), (6, .slice a54 x52.1.length c55), (7, .int .i64 x52.2), (8, .slice a66 x64.length c67), (37, .slice a1' aB_1.length c1')] (by kernel_rfl) ?_
      obtain ⟨x76, hx77, hm⟩ := bindE hm
      refine WL.call 17 #[.slice a1' aB_1.length c1'] rfl rfl (by kernel_rfl) (c_17 n aB_1 a1' c1' w69 hx77 (Rd.below h1 hb72) hle1) ?_
      rintro _ w81 ⟨a78, c79, rfl, hE82, hR83⟩
      refine ⟨_, rfl, ?_⟩
      have hb84 : Ext w w81 := Ext.trans hb72 hE82
      have hL85 : w.heap.size ≤ w81.heap.size := Nat.le_trans hL73 hE82.size
      have hS86 : SH w81 w.heap.size [aOwn fStr 9 a78 c79 x76, aOwn fStr 9 a66 c67 x64, aOwn fStr 9 a54 c55 x52.1, aOwn fStr 9 a43 c44 x41, aOwn fStr 9 a32 c33 x30] := SH.add hS74 hE82 hL73 hR83
      refine WL.runk 1 [0, 1, 6, 7, 8, 9] [(0, .slice a0' aA_0.length c0'), (1, .slice a1' aB_1.length c1'), (6, .slice a54 x52.1.length c55), (7, .int .i64 x52.2), (8, .slice a66 x64.length c67), (9, .slice a78 x76.length c79)] (by kernel_rfl) ?_
      refine WL.nil ?_
      refine WQ.then_normal (hK75 _ _ _ ?_)
      refine WP.seq (fun K87 hK87 => ?_)
      refine WP.region ?_
      refine WL.runk 2 [0, 1, 6, 7, 8, 9, 40, 41] [(0, .slice a0' aA_0.length c0'), (1, .slice a1' aB_1.length c1'), (6, .slice a54 x52.1.length c55), (7, .int .i64 x52.2), (8, .slice a66 x64.length c67), (9, .slice a78 x76.length c79), (40, .slice a66 x64.length c67), (41, .slice a78 x76.length c79)] (by kernel_rfl) ?_
      obtain ⟨x88, hx89, hm⟩ := bindE hm
      refine WL.call 27 #[.slice a66 x64.length c67, .slice a78 x76.length c79] rfl rfl (by kernel_rfl) (c_27 n x64 a66 c67 x76 a78 c79 w81 hx89 (SH.rd (SH.front 1 hS86)) (SH.le (SH.front 1 hS86)).1 (SH.rd (SH.front 0 hS86)) (SH.le (SH.front 0 hS86)).1) ?_
      rintro _ w93 ⟨a90, c91, rfl, hE94, hR95⟩
      refine ⟨_, rfl, ?_⟩
      have hb96 : Ext w w93 := Ext.trans hb84 hE94
      have hL97 : w.heap.size ≤ w93.heap.size := Nat.le_trans hL85 hE94.size
      have hS98 : SH w93 w.heap.size [aOwn fStr 9 a90 c91 x88.1, aOwn fStr 9 a78 c79 x76, aOwn fStr 9 a66 c67 x64, aOwn fStr 9 a54 c55 x52.1, aOwn fStr 9 a43 c44 x41, aOwn fStr 9 a32 c33 x30] := SH.add hS86 hE94 hL85 hR95
      refine WL.runk 5 [0, 1, 6, 7, 8, 9, 10, 11] [(0, .slice a0' aA_0.length c0'), (1, .slice a1' aB_1.length c1'), (6, .slice a54 x52.1.length c55), (7, .int .i64 x52.2), (8, .slice a66 x64.length c67), (9, .slice a78 x76.length c79), (10, .slice a90 x88.1.length c91), (11, .int .i64 x88.2)] (by kernel_rfl) ?_
      refine WL.nil ?_
      refine WQ.then_normal (hK87 _ _ _ ?_)
      refine WP.seq (fun K99 hK99 => ?_)
      refine WP.seq (fun K100 hK100 => ?_)
      obtain ⟨x110, hx111, hm⟩ := bindE hm
      refine WP.cut (fun env' w' => env' = [(0, .slice a0' aA_0.length c0'), (1, .slice a1' aB_1.length c1'), (6, .slice a54 x52.1.length c55), (7, .int .i64 x52.2), (8, .slice a66 x64.length c67), (9, .slice a78 x76.length c79), (10, .slice a90 x88.1.length c91), (11, .int .i64 x88.2), (53, .bool x110)] ∧ Ext w w' ∧ w.heap.size ≤ w'.heap.size ∧ SH w' w.heap.size [aOwn fStr 9 a90 c91 x88.1, aOwn fStr 9 a78 c79 x76, aOwn fStr 9 a66 c67 x64, aOwn fStr 9 a54 c55 x52.1, aOwn fStr 9 a43 c44 x41, aOwn fStr 9 a32 c33 x30]) ?_ ?_
      · have hm := hx111; clear hx111
        refine WP.region ?_
        refine WL.runk 2 [0, 1, 6, 7, 8, 9, 10, 11, 45, 46] [(0, .slice a0' aA_0.length c0'), (1, .slice a1' aB_1.length c1'), (6, .slice a54 x52.1.length c55), (7, .int .i64 x52.2), (8, .slice a66 x64.length c67), (9, .slice a78 x76.length c79), (10, .slice a90 x88.1.length c91), (11, .int .i64 x88.2), (45, .slice a90 x88.1.length c91), (46, .slice a54 x52.1.length c55)] (by kernel_rfl) ?_
        obtain ⟨x112, hx113, hm⟩ := bindE hm
        refine WL.call 19 #[.slice a90 x88.1.length c91, .slice a54 x52.1.length c55] rfl rfl (by kernel_rfl) (c_19 n x88.1 a90 c91 x52.1 a54 c55 w93 hx113 (SH.rd (SH.front 0 hS98)) (SH.le (SH.front 0 hS98)).1 (SH.rd (SH.front 3 hS98)) (SH.le (SH.front 3 hS98)).1) ?_
        rintro _ w114 ⟨rfl, hE115⟩
        refine ⟨_, rfl, ?_⟩
        have hb117 : Ext w w114 := Ext.trans hb96 hE115
        have hL118 : w.heap.size ≤ w114.heap.size := Nat.le_trans hL97 hE115.size
        have hS119 : SH w114 w.heap.size [aOwn fStr 9 a90 c91 x88.1, aOwn fStr 9 a78 c79 x76, aOwn fStr 9 a66 c67 x64, aOwn fStr 9 a54 c55 x52.1, aOwn fStr 9 a43 c44 x41, aOwn fStr 9 a32 c33 x30] := SH.ext hS98 hE115
        refine WL.runk 2 [0, 1, 6, 7, 8, 9, 10, 11, 49] [(0, .slice a0' aA_0.length c0'), (1, .slice a1' aB_1.length c1'), (6, .slice a54 x52.1.length c55), (7, .int .i64 x52.2), (8, .slice a66 x64.length c67), (9, .slice a78 x76.length c79), (10, .slice a90 x88.1.length c91), (11, .int .i64 x88.2), (49, .bool (!x112))] (by kernel_rfl) ?_
        refine WL.case (!x112) [49] ⟨rfl, trivial⟩ (fun hc120 => ?_) (fun hc120 => ?_)
        · have hm := iteT hm hc120
          refine WL.runk 4 [0, 1, 6, 7, 8, 9, 10, 11, 53] [(0, .slice a0' aA_0.length c0'), (1, .slice a1' aB_1.length c1'), (6, .slice a54 x52.1.length c55), (7, .int .i64 x52.2), (8, .slice a66 x64.length c67), (9, .slice a78 x76.length c79), (10, .slice a90 x88.1.length c91), (11, .int .i64 x88.2), (53, .bool true)] (by kernel_rfl) ?_
          refine WL.nil ?_
          obtain rfl := Option.some.inj hm
          exact WQ.post' ⟨rfl, hb117, hL118, hS119⟩ ⟨rfl, rfl, rfl, rfl, rfl, rfl, rfl, rfl, rfl, trivial⟩
        · have hm := iteF hm hc120
          refine WL.runk 4 [0, 1, 6, 7, 8, 9, 10, 11, 53] [(0, .slice a0' aA_0.length c0'), (1, .slice a1' aB_1.length c1'), (6, .slice a54 x52.1.length c55), (7, .int .i64 x52.2), (8, .slice a66 x64.length c67), (9, .slice a78 x76.length c79), (10, .slice a90 x88.1.length c91), (11, .int .i64 x88.2), (53, .bool (x88.2 != x52.2))] (by kernel_rfl) ?_
          refine WL.nil ?_
          obtain rfl := Option.some.inj hm
          exact WQ.post' ⟨rfl, hb117, hL118, hS119⟩ ⟨rfl, rfl, rfl, rfl, rfl, rfl, rfl, rfl, rfl, trivial⟩
      · clear hx111
        rintro _ w121 ⟨rfl, hb122, hL123, hS124⟩
        refine WQ.then_normal (hK100 _ _ _ ?_)
        refine WP.cond x110 rfl rfl (fun hc125 => ?_) (fun hc125 => ?_)
        · have hm := iteT hm hc125
          refine WP.seq (fun K126 hK126 => ?_)
          refine WP.region ?_
          refine WL.runk 1 [4] [(4, .bool false)] (by kernel_rfl) ?_
          refine WL.nil ?_
          refine WQ.then_normal (hK126 _ _ _ ?_)
          refine WP.ret ?_
          refine WQ.then_ret ?_
          obtain rfl := Option.some.inj hm
          exact WQ.ret1 _ rfl rfl ⟨rfl, hb122⟩
        · have hm := iteF hm hc125
          refine WP.skip ?_
          refine WQ.then_normal (hK99 _ _ _ ?_)
          refine WP.seq (fun K127 hK127 => ?_)
          refine WP.seq (fun K128 hK128 => ?_)
          refine WP.region ?_
          refine WL.runk 2 [0, 1, 6, 7, 8, 9, 10, 11, 54, 55] [(0, .slice a0' aA_0.length c0'), (1, .slice a1' aB_1.length c1'), (6, .slice a54 x52.1.length c55), (7, .int .i64 x52.2), (8, .slice a66 x64.length c67), (9, .slice a78 x76.length c79), (10, .slice a90 x88.1.length c91), (11, .int .i64 x88.2), (54, .slice a66 x64.length c67), (55, .slice a0' aA_0.length c0')] (by kernel_rfl) ?_
          obtain ⟨x129, hx130, hm⟩ := bindE hm
          refine WL.call 17 #[.slice a0' aA_0.length c0'] rfl rfl (by kernel_rfl) (c_17 n aA_0 a0' c0' w121 hx130 (Rd.below h0 hb122) hle0) ?_
          rintro _ w134 ⟨a131, c132, rfl, hE135, hR136⟩
          refine ⟨_, rfl, ?_⟩
          have hb137 : Ext w w134 := Ext.trans hb122 hE135
          have hL138 : w.heap.size ≤ w134.heap.size := Nat.le_trans hL123 hE135.size
          have hS139 : SH w134 w.heap.size [aOwn fStr 9 a131 c132 x129, aOwn fStr 9 a90 c91 x88.1, aOwn fStr 9 a78 c79 x76, aOwn fStr 9 a66 c67 x64, aOwn fStr 9 a54 c55 x52.1, aOwn fStr 9 a43 c44 x41, aOwn fStr 9 a32 c33 x30] := SH.add hS124 hE135 hL123 hR136
          obtain ⟨x140, hx141, hm⟩ := bindE hm
          refine WL.call 19 #[.slice a66 x64.length c67, .slice a131 x129.length c132] rfl rfl (by kernel_rfl) (c_19 n x64 a66 c67 x129 a131 c132 w134 hx141 (SH.rd (SH.front 3 hS139)) (SH.le (SH.front 3 hS139)).1 (SH.rd (SH.front 0 hS139)) (SH.le (SH.front 0 hS139)).1) ?_
          rintro _ w142 ⟨rfl, hE143⟩
          refine ⟨_, rfl, ?_⟩
          have hb145 : Ext w w142 := Ext.trans hb137 hE143
          have hL146 : w.heap.size ≤ w142.heap.size := Nat.le_trans hL138 hE143.size
          have hS147 : SH w142 w.heap.size [aOwn fStr 9 a131 c132 x129, aOwn fStr 9 a90 c91 x88.1, aOwn fStr 9 a78 c79 x76, aOwn fStr 9 a66 c67 x64, aOwn fStr 9 a54 c55 x52.1, aOwn fStr 9 a43 c44 x41, aOwn fStr 9 a32 c33 x30] := SH.ext hS139 hE143
          refine WL.runk 1 [0, 1, 6, 7, 8, 9, 10, 11, 58] [(0, .slice a0' aA_0.length c0'), (1, .slice a1' aB_1.length c1'), (6, .slice a54 x52.1.length c55), (7, .int .i64 x52.2), (8, .slice a66 x64.length c67), (9, .slice a78 x76.length c79), (10, .slice a90 x88.1.length c91), (11, .int .i64 x88.2), (58, .bool (!x140))] (by kernel_rfl) ?_
          refine WL.nil ?_
          refine WQ.then_normal (hK128 _ _ _ ?_)
          refine WP.cond (!x140) rfl rfl (fun hc148 => ?_) (fun hc148 => ?_)
          · have hm := iteT hm hc148
            refine WP.seq (fun K149 hK149 => ?_)
            refine WP.region ?_
            refine WL.runk 1 [4] [(4, .bool false)] (by kernel_rfl) ?_
            refine WL.nil ?_
            refine WQ.then_normal (hK149 _ _ _ ?_)
            refine WP.ret ?_
            refine WQ.then_ret ?_
            obtain rfl := Option.some.inj hm
            exact WQ.ret1 _ rfl rfl ⟨rfl, hb145⟩
          · have hm := iteF hm hc148
            refine WP.skip ?_
            refine WQ.then_normal (hK127 _ _ _ ?_)
            refine WP.seq (fun K150 hK150 => ?_)
            refine WP.seq (fun K151 hK151 => ?_)
            refine WP.region ?_
            refine WL.runk 2 [0, 1, 6, 7, 8, 9, 10, 11, 59, 60] [(0, .slice a0' aA_0.length c0'), (1, .slice a1' aB_1.length c1'), (6, .slice a54 x52.1.length c55), (7, .int .i64 x52.2), (8, .slice a66 x64.length c67), (9, .slice a78 x76.length c79), (10, .slice a90 x88.1.length c91), (11, .int .i64 x88.2), (59, .slice a78 x76.length c79), (60, .slice a1' aB_1.length c1')] (by kernel_rfl) ?_
            obtain ⟨x152, hx153, hm⟩ := bindE hm
            refine WL.call 17 #[.slice a1' aB_1.length c1'] rfl rfl (by kernel_rfl) (c_17 n aB_1 a1' c1' w142 hx153 (Rd.below h1 hb145) hle1) ?_
            rintro _ w157 ⟨a154, c155, rfl, hE158, hR159⟩
            refine ⟨_, rfl, ?_⟩
            have hb160 : Ext w w157 := Ext.trans hb145 hE158
            have hL161 : w.heap.size ≤ w157.heap.size := Nat.le_trans hL146 hE158.size
            have hS162 : SH w157 w.heap.size [aOwn fStr 9 a154 c155 x152, aOwn fStr 9 a131 c132 x129, aOwn fStr 9 a90 c91 x88.1, aOwn fStr 9 a78 c79 x76, aOwn fStr 9 a66 c67 x64, aOwn fStr 9 a54 c55 x52.1, aOwn fStr 9 a43 c44 x41, aOwn fStr 9 a32 c33 x30] := SH.add hS147 hE158 hL146 hR159
            obtain ⟨x163, hx164, hm⟩ := bindE hm
            refine WL.call 19 #[.slice a78 x76.length c79, .slice a154 x152.length c155] rfl rfl (by kernel_rfl) (c_19 n x76 a78 c79 x152 a154 c155 w157 hx164 (SH.rd (SH.front 3 hS162)) (SH.le (SH.front 3 hS162)).1 (SH.rd (SH.front 0 hS162)) (SH.le (SH.front 0 hS162)).1) ?_
            rintro _ w165 ⟨rfl, hE166⟩
            refine ⟨_, rfl, ?_⟩
            have hb168 : Ext w w165 := Ext.trans hb160 hE166
            have hL169 : w.heap.size ≤ w165.heap.size := Nat.le_trans hL161 hE166.size
            have hS170 : SH w165 w.heap.size [aOwn fStr 9 a154 c155 x152, aOwn fStr 9 a131 c132 x129, aOwn fStr 9 a90 c91 x88.1, aOwn fStr 9 a78 c79 x76, aOwn fStr 9 a66 c67 x64, aOwn fStr 9 a54 c55 x52.1, aOwn fStr 9 a43 c44 x41, aOwn fStr 9 a32 c33 x30] := SH.ext hS162 hE166
            refine WL.runk 1 [0, 1, 6, 7, 8, 9, 10, 11, 63] [(0, .slice a0' aA_0.length c0'), (1, .slice a1' aB_1.length c1'), (6, .slice a54 x52.1.length c55), (7, .int .i64 x52.2), (8, .slice a66 x64.length c67), (9, .slice a78 x76.length c79), (10, .slice a90 x88.1.length c91), (11, .int .i64 x88.2), (63, .bool (!x163))] (by kernel_rfl) ?_
            refine WL.nil ?_
            refine WQ.then_normal (hK151 _ _ _ ?_)
            refine WP.cond (!x163) rfl rfl (fun hc171 => ?_) (fun hc171 => ?_)
            · have hm := iteT hm hc171
              refine WP.seq (fun K172 hK172 => ?_)
              refine WP.region ?_
              refine WL.runk 1 [4] [(4, .bool false)] (by kernel_rfl) ?_
              refine WL.nil ?_
              refine WQ.then_normal (hK172 _ _ _ ?_)
              refine WP.ret ?_
              refine WQ.then_ret ?_
              obtain rfl := Option.some.inj hm
              exact WQ.ret1 _ rfl rfl ⟨rfl, hb168⟩
            · have hm := iteF hm hc171
              refine WP.skip ?_
              refine WQ.then_normal (hK150 _ _ _ ?_)
              refine WP.seq (fun K173 hK173 => ?_)
              refine WP.region ?_
              refine WL.runk 1 [0, 1, 6, 7, 8, 9, 10, 11, 12] [(0, .slice a0' aA_0.length c0'), (1, .slice a1' aB_1.length c1'), (6, .slice a54 x52.1.length c55), (7, .int .i64 x52.2), (8, .slice a66 x64.length c67), (9, .slice a78 x76.length c79), (10, .slice a90 x88.1.length c91), (11, .int .i64 x88.2), (12, .int .i64 1)] (by kernel_rfl) ?_
              refine WL.nil ?_
              refine WQ.then_normal (hK173 _ _ _ ?_)
              refine WP.seq (fun K174 hK174 => ?_)
              refine WP.region ?_
              refine WL.runk 2 [0, 1, 6, 7, 9, 10, 11, 64, 65] [(0, .slice a0' aA_0.length c0'), (1, .slice a1' aB_1.length c1'), (6, .slice a54 x52.1.length c55), (7, .int .i64 x52.2), (9, .slice a78 x76.length c79), (10, .slice a90 x88.1.length c91), (11, .int .i64 x88.2), (64, .slice a66 x64.length c67), (65, .int .i64 1)] (by kernel_rfl) ?_
              obtain ⟨x175, hx176, hm⟩ := bindE hm
              refine WL.call 24 #[.slice a66 x64.length c67, .int .i64 1] rfl rfl (by kernel_rfl) (c_24 n x64 a66 c67 1 w165 w w.heap.size [aOwn fStr 9 a154 c155 x152, aOwn fStr 9 a131 c132 x129, aOwn fStr 9 a90 c91 x88.1, aOwn fStr 9 a78 c79 x76, aOwn fStr 9 a54 c55 x52.1, aOwn fStr 9 a43 c44 x41, aOwn fStr 9 a32 c33 x30] hx176 hb168 (Nat.le_refl _) hL169  (SH.front 7 (SH.front 6 (SH.front 6 (SH.front 6 (SH.front 6 (SH.front 7 (SH.front 7 (SH.front 7 hS170))))))))) ?_
              rintro _ w177 ⟨rfl, hB181, hS180, hlen182⟩
              refine ⟨_, rfl, ?_⟩
              have hb183 : Ext w w177 := Below.trans hb168 hB181
              have hL184 : w.heap.size ≤ w177.heap.size := Nat.le_trans hL169 hB181.size
              refine WL.sub [(0, .slice a0' aA_0.length c0'), (1, .slice a1' aB_1.length c1'), (6, .slice a54 x52.1.length c55), (7, .int .i64 x52.2), (9, .slice a78 x76.length c79), (10, .slice a90 x88.1.length c91), (11, .int .i64 x88.2), (64, .slice a66 x175.2.length c67), (65, .int .i64 1), (66, .int .i64 x175.1)] ⟨rfl, rfl, rfl, rfl, rfl, rfl, rfl, by rw [hlen182]; rfl, rfl, rfl, trivial⟩ ?_
              refine WL.runk 1 [0, 1, 6, 7, 9, 10, 11, 12] [(0, .slice a0' aA_0.length c0'), (1, .slice a1' aB_1.length c1'), (6, .slice a54 x52.1.length c55), (7, .int .i64 x52.2), (9, .slice a78 x76.length c79), (10, .slice a90 x88.1.length c91), (11, .int .i64 x88.2), (12, .int .i64 x175.1)] (by kernel_rfl) ?_
              refine WL.nil ?_
              refine WQ.then_normal (hK174 _ _ _ ?_)
              refine WP.seq (fun K185 hK185 => ?_)
              refine WP.region ?_
              refine WL.runk 2 [0, 1, 6, 7, 10, 11, 67, 68] [(0, .slice a0' aA_0.length c0'), (1, .slice a1' aB_1.length c1'), (6, .slice a54 x52.1.length c55), (7, .int .i64 x52.2), (10, .slice a90 x88.1.length c91), (11, .int .i64 x88.2), (67, .slice a78 x76.length c79), (68, .int .i64 x175.1)] (by kernel_rfl) ?_
              obtain ⟨x186, hx187, hm⟩ := bindE hm
              refine WL.call 24 #[.slice a78 x76.length c79, .int .i64 x175.1] rfl rfl (by kernel_rfl) (c_24 n x76 a78 c79 x175.1 w177 w w.heap.size [aOwn fStr 9 a66 c67 x175.2, aOwn fStr 9 a154 c155 x152, aOwn fStr 9 a131 c132 x129, aOwn fStr 9 a90 c91 x88.1, aOwn fStr 9 a54 c55 x52.1, aOwn fStr 9 a43 c44 x41, aOwn fStr 9 a32 c33 x30] hx187 hb183 (Nat.le_refl _) hL184  (SH.front 7 (SH.front 6 (SH.front 6 (SH.front 6 (SH.front 6 (SH.front 7 (SH.front 7 (SH.front 7 hS180))))))))) ?_
              rintro _ w188 ⟨rfl, hB192, hS191, hlen193⟩
              refine ⟨_, rfl, ?_⟩
              have hb194 : Ext w w188 := Below.trans hb183 hB192
              have hL195 : w.heap.size ≤ w188.heap.size := Nat.le_trans hL184 hB192.size
              refine WL.sub [(0, .slice a0' aA_0.length c0'), (1, .slice a1' aB_1.length c1'), (6, .slice a54 x52.1.length c55), (7, .int .i64 x52.2), (10, .slice a90 x88.1.length c91), (11, .int .i64 x88.2), (67, .slice a78 x186.2.length c79), (68, .int .i64 x175.1), (69, .int .i64 x186.1)] ⟨rfl, rfl, rfl, rfl, rfl, rfl, by rw [hlen193]; rfl, rfl, rfl, trivial⟩ ?_
              refine WL.runk 1 [0, 1, 6, 7, 10, 11, 12] [(0, .slice a0' aA_0.length c0'), (1, .slice a1' aB_1.length c1'), (6, .slice a54 x52.1.length c55), (7, .int .i64 x52.2), (10, .slice a90 x88.1.length c91), (11, .int .i64 x88.2), (12, .int .i64 x186.1)] (by kernel_rfl) ?_
              refine WL.nil ?_
              refine WQ.then_normal (hK185 _ _ _ ?_)
              refine WP.seq (fun K196 hK196 => ?_)
              refine WP.seq (fun K197 hK197 => ?_)
              obtain ⟨x208, hx209, hm⟩ := bindE hm
              refine WP.cut (fun env' w' => env' = [(0, .slice a0' aA_0.length c0'), (1, .slice a1' aB_1.length c1'), (6, .slice a54 x52.1.length c55), (7, .int .i64 x52.2), (10, .slice a90 x88.1.length c91), (82, .bool x208)] ∧ Ext w w' ∧ w.heap.size ≤ w'.heap.size ∧ SH w' w.heap.size [aOwn fStr 9 a78 c79 x186.2, aOwn fStr 9 a66 c67 x175.2, aOwn fStr 9 a154 c155 x152, aOwn fStr 9 a131 c132 x129, aOwn fStr 9 a90 c91 x88.1, aOwn fStr 9 a54 c55 x52.1, aOwn fStr 9 a43 c44 x41, aOwn fStr 9 a32 c33 x30]) ?_ ?_
              · have hm := hx209; clear hx209
                refine WP.region ?_
                refine WL.runk 3 [0, 1, 6, 7, 10, 11, 72] [(0, .slice a0' aA_0.length c0'), (1, .slice a1' aB_1.length c1'), (6, .slice a54 x52.1.length c55), (7, .int .i64 x52.2), (10, .slice a90 x88.1.length c91), (11, .int .i64 x88.2), (72, .bool (decide (x186.1 < 0)))] (by kernel_rfl) ?_
                refine WL.case (decide (x186.1 < 0)) [72] ⟨rfl, trivial⟩ (fun hc210 => ?_) (fun hc210 => ?_)
                · have hm := iteT hm hc210
                  refine WL.runk 10 [0, 1, 6, 7, 10, 82] [(0, .slice a0' aA_0.length c0'), (1, .slice a1' aB_1.length c1'), (6, .slice a54 x52.1.length c55), (7, .int .i64 x52.2), (10, .slice a90 x88.1.length c91), (82, .bool true)] (by kernel_rfl) ?_
                  refine WL.nil ?_
                  obtain rfl := Option.some.inj hm
                  exact WQ.post' ⟨rfl, hb194, hL195, hS191⟩ ⟨rfl, rfl, rfl, rfl, rfl, rfl, trivial⟩
                · have hm := iteF hm hc210
                  refine WL.runk 2 [0, 1, 6, 7, 10, 11, 72, 73, 74] [(0, .slice a0' aA_0.length c0'), (1, .slice a1' aB_1.length c1'), (6, .slice a54 x52.1.length c55), (7, .int .i64 x52.2), (10, .slice a90 x88.1.length c91), (11, .int .i64 x88.2), (72, .bool false), (73, .slice a90 x88.1.length c91), (74, .slice a54 x52.1.length c55)] (by kernel_rfl) ?_
                  obtain ⟨x211, hx212, hm⟩ := bindE hm
                  refine WL.call 19 #[.slice a90 x88.1.length c91, .slice a54 x52.1.length c55] rfl rfl (by kernel_rfl) (c_19 n x88.1 a90 c91 x52.1 a54 c55 w188 hx212 (SH.rd (SH.front 4 hS191)) (SH.le (SH.front 4 hS191)).1 (SH.rd (SH.front 5 hS191)) (SH.le (SH.front 5 hS191)).1) ?_
                  rintro _ w213 ⟨rfl, hE214⟩
                  refine ⟨_, rfl, ?_⟩
                  have hb216 : Ext w w213 := Ext.trans hb194 hE214
                  have hL217 : w.heap.size ≤ w213.heap.size := Nat.le_trans hL195 hE214.size
                  have hS218 : SH w213 w.heap.size [aOwn fStr 9 a78 c79 x186.2, aOwn fStr 9 a66 c67 x175.2, aOwn fStr 9 a154 c155 x152, aOwn fStr 9 a131 c132 x129, aOwn fStr 9 a90 c91 x88.1, aOwn fStr 9 a54 c55 x52.1, aOwn fStr 9 a43 c44 x41, aOwn fStr 9 a32 c33 x30] := SH.ext hS191 hE214
                  refine WL.runk 3 [0, 1, 6, 7, 10, 11, 78] [(0, .slice a0' aA_0.length c0'), (1, .slice a1' aB_1.length c1'), (6, .slice a54 x52.1.length c55), (7, .int .i64 x52.2), (10, .slice a90 x88.1.length c91), (11, .int .i64 x88.2), (78, .bool (!x211))] (by kernel_rfl) ?_
                  refine WL.case (!x211) [78] ⟨rfl, trivial⟩ (fun hc219 => ?_) (fun hc219 => ?_)
                  · have hm := iteT hm hc219
                    refine WL.runk 4 [0, 1, 6, 7, 10, 82] [(0, .slice a0' aA_0.length c0'), (1, .slice a1' aB_1.length c1'), (6, .slice a54 x52.1.length c55), (7, .int .i64 x52.2), (10, .slice a90 x88.1.length c91), (82, .bool true)] (by kernel_rfl) ?_
                    refine WL.nil ?_
                    obtain rfl := Option.some.inj hm
                    exact WQ.post' ⟨rfl, hb216, hL217, hS218⟩ ⟨rfl, rfl, rfl, rfl, rfl, rfl, trivial⟩
                  · have hm := iteF hm hc219
                    refine WL.runk 4 [0, 1, 6, 7, 10, 82] [(0, .slice a0' aA_0.length c0'), (1, .slice a1' aB_1.length c1'), (6, .slice a54 x52.1.length c55), (7, .int .i64 x52.2), (10, .slice a90 x88.1.length c91), (82, .bool (x88.2 != x52.2))] (by kernel_rfl) ?_
                    refine WL.nil ?_
                    obtain rfl := Option.some.inj hm
                    exact WQ.post' ⟨rfl, hb216, hL217, hS218⟩ ⟨rfl, rfl, rfl, rfl, rfl, rfl, trivial⟩
              · clear hx209
                rintro _ w220 ⟨rfl, hb221, hL222, hS223⟩
                refine WQ.then_normal (hK197 _ _ _ ?_)
                refine WP.cond x208 rfl rfl (fun hc224 => ?_) (fun hc224 => ?_)
                · have hm := iteT hm hc224
                  refine WP.seq (fun K225 hK225 => ?_)
                  refine WP.region ?_
                  refine WL.runk 1 [4] [(4, .bool false)] (by kernel_rfl) ?_
                  refine WL.nil ?_
                  refine WQ.then_normal (hK225 _ _ _ ?_)
                  refine WP.ret ?_
                  refine WQ.then_ret ?_
                  obtain rfl := Option.some.inj hm
                  exact WQ.ret1 _ rfl rfl ⟨rfl, hb221⟩
                · have hm := iteF hm hc224
                  refine WP.skip ?_
                  refine WQ.then_normal (hK196 _ _ _ ?_)
                  refine WP.seq (fun K226 hK226 => ?_)
                  refine WP.region ?_
                  refine WL.runk 1 [0, 1, 6, 7, 10, 13] [(0, .slice a0' aA_0.length c0'), (1, .slice a1' aB_1.length c1'), (6, .slice a54 x52.1.length c55), (7, .int .i64 x52.2), (10, .slice a90 x88.1.length c91), (13, .int .i64 1)] (by kernel_rfl) ?_
                  refine WL.nil ?_
                  refine WQ.then_normal (hK226 _ _ _ ?_)
                  refine WP.seq (fun K227 hK227 => ?_)
                  refine WP.region ?_
                  refine WL.runk 2 [0, 1, 6, 7, 10, 83, 84] [(0, .slice a0' aA_0.length c0'), (1, .slice a1' aB_1.length c1'), (6, .slice a54 x52.1.length c55), (7, .int .i64 x52.2), (10, .slice a90 x88.1.length c91), (83, .slice a90 x88.1.length c91), (84, .int .i64 1)] (by kernel_rfl) ?_
                  obtain ⟨x228, hx229, hm⟩ := bindE hm
                  refine WL.call 24 #[.slice a90 x88.1.length c91, .int .i64 1] rfl rfl (by kernel_rfl) (c_24 n x88.1 a90 c91 1 w220 w w.heap.size [aOwn fStr 9 a78 c79 x186.2, aOwn fStr 9 a66 c67 x175.2, aOwn fStr 9 a154 c155 x152, aOwn fStr 9 a131 c132 x129, aOwn fStr 9 a54 c55 x52.1, aOwn fStr 9 a43 c44 x41, aOwn fStr 9 a32 c33 x30] hx229 hb221 (Nat.le_refl _) hL222  (SH.front 7 (SH.front 6 (SH.front 6 (SH.front 6 (SH.front 6 (SH.front 7 (SH.front 7 (SH.front 7 hS223))))))))) ?_
                  rintro _ w230 ⟨rfl, hB234, hS233, hlen235⟩
                  refine ⟨_, rfl, ?_⟩
                  have hb236 : Ext w w230 := Below.trans hb221 hB234
                  have hL237 : w.heap.size ≤ w230.heap.size := Nat.le_trans hL222 hB234.size
                  refine WL.sub [(0, .slice a0' aA_0.length c0'), (1, .slice a1' aB_1.length c1'), (6, .slice a54 x52.1.length c55), (7, .int .i64 x52.2), (10, .slice a90 x228.2.length c91), (83, .slice a90 x228.2.length c91), (84, .int .i64 1), (85, .int .i64 x228.1)] ⟨rfl, rfl, rfl, rfl, by rw [hlen235]; rfl, by rw [hlen235]; rfl, rfl, rfl, trivial⟩ ?_
                  refine WL.runk 1 [0, 1, 6, 7, 10, 13] [(0, .slice a0' aA_0.length c0'), (1, .slice a1' aB_1.length c1'), (6, .slice a54 x52.1.length c55), (7, .int .i64 x52.2), (10, .slice a90 x228.2.length c91), (13, .int .i64 x228.1)] (by kernel_rfl) ?_
                  refine WL.nil ?_
                  refine WQ.then_normal (hK227 _ _ _ ?_)
                  refine WP.seq (fun K238 hK238 => ?_)
                  refine WP.region ?_
                  refine WL.runk 1 [0, 1, 6, 7, 10, 13, 14] [(0, .slice a0' aA_0.length c0'), (1, .slice a1' aB_1.length c1'), (6, .slice a54 x52.1.length c55), (7, .int .i64 x52.2), (10, .slice a90 x228.2.length c91), (13, .int .i64 x228.1), (14, .int .i64 1)] (by kernel_rfl) ?_
                  refine WL.nil ?_
                  refine WQ.then_normal (hK238 _ _ _ ?_)
                  refine WP.seq (fun K239 hK239 => ?_)
                  refine WP.region ?_
                  refine WL.runk 2 [0, 1, 6, 7, 10, 13, 86, 87] [(0, .slice a0' aA_0.length c0'), (1, .slice a1' aB_1.length c1'), (6, .slice a54 x52.1.length c55), (7, .int .i64 x52.2), (10, .slice a90 x228.2.length c91), (13, .int .i64 x228.1), (86, .slice a90 x228.2.length c91), (87, .int .i64 1)] (by kernel_rfl) ?_
                  obtain ⟨x240, hx241, hm⟩ := bindE hm
                  refine WL.call 25 #[.slice a90 x228.2.length c91, .int .i64 1] rfl rfl (by kernel_rfl) (c_25 n x228.2 a90 c91 1 w230 hx241 (SH.rd (SH.front 0 hS233)) (SH.le (SH.front 0 hS233)).1) ?_
                  rintro _ w242 ⟨rfl, hE243⟩
                  refine ⟨_, rfl, ?_⟩
                  have hb245 : Ext w w242 := Ext.trans hb236 hE243
                  have hL246 : w.heap.size ≤ w242.heap.size := Nat.le_trans hL237 hE243.size
                  have hS247 : SH w242 w.heap.size [aOwn fStr 9 a90 c91 x228.2, aOwn fStr 9 a78 c79 x186.2, aOwn fStr 9 a66 c67 x175.2, aOwn fStr 9 a154 c155 x152, aOwn fStr 9 a131 c132 x129, aOwn fStr 9 a54 c55 x52.1, aOwn fStr 9 a43 c44 x41, aOwn fStr 9 a32 c33 x30] := SH.ext hS233 hE243
                  refine WL.runk 1 [0, 1, 6, 7, 10, 13, 14] [(0, .slice a0' aA_0.length c0'), (1, .slice a1' aB_1.length c1'), (6, .slice a54 x52.1.length c55), (7, .int .i64 x52.2), (10, .slice a90 x228.2.length c91), (13, .int .i64 x228.1), (14, .int .i64 x240)] (by kernel_rfl) ?_
                  refine WL.nil ?_
                  refine WQ.then_normal (hK239 _ _ _ ?_)
                  refine WP.seq (fun K248 hK248 => ?_)
                  refine WP.seq (fun K249 hK249 => ?_)
                  refine WP.region ?_
                  refine WL.runk 2 [0, 1, 6, 7, 10, 13, 14, 90] [(0, .slice a0' aA_0.length c0'), (1, .slice a1' aB_1.length c1'), (6, .slice a54 x52.1.length c55), (7, .int .i64 x52.2), (10, .slice a90 x228.2.length c91), (13, .int .i64 x228.1), (14, .int .i64 x240), (90, .bool (decide (x240 < 0)))] (by kernel_rfl) ?_
                  refine WL.nil ?_
                  refine WQ.then_normal (hK249 _ _ _ ?_)
                  refine WP.cond (decide (x240 < 0)) rfl rfl (fun hc250 => ?_) (fun hc250 => ?_)
                  · have hm := iteT hm hc250
                    refine WP.seq (fun K251 hK251 => ?_)
                    refine WP.region ?_
                    refine WL.runk 1 [4] [(4, .bool false)] (by kernel_rfl) ?_
                    refine WL.nil ?_
                    refine WQ.then_normal (hK251 _ _ _ ?_)
                    refine WP.ret ?_
                    refine WQ.then_ret ?_
                    obtain rfl := Option.some.inj hm
                    exact WQ.ret1 _ rfl rfl ⟨rfl, hb245⟩
                  · have hm := iteF hm hc250
                    refine WP.skip ?_
                    refine WQ.then_normal (hK248 _ _ _ ?_)
                    refine WP.seq (fun K252 hK252 => ?_)
                    refine WP.seq (fun K253 hK253 => ?_)
                    refine WP.region ?_
                    refine WL.runk 3 [0, 1, 6, 7, 10, 13, 93] [(0, .slice a0' aA_0.length c0'), (1, .slice a1' aB_1.length c1'), (6, .slice a54 x52.1.length c55), (7, .int .i64 x52.2), (10, .slice a90 x228.2.length c91), (13, .int .i64 x228.1), (93, .bool (x240 != x228.1))] (by kernel_rfl) ?_
                    refine WL.nil ?_
                    refine WQ.then_normal (hK253 _ _ _ ?_)
                    refine WP.cond (x240 != x228.1) rfl rfl (fun hc254 => ?_) (fun hc254 => ?_)
                    · have hm := iteT hm hc254
                      refine WP.seq (fun K255 hK255 => ?_)
                      refine WP.region ?_
                      refine WL.runk 1 [4] [(4, .bool false)] (by kernel_rfl) ?_
                      refine WL.nil ?_
                      refine WQ.then_normal (hK255 _ _ _ ?_)
                      refine WP.ret ?_
                      refine WQ.then_ret ?_
                      obtain rfl := Option.some.inj hm
                      exact WQ.ret1 _ rfl rfl ⟨rfl, hb245⟩
                    · have hm := iteF hm hc254
                      refine WP.skip ?_
                      refine WQ.then_normal (hK252 _ _ _ ?_)
                      refine WP.seq (fun K256 hK256 => ?_)
                      refine WP.region ?_
                      refine WL.runk 1 [1, 6, 7, 10, 13, 95] [(1, .slice a1' aB_1.length c1'), (6, .slice a54 x52.1.length c55), (7, .int .i64 x52.2), (10, .slice a90 x228.2.length c91), (13, .int .i64 x228.1), (95, .slice a0' aA_0.length c0')] (by kernel_rfl) ?_
                      obtain ⟨x257, hx258, hm⟩ := bindE hm
                      refine WL.call 17 #[.slice a0' aA_0.length c0'] rfl rfl (by kernel_rfl) (c_17 n aA_0 a0' c0' w242 hx258 (Rd.below h0 hb245) hle0) ?_
                      rintro _ w262 ⟨a259, c260, rfl, hE263, hR264⟩
                      refine ⟨_, rfl, ?_⟩
                      have hb265 : Ext w w262 := Ext.trans hb245 hE263
                      have hL266 : w.heap.size ≤ w262.heap.size := Nat.le_trans hL246 hE263.size
                      have hS267 : SH w262 w.heap.size [aOwn fStr 9 a259 c260 x257, aOwn fStr 9 a90 c91 x228.2, aOwn fStr 9 a78 c79 x186.2, aOwn fStr 9 a66 c67 x175.2, aOwn fStr 9 a154 c155 x152, aOwn fStr 9 a131 c132 x129, aOwn fStr 9 a54 c55 x52.1, aOwn fStr 9 a43 c44 x41, aOwn fStr 9 a32 c33 x30] := SH.add hS247 hE263 hL246 hR264
                      refine WL.runk 1 [6, 7, 10, 13, 96, 97] [(6, .slice a54 x52.1.length c55), (7, .int .i64 x52.2), (10, .slice a90 x228.2.length c91), (13, .int .i64 x228.1), (96, .slice a259 x257.length c260), (97, .slice a1' aB_1.length c1')] (by kernel_rfl) ?_
                      obtain ⟨x268, hx269, hm⟩ := bindE hm
                      refine WL.call 17 #[.slice a1' aB_1.length c1'] rfl rfl (by kernel_rfl) (c_17 n aB_1 a1' c1' w262 hx269 (Rd.below h1 hb265) hle1) ?_
                      rintro _ w273 ⟨a270, c271, rfl, hE274, hR275⟩
                      refine ⟨_, rfl, ?_⟩
                      have hb276 : Ext w w273 := Ext.trans hb265 hE274
                      have hL277 : w.heap.size ≤ w273.heap.size := Nat.le_trans hL266 hE274.size
                      have hS278 : SH w273 w.heap.size [aOwn fStr 9 a270 c271 x268, aOwn fStr 9 a259 c260 x257, aOwn fStr 9 a90 c91 x228.2, aOwn fStr 9 a78 c79 x186.2, aOwn fStr 9 a66 c67 x175.2, aOwn fStr 9 a154 c155 x152, aOwn fStr 9 a131 c132 x129, aOwn fStr 9 a54 c55 x52.1, aOwn fStr 9 a43 c44 x41, aOwn fStr 9 a32 c33 x30] := SH.add hS267 hE274 hL266 hR275
                      obtain ⟨x279, hx280, hm⟩ := bindE hm
                      refine WL.call 27 #[.slice a259 x257.length c260, .slice a270 x268.length c271] rfl rfl (by kernel_rfl) (c_27 n x257 a259 c260 x268 a270 c271 w273 hx280 (SH.rd (SH.front 1 hS278)) (SH.le (SH.front 1 hS278)).1 (SH.rd (SH.front 0 hS278)) (SH.le (SH.front 0 hS278)).1) ?_
                      rintro _ w284 ⟨a281, c282, rfl, hE285, hR286⟩
                      refine ⟨_, rfl, ?_⟩
                      have hb287 : Ext w w284 := Ext.trans hb276 hE285
                      have hL288 : w.heap.size ≤ w284.heap.size := Nat.le_trans hL277 hE285.size
                      have hS289 : SH w284 w.heap.size [aOwn fStr 9 a281 c282 x279.1, aOwn fStr 9 a270 c271 x268, aOwn fStr 9 a259 c260 x257, aOwn fStr 9 a90 c91 x228.2, aOwn fStr 9 a78 c79 x186.2, aOwn fStr 9 a66 c67 x175.2, aOwn fStr 9 a154 c155 x152, aOwn fStr 9 a131 c132 x129, aOwn fStr 9 a54 c55 x52.1, aOwn fStr 9 a43 c44 x41, aOwn fStr 9 a32 c33 x30] := SH.add hS278 hE285 hL277 hR286
                      refine WL.runk 5 [6, 7, 10, 13, 15, 16] [(6, .slice a54 x52.1.length c55), (7, .int .i64 x52.2), (10, .slice a90 x228.2.length c91), (13, .int .i64 x228.1), (15, .slice a281 x279.1.length c282), (16, .int .i64 x279.2)] (by kernel_rfl) ?_
                      refine WL.nil ?_
                      refine WQ.then_normal (hK256 _ _ _ ?_)
                      refine WP.seq (fun K290 hK290 => ?_)
                      refine WP.seq (fun K291 hK291 => ?_)
                      obtain ⟨x301, hx302, hm⟩ := bindE hm
                      refine WP.cut (fun env' w' => env' = [(10, .slice a90 x228.2.length c91), (13, .int .i64 x228.1), (110, .bool x301)] ∧ Ext w w' ∧ w.heap.size ≤ w'.heap.size ∧ SH w' w.heap.size [aOwn fStr 9 a281 c282 x279.1, aOwn fStr 9 a270 c271 x268, aOwn fStr 9 a259 c260 x257, aOwn fStr 9 a90 c91 x228.2, aOwn fStr 9 a78 c79 x186.2, aOwn fStr 9 a66 c67 x175.2, aOwn fStr 9 a154 c155 x152, aOwn fStr 9 a131 c132 x129, aOwn fStr 9 a54 c55 x52.1, aOwn fStr 9 a43 c44 x41, aOwn fStr 9 a32 c33 x30]) ?_ ?_
                      · have hm := hx302; clear hx302
                        refine WP.region ?_
                        refine WL.runk 2 [7, 10, 13, 16, 102, 103] [(7, .int .i64 x52.2), (10, .slice a90 x228.2.length c91), (13, .int .i64 x228.1), (16, .int .i64 x279.2), (102, .slice a281 x279.1.length c282), (103, .slice a54 x52.1.length c55)] (by kernel_rfl) ?_
                        obtain ⟨x303, hx304, hm⟩ := bindE hm
                        refine WL.call 19 #[.slice a281 x279.1.length c282, .slice a54 x52.1.length c55] rfl rfl (by kernel_rfl) (c_19 n x279.1 a281 c282 x52.1 a54 c55 w284 hx304 (SH.rd (SH.front 0 hS289)) (SH.le (SH.front 0 hS289)).1 (SH.rd (SH.front 8 hS289)) (SH.le (SH.front 8 hS289)).1) ?_
                        rintro _ w305 ⟨rfl, hE306⟩
                        refine ⟨_, rfl, ?_⟩
                        have hb308 : Ext w w305 := Ext.trans hb287 hE306
                        have hL309 : w.heap.size ≤ w305.heap.size := Nat.le_trans hL288 hE306.size
                        have hS310 : SH w305 w.heap.size [aOwn fStr 9 a281 c282 x279.1, aOwn fStr 9 a270 c271 x268, aOwn fStr 9 a259 c260 x257, aOwn fStr 9 a90 c91 x228.2, aOwn fStr 9 a78 c79 x186.2, aOwn fStr 9 a66 c67 x175.2, aOwn fStr 9 a154 c155 x152, aOwn fStr 9 a131 c132 x129, aOwn fStr 9 a54 c55 x52.1, aOwn fStr 9 a43 c44 x41, aOwn fStr 9 a32 c33 x30] := SH.ext hS289 hE306
                        refine WL.runk 2 [7, 10, 13, 16, 106] [(7, .int .i64 x52.2), (10, .slice a90 x228.2.length c91), (13, .int .i64 x228.1), (16, .int .i64 x279.2), (106, .bool (!x303))] (by kernel_rfl) ?_
                        refine WL.case (!x303) [106] ⟨rfl, trivial⟩ (fun hc311 => ?_) (fun hc311 => ?_)
                        · have hm := iteT hm hc311
                          refine WL.runk 4 [10, 13, 110] [(10, .slice a90 x228.2.length c91), (13, .int .i64 x228.1), (110, .bool true)] (by kernel_rfl) ?_
                          refine WL.nil ?_
                          obtain rfl := Option.some.inj hm
                          exact WQ.post' ⟨rfl, hb308, hL309, hS310⟩ ⟨rfl, rfl, rfl, trivial⟩
                        · have hm := iteF hm hc311
                          refine WL.runk 4 [10, 13, 110] [(10, .slice a90 x228.2.length c91), (13, .int .i64 x228.1), (110, .bool (x279.2 != x52.2))] (by kernel_rfl) ?_
                          refine WL.nil ?_
                          obtain rfl := Option.some.inj hm
                          exact WQ.post' ⟨rfl, hb308, hL309, hS310⟩ ⟨rfl, rfl, rfl, trivial⟩
                      · clear hx302
                        rintro _ w312 ⟨rfl, hb313, hL314, hS315⟩
                        refine WQ.then_normal (hK291 _ _ _ ?_)
                        refine WP.cond x301 rfl rfl (fun hc316 => ?_) (fun hc316 => ?_)
                        · have hm := iteT hm hc316
                          refine WP.seq (fun K317 hK317 => ?_)
                          refine WP.region ?_
                          refine WL.runk 1 [4] [(4, .bool false)] (by kernel_rfl) ?_
                          refine WL.nil ?_
                          refine WQ.then_normal (hK317 _ _ _ ?_)
                          refine WP.ret ?_
                          refine WQ.then_ret ?_
                          obtain rfl := Option.some.inj hm
                          exact WQ.ret1 _ rfl rfl ⟨rfl, hb313⟩
                        · have hm := iteF hm hc316
                          refine WP.skip ?_
                          refine WQ.then_normal (hK290 _ _ _ ?_)
                          refine WP.seq (fun K318 hK318 => ?_)
                          refine WP.region ?_
                          refine WL.runk 1 [10, 13, 14] [(10, .slice a90 x228.2.length c91), (13, .int .i64 x228.1), (14, .int .i64 1)] (by kernel_rfl) ?_
                          refine WL.nil ?_
                          refine WQ.then_normal (hK318 _ _ _ ?_)
                          refine WP.seq (fun K319 hK319 => ?_)
                          refine WP.region ?_
                          refine WL.runk 2 [13, 111, 112] [(13, .int .i64 x228.1), (111, .slice a90 x228.2.length c91), (112, .int .i64 1)] (by kernel_rfl) ?_
                          obtain ⟨x320, hx321, hm⟩ := bindE hm
                          refine WL.call 25 #[.slice a90 x228.2.length c91, .int .i64 1] rfl rfl (by kernel_rfl) (c_25 n x228.2 a90 c91 1 w312 hx321 (SH.rd (SH.front 3 hS315)) (SH.le (SH.front 3 hS315)).1) ?_
                          rintro _ w322 ⟨rfl, hE323⟩
                          refine ⟨_, rfl, ?_⟩
                          have hb325 : Ext w w322 := Ext.trans hb313 hE323
                          have hL326 : w.heap.size ≤ w322.heap.size := Nat.le_trans hL314 hE323.size
                          have hS327 : SH w322 w.heap.size [aOwn fStr 9 a281 c282 x279.1, aOwn fStr 9 a270 c271 x268, aOwn fStr 9 a259 c260 x257, aOwn fStr 9 a90 c91 x228.2, aOwn fStr 9 a78 c79 x186.2, aOwn fStr 9 a66 c67 x175.2, aOwn fStr 9 a154 c155 x152, aOwn fStr 9 a131 c132 x129, aOwn fStr 9 a54 c55 x52.1, aOwn fStr 9 a43 c44 x41, aOwn fStr 9 a32 c33 x30] := SH.ext hS315 hE323
                          refine WL.runk 1 [13, 14] [(13, .int .i64 x228.1), (14, .int .i64 x320)] (by kernel_rfl) ?_
                          refine WL.nil ?_
                          refine WQ.then_normal (hK319 _ _ _ ?_)
                          refine WP.seq (fun K328 hK328 => ?_)
                          refine WP.seq (fun K329 hK329 => ?_)
                          refine WP.region ?_
                          refine WL.runk 2 [13, 14, 115] [(13, .int .i64 x228.1), (14, .int .i64 x320), (115, .bool (decide (x320 < 0)))] (by kernel_rfl) ?_
                          refine WL.nil ?_
                          refine WQ.then_normal (hK329 _ _ _ ?_)
                          refine WP.cond (decide (x320 < 0)) rfl rfl (fun hc330 => ?_) (fun hc330 => ?_)
                          · have hm := iteT hm hc330
                            refine WP.seq (fun K331 hK331 => ?_)
                            refine WP.region ?_
                            refine WL.runk 1 [4] [(4, .bool false)] (by kernel_rfl) ?_
                            refine WL.nil ?_
                            refine WQ.then_normal (hK331 _ _ _ ?_)
                            refine WP.ret ?_
                            refine WQ.then_ret ?_
                            obtain rfl := Option.some.inj hm
                            exact WQ.ret1 _ rfl rfl ⟨rfl, hb325⟩
                          · have hm := iteF hm hc330
                            refine WP.skip ?_
                            refine WQ.then_normal (hK328 _ _ _ ?_)
                            refine WP.seq (fun K332 hK332 => ?_)
                            refine WP.seq (fun K333 hK333 => ?_)
                            refine WP.region ?_
                            refine WL.runk 3 [118] [(118, .bool (x320 != x228.1))] (by kernel_rfl) ?_
                            refine WL.nil ?_
                            refine WQ.then_normal (hK333 _ _ _ ?_)
                            refine WP.cond (x320 != x228.1) rfl rfl (fun hc334 => ?_) (fun hc334 => ?_)
                            · have hm := iteT hm hc334
                              refine WP.seq (fun K335 hK335 => ?_)
                              refine WP.region ?_
                              refine WL.runk 1 [4] [(4, .bool false)] (by kernel_rfl) ?_
                              refine WL.nil ?_
                              refine WQ.then_normal (hK335 _ _ _ ?_)
                              refine WP.ret ?_
                              refine WQ.then_ret ?_
                              obtain rfl := Option.some.inj hm
                              exact WQ.ret1 _ rfl rfl ⟨rfl, hb325⟩
                            · have hm := iteF hm hc334
                              refine WP.skip ?_
                              refine WQ.then_normal (hK332 _ _ _ ?_)
                              refine WP.seq (fun K336 hK336 => ?_)
                              refine WP.region ?_
                              refine WL.runk 1 [4] [(4, .bool true)] (by kernel_rfl) ?_
                              refine WL.nil ?_
                              refine WQ.then_normal (hK336 _ _ _ ?_)
                              refine WP.ret ?_
                              obtain rfl := Option.some.inj hm
                              exact WQ.ret1 _ rfl rfl ⟨rfl, hb325⟩

end Go.Proofs.Ytoljnpoiclklpaa
