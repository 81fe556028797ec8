/- Each call does what its Lean function says. -/
import Derived.Test.YtkglfbcelaphhaaKRepairsFor1
set_option maxRecDepth 20000
set_option maxHeartbeats 40000000
namespace Go.Proofs.Ytkglfbcelaphhaa
open Go Go.Gv Go.RowKit

theorem c_44 (n : Nat) (a_0 : List Int) (a0' : Option Addr) (c0' : Nat) (k_1 : Int) (w : World) {r : Int} (hm : m_laws_heldInt64S n a_0 k_1 = some r) (h0 : Rd fInt.ty w a0' a_0) (_hle0 : a_0.length ≤ c0') :
    CallV Try.prog 44 #[.slice a0' a_0.length c0', .int .i64 k_1] w (fun v w' => v = .int .i64 r ∧ Ext w w') := by
  unfold m_laws_heldInt64S at hm
  refine CallV.enter Try.func44 rfl (by kernel_rfl) Try.ntmps44 (env := [(0, .slice a0' a_0.length c0'), (1, .int .i64 k_1)]) ⟨rfl, rfl, trivial⟩ ?_
  refine WP.seq (fun K1 hK1 => ?_)
  refine WP.region ?_
  refine WL.runk 1 [0, 1] [(0, .slice a0' a_0.length c0'), (1, .int .i64 k_1)] (by kernel_rfl) ?_
  refine WL.nil ?_
  refine WQ.then_normal (hK1 _ _ _ ?_)
  refine WP.seq (fun K2 hK2 => ?_)
  refine WP.seq (fun K3 hK3 => ?_)
  refine WP.region ?_
  refine WL.runk 1 [0, 1, 5] [(0, .slice a0' a_0.length c0'), (1, .int .i64 k_1), (5, .int .i64 0)] (by kernel_rfl) ?_
  refine WL.nil ?_
  refine WQ.then_normal (hK3 _ _ _ ?_)
  refine WP.block ?_
  obtain ⟨t15, ht16, hm⟩ := bindE hm
  have hmo10 := hm; clear hm
  refine WP.sub [(0, .slice a0' a_0.length c0'), (1, .int .i64 k_1), (5, .int .i64 0)] ⟨rfl, rfl, rfl, trivial⟩ ?_
  refine WP.loop (fun n' env' w' => ∃ (st4 : Int × Int) , env' = [(0, .slice a0' a_0.length c0'), (1, .int .i64 st4.1), (5, .int .i64 st4.2)] ∧ Ext w w' ∧ w.heap.size ≤ w'.heap.size ∧ SH w' w.heap.size [] ∧ loopN (m_laws_heldInt64S_l1 n a_0) n' st4 = some t15) n ⟨(k_1, 0), rfl, (Ext.refl w), (Nat.le_refl _), (SH.nil _ _), ht16⟩ ?_
  rintro n12 _ w5 ⟨st4, rfl, hb6, hL7, hS8, hl9⟩ K11 hK11
  obtain ⟨n13, s14, rfl, hm, hl9⟩ := loopN_some hl9
  unfold m_laws_heldInt64S_l1 at hm
  refine WP.seq (fun K17 hK17 => ?_)
  refine WP.seq (fun K18 hK18 => ?_)
  refine WP.region ?_
  refine WL.runk 4 [0, 1, 5, 9] [(0, .slice a0' a_0.length c0'), (1, .int .i64 st4.1), (5, .int .i64 st4.2), (9, .bool (decide (st4.2 < (a_0.length : Int))))] (by kernel_rfl) ?_
  refine WL.nil ?_
  refine WQ.then_normal (hK18 _ _ _ ?_)
  refine WP.cond (decide (st4.2 < (a_0.length : Int))) rfl rfl (fun hc19 => ?_) (fun hc19 => ?_)
  rotate_left
  · have hm := iteF hm hc19
    refine WP.exit ?_
    refine WQ.then_exit ?_
    refine WQ.then_exit ?_
    refine WQ.block_here ?_
    obtain rfl := Option.some.inj hm
    obtain rfl := afterN_done hl9
    have hm := hmo10
    refine WQ.then_normal (hK2 _ _ _ ?_)
    refine WP.seq (fun K27 hK27 => ?_)
    refine WP.region ?_
    refine WL.runk 2 [4] [(4, .int .i64 st4.1)] (by kernel_rfl) ?_
    refine WL.nil ?_
    refine WQ.then_normal (hK27 _ _ _ ?_)
    refine WP.ret ?_
    obtain rfl := Option.some.inj hm
    exact WQ.ret1 _ rfl rfl ⟨rfl, hb6⟩
  have hm := iteT hm hc19
  refine WP.skip ?_
  refine WQ.then_normal (hK17 _ _ _ ?_)
  refine WP.seq (fun K20 hK20 => ?_)
  refine WP.block ?_
  refine WP.seq (fun K21 hK21 => ?_)
  refine WP.seq (fun K22 hK22 => ?_)
  refine WP.region ?_
  refine WL.runk 2 [0, 1, 5, 12, 13] [(0, .slice a0' a_0.length c0'), (1, .int .i64 st4.1), (5, .int .i64 st4.2), (12, .slice a0' a_0.length c0'), (13, .int .i64 st4.2)] (by kernel_rfl) ?_
  obtain ⟨x23, hx24, hm⟩ := bindE hm
  refine WL.st (.pointer (some (at_ a0' (Int.toNat st4.2 * 1)))) (ST.index (T := fInt.ty) (xs := a_0) (Rd.below h0 hb6) hx24 rfl rfl rfl Try.underlying25 (info2).1 (info2).2.1) rfl rfl rfl ?_
  refine WL.st (.int .i64 x23) (ST.load (cell_ext (Rd.flat (F := fInt) (Rd.below h0 hb6) hx24 0 rfl)) rfl rfl Try.underlying2 rfl) rfl rfl rfl ?_
  refine WL.runk 2 [0, 1, 5, 17] [(0, .slice a0' a_0.length c0'), (1, .int .i64 st4.1), (5, .int .i64 st4.2), (17, .bool (x23 != st4.1))] (by kernel_rfl) ?_
  refine WL.nil ?_
  refine WQ.then_normal (hK22 _ _ _ ?_)
  refine WP.cond (x23 != st4.1) rfl rfl (fun hc25 => ?_) (fun hc25 => ?_)
  rotate_left
  · have hm := iteF hm hc25
    refine WP.skip ?_
    refine WQ.then_normal (hK21 _ _ _ ?_)
    refine WP.region ?_
    refine WL.runk 3 [0, 1, 5] [(0, .slice a0' a_0.length c0'), (1, .int .i64 (wI64 (st4.1 + 1))), (5, .int .i64 st4.2)] (by kernel_rfl) ?_
    refine WL.nil ?_
    refine WQ.block_normal ?_
    refine WQ.then_normal (hK20 _ _ _ ?_)
    refine WP.region ?_
    refine WL.runk 3 [0, 1, 5] [(0, .slice a0' a_0.length c0'), (1, .int .i64 (wI64 (st4.1 + 1))), (5, .int .i64 (wI64 (st4.2 + 1)))] (by kernel_rfl) ?_
    refine WL.nil ?_
    obtain rfl := Option.some.inj hm
    exact WQ.round hK11 ⟨((wI64 (st4.1 + 1)), (wI64 (st4.2 + 1))), rfl, hb6, hL7, hS8, hl9⟩ (Nat.lt_succ_self _) ⟨rfl, rfl, rfl, trivial⟩
  have hm := iteT hm hc25
  refine WP.seq (fun K26 hK26 => ?_)
  refine WP.region ?_
  refine WL.runk 1 [4] [(4, .int .i64 (-1))] (by kernel_rfl) ?_
  refine WL.nil ?_
  refine WQ.then_normal (hK26 _ _ _ ?_)
  refine WP.ret ?_
  refine WQ.then_ret ?_
  refine WQ.block_ret ?_
  refine WQ.then_ret ?_
  refine WQ.then_ret ?_
  refine WQ.block_ret ?_
  refine WQ.then_ret ?_
  obtain rfl := Option.some.inj hm
  obtain rfl := afterN_done hl9
  have hm := hmo10
  obtain rfl := Option.some.inj hm
  exact WQ.ret1 _ rfl rfl ⟨rfl, hb6⟩

theorem c_8 (n : Nat) (aList_0 : List SRepair) (a0' : Option Addr) (c0' : Nat) (aFault_1 : Int) (w : World) {r : Bool} (hm : m_laws_FnExactRepairsFor n aList_0 aFault_1 = some r) (h0 : Rd fRepair.ty w a0' aList_0) (hle0 : aList_0.length ≤ c0') :
    CallV Try.prog 8 #[.slice a0' aList_0.length c0', .int .i64 aFault_1] w (fun v w' => v = .bool r ∧ Ext w w') := by
  unfold m_laws_FnExactRepairsFor at hm
  refine CallV.enter Try.func8 rfl (by kernel_rfl) Try.ntmps8 (env := [(0, .slice a0' aList_0.length c0'), (1, .int .i64 aFault_1)]) ⟨rfl, rfl, trivial⟩ ?_
  refine WP.seq (fun K1 hK1 => ?_)
  refine WP.region ?_
  refine WL.runk 1 [0, 1] [(0, .slice a0' aList_0.length c0'), (1, .int .i64 aFault_1)] (by kernel_rfl) ?_
  refine WL.nil ?_
  refine WQ.then_normal (hK1 _ _ _ ?_)
  refine WP.seq (fun K2 hK2 => ?_)
  refine WP.region ?_
  refine WL.runk 1 [0, 1, 5] [(0, .slice a0' aList_0.length c0'), (1, .int .i64 aFault_1), (5, .int .i64 1048576)] (by kernel_rfl) ?_
  refine WL.nil ?_
  refine WQ.then_normal (hK2 _ _ _ ?_)
  refine WP.seq (fun K3 hK3 => ?_)
  refine WP.region ?_
  refine WL.runk 2 [0, 1, 16, 17] [(0, .slice a0' aList_0.length c0'), (1, .int .i64 aFault_1), (16, .slice a0' aList_0.length c0'), (17, .int .i64 1048576)] (by kernel_rfl) ?_
  obtain ⟨x4, hx5, hm⟩ := bindE hm
  refine WL.call 28 #[.slice a0' aList_0.length c0', .int .i64 1048576] rfl rfl (by kernel_rfl) (c_28 n aList_0 a0' c0' 1048576 w hx5 (Rd.below h0 (Ext.refl w)) hle0) ?_
  rintro _ w6 ⟨rfl, hE7⟩
  refine ⟨_, rfl, ?_⟩
  have hb9 : Ext w w6 := Ext.trans (Ext.refl w) hE7
  have hL10 : w.heap.size ≤ w6.heap.size := Nat.le_trans (Nat.le_refl _) hE7.size
  have hS11 : SH w6 w.heap.size [] := SH.ext (SH.nil _ _) hE7
  refine WL.runk 1 [0, 1, 5] [(0, .slice a0' aList_0.length c0'), (1, .int .i64 aFault_1), (5, .int .i64 x4)] (by kernel_rfl) ?_
  refine WL.nil ?_
  refine WQ.then_normal (hK3 _ _ _ ?_)
  refine WP.seq (fun K12 hK12 => ?_)
  refine WP.seq (fun K13 hK13 => ?_)
  refine WP.region ?_
  refine WL.runk 2 [0, 1, 20] [(0, .slice a0' aList_0.length c0'), (1, .int .i64 aFault_1), (20, .bool (decide (x4 < 0)))] (by kernel_rfl) ?_
  refine WL.nil ?_
  refine WQ.then_normal (hK13 _ _ _ ?_)
  refine WP.cond (decide (x4 < 0)) rfl rfl (fun hc14 => ?_) (fun hc14 => ?_)
  · have hm := iteT hm hc14
    refine WP.seq (fun K15 hK15 => ?_)
    refine WP.region ?_
    refine WL.runk 1 [4] [(4, .bool true)] (by kernel_rfl) ?_
    refine WL.nil ?_
    refine WQ.then_normal (hK15 _ _ _ ?_)
    refine WP.ret ?_
    refine WQ.then_ret ?_
    obtain rfl := Option.some.inj hm
    exact WQ.ret1 _ rfl rfl ⟨rfl, hb9⟩
  have hm := iteF hm hc14
  refine WP.skip ?_
  refine WQ.then_normal (hK12 _ _ _ ?_)
  refine WP.seq (fun K16 hK16 => ?_)
  refine WP.region ?_
  refine WL.runk 1 [0, 1, 22] [(0, .slice a0' aList_0.length c0'), (1, .int .i64 aFault_1), (22, .slice a0' aList_0.length c0')] (by kernel_rfl) ?_
  obtain ⟨x17, hx18, hm⟩ := bindE hm
  refine WL.call 30 #[.slice a0' aList_0.length c0'] rfl rfl (by kernel_rfl) (c_30 n aList_0 a0' c0' w6 hx18 (Rd.below h0 hb9) hle0) ?_
  rintro _ w22 ⟨a19, c20, rfl, hE23, hR24⟩
  refine ⟨_, rfl, ?_⟩
  have hb25 : Ext w w22 := Ext.trans hb9 hE23
  have hL26 : w.heap.size ≤ w22.heap.size := Nat.le_trans hL10 hE23.size
  have hS27 : SH w22 w.heap.size [aNest fRepair 73 2 a19 c20 x17] := SH.add hS11 hE23 hL10 hR24
  refine WL.runk 1 [0, 1, 23, 24] [(0, .slice a0' aList_0.length c0'), (1, .int .i64 aFault_1), (23, .slice a19 x17.length c20), (24, .int .i64 aFault_1)] (by kernel_rfl) ?_
  obtain ⟨x28, hx29, hm⟩ := bindE hm
  refine WL.call 40 #[.slice a19 x17.length c20, .int .i64 aFault_1] rfl rfl (by kernel_rfl) (c_40 n x17 a19 c20 aFault_1 w22 hx29 (SH.rdN (SH.front 0 hS27)) (SH.leN (SH.front 0 hS27)).1) ?_
  rintro _ w33 ⟨a30, c31, rfl, hE34, hR35⟩
  refine ⟨_, rfl, ?_⟩
  have hb36 : Ext w w33 := Ext.trans hb25 hE34
  have hL37 : w.heap.size ≤ w33.heap.size := Nat.le_trans hL26 hE34.size
  have hS38 : SH w33 w.heap.size [aOwn fInt 2 a30 c31 x28.1, aNest fRepair 73 2 a19 c20 x17] := SH.add hS27 hE34 hL26 hR35
  refine WL.runk 5 [0, 1, 6, 7] [(0, .slice a0' aList_0.length c0'), (1, .int .i64 aFault_1), (6, .slice a30 x28.1.length c31), (7, .int .i64 x28.2)] (by kernel_rfl) ?_
  refine WL.nil ?_
  refine WQ.then_normal (hK16 _ _ _ ?_)
  refine WP.seq (fun K39 hK39 => ?_)
  refine WP.region ?_
  refine WL.runk 1 [0, 1, 6, 7, 28] [(0, .slice a0' aList_0.length c0'), (1, .int .i64 aFault_1), (6, .slice a30 x28.1.length c31), (7, .int .i64 x28.2), (28, .slice a0' aList_0.length c0')] (by kernel_rfl) ?_
  obtain ⟨x40, hx41, hm⟩ := bindE hm
  refine WL.call 30 #[.slice a0' aList_0.length c0'] rfl rfl (by kernel_rfl) (c_30 n aList_0 a0' c0' w33 hx41 (Rd.below h0 hb36) hle0) ?_
  rintro _ w45 ⟨a42, c43, rfl, hE46, hR47⟩
  refine ⟨_, rfl, ?_⟩
  have hb48 : Ext w w45 := Ext.trans hb36 hE46
  have hL49 : w.heap.size ≤ w45.heap.size := Nat.le_trans hL37 hE46.size
  have hS50 : SH w45 w.heap.size [aNest fRepair 73 2 a42 c43 x40, aOwn fInt 2 a30 c31 x28.1, aNest fRepair 73 2 a19 c20 x17] := SH.add hS38 hE46 hL37 hR47
  refine WL.runk 1 [0, 1, 6, 7, 8] [(0, .slice a0' aList_0.length c0'), (1, .int .i64 aFault_1), (6, .slice a30 x28.1.length c31), (7, .int .i64 x28.2), (8, .slice a42 x40.length c43)] (by kernel_rfl) ?_
  refine WL.nil ?_
  refine WQ.then_normal (hK39 _ _ _ ?_)
  refine WP.seq (fun K51 hK51 => ?_)
  refine WP.region ?_
  refine WL.runk 2 [0, 1, 6, 7, 8, 31, 32] [(0, .slice a0' aList_0.length c0'), (1, .int .i64 aFault_1), (6, .slice a30 x28.1.length c31), (7, .int .i64 x28.2), (8, .slice a42 x40.length c43), (31, .slice a42 x40.length c43), (32, .int .i64 aFault_1)] (by kernel_rfl) ?_
  obtain ⟨x52, hx53, hm⟩ := bindE hm
  refine WL.call 41 #[.slice a42 x40.length c43, .int .i64 aFault_1] rfl rfl (by kernel_rfl) (c_41 n x40 a42 c43 aFault_1 w45 hx53 (SH.rdN (SH.front 0 hS50)) (SH.leN (SH.front 0 hS50)).1) ?_
  rintro _ w57 ⟨a54, c55, rfl, hE58, hR59⟩
  refine ⟨_, rfl, ?_⟩
  have hb60 : Ext w w57 := Ext.trans hb48 hE58
  have hL61 : w.heap.size ≤ w57.heap.size := Nat.le_trans hL49 hE58.size
  have hS62 : SH w57 w.heap.size [aOwn fInt 2 a54 c55 x52.1, aNest fRepair 73 2 a42 c43 x40, aOwn fInt 2 a30 c31 x28.1, aNest fRepair 73 2 a19 c20 x17] := SH.add hS50 hE58 hL49 hR59
  refine WL.runk 5 [0, 1, 6, 7, 8, 9, 10] [(0, .slice a0' aList_0.length c0'), (1, .int .i64 aFault_1), (6, .slice a30 x28.1.length c31), (7, .int .i64 x28.2), (8, .slice a42 x40.length c43), (9, .slice a54 x52.1.length c55), (10, .int .i64 x52.2)] (by kernel_rfl) ?_
  refine WL.nil ?_
  refine WQ.then_normal (hK51 _ _ _ ?_)
  refine WP.seq (fun K63 hK63 => ?_)
  refine WP.seq (fun K64 hK64 => ?_)
  obtain ⟨x74, hx75, hm⟩ := bindE hm
  refine WP.cut (fun env' w' => env' = [(0, .slice a0' aList_0.length c0'), (1, .int .i64 aFault_1), (6, .slice a30 x28.1.length c31), (7, .int .i64 x28.2), (8, .slice a42 x40.length c43), (9, .slice a54 x52.1.length c55), (10, .int .i64 x52.2), (44, .bool x74)] ∧ Ext w w' ∧ w.heap.size ≤ w'.heap.size ∧ SH w' w.heap.size [aOwn fInt 2 a54 c55 x52.1, aNest fRepair 73 2 a42 c43 x40, aOwn fInt 2 a30 c31 x28.1]) ?_ ?_
  · have hm := hx75; clear hx75
    refine WP.region ?_
    refine WL.runk 2 [0, 1, 6, 7, 8, 9, 10, 36, 37] [(0, .slice a0' aList_0.length c0'), (1, .int .i64 aFault_1), (6, .slice a30 x28.1.length c31), (7, .int .i64 x28.2), (8, .slice a42 x40.length c43), (9, .slice a54 x52.1.length c55), (10, .int .i64 x52.2), (36, .slice a54 x52.1.length c55), (37, .slice a30 x28.1.length c31)] (by kernel_rfl) ?_
    obtain ⟨x76, hx77, hm⟩ := bindE hm
    refine WL.call 38 #[.slice a54 x52.1.length c55, .slice a30 x28.1.length c31] rfl rfl (by kernel_rfl) (c_38 n x52.1 a54 c55 x28.1 a30 c31 w57 hx77 (SH.rd (SH.front 0 hS62)) (SH.le (SH.front 0 hS62)).1 (SH.rd (SH.front 2 hS62)) (SH.le (SH.front 2 hS62)).1) ?_
    rintro _ w78 ⟨rfl, hE79⟩
    refine ⟨_, rfl, ?_⟩
    have hb81 : Ext w w78 := Ext.trans hb60 hE79
    have hL82 : w.heap.size ≤ w78.heap.size := Nat.le_trans hL61 hE79.size
    have hS83 : SH w78 w.heap.size [aOwn fInt 2 a54 c55 x52.1, aNest fRepair 73 2 a42 c43 x40, aOwn fInt 2 a30 c31 x28.1, aNest fRepair 73 2 a19 c20 x17] := SH.ext hS62 hE79
    refine WL.runk 2 [0, 1, 6, 7, 8, 9, 10, 40] [(0, .slice a0' aList_0.length c0'), (1, .int .i64 aFault_1), (6, .slice a30 x28.1.length c31), (7, .int .i64 x28.2), (8, .slice a42 x40.length c43), (9, .slice a54 x52.1.length c55), (10, .int .i64 x52.2), (40, .bool (!x76))] (by kernel_rfl) ?_
    refine WL.case (!x76) [40] ⟨rfl, trivial⟩ (fun hc84 => ?_) (fun hc84 => ?_)
    · have hm := iteT hm hc84
      refine WL.runk 4 [0, 1, 6, 7, 8, 9, 10, 44] [(0, .slice a0' aList_0.length c0'), (1, .int .i64 aFault_1), (6, .slice a30 x28.1.length c31), (7, .int .i64 x28.2), (8, .slice a42 x40.length c43), (9, .slice a54 x52.1.length c55), (10, .int .i64 x52.2), (44, .bool true)] (by kernel_rfl) ?_
      refine WL.nil ?_
      obtain rfl := Option.some.inj hm
      exact WQ.post' ⟨rfl, hb81, hL82, (SH.take 3 (SH.front 2 (SH.front 2 (SH.front 2 hS83))))⟩ ⟨rfl, rfl, rfl, rfl, rfl, rfl, rfl, rfl, trivial⟩
    have hm := iteF hm hc84
    refine WL.runk 4 [0, 1, 6, 7, 8, 9, 10, 44] [(0, .slice a0' aList_0.length c0'), (1, .int .i64 aFault_1), (6, .slice a30 x28.1.length c31), (7, .int .i64 x28.2), (8, .slice a42 x40.length c43), (9, .slice a54 x52.1.length c55), (10, .int .i64 x52.2), (44, .bool (x52.2 != x28.2))] (by kernel_rfl) ?_
    refine WL.nil ?_
    obtain rfl := Option.some.inj hm
    exact WQ.post' ⟨rfl, hb81, hL82, (SH.take 3 (SH.front 2 (SH.front 2 (SH.front 2 hS83))))⟩ ⟨rfl, rfl, rfl, rfl, rfl, rfl, rfl, rfl, trivial⟩
  clear hx75
  rintro _ w85 ⟨rfl, hb86, hL87, hS88⟩
  refine WQ.then_normal (hK64 _ _ _ ?_)
  refine WP.cond x74 rfl rfl (fun hc89 => ?_) (fun hc89 => ?_)
  · have hm := iteT hm hc89
    refine WP.seq (fun K90 hK90 => ?_)
    refine WP.region ?_
    refine WL.runk 1 [4] [(4, .bool false)] (by kernel_rfl) ?_
    refine WL.nil ?_
    refine WQ.then_normal (hK90 _ _ _ ?_)
    refine WP.ret ?_
    refine WQ.then_ret ?_
    obtain rfl := Option.some.inj hm
    exact WQ.ret1 _ rfl rfl ⟨rfl, hb86⟩
  have hm := iteF hm hc89
  refine WP.skip ?_
  refine WQ.then_normal (hK63 _ _ _ ?_)
  refine WP.seq (fun K91 hK91 => ?_)
  refine WP.seq (fun K92 hK92 => ?_)
  refine WP.region ?_
  refine WL.runk 2 [0, 1, 6, 7, 8, 9, 10, 45, 46] [(0, .slice a0' aList_0.length c0'), (1, .int .i64 aFault_1), (6, .slice a30 x28.1.length c31), (7, .int .i64 x28.2), (8, .slice a42 x40.length c43), (9, .slice a54 x52.1.length c55), (10, .int .i64 x52.2), (45, .slice a42 x40.length c43), (46, .slice a0' aList_0.length c0')] (by kernel_rfl) ?_
  obtain ⟨x93, hx94, hm⟩ := bindE hm
  refine WL.call 30 #[.slice a0' aList_0.length c0'] rfl rfl (by kernel_rfl) (c_30 n aList_0 a0' c0' w85 hx94 (Rd.below h0 hb86) hle0) ?_
  rintro _ w98 ⟨a95, c96, rfl, hE99, hR100⟩
  refine ⟨_, rfl, ?_⟩
  have hb101 : Ext w w98 := Ext.trans hb86 hE99
  have hL102 : w.heap.size ≤ w98.heap.size := Nat.le_trans hL87 hE99.size
  have hS103 : SH w98 w.heap.size [aNest fRepair 73 2 a95 c96 x93, aOwn fInt 2 a54 c55 x52.1, aNest fRepair 73 2 a42 c43 x40, aOwn fInt 2 a30 c31 x28.1] := SH.add hS88 hE99 hL87 hR100
  obtain ⟨x104, hx105, hm⟩ := bindE hm
  refine WL.call 32 #[.slice a42 x40.length c43, .slice a95 x93.length c96] rfl rfl (by kernel_rfl) (c_32 n x40 a42 c43 x93 a95 c96 w98 hx105 (SH.rdN (SH.front 2 hS103)) (SH.leN (SH.front 2 hS103)).1 (SH.rdN (SH.front 0 hS103)) (SH.leN (SH.front 0 hS103)).1) ?_
  rintro _ w106 ⟨rfl, hE107⟩
  refine ⟨_, rfl, ?_⟩
  have hb109 : Ext w w106 := Ext.trans hb101 hE107
  have hL110 : w.heap.size ≤ w106.heap.size := Nat.le_trans hL102 hE107.size
  have hS111 : SH w106 w.heap.size [aNest fRepair 73 2 a95 c96 x93, aOwn fInt 2 a54 c55 x52.1, aNest fRepair 73 2 a42 c43 x40, aOwn fInt 2 a30 c31 x28.1] := SH.ext hS103 hE107
  refine WL.runk 1 [0, 1, 6, 7, 8, 9, 10, 49] [(0, .slice a0' aList_0.length c0'), (1, .int .i64 aFault_1), (6, .slice a30 x28.1.length c31), (7, .int .i64 x28.2), (8, .slice a42 x40.length c43), (9, .slice a54 x52.1.length c55), (10, .int .i64 x52.2), (49, .bool (!x104))] (by kernel_rfl) ?_
  refine WL.nil ?_
  refine WQ.then_normal (hK92 _ _ _ ?_)
  refine WP.cond (!x104) rfl rfl (fun hc112 => ?_) (fun hc112 => ?_)
  · have hm := iteT hm hc112
    refine WP.seq (fun K113 hK113 => ?_)
    refine WP.region ?_
    refine WL.runk 1 [4] [(4, .bool false)] (by kernel_rfl) ?_
    refine WL.nil ?_
    refine WQ.then_normal (hK113 _ _ _ ?_)
    refine WP.ret ?_
    refine WQ.then_ret ?_
    obtain rfl := Option.some.inj hm
    exact WQ.ret1 _ rfl rfl ⟨rfl, hb109⟩
  have hm := iteF hm hc112
  refine WP.skip ?_
  refine WQ.then_normal (hK91 _ _ _ ?_)
  refine WP.seq (fun K114 hK114 => ?_)
  refine WP.region ?_
  refine WL.runk 1 [0, 1, 6, 7, 8, 9, 10, 11] [(0, .slice a0' aList_0.length c0'), (1, .int .i64 aFault_1), (6, .slice a30 x28.1.length c31), (7, .int .i64 x28.2), (8, .slice a42 x40.length c43), (9, .slice a54 x52.1.length c55), (10, .int .i64 x52.2), (11, .int .i64 1)] (by kernel_rfl) ?_
  refine WL.nil ?_
  refine WQ.then_normal (hK114 _ _ _ ?_)
  refine WP.seq (fun K115 hK115 => ?_)
  refine WP.region ?_
  refine WL.runk 2 [0, 1, 6, 7, 9, 10, 50, 51] [(0, .slice a0' aList_0.length c0'), (1, .int .i64 aFault_1), (6, .slice a30 x28.1.length c31), (7, .int .i64 x28.2), (9, .slice a54 x52.1.length c55), (10, .int .i64 x52.2), (50, .slice a42 x40.length c43), (51, .int .i64 1)] (by kernel_rfl) ?_
  obtain ⟨x116, hx117, hm⟩ := bindE hm
  refine WL.call 42 #[.slice a42 x40.length c43, .int .i64 1] rfl rfl (by kernel_rfl) (c_42 n x40 a42 c43 1 w106 w w.heap.size [aNest fRepair 73 2 a95 c96 x93, aOwn fInt 2 a54 c55 x52.1, aOwn fInt 2 a30 c31 x28.1] hx117 hb109 (Nat.le_refl _) hL110  (SH.front 3 (SH.front 2 (SH.front 2 (SH.front 3 hS111))))) ?_
  rintro _ w118 ⟨rfl, hB122, hS121, hlen123⟩
  refine ⟨_, rfl, ?_⟩
  have hb124 : Ext w w118 := Below.trans hb109 hB122
  have hL125 : w.heap.size ≤ w118.heap.size := Nat.le_trans hL110 hB122.size
  refine WL.sub [(0, .slice a0' aList_0.length c0'), (1, .int .i64 aFault_1), (6, .slice a30 x28.1.length c31), (7, .int .i64 x28.2), (9, .slice a54 x52.1.length c55), (10, .int .i64 x52.2), (50, .slice a42 x116.2.length c43), (51, .int .i64 1), (52, .int .i64 x116.1)] ⟨rfl, rfl, rfl, rfl, rfl, rfl, by rw [hlen123]; rfl, rfl, rfl, trivial⟩ ?_
  refine WL.runk 1 [0, 1, 6, 7, 9, 10, 11] [(0, .slice a0' aList_0.length c0'), (1, .int .i64 aFault_1), (6, .slice a30 x28.1.length c31), (7, .int .i64 x28.2), (9, .slice a54 x52.1.length c55), (10, .int .i64 x52.2), (11, .int .i64 x116.1)] (by kernel_rfl) ?_
  refine WL.nil ?_
  refine WQ.then_normal (hK115 _ _ _ ?_)
  refine WP.seq (fun K126 hK126 => ?_)
  refine WP.seq (fun K127 hK127 => ?_)
  obtain ⟨x138, hx139, hm⟩ := bindE hm
  refine WP.cut (fun env' w' => env' = [(0, .slice a0' aList_0.length c0'), (1, .int .i64 aFault_1), (6, .slice a30 x28.1.length c31), (7, .int .i64 x28.2), (9, .slice a54 x52.1.length c55), (65, .bool x138)] ∧ Ext w w' ∧ w.heap.size ≤ w'.heap.size ∧ SH w' w.heap.size [aOwn fInt 2 a54 c55 x52.1, aOwn fInt 2 a30 c31 x28.1]) ?_ ?_
  · have hm := hx139; clear hx139
    refine WP.region ?_
    refine WL.runk 3 [0, 1, 6, 7, 9, 10, 55] [(0, .slice a0' aList_0.length c0'), (1, .int .i64 aFault_1), (6, .slice a30 x28.1.length c31), (7, .int .i64 x28.2), (9, .slice a54 x52.1.length c55), (10, .int .i64 x52.2), (55, .bool (decide (x116.1 < 0)))] (by kernel_rfl) ?_
    refine WL.case (decide (x116.1 < 0)) [55] ⟨rfl, trivial⟩ (fun hc140 => ?_) (fun hc140 => ?_)
    · have hm := iteT hm hc140
      refine WL.runk 10 [0, 1, 6, 7, 9, 65] [(0, .slice a0' aList_0.length c0'), (1, .int .i64 aFault_1), (6, .slice a30 x28.1.length c31), (7, .int .i64 x28.2), (9, .slice a54 x52.1.length c55), (65, .bool true)] (by kernel_rfl) ?_
      refine WL.nil ?_
      obtain rfl := Option.some.inj hm
      exact WQ.post' ⟨rfl, hb124, hL125, (SH.take 2 (SH.front 3 (SH.front 3 hS121)))⟩ ⟨rfl, rfl, rfl, rfl, rfl, rfl, trivial⟩
    have hm := iteF hm hc140
    refine WL.runk 2 [0, 1, 6, 7, 9, 10, 55, 56, 57] [(0, .slice a0' aList_0.length c0'), (1, .int .i64 aFault_1), (6, .slice a30 x28.1.length c31), (7, .int .i64 x28.2), (9, .slice a54 x52.1.length c55), (10, .int .i64 x52.2), (55, .bool false), (56, .slice a54 x52.1.length c55), (57, .slice a30 x28.1.length c31)] (by kernel_rfl) ?_
    obtain ⟨x141, hx142, hm⟩ := bindE hm
    refine WL.call 38 #[.slice a54 x52.1.length c55, .slice a30 x28.1.length c31] rfl rfl (by kernel_rfl) (c_38 n x52.1 a54 c55 x28.1 a30 c31 w118 hx142 (SH.rd (SH.front 2 hS121)) (SH.le (SH.front 2 hS121)).1 (SH.rd (SH.front 3 hS121)) (SH.le (SH.front 3 hS121)).1) ?_
    rintro _ w143 ⟨rfl, hE144⟩
    refine ⟨_, rfl, ?_⟩
    have hb146 : Ext w w143 := Ext.trans hb124 hE144
    have hL147 : w.heap.size ≤ w143.heap.size := Nat.le_trans hL125 hE144.size
    have hS148 : SH w143 w.heap.size [aNest fRepair 73 2 a42 c43 x116.2, aNest fRepair 73 2 a95 c96 x93, aOwn fInt 2 a54 c55 x52.1, aOwn fInt 2 a30 c31 x28.1] := SH.ext hS121 hE144
    refine WL.runk 3 [0, 1, 6, 7, 9, 10, 61] [(0, .slice a0' aList_0.length c0'), (1, .int .i64 aFault_1), (6, .slice a30 x28.1.length c31), (7, .int .i64 x28.2), (9, .slice a54 x52.1.length c55), (10, .int .i64 x52.2), (61, .bool (!x141))] (by kernel_rfl) ?_
    refine WL.case (!x141) [61] ⟨rfl, trivial⟩ (fun hc149 => ?_) (fun hc149 => ?_)
    · have hm := iteT hm hc149
      refine WL.runk 4 [0, 1, 6, 7, 9, 65] [(0, .slice a0' aList_0.length c0'), (1, .int .i64 aFault_1), (6, .slice a30 x28.1.length c31), (7, .int .i64 x28.2), (9, .slice a54 x52.1.length c55), (65, .bool true)] (by kernel_rfl) ?_
      refine WL.nil ?_
      obtain rfl := Option.some.inj hm
      exact WQ.post' ⟨rfl, hb146, hL147, (SH.take 2 (SH.front 3 (SH.front 3 hS148)))⟩ ⟨rfl, rfl, rfl, rfl, rfl, rfl, trivial⟩
    have hm := iteF hm hc149
    refine WL.runk 4 [0, 1, 6, 7, 9, 65] [(0, .slice a0' aList_0.length c0'), (1, .int .i64 aFault_1), (6, .slice a30 x28.1.length c31), (7, .int .i64 x28.2), (9, .slice a54 x52.1.length c55), (65, .bool (x52.2 != x28.2))] (by kernel_rfl) ?_
    refine WL.nil ?_
    obtain rfl := Option.some.inj hm
    exact WQ.post' ⟨rfl, hb146, hL147, (SH.take 2 (SH.front 3 (SH.front 3 hS148)))⟩ ⟨rfl, rfl, rfl, rfl, rfl, rfl, trivial⟩
  clear hx139
  rintro _ w150 ⟨rfl, hb151, hL152, hS153⟩
  refine WQ.then_normal (hK127 _ _ _ ?_)
  refine WP.cond x138 rfl rfl (fun hc154 => ?_) (fun hc154 => ?_)
  · have hm := iteT hm hc154
    refine WP.seq (fun K155 hK155 => ?_)
    refine WP.region ?_
    refine WL.runk 1 [4] [(4, .bool false)] (by kernel_rfl) ?_
    refine WL.nil ?_
    refine WQ.then_normal (hK155 _ _ _ ?_)
    refine WP.ret ?_
    refine WQ.then_ret ?_
    obtain rfl := Option.some.inj hm
    exact WQ.ret1 _ rfl rfl ⟨rfl, hb151⟩
  have hm := iteF hm hc154
  refine WP.skip ?_
  refine WQ.then_normal (hK126 _ _ _ ?_)
  refine WP.seq (fun K156 hK156 => ?_)
  refine WP.region ?_
  refine WL.runk 1 [0, 1, 6, 7, 9, 12] [(0, .slice a0' aList_0.length c0'), (1, .int .i64 aFault_1), (6, .slice a30 x28.1.length c31), (7, .int .i64 x28.2), (9, .slice a54 x52.1.length c55), (12, .int .i64 1)] (by kernel_rfl) ?_
  refine WL.nil ?_
  refine WQ.then_normal (hK156 _ _ _ ?_)
  refine WP.seq (fun K157 hK157 => ?_)
  refine WP.region ?_
  refine WL.runk 2 [0, 1, 6, 7, 9, 66, 67] [(0, .slice a0' aList_0.length c0'), (1, .int .i64 aFault_1), (6, .slice a30 x28.1.length c31), (7, .int .i64 x28.2), (9, .slice a54 x52.1.length c55), (66, .slice a54 x52.1.length c55), (67, .int .i64 1)] (by kernel_rfl) ?_
  obtain ⟨x158, hx159, hm⟩ := bindE hm
  refine WL.call 43 #[.slice a54 x52.1.length c55, .int .i64 1] rfl rfl (by kernel_rfl) (c_43 n x52.1 a54 c55 1 w150 w w.heap.size [aOwn fInt 2 a30 c31 x28.1] hx159 hb151 (Nat.le_refl _) hL152  hS153) ?_
  rintro _ w160 ⟨rfl, hB164, hS163, hlen165⟩
  refine ⟨_, rfl, ?_⟩
  have hb166 : Ext w w160 := Below.trans hb151 hB164
  have hL167 : w.heap.size ≤ w160.heap.size := Nat.le_trans hL152 hB164.size
  refine WL.sub [(0, .slice a0' aList_0.length c0'), (1, .int .i64 aFault_1), (6, .slice a30 x28.1.length c31), (7, .int .i64 x28.2), (9, .slice a54 x158.2.length c55), (66, .slice a54 x158.2.length c55), (67, .int .i64 1), (68, .int .i64 x158.1)] ⟨rfl, rfl, rfl, rfl, by rw [hlen165]; rfl, by rw [hlen165]; rfl, rfl, rfl, trivial⟩ ?_
  refine WL.runk 1 [0, 1, 6, 7, 9, 12] [(0, .slice a0' aList_0.length c0'), (1, .int .i64 aFault_1), (6, .slice a30 x28.1.length c31), (7, .int .i64 x28.2), (9, .slice a54 x158.2.length c55), (12, .int .i64 x158.1)] (by kernel_rfl) ?_
  refine WL.nil ?_
  refine WQ.then_normal (hK157 _ _ _ ?_)
  refine WP.seq (fun K168 hK168 => ?_)
  refine WP.region ?_
  refine WL.runk 1 [0, 1, 6, 7, 9, 12, 13] [(0, .slice a0' aList_0.length c0'), (1, .int .i64 aFault_1), (6, .slice a30 x28.1.length c31), (7, .int .i64 x28.2), (9, .slice a54 x158.2.length c55), (12, .int .i64 x158.1), (13, .int .i64 1)] (by kernel_rfl) ?_
  refine WL.nil ?_
  refine WQ.then_normal (hK168 _ _ _ ?_)
  refine WP.seq (fun K169 hK169 => ?_)
  refine WP.region ?_
  refine WL.runk 2 [0, 1, 6, 7, 9, 12, 69, 70] [(0, .slice a0' aList_0.length c0'), (1, .int .i64 aFault_1), (6, .slice a30 x28.1.length c31), (7, .int .i64 x28.2), (9, .slice a54 x158.2.length c55), (12, .int .i64 x158.1), (69, .slice a54 x158.2.length c55), (70, .int .i64 1)] (by kernel_rfl) ?_
  obtain ⟨x170, hx171, hm⟩ := bindE hm
  refine WL.call 44 #[.slice a54 x158.2.length c55, .int .i64 1] rfl rfl (by kernel_rfl) (c_44 n x158.2 a54 c55 1 w160 hx171 (SH.rd (SH.front 0 hS163)) (SH.le (SH.front 0 hS163)).1) ?_
  rintro _ w172 ⟨rfl, hE173⟩
  refine ⟨_, rfl, ?_⟩
  have hb175 : Ext w w172 := Ext.trans hb166 hE173
  have hL176 : w.heap.size ≤ w172.heap.size := Nat.le_trans hL167 hE173.size
  have hS177 : SH w172 w.heap.size [aOwn fInt 2 a54 c55 x158.2, aOwn fInt 2 a30 c31 x28.1] := SH.ext hS163 hE173
  refine WL.runk 1 [0, 1, 6, 7, 9, 12, 13] [(0, .slice a0' aList_0.length c0'), (1, .int .i64 aFault_1), (6, .slice a30 x28.1.length c31), (7, .int .i64 x28.2), (9, .slice a54 x158.2.length c55), (12, .int .i64 x158.1), (13, .int .i64 x170)] (by kernel_rfl) ?_
  refine WL.nil ?_
  refine WQ.then_normal (hK169 _ _ _ ?_)
  refine WP.seq (fun K178 hK178 => ?_)
  refine WP.seq (fun K179 hK179 => ?_)
  refine WP.region ?_
  refine WL.runk 2 [0, 1, 6, 7, 9, 12, 13, 73] [(0, .slice a0' aList_0.length c0'), (1, .int .i64 aFault_1), (6, .slice a30 x28.1.length c31), (7, .int .i64 x28.2), (9, .slice a54 x158.2.length c55), (12, .int .i64 x158.1), (13, .int .i64 x170), (73, .bool (decide (x170 < 0)))] (by kernel_rfl) ?_
  refine WL.nil ?_
  refine WQ.then_normal (hK179 _ _ _ ?_)
  refine WP.cond (decide (x170 < 0)) rfl rfl (fun hc180 => ?_) (fun hc180 => ?_)
  · have hm := iteT hm hc180
    refine WP.seq (fun K181 hK181 => ?_)
    refine WP.region ?_
    refine WL.runk 1 [4] [(4, .bool false)] (by kernel_rfl) ?_
    refine WL.nil ?_
    refine WQ.then_normal (hK181 _ _ _ ?_)
    refine WP.ret ?_
    refine WQ.then_ret ?_
    obtain rfl := Option.some.inj hm
    exact WQ.ret1 _ rfl rfl ⟨rfl, hb175⟩
  have hm := iteF hm hc180
  refine WP.skip ?_
  refine WQ.then_normal (hK178 _ _ _ ?_)
  refine WP.seq (fun K182 hK182 => ?_)
  refine WP.seq (fun K183 hK183 => ?_)
  refine WP.region ?_
  refine WL.runk 3 [0, 1, 6, 7, 9, 12, 76] [(0, .slice a0' aList_0.length c0'), (1, .int .i64 aFault_1), (6, .slice a30 x28.1.length c31), (7, .int .i64 x28.2), (9, .slice a54 x158.2.length c55), (12, .int .i64 x158.1), (76, .bool (x170 != x158.1))] (by kernel_rfl) ?_
  refine WL.nil ?_
  refine WQ.then_normal (hK183 _ _ _ ?_)
  refine WP.cond (x170 != x158.1) rfl rfl (fun hc184 => ?_) (fun hc184 => ?_)
  · have hm := iteT hm hc184
    refine WP.seq (fun K185 hK185 => ?_)
    refine WP.region ?_
    refine WL.runk 1 [4] [(4, .bool false)] (by kernel_rfl) ?_
    refine WL.nil ?_
    refine WQ.then_normal (hK185 _ _ _ ?_)
    refine WP.ret ?_
    refine WQ.then_ret ?_
    obtain rfl := Option.some.inj hm
    exact WQ.ret1 _ rfl rfl ⟨rfl, hb175⟩
  have hm := iteF hm hc184
  refine WP.skip ?_
  refine WQ.then_normal (hK182 _ _ _ ?_)
  refine WP.seq (fun K186 hK186 => ?_)
  refine WP.region ?_
  refine WL.runk 1 [1, 6, 7, 9, 12, 78] [(1, .int .i64 aFault_1), (6, .slice a30 x28.1.length c31), (7, .int .i64 x28.2), (9, .slice a54 x158.2.length c55), (12, .int .i64 x158.1), (78, .slice a0' aList_0.length c0')] (by kernel_rfl) ?_
  obtain ⟨x187, hx188, hm⟩ := bindE hm
  refine WL.call 30 #[.slice a0' aList_0.length c0'] rfl rfl (by kernel_rfl) (c_30 n aList_0 a0' c0' w172 hx188 (Rd.below h0 hb175) hle0) ?_
  rintro _ w192 ⟨a189, c190, rfl, hE193, hR194⟩
  refine ⟨_, rfl, ?_⟩
  have hb195 : Ext w w192 := Ext.trans hb175 hE193
  have hL196 : w.heap.size ≤ w192.heap.size := Nat.le_trans hL176 hE193.size
  have hS197 : SH w192 w.heap.size [aNest fRepair 73 2 a189 c190 x187, aOwn fInt 2 a54 c55 x158.2, aOwn fInt 2 a30 c31 x28.1] := SH.add hS177 hE193 hL176 hR194
  refine WL.runk 1 [6, 7, 9, 12, 79, 80] [(6, .slice a30 x28.1.length c31), (7, .int .i64 x28.2), (9, .slice a54 x158.2.length c55), (12, .int .i64 x158.1), (79, .slice a189 x187.length c190), (80, .int .i64 aFault_1)] (by kernel_rfl) ?_
  obtain ⟨x198, hx199, hm⟩ := bindE hm
  refine WL.call 41 #[.slice a189 x187.length c190, .int .i64 aFault_1] rfl rfl (by kernel_rfl) (c_41 n x187 a189 c190 aFault_1 w192 hx199 (SH.rdN (SH.front 0 hS197)) (SH.leN (SH.front 0 hS197)).1) ?_
  rintro _ w203 ⟨a200, c201, rfl, hE204, hR205⟩
  refine ⟨_, rfl, ?_⟩
  have hb206 : Ext w w203 := Ext.trans hb195 hE204
  have hL207 : w.heap.size ≤ w203.heap.size := Nat.le_trans hL196 hE204.size
  have hS208 : SH w203 w.heap.size [aOwn fInt 2 a200 c201 x198.1, aNest fRepair 73 2 a189 c190 x187, aOwn fInt 2 a54 c55 x158.2, aOwn fInt 2 a30 c31 x28.1] := SH.add hS197 hE204 hL196 hR205
  refine WL.runk 5 [6, 7, 9, 12, 14, 15] [(6, .slice a30 x28.1.length c31), (7, .int .i64 x28.2), (9, .slice a54 x158.2.length c55), (12, .int .i64 x158.1), (14, .slice a200 x198.1.length c201), (15, .int .i64 x198.2)] (by kernel_rfl) ?_
  refine WL.nil ?_
  refine WQ.then_normal (hK186 _ _ _ ?_)
  refine WP.seq (fun K209 hK209 => ?_)
  refine WP.seq (fun K210 hK210 => ?_)
  obtain ⟨x220, hx221, hm⟩ := bindE hm
  refine WP.cut (fun env' w' => env' = [(9, .slice a54 x158.2.length c55), (12, .int .i64 x158.1), (92, .bool x220)] ∧ Ext w w' ∧ w.heap.size ≤ w'.heap.size ∧ SH w' w.heap.size [aOwn fInt 2 a54 c55 x158.2]) ?_ ?_
  · have hm := hx221; clear hx221
    refine WP.region ?_
    refine WL.runk 2 [7, 9, 12, 15, 84, 85] [(7, .int .i64 x28.2), (9, .slice a54 x158.2.length c55), (12, .int .i64 x158.1), (15, .int .i64 x198.2), (84, .slice a200 x198.1.length c201), (85, .slice a30 x28.1.length c31)] (by kernel_rfl) ?_
    obtain ⟨x222, hx223, hm⟩ := bindE hm
    refine WL.call 38 #[.slice a200 x198.1.length c201, .slice a30 x28.1.length c31] rfl rfl (by kernel_rfl) (c_38 n x198.1 a200 c201 x28.1 a30 c31 w203 hx223 (SH.rd (SH.front 0 hS208)) (SH.le (SH.front 0 hS208)).1 (SH.rd (SH.front 3 hS208)) (SH.le (SH.front 3 hS208)).1) ?_
    rintro _ w224 ⟨rfl, hE225⟩
    refine ⟨_, rfl, ?_⟩
    have hb227 : Ext w w224 := Ext.trans hb206 hE225
    have hL228 : w.heap.size ≤ w224.heap.size := Nat.le_trans hL207 hE225.size
    have hS229 : SH w224 w.heap.size [aOwn fInt 2 a200 c201 x198.1, aNest fRepair 73 2 a189 c190 x187, aOwn fInt 2 a54 c55 x158.2, aOwn fInt 2 a30 c31 x28.1] := SH.ext hS208 hE225
    refine WL.runk 2 [7, 9, 12, 15, 88] [(7, .int .i64 x28.2), (9, .slice a54 x158.2.length c55), (12, .int .i64 x158.1), (15, .int .i64 x198.2), (88, .bool (!x222))] (by kernel_rfl) ?_
    refine WL.case (!x222) [88] ⟨rfl, trivial⟩ (fun hc230 => ?_) (fun hc230 => ?_)
    · have hm := iteT hm hc230
      refine WL.runk 4 [9, 12, 92] [(9, .slice a54 x158.2.length c55), (12, .int .i64 x158.1), (92, .bool true)] (by kernel_rfl) ?_
      refine WL.nil ?_
      obtain rfl := Option.some.inj hm
      exact WQ.post' ⟨rfl, hb227, hL228, (SH.take 1 (SH.front 2 hS229))⟩ ⟨rfl, rfl, rfl, trivial⟩
    have hm := iteF hm hc230
    refine WL.runk 4 [9, 12, 92] [(9, .slice a54 x158.2.length c55), (12, .int .i64 x158.1), (92, .bool (x198.2 != x28.2))] (by kernel_rfl) ?_
    refine WL.nil ?_
    obtain rfl := Option.some.inj hm
    exact WQ.post' ⟨rfl, hb227, hL228, (SH.take 1 (SH.front 2 hS229))⟩ ⟨rfl, rfl, rfl, trivial⟩
  clear hx221
  rintro _ w231 ⟨rfl, hb232, hL233, hS234⟩
  refine WQ.then_normal (hK210 _ _ _ ?_)
  refine WP.cond x220 rfl rfl (fun hc235 => ?_) (fun hc235 => ?_)
  · have hm := iteT hm hc235
    refine WP.seq (fun K236 hK236 => ?_)
    refine WP.region ?_
    refine WL.runk 1 [4] [(4, .bool false)] (by kernel_rfl) ?_
    refine WL.nil ?_
    refine WQ.then_normal (hK236 _ _ _ ?_)
    refine WP.ret ?_
    refine WQ.then_ret ?_
    obtain rfl := Option.some.inj hm
    exact WQ.ret1 _ rfl rfl ⟨rfl, hb232⟩
  have hm := iteF hm hc235
  refine WP.skip ?_
  refine WQ.then_normal (hK209 _ _ _ ?_)
  refine WP.seq (fun K237 hK237 => ?_)
  refine WP.region ?_
  refine WL.runk 1 [9, 12, 13] [(9, .slice a54 x158.2.length c55), (12, .int .i64 x158.1), (13, .int .i64 1)] (by kernel_rfl) ?_
  refine WL.nil ?_
  refine WQ.then_normal (hK237 _ _ _ ?_)
  refine WP.seq (fun K238 hK238 => ?_)
  refine WP.region ?_
  refine WL.runk 2 [12, 93, 94] [(12, .int .i64 x158.1), (93, .slice a54 x158.2.length c55), (94, .int .i64 1)] (by kernel_rfl) ?_
  obtain ⟨x239, hx240, hm⟩ := bindE hm
  refine WL.call 44 #[.slice a54 x158.2.length c55, .int .i64 1] rfl rfl (by kernel_rfl) (c_44 n x158.2 a54 c55 1 w231 hx240 (SH.rd (SH.front 0 hS234)) (SH.le (SH.front 0 hS234)).1) ?_
  rintro _ w241 ⟨rfl, hE242⟩
  refine ⟨_, rfl, ?_⟩
  have hb244 : Ext w w241 := Ext.trans hb232 hE242
  have hL245 : w.heap.size ≤ w241.heap.size := Nat.le_trans hL233 hE242.size
  have hS246 : SH w241 w.heap.size [aOwn fInt 2 a54 c55 x158.2] := SH.ext hS234 hE242
  refine WL.runk 1 [12, 13] [(12, .int .i64 x158.1), (13, .int .i64 x239)] (by kernel_rfl) ?_
  refine WL.nil ?_
  refine WQ.then_normal (hK238 _ _ _ ?_)
  refine WP.seq (fun K247 hK247 => ?_)
  refine WP.seq (fun K248 hK248 => ?_)
  refine WP.region ?_
  refine WL.runk 2 [12, 13, 97] [(12, .int .i64 x158.1), (13, .int .i64 x239), (97, .bool (decide (x239 < 0)))] (by kernel_rfl) ?_
  refine WL.nil ?_
  refine WQ.then_normal (hK248 _ _ _ ?_)
  refine WP.cond (decide (x239 < 0)) rfl rfl (fun hc249 => ?_) (fun hc249 => ?_)
  · have hm := iteT hm hc249
    refine WP.seq (fun K250 hK250 => ?_)
    refine WP.region ?_
    refine WL.runk 1 [4] [(4, .bool false)] (by kernel_rfl) ?_
    refine WL.nil ?_
    refine WQ.then_normal (hK250 _ _ _ ?_)
    refine WP.ret ?_
    refine WQ.then_ret ?_
    obtain rfl := Option.some.inj hm
    exact WQ.ret1 _ rfl rfl ⟨rfl, hb244⟩
  have hm := iteF hm hc249
  refine WP.skip ?_
  refine WQ.then_normal (hK247 _ _ _ ?_)
  refine WP.seq (fun K251 hK251 => ?_)
  refine WP.seq (fun K252 hK252 => ?_)
  refine WP.region ?_
  refine WL.runk 3 [100] [(100, .bool (x239 != x158.1))] (by kernel_rfl) ?_
  refine WL.nil ?_
  refine WQ.then_normal (hK252 _ _ _ ?_)
  refine WP.cond (x239 != x158.1) rfl rfl (fun hc253 => ?_) (fun hc253 => ?_)
  · have hm := iteT hm hc253
    refine WP.seq (fun K254 hK254 => ?_)
    refine WP.region ?_
    refine WL.runk 1 [4] [(4, .bool false)] (by kernel_rfl) ?_
    refine WL.nil ?_
    refine WQ.then_normal (hK254 _ _ _ ?_)
    refine WP.ret ?_
    refine WQ.then_ret ?_
    obtain rfl := Option.some.inj hm
    exact WQ.ret1 _ rfl rfl ⟨rfl, hb244⟩
  have hm := iteF hm hc253
  refine WP.skip ?_
  refine WQ.then_normal (hK251 _ _ _ ?_)
  refine WP.seq (fun K255 hK255 => ?_)
  refine WP.region ?_
  refine WL.runk 1 [4] [(4, .bool true)] (by kernel_rfl) ?_
  refine WL.nil ?_
  refine WQ.then_normal (hK255 _ _ _ ?_)
  refine WP.ret ?_
  obtain rfl := Option.some.inj hm
  exact WQ.ret1 _ rfl rfl ⟨rfl, hb244⟩

end Go.Proofs.Ytkglfbcelaphhaa
