/- Each call does what its Lean function says. -/
import Derived.Test.YtoljnpoiclklpaaCo7
set_option maxRecDepth 20000
set_option maxHeartbeats 4000000
namespace Go.Proofs.Ytoljnpoiclklpaa
open Go Go.Gv Go.RowKit

theorem c_67 (n : Nat) (a_0 : Int) (b_1 : Int) (w : World) {r : Int} (hm : m_spec_l00Max n a_0 b_1 = some r)  :
    CallV Try.prog 67 #[.int .i64 a_0, .int .i64 b_1] w (fun v w' => v = .int .i64 r ∧ Ext w w') := by
  unfold m_spec_l00Max at hm
  refine CallV.enter Try.func67 rfl (by kernel_rfl) Try.ntmps67 (env := [(0, .int .i64 a_0), (1, .int .i64 b_1)]) ⟨rfl, rfl, trivial⟩ ?_
  refine WP.seq (fun K1 hK1 => ?_)
  refine WP.region ?_
  refine WL.runk 1 [0, 1] [(0, .int .i64 a_0), (1, .int .i64 b_1)] (by kernel_rfl) ?_
  refine WL.nil ?_
  refine WQ.then_normal (hK1 _ _ _ ?_)
  refine WP.seq (fun K2 hK2 => ?_)
  refine WP.seq (fun K3 hK3 => ?_)
  refine WP.region ?_
  refine WL.runk 3 [0, 1, 7] [(0, .int .i64 a_0), (1, .int .i64 b_1), (7, .bool (decide (a_0 > b_1)))] (by kernel_rfl) ?_
  refine WL.nil ?_
  refine WQ.then_normal (hK3 _ _ _ ?_)
  refine WP.cond (decide (a_0 > b_1)) rfl rfl (fun hc4 => ?_) (fun hc4 => ?_)
  · have hm := iteT hm hc4
    refine WP.seq (fun K5 hK5 => ?_)
    refine WP.region ?_
    refine WL.runk 2 [4] [(4, .int .i64 a_0)] (by kernel_rfl) ?_
    refine WL.nil ?_
    refine WQ.then_normal (hK5 _ _ _ ?_)
    refine WP.ret ?_
    refine WQ.then_ret ?_
    obtain rfl := Option.some.inj hm
    exact WQ.ret1 _ rfl rfl ⟨rfl, (Ext.refl w)⟩
  · have hm := iteF hm hc4
    refine WP.skip ?_
    refine WQ.then_normal (hK2 _ _ _ ?_)
    refine WP.seq (fun K6 hK6 => ?_)
    refine WP.region ?_
    refine WL.runk 2 [4] [(4, .int .i64 b_1)] (by kernel_rfl) ?_
    refine WL.nil ?_
    refine WQ.then_normal (hK6 _ _ _ ?_)
    refine WP.ret ?_
    obtain rfl := Option.some.inj hm
    exact WQ.ret1 _ rfl rfl ⟨rfl, (Ext.refl w)⟩

theorem c_38 (n : Nat) (rows_0 : List (List UInt8)) (a0' : Option Addr) (c0' : Nat) (least_1 : Int) (w : World) {r : List Int × Int} (hm : m_spec_PatchFor n rows_0 least_1 = some r) (h0 : Rd fStr.ty w a0' rows_0) (hle0 : rows_0.length ≤ c0') :
    CallV Try.prog 38 #[.slice a0' rows_0.length c0', .int .i64 least_1] w (fun v w' => ∃ (ra0 : Option Addr) (rc0 : Nat), v = .tuple #[.slice ra0 r.1.length rc0, .int .i64 r.2] ∧ Ext w w' ∧ SH w' w.heap.size [aOwn fInt 2 ra0 rc0 r.1]) := by
  unfold m_spec_PatchFor at hm
  refine CallV.enter Try.func38 rfl (by kernel_rfl) Try.ntmps38 (env := [(0, .slice a0' rows_0.length c0'), (1, .int .i64 least_1)]) ⟨rfl, rfl, trivial⟩ ?_
  refine WP.seq (fun K1 hK1 => ?_)
  refine WP.region ?_
  refine WL.runk 2 [0, 1] [(0, .slice a0' rows_0.length c0'), (1, .int .i64 least_1)] (by kernel_rfl) ?_
  refine WL.nil ?_
  refine WQ.then_normal (hK1 _ _ _ ?_)
  refine WP.seq (fun K2 hK2 => ?_)
  refine WP.region ?_
  refine WL.runk 2 [0, 1, 13, 14] [(0, .slice a0' rows_0.length c0'), (1, .int .i64 least_1), (13, .slice a0' rows_0.length c0'), (14, .int .i64 least_1)] (by kernel_rfl) ?_
  obtain ⟨x3, hx4, hm⟩ := bindE hm
  refine WL.call 51 #[.slice a0' rows_0.length c0', .int .i64 least_1] rfl rfl (by kernel_rfl) (c_51 n rows_0 a0' c0' least_1 w hx4 (Rd.below h0 (Ext.refl w)) hle0) ?_
  rintro _ w5 ⟨rfl, hE6⟩
  refine ⟨_, rfl, ?_⟩
  have hb8 : Ext w w5 := Ext.trans (Ext.refl w) hE6
  have hL9 : w.heap.size ≤ w5.heap.size := Nat.le_trans (Nat.le_refl _) hE6.size
  have hS10 : SH w5 w.heap.size [] := SH.ext (SH.nil _ _) hE6
  refine WL.runk 1 [0, 1, 6] [(0, .slice a0' rows_0.length c0'), (1, .int .i64 least_1), (6, .int .i64 x3)] (by kernel_rfl) ?_
  refine WL.nil ?_
  refine WQ.then_normal (hK2 _ _ _ ?_)
  refine WP.seq (fun K11 hK11 => ?_)
  refine WP.seq (fun K12 hK12 => ?_)
  refine WP.region ?_
  refine WL.runk 2 [0, 1, 6, 17] [(0, .slice a0' rows_0.length c0'), (1, .int .i64 least_1), (6, .int .i64 x3), (17, .bool (x3 != 0))] (by kernel_rfl) ?_
  refine WL.nil ?_
  refine WQ.then_normal (hK12 _ _ _ ?_)
  refine WP.cond (x3 != 0) rfl rfl (fun hc13 => ?_) (fun hc13 => ?_)
  · have hm := iteT hm hc13
    refine WP.seq (fun K14 hK14 => ?_)
    refine WP.region ?_
    refine WL.runk 3 [4, 5] [(4, .slice none 0 0), (5, .int .i64 x3)] (by kernel_rfl) ?_
    refine WL.nil ?_
    refine WQ.then_normal (hK14 _ _ _ ?_)
    refine WP.ret ?_
    refine WQ.then_ret ?_
    obtain rfl := Option.some.inj hm
    have hS16 : SH w5 w.heap.size [aOwn fInt 2 none 0 ([] : List Int)] := SH.nilOwn hS10
    exact WQ.ret2 _ _ rfl rfl rfl ⟨_, _, rfl, hb8, hS16⟩
  · have hm := iteF hm hc13
    refine WP.skip ?_
    refine WQ.then_normal (hK11 _ _ _ ?_)
    refine WP.seq (fun K17 hK17 => ?_)
    refine WP.region ?_
    refine WL.runk 1 [0, 1, 7] [(0, .slice a0' rows_0.length c0'), (1, .int .i64 least_1), (7, .int .i64 (-1))] (by kernel_rfl) ?_
    refine WL.nil ?_
    refine WQ.then_normal (hK17 _ _ _ ?_)
    refine WP.seq (fun K18 hK18 => ?_)
    refine WP.region ?_
    refine WL.runk 1 [0, 1, 7, 8] [(0, .slice a0' rows_0.length c0'), (1, .int .i64 least_1), (7, .int .i64 (-1)), (8, .int .i64 8)] (by kernel_rfl) ?_
    refine WL.nil ?_
    refine WQ.then_normal (hK18 _ _ _ ?_)
    refine WP.seq (fun K19 hK19 => ?_)
    refine WP.region ?_
    refine WL.runk 1 [0, 1, 7, 8, 9] [(0, .slice a0' rows_0.length c0'), (1, .int .i64 least_1), (7, .int .i64 (-1)), (8, .int .i64 8), (9, .int .i64 (-1))] (by kernel_rfl) ?_
    refine WL.nil ?_
    refine WQ.then_normal (hK19 _ _ _ ?_)
    refine WP.seq (fun K20 hK20 => ?_)
    refine WP.region ?_
    refine WL.runk 1 [0, 1, 7, 8, 9, 10] [(0, .slice a0' rows_0.length c0'), (1, .int .i64 least_1), (7, .int .i64 (-1)), (8, .int .i64 8), (9, .int .i64 (-1)), (10, .int .i64 (-1))] (by kernel_rfl) ?_
    refine WL.nil ?_
    refine WQ.then_normal (hK20 _ _ _ ?_)
    refine WP.seq (fun K21 hK21 => ?_)
    refine WP.seq (fun K22 hK22 => ?_)
    refine WP.region ?_
    refine WL.runk 1 [0, 1, 7, 8, 9, 10, 11] [(0, .slice a0' rows_0.length c0'), (1, .int .i64 least_1), (7, .int .i64 (-1)), (8, .int .i64 8), (9, .int .i64 (-1)), (10, .int .i64 (-1)), (11, .int .i64 0)] (by kernel_rfl) ?_
    refine WL.nil ?_
    refine WQ.then_normal (hK22 _ _ _ ?_)
    refine WP.block ?_
    obtain ⟨t34, ht35, hm⟩ := bindE hm
    have hmo29 := hm; clear hm
    refine WP.sub [(0, .slice a0' rows_0.length c0'), (1, .int .i64 least_1), (7, .int .i64 (-1)), (8, .int .i64 8), (9, .int .i64 (-1)), (10, .int .i64 (-1)), (11, .int .i64 0)] ⟨rfl, rfl, rfl, rfl, rfl, rfl, rfl, trivial⟩ ?_
    refine WP.loop (fun n' env' w' => ∃ (st23 : Int × Int × Int × Int × Int) , env' = [(0, .slice a0' rows_0.length c0'), (1, .int .i64 least_1), (7, .int .i64 st23.1), (8, .int .i64 st23.2.1), (9, .int .i64 st23.2.2.1), (10, .int .i64 st23.2.2.2.1), (11, .int .i64 st23.2.2.2.2)] ∧ Ext w w' ∧ w.heap.size ≤ w'.heap.size ∧ SH w' w.heap.size [] ∧ loopN (m_spec_PatchFor_l1 n rows_0 least_1) n' st23 = some t34) n ⟨((-1), 8, (-1), (-1), 0), rfl, hb8, hL9, hS10, ht35⟩ ?_
    rintro n31 _ w24 ⟨st23, rfl, hb25, hL26, hS27, hl28⟩ K30 hK30
    obtain ⟨n32, s33, rfl, hm, hl28⟩ := loopN_some hl28
    unfold m_spec_PatchFor_l1 at hm
    refine WP.seq (fun K36 hK36 => ?_)
    refine WP.seq (fun K37 hK37 => ?_)
    refine WP.region ?_
    refine WL.runk 4 [0, 1, 7, 8, 9, 10, 11, 22] [(0, .slice a0' rows_0.length c0'), (1, .int .i64 least_1), (7, .int .i64 st23.1), (8, .int .i64 st23.2.1), (9, .int .i64 st23.2.2.1), (10, .int .i64 st23.2.2.2.1), (11, .int .i64 st23.2.2.2.2), (22, .bool (decide (st23.2.2.2.2 < (rows_0.length : Int))))] (by kernel_rfl) ?_
    refine WL.nil ?_
    refine WQ.then_normal (hK37 _ _ _ ?_)
    refine WP.cond (decide (st23.2.2.2.2 < (rows_0.length : Int))) rfl rfl (fun hc38 => ?_) (fun hc38 => ?_)
    · have hm := iteT hm hc38
      refine WP.skip ?_
      refine WQ.then_normal (hK36 _ _ _ ?_)
      refine WP.seq (fun K39 hK39 => ?_)
      refine WP.block ?_
      refine WP.seq (fun K40 hK40 => ?_)
      refine WP.region ?_
      refine WL.runk 1 [0, 1, 7, 8, 9, 10, 11, 12] [(0, .slice a0' rows_0.length c0'), (1, .int .i64 least_1), (7, .int .i64 st23.1), (8, .int .i64 st23.2.1), (9, .int .i64 st23.2.2.1), (10, .int .i64 st23.2.2.2.1), (11, .int .i64 st23.2.2.2.2), (12, .int .i64 0)] (by kernel_rfl) ?_
      refine WL.nil ?_
      refine WQ.then_normal (hK40 _ _ _ ?_)
      refine WP.block ?_
      obtain ⟨t52, ht53, hm⟩ := bindE hm
      have hmo47 := hm; clear hm
      refine WP.sub [(0, .slice a0' rows_0.length c0'), (1, .int .i64 least_1), (7, .int .i64 st23.1), (8, .int .i64 st23.2.1), (9, .int .i64 st23.2.2.1), (10, .int .i64 st23.2.2.2.1), (11, .int .i64 st23.2.2.2.2), (12, .int .i64 0)] ⟨rfl, rfl, rfl, rfl, rfl, rfl, rfl, rfl, trivial⟩ ?_
      refine WP.loop (fun n' env' w' => ∃ (st41 : Int × Int × Int × Int × Int) , env' = [(0, .slice a0' rows_0.length c0'), (1, .int .i64 least_1), (7, .int .i64 st41.1), (8, .int .i64 st41.2.1), (9, .int .i64 st41.2.2.1), (10, .int .i64 st41.2.2.2.1), (11, .int .i64 st23.2.2.2.2), (12, .int .i64 st41.2.2.2.2)] ∧ Ext w w' ∧ w.heap.size ≤ w'.heap.size ∧ SH w' w.heap.size [] ∧ loopN (m_spec_PatchFor_l2 n rows_0 least_1 st23) n' st41 = some t52) n ⟨(st23.1, st23.2.1, st23.2.2.1, st23.2.2.2.1, 0), rfl, hb25, hL26, hS27, ht53⟩ ?_
      rintro n49 _ w42 ⟨st41, rfl, hb43, hL44, hS45, hl46⟩ K48 hK48
      obtain ⟨n50, s51, rfl, hm, hl46⟩ := loopN_some hl46
      unfold m_spec_PatchFor_l2 at hm
      refine WP.seq (fun K54 hK54 => ?_)
      refine WP.seq (fun K55 hK55 => ?_)
      refine WP.region ?_
      refine WL.runk 3 [0, 1, 7, 8, 9, 10, 11, 12, 25, 26, 27] [(0, .slice a0' rows_0.length c0'), (1, .int .i64 least_1), (7, .int .i64 st41.1), (8, .int .i64 st41.2.1), (9, .int .i64 st41.2.2.1), (10, .int .i64 st41.2.2.2.1), (11, .int .i64 st23.2.2.2.2), (12, .int .i64 st41.2.2.2.2), (25, .int .i64 st41.2.2.2.2), (26, .slice a0' rows_0.length c0'), (27, .int .i64 st23.2.2.2.2)] (by kernel_rfl) ?_
      obtain ⟨x56, hx57, hm⟩ := bindE hm
      refine WL.st (.pointer (some (at_ a0' (Int.toNat st23.2.2.2.2 * 1)))) (ST.index (T := fStr.ty) (xs := rows_0) (Rd.below h0 hb43) hx57 rfl rfl rfl Try.underlying22 (info9).1 (info9).2.1) rfl rfl rfl ?_
      refine WL.st (.string (bs x56)) (ST.load (cell_ext (Rd.flat (F := fStr) (Rd.below h0 hb43) hx57 0 rfl)) rfl rfl Try.underlying9 rfl) rfl rfl rfl ?_
      refine WL.runk 2 [0, 1, 7, 8, 9, 10, 11, 12, 31] [(0, .slice a0' rows_0.length c0'), (1, .int .i64 least_1), (7, .int .i64 st41.1), (8, .int .i64 st41.2.1), (9, .int .i64 st41.2.2.1), (10, .int .i64 st41.2.2.2.1), (11, .int .i64 st23.2.2.2.2), (12, .int .i64 st41.2.2.2.2), (31, .bool (decide (st41.2.2.2.2 < (x56.length : Int))))] (by kernel_rfl) ?_
      refine WL.nil ?_
      refine WQ.then_normal (hK55 _ _ _ ?_)
      refine WP.cond (decide (st41.2.2.2.2 < (x56.length : Int))) rfl rfl (fun hc58 => ?_) (fun hc58 => ?_)
      · have hm := iteT hm hc58
        refine WP.skip ?_
        refine WQ.then_normal (hK54 _ _ _ ?_)
        refine WP.seq (fun K59 hK59 => ?_)
        refine WP.block ?_
        refine WP.seq (fun K60 hK60 => ?_)
        refine WP.seq (fun K61 hK61 => ?_)
        refine WP.region ?_
        refine WL.runk 3 [0, 1, 7, 8, 9, 10, 11, 12, 34, 35, 36] [(0, .slice a0' rows_0.length c0'), (1, .int .i64 least_1), (7, .int .i64 st41.1), (8, .int .i64 st41.2.1), (9, .int .i64 st41.2.2.1), (10, .int .i64 st41.2.2.2.1), (11, .int .i64 st23.2.2.2.2), (12, .int .i64 st41.2.2.2.2), (34, .slice a0' rows_0.length c0'), (35, .int .i64 st23.2.2.2.2), (36, .int .i64 st41.2.2.2.2)] (by kernel_rfl) ?_
        obtain ⟨x62, hx63, hm⟩ := bindE hm
        refine WL.call 52 #[.slice a0' rows_0.length c0', .int .i64 st23.2.2.2.2, .int .i64 st41.2.2.2.2] rfl rfl (by kernel_rfl) (c_52 n rows_0 a0' c0' st23.2.2.2.2 st41.2.2.2.2 w42 hx63 (Rd.below h0 hb43) hle0) ?_
        rintro _ w64 ⟨rfl, hE65⟩
        refine ⟨_, rfl, ?_⟩
        have hb67 : Ext w w64 := Ext.trans hb43 hE65
        have hL68 : w.heap.size ≤ w64.heap.size := Nat.le_trans hL44 hE65.size
        have hS69 : SH w64 w.heap.size [] := SH.ext hS45 hE65
        refine WL.runk 2 [0, 1, 7, 8, 9, 10, 11, 12, 39] [(0, .slice a0' rows_0.length c0'), (1, .int .i64 least_1), (7, .int .i64 st41.1), (8, .int .i64 st41.2.1), (9, .int .i64 st41.2.2.1), (10, .int .i64 st41.2.2.2.1), (11, .int .i64 st23.2.2.2.2), (12, .int .i64 st41.2.2.2.2), (39, .bool (decide (x62 < least_1)))] (by kernel_rfl) ?_
        refine WL.nil ?_
        refine WQ.then_normal (hK61 _ _ _ ?_)
        refine WP.cond (decide (x62 < least_1)) rfl rfl (fun hc70 => ?_) (fun hc70 => ?_)
        · have hm := iteT hm hc70
          refine WP.exit ?_
          refine WQ.then_exit ?_
          refine WQ.block_here ?_
          refine WQ.then_normal (hK59 _ _ _ ?_)
          refine WP.region ?_
          refine WL.runk 3 [0, 1, 7, 8, 9, 10, 11, 12] [(0, .slice a0' rows_0.length c0'), (1, .int .i64 least_1), (7, .int .i64 st41.1), (8, .int .i64 st41.2.1), (9, .int .i64 st41.2.2.1), (10, .int .i64 st41.2.2.2.1), (11, .int .i64 st23.2.2.2.2), (12, .int .i64 (wI64 (st41.2.2.2.2 + 1)))] (by kernel_rfl) ?_
          refine WL.nil ?_
          obtain rfl := Option.some.inj hm
          exact WQ.round hK48 ⟨(st41.1, st41.2.1, st41.2.2.1, st41.2.2.2.1, (wI64 (st41.2.2.2.2 + 1))), rfl, hb67, hL68, hS69, hl46⟩ (Nat.lt_succ_self _) ⟨rfl, rfl, rfl, rfl, rfl, rfl, rfl, rfl, trivial⟩
        · have hm := iteF hm hc70
          refine WP.skip ?_
          refine WQ.then_normal (hK60 _ _ _ ?_)
          refine WP.seq (fun K71 hK71 => ?_)
          refine WP.seq (fun K72 hK72 => ?_)
          refine WP.region ?_
          refine WL.runk 2 [0, 1, 7, 8, 10, 11, 12, 41] [(0, .slice a0' rows_0.length c0'), (1, .int .i64 least_1), (7, .int .i64 st41.1), (8, .int .i64 st41.2.1), (10, .int .i64 st41.2.2.2.1), (11, .int .i64 st23.2.2.2.2), (12, .int .i64 st41.2.2.2.2), (41, .bool (decide (st41.1 < 0)))] (by kernel_rfl) ?_
          refine WL.nil ?_
          refine WQ.then_normal (hK72 _ _ _ ?_)
          obtain ⟨x74, hx75, hm⟩ := bindE hm
          refine WP.cut (fun env' w' => env' = [(0, .slice a0' rows_0.length c0'), (1, .int .i64 least_1), (7, .int .i64 x74), (8, .int .i64 st41.2.1), (10, .int .i64 st41.2.2.2.1), (11, .int .i64 st23.2.2.2.2), (12, .int .i64 st41.2.2.2.2)] ∧ Ext w w' ∧ w.heap.size ≤ w'.heap.size ∧ SH w' w.heap.size []) ?_ ?_
          · have hm := hx75; clear hx75
            refine WP.cond (decide (st41.1 < 0)) rfl rfl (fun hc73 => ?_) (fun hc73 => ?_)
            · have hm := iteT hm hc73
              refine WP.region ?_
              refine WL.runk 2 [0, 1, 7, 8, 10, 11, 12] [(0, .slice a0' rows_0.length c0'), (1, .int .i64 least_1), (7, .int .i64 st23.2.2.2.2), (8, .int .i64 st41.2.1), (10, .int .i64 st41.2.2.2.1), (11, .int .i64 st23.2.2.2.2), (12, .int .i64 st41.2.2.2.2)] (by kernel_rfl) ?_
              refine WL.nil ?_
              obtain rfl := Option.some.inj hm
              exact WQ.post' ⟨rfl, hb67, hL68, hS69⟩ ⟨rfl, rfl, rfl, rfl, rfl, rfl, rfl, trivial⟩
            · have hm := iteF hm hc73
              refine WP.skip ?_
              obtain rfl := Option.some.inj hm
              exact WQ.post' ⟨rfl, hb67, hL68, hS69⟩ ⟨rfl, rfl, rfl, rfl, rfl, rfl, rfl, trivial⟩
          · clear hx75
            rintro _ w76 ⟨rfl, hb77, hL78, hS79⟩
            refine WQ.then_normal (hK71 _ _ _ ?_)
            refine WP.seq (fun K80 hK80 => ?_)
            refine WP.region ?_
            refine WL.runk 2 [0, 1, 7, 8, 9, 10, 11, 12] [(0, .slice a0' rows_0.length c0'), (1, .int .i64 least_1), (7, .int .i64 x74), (8, .int .i64 st41.2.1), (10, .int .i64 st41.2.2.2.1), (11, .int .i64 st23.2.2.2.2), (12, .int .i64 st41.2.2.2.2), (9, .int .i64 st23.2.2.2.2)] (by kernel_rfl) ?_
            refine WL.nil ?_
            refine WQ.then_normal (hK80 _ _ _ ?_)
            refine WP.seq (fun K81 hK81 => ?_)
            refine WP.region ?_
            refine WL.runk 2 [0, 1, 7, 9, 10, 11, 12, 44, 45] [(0, .slice a0' rows_0.length c0'), (1, .int .i64 least_1), (7, .int .i64 x74), (10, .int .i64 st41.2.2.2.1), (11, .int .i64 st23.2.2.2.2), (12, .int .i64 st41.2.2.2.2), (9, .int .i64 st23.2.2.2.2), (44, .int .i64 st41.2.1), (45, .int .i64 st41.2.2.2.2)] (by kernel_rfl) ?_
            obtain ⟨x82, hx83, hm⟩ := bindE hm
            refine WL.call 59 #[.int .i64 st41.2.1, .int .i64 st41.2.2.2.2] rfl rfl (by kernel_rfl) (c_59 n st41.2.1 st41.2.2.2.2 w76 hx83 ) ?_
            rintro _ w84 ⟨rfl, hE85⟩
            refine ⟨_, rfl, ?_⟩
            have hb87 : Ext w w84 := Ext.trans hb77 hE85
            have hL88 : w.heap.size ≤ w84.heap.size := Nat.le_trans hL78 hE85.size
            have hS89 : SH w84 w.heap.size [] := SH.ext hS79 hE85
            refine WL.runk 1 [0, 1, 7, 8, 9, 10, 11, 12] [(0, .slice a0' rows_0.length c0'), (1, .int .i64 least_1), (7, .int .i64 x74), (10, .int .i64 st41.2.2.2.1), (11, .int .i64 st23.2.2.2.2), (12, .int .i64 st41.2.2.2.2), (9, .int .i64 st23.2.2.2.2), (8, .int .i64 x82)] (by kernel_rfl) ?_
            refine WL.nil ?_
            refine WQ.then_normal (hK81 _ _ _ ?_)
            refine WP.region ?_
            refine WL.runk 2 [0, 1, 7, 8, 9, 11, 12, 47, 48] [(0, .slice a0' rows_0.length c0'), (1, .int .i64 least_1), (7, .int .i64 x74), (11, .int .i64 st23.2.2.2.2), (12, .int .i64 st41.2.2.2.2), (9, .int .i64 st23.2.2.2.2), (8, .int .i64 x82), (47, .int .i64 st41.2.2.2.1), (48, .int .i64 st41.2.2.2.2)] (by kernel_rfl) ?_
            obtain ⟨x90, hx91, hm⟩ := bindE hm
            refine WL.call 67 #[.int .i64 st41.2.2.2.1, .int .i64 st41.2.2.2.2] rfl rfl (by kernel_rfl) (c_67 n st41.2.2.2.1 st41.2.2.2.2 w84 hx91 ) ?_
            rintro _ w92 ⟨rfl, hE93⟩
            refine ⟨_, rfl, ?_⟩
            have hb95 : Ext w w92 := Ext.trans hb87 hE93
            have hL96 : w.heap.size ≤ w92.heap.size := Nat.le_trans hL88 hE93.size
            have hS97 : SH w92 w.heap.size [] := SH.ext hS89 hE93
            refine WL.runk 1 [0, 1, 7, 8, 9, 10, 11, 12] [(0, .slice a0' rows_0.length c0'), (1, .int .i64 least_1), (7, .int .i64 x74), (11, .int .i64 st23.2.2.2.2), (12, .int .i64 st41.2.2.2.2), (9, .int .i64 st23.2.2.2.2), (8, .int .i64 x82), (10, .int .i64 x90)] (by kernel_rfl) ?_
            refine WL.nil ?_
            refine WQ.block_normal ?_
            refine WQ.then_normal (hK59 _ _ _ ?_)
            refine WP.region ?_
            refine WL.runk 3 [0, 1, 7, 8, 9, 10, 11, 12] [(0, .slice a0' rows_0.length c0'), (1, .int .i64 least_1), (7, .int .i64 x74), (11, .int .i64 st23.2.2.2.2), (12, .int .i64 (wI64 (st41.2.2.2.2 + 1))), (9, .int .i64 st23.2.2.2.2), (8, .int .i64 x82), (10, .int .i64 x90)] (by kernel_rfl) ?_
            refine WL.nil ?_
            obtain rfl := Option.some.inj hm
            exact WQ.round hK48 ⟨(x74, x82, st23.2.2.2.2, x90, (wI64 (st41.2.2.2.2 + 1))), rfl, hb95, hL96, hS97, hl46⟩ (Nat.lt_succ_self _) ⟨rfl, rfl, rfl, rfl, rfl, rfl, rfl, rfl, trivial⟩
      · have hm := iteF hm hc58
        refine WP.exit ?_
        refine WQ.then_exit ?_
        refine WQ.then_exit ?_
        refine WQ.block_here ?_
        obtain rfl := Option.some.inj hm
        obtain rfl := afterN_done hl46
        have hm := hmo47
        refine WQ.block_normal ?_
        refine WQ.then_normal (hK39 _ _ _ ?_)
        refine WP.region ?_
        refine WL.runk 3 [0, 1, 7, 8, 9, 10, 11] [(0, .slice a0' rows_0.length c0'), (1, .int .i64 least_1), (7, .int .i64 st41.1), (8, .int .i64 st41.2.1), (9, .int .i64 st41.2.2.1), (10, .int .i64 st41.2.2.2.1), (11, .int .i64 (wI64 (st23.2.2.2.2 + 1)))] (by kernel_rfl) ?_
        refine WL.nil ?_
        obtain rfl := Option.some.inj hm
        exact WQ.round hK30 ⟨(st41.1, st41.2.1, st41.2.2.1, st41.2.2.2.1, (wI64 (st23.2.2.2.2 + 1))), rfl, hb43, hL44, hS45, hl28⟩ (Nat.lt_succ_self _) ⟨rfl, rfl, rfl, rfl, rfl, rfl, rfl, trivial⟩
    · have hm := iteF hm hc38
      refine WP.exit ?_
      refine WQ.then_exit ?_
      refine WQ.then_exit ?_
      refine WQ.block_here ?_
      obtain rfl := Option.some.inj hm
      obtain rfl := afterN_done hl28
      have hm := hmo29
      refine WQ.then_normal (hK21 _ _ _ ?_)
      refine WP.seq (fun K99 hK99 => ?_)
      refine WP.seq (fun K100 hK100 => ?_)
      refine WP.region ?_
      refine WL.runk 2 [7, 8, 9, 10, 51] [(7, .int .i64 st23.1), (8, .int .i64 st23.2.1), (9, .int .i64 st23.2.2.1), (10, .int .i64 st23.2.2.2.1), (51, .bool (decide (st23.1 < 0)))] (by kernel_rfl) ?_
      refine WL.nil ?_
      refine WQ.then_normal (hK100 _ _ _ ?_)
      refine WP.cond (decide (st23.1 < 0)) rfl rfl (fun hc101 => ?_) (fun hc101 => ?_)
      · have hm := iteT hm hc101
        refine WP.seq (fun K102 hK102 => ?_)
        refine WP.region ?_
        refine WL.runk 2 [4, 5] [(4, .slice none 0 0), (5, .int .i64 3)] (by kernel_rfl) ?_
        refine WL.nil ?_
        refine WQ.then_normal (hK102 _ _ _ ?_)
        refine WP.ret ?_
        refine WQ.then_ret ?_
        obtain rfl := Option.some.inj hm
        have hS104 : SH w24 w.heap.size [aOwn fInt 2 none 0 ([] : List Int)] := SH.nilOwn hS27
        exact WQ.ret2 _ _ rfl rfl rfl ⟨_, _, rfl, hb25, hS104⟩
      · have hm := iteF hm hc101
        refine WP.skip ?_
        refine WQ.then_normal (hK99 _ _ _ ?_)
        refine WP.seq (fun K105 hK105 => ?_)
        refine WP.region ?_
        refine WL.runk 10 [52, 53, 57, 61] [(52, .int .i64 st23.1), (53, .int .i64 st23.2.1), (57, .int .i64 (wI64 ((wI64 (st23.2.2.1 - st23.1)) + 1))), (61, .int .i64 (wI64 ((wI64 (st23.2.2.2.1 - st23.2.1)) + 1)))] (by kernel_rfl) ?_
        refine WL.row fInt 2 ([st23.1, st23.2.1, (wI64 ((wI64 (st23.2.2.1 - st23.1)) + 1)), (wI64 ((wI64 (st23.2.2.2.1 - st23.2.1)) + 1))] : List Int) 4 #[.int .i64 st23.1, .int .i64 st23.2.1, .int .i64 (wI64 ((wI64 (st23.2.2.1 - st23.1)) + 1)), .int .i64 (wI64 ((wI64 (st23.2.2.2.1 - st23.2.1)) + 1))] 62 (by kernel_rfl) rfl rfl rfl rfl rfl rfl rfl ?_
        intro a106 c107 w108 hE109 hR110
        have hb112 : Ext w w108 := Ext.trans hb25 hE109
        have hL113 : w.heap.size ≤ w108.heap.size := Nat.le_trans hL26 hE109.size
        have hS114 : SH w108 w.heap.size [aOwn fInt 2 a106 c107 ([st23.1, st23.2.1, (wI64 ((wI64 (st23.2.2.1 - st23.1)) + 1)), (wI64 ((wI64 (st23.2.2.2.1 - st23.2.1)) + 1))] : List Int)] := SH.add hS27 hE109 hL26 hR110
        refine WL.runk 2 [4, 5] [(4, .slice a106 (([st23.1, st23.2.1, (wI64 ((wI64 (st23.2.2.1 - st23.1)) + 1)), (wI64 ((wI64 (st23.2.2.2.1 - st23.2.1)) + 1))] : List Int).length) c107), (5, .int .i64 0)] (by kernel_rfl) ?_
        refine WL.nil ?_
        refine WQ.then_normal (hK105 _ _ _ ?_)
        refine WP.ret ?_
        obtain rfl := Option.some.inj hm
        exact WQ.ret2 _ _ rfl rfl rfl ⟨_, _, rfl, hb112, hS114⟩

theorem c_39 (n : Nat) (rows_0 : List (List UInt8)) (a0' : Option Addr) (c0' : Nat) (least_1 : Int) (w : World) {r : List Int × Int} (hm : m_impl_PatchFor n rows_0 least_1 = some r) (h0 : Rd fStr.ty w a0' rows_0) (hle0 : rows_0.length ≤ c0') :
    CallV Try.prog 39 #[.slice a0' rows_0.length c0', .int .i64 least_1] w (fun v w' => ∃ (ra0 : Option Addr) (rc0 : Nat), v = .tuple #[.slice ra0 r.1.length rc0, .int .i64 r.2] ∧ Ext w w' ∧ SH w' w.heap.size [aOwn fInt 2 ra0 rc0 r.1]) := by
  unfold m_impl_PatchFor at hm
  refine CallV.enter Try.func39 rfl (by kernel_rfl) Try.ntmps39 (env := [(0, .slice a0' rows_0.length c0'), (1, .int .i64 least_1)]) ⟨rfl, rfl, trivial⟩ ?_
  refine WP.seq (fun K1 hK1 => ?_)
  refine WP.region ?_
  refine WL.runk 2 [0, 1] [(0, .slice a0' rows_0.length c0'), (1, .int .i64 least_1)] (by kernel_rfl) ?_
  refine WL.nil ?_
  refine WQ.then_normal (hK1 _ _ _ ?_)
  refine WP.seq (fun K2 hK2 => ?_)
  refine WP.seq (fun K3 hK3 => ?_)
  refine WP.region ?_
  refine WL.runk 2 [0, 1, 16, 17] [(0, .slice a0' rows_0.length c0'), (1, .int .i64 least_1), (16, .slice a0' rows_0.length c0'), (17, .int .i64 least_1)] (by kernel_rfl) ?_
  obtain ⟨x4, hx5, hm⟩ := bindE hm
  refine WL.call 53 #[.slice a0' rows_0.length c0', .int .i64 least_1] rfl rfl (by kernel_rfl) (c_53 n rows_0 a0' c0' least_1 w hx5 (Rd.below h0 (Ext.refl w)) hle0) ?_
  rintro _ w6 ⟨rfl, hE7⟩
  refine ⟨_, rfl, ?_⟩
  have hb9 : Ext w w6 := Ext.trans (Ext.refl w) hE7
  have hL10 : w.heap.size ≤ w6.heap.size := Nat.le_trans (Nat.le_refl _) hE7.size
  have hS11 : SH w6 w.heap.size [] := SH.ext (SH.nil _ _) hE7
  refine WL.runk 1 [0, 1, 6] [(0, .slice a0' rows_0.length c0'), (1, .int .i64 least_1), (6, .int .i64 x4)] (by kernel_rfl) ?_
  refine WL.nil ?_
  refine WQ.then_normal (hK3 _ _ _ ?_)
  refine WP.seq (fun K12 hK12 => ?_)
  refine WP.region ?_
  refine WL.runk 2 [0, 1, 6, 20] [(0, .slice a0' rows_0.length c0'), (1, .int .i64 least_1), (6, .int .i64 x4), (20, .bool (x4 != 0))] (by kernel_rfl) ?_
  refine WL.nil ?_
  refine WQ.then_normal (hK12 _ _ _ ?_)
  refine WP.cond (x4 != 0) rfl rfl (fun hc13 => ?_) (fun hc13 => ?_)
  · have hm := iteT hm hc13
    refine WP.seq (fun K14 hK14 => ?_)
    refine WP.region ?_
    refine WL.runk 3 [4, 5] [(4, .slice none 0 0), (5, .int .i64 x4)] (by kernel_rfl) ?_
    refine WL.nil ?_
    refine WQ.then_normal (hK14 _ _ _ ?_)
    refine WP.ret ?_
    refine WQ.then_ret ?_
    obtain rfl := Option.some.inj hm
    have hS16 : SH w6 w.heap.size [aOwn fInt 2 none 0 ([] : List Int)] := SH.nilOwn hS11
    exact WQ.ret2 _ _ rfl rfl rfl ⟨_, _, rfl, hb9, hS16⟩
  · have hm := iteF hm hc13
    refine WP.skip ?_
    refine WQ.then_normal (hK2 _ _ _ ?_)
    refine WP.seq (fun K17 hK17 => ?_)
    refine WP.region ?_
    refine WL.runk 1 [0, 1, 22] [(0, .slice a0' rows_0.length c0'), (1, .int .i64 least_1), (22, .slice a0' rows_0.length c0')] (by kernel_rfl) ?_
    obtain ⟨x18, hx19, hm⟩ := bindE hm
    refine WL.st (.pointer (some (at_ a0' (Int.toNat 0 * 1)))) (ST.index (T := fStr.ty) (xs := rows_0) (Rd.below h0 hb9) hx19 rfl rfl rfl Try.underlying22 (info9).1 (info9).2.1) rfl rfl rfl ?_
    refine WL.st (.string (bs x18)) (ST.load (cell_ext (Rd.flat (F := fStr) (Rd.below h0 hb9) hx19 0 rfl)) rfl rfl Try.underlying9 rfl) rfl rfl rfl ?_
    refine WL.runk 2 [0, 1, 7] [(0, .slice a0' rows_0.length c0'), (1, .int .i64 least_1), (7, .int .i64 (x18.length : Int))] (by kernel_rfl) ?_
    refine WL.nil ?_
    refine WQ.then_normal (hK17 _ _ _ ?_)
    refine WP.seq (fun K20 hK20 => ?_)
    refine WP.region ?_
    refine WL.runk 7 [0, 1, 7, 8, 9, 10, 11] [(0, .slice a0' rows_0.length c0'), (1, .int .i64 least_1), (7, .int .i64 (x18.length : Int)), (8, .int .i64 (rows_0.length : Int)), (9, .int .i64 (x18.length : Int)), (10, .int .i64 (-1)), (11, .int .i64 (-1))] (by kernel_rfl) ?_
    refine WL.nil ?_
    refine WQ.then_normal (hK20 _ _ _ ?_)
    refine WP.seq (fun K21 hK21 => ?_)
    refine WP.seq (fun K22 hK22 => ?_)
    refine WP.region ?_
    refine WL.runk 1 [1, 7, 8, 9, 10, 11, 29] [(1, .int .i64 least_1), (7, .int .i64 (x18.length : Int)), (8, .int .i64 (rows_0.length : Int)), (9, .int .i64 (x18.length : Int)), (10, .int .i64 (-1)), (11, .int .i64 (-1)), (29, .slice a0' rows_0.length c0')] (by kernel_rfl) ?_
    obtain ⟨x23, hx24, hm⟩ := bindE hm
    refine WL.call 54 #[.slice a0' rows_0.length c0'] rfl rfl (by kernel_rfl) (c_54 n rows_0 a0' c0' w6 hx24 (Rd.below h0 hb9) hle0) ?_
    rintro _ w28 ⟨a25, c26, rfl, hE29, hR30⟩
    refine ⟨_, rfl, ?_⟩
    have hb31 : Ext w w28 := Ext.trans hb9 hE29
    have hL32 : w.heap.size ≤ w28.heap.size := Nat.le_trans hL10 hE29.size
    have hS33 : SH w28 w.heap.size [aOwn fInt 2 a25 c26 x23] := SH.add hS11 hE29 hL10 hR30
    refine WL.runk 2 [1, 7, 8, 9, 10, 11, 30, 31, 32] [(1, .int .i64 least_1), (7, .int .i64 (x18.length : Int)), (8, .int .i64 (rows_0.length : Int)), (9, .int .i64 (x18.length : Int)), (10, .int .i64 (-1)), (11, .int .i64 (-1)), (30, .slice a25 x23.length c26), (31, .int .i64 (x23.length : Int)), (32, .int .i64 0)] (by kernel_rfl) ?_
    refine WL.nil ?_
    refine WQ.then_normal (hK22 _ _ _ ?_)
    refine WP.block ?_
    obtain ⟨t45, ht46, hm⟩ := bindE hm
    have hmo40 := hm; clear hm
    refine WP.sub [(1, .int .i64 least_1), (7, .int .i64 (x18.length : Int)), (8, .int .i64 (rows_0.length : Int)), (9, .int .i64 (x18.length : Int)), (10, .int .i64 (-1)), (11, .int .i64 (-1)), (30, .slice a25 x23.length c26), (31, .int .i64 (x23.length : Int)), (32, .int .i64 0)] ⟨rfl, rfl, rfl, rfl, rfl, rfl, rfl, rfl, rfl, trivial⟩ ?_
    refine WP.loop (fun n' env' w' => ∃ (st34 : Int × Int × Int × Int × Int) , env' = [(1, .int .i64 least_1), (7, .int .i64 (x18.length : Int)), (8, .int .i64 st34.1), (9, .int .i64 st34.2.1), (10, .int .i64 st34.2.2.1), (11, .int .i64 st34.2.2.2.1), (30, .slice a25 x23.length c26), (31, .int .i64 (x23.length : Int)), (32, .int .i64 st34.2.2.2.2)] ∧ Ext w w' ∧ w.heap.size ≤ w'.heap.size ∧ SH w' w.heap.size [aOwn fInt 2 a25 c26 x23] ∧ loopN (m_impl_PatchFor_l1 n least_1 x18 x23) n' st34 = some t45) n ⟨((rows_0.length : Int), (x18.length : Int), (-1), (-1), 0), rfl, hb31, hL32, hS33, ht46⟩ ?_
    rintro n42 _ w35 ⟨st34, rfl, hb36, hL37, hS38, hl39⟩ K41 hK41
    obtain ⟨n43, s44, rfl, hm, hl39⟩ := loopN_some hl39
    unfold m_impl_PatchFor_l1 at hm
    refine WP.seq (fun K47 hK47 => ?_)
    refine WP.region ?_
    refine WL.runk 1 [1, 7, 8, 9, 10, 11, 30, 31, 32, 33] [(1, .int .i64 least_1), (7, .int .i64 (x18.length : Int)), (8, .int .i64 st34.1), (9, .int .i64 st34.2.1), (10, .int .i64 st34.2.2.1), (11, .int .i64 st34.2.2.2.1), (30, .slice a25 x23.length c26), (31, .int .i64 (x23.length : Int)), (32, .int .i64 st34.2.2.2.2), (33, .bool (decide (st34.2.2.2.2 < (x23.length : Int))))] (by kernel_rfl) ?_
    refine WL.nil ?_
    refine WQ.then_normal (hK47 _ _ _ ?_)
    refine WP.seq (fun K48 hK48 => ?_)
    refine WP.cond (decide (st34.2.2.2.2 < (x23.length : Int))) rfl rfl (fun hc49 => ?_) (fun hc49 => ?_)
    · have hm := iteT hm hc49
      refine WP.skip ?_
      refine WQ.then_normal (hK48 _ _ _ ?_)
      refine WP.seq (fun K50 hK50 => ?_)
      refine WP.block ?_
      refine WP.seq (fun K51 hK51 => ?_)
      refine WP.region ?_
      refine WL.runk 1 [1, 7, 8, 9, 10, 11, 30, 31, 32, 34] [(1, .int .i64 least_1), (7, .int .i64 (x18.length : Int)), (8, .int .i64 st34.1), (9, .int .i64 st34.2.1), (10, .int .i64 st34.2.2.1), (11, .int .i64 st34.2.2.2.1), (30, .slice a25 x23.length c26), (31, .int .i64 (x23.length : Int)), (32, .int .i64 st34.2.2.2.2), (34, .int .i64 st34.2.2.2.2)] (by kernel_rfl) ?_
      obtain ⟨x52, hx53, hm⟩ := bindE hm
      refine WL.st (.pointer (some (at_ a25 (Int.toNat st34.2.2.2.2 * 1)))) (ST.index (T := fInt.ty) (xs := x23) (SH.rd (SH.front 0 hS38)) hx53 rfl rfl rfl Try.underlying40 (info2).1 (info2).2.1) rfl rfl rfl ?_
      refine WL.st (.int .i64 x52) (ST.load (cell_ext (Rd.flat (F := fInt) (SH.rd (SH.front 0 hS38)) hx53 0 rfl)) rfl rfl Try.underlying2 rfl) rfl rfl rfl ?_
      refine WL.runk 2 [1, 7, 8, 9, 10, 11, 12, 13, 30, 31, 32] [(1, .int .i64 least_1), (7, .int .i64 (x18.length : Int)), (8, .int .i64 st34.1), (9, .int .i64 st34.2.1), (10, .int .i64 st34.2.2.1), (11, .int .i64 st34.2.2.2.1), (30, .slice a25 x23.length c26), (31, .int .i64 (x23.length : Int)), (32, .int .i64 st34.2.2.2.2), (12, .int .i64 st34.2.2.2.2), (13, .int .i64 x52)] (by kernel_rfl) ?_
      refine WL.nil ?_
      refine WQ.then_normal (hK51 _ _ _ ?_)
      refine WP.seq (fun K54 hK54 => ?_)
      refine WP.region ?_
      refine WL.runk 3 [1, 7, 8, 9, 10, 11, 12, 30, 31, 32, 39] [(1, .int .i64 least_1), (7, .int .i64 (x18.length : Int)), (8, .int .i64 st34.1), (9, .int .i64 st34.2.1), (10, .int .i64 st34.2.2.1), (11, .int .i64 st34.2.2.2.1), (30, .slice a25 x23.length c26), (31, .int .i64 (x23.length : Int)), (32, .int .i64 st34.2.2.2.2), (12, .int .i64 st34.2.2.2.2), (39, .bool (decide (x52 ≥ least_1)))] (by kernel_rfl) ?_
      refine WL.nil ?_
      refine WQ.then_normal (hK54 _ _ _ ?_)
      obtain ⟨x66, hx67, hm⟩ := bindE hm
      refine WP.cut (fun env' w' => env' = [(1, .int .i64 least_1), (7, .int .i64 (x18.length : Int)), (8, .int .i64 x66.1), (9, .int .i64 x66.2.1), (10, .int .i64 x66.2.2.1), (11, .int .i64 x66.2.2.2), (30, .slice a25 x23.length c26), (31, .int .i64 (x23.length : Int)), (32, .int .i64 st34.2.2.2.2)] ∧ Ext w w' ∧ w.heap.size ≤ w'.heap.size ∧ SH w' w.heap.size [aOwn fInt 2 a25 c26 x23]) ?_ ?_
      · have hm := hx67; clear hx67
        refine WP.cond (decide (x52 ≥ least_1)) rfl rfl (fun hc55 => ?_) (fun hc55 => ?_)
        · have hm := iteT hm hc55
          refine WP.seq (fun K68 hK68 => ?_)
          refine WP.quiet (by kernel_rfl) (by kernel_rfl) ?_
          refine QL.step1 rfl (env' := [(1, .int .i64 least_1), (7, .int .i64 (x18.length : Int)), (8, .int .i64 st34.1), (9, .int .i64 st34.2.1), (10, .int .i64 st34.2.2.1), (11, .int .i64 st34.2.2.2.1), (30, .slice a25 x23.length c26), (31, .int .i64 (x23.length : Int)), (32, .int .i64 st34.2.2.2.2), (12, .int .i64 st34.2.2.2.2), (39, .bool (decide (x52 ≥ least_1))), (40, .int .i64 st34.2.2.2.2)]) (fun _ => by kernel_rfl) ?_
          refine QL.sub [(1, .int .i64 least_1), (7, .int .i64 (x18.length : Int)), (8, .int .i64 st34.1), (9, .int .i64 st34.2.1), (10, .int .i64 st34.2.2.1), (11, .int .i64 st34.2.2.2.1), (30, .slice a25 x23.length c26), (31, .int .i64 (x23.length : Int)), (32, .int .i64 st34.2.2.2.2), (12, .int .i64 st34.2.2.2.2), (40, .int .i64 st34.2.2.2.2)] ⟨rfl, rfl, rfl, rfl, rfl, rfl, rfl, rfl, rfl, rfl, rfl, trivial⟩ ?_
          refine QL.step1 rfl (env' := [(1, .int .i64 least_1), (7, .int .i64 (x18.length : Int)), (8, .int .i64 st34.1), (9, .int .i64 st34.2.1), (10, .int .i64 st34.2.2.1), (11, .int .i64 st34.2.2.2.1), (30, .slice a25 x23.length c26), (31, .int .i64 (x23.length : Int)), (32, .int .i64 st34.2.2.2.2), (12, .int .i64 st34.2.2.2.2), (40, .int .i64 st34.2.2.2.2), (41, .int .i64 (x18.length : Int))]) (fun _ => by kernel_rfl) ?_
          obtain ⟨x69, hx70, hm⟩ := bindE hm
          refine QL.st (.int .i64 x69) (ST.quo (k := .i64) hx70 rfl rfl rfl) rfl rfl rfl ?_
          refine QL.step1 rfl (env' := [(1, .int .i64 least_1), (7, .int .i64 (x18.length : Int)), (8, .int .i64 st34.1), (9, .int .i64 st34.2.1), (10, .int .i64 st34.2.2.1), (11, .int .i64 st34.2.2.2.1), (30, .slice a25 x23.length c26), (31, .int .i64 (x23.length : Int)), (32, .int .i64 st34.2.2.2.2), (12, .int .i64 st34.2.2.2.2), (40, .int .i64 st34.2.2.2.2), (41, .int .i64 (x18.length : Int)), (42, .int .i64 x69), (43, .int .i64 st34.2.2.2.2)]) (fun _ => by kernel_rfl) ?_
          refine QL.sub [(1, .int .i64 least_1), (7, .int .i64 (x18.length : Int)), (8, .int .i64 st34.1), (9, .int .i64 st34.2.1), (10, .int .i64 st34.2.2.1), (11, .int .i64 st34.2.2.2.1), (30, .slice a25 x23.length c26), (31, .int .i64 (x23.length : Int)), (32, .int .i64 st34.2.2.2.2), (42, .int .i64 x69), (43, .int .i64 st34.2.2.2.2)] ⟨rfl, rfl, rfl, rfl, rfl, rfl, rfl, rfl, rfl, rfl, rfl, trivial⟩ ?_
          refine QL.step1 rfl (env' := [(1, .int .i64 least_1), (7, .int .i64 (x18.length : Int)), (8, .int .i64 st34.1), (9, .int .i64 st34.2.1), (10, .int .i64 st34.2.2.1), (11, .int .i64 st34.2.2.2.1), (30, .slice a25 x23.length c26), (31, .int .i64 (x23.length : Int)), (32, .int .i64 st34.2.2.2.2), (42, .int .i64 x69), (43, .int .i64 st34.2.2.2.2), (44, .int .i64 (x18.length : Int))]) (fun _ => by kernel_rfl) ?_
          obtain ⟨x71, hx72, hm⟩ := bindE hm
          refine QL.st (.int .i64 x71) (ST.rem (k := .i64) hx72 rfl rfl rfl) rfl rfl rfl ?_
          refine QL.step1 rfl (env' := [(1, .int .i64 least_1), (7, .int .i64 (x18.length : Int)), (8, .int .i64 st34.1), (9, .int .i64 st34.2.1), (10, .int .i64 st34.2.2.1), (11, .int .i64 st34.2.2.2.1), (30, .slice a25 x23.length c26), (31, .int .i64 (x23.length : Int)), (32, .int .i64 st34.2.2.2.2), (42, .int .i64 x69), (43, .int .i64 st34.2.2.2.2), (44, .int .i64 (x18.length : Int)), (45, .int .i64 x71), (14, .int .i64 x69)]) (fun _ => by kernel_rfl) ?_
          refine QL.sub [(1, .int .i64 least_1), (7, .int .i64 (x18.length : Int)), (8, .int .i64 st34.1), (9, .int .i64 st34.2.1), (10, .int .i64 st34.2.2.1), (11, .int .i64 st34.2.2.2.1), (30, .slice a25 x23.length c26), (31, .int .i64 (x23.length : Int)), (32, .int .i64 st34.2.2.2.2), (45, .int .i64 x71), (14, .int .i64 x69)] ⟨rfl, rfl, rfl, rfl, rfl, rfl, rfl, rfl, rfl, rfl, rfl, trivial⟩ ?_
          refine QL.step1 rfl (env' := [(1, .int .i64 least_1), (7, .int .i64 (x18.length : Int)), (8, .int .i64 st34.1), (9, .int .i64 st34.2.1), (10, .int .i64 st34.2.2.1), (11, .int .i64 st34.2.2.2.1), (30, .slice a25 x23.length c26), (31, .int .i64 (x23.length : Int)), (32, .int .i64 st34.2.2.2.2), (45, .int .i64 x71), (14, .int .i64 x69), (15, .int .i64 x71)]) (fun _ => by kernel_rfl) ?_
          refine QL.sub [(1, .int .i64 least_1), (7, .int .i64 (x18.length : Int)), (8, .int .i64 st34.1), (9, .int .i64 st34.2.1), (10, .int .i64 st34.2.2.1), (11, .int .i64 st34.2.2.2.1), (30, .slice a25 x23.length c26), (31, .int .i64 (x23.length : Int)), (32, .int .i64 st34.2.2.2.2), (14, .int .i64 x69), (15, .int .i64 x71)] ⟨rfl, rfl, rfl, rfl, rfl, rfl, rfl, rfl, rfl, rfl, rfl, trivial⟩ ?_
          refine QL.sub [(1, .int .i64 least_1), (7, .int .i64 (x18.length : Int)), (8, .int .i64 st34.1), (9, .int .i64 st34.2.1), (10, .int .i64 st34.2.2.1), (11, .int .i64 st34.2.2.2.1), (30, .slice a25 x23.length c26), (31, .int .i64 (x23.length : Int)), (32, .int .i64 st34.2.2.2.2), (14, .int .i64 x69), (15, .int .i64 x71)] ⟨rfl, rfl, rfl, rfl, rfl, rfl, rfl, rfl, rfl, rfl, rfl, trivial⟩ ?_
          refine QL.nil ?_
          intro w73 hE74
          have hb75 : Ext w w73 := Ext.trans hb36 hE74
          have hL76 : w.heap.size ≤ w73.heap.size := Nat.le_trans hL37 hE74.size
          have hS77 : SH w73 w.heap.size [aOwn fInt 2 a25 c26 x23] := SH.ext hS38 hE74
          refine WQ.then_normal (hK68 _ _ _ ?_)
          refine WP.region ?_
          refine WL.runk 16 [1, 7, 8, 9, 10, 11, 30, 31, 32] [(1, .int .i64 least_1), (7, .int .i64 (x18.length : Int)), (8, .int .i64 (imin st34.1 x69)), (9, .int .i64 (imin st34.2.1 x71)), (10, .int .i64 (imax st34.2.2.1 x69)), (11, .int .i64 (imax st34.2.2.2.1 x71)), (30, .slice a25 x23.length c26), (31, .int .i64 (x23.length : Int)), (32, .int .i64 st34.2.2.2.2)] (by kernel_rfl) ?_
          refine WL.nil ?_
          obtain rfl := Option.some.inj hm
          exact WQ.post' ⟨rfl, hb75, hL76, hS77⟩ ⟨rfl, rfl, rfl, rfl, rfl, rfl, rfl, rfl, rfl, trivial⟩
        · have hm := iteF hm hc55
          refine WP.skip ?_
          obtain rfl := Option.some.inj hm
          exact WQ.post' ⟨rfl, hb36, hL37, hS38⟩ ⟨rfl, rfl, rfl, rfl, rfl, rfl, rfl, rfl, rfl, trivial⟩
      · clear hx67
        rintro _ w78 ⟨rfl, hb79, hL80, hS81⟩
        refine WQ.block_normal ?_
        refine WQ.then_normal (hK50 _ _ _ ?_)
        refine WP.region ?_
        refine WL.runk 2 [1, 7, 8, 9, 10, 11, 30, 31, 32] [(1, .int .i64 least_1), (7, .int .i64 (x18.length : Int)), (8, .int .i64 x66.1), (9, .int .i64 x66.2.1), (10, .int .i64 x66.2.2.1), (11, .int .i64 x66.2.2.2), (30, .slice a25 x23.length c26), (31, .int .i64 (x23.length : Int)), (32, .int .i64 (wI64 (st34.2.2.2.2 + 1)))] (by kernel_rfl) ?_
        refine WL.nil ?_
        obtain rfl := Option.some.inj hm
        exact WQ.round hK41 ⟨(x66.1, x66.2.1, x66.2.2.1, x66.2.2.2, (wI64 (st34.2.2.2.2 + 1))), rfl, hb79, hL80, hS81, hl39⟩ (Nat.lt_succ_self _) ⟨rfl, rfl, rfl, rfl, rfl, rfl, rfl, rfl, rfl, trivial⟩
    · have hm := iteF hm hc49
      refine WP.exit ?_
      refine WQ.then_exit ?_
      refine WQ.then_exit ?_
      refine WQ.block_here ?_
      obtain rfl := Option.some.inj hm
      obtain rfl := afterN_done hl39
      have hm := hmo40
      refine WQ.then_normal (hK21 _ _ _ ?_)
      refine WP.seq (fun K82 hK82 => ?_)
      refine WP.seq (fun K83 hK83 => ?_)
      refine WP.region ?_
      refine WL.runk 2 [8, 9, 10, 11, 60] [(8, .int .i64 st34.1), (9, .int .i64 st34.2.1), (10, .int .i64 st34.2.2.1), (11, .int .i64 st34.2.2.2.1), (60, .bool (decide (st34.2.2.1 < 0)))] (by kernel_rfl) ?_
      refine WL.nil ?_
      refine WQ.then_normal (hK83 _ _ _ ?_)
      refine WP.cond (decide (st34.2.2.1 < 0)) rfl rfl (fun hc84 => ?_) (fun hc84 => ?_)
      · have hm := iteT hm hc84
        refine WP.seq (fun K85 hK85 => ?_)
        refine WP.region ?_
        refine WL.runk 2 [4, 5] [(4, .slice none 0 0), (5, .int .i64 3)] (by kernel_rfl) ?_
        refine WL.nil ?_
        refine WQ.then_normal (hK85 _ _ _ ?_)
        refine WP.ret ?_
        refine WQ.then_ret ?_
        obtain rfl := Option.some.inj hm
        have hS87 : SH w35 w.heap.size [aOwn fInt 2 none 0 ([] : List Int), aOwn fInt 2 a25 c26 x23] := SH.nilOwn hS38
        exact WQ.ret2 _ _ rfl rfl rfl ⟨_, _, rfl, hb36, (SH.take 1 hS87)⟩
      · have hm := iteF hm hc84
        refine WP.skip ?_
        refine WQ.then_normal (hK82 _ _ _ ?_)
        refine WP.seq (fun K88 hK88 => ?_)
        refine WP.region ?_
        refine WL.runk 10 [61, 62, 66, 70] [(61, .int .i64 st34.1), (62, .int .i64 st34.2.1), (66, .int .i64 (wI64 ((wI64 (st34.2.2.1 - st34.1)) + 1))), (70, .int .i64 (wI64 ((wI64 (st34.2.2.2.1 - st34.2.1)) + 1)))] (by kernel_rfl) ?_
        refine WL.row fInt 2 ([st34.1, st34.2.1, (wI64 ((wI64 (st34.2.2.1 - st34.1)) + 1)), (wI64 ((wI64 (st34.2.2.2.1 - st34.2.1)) + 1))] : List Int) 4 #[.int .i64 st34.1, .int .i64 st34.2.1, .int .i64 (wI64 ((wI64 (st34.2.2.1 - st34.1)) + 1)), .int .i64 (wI64 ((wI64 (st34.2.2.2.1 - st34.2.1)) + 1))] 71 (by kernel_rfl) rfl rfl rfl rfl rfl rfl rfl ?_
        intro a89 c90 w91 hE92 hR93
        have hb95 : Ext w w91 := Ext.trans hb36 hE92
        have hL96 : w.heap.size ≤ w91.heap.size := Nat.le_trans hL37 hE92.size
        have hS97 : SH w91 w.heap.size [aOwn fInt 2 a89 c90 ([st34.1, st34.2.1, (wI64 ((wI64 (st34.2.2.1 - st34.1)) + 1)), (wI64 ((wI64 (st34.2.2.2.1 - st34.2.1)) + 1))] : List Int), aOwn fInt 2 a25 c26 x23] := SH.add hS38 hE92 hL37 hR93
        refine WL.runk 2 [4, 5] [(4, .slice a89 (([st34.1, st34.2.1, (wI64 ((wI64 (st34.2.2.1 - st34.1)) + 1)), (wI64 ((wI64 (st34.2.2.2.1 - st34.2.1)) + 1))] : List Int).length) c90), (5, .int .i64 0)] (by kernel_rfl) ?_
        refine WL.nil ?_
        refine WQ.then_normal (hK88 _ _ _ ?_)
        refine WP.ret ?_
        obtain rfl := Option.some.inj hm
        exact WQ.ret2 _ _ rfl rfl rfl ⟨_, _, rfl, hb95, (SH.take 1 hS97)⟩

theorem c_10 (n : Nat) (aRows_0 : List (List UInt8)) (a0' : Option Addr) (c0' : Nat) (aLeast_1 : Int) (w : World) {r : Bool} (hm : m_laws_FnExactPatchFor n aRows_0 aLeast_1 = some r) (h0 : Rd fStr.ty w a0' aRows_0) (hle0 : aRows_0.length ≤ c0') :
    CallV Try.prog 10 #[.slice a0' aRows_0.length c0', .int .i64 aLeast_1] w (fun v w' => v = .bool r ∧ Ext w w') := by
  unfold m_laws_FnExactPatchFor at hm
  refine CallV.enter Try.func10 rfl (by kernel_rfl) Try.ntmps10 (env := [(0, .slice a0' aRows_0.length c0'), (1, .int .i64 aLeast_1)]) ⟨rfl, rfl, trivial⟩ ?_
  refine WP.seq (fun K1 hK1 => ?_)
  refine WP.region ?_
  refine WL.runk 1 [0, 1] [(0, .slice a0' aRows_0.length c0'), (1, .int .i64 aLeast_1)] (by kernel_rfl) ?_
  refine WL.nil ?_
  refine WQ.then_normal (hK1 _ _ _ ?_)
  refine WP.seq (fun K2 hK2 => ?_)
  refine WP.region ?_
  refine WL.runk 1 [0, 1, 5] [(0, .slice a0' aRows_0.length c0'), (1, .int .i64 aLeast_1), (5, .int .i64 1048576)] (by kernel_rfl) ?_
  refine WL.nil ?_
  refine WQ.then_normal (hK2 _ _ _ ?_)
  refine WP.seq (fun K3 hK3 => ?_)
  refine WP.region ?_
  refine WL.runk 2 [0, 1, 16, 17] [(0, .slice a0' aRows_0.length c0'), (1, .int .i64 aLeast_1), (16, .slice a0' aRows_0.length c0'), (17, .int .i64 1048576)] (by kernel_rfl) ?_
  obtain ⟨x4, hx5, hm⟩ := bindE hm
  refine WL.call 15 #[.slice a0' aRows_0.length c0', .int .i64 1048576] rfl rfl (by kernel_rfl) (c_15 n aRows_0 a0' c0' 1048576 w hx5 (Rd.below h0 (Ext.refl w)) hle0) ?_
  rintro _ w6 ⟨rfl, hE7⟩
  refine ⟨_, rfl, ?_⟩
  have hb9 : Ext w w6 := Ext.trans (Ext.refl w) hE7
  have hL10 : w.heap.size ≤ w6.heap.size := Nat.le_trans (Nat.le_refl _) hE7.size
  have hS11 : SH w6 w.heap.size [] := SH.ext (SH.nil _ _) hE7
  refine WL.runk 1 [0, 1, 5] [(0, .slice a0' aRows_0.length c0'), (1, .int .i64 aLeast_1), (5, .int .i64 x4)] (by kernel_rfl) ?_
  refine WL.nil ?_
  refine WQ.then_normal (hK3 _ _ _ ?_)
  refine WP.seq (fun K12 hK12 => ?_)
  refine WP.seq (fun K13 hK13 => ?_)
  refine WP.region ?_
  refine WL.runk 2 [0, 1, 20] [(0, .slice a0' aRows_0.length c0'), (1, .int .i64 aLeast_1), (20, .bool (decide (x4 < 0)))] (by kernel_rfl) ?_
  refine WL.nil ?_
  refine WQ.then_normal (hK13 _ _ _ ?_)
  refine WP.cond (decide (x4 < 0)) rfl rfl (fun hc14 => ?_) (fun hc14 => ?_)
  · have hm := iteT hm hc14
    refine WP.seq (fun K15 hK15 => ?_)
    refine WP.region ?_
    refine WL.runk 1 [4] [(4, .bool true)] (by kernel_rfl) ?_
    refine WL.nil ?_
    refine WQ.then_normal (hK15 _ _ _ ?_)
    refine WP.ret ?_
    refine WQ.then_ret ?_
    obtain rfl := Option.some.inj hm
    exact WQ.ret1 _ rfl rfl ⟨rfl, hb9⟩
  · have hm := iteF hm hc14
    refine WP.skip ?_
    refine WQ.then_normal (hK12 _ _ _ ?_)
    refine WP.seq (fun K16 hK16 => ?_)
    refine WP.region ?_
    refine WL.runk 1 [0, 1, 22] [(0, .slice a0' aRows_0.length c0'), (1, .int .i64 aLeast_1), (22, .slice a0' aRows_0.length c0')] (by kernel_rfl) ?_
    obtain ⟨x17, hx18, hm⟩ := bindE hm
    refine WL.call 17 #[.slice a0' aRows_0.length c0'] rfl rfl (by kernel_rfl) (c_17 n aRows_0 a0' c0' w6 hx18 (Rd.below h0 hb9) hle0) ?_
    rintro _ w22 ⟨a19, c20, rfl, hE23, hR24⟩
    refine ⟨_, rfl, ?_⟩
    have hb25 : Ext w w22 := Ext.trans hb9 hE23
    have hL26 : w.heap.size ≤ w22.heap.size := Nat.le_trans hL10 hE23.size
    have hS27 : SH w22 w.heap.size [aOwn fStr 9 a19 c20 x17] := SH.add hS11 hE23 hL10 hR24
    refine WL.runk 1 [0, 1, 23, 24] [(0, .slice a0' aRows_0.length c0'), (1, .int .i64 aLeast_1), (23, .slice a19 x17.length c20), (24, .int .i64 aLeast_1)] (by kernel_rfl) ?_
    obtain ⟨x28, hx29, hm⟩ := bindE hm
    refine WL.call 38 #[.slice a19 x17.length c20, .int .i64 aLeast_1] rfl rfl (by kernel_rfl) (c_38 n x17 a19 c20 aLeast_1 w22 hx29 (SH.rd (SH.front 0 hS27)) (SH.le (SH.front 0 hS27)).1) ?_
    rintro _ w33 ⟨a30, c31, rfl, hE34, hR35⟩
    refine ⟨_, rfl, ?_⟩
    have hb36 : Ext w w33 := Ext.trans hb25 hE34
    have hL37 : w.heap.size ≤ w33.heap.size := Nat.le_trans hL26 hE34.size
    have hS38 : SH w33 w.heap.size [aOwn fInt 2 a30 c31 x28.1, aOwn fStr 9 a19 c20 x17] := SH.add hS27 hE34 hL26 hR35
    refine WL.runk 5 [0, 1, 6, 7] [(0, .slice a0' aRows_0.length c0'), (1, .int .i64 aLeast_1), (6, .slice a30 x28.1.length c31), (7, .int .i64 x28.2)] (by kernel_rfl) ?_
    refine WL.nil ?_
    refine WQ.then_normal (hK16 _ _ _ ?_)
    refine WP.seq (fun K39 hK39 => ?_)
    refine WP.region ?_
    refine WL.runk 1 [0, 1, 6, 7, 28] [(0, .slice a0' aRows_0.length c0'), (1, .int .i64 aLeast_1), (6, .slice a30 x28.1.length c31), (7, .int .i64 x28.2), (28, .slice a0' aRows_0.length c0')] (by kernel_rfl) ?_
    obtain ⟨x40, hx41, hm⟩ := bindE hm
    refine WL.call 17 #[.slice a0' aRows_0.length c0'] rfl rfl (by kernel_rfl) (c_17 n aRows_0 a0' c0' w33 hx41 (Rd.below h0 hb36) hle0) ?_
    rintro _ w45 ⟨a42, c43, rfl, hE46, hR47⟩
    refine ⟨_, rfl, ?_⟩
    have hb48 : Ext w w45 := Ext.trans hb36 hE46
    have hL49 : w.heap.size ≤ w45.heap.size := Nat.le_trans hL37 hE46.size
    have hS50 : SH w45 w.heap.size [aOwn fStr 9 a42 c43 x40, aOwn fInt 2 a30 c31 x28.1, aOwn fStr 9 a19 c20 x17] := SH.add hS38 hE46 hL37 hR47
    refine WL.runk 1 [0, 1, 6, 7, 8] [(0, .slice a0' aRows_0.length c0'), (1, .int .i64 aLeast_1), (6, .slice a30 x28.1.length c31), (7, .int .i64 x28.2), (8, .slice a42 x40.length c43)] (by kernel_rfl) ?_
    refine WL.nil ?_
    refine WQ.then_normal (hK39 _ _ _ ?_)
    refine WP.seq (fun K51 hK51 => ?_)
    refine WP.region ?_
    refine WL.runk 2 [0, 1, 6, 7, 8, 31, 32] [(0, .slice a0' aRows_0.length c0'), (1, .int .i64 aLeast_1), (6, .slice a30 x28.1.length c31), (7, .int .i64 x28.2), (8, .slice a42 x40.length c43), (31, .slice a42 x40.length c43), (32, .int .i64 aLeast_1)] (by kernel_rfl) ?_
    obtain ⟨x52, hx53, hm⟩ := bindE hm
    refine WL.call 39 #[.slice a42 x40.length c43, .int .i64 aLeast_1] rfl rfl (by kernel_rfl) (c_39 n x40 a42 c43 aLeast_1 w45 hx53 (SH.rd (SH.front 0 hS50)) (SH.le (SH.front 0 hS50)).1) ?_
    rintro _ w57 ⟨a54, c55, rfl, hE58, hR59⟩
    refine ⟨_, rfl, ?_⟩
    have hb60 : Ext w w57 := Ext.trans hb48 hE58
    have hL61 : w.heap.size ≤ w57.heap.size := Nat.le_trans hL49 hE58.size
    have hS62 : SH w57 w.heap.size [aOwn fInt 2 a54 c55 x52.1, aOwn fStr 9 a42 c43 x40, aOwn fInt 2 a30 c31 x28.1, aOwn fStr 9 a19 c20 x17] := SH.add hS50 hE58 hL49 hR59
    refine WL.runk 5 [0, 1, 6, 7, 8, 9, 10] [(0, .slice a0' aRows_0.length c0'), (1, .int .i64 aLeast_1), (6, .slice a30 x28.1.length c31), (7, .int .i64 x28.2), (8, .slice a42 x40.length c43), (9, .slice a54 x52.1.length c55), (10, .int .i64 x52.2)] (by kernel_rfl) ?_
    refine WL.nil ?_
    refine WQ.then_normal (hK51 _ _ _ ?_)
    refine WP.seq (fun K63 hK63 => ?_)
    refine WP.seq (fun K64 hK64 => ?_)
    obtain ⟨x74, hx75, hm⟩ := bindE hm
    refine WP.cut (fun env' w' => env' = [(0, .slice a0' aRows_0.length c0'), (1, .int .i64 aLeast_1), (6, .slice a30 x28.1.length c31), (7, .int .i64 x28.2), (8, .slice a42 x40.length c43), (9, .slice a54 x52.1.length c55), (10, .int .i64 x52.2), (44, .bool x74)] ∧ Ext w w' ∧ w.heap.size ≤ w'.heap.size ∧ SH w' w.heap.size [aOwn fInt 2 a54 c55 x52.1, aOwn fStr 9 a42 c43 x40, aOwn fInt 2 a30 c31 x28.1, aOwn fStr 9 a19 c20 x17]) ?_ ?_
    · have hm := hx75; clear hx75
      refine WP.region ?_
      refine WL.runk 2 [0, 1, 6, 7, 8, 9, 10, 36, 37] [(0, .slice a0' aRows_0.length c0'), (1, .int .i64 aLeast_1), (6, .slice a30 x28.1.length c31), (7, .int .i64 x28.2), (8, .slice a42 x40.length c43), (9, .slice a54 x52.1.length c55), (10, .int .i64 x52.2), (36, .slice a54 x52.1.length c55), (37, .slice a30 x28.1.length c31)] (by kernel_rfl) ?_
      obtain ⟨x76, hx77, hm⟩ := bindE hm
      refine WL.call 35 #[.slice a54 x52.1.length c55, .slice a30 x28.1.length c31] rfl rfl (by kernel_rfl) (c_35 n x52.1 a54 c55 x28.1 a30 c31 w57 hx77 (SH.rd (SH.front 0 hS62)) (SH.le (SH.front 0 hS62)).1 (SH.rd (SH.front 2 hS62)) (SH.le (SH.front 2 hS62)).1) ?_
      rintro _ w78 ⟨rfl, hE79⟩
      refine ⟨_, rfl, ?_⟩
      have hb81 : Ext w w78 := Ext.trans hb60 hE79
      have hL82 : w.heap.size ≤ w78.heap.size := Nat.le_trans hL61 hE79.size
      have hS83 : SH w78 w.heap.size [aOwn fInt 2 a54 c55 x52.1, aOwn fStr 9 a42 c43 x40, aOwn fInt 2 a30 c31 x28.1, aOwn fStr 9 a19 c20 x17] := SH.ext hS62 hE79
      refine WL.runk 2 [0, 1, 6, 7, 8, 9, 10, 40] [(0, .slice a0' aRows_0.length c0'), (1, .int .i64 aLeast_1), (6, .slice a30 x28.1.length c31), (7, .int .i64 x28.2), (8, .slice a42 x40.length c43), (9, .slice a54 x52.1.length c55), (10, .int .i64 x52.2), (40, .bool (!x76))] (by kernel_rfl) ?_
      refine WL.case (!x76) [40] ⟨rfl, trivial⟩ (fun hc84 => ?_) (fun hc84 => ?_)
      · have hm := iteT hm hc84
        refine WL.runk 4 [0, 1, 6, 7, 8, 9, 10, 44] [(0, .slice a0' aRows_0.length c0'), (1, .int .i64 aLeast_1), (6, .slice a30 x28.1.length c31), (7, .int .i64 x28.2), (8, .slice a42 x40.length c43), (9, .slice a54 x52.1.length c55), (10, .int .i64 x52.2), (44, .bool true)] (by kernel_rfl) ?_
        refine WL.nil ?_
        obtain rfl := Option.some.inj hm
        exact WQ.post' ⟨rfl, hb81, hL82, hS83⟩ ⟨rfl, rfl, rfl, rfl, rfl, rfl, rfl, rfl, trivial⟩
      · have hm := iteF hm hc84
        refine WL.runk 4 [0, 1, 6, 7, 8, 9, 10, 44] [(0, .slice a0' aRows_0.length c0'), (1, .int .i64 aLeast_1), (6, .slice a30 x28.1.length c31), (7, .int .i64 x28.2), (8, .slice a42 x40.length c43), (9, .slice a54 x52.1.length c55), (10, .int .i64 x52.2), (44, .bool (x52.2 != x28.2))] (by kernel_rfl) ?_
        refine WL.nil ?_
        obtain rfl := Option.some.inj hm
        exact WQ.post' ⟨rfl, hb81, hL82, hS83⟩ ⟨rfl, rfl, rfl, rfl, rfl, rfl, rfl, rfl, trivial⟩
    · clear hx75
      rintro _ w85 ⟨rfl, hb86, hL87, hS88⟩
      refine WQ.then_normal (hK64 _ _ _ ?_)
      refine WP.cond x74 rfl rfl (fun hc89 => ?_) (fun hc89 => ?_)
      · have hm := iteT hm hc89
        refine WP.seq (fun K90 hK90 => ?_)
        refine WP.region ?_
        refine WL.runk 1 [4] [(4, .bool false)] (by kernel_rfl) ?_
        refine WL.nil ?_
        refine WQ.then_normal (hK90 _ _ _ ?_)
        refine WP.ret ?_
        refine WQ.then_ret ?_
        obtain rfl := Option.some.inj hm
        exact WQ.ret1 _ rfl rfl ⟨rfl, hb86⟩
      · have hm := iteF hm hc89
        refine WP.skip ?_
        refine WQ.then_normal (hK63 _ _ _ ?_)
        refine WP.seq (fun K91 hK91 => ?_)
        refine WP.seq (fun K92 hK92 => ?_)
        refine WP.region ?_
        refine WL.runk 2 [0, 1, 6, 7, 8, 9, 10, 45, 46] [(0, .slice a0' aRows_0.length c0'), (1, .int .i64 aLeast_1), (6, .slice a30 x28.1.length c31), (7, .int .i64 x28.2), (8, .slice a42 x40.length c43), (9, .slice a54 x52.1.length c55), (10, .int .i64 x52.2), (45, .slice a42 x40.length c43), (46, .slice a0' aRows_0.length c0')] (by kernel_rfl) ?_
        obtain ⟨x93, hx94, hm⟩ := bindE hm
        refine WL.call 17 #[.slice a0' aRows_0.length c0'] rfl rfl (by kernel_rfl) (c_17 n aRows_0 a0' c0' w85 hx94 (Rd.below h0 hb86) hle0) ?_
        rintro _ w98 ⟨a95, c96, rfl, hE99, hR100⟩
        refine ⟨_, rfl, ?_⟩
        have hb101 : Ext w w98 := Ext.trans hb86 hE99
        have hL102 : w.heap.size ≤ w98.heap.size := Nat.le_trans hL87 hE99.size
        have hS103 : SH w98 w.heap.size [aOwn fStr 9 a95 c96 x93, aOwn fInt 2 a54 c55 x52.1, aOwn fStr 9 a42 c43 x40, aOwn fInt 2 a30 c31 x28.1, aOwn fStr 9 a19 c20 x17] := SH.add hS88 hE99 hL87 hR100
        obtain ⟨x104, hx105, hm⟩ := bindE hm
        refine WL.call 19 #[.slice a42 x40.length c43, .slice a95 x93.length c96] rfl rfl (by kernel_rfl) (c_19 n x40 a42 c43 x93 a95 c96 w98 hx105 (SH.rd (SH.front 2 hS103)) (SH.le (SH.front 2 hS103)).1 (SH.rd (SH.front 0 hS103)) (SH.le (SH.front 0 hS103)).1) ?_
        rintro _ w106 ⟨rfl, hE107⟩
        refine ⟨_, rfl, ?_⟩
        have hb109 : Ext w w106 := Ext.trans hb101 hE107
        have hL110 : w.heap.size ≤ w106.heap.size := Nat.le_trans hL102 hE107.size
        have hS111 : SH w106 w.heap.size [aOwn fStr 9 a95 c96 x93, aOwn fInt 2 a54 c55 x52.1, aOwn fStr 9 a42 c43 x40, aOwn fInt 2 a30 c31 x28.1, aOwn fStr 9 a19 c20 x17] := SH.ext hS103 hE107
        refine WL.runk 1 [0, 1, 6, 7, 8, 9, 10, 49] [(0, .slice a0' aRows_0.length c0'), (1, .int .i64 aLeast_1), (6, .slice a30 x28.1.length c31), (7, .int .i64 x28.2), (8, .slice a42 x40.length c43), (9, .slice a54 x52.1.length c55), (10, .int .i64 x52.2), (49, .bool (!x104))] (by kernel_rfl) ?_
        refine WL.nil ?_
        refine WQ.then_normal (hK92 _ _ _ ?_)
        refine WP.cond (!x104) rfl rfl (fun hc112 => ?_) (fun hc112 => ?_)
        · have hm := iteT hm hc112
          refine WP.seq (fun K113 hK113 => ?_)
          refine WP.region ?_
          refine WL.runk 1 [4] [(4, .bool false)] (by kernel_rfl) ?_
          refine WL.nil ?_
          refine WQ.then_normal (hK113 _ _ _ ?_)
          refine WP.ret ?_
          refine WQ.then_ret ?_
          obtain rfl := Option.some.inj hm
          exact WQ.ret1 _ rfl rfl ⟨rfl, hb109⟩
        · have hm := iteF hm hc112
          refine WP.skip ?_
          refine WQ.then_normal (hK91 _ _ _ ?_)
          refine WP.seq (fun K114 hK114 => ?_)
          refine WP.region ?_
          refine WL.runk 1 [0, 1, 6, 7, 8, 9, 10, 11] [(0, .slice a0' aRows_0.length c0'), (1, .int .i64 aLeast_1), (6, .slice a30 x28.1.length c31), (7, .int .i64 x28.2), (8, .slice a42 x40.length c43), (9, .slice a54 x52.1.length c55), (10, .int .i64 x52.2), (11, .int .i64 1)] (by kernel_rfl) ?_
          refine WL.nil ?_
          refine WQ.then_normal (hK114 _ _ _ ?_)
          refine WP.seq (fun K115 hK115 => ?_)
          refine WP.region ?_
          refine WL.runk 2 [0, 1, 6, 7, 9, 10, 50, 51] [(0, .slice a0' aRows_0.length c0'), (1, .int .i64 aLeast_1), (6, .slice a30 x28.1.length c31), (7, .int .i64 x28.2), (9, .slice a54 x52.1.length c55), (10, .int .i64 x52.2), (50, .slice a42 x40.length c43), (51, .int .i64 1)] (by kernel_rfl) ?_
          obtain ⟨x116, hx117, hm⟩ := bindE hm
          refine WL.call 24 #[.slice a42 x40.length c43, .int .i64 1] rfl rfl (by kernel_rfl) (c_24 n x40 a42 c43 1 w106 w w.heap.size [aOwn fStr 9 a95 c96 x93, aOwn fInt 2 a54 c55 x52.1, aOwn fInt 2 a30 c31 x28.1, aOwn fStr 9 a19 c20 x17] hx117 hb109 (Nat.le_refl _) hL110  (SH.front 4 (SH.front 3 (SH.front 3 (SH.front 4 (SH.front 4 hS111)))))) ?_
          rintro _ w118 ⟨rfl, hB122, hS121, hlen123⟩
          refine ⟨_, rfl, ?_⟩
          have hb124 : Ext w w118 := Below.trans hb109 hB122
          have hL125 : w.heap.size ≤ w118.heap.size := Nat.le_trans hL110 hB122.size
          refine WL.sub [(0, .slice a0' aRows_0.length c0'), (1, .int .i64 aLeast_1), (6, .slice a30 x28.1.length c31), (7, .int .i64 x28.2), (9, .slice a54 x52.1.length c55), (10, .int .i64 x52.2), (50, .slice a42 x116.2.length c43), (51, .int .i64 1), (52, .int .i64 x116.1)] ⟨rfl, rfl, rfl, rfl, rfl, rfl, by rw [hlen123]; rfl, rfl, rfl, trivial⟩ ?_
          refine WL.runk 1 [0, 1, 6, 7, 9, 10, 11] [(0, .slice a0' aRows_0.length c0'), (1, .int .i64 aLeast_1), (6, .slice a30 x28.1.length c31), (7, .int .i64 x28.2), (9, .slice a54 x52.1.length c55), (10, .int .i64 x52.2), (11, .int .i64 x116.1)] (by kernel_rfl) ?_
          refine WL.nil ?_
          refine WQ.then_normal (hK115 _ _ _ ?_)
          refine WP.seq (fun K126 hK126 => ?_)
          refine WP.seq (fun K127 hK127 => ?_)
          obtain ⟨x138, hx139, hm⟩ := bindE hm
          refine WP.cut (fun env' w' => env' = [(0, .slice a0' aRows_0.length c0'), (1, .int .i64 aLeast_1), (6, .slice a30 x28.1.length c31), (7, .int .i64 x28.2), (9, .slice a54 x52.1.length c55), (65, .bool x138)] ∧ Ext w w' ∧ w.heap.size ≤ w'.heap.size ∧ SH w' w.heap.size [aOwn fStr 9 a42 c43 x116.2, aOwn fStr 9 a95 c96 x93, aOwn fInt 2 a54 c55 x52.1, aOwn fInt 2 a30 c31 x28.1, aOwn fStr 9 a19 c20 x17]) ?_ ?_
          · have hm := hx139; clear hx139
            refine WP.region ?_
            refine WL.runk 3 [0, 1, 6, 7, 9, 10, 55] [(0, .slice a0' aRows_0.length c0'), (1, .int .i64 aLeast_1), (6, .slice a30 x28.1.length c31), (7, .int .i64 x28.2), (9, .slice a54 x52.1.length c55), (10, .int .i64 x52.2), (55, .bool (decide (x116.1 < 0)))] (by kernel_rfl) ?_
            refine WL.case (decide (x116.1 < 0)) [55] ⟨rfl, trivial⟩ (fun hc140 => ?_) (fun hc140 => ?_)
            · have hm := iteT hm hc140
              refine WL.runk 10 [0, 1, 6, 7, 9, 65] [(0, .slice a0' aRows_0.length c0'), (1, .int .i64 aLeast_1), (6, .slice a30 x28.1.length c31), (7, .int .i64 x28.2), (9, .slice a54 x52.1.length c55), (65, .bool true)] (by kernel_rfl) ?_
              refine WL.nil ?_
              obtain rfl := Option.some.inj hm
              exact WQ.post' ⟨rfl, hb124, hL125, hS121⟩ ⟨rfl, rfl, rfl, rfl, rfl, rfl, trivial⟩
            · have hm := iteF hm hc140
              refine WL.runk 2 [0, 1, 6, 7, 9, 10, 55, 56, 57] [(0, .slice a0' aRows_0.length c0'), (1, .int .i64 aLeast_1), (6, .slice a30 x28.1.length c31), (7, .int .i64 x28.2), (9, .slice a54 x52.1.length c55), (10, .int .i64 x52.2), (55, .bool false), (56, .slice a54 x52.1.length c55), (57, .slice a30 x28.1.length c31)] (by kernel_rfl) ?_
              obtain ⟨x141, hx142, hm⟩ := bindE hm
              refine WL.call 35 #[.slice a54 x52.1.length c55, .slice a30 x28.1.length c31] rfl rfl (by kernel_rfl) (c_35 n x52.1 a54 c55 x28.1 a30 c31 w118 hx142 (SH.rd (SH.front 2 hS121)) (SH.le (SH.front 2 hS121)).1 (SH.rd (SH.front 3 hS121)) (SH.le (SH.front 3 hS121)).1) ?_
              rintro _ w143 ⟨rfl, hE144⟩
              refine ⟨_, rfl, ?_⟩
              have hb146 : Ext w w143 := Ext.trans hb124 hE144
              have hL147 : w.heap.size ≤ w143.heap.size := Nat.le_trans hL125 hE144.size
              have hS148 : SH w143 w.heap.size [aOwn fStr 9 a42 c43 x116.2, aOwn fStr 9 a95 c96 x93, aOwn fInt 2 a54 c55 x52.1, aOwn fInt 2 a30 c31 x28.1, aOwn fStr 9 a19 c20 x17] := SH.ext hS121 hE144
              refine WL.runk 3 [0, 1, 6, 7, 9, 10, 61] [(0, .slice a0' aRows_0.length c0'), (1, .int .i64 aLeast_1), (6, .slice a30 x28.1.length c31), (7, .int .i64 x28.2), (9, .slice a54 x52.1.length c55), (10, .int .i64 x52.2), (61, .bool (!x141))] (by kernel_rfl) ?_
              refine WL.case (!x141) [61] ⟨rfl, trivial⟩ (fun hc149 => ?_) (fun hc149 => ?_)
              · have hm := iteT hm hc149
                refine WL.runk 4 [0, 1, 6, 7, 9, 65] [(0, .slice a0' aRows_0.length c0'), (1, .int .i64 aLeast_1), (6, .slice a30 x28.1.length c31), (7, .int .i64 x28.2), (9, .slice a54 x52.1.length c55), (65, .bool true)] (by kernel_rfl) ?_
                refine WL.nil ?_
                obtain rfl := Option.some.inj hm
                exact WQ.post' ⟨rfl, hb146, hL147, hS148⟩ ⟨rfl, rfl, rfl, rfl, rfl, rfl, trivial⟩
              · have hm := iteF hm hc149
                refine WL.runk 4 [0, 1, 6, 7, 9, 65] [(0, .slice a0' aRows_0.length c0'), (1, .int .i64 aLeast_1), (6, .slice a30 x28.1.length c31), (7, .int .i64 x28.2), (9, .slice a54 x52.1.length c55), (65, .bool (x52.2 != x28.2))] (by kernel_rfl) ?_
                refine WL.nil ?_
                obtain rfl := Option.some.inj hm
                exact WQ.post' ⟨rfl, hb146, hL147, hS148⟩ ⟨rfl, rfl, rfl, rfl, rfl, rfl, trivial⟩
          · clear hx139
            rintro _ w150 ⟨rfl, hb151, hL152, hS153⟩
            refine WQ.then_normal (hK127 _ _ _ ?_)
            refine WP.cond x138 rfl rfl (fun hc154 => ?_) (fun hc154 => ?_)
            · have hm := iteT hm hc154
              refine WP.seq (fun K155 hK155 => ?_)
              refine WP.region ?_
              refine WL.runk 1 [4] [(4, .bool false)] (by kernel_rfl) ?_
              refine WL.nil ?_
              refine WQ.then_normal (hK155 _ _ _ ?_)
              refine WP.ret ?_
              refine WQ.then_ret ?_
              obtain rfl := Option.some.inj hm
              exact WQ.ret1 _ rfl rfl ⟨rfl, hb151⟩
            · have hm := iteF hm hc154
              refine WP.skip ?_
              refine WQ.then_normal (hK126 _ _ _ ?_)
              refine WP.seq (fun K156 hK156 => ?_)
              refine WP.region ?_
              refine WL.runk 1 [0, 1, 6, 7, 9, 12] [(0, .slice a0' aRows_0.length c0'), (1, .int .i64 aLeast_1), (6, .slice a30 x28.1.length c31), (7, .int .i64 x28.2), (9, .slice a54 x52.1.length c55), (12, .int .i64 1)] (by kernel_rfl) ?_
              refine WL.nil ?_
              refine WQ.then_normal (hK156 _ _ _ ?_)
              refine WP.seq (fun K157 hK157 => ?_)
              refine WP.region ?_
              refine WL.runk 2 [0, 1, 6, 7, 9, 66, 67] [(0, .slice a0' aRows_0.length c0'), (1, .int .i64 aLeast_1), (6, .slice a30 x28.1.length c31), (7, .int .i64 x28.2), (9, .slice a54 x52.1.length c55), (66, .slice a54 x52.1.length c55), (67, .int .i64 1)] (by kernel_rfl) ?_
              obtain ⟨x158, hx159, hm⟩ := bindE hm
              refine WL.call 36 #[.slice a54 x52.1.length c55, .int .i64 1] rfl rfl (by kernel_rfl) (c_36 n x52.1 a54 c55 1 w150 w w.heap.size [aOwn fStr 9 a42 c43 x116.2, aOwn fStr 9 a95 c96 x93, aOwn fInt 2 a30 c31 x28.1, aOwn fStr 9 a19 c20 x17] hx159 hb151 (Nat.le_refl _) hL152  (SH.front 4 (SH.front 3 (SH.front 3 (SH.front 4 (SH.front 4 hS153)))))) ?_
              rintro _ w160 ⟨rfl, hB164, hS163, hlen165⟩
              refine ⟨_, rfl, ?_⟩
              have hb166 : Ext w w160 := Below.trans hb151 hB164
              have hL167 : w.heap.size ≤ w160.heap.size := Nat.le_trans hL152 hB164.size
              refine WL.sub [(0, .slice a0' aRows_0.length c0'), (1, .int .i64 aLeast_1), (6, .slice a30 x28.1.length c31), (7, .int .i64 x28.2), (9, .slice a54 x158.2.length c55), (66, .slice a54 x158.2.length c55), (67, .int .i64 1), (68, .int .i64 x158.1)] ⟨rfl, rfl, rfl, rfl, by rw [hlen165]; rfl, by rw [hlen165]; rfl, rfl, rfl, trivial⟩ ?_
              refine WL.runk 1 [0, 1, 6, 7, 9, 12] [(0, .slice a0' aRows_0.length c0'), (1, .int .i64 aLeast_1), (6, .slice a30 x28.1.length c31), (7, .int .i64 x28.2), (9, .slice a54 x158.2.length c55), (12, .int .i64 x158.1)] (by kernel_rfl) ?_
              refine WL.nil ?_
              refine WQ.then_normal (hK157 _ _ _ ?_)
              refine WP.seq (fun K168 hK168 => ?_)
              refine WP.region ?_
              refine WL.runk 1 [0, 1, 6, 7, 9, 12, 13] [(0, .slice a0' aRows_0.length c0'), (1, .int .i64 aLeast_1), (6, .slice a30 x28.1.length c31), (7, .int .i64 x28.2), (9, .slice a54 x158.2.length c55), (12, .int .i64 x158.1), (13, .int .i64 1)] (by kernel_rfl) ?_
              refine WL.nil ?_
              refine WQ.then_normal (hK168 _ _ _ ?_)
              refine WP.seq (fun K169 hK169 => ?_)
              refine WP.region ?_
              refine WL.runk 2 [0, 1, 6, 7, 9, 12, 69, 70] [(0, .slice a0' aRows_0.length c0'), (1, .int .i64 aLeast_1), (6, .slice a30 x28.1.length c31), (7, .int .i64 x28.2), (9, .slice a54 x158.2.length c55), (12, .int .i64 x158.1), (69, .slice a54 x158.2.length c55), (70, .int .i64 1)] (by kernel_rfl) ?_
              obtain ⟨x170, hx171, hm⟩ := bindE hm
              refine WL.call 37 #[.slice a54 x158.2.length c55, .int .i64 1] rfl rfl (by kernel_rfl) (c_37 n x158.2 a54 c55 1 w160 hx171 (SH.rd (SH.front 0 hS163)) (SH.le (SH.front 0 hS163)).1) ?_
              rintro _ w172 ⟨rfl, hE173⟩
              refine ⟨_, rfl, ?_⟩
              have hb175 : Ext w w172 := Ext.trans hb166 hE173
              have hL176 : w.heap.size ≤ w172.heap.size := Nat.le_trans hL167 hE173.size
              have hS177 : SH w172 w.heap.size [aOwn fInt 2 a54 c55 x158.2, aOwn fStr 9 a42 c43 x116.2, aOwn fStr 9 a95 c96 x93, aOwn fInt 2 a30 c31 x28.1, aOwn fStr 9 a19 c20 x17] := SH.ext hS163 hE173
              refine WL.runk 1 [0, 1, 6, 7, 9, 12, 13] [(0, .slice a0' aRows_0.length c0'), (1, .int .i64 aLeast_1), (6, .slice a30 x28.1.length c31), (7, .int .i64 x28.2), (9, .slice a54 x158.2.length c55), (12, .int .i64 x158.1), (13, .int .i64 x170)] (by kernel_rfl) ?_
              refine WL.nil ?_
              refine WQ.then_normal (hK169 _ _ _ ?_)
              refine WP.seq (fun K178 hK178 => ?_)
              refine WP.seq (fun K179 hK179 => ?_)
              refine WP.region ?_
              refine WL.runk 2 [0, 1, 6, 7, 9, 12, 13, 73] [(0, .slice a0' aRows_0.length c0'), (1, .int .i64 aLeast_1), (6, .slice a30 x28.1.length c31), (7, .int .i64 x28.2), (9, .slice a54 x158.2.length c55), (12, .int .i64 x158.1), (13, .int .i64 x170), (73, .bool (decide (x170 < 0)))] (by kernel_rfl) ?_
              refine WL.nil ?_
              refine WQ.then_normal (hK179 _ _ _ ?_)
              refine WP.cond (decide (x170 < 0)) rfl rfl (fun hc180 => ?_) (fun hc180 => ?_)
              · have hm := iteT hm hc180
                refine WP.seq (fun K181 hK181 => ?_)
                refine WP.region ?_
                refine WL.runk 1 [4] [(4, .bool false)] (by kernel_rfl) ?_
                refine WL.nil ?_
                refine WQ.then_normal (hK181 _ _ _ ?_)
                refine WP.ret ?_
                refine WQ.then_ret ?_
                obtain rfl := Option.some.inj hm
                exact WQ.ret1 _ rfl rfl ⟨rfl, hb175⟩
              · have hm := iteF hm hc180
                refine WP.skip ?_
                refine WQ.then_normal (hK178 _ _ _ ?_)
                refine WP.seq (fun K182 hK182 => ?_)
                refine WP.seq (fun K183 hK183 => ?_)
                refine WP.region ?_
                refine WL.runk 3 [0, 1, 6, 7, 9, 12, 76] [(0, .slice a0' aRows_0.length c0'), (1, .int .i64 aLeast_1), (6, .slice a30 x28.1.length c31), (7, .int .i64 x28.2), (9, .slice a54 x158.2.length c55), (12, .int .i64 x158.1), (76, .bool (x170 != x158.1))] (by kernel_rfl) ?_
                refine WL.nil ?_
                refine WQ.then_normal (hK183 _ _ _ ?_)
                refine WP.cond (x170 != x158.1) rfl rfl (fun hc184 => ?_) (fun hc184 => ?_)
                · have hm := iteT hm hc184
                  refine WP.seq (fun K185 hK185 => ?_)
                  refine WP.region ?_
                  refine WL.runk 1 [4] [(4, .bool false)] (by kernel_rfl) ?_
                  refine WL.nil ?_
                  refine WQ.then_normal (hK185 _ _ _ ?_)
                  refine WP.ret ?_
                  refine WQ.then_ret ?_
                  obtain rfl := Option.some.inj hm
                  exact WQ.ret1 _ rfl rfl ⟨rfl, hb175⟩
                · have hm := iteF hm hc184
                  refine WP.skip ?_
                  refine WQ.then_normal (hK182 _ _ _ ?_)
                  refine WP.seq (fun K186 hK186 => ?_)
                  refine WP.region ?_
                  refine WL.runk 1 [1, 6, 7, 9, 12, 78] [(1, .int .i64 aLeast_1), (6, .slice a30 x28.1.length c31), (7, .int .i64 x28.2), (9, .slice a54 x158.2.length c55), (12, .int .i64 x158.1), (78, .slice a0' aRows_0.length c0')] (by kernel_rfl) ?_
                  obtain ⟨x187, hx188, hm⟩ := bindE hm
                  refine WL.call 17 #[.slice a0' aRows_0.length c0'] rfl rfl (by kernel_rfl) (c_17 n aRows_0 a0' c0' w172 hx188 (Rd.below h0 hb175) hle0) ?_
                  rintro _ w192 ⟨a189, c190, rfl, hE193, hR194⟩
                  refine ⟨_, rfl, ?_⟩
                  have hb195 : Ext w w192 := Ext.trans hb175 hE193
                  have hL196 : w.heap.size ≤ w192.heap.size := Nat.le_trans hL176 hE193.size
                  have hS197 : SH w192 w.heap.size [aOwn fStr 9 a189 c190 x187, aOwn fInt 2 a54 c55 x158.2, aOwn fStr 9 a42 c43 x116.2, aOwn fStr 9 a95 c96 x93, aOwn fInt 2 a30 c31 x28.1, aOwn fStr 9 a19 c20 x17] := SH.add hS177 hE193 hL176 hR194
                  refine WL.runk 1 [6, 7, 9, 12, 79, 80] [(6, .slice a30 x28.1.length c31), (7, .int .i64 x28.2), (9, .slice a54 x158.2.length c55), (12, .int .i64 x158.1), (79, .slice a189 x187.length c190), (80, .int .i64 aLeast_1)] (by kernel_rfl) ?_
                  obtain ⟨x198, hx199, hm⟩ := bindE hm
                  refine WL.call 39 #[.slice a189 x187.length c190, .int .i64 aLeast_1] rfl rfl (by kernel_rfl) (c_39 n x187 a189 c190 aLeast_1 w192 hx199 (SH.rd (SH.front 0 hS197)) (SH.le (SH.front 0 hS197)).1) ?_
                  rintro _ w203 ⟨a200, c201, rfl, hE204, hR205⟩
                  refine ⟨_, rfl, ?_⟩
                  have hb206 : Ext w w203 := Ext.trans hb195 hE204
                  have hL207 : w.heap.size ≤ w203.heap.size := Nat.le_trans hL196 hE204.size
                  have hS208 : SH w203 w.heap.size [aOwn fInt 2 a200 c201 x198.1, aOwn fStr 9 a189 c190 x187, aOwn fInt 2 a54 c55 x158.2, aOwn fStr 9 a42 c43 x116.2, aOwn fStr 9 a95 c96 x93, aOwn fInt 2 a30 c31 x28.1, aOwn fStr 9 a19 c20 x17] := SH.add hS197 hE204 hL196 hR205
                  refine WL.runk 5 [6, 7, 9, 12, 14, 15] [(6, .slice a30 x28.1.length c31), (7, .int .i64 x28.2), (9, .slice a54 x158.2.length c55), (12, .int .i64 x158.1), (14, .slice a200 x198.1.length c201), (15, .int .i64 x198.2)] (by kernel_rfl) ?_
                  refine WL.nil ?_
                  refine WQ.then_normal (hK186 _ _ _ ?_)
                  refine WP.seq (fun K209 hK209 => ?_)
                  refine WP.seq (fun K210 hK210 => ?_)
                  obtain ⟨x220, hx221, hm⟩ := bindE hm
                  refine WP.cut (fun env' w' => env' = [(9, .slice a54 x158.2.length c55), (12, .int .i64 x158.1), (92, .bool x220)] ∧ Ext w w' ∧ w.heap.size ≤ w'.heap.size ∧ SH w' w.heap.size [aOwn fInt 2 a200 c201 x198.1, aOwn fStr 9 a189 c190 x187, aOwn fInt 2 a54 c55 x158.2, aOwn fStr 9 a42 c43 x116.2, aOwn fStr 9 a95 c96 x93, aOwn fInt 2 a30 c31 x28.1, aOwn fStr 9 a19 c20 x17]) ?_ ?_
                  · have hm := hx221; clear hx221
                    refine WP.region ?_
                    refine WL.runk 2 [7, 9, 12, 15, 84, 85] [(7, .int .i64 x28.2), (9, .slice a54 x158.2.length c55), (12, .int .i64 x158.1), (15, .int .i64 x198.2), (84, .slice a200 x198.1.length c201), (85, .slice a30 x28.1.length c31)] (by kernel_rfl) ?_
                    obtain ⟨x222, hx223, hm⟩ := bindE hm
                    refine WL.call 35 #[.slice a200 x198.1.length c201, .slice a30 x28.1.length c31] rfl rfl (by kernel_rfl) (c_35 n x198.1 a200 c201 x28.1 a30 c31 w203 hx223 (SH.rd (SH.front 0 hS208)) (SH.le (SH.front 0 hS208)).1 (SH.rd (SH.front 5 hS208)) (SH.le (SH.front 5 hS208)).1) ?_
                    rintro _ w224 ⟨rfl, hE225⟩
                    refine ⟨_, rfl, ?_⟩
                    have hb227 : Ext w w224 := Ext.trans hb206 hE225
                    have hL228 : w.heap.size ≤ w224.heap.size := Nat.le_trans hL207 hE225.size
                    have hS229 : SH w224 w.heap.size [aOwn fInt 2 a200 c201 x198.1, aOwn fStr 9 a189 c190 x187, aOwn fInt 2 a54 c55 x158.2, aOwn fStr 9 a42 c43 x116.2, aOwn fStr 9 a95 c96 x93, aOwn fInt 2 a30 c31 x28.1, aOwn fStr 9 a19 c20 x17] := SH.ext hS208 hE225
                    refine WL.runk 2 [7, 9, 12, 15, 88] [(7, .int .i64 x28.2), (9, .slice a54 x158.2.length c55), (12, .int .i64 x158.1), (15, .int .i64 x198.2), (88, .bool (!x222))] (by kernel_rfl) ?_
                    refine WL.case (!x222) [88] ⟨rfl, trivial⟩ (fun hc230 => ?_) (fun hc230 => ?_)
                    · have hm := iteT hm hc230
                      refine WL.runk 4 [9, 12, 92] [(9, .slice a54 x158.2.length c55), (12, .int .i64 x158.1), (92, .bool true)] (by kernel_rfl) ?_
                      refine WL.nil ?_
                      obtain rfl := Option.some.inj hm
                      exact WQ.post' ⟨rfl, hb227, hL228, hS229⟩ ⟨rfl, rfl, rfl, trivial⟩
                    · have hm := iteF hm hc230
                      refine WL.runk 4 [9, 12, 92] [(9, .slice a54 x158.2.length c55), (12, .int .i64 x158.1), (92, .bool (x198.2 != x28.2))] (by kernel_rfl) ?_
                      refine WL.nil ?_
                      obtain rfl := Option.some.inj hm
                      exact WQ.post' ⟨rfl, hb227, hL228, hS229⟩ ⟨rfl, rfl, rfl, trivial⟩
                  · clear hx221
                    rintro _ w231 ⟨rfl, hb232, hL233, hS234⟩
                    refine WQ.then_normal (hK210 _ _ _ ?_)
                    refine WP.cond x220 rfl rfl (fun hc235 => ?_) (fun hc235 => ?_)
                    · have hm := iteT hm hc235
                      refine WP.seq (fun K236 hK236 => ?_)
                      refine WP.region ?_
                      refine WL.runk 1 [4] [(4, .bool false)] (by kernel_rfl) ?_
                      refine WL.nil ?_
                      refine WQ.then_normal (hK236 _ _ _ ?_)
                      refine WP.ret ?_
                      refine WQ.then_ret ?_
                      obtain rfl := Option.some.inj hm
                      exact WQ.ret1 _ rfl rfl ⟨rfl, hb232⟩
                    · have hm := iteF hm hc235
                      refine WP.skip ?_
                      refine WQ.then_normal (hK209 _ _ _ ?_)
                      refine WP.seq (fun K237 hK237 => ?_)
                      refine WP.region ?_
                      refine WL.runk 1 [9, 12, 13] [(9, .slice a54 x158.2.length c55), (12, .int .i64 x158.1), (13, .int .i64 1)] (by kernel_rfl) ?_
                      refine WL.nil ?_
                      refine WQ.then_normal (hK237 _ _ _ ?_)
                      refine WP.seq (fun K238 hK238 => ?_)
                      refine WP.region ?_
                      refine WL.runk 2 [12, 93, 94] [(12, .int .i64 x158.1), (93, .slice a54 x158.2.length c55), (94, .int .i64 1)] (by kernel_rfl) ?_
                      obtain ⟨x239, hx240, hm⟩ := bindE hm
                      refine WL.call 37 #[.slice a54 x158.2.length c55, .int .i64 1] rfl rfl (by kernel_rfl) (c_37 n x158.2 a54 c55 1 w231 hx240 (SH.rd (SH.front 2 hS234)) (SH.le (SH.front 2 hS234)).1) ?_
                      rintro _ w241 ⟨rfl, hE242⟩
                      refine ⟨_, rfl, ?_⟩
                      have hb244 : Ext w w241 := Ext.trans hb232 hE242
                      have hL245 : w.heap.size ≤ w241.heap.size := Nat.le_trans hL233 hE242.size
                      have hS246 : SH w241 w.heap.size [aOwn fInt 2 a200 c201 x198.1, aOwn fStr 9 a189 c190 x187, aOwn fInt 2 a54 c55 x158.2, aOwn fStr 9 a42 c43 x116.2, aOwn fStr 9 a95 c96 x93, aOwn fInt 2 a30 c31 x28.1, aOwn fStr 9 a19 c20 x17] := SH.ext hS234 hE242
                      refine WL.runk 1 [12, 13] [(12, .int .i64 x158.1), (13, .int .i64 x239)] (by kernel_rfl) ?_
                      refine WL.nil ?_
                      refine WQ.then_normal (hK238 _ _ _ ?_)
                      refine WP.seq (fun K247 hK247 => ?_)
                      refine WP.seq (fun K248 hK248 => ?_)
                      refine WP.region ?_
                      refine WL.runk 2 [12, 13, 97] [(12, .int .i64 x158.1), (13, .int .i64 x239), (97, .bool (decide (x239 < 0)))] (by kernel_rfl) ?_
                      refine WL.nil ?_
                      refine WQ.then_normal (hK248 _ _ _ ?_)
                      refine WP.cond (decide (x239 < 0)) rfl rfl (fun hc249 => ?_) (fun hc249 => ?_)
                      · have hm := iteT hm hc249
                        refine WP.seq (fun K250 hK250 => ?_)
                        refine WP.region ?_
                        refine WL.runk 1 [4] [(4, .bool false)] (by kernel_rfl) ?_
                        refine WL.nil ?_
                        refine WQ.then_normal (hK250 _ _ _ ?_)
                        refine WP.ret ?_
                        refine WQ.then_ret ?_
                        obtain rfl := Option.some.inj hm
                        exact WQ.ret1 _ rfl rfl ⟨rfl, hb244⟩
                      · have hm := iteF hm hc249
                        refine WP.skip ?_
                        refine WQ.then_normal (hK247 _ _ _ ?_)
                        refine WP.seq (fun K251 hK251 => ?_)
                        refine WP.seq (fun K252 hK252 => ?_)
                        refine WP.region ?_
                        refine WL.runk 3 [100] [(100, .bool (x239 != x158.1))] (by kernel_rfl) ?_
                        refine WL.nil ?_
                        refine WQ.then_normal (hK252 _ _ _ ?_)
                        refine WP.cond (x239 != x158.1) rfl rfl (fun hc253 => ?_) (fun hc253 => ?_)
                        · have hm := iteT hm hc253
                          refine WP.seq (fun K254 hK254 => ?_)
                          refine WP.region ?_
                          refine WL.runk 1 [4] [(4, .bool false)] (by kernel_rfl) ?_
                          refine WL.nil ?_
                          refine WQ.then_normal (hK254 _ _ _ ?_)
                          refine WP.ret ?_
                          refine WQ.then_ret ?_
                          obtain rfl := Option.some.inj hm
                          exact WQ.ret1 _ rfl rfl ⟨rfl, hb244⟩
                        · have hm := iteF hm hc253
                          refine WP.skip ?_
                          refine WQ.then_normal (hK251 _ _ _ ?_)
                          refine WP.seq (fun K255 hK255 => ?_)
                          refine WP.region ?_
                          refine WL.runk 1 [4] [(4, .bool true)] (by kernel_rfl) ?_
                          refine WL.nil ?_
                          refine WQ.then_normal (hK255 _ _ _ ?_)
                          refine WP.ret ?_
                          obtain rfl := Option.some.inj hm
                          exact WQ.ret1 _ rfl rfl ⟨rfl, hb244⟩

theorem c_40 (n : Nat) (code_0 : List Int) (a0' : Option Addr) (c0' : Nat) (more_1 : List Int) (a1' : Option Addr) (c1' : Nat) (w : World) {r : Bool} (hm : m_laws_a2Long n code_0 more_1 = some r) (h0 : Rd fU8.ty w a0' code_0) (hle0 : code_0.length ≤ c0') (h1 : Rd fU8.ty w a1' more_1) (hle1 : more_1.length ≤ c1') :
    CallV Try.prog 40 #[.slice a0' code_0.length c0', .slice a1' more_1.length c1'] w (fun v w' => v = .bool r ∧ Ext w w') := by
  unfold m_laws_a2Long at hm
  refine CallV.enter Try.func40 rfl (by kernel_rfl) Try.ntmps40 (env := [(0, .slice a0' code_0.length c0'), (1, .slice a1' more_1.length c1')]) ⟨rfl, rfl, trivial⟩ ?_
  refine WP.seq (fun K1 hK1 => ?_)
  refine WP.region ?_
  refine WL.runk 1 [0, 1] [(0, .slice a0' code_0.length c0'), (1, .slice a1' more_1.length c1')] (by kernel_rfl) ?_
  refine WL.nil ?_
  refine WQ.then_normal (hK1 _ _ _ ?_)
  refine WP.seq (fun K2 hK2 => ?_)
  obtain ⟨x4, hx5, hm⟩ := bindE hm
  refine WP.cut (fun env' w' => env' = [(4, .bool x4)] ∧ Ext w w' ∧ w.heap.size ≤ w'.heap.size ∧ SH w' w.heap.size []) ?_ ?_
  · have hm := hx5; clear hx5
    refine WP.region ?_
    refine WL.runk 4 [1, 8] [(1, .slice a1' more_1.length c1'), (8, .bool (decide ((code_0.length : Int) > 3000)))] (by kernel_rfl) ?_
    refine WL.case (decide ((code_0.length : Int) > 3000)) [8] ⟨rfl, trivial⟩ (fun hc6 => ?_) (fun hc6 => ?_)
    · have hm := iteT hm hc6
      refine WL.runk 5 [4] [(4, .bool true)] (by kernel_rfl) ?_
      refine WL.nil ?_
      obtain rfl := Option.some.inj hm
      exact WQ.post' ⟨rfl, (Ext.refl w), (Nat.le_refl _), (SH.nil _ _)⟩ ⟨rfl, trivial⟩
    · have hm := iteF hm hc6
      refine WL.runk 5 [4] [(4, .bool (decide ((more_1.length : Int) > 3000)))] (by kernel_rfl) ?_
      refine WL.nil ?_
      obtain rfl := Option.some.inj hm
      exact WQ.post' ⟨rfl, (Ext.refl w), (Nat.le_refl _), (SH.nil _ _)⟩ ⟨rfl, trivial⟩
  · clear hx5
    rintro _ w7 ⟨rfl, hb8, hL9, hS10⟩
    refine WQ.then_normal (hK2 _ _ _ ?_)
    refine WP.ret ?_
    obtain rfl := Option.some.inj hm
    exact WQ.ret1 _ rfl rfl ⟨rfl, hb8⟩

theorem c_84 (n : Nat) (s_0_code : List Int) (a0_code' : Option Addr) (c0_code' : Nat) (s_0_at_ : Int) (s_0_seed : Int) (b0' : Nat) (w : World) (w0 : World) (B : Nat) (L : List Asrt) {r : Int × Int × Int} (hm : m_spec_l00Src_next n s_0_code s_0_at_ s_0_seed = some r) (hE0 : Ext w0 w) (hW : w0.heap.size ≤ B) (hL : B ≤ w.heap.size) (h0_code : Rd fU8.ty w0 a0_code' s_0_code) (hle0_code : s_0_code.length ≤ c0_code') (hS : SH w B (aBox 77 b0' [.slice a0_code' s_0_code.length c0_code', .int .i64 s_0_at_, .int .u64 s_0_seed] :: L)) :
    CallV Try.prog 84 #[.pointer (some ⟨b0', 0, none⟩)] w (fun v w' => v = .int .i64 r.1 ∧ Below B w w' ∧ SH w' B (aBox 77 b0' [.slice a0_code' s_0_code.length c0_code', .int .i64 r.2.1, .int .u64 r.2.2] :: L)) := by
  unfold m_spec_l00Src_next at hm
  refine CallV.enter Try.func84 rfl (by kernel_rfl) Try.ntmps84 (env := [(0, .pointer (some ⟨b0', 0, none⟩))]) ⟨rfl, trivial⟩ ?_
  refine WP.seq (fun K1 hK1 => ?_)
  refine WP.region ?_
  refine WL.runk 1 [0] [(0, .pointer (some ⟨b0', 0, none⟩))] (by kernel_rfl) ?_
  refine WL.nil ?_
  refine WQ.then_normal (hK1 _ _ _ ?_)
  refine WP.seq (fun K2 hK2 => ?_)
  refine WP.region ?_
  refine WL.runk 1 [0, 3] [(0, .pointer (some ⟨b0', 0, none⟩)), (3, .int .i64 0)] (by kernel_rfl) ?_
  refine WL.nil ?_
  refine WQ.then_normal (hK2 _ _ _ ?_)
  refine WP.seq (fun K3 hK3 => ?_)
  refine WP.seq (fun K4 hK4 => ?_)
  refine WP.quiet (by kernel_rfl) (by kernel_rfl) ?_
  refine QL.step1 rfl (env' := [(0, .pointer (some ⟨b0', 0, none⟩)), (3, .int .i64 0), (4, .pointer (some ⟨b0', 0, none⟩))]) (fun _ => by kernel_rfl) ?_
  refine QL.step1 rfl (env' := [(0, .pointer (some ⟨b0', 0, none⟩)), (3, .int .i64 0), (4, .pointer (some ⟨b0', 0, none⟩)), (5, .pointer (some ⟨b0', 0, none⟩))]) (fun _ => by kernel_rfl) ?_
  refine QL.sub [(0, .pointer (some ⟨b0', 0, none⟩)), (3, .int .i64 0), (5, .pointer (some ⟨b0', 0, none⟩))] ⟨rfl, rfl, rfl, trivial⟩ ?_
  refine QL.step1 rfl (env' := [(0, .pointer (some ⟨b0', 0, none⟩)), (3, .int .i64 0), (5, .pointer (some ⟨b0', 0, none⟩)), (6, .pointer (some ⟨b0', 1, none⟩))]) (fun _ => by kernel_rfl) ?_
  refine QL.sub [(0, .pointer (some ⟨b0', 0, none⟩)), (3, .int .i64 0), (6, .pointer (some ⟨b0', 1, none⟩))] ⟨rfl, rfl, rfl, trivial⟩ ?_
  refine QL.st (.int .i64 s_0_at_) (ST.load (cell_ext (SH.boxAt (SH.front 0 hS) 1 _ rfl)) rfl rfl Try.underlying3 rfl) rfl rfl rfl ?_
  refine QL.step1 rfl (env' := [(0, .pointer (some ⟨b0', 0, none⟩)), (3, .int .i64 0), (6, .pointer (some ⟨b0', 1, none⟩)), (7, .int .i64 s_0_at_), (8, .pointer (some ⟨b0', 0, none⟩))]) (fun _ => by kernel_rfl) ?_
  refine QL.sub [(0, .pointer (some ⟨b0', 0, none⟩)), (3, .int .i64 0), (7, .int .i64 s_0_at_), (8, .pointer (some ⟨b0', 0, none⟩))] ⟨rfl, rfl, rfl, rfl, trivial⟩ ?_
  refine QL.step1 rfl (env' := [(0, .pointer (some ⟨b0', 0, none⟩)), (3, .int .i64 0), (7, .int .i64 s_0_at_), (8, .pointer (some ⟨b0', 0, none⟩)), (9, .pointer (some ⟨b0', 0, none⟩))]) (fun _ => by kernel_rfl) ?_
  refine QL.sub [(0, .pointer (some ⟨b0', 0, none⟩)), (3, .int .i64 0), (7, .int .i64 s_0_at_), (9, .pointer (some ⟨b0', 0, none⟩))] ⟨rfl, rfl, rfl, rfl, trivial⟩ ?_
  refine QL.step1 rfl (env' := [(0, .pointer (some ⟨b0', 0, none⟩)), (3, .int .i64 0), (7, .int .i64 s_0_at_), (9, .pointer (some ⟨b0', 0, none⟩)), (10, .pointer (some ⟨b0', 0, none⟩))]) (fun _ => by kernel_rfl) ?_
  refine QL.sub [(0, .pointer (some ⟨b0', 0, none⟩)), (3, .int .i64 0), (7, .int .i64 s_0_at_), (10, .pointer (some ⟨b0', 0, none⟩))] ⟨rfl, rfl, rfl, rfl, trivial⟩ ?_
  refine QL.st (.slice a0_code' s_0_code.length c0_code') (ST.load (cell_ext (SH.boxAt (SH.front 0 hS) 0 _ rfl)) rfl rfl Try.underlying46 rfl) rfl rfl rfl ?_
  refine QL.step1 rfl (env' := [(0, .pointer (some ⟨b0', 0, none⟩)), (3, .int .i64 0), (7, .int .i64 s_0_at_), (10, .pointer (some ⟨b0', 0, none⟩)), (11, .slice a0_code' s_0_code.length c0_code'), (12, .int .i64 (s_0_code.length : Int))]) (fun _ => by kernel_rfl) ?_
  refine QL.sub [(0, .pointer (some ⟨b0', 0, none⟩)), (3, .int .i64 0), (7, .int .i64 s_0_at_), (12, .int .i64 (s_0_code.length : Int))] ⟨rfl, rfl, rfl, rfl, trivial⟩ ?_
  refine QL.step1 rfl (env' := [(0, .pointer (some ⟨b0', 0, none⟩)), (3, .int .i64 0), (7, .int .i64 s_0_at_), (12, .int .i64 (s_0_code.length : Int)), (13, .bool (decide (s_0_at_ < (s_0_code.length : Int))))]) (fun _ => by kernel_rfl) ?_
  refine QL.sub [(0, .pointer (some ⟨b0', 0, none⟩)), (3, .int .i64 0), (13, .bool (decide (s_0_at_ < (s_0_code.length : Int))))] ⟨rfl, rfl, rfl, trivial⟩ ?_
  refine QL.sub [(0, .pointer (some ⟨b0', 0, none⟩)), (3, .int .i64 0), (13, .bool (decide (s_0_at_ < (s_0_code.length : Int))))] ⟨rfl, rfl, rfl, trivial⟩ ?_
  refine QL.nil ?_
  intro w5 hE6
  have hb7 : Below B w w5 := Below.trans (Below.refl _ _) (Below.mono hE6 hL)
  have hL8 : B ≤ w5.heap.size := Nat.le_trans hL hE6.size
  have hS9 : SH w5 B (aBox 77 b0' [.slice a0_code' s_0_code.length c0_code', .int .i64 s_0_at_, .int .u64 s_0_seed] :: L) := SH.ext hS hE6
  refine WQ.then_normal (hK4 _ _ _ ?_)
  obtain ⟨x18, hx19, hm⟩ := bindE hm
  refine WP.cut (fun env' w' => env' = [(0, .pointer (some ⟨b0', 0, none⟩)), (3, .int .i64 x18)] ∧ Below B w w' ∧ B ≤ w'.heap.size ∧ SH w' B (aBox 77 b0' [.slice a0_code' s_0_code.length c0_code', .int .i64 s_0_at_, .int .u64 s_0_seed] :: L)) ?_ ?_
  · have hm := hx19; clear hx19
    refine WP.cond (decide (s_0_at_ < (s_0_code.length : Int))) rfl rfl (fun hc10 => ?_) (fun hc10 => ?_)
    · have hm := iteT hm hc10
      refine WP.quiet (by kernel_rfl) (by kernel_rfl) ?_
      refine QL.step1 rfl (env' := [(0, .pointer (some ⟨b0', 0, none⟩)), (3, .int .i64 0), (13, .bool (decide (s_0_at_ < (s_0_code.length : Int)))), (14, .pointer (some ⟨b0', 0, none⟩))]) (fun _ => by kernel_rfl) ?_
      refine QL.sub [(0, .pointer (some ⟨b0', 0, none⟩)), (14, .pointer (some ⟨b0', 0, none⟩))] ⟨rfl, rfl, trivial⟩ ?_
      refine QL.step1 rfl (env' := [(0, .pointer (some ⟨b0', 0, none⟩)), (14, .pointer (some ⟨b0', 0, none⟩)), (15, .pointer (some ⟨b0', 0, none⟩))]) (fun _ => by kernel_rfl) ?_
      refine QL.sub [(0, .pointer (some ⟨b0', 0, none⟩)), (15, .pointer (some ⟨b0', 0, none⟩))] ⟨rfl, rfl, trivial⟩ ?_
      refine QL.step1 rfl (env' := [(0, .pointer (some ⟨b0', 0, none⟩)), (15, .pointer (some ⟨b0', 0, none⟩)), (16, .pointer (some ⟨b0', 0, none⟩))]) (fun _ => by kernel_rfl) ?_
      refine QL.sub [(0, .pointer (some ⟨b0', 0, none⟩)), (16, .pointer (some ⟨b0', 0, none⟩))] ⟨rfl, rfl, trivial⟩ ?_
      refine QL.st (.slice a0_code' s_0_code.length c0_code') (ST.load (cell_ext (SH.boxAt (SH.front 0 hS9) 0 _ rfl)) rfl rfl Try.underlying46 rfl) rfl rfl rfl ?_
      refine QL.step1 rfl (env' := [(0, .pointer (some ⟨b0', 0, none⟩)), (16, .pointer (some ⟨b0', 0, none⟩)), (17, .slice a0_code' s_0_code.length c0_code'), (18, .pointer (some ⟨b0', 0, none⟩))]) (fun _ => by kernel_rfl) ?_
      refine QL.sub [(0, .pointer (some ⟨b0', 0, none⟩)), (17, .slice a0_code' s_0_code.length c0_code'), (18, .pointer (some ⟨b0', 0, none⟩))] ⟨rfl, rfl, rfl, trivial⟩ ?_
      refine QL.step1 rfl (env' := [(0, .pointer (some ⟨b0', 0, none⟩)), (17, .slice a0_code' s_0_code.length c0_code'), (18, .pointer (some ⟨b0', 0, none⟩)), (19, .pointer (some ⟨b0', 0, none⟩))]) (fun _ => by kernel_rfl) ?_
      refine QL.sub [(0, .pointer (some ⟨b0', 0, none⟩)), (17, .slice a0_code' s_0_code.length c0_code'), (19, .pointer (some ⟨b0', 0, none⟩))] ⟨rfl, rfl, rfl, trivial⟩ ?_
      refine QL.step1 rfl (env' := [(0, .pointer (some ⟨b0', 0, none⟩)), (17, .slice a0_code' s_0_code.length c0_code'), (19, .pointer (some ⟨b0', 0, none⟩)), (20, .pointer (some ⟨b0', 1, none⟩))]) (fun _ => by kernel_rfl) ?_
      refine QL.sub [(0, .pointer (some ⟨b0', 0, none⟩)), (17, .slice a0_code' s_0_code.length c0_code'), (20, .pointer (some ⟨b0', 1, none⟩))] ⟨rfl, rfl, rfl, trivial⟩ ?_
      refine QL.st (.int .i64 s_0_at_) (ST.load (cell_ext (SH.boxAt (SH.front 0 hS9) 1 _ rfl)) rfl rfl Try.underlying3 rfl) rfl rfl rfl ?_
      obtain ⟨x20, hx21, hm⟩ := bindE hm
      refine QL.st (.pointer (some (at_ a0_code' (Int.toNat s_0_at_ * 1)))) (ST.index (T := fU8.ty) (xs := s_0_code) (Rd.below h0_code (Below.trans hE0 (Below.mono hb7 hW))) hx21 rfl rfl rfl Try.underlying46 (info5).1 (info5).2.1) rfl rfl rfl ?_
      refine QL.st (.int .u8 x20) (ST.load (cell_ext (Rd.flat (F := fU8) (Rd.below h0_code (Below.trans hE0 (Below.mono hb7 hW))) hx21 0 rfl)) rfl rfl Try.underlying5 rfl) rfl rfl rfl ?_
      refine QL.step1 rfl (env' := [(0, .pointer (some ⟨b0', 0, none⟩)), (17, .slice a0_code' s_0_code.length c0_code'), (20, .pointer (some ⟨b0', 1, none⟩)), (21, .int .i64 s_0_at_), (22, .pointer (some (at_ a0_code' (Int.toNat s_0_at_ * 1)))), (23, .int .u8 x20), (24, .int .i64 (wI64 x20))]) (fun _ => by kernel_rfl) ?_
      refine QL.sub [(0, .pointer (some ⟨b0', 0, none⟩)), (24, .int .i64 (wI64 x20))] ⟨rfl, rfl, trivial⟩ ?_
      refine QL.step1 rfl (env' := [(0, .pointer (some ⟨b0', 0, none⟩)), (24, .int .i64 (wI64 x20)), (3, .int .i64 (wI64 x20))]) (fun _ => by kernel_rfl) ?_
      refine QL.sub [(0, .pointer (some ⟨b0', 0, none⟩)), (3, .int .i64 (wI64 x20))] ⟨rfl, rfl, trivial⟩ ?_
      refine QL.sub [(0, .pointer (some ⟨b0', 0, none⟩)), (3, .int .i64 (wI64 x20))] ⟨rfl, rfl, trivial⟩ ?_
      refine QL.nil ?_
      intro w22 hE23
      have hb24 : Below B w w22 := Below.trans hb7 (Below.mono hE23 hL8)
      have hL25 : B ≤ w22.heap.size := Nat.le_trans hL8 hE23.size
      have hS26 : SH w22 B (aBox 77 b0' [.slice a0_code' s_0_code.length c0_code', .int .i64 s_0_at_, .int .u64 s_0_seed] :: L) := SH.ext hS9 hE23
      obtain rfl := Option.some.inj hm
      exact WQ.post' ⟨rfl, hb24, hL25, hS26⟩ ⟨rfl, rfl, trivial⟩
    · have hm := iteF hm hc10
      refine WP.skip ?_
      obtain rfl := Option.some.inj hm
      exact WQ.post' ⟨rfl, hb7, hL8, hS9⟩ ⟨rfl, rfl, trivial⟩
  · clear hx19
    rintro _ w27 ⟨rfl, hb28, hL29, hS30⟩
    refine WQ.then_normal (hK3 _ _ _ ?_)
    refine WP.seq (fun K31 hK31 => ?_)
    refine WP.region ?_
    refine WL.runk 3 [0, 3, 25, 27] [(0, .pointer (some ⟨b0', 0, none⟩)), (3, .int .i64 x18), (25, .pointer (some ⟨b0', 0, none⟩)), (27, .pointer (some ⟨b0', 1, none⟩))] (by kernel_rfl) ?_
    refine WL.st (.int .i64 s_0_at_) (ST.load (cell_ext (SH.boxAt (SH.front 0 hS30) 1 _ rfl)) rfl rfl Try.underlying3 rfl) rfl rfl rfl ?_
    refine WL.runk 3 [0, 3, 29, 31] [(0, .pointer (some ⟨b0', 0, none⟩)), (3, .int .i64 x18), (29, .int .i64 (wI64 (s_0_at_ + 1))), (31, .pointer (some ⟨b0', 1, none⟩))] (by kernel_rfl) ?_
    refine WL.boxStore 1 [.int .i64 (wI64 (s_0_at_ + 1))] [.slice a0_code' s_0_code.length c0_code', .int .i64 (wI64 (s_0_at_ + 1)), .int .u64 s_0_seed] (SH.front 0 hS30) hL29 rfl rfl rfl rfl rfl rfl rfl (info3).1 (info3).2.1 rfl rfl rfl ?_
    intro w32 hB33 hS34
    have hb35 : Below B w w32 := Below.trans hb28 hB33
    have hL36 : B ≤ w32.heap.size := Nat.le_trans hL29 hB33.size
    refine WL.sub [(0, .pointer (some ⟨b0', 0, none⟩)), (3, .int .i64 x18)] ⟨rfl, rfl, trivial⟩ ?_
    refine WL.nil ?_
    refine WQ.then_normal (hK31 _ _ _ ?_)
    refine WP.seq (fun K37 hK37 => ?_)
    refine WP.region ?_
    refine WL.runk 4 [0, 3, 32, 35] [(0, .pointer (some ⟨b0', 0, none⟩)), (3, .int .i64 x18), (32, .pointer (some ⟨b0', 0, none⟩)), (35, .pointer (some ⟨b0', 2, none⟩))] (by kernel_rfl) ?_
    refine WL.st (.int .u64 s_0_seed) (ST.load (cell_ext (SH.boxAt (SH.front 0 hS34) 2 _ rfl)) rfl rfl Try.underlying75 rfl) rfl rfl rfl ?_
    refine WL.runk 7 [0, 3, 41, 43] [(0, .pointer (some ⟨b0', 0, none⟩)), (3, .int .i64 x18), (41, .int .u64 (IntKind.u64.wrap ((IntKind.u64.wrap ((IntKind.u64.wrap (s_0_seed * 6364136223846793005)) + (IntKind.u64.wrap x18))) + 1442695040888963407))), (43, .pointer (some ⟨b0', 2, none⟩))] (by kernel_rfl) ?_
    refine WL.boxStore 2 [.int .u64 (IntKind.u64.wrap ((IntKind.u64.wrap ((IntKind.u64.wrap (s_0_seed * 6364136223846793005)) + (IntKind.u64.wrap x18))) + 1442695040888963407))] [.slice a0_code' s_0_code.length c0_code', .int .i64 (wI64 (s_0_at_ + 1)), .int .u64 (IntKind.u64.wrap ((IntKind.u64.wrap ((IntKind.u64.wrap (s_0_seed * 6364136223846793005)) + (IntKind.u64.wrap x18))) + 1442695040888963407))] (SH.front 0 hS34) hL36 rfl rfl rfl rfl rfl rfl rfl (info75).1 (info75).2.1 rfl rfl rfl ?_
    intro w38 hB39 hS40
    have hb41 : Below B w w38 := Below.trans hb35 hB39
    have hL42 : B ≤ w38.heap.size := Nat.le_trans hL36 hB39.size
    refine WL.sub [(0, .pointer (some ⟨b0', 0, none⟩)), (3, .int .i64 x18)] ⟨rfl, rfl, trivial⟩ ?_
    refine WL.nil ?_
    refine WQ.then_normal (hK37 _ _ _ ?_)
    refine WP.seq (fun K43 hK43 => ?_)
    refine WP.seq (fun K44 hK44 => ?_)
    refine WP.quiet (by kernel_rfl) (by kernel_rfl) ?_
    refine QL.step1 rfl (env' := [(0, .pointer (some ⟨b0', 0, none⟩)), (3, .int .i64 x18), (44, .pointer (some ⟨b0', 0, none⟩))]) (fun _ => by kernel_rfl) ?_
    refine QL.step1 rfl (env' := [(0, .pointer (some ⟨b0', 0, none⟩)), (3, .int .i64 x18), (44, .pointer (some ⟨b0', 0, none⟩)), (45, .pointer (some ⟨b0', 0, none⟩))]) (fun _ => by kernel_rfl) ?_
    refine QL.sub [(0, .pointer (some ⟨b0', 0, none⟩)), (3, .int .i64 x18), (45, .pointer (some ⟨b0', 0, none⟩))] ⟨rfl, rfl, rfl, trivial⟩ ?_
    refine QL.step1 rfl (env' := [(0, .pointer (some ⟨b0', 0, none⟩)), (3, .int .i64 x18), (45, .pointer (some ⟨b0', 0, none⟩)), (46, .pointer (some ⟨b0', 1, none⟩))]) (fun _ => by kernel_rfl) ?_
    refine QL.sub [(0, .pointer (some ⟨b0', 0, none⟩)), (3, .int .i64 x18), (46, .pointer (some ⟨b0', 1, none⟩))] ⟨rfl, rfl, rfl, trivial⟩ ?_
    refine QL.st (.int .i64 (wI64 (s_0_at_ + 1))) (ST.load (cell_ext (SH.boxAt (SH.front 0 hS40) 1 _ rfl)) rfl rfl Try.underlying3 rfl) rfl rfl rfl ?_
    refine QL.step1 rfl (env' := [(0, .pointer (some ⟨b0', 0, none⟩)), (3, .int .i64 x18), (46, .pointer (some ⟨b0', 1, none⟩)), (47, .int .i64 (wI64 (s_0_at_ + 1))), (48, .pointer (some ⟨b0', 0, none⟩))]) (fun _ => by kernel_rfl) ?_
    refine QL.sub [(0, .pointer (some ⟨b0', 0, none⟩)), (3, .int .i64 x18), (47, .int .i64 (wI64 (s_0_at_ + 1))), (48, .pointer (some ⟨b0', 0, none⟩))] ⟨rfl, rfl, rfl, rfl, trivial⟩ ?_
    refine QL.step1 rfl (env' := [(0, .pointer (some ⟨b0', 0, none⟩)), (3, .int .i64 x18), (47, .int .i64 (wI64 (s_0_at_ + 1))), (48, .pointer (some ⟨b0', 0, none⟩)), (49, .pointer (some ⟨b0', 0, none⟩))]) (fun _ => by kernel_rfl) ?_
    refine QL.sub [(0, .pointer (some ⟨b0', 0, none⟩)), (3, .int .i64 x18), (47, .int .i64 (wI64 (s_0_at_ + 1))), (49, .pointer (some ⟨b0', 0, none⟩))] ⟨rfl, rfl, rfl, rfl, trivial⟩ ?_
    refine QL.step1 rfl (env' := [(0, .pointer (some ⟨b0', 0, none⟩)), (3, .int .i64 x18), (47, .int .i64 (wI64 (s_0_at_ + 1))), (49, .pointer (some ⟨b0', 0, none⟩)), (50, .pointer (some ⟨b0', 0, none⟩))]) (fun _ => by kernel_rfl) ?_
    refine QL.sub [(0, .pointer (some ⟨b0', 0, none⟩)), (3, .int .i64 x18), (47, .int .i64 (wI64 (s_0_at_ + 1))), (50, .pointer (some ⟨b0', 0, none⟩))] ⟨rfl, rfl, rfl, rfl, trivial⟩ ?_
    refine QL.st (.slice a0_code' s_0_code.length c0_code') (ST.load (cell_ext (SH.boxAt (SH.front 0 hS40) 0 _ rfl)) rfl rfl Try.underlying46 rfl) rfl rfl rfl ?_
    refine QL.step1 rfl (env' := [(0, .pointer (some ⟨b0', 0, none⟩)), (3, .int .i64 x18), (47, .int .i64 (wI64 (s_0_at_ + 1))), (50, .pointer (some ⟨b0', 0, none⟩)), (51, .slice a0_code' s_0_code.length c0_code'), (52, .int .i64 (s_0_code.length : Int))]) (fun _ => by kernel_rfl) ?_
    refine QL.sub [(0, .pointer (some ⟨b0', 0, none⟩)), (3, .int .i64 x18), (47, .int .i64 (wI64 (s_0_at_ + 1))), (52, .int .i64 (s_0_code.length : Int))] ⟨rfl, rfl, rfl, rfl, trivial⟩ ?_
    refine QL.step1 rfl (env' := [(0, .pointer (some ⟨b0', 0, none⟩)), (3, .int .i64 x18), (47, .int .i64 (wI64 (s_0_at_ + 1))), (52, .int .i64 (s_0_code.length : Int)), (53, .bool (decide ((wI64 (s_0_at_ + 1)) ≤ (s_0_code.length : Int))))]) (fun _ => by kernel_rfl) ?_
    refine QL.sub [(0, .pointer (some ⟨b0', 0, none⟩)), (3, .int .i64 x18), (53, .bool (decide ((wI64 (s_0_at_ + 1)) ≤ (s_0_code.length : Int))))] ⟨rfl, rfl, rfl, trivial⟩ ?_
    refine QL.sub [(0, .pointer (some ⟨b0', 0, none⟩)), (3, .int .i64 x18), (53, .bool (decide ((wI64 (s_0_at_ + 1)) ≤ (s_0_code.length : Int))))] ⟨rfl, rfl, rfl, trivial⟩ ?_
    refine QL.nil ?_
    intro w45 hE46
    have hb47 : Below B w w45 := Below.trans hb41 (Below.mono hE46 hL42)
    have hL48 : B ≤ w45.heap.size := Nat.le_trans hL42 hE46.size
    have hS49 : SH w45 B (aBox 77 b0' [.slice a0_code' s_0_code.length c0_code', .int .i64 (wI64 (s_0_at_ + 1)), .int .u64 (IntKind.u64.wrap ((IntKind.u64.wrap ((IntKind.u64.wrap (s_0_seed * 6364136223846793005)) + (IntKind.u64.wrap x18))) + 1442695040888963407))] :: L) := SH.ext hS40 hE46
    refine WQ.then_normal (hK44 _ _ _ ?_)
    refine WP.cond (decide ((wI64 (s_0_at_ + 1)) ≤ (s_0_code.length : Int))) rfl rfl (fun hc50 => ?_) (fun hc50 => ?_)
    · have hm := iteT hm hc50
      refine WP.seq (fun K51 hK51 => ?_)
      refine WP.region ?_
      refine WL.runk 2 [2] [(2, .int .i64 x18)] (by kernel_rfl) ?_
      refine WL.nil ?_
      refine WQ.then_normal (hK51 _ _ _ ?_)
      refine WP.ret ?_
      refine WQ.then_ret ?_
      obtain rfl := Option.some.inj hm
      exact WQ.ret1 _ rfl rfl ⟨rfl, hb47, hS49⟩
    · have hm := iteF hm hc50
      refine WP.skip ?_
      refine WQ.then_normal (hK43 _ _ _ ?_)
      refine WP.seq (fun K52 hK52 => ?_)
      refine WP.region ?_
      refine WL.runk 3 [57] [(57, .pointer (some ⟨b0', 2, none⟩))] (by kernel_rfl) ?_
      refine WL.st (.int .u64 (IntKind.u64.wrap ((IntKind.u64.wrap ((IntKind.u64.wrap (s_0_seed * 6364136223846793005)) + (IntKind.u64.wrap x18))) + 1442695040888963407))) (ST.load (cell_ext (SH.boxAt (SH.front 0 hS49) 2 _ rfl)) rfl rfl Try.underlying75 rfl) rfl rfl rfl ?_
      obtain ⟨x53, hx54, hm⟩ := bindE hm
      refine WL.st (.int .u64 x53) (ST.shr (k := .u64) hx54 rfl rfl rfl) rfl rfl rfl ?_
      refine WL.runk 3 [2] [(2, .int .i64 (wI64 (iand .u64 x53 255)))] (by kernel_rfl) ?_
      refine WL.nil ?_
      refine WQ.then_normal (hK52 _ _ _ ?_)
      refine WP.ret ?_
      obtain rfl := Option.some.inj hm
      exact WQ.ret1 _ rfl rfl ⟨rfl, hb47, hS49⟩

theorem c_82 (n : Nat) (s_0_code : List Int) (a0_code' : Option Addr) (c0_code' : Nat) (s_0_at_ : Int) (s_0_seed : Int) (b0' : Nat) (n_1 : Int) (w : World) (w0 : World) (B : Nat) (L : List Asrt) {r : Int × Int × Int} (hm : m_spec_l00Src_pick n s_0_code s_0_at_ s_0_seed n_1 = some r) (hE0 : Ext w0 w) (hW : w0.heap.size ≤ B) (hL : B ≤ w.heap.size) (h0_code : Rd fU8.ty w0 a0_code' s_0_code) (hle0_code : s_0_code.length ≤ c0_code') (hS : SH w B (aBox 77 b0' [.slice a0_code' s_0_code.length c0_code', .int .i64 s_0_at_, .int .u64 s_0_seed] :: L)) :
    CallV Try.prog 82 #[.pointer (some ⟨b0', 0, none⟩), .int .i64 n_1] w (fun v w' => v = .int .i64 r.1 ∧ Below B w w' ∧ SH w' B (aBox 77 b0' [.slice a0_code' s_0_code.length c0_code', .int .i64 r.2.1, .int .u64 r.2.2] :: L)) := by
  unfold m_spec_l00Src_pick at hm
  refine CallV.enter Try.func82 rfl (by kernel_rfl) Try.ntmps82 (env := [(0, .pointer (some ⟨b0', 0, none⟩)), (1, .int .i64 n_1)]) ⟨rfl, rfl, trivial⟩ ?_
  refine WP.seq (fun K1 hK1 => ?_)
  refine WP.region ?_
  refine WL.runk 1 [0, 1] [(0, .pointer (some ⟨b0', 0, none⟩)), (1, .int .i64 n_1)] (by kernel_rfl) ?_
  refine WL.nil ?_
  refine WQ.then_normal (hK1 _ _ _ ?_)
  refine WP.seq (fun K2 hK2 => ?_)
  refine WP.seq (fun K3 hK3 => ?_)
  refine WP.region ?_
  refine WL.runk 2 [0, 1, 7] [(0, .pointer (some ⟨b0', 0, none⟩)), (1, .int .i64 n_1), (7, .bool (decide (n_1 ≤ 1)))] (by kernel_rfl) ?_
  refine WL.nil ?_
  refine WQ.then_normal (hK3 _ _ _ ?_)
  refine WP.cond (decide (n_1 ≤ 1)) rfl rfl (fun hc4 => ?_) (fun hc4 => ?_)
  · have hm := iteT hm hc4
    refine WP.seq (fun K5 hK5 => ?_)
    refine WP.region ?_
    refine WL.runk 1 [4] [(4, .int .i64 0)] (by kernel_rfl) ?_
    refine WL.nil ?_
    refine WQ.then_normal (hK5 _ _ _ ?_)
    refine WP.ret ?_
    refine WQ.then_ret ?_
    obtain rfl := Option.some.inj hm
    exact WQ.ret1 _ rfl rfl ⟨rfl, (Below.refl _ _), hS⟩
  · have hm := iteF hm hc4
    refine WP.skip ?_
    refine WQ.then_normal (hK2 _ _ _ ?_)
    refine WP.seq (fun K6 hK6 => ?_)
    refine WP.region ?_
    refine WL.runk 1 [0, 1, 8] [(0, .pointer (some ⟨b0', 0, none⟩)), (1, .int .i64 n_1), (8, .pointer (some ⟨b0', 0, none⟩))] (by kernel_rfl) ?_
    obtain ⟨x7, hx8, hm⟩ := bindE hm
    refine WL.call 84 #[.pointer (some ⟨b0', 0, none⟩)] rfl rfl (by kernel_rfl) (c_84 n s_0_code a0_code' c0_code' s_0_at_ s_0_seed b0' w w0 B (L) hx8 (Below.trans hE0 (Below.mono (Below.refl _ _) hW)) hW hL h0_code hle0_code hS) ?_
    rintro _ w9 ⟨rfl, hB13, hS12⟩
    refine ⟨_, rfl, ?_⟩
    have hb14 : Below B w w9 := Below.trans (Below.refl _ _) hB13
    have hL15 : B ≤ w9.heap.size := Nat.le_trans hL hB13.size
    refine WL.runk 1 [0, 1, 5] [(0, .pointer (some ⟨b0', 0, none⟩)), (1, .int .i64 n_1), (5, .int .i64 x7.1)] (by kernel_rfl) ?_
    refine WL.nil ?_
    refine WQ.then_normal (hK6 _ _ _ ?_)
    refine WP.seq (fun K16 hK16 => ?_)
    refine WP.seq (fun K17 hK17 => ?_)
    refine WP.region ?_
    refine WL.runk 2 [0, 1, 5, 11] [(0, .pointer (some ⟨b0', 0, none⟩)), (1, .int .i64 n_1), (5, .int .i64 x7.1), (11, .bool (decide (n_1 > 200)))] (by kernel_rfl) ?_
    refine WL.nil ?_
    refine WQ.then_normal (hK17 _ _ _ ?_)
    obtain ⟨x48, hx49, hm⟩ := bindE hm
    refine WP.cut (fun env' w' => env' = [(1, .int .i64 n_1), (5, .int .i64 x48.1)] ∧ Below B w w' ∧ B ≤ w'.heap.size ∧ SH w' B (aBox 77 b0' [.slice a0_code' s_0_code.length c0_code', .int .i64 x48.2.1, .int .u64 x48.2.2] :: L)) ?_ ?_
    · have hm := hx49; clear hx49
      refine WP.cond (decide (n_1 > 200)) rfl rfl (fun hc18 => ?_) (fun hc18 => ?_)
      · have hm := iteT hm hc18
        refine WP.region ?_
        refine WL.runk 3 [1, 13, 14] [(1, .int .i64 n_1), (13, .int .i64 (wI64 (x7.1 * 256))), (14, .pointer (some ⟨b0', 0, none⟩))] (by kernel_rfl) ?_
        obtain ⟨x50, hx51, hm⟩ := bindE hm
        refine WL.call 84 #[.pointer (some ⟨b0', 0, none⟩)] rfl rfl (by kernel_rfl) (c_84 n s_0_code a0_code' c0_code' x7.2.1 x7.2.2 b0' w9 w0 B (L) hx51 (Below.trans hE0 (Below.mono hb14 hW)) hW hL15 h0_code hle0_code hS12) ?_
        rintro _ w52 ⟨rfl, hB56, hS55⟩
        refine ⟨_, rfl, ?_⟩
        have hb57 : Below B w w52 := Below.trans hb14 hB56
        have hL58 : B ≤ w52.heap.size := Nat.le_trans hL15 hB56.size
        refine WL.runk 2 [1, 5] [(1, .int .i64 n_1), (5, .int .i64 (wI64 ((wI64 (x7.1 * 256)) + x50.1)))] (by kernel_rfl) ?_
        refine WL.nil ?_
        obtain rfl := Option.some.inj hm
        exact WQ.post' ⟨rfl, hb57, hL58, hS55⟩ ⟨rfl, rfl, trivial⟩
      · have hm := iteF hm hc18
        refine WP.skip ?_
        obtain rfl := Option.some.inj hm
        exact WQ.post' ⟨rfl, hb14, hL15, hS12⟩ ⟨rfl, rfl, trivial⟩
    · clear hx49
      rintro _ w59 ⟨rfl, hb60, hL61, hS62⟩
      refine WQ.then_normal (hK16 _ _ _ ?_)
      refine WP.seq (fun K63 hK63 => ?_)
      refine WP.region ?_
      refine WL.runk 2 [17, 18] [(17, .int .i64 x48.1), (18, .int .i64 n_1)] (by kernel_rfl) ?_
      obtain ⟨x64, hx65, hm⟩ := bindE hm
      refine WL.st (.int .i64 x64) (ST.rem (k := .i64) hx65 rfl rfl rfl) rfl rfl rfl ?_
      refine WL.runk 1 [4] [(4, .int .i64 x64)] (by kernel_rfl) ?_
      refine WL.nil ?_
      refine WQ.then_normal (hK63 _ _ _ ?_)
      refine WP.ret ?_
      obtain rfl := Option.some.inj hm
      exact WQ.ret1 _ rfl rfl ⟨rfl, hb60, hS62⟩

theorem c_83 (n : Nat) (s_0_code : List Int) (a0_code' : Option Addr) (c0_code' : Nat) (s_0_at_ : Int) (s_0_seed : Int) (b0' : Nat) (n_1 : Int) (w : World) (w0 : World) (B : Nat) (L : List Asrt) {r : Bool × Int × Int} (hm : m_spec_l00Src_one n s_0_code s_0_at_ s_0_seed n_1 = some r) (hE0 : Ext w0 w) (hW : w0.heap.size ≤ B) (hL : B ≤ w.heap.size) (h0_code : Rd fU8.ty w0 a0_code' s_0_code) (hle0_code : s_0_code.length ≤ c0_code') (hS : SH w B (aBox 77 b0' [.slice a0_code' s_0_code.length c0_code', .int .i64 s_0_at_, .int .u64 s_0_seed] :: L)) :
    CallV Try.prog 83 #[.pointer (some ⟨b0', 0, none⟩), .int .i64 n_1] w (fun v w' => v = .bool r.1 ∧ Below B w w' ∧ SH w' B (aBox 77 b0' [.slice a0_code' s_0_code.length c0_code', .int .i64 r.2.1, .int .u64 r.2.2] :: L)) := by
  unfold m_spec_l00Src_one at hm
  refine CallV.enter Try.func83 rfl (by kernel_rfl) Try.ntmps83 (env := [(0, .pointer (some ⟨b0', 0, none⟩)), (1, .int .i64 n_1)]) ⟨rfl, rfl, trivial⟩ ?_
  refine WP.seq (fun K1 hK1 => ?_)
  refine WP.region ?_
  refine WL.runk 1 [0, 1] [(0, .pointer (some ⟨b0', 0, none⟩)), (1, .int .i64 n_1)] (by kernel_rfl) ?_
  refine WL.nil ?_
  refine WQ.then_normal (hK1 _ _ _ ?_)
  refine WP.seq (fun K2 hK2 => ?_)
  refine WP.region ?_
  refine WL.runk 2 [5, 6] [(5, .pointer (some ⟨b0', 0, none⟩)), (6, .int .i64 n_1)] (by kernel_rfl) ?_
  obtain ⟨x3, hx4, hm⟩ := bindE hm
  refine WL.call 82 #[.pointer (some ⟨b0', 0, none⟩), .int .i64 n_1] rfl rfl (by kernel_rfl) (c_82 n s_0_code a0_code' c0_code' s_0_at_ s_0_seed b0' n_1 w w0 B (L) hx4 (Below.trans hE0 (Below.mono (Below.refl _ _) hW)) hW hL h0_code hle0_code hS) ?_
  rintro _ w5 ⟨rfl, hB9, hS8⟩
  refine ⟨_, rfl, ?_⟩
  have hb10 : Below B w w5 := Below.trans (Below.refl _ _) hB9
  have hL11 : B ≤ w5.heap.size := Nat.le_trans hL hB9.size
  refine WL.runk 2 [4] [(4, .bool (x3.1 == 0))] (by kernel_rfl) ?_
  refine WL.nil ?_
  refine WQ.then_normal (hK2 _ _ _ ?_)
  refine WP.ret ?_
  obtain rfl := Option.some.inj hm
  exact WQ.ret1 _ rfl rfl ⟨rfl, hb10, hS8⟩

end Go.Proofs.Ytoljnpoiclklpaa
